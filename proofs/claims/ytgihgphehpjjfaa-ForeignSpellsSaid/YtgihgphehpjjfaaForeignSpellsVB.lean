/- A part of the proof: lemmas and walks that the last text of the claim joins; no condition. -/
import Derived.Test.YtgihgphehpjjfaaForeignSpellsVA
import Derived.OrdersIn
import Derived.Laws.RangeString
import Derived.Laws.AppendOwn
import Derived.Laws.MakeOwn
import Derived.MapKept
set_option linter.unusedVariables false
set_option linter.unusedSimpArgs false
set_option maxHeartbeats 8000000
namespace Go.Vc
set_option autoImplicit false
inductive OpTo (P : Program) (a : Act) (w : World) (o : Oper) (R : Value → World → Prop) : Prop
  | val (v : Value) (w' : World) (h : (execOp a.eval o).run P w = .ok (.value v) w') (hr : R v w')
  | skip (w' : World) (h : (execOp a.eval o).run P w = .ok .skip w') (hr : R undef w')
  | call (f : FuncId) (args : Array Value) (h : (execOp a.eval o).run P w = .ok (.enter f args) w) (hc : Calls P f args w fun e w' => ∃ v, e = .returned v ∧ R v w')
  | round (l : Nat) (f : FuncId) (tmps : Array Value) (assign body : Code) (h : (execOp a.eval o).run P w = .ok (.round l f tmps assign body) w) (hc : RoundIn (fc none) 0 P l f tmps assign body w fun e w' => ∃ v, e = .returned v ∧ R v w')
theorem OpTo.mono {P a w o R R'} (h : OpTo P a w o R) (hR : ∀ v w', R v w' → R' v w') : OpTo P a w o R' := by
  cases h with
  | val v w' h hr => exact .val v w' h (hR _ _ hr)
  | skip w' h hr => exact .skip w' h (hR _ _ hr)
  | call f args h hc => exact .call f args h (hc.mono fun e w' ⟨v, h1, h2⟩ => ⟨v, h1, hR _ _ h2⟩)
  | round l f tmps assign body h hc => exact .round l f tmps assign body h (hc.mono fun e w' ⟨v, h1, h2⟩ => ⟨v, h1, hR _ _ h2⟩)
theorem calls_witness {P : Program} {f args w} {R : Ending → World → Prop} (h : Calls P f args w R) : ∃ e w', R e w' := by
  obtain ⟨e, w', _, hR, _⟩ := h []
  exact ⟨e, w', hR⟩
theorem callsIn_fc {ro : Option Nat} {n : Nat} {P : Program} {f : FuncId} {args : Array Value} {w : World} {R : Ending → World → Prop} : CallsIn (fc ro) n P f args w R ↔ Calls P f args w R := by
  have : CallsIn (fc ro) n P f args w R ↔ CallsIn Fence.wide n P f args w R := Iff.rfl
  rw [this, callsIn_wide]
theorem roundIn_fc {ro : Option Nat} {n : Nat} {P : Program} {l : Nat} {f : FuncId} {tmps : Array Value} {assign body : Code} {w : World} {R : Ending → World → Prop} :
    RoundIn (fc ro) n P l f tmps assign body w R ↔ RoundIn (fc none) 0 P l f tmps assign body w R := by
  constructor
  · rintro ⟨h1, h2⟩
    exact ⟨h1, fun c cs hr => h2 c cs (fun d hd => by cases hd)⟩
  · rintro ⟨h1, h2⟩
    exact ⟨h1, fun c cs hr => h2 c cs (fun d hd => by cases hd)⟩
theorem OpTo.wpIn {P a w o R} (h : OpTo P a w o R) (hnd : ∀ c, o.op ≠ .defer c) {ro : Option Nat} {next : Act → World → Prop} {Q : Exit → Act → World → Prop}
    (hn : ∀ v w', R v w' → next (a.put o.dst v) w') : o.wpIn (fc ro) 0 P a w next Q := by
  refine ⟨fun _ _ => trivial, ?_⟩
  rw [Oper.semAt_eq _ _ _ hnd]
  cases h with
  | val v w' h hr => rw [h]; exact hn _ _ hr
  | skip w' h hr => rw [h]; exact hn _ _ hr
  | call f args h hc =>
    rw [h]
    refine ⟨fun h => by simp [fc, Fence.wide] at h, callsIn_fc.2 (hc.mono fun e w' ⟨v, h1, h2⟩ => ?_)⟩
    subst h1
    exact hn _ _ h2
  | round l f tmps assign body h hc =>
    rw [h]
    refine ⟨fun h => by simp [fc, Fence.wide] at h, roundIn_fc.2 (hc.mono fun e w' ⟨v, h1, h2⟩ => ?_)⟩
    subst h1
    exact hn _ _ h2
def Quiet (r : Mem) (β : Bind) (Φ : Phi) (w : World) (sv : SV) (v : Value) (w' : World) : Prop :=
  ∃ r', Rel r' β sv v ∧ r.le r' ∧ MemSat r' β Φ w' ∧ Hid r β Φ w r' β Φ w'
theorem Quiet.same {r β Φ w sv v} (m : MemSat r β Φ w) (h : Rel r β sv v) : Quiet r β Φ w sv v w := ⟨r, h, Mem.le_refl r, m, Hid.refl ..⟩
theorem appK_sound {l1 l2 : List SV} : ∀ {K : List SV → Prop}, appK l1 l2 K → K (l1 ++ l2) := by
  induction l1 with
  | nil => intro K h; exact h
  | cons x r ih => intro K h; exact ih h
theorem RelL.append {r β l1 l2 v1 v2} (h1 : RelL r β l1 v1) (h2 : RelL r β l2 v2) : RelL r β (l1 ++ l2) (v1 ++ v2) := by
  induction l1 generalizing v1 with
  | nil =>
    have : v1 = [] := List.length_eq_zero_iff.1 (by simpa using h1.1)
    subst this; exact h2
  | cons x l ih =>
    obtain ⟨v, us, rfl, hv, hus⟩ := h1.uncons
    exact RelL.cons hv (ih hus)
theorem memNil {r β w Φ} (m : MemSat r β Φ w) (β' : Bind) : MemSat r β' [] w :=
  ⟨m.vis, fun id ch h => by simp [Phi.get] at h, fun id ch b h => by simp [Phi.get] at h, fun id id' ch ch' b h => by simp [Phi.get] at h⟩
theorem plainI0_rel {r r2 β β2 sv v} (h : Rel r β sv v) (hp : sv.plainI0 = true) (hown : ∀ j, sv = .own j → β2 j = β j) : Rel r2 β2 sv v := by
  by_cases hx : ∃ j, sv = .own j
  · obtain ⟨j, rfl⟩ := hx
    cases h with
    | own h => rw [← hown j rfl] at h ⊢; exact .own h
  · have : sv.plain0 = true := by cases sv <;> first | exact hp | exact (hx ⟨_, rfl⟩).elim
    exact plain0_rel h this _ _
structure NewIn (r : Mem) (β' : Bind) (Φ' : Phi) (w' : World) (r2 : Mem) (b0 : Nat) : Prop where
  mem : MemSat r β' Φ' w'
  pl : plainP Φ' = true
  new : ∀ j ch b, Phi.get Φ' j = some ch → ch.blk (β' j) = some b → b0 ≤ b
  has : ∀ b, b0 ≤ b → r2 b = frz (fun _ => true) r β' Φ' w' b
theorem rd_new {r β' Φ' w' r2 b0 j} (hn : NewIn r β' Φ' w' r2 b0) {τ : Ty} {l : List τ.T} (hg : Phi.get Φ' j = some (.own τ l)) (β2 : Bind) : Rel r2 β2 (.rd τ l) (β' j) := by
  obtain ⟨τ', l', e, hp⟩ := plainP_get hn.pl hg
  cases e
  refine rd_plain (own_frz (q := fun _ => true) hn.mem rfl hg β') hp fun b off n cap o hv h0 ho => ?_
  rw [hn.has b ?_]
  · exact ho
  · have hs := hn.mem.rows hg
    cases hs with
    | own hs =>
      obtain ⟨a, cap', he, hc, _⟩ := hs.slice
      have hc0 : cap ≠ 0 := by
        rw [he] at hv
        simp only [Value.slice.injEq] at hv
        omega
      exact hn.new j _ b hg (blk_own hv hc0)
theorem ln0_plain {Φ' : Phi} {x : SV} {K : SV → Prop} (h : ln0 Φ' x K) (hp : x.plainI0 = true) :
    ∃ y, K y ∧ ∀ r β' w' r2 b0 v β2, NewIn r β' Φ' w' r2 b0 → Rel r β' x v → Rel r2 β2 y v := by
  by_cases hx : ∃ id, x = .own id
  · obtain ⟨id, rfl⟩ := hx
    simp only [ln0] at h
    split at h
    · rename_i τ l hg
      refine ⟨_, h, fun r β' w' r2 w v β2 hn hr => ?_⟩
      cases hr
      exact rd_new hn hg β2
    · exact h.elim
  · have h' : K x := by cases x <;> first | exact h | exact (hx ⟨_, rfl⟩).elim
    have hp' : x.plain0 = true := by cases x <;> first | exact hp | exact (hx ⟨_, rfl⟩).elim
    exact ⟨x, h', fun r β' w' r2 w v β2 _ hr => plain0_rel hr hp' _ _⟩
theorem lift_listP {D : SV → (SV → Prop) → Prop} {DL : List SV → (List SV → Prop) → Prop} (h0 : ∀ K, DL [] K → K []) (h1 : ∀ x r K, DL (x :: r) K → D x fun y => DL r fun l => K (y :: l))
    {R : SV → SV → Prop} {p : SV → Bool} (hD : ∀ x K, p x = true → D x K → ∃ y, K y ∧ R x y) : ∀ (xs : List SV) (K : List SV → Prop), (∀ (i : Nat) x, xs[i]? = some x → p x = true) → DL xs K →
      ∃ ys, K ys ∧ ys.length = xs.length ∧ ∀ (i : Nat) y, ys[i]? = some y → ∃ x, xs[i]? = some x ∧ R x y := by
  intro xs
  induction xs with
  | nil => intro K _ h; exact ⟨[], h0 K h, rfl, fun i y q => by simp at q⟩
  | cons x r ih =>
    intro K hp h
    obtain ⟨y, h, hr⟩ := hD _ _ (hp 0 x rfl) (h1 x r K h)
    obtain ⟨l, hk, hl, hh⟩ := ih _ (fun i z hz => hp (i + 1) z (by simpa using hz)) h
    refine ⟨y :: l, hk, by simp [hl], fun i z q => ?_⟩
    cases i with
    | zero => simp at q; subst q; exact ⟨x, rfl, hr⟩
    | succ i => obtain ⟨x', q1, q2⟩ := hh i z (by simpa using q); exact ⟨x', by simpa using q1, q2⟩
theorem plainI0L_get {l : List SV} (h : plainI0L l = true) (i : Nat) (sv : SV) (hi : l[i]? = some sv) : sv.plainI0 = true := by
  induction l generalizing i with
  | nil => simp at hi
  | cons x r ih =>
    simp only [plainI0L, Bool.and_eq_true] at h
    cases i with
    | zero => simp at hi; subst hi; exact h.1
    | succ i => simp at hi; exact ih h.2 i hi
theorem plainI1L_get {l : List SV} (h : plainI1L l = true) (i : Nat) (sv : SV) (hi : l[i]? = some sv) : sv.plainI1 = true := by
  induction l generalizing i with
  | nil => simp at hi
  | cons x r ih =>
    simp only [plainI1L, Bool.and_eq_true] at h
    cases i with
    | zero => simp at hi; subst hi; exact h.1
    | succ i => simp at hi; exact ih h.2 i hi
theorem ln1_plain {Φ' : Phi} {x : SV} {K : SV → Prop} (h : ln1 Φ' x K) (hp : x.plainI1 = true) :
    ∃ y, K y ∧ ∀ r β' w' r2 b0 v β2, NewIn r β' Φ' w' r2 b0 → Rel r β' x v → Rel r2 β2 y v := by
  by_cases hx : ∃ l, x = .agg l
  · obtain ⟨l, rfl⟩ := hx
    obtain ⟨ys, hk, hl, hh⟩ := lift_listP (D := ln0 Φ') (DL := ln0L Φ') (fun _ h => h) (fun _ _ _ h => h) (fun _ _ hp h => ln0_plain h hp) l _ (plainI0L_get hp) h
    refine ⟨_, hk, fun r β' w' r2 b0 v β2 hn hv => ?_⟩
    obtain ⟨cs, rfl, hcs⟩ := hv.aggL_inv
    exact .aggL (relL_of hl hh (fun x y v hR hx => hR r β' w' r2 b0 v β2 hn hx) hcs)
  · have h' : ln0 Φ' x K := by cases x <;> first | exact h | exact (hx ⟨_, rfl⟩).elim
    have hp' : x.plainI0 = true := by cases x <;> first | exact hp | exact (hx ⟨_, rfl⟩).elim
    exact ln0_plain h' hp'
theorem ln2_plain {Φ' : Phi} {x : SV} {K : SV → Prop} (h : ln2 Φ' x K) (hp : x.plainI = true) :
    ∃ y, K y ∧ ∀ r β' w' r2 b0 v β2, NewIn r β' Φ' w' r2 b0 → Rel r β' x v → Rel r2 β2 y v := by
  by_cases hx : ∃ l, x = .tup l
  · obtain ⟨l, rfl⟩ := hx
    obtain ⟨ys, hk, hl, hh⟩ := lift_listP (D := ln1 Φ') (DL := lendK Φ') (fun _ h => h) (fun _ _ _ h => h) (fun _ _ hp h => ln1_plain h hp) l _ (plainI1L_get hp) h
    refine ⟨_, hk, fun r β' w' r2 b0 v β2 hn hv => ?_⟩
    obtain ⟨cs, rfl, hcs⟩ := hv.tupL_inv
    exact .tupL (relL_of hl hh (fun x y v hR hx => hR r β' w' r2 b0 v β2 hn hx) hcs)
  · have h' : ln1 Φ' x K := by cases x <;> first | exact h | exact (hx ⟨_, rfl⟩).elim
    have hp' : x.plainI1 = true := by cases x <;> first | exact hp | exact (hx ⟨_, rfl⟩).elim
    exact ln1_plain h' hp'
theorem call_sound {B : Base} {Φ f args g} {K : SV → Prop} (h : callK B Φ f args g K) :
    ∃ sv, K sv ∧ ((∀ p, g p → p) → ∀ r β w0 vs a o, B.G r → MemSat r β Φ w0 → RelL r β args vs →
      (∀ w, (execOp a.eval o).run B.P w = (callFunc f vs.toArray).run B.P w) → OpTo B.P a w0 o (Quiet r β Φ w0 sv)) := by
  obtain ⟨largs, hk, hl⟩ := lendK_sound h
  cases hk with
  | plain pl hp k =>
    rename_i pre res fn
    refine ⟨res, k, fun hv r β w0 vs a o hG m hrel hrun => .call f vs.toArray (by rw [hrun]; exact fn.call _ _) ?_⟩
    refine (fn.ok (hv _ hp).h (frz (fun _ => true) r β Φ w0) β w0 vs (B.mono _ _ (frz_le m) hG) (frz_mem m β) (hl r β w0 vs m hrel)).mono ?_
    rintro e w' ⟨v, sv, r', β', Φ', he, ⟨rfl, rfl⟩, hr, m', hle, hid⟩
    obtain ⟨q1, q2⟩ := back0 m hle m' hid r (Mem.le_refl r) (Mem.le_trans (frz_le m) hle) (fun id ch b _ h1 _ h3 => m.sep _ _ _ h1 h3)
    exact ⟨v, he, r, plain_rel hr pl _ _, Mem.le_refl r, q1, q2⟩
  | mk pl hp k =>
    rename_i pre res fn
    refine ⟨res, k, fun hv r β w0 vs a o hG m hrel hrun => .call f vs.toArray (by rw [hrun]; exact fn.call _ _) ?_⟩
    refine (fn.ok (hv _ hp).h r β w0 vs hG (memNil m β) hrel).mono ?_
    rintro e w' ⟨v, sv, r', β', Φ', he, ⟨rfl, rfl⟩, hr, m', hle, hid⟩
    obtain ⟨q1, q2⟩ := back0 (q := fun _ => false) m (by rw [frz_none]; exact hle) m' (by rw [frz_none]; exact hid) r' hle (Mem.le_refl _) (fun _ _ _ h => by cases h)
    exact ⟨v, he, r', hr.pure pl β, hle, q1, q2⟩
  | nwl pl hp k =>
    rename_i pre res Φ' fn
    simp only [Bool.and_eq_true] at pl
    obtain ⟨sv, hk, hsv⟩ := ln2_plain k pl.1
    refine ⟨sv, hk, fun hv r β w0 vs a o hG m hrel hrun => .call f vs.toArray (by rw [hrun]; exact fn.call _ _) ?_⟩
    refine (fn.ok (hv _ hp).h (frz (fun _ => true) r β Φ w0) β w0 vs (B.mono _ _ (frz_le m) hG) (frz_mem m β) (hl r β w0 vs m hrel)).mono ?_
    rintro e w' ⟨v, sv1, r', β', Φ1, he, ⟨rfl, rfl⟩, hr, m', hle, hid⟩
    obtain ⟨g1, g2, g3⟩ := post_frz (q := fun _ => true) hle m' hid
    obtain ⟨r2, hr2⟩ : ∃ r2 : Mem, r2 = fun b => if b < w0.heap.size then r b else frz (fun _ => true) r' β' Φ1 w' b := ⟨_, rfl⟩
    have h1 : r.le r2 := by
      intro b o hb
      rw [hr2]
      have := lt_of_get (m.vis _ _ hb)
      simp only [this, if_true]; exact hb
    have h2 : r2.le (frz (fun _ => true) r' β' Φ1 w') := by
      intro b o hb
      rw [hr2] at hb
      simp only at hb
      split at hb
      · exact g1 _ _ (frz_le m _ _ hb)
      · exact hb
    obtain ⟨q1, q2⟩ := back0 m g1 g2 g3 r2 h1 h2 (fun id ch b _ p1 _ p3 => by
      rw [hr2]
      simp only [blk_lt m p1 p3, if_true]
      exact m.sep _ _ _ p1 p3)
    have hnew : NewIn r' β' Φ1 w' r2 w0.heap.size := ⟨m', pl.2, fun j ch b p1 p2 => new_block hle m' hid p1 p2, fun b hb => by rw [hr2]; simp only [show ¬ b < w0.heap.size by omega, if_false]⟩
    exact ⟨v, he, r2, hsv r' β' w' r2 _ v β hnew hr, h1, q1, q2⟩
  | nw hp k =>
    rename_i pre res Φ' fn
    obtain ⟨sv, hk, hsv⟩ := ln2_sound k
    cases hpl : SV.okIds (fun _ => false) sv with
    | false => rw [hpl] at hk; exact hk.elim
    | true =>
    rw [hpl] at hk
    refine ⟨sv, hk, fun hv r β w0 vs a o hG m hrel hrun => .call f vs.toArray (by rw [hrun]; exact fn.call _ _) ?_⟩
    refine (fn.ok (hv _ hp).h r β w0 vs hG (memNil m β) hrel).mono ?_
    rintro e w' ⟨v, sv1, r', β', Φ1, he, ⟨rfl, rfl⟩, hr, m', hle, hid⟩
    obtain ⟨g1, g2, g3⟩ := post_frz (q := fun _ => true) hle m' hid
    obtain ⟨q1, q2⟩ := back0 (q := fun _ => false) m (by rw [frz_none]; exact g1) g2 (by rw [frz_none]; exact g3) _ g1 (Mem.le_refl _) (fun _ _ _ h => by cases h)
    exact ⟨v, he, _, (hsv r' β' w' v m' hr).pure hpl β, g1, q1, q2⟩
theorem evalL {a : Act} {xs : List Operand} {l : List SV} {r β} (h1 : l.length = xs.length) (h2 : ∀ (i : Nat) sv x, l[i]? = some sv → xs[i]? = some x → Rel r β sv (a.eval x)) : RelL r β l (xs.map a.eval) :=
  ⟨by simp [h1], fun i sv v q1 q2 => by
    rw [List.getElem?_map] at q2
    cases hx : xs[i]? with
    | none => rw [hx] at q2; cases q2
    | some x => rw [hx] at q2; simp at q2; subst q2; exact h2 i sv x q1 hx⟩
end Go.Vc

namespace Go.Vc
set_option autoImplicit false
theorem castK_sound {a b : Ty} {l : List a.T} {K : List b.T → Prop} (h : castK a b l K) : ∃ e : a = b, K (e ▸ l) := by
  unfold castK at h
  split at h
  · rename_i k k' l K
    cases hk : kEq k k' with
    | false => rw [hk] at h; exact h.elim
    | true =>
      rw [hk] at h
      obtain rfl := kEq_of hk
      exact ⟨rfl, h⟩
  · exact ⟨rfl, h⟩
  · exact ⟨rfl, h⟩
  · exact ⟨rfl, h⟩
  · exact ⟨rfl, h⟩
  · exact ⟨rfl, h⟩
  · split at h
    · rename_i hb
      have e := Ty.of_beq hb
      subst e
      exact ⟨rfl, h⟩
    · exact h.elim
def Entl (xs ys : List SV) : Prop :=
  ys.length = xs.length ∧ ∀ (i : Nat) x y, xs[i]? = some x → ys[i]? = some y → (∀ r β v, Rel r β x v → Rel r β y v) ∧ (x.one = true → y.one = true) ∧ (y.okIds (fun _ => false) = true)
theorem Entl.cons {x y xs ys} (h : (∀ r β v, Rel r β x v → Rel r β y v) ∧ (x.one = true → y.one = true) ∧ (y.okIds (fun _ => false) = true)) (hs : Entl xs ys) : Entl (x :: xs) (y :: ys) :=
  ⟨by simp [hs.1], fun i a b q1 q2 => by
    cases i with
    | zero => simp at q1 q2; subst q1; subst q2; exact h
    | succ i => exact hs.2 i a b (by simpa using q1) (by simpa using q2)⟩
theorem Entl.one {x y} (h : (∀ r β v, Rel r β x v → Rel r β y v) ∧ (x.one = true → y.one = true) ∧ (y.okIds (fun _ => false) = true)) : Entl [x] [y] := Entl.cons h ⟨rfl, fun i a b q => by simp at q⟩
theorem Entl.app {xs ys xs' ys'} (h : Entl xs ys) (h' : Entl xs' ys') : Entl (xs ++ xs') (ys ++ ys') :=
  ⟨by simp [h.1, h'.1], fun i a b q1 q2 => by
    rw [List.getElem?_append] at q1 q2
    rw [h.1] at q2
    split at q1
    · rename_i hlt
      rw [if_pos hlt] at q2
      exact h.2 i a b q1 q2
    · rename_i hlt
      rw [if_neg hlt] at q2
      exact h'.2 _ a b q1 q2⟩
def EntRows (τ : Ty) (rows : List (List SV)) (l : List τ.T) : Prop :=
  l.length = rows.length ∧ ∀ (i : Nat) row a, rows[i]? = some row → l[i]? = some a → Entl row (τ.enc a)
theorem Entl.relL {xs ys r β vs} (h : Entl xs ys) (hv : RelL r β xs vs) : RelL r β ys vs :=
  ⟨by rw [hv.1, h.1], fun i y v q1 q2 => by
    rcases Nat.lt_or_ge i xs.length with hi | hi
    · exact (h.2 i xs[i] y (List.getElem?_eq_getElem hi) q1).1 _ _ _ (hv.2 i _ v (List.getElem?_eq_getElem hi) q2)
    · have := h.1
      rw [List.getElem?_eq_none (by omega)] at q1; cases q1⟩
theorem EntRows.lits {τ rows l sz} (h : EntRows τ rows l) (hs : sz = τ.size) {r β v} (hv : Rel r β (.lits sz rows) v) : Rel r β (.rd τ l) v := by
  refine .rd ?_
  subst hs
  cases hv with
  | litsE => rw [show l = [] from List.length_eq_zero_iff.1 (by simpa using h.1)]; exact .litsE
  | lits hb hn hcap hrow ho hc hr =>
    have hlen : (l.map τ.enc).length = rows.length := by simp [h.1]
    have key : ∀ (i : Nat) (row : List SV), (l.map τ.enc)[i]? = some row → ∃ row0, rows[i]? = some row0 ∧ Entl row0 row := by
      intro i row hi
      rw [List.getElem?_map] at hi
      cases hq : l[i]? with
      | none => rw [hq] at hi; cases hi
      | some a =>
        rw [hq] at hi
        simp at hi
        subst hi
        have hlt : i < rows.length := by
          rcases Nat.lt_or_ge i l.length with h' | h'
          · rw [← h.1]; exact h'
          · rw [List.getElem?_eq_none h'] at hq; cases hq
        exact ⟨rows[i], List.getElem?_eq_getElem hlt, h.2 i _ a (List.getElem?_eq_getElem hlt) hq⟩
    have := Rel.lits (r := r) (β := β) (sz := τ.size) (rows := l.map τ.enc) hb (by rw [hlen]; exact hn) (by rw [hlen]; exact hcap)
      (fun i row hi => by obtain ⟨row0, g1, g2⟩ := key i row hi; rw [g2.1]; exact hrow _ _ g1)
      (fun i row j sv hi hj => by
        obtain ⟨row0, g1, g2⟩ := key i row hi
        have hjl : j < row0.length := by
          rcases Nat.lt_or_ge j row0.length with h' | h'
          · exact h'
          · rw [List.getElem?_eq_none (by rw [g2.1]; exact h')] at hj; cases hj
        exact (g2.2 j _ sv (List.getElem?_eq_getElem hjl) hj).2.1 (ho _ _ _ _ g1 (List.getElem?_eq_getElem hjl)))
      (by rw [hlen]; exact hc)
      (fun i row j sv v hi hj hcv => by
        obtain ⟨row0, g1, g2⟩ := key i row hi
        have hjl : j < row0.length := by
          rcases Nat.lt_or_ge j row0.length with h' | h'
          · exact h'
          · rw [List.getElem?_eq_none (by rw [g2.1]; exact h')] at hj; cases hj
        exact (g2.2 j _ sv (List.getElem?_eq_getElem hjl) hj).1 _ _ _ (hr _ _ _ _ _ g1 (List.getElem?_eq_getElem hjl) hcv))
    rw [hlen] at this
    exact this
theorem decRowsK_sound {τ : Ty} (hD : ∀ (row : List SV) (K : τ.T → List SV → Prop), decK τ row K → ∃ a pre rest, row = pre ++ rest ∧ K a rest ∧ Entl pre (τ.enc a)) :
    ∀ {rows : List (List SV)} {K : List τ.T → Prop}, decRowsK (decK τ) rows K → ∃ l, K l ∧ EntRows τ rows l := by
  intro rows
  induction rows with
  | nil => intro K h; exact ⟨[], h, rfl, fun i row a q => by simp at q⟩
  | cons row rs ih =>
    intro K h
    obtain ⟨a, pre, rest, he, h, hent⟩ := hD _ _ h
    split at h
    · obtain ⟨l, hk, h1, h2⟩ := ih h
      refine ⟨a :: l, hk, by simp [h1], fun i r0 a0 q1 q2 => ?_⟩
      cases i with
      | zero => simp at q1 q2; subst q1; subst q2; rw [he, List.append_nil]; exact hent
      | succ i => exact h2 i r0 a0 (by simpa using q1) (by simpa using q2)
    · exact h.elim
theorem decK_sound : ∀ {τ : Ty} {row : List SV} {K : τ.T → List SV → Prop}, decK τ row K → ∃ a pre rest, row = pre ++ rest ∧ K a rest ∧ Entl pre (τ.enc a) := by
  intro τ
  induction τ with
  | int k =>
    intro row K h
    match row, h with
    | .int k' n :: r, h =>
      simp only [decK] at h
      cases hk : kEq k k' with
      | false => rw [hk] at h; exact h.elim
      | true =>
        rw [hk] at h
        obtain rfl := kEq_of hk
        exact ⟨n, [_], r, rfl, h, Entl.one ⟨fun _ _ _ h => h, fun h => h, rfl⟩⟩
  | byte =>
    intro row K h
    match row, h with
    | .int .u8 n :: r, h =>
      simp only [decK] at h
      obtain ⟨hb, h⟩ := h
      have hb := hb.h
      refine ⟨_, [_], r, rfl, h, Entl.one ⟨fun r β v hv => ?_, fun _ => rfl, rfl⟩⟩
      have e : ((UInt8.ofNat n.toNat).toNat : Int) = n := by
        rw [UInt8.toNat_ofNat']
        have : n.toNat < 256 := by omega
        rw [Nat.mod_eq_of_lt (by simpa using this)]
        omega
      rw [e]; exact hv
  | bool =>
    intro row K h
    match row, h with
    | .bool b :: r, h => exact ⟨b, [_], r, rfl, h, Entl.one ⟨fun _ _ _ h => h, fun h => h, rfl⟩⟩
  | str =>
    intro row K h
    match row, h with
    | .str l :: r, h => exact ⟨l, [_], r, rfl, h, Entl.one ⟨fun _ _ _ h => h, fun h => h, rfl⟩⟩
  | flt =>
    intro row K h
    match row, h with
    | .flt n :: r, h => exact ⟨n, [_], r, rfl, h, Entl.one ⟨fun _ _ _ h => h, fun h => h, rfl⟩⟩
  | cpx =>
    intro row K h
    match row, h with
    | .cpx a b :: r, h => exact ⟨(a, b), [_], r, rfl, h, Entl.one ⟨fun _ _ _ h => h, fun h => h, rfl⟩⟩
  | sl e ih =>
    intro row K h
    match row, h with
    | x :: r, h =>
      simp only [decK] at h
      split at h
      · refine ⟨[], [_], r, rfl, h, Entl.one ⟨fun r β v hv => ?_, fun _ => rfl, rfl⟩⟩
        cases hv; exact .rd .litsE
      · rename_i e' l
        obtain ⟨rfl, h⟩ := castK_sound h
        exact ⟨_, [_], r, rfl, h, Entl.one ⟨fun _ _ _ h => h, fun h => h, rfl⟩⟩
      · rename_i sz rows
        cases hs : Nat.beq sz e.size with
        | false => rw [hs] at h; exact h.elim
        | true =>
          rw [hs] at h
          obtain ⟨l, hk, hl⟩ := decRowsK_sound (fun _ _ h => ih h) h
          exact ⟨l, [_], r, rfl, hk, Entl.one ⟨fun _ _ _ h => hl.lits (beq_of hs) h, fun _ => rfl, rfl⟩⟩
      · exact h.elim
  | pr a b iha ihb =>
    intro row K h
    simp only [decK] at h
    obtain ⟨x, pre, rest, rfl, h, h1⟩ := iha h
    obtain ⟨y, pre', rest', rfl, h, h2⟩ := ihb h
    exact ⟨(x, y), pre ++ pre', rest', by simp, h, Entl.app h1 h2⟩
theorem dec1K_sound {τ : Ty} {row : List SV} {K : τ.T → Prop} (h : dec1K τ row K) : ∃ a, K a ∧ Entl row (τ.enc a) := by
  obtain ⟨a, pre, rest, rfl, h, he⟩ := decK_sound h
  split at h
  · exact ⟨a, h, by rw [List.append_nil]; exact he⟩
  · exact h.elim
theorem enc_len : ∀ (τ : Ty) (x : τ.T), (τ.enc x).length = τ.size := by
  intro τ
  induction τ with
  | pr a b iha ihb => intro x; simp only [Ty.enc, List.length_append, iha, ihb]; rfl
  | _ => intro x; rfl
theorem enc_one : ∀ (τ : Ty) (x : τ.T) (j : Nat) (sv : SV), (τ.enc x)[j]? = some sv → sv.one = true := by
  intro τ
  induction τ with
  | pr a b iha ihb =>
    intro x j sv h
    simp only [Ty.enc, List.getElem?_append] at h
    split at h
    · exact iha _ _ _ h
    · exact ihb _ _ _ h
  | _ => intro x j sv h; cases j <;> simp [Ty.enc] at h; subst h; rfl
theorem mem_grow {r β Φ w} (m : MemSat r β Φ w) (o : Obj) :
    r.le (fun b => bif Nat.beq b w.heap.size then some o else r b) ∧ MemSat (fun b => bif Nat.beq b w.heap.size then some o else r b) β Φ { w with heap := w.heap.push o } ∧
    Hid r β Φ w (fun b => bif Nat.beq b w.heap.size then some o else r b) β Φ { w with heap := w.heap.push o } := by
  have hold : ∀ b, b < w.heap.size → Nat.beq b w.heap.size = false := fun b hb => nbeq_of (by omega)
  have hlt' : ∀ b, b < w.heap.size → ({ w with heap := w.heap.push o } : World).heap[b]? = w.heap[b]? := fun b hb => by
    show (w.heap.push o)[b]? = _
    rw [Array.getElem?_push, if_neg (by omega)]
  have hle : r.le (fun b => bif Nat.beq b w.heap.size then some o else r b) := by
    intro b o' h
    have := lt_of_get (m.vis _ _ h)
    show (bif Nat.beq b w.heap.size then some o else r b) = some o'
    rw [hold b this]; exact h
  refine ⟨hle, ⟨fun b o' h => ?_, fun id ch h => ?_, fun id ch b h1 h2 => ?_, m.nod⟩, rfl, rfl, rfl, ?_, fun b hb h1 h2 => ⟨hlt' b hb, ?_, h2⟩, fun _ ch h _ => ⟨rfl, ch, h, rfl⟩⟩
  · cases hq : Nat.beq b w.heap.size with
    | true =>
      obtain rfl := beq_of hq
      simp only [hq, cond_true] at h
      rw [← h]
      show (w.heap.push o)[w.heap.size]? = _
      simp
    | false =>
      simp only [hq, cond_false] at h
      have := m.vis _ _ h
      rw [hlt' b (lt_of_get this)]; exact this
  · exact (m.chs _ _ h).keep hle (fun b hb => hlt' b ((m.chs _ _ h).alive hb)) (fun _ _ _ _ _ _ _ h => h)
  · show (bif Nat.beq b w.heap.size then some o else r b) = none
    rw [hold b ((m.chs _ _ h1).alive h2)]
    exact m.sep _ _ _ h1 h2
  · show w.heap.size ≤ (w.heap.push o).size
    simp
  · show (bif Nat.beq b w.heap.size then some o else r b) = none
    rw [hold b hb]; exact h1
end Go.Vc

namespace Go.Vc
set_option autoImplicit false
theorem lt_len {α : Type _} {l : List α} {i : Nat} {x : α} (h : l[i]? = some x) : i < l.length := by
  rcases Nat.lt_or_ge i l.length with h' | h'
  · exact h'
  · rw [List.getElem?_eq_none h'] at h; cases h
theorem toList_relL {r β l} {vs : Array Value} (h : RelL r β l vs.toList) : vs.size = l.length := by have := h.1; simpa using this
theorem madeCells_get {z : Value} {sz n : Nat} (hz : z.cells.size = sz) (i j : Nat) (hi : i < n) (hj : j < sz) : (madeCells z.cells (n * sz))[i * sz + j]? = z.cells[j]? := by
  have hb : i * sz + j < n * sz := by
    have : (i + 1) * sz ≤ n * sz := Nat.mul_le_mul_right sz hi
    rw [Nat.add_mul] at this; omega
  have hm : (i * sz + j) % z.cells.size = j := by
    rw [hz, Nat.add_comm, Nat.add_mul_mod_self_right, Nat.mod_eq_of_lt hj]
  simp only [madeCells, Array.getElem?_map, Array.getElem?_range, hb, if_true, Option.map_some, hm]
  rw [Array.getElem?_eq_getElem (by omega)]
  congr 1
  exact getElem!_pos z.cells j (by omega)
theorem repK_sound {z : List SV} : ∀ {n : Nat} {K : List SV → Prop}, repK z n K → ∃ l, K l ∧ l.length = n * z.length ∧ ∀ i j, i < n → j < z.length → l[i * z.length + j]? = z[j]? := by
  intro n
  induction n with
  | zero => intro K h; exact ⟨[], h, by simp, fun i j hi => by omega⟩
  | succ n ih =>
    intro K h
    obtain ⟨l, h, h1, h2⟩ := ih h
    obtain ⟨l', h, q1, _, q3⟩ := fillAt_sound h
    refine ⟨l', h, by rw [q1, List.length_append, h1, Nat.add_mul]; omega, fun i j hi hj => ?_⟩
    rw [q3]
    cases i with
    | zero => rw [if_pos (by omega)]; simp
    | succ i =>
      have e : (i + 1) * z.length + j = z.length + (i * z.length + j) := by rw [Nat.add_mul]; omega
      rw [e, if_neg (by omega), List.getElem?_append_right (by omega), Nat.add_sub_cancel_left]
      exact h2 i j (by omega) hj
theorem chunksK_sound {sz : Nat} : ∀ {n : Nat} {l : List SV} {K : List (List SV) → Prop}, chunksK sz n l K → ∃ rows, K rows ∧ rows.length = n ∧ n * sz ≤ l.length ∧ ∀ i row, rows[i]? = some row → row = (l.drop (i * sz)).take sz := by
  intro n
  induction n with
  | zero => intro l K h; exact ⟨[], h, rfl, by simp, fun i row h => by simp at h⟩
  | succ n ih =>
    intro l K h
    obtain ⟨h, hl⟩ := subK_sound h
    obtain ⟨rows, h, h1, h2, h3⟩ := ih h
    refine ⟨_, h, by simp [h1], by simp at h2; rw [Nat.add_mul]; omega, fun i row hi => ?_⟩
    cases i with
    | zero => simp at hi; rw [← hi]; simp
    | succ i =>
      have := h3 i row (by simpa using hi)
      rw [this, List.drop_drop, Nat.add_mul]
      congr 2; omega
theorem szOk_info {P : Program} {e : TypeId} {s : Nat} (h : szOk P e s = true) : ∃ i, P.info? e = some i ∧ i.size = s := by
  obtain ⟨h1, h2⟩ := szOk_spec h
  obtain ⟨i, hi⟩ := Option.ne_none_iff_exists'.1 h2
  exact ⟨i, hi, by rw [← h1, sizeT_run hi]⟩
theorem rowsOfK_sound {P : Program} {σ ctx e ln parts} {K : List (List SV) → Prop} (h : rowsOfK P σ ctx e ln parts K) :
    ∃ rows, K rows ∧ rows.length = ln ∧ (∀ (i : Nat) row, rows[i]? = some row → row.length = sizeT P e) ∧ sizeT P e ≠ 0 ∧ ln * sizeT P e ≤ 16777216 ∧
      (∀ (i : Nat) row (j : Nat) sv, rows[i]? = some row → row[j]? = some sv → sv.one = true ∧ sv.okIds (fun _ => false) = true) ∧
      ∀ p r β (a : Act) g, (∀ y ∈ parts, Has p y.2) → Sm p r β σ a.tmps ctx g → ∃ us : Array Value, us.size = ln * sizeT P e ∧
        (∀ t w, P.underlying t = some (.slice e) → (Instr.buildSlice t ln (parts.map fun (i, x) => (i, a.eval x)).toArray).run P w = .ok (.slice (some ⟨w.heap.size, 0, none⟩) ln ln) { w with heap := w.heap.push (.cells us e) }) ∧
        ∀ (i : Nat) row (j : Nat) sv v, rows[i]? = some row → row[j]? = some sv → us[i * sizeT P e + j]? = some v → Rel r β0 sv v := by
  unfold rowsOfK at h
  cases hz0 : (Nat.beq (sizeT P e) 0 || !Nat.ble (ln * sizeT P e) 16777216) with
  | true => rw [hz0] at h; exact h.elim
  | false =>
  rw [hz0] at h
  simp only [cond_false] at h
  simp only [Bool.or_eq_false_iff, Bool.not_eq_false'] at hz0
  obtain ⟨hz0, hble⟩ := hz0
  have hble := Nat.le_of_ble_eq_true hble
  obtain ⟨z, zv, h, hz1, _, hzrun, hzrel⟩ := zeroK_sound h
  cases hz2 : Nat.beq (len z) (sizeT P e) with
  | false => rw [hz2] at h; exact h.elim
  | true =>
  rw [hz2] at h
  simp only [cond_true] at h
  have hzl := beq_of hz2
  rw [len_eq] at hzl
  obtain ⟨flat, h, hfl, hfg⟩ := repK_sound h
  obtain ⟨l, h, hll, hr⟩ := fillK_sound h
  cases hz3 : (SV.okIdsL (fun _ => false) l && allOne l) with
  | false => rw [hz3] at h; exact h.elim
  | true =>
  rw [hz3] at h
  simp only [Bool.and_eq_true] at hz3
  obtain ⟨hz3, hz4⟩ := hz3
  obtain ⟨rows, hk, h1, h2, h3⟩ := chunksK_sound h
  obtain ⟨i, hi⟩ : ∃ i, P.info? e = some i := by
    unfold sizeT at hz0
    cases hq : P.info? e with
    | none => rw [hq] at hz0; cases hz0
    | some i => exact ⟨i, rfl⟩
  rw [sizeT_run hi] at *
  have hsz : 0 < i.size := by
    rcases Nat.eq_zero_or_pos i.size with h | h
    · rw [h] at hz0; cases hz0
    · exact h
  have rowlen : ∀ (k : Nat) (row : List SV), rows[k]? = some row → row.length = i.size := by
    intro k row hk'
    rw [h3 k row hk']
    have hkl := lt_len hk'
    rw [h1] at hkl
    have : (k + 1) * i.size ≤ ln * i.size := Nat.mul_le_mul_right _ hkl
    rw [Nat.add_mul] at this
    simp; omega
  have hget : ∀ (k : Nat) (row : List SV) (j : Nat) (sv : SV), rows[k]? = some row → row[j]? = some sv → l[k * i.size + j]? = some sv := by
    intro k row j sv hk' hj
    rw [h3 k row hk', List.getElem?_take] at hj
    split at hj
    · rw [List.getElem?_drop] at hj; exact hj
    · cases hj
  refine ⟨rows, hk, h1, rowlen, by omega, hble, fun k row j sv a1 a2 => ⟨allOne_get hz4 _ _ (hget k row j sv a1 a2), SV.okIdsL_get hz3 _ _ (hget k row j sv a1 a2)⟩, fun p r β a g hP sm => ?_⟩
  have hzc : zv.cells.size = i.size := by
    have := (hzrel r β).1
    simp at this
    omega
  have hflat : RelL r β flat (madeCells zv.cells (ln * i.size)).toList := by
    refine ⟨by rw [Array.length_toList, size_madeCells, hfl, hzl], fun k sv v q1 q2 => ?_⟩
    have hk := lt_len q1
    rw [hfl, hzl] at hk
    have hd : k / i.size < ln := (Nat.div_lt_iff_lt_mul hsz).2 hk
    have hm : k % i.size < i.size := Nat.mod_lt _ hsz
    have e : k / i.size * i.size + k % i.size = k := by rw [Nat.mul_comm]; exact Nat.div_add_mod k i.size
    have g1 := hfg (k / i.size) (k % i.size) hd (by rw [hzl]; exact hm)
    rw [hzl, e, q1] at g1
    have g2 := madeCells_get hzc (k / i.size) (k % i.size) hd hm
    have q2' : (madeCells zv.cells (ln * i.size))[k]? = some v := by simpa using q2
    rw [e, q2'] at g2
    exact (hzrel r β).2 _ _ _ g1.symm (by simpa using g2.symm)
  obtain ⟨us, hus, hul⟩ := hr p r β a g hP sm _ hflat
  have hl : l.length = ln * i.size := by rw [hll, hfl, hzl]
  refine ⟨us, by rw [toList_relL hul]; exact hl, fun t w ht => ?_, fun k row j sv v a1 a2 a3 => ?_⟩
  · have hbig : ¬ (ln * i.size > 2 ^ 24) := by omega
    simp only [Instr.buildSlice, Sem.run_bind, run_underlying ht, Result.andThen_ok, run_sizeOf hi, hbig, if_false, Sem.run_pure]
    have hus' : ∀ (Z : Array Value), (ln * i.size ≠ 0 → Z = zv.cells) → Instr.fill (fun k => some (k * i.size, i.size)) ((Array.range (ln * i.size)).map (Z[· % Z.size]!)) (parts.map fun (k, x) => (k, a.eval x)) = some us := by
      intro Z hZ
      by_cases h0 : ln * i.size = 0
      · have e : (Array.range (ln * i.size)).map (Z[· % Z.size]!) = madeCells zv.cells (ln * i.size) := by rw [h0]; simp [madeCells]
        rw [e]; exact hus
      · rw [hZ h0]; exact hus
    by_cases h0 : ln * i.size = 0
    · rw [if_pos h0]
      simp only [Sem.run_bind, Sem.run_pure, Result.andThen_ok, hus' #[] (fun h => (h h0).elim), newRow, run_newObj]
    · rw [if_neg h0]
      simp only [Sem.run_bind, hzrun w, Sem.run_pure, Result.andThen_ok, hus' zv.cells (fun _ => rfl), newRow, run_newObj]
  · have hlj := hget k row j sv a1 a2
    exact (hul.2 _ _ _ hlj (by simpa using a3)).pure (SV.okIdsL_get hz3 _ _ hlj) β0
end Go.Vc

namespace Go.Vc
set_option autoImplicit false
theorem relL_nth {r β l vs} (h : RelL r β l vs) {i : Nat} {sv : SV} (hi : nth l i = some sv) : ∃ v, vs.toArray[i]? = some v ∧ Rel r β sv v := by
  rw [nth_eq] at hi
  have hl := lt_len hi
  have : i < vs.length := by rw [h.1]; exact hl
  exact ⟨vs[i], by simp [this], h.2 i sv _ hi (List.getElem?_eq_getElem this)⟩
theorem run_part_cell {P : Program} {t : TypeId} {cs : Array Value} {off : Nat} {v : Value} {w : World} (ha : ∀ d, P.underlying t = some d → isAggD d = false) (hu : ∃ d, P.underlying t = some d) (hv : cs[off]? = some v) : (part t cs off).run P w = .ok v w := by
  obtain ⟨d, hu⟩ := hu
  have := ha d hu
  unfold part isAgg
  simp only [Sem.run_bind, run_underlying hu, Result.andThen_ok, Sem.run_pure]
  cases d <;> simp [isAggD] at this <;> simp [hv]
theorem eqFieldsK_sound {P : Program} {xs ys : List SV} : ∀ {fs : List Field} {K : Bool → Prop}, eqFieldsK P xs ys fs K → (∀ f ∈ fs, f.name ≠ "_") →
    ∃ b, K b ∧ ∀ r β vs us, RelL r β xs vs → RelL r β ys us → ∀ w, (Op.eqFields 9999 vs.toArray us.toArray fs).run P w = .ok b w := by
  intro fs
  induction fs with
  | nil => intro K h _; exact ⟨true, h, fun r β vs us _ _ w => rfl⟩
  | cons f fs ih =>
    intro K h hn
    have hn1 : f.name ≠ "_" := hn f (by simp)
    have step : ∀ {K : Bool → Prop} (c : Bool), eqFieldsK P xs ys fs (fun r => K (c && r)) →
        (∀ r β vs us, RelL r β xs vs → RelL r β ys us → ∃ a b, (∀ w, (part f.type vs.toArray f.offset).run P w = .ok a w) ∧ (∀ w, (part f.type us.toArray f.offset).run P w = .ok b w) ∧ ∀ w, (Op.equalIn 9999 f.type a b).run P w = .ok c w) →
        ∃ b, K b ∧ ∀ r β vs us, RelL r β xs vs → RelL r β ys us → ∀ w, (Op.eqFields 9999 vs.toArray us.toArray (f :: fs)).run P w = .ok b w := by
      intro K c hk hrun
      obtain ⟨b, hb, hrest⟩ := ih hk (fun g hg => hn g (by simp [hg]))
      refine ⟨_, hb, fun r β vs us h1 h2 w => ?_⟩
      obtain ⟨a, b', p1, p2, p3⟩ := hrun r β vs us h1 h2
      unfold Op.eqFields
      rw [if_pos hn1]
      simp only [Sem.run_bind, p1 w, p2 w, p3 w, Result.andThen_ok]
      cases c with
      | true => simp only [Bool.not_true, Bool.false_eq_true, if_false, Bool.true_and]; exact hrest r β vs us h1 h2 w
      | false => rfl
    unfold eqFieldsK at h
    split at h
    · rename_i k0 k a k' b hu hx hy
      cases hk : kEq k k' with
      | false => rw [hk] at h; exact h.elim
      | true =>
        rw [hk] at h
        obtain rfl := kEq_of hk
        refine step (a == b) h fun r β vs us h1 h2 => ?_
        obtain ⟨v1, g1, r1⟩ := relL_nth h1 hx
        obtain ⟨v2, g2, r2⟩ := relL_nth h2 hy
        cases r1; cases r2
        exact ⟨_, _, fun w => run_part_cell (fun d hd => by rw [hu] at hd; cases hd; rfl) ⟨_, hu⟩ g1, fun w => run_part_cell (fun d hd => by rw [hu] at hd; cases hd; rfl) ⟨_, hu⟩ g2, fun w => run_equalIn_int w 9998 f.type _ k0 a b hu⟩
    · rename_i a b hu hx hy
      refine step (a == b) h fun r β vs us h1 h2 => ?_
      obtain ⟨v1, g1, r1⟩ := relL_nth h1 hx
      obtain ⟨v2, g2, r2⟩ := relL_nth h2 hy
      cases r1; cases r2
      refine ⟨_, _, fun w => run_part_cell (fun d hd => by rw [hu] at hd; cases hd; rfl) ⟨_, hu⟩ g1, fun w => run_part_cell (fun d hd => by rw [hu] at hd; cases hd; rfl) ⟨_, hu⟩ g2, fun w => ?_⟩
      rw [run_equalIn_string w 9998 f.type _ _ hu, ByteArray.toList_eq, ByteArray.toList_eq]
    · rename_i a b hu hx hy
      refine step (a == b) h fun r β vs us h1 h2 => ?_
      obtain ⟨v1, g1, r1⟩ := relL_nth h1 hx
      obtain ⟨v2, g2, r2⟩ := relL_nth h2 hy
      cases r1; cases r2
      exact ⟨_, _, fun w => run_part_cell (fun d hd => by rw [hu] at hd; cases hd; rfl) ⟨_, hu⟩ g1, fun w => run_part_cell (fun d hd => by rw [hu] at hd; cases hd; rfl) ⟨_, hu⟩ g2, fun w => run_equalIn_bool' w 9998 f.type a b hu⟩
    · exact h.elim
theorem isPtr_some {r β x v} (h : isPtr x = true) (hx : Rel r β x v) : ∃ a, v = .pointer (some a) := by
  cases hx <;> first | exact ⟨_, rfl⟩ | cases h
theorem run_equal_ptr {P : Program} {t e : TypeId} (hu : P.underlying t = some (.pointer e)) {a b : Option Addr} {c : Bool} (w : World)
    (h : (a = none ∧ c = b.isNone) ∨ (b = none ∧ a ≠ none ∧ c = false) ∨ (a ≠ none ∧ a = b ∧ sizeT P e ≠ 0 ∧ c = true)) : (Op.equal t (.pointer a) (.pointer b)).run P w = .ok c w := by
  unfold Op.equal Op.maxDepth
  rw [show (10000 : Nat) = 9999 + 1 from rfl, Op.equalIn]
  simp only [Sem.run_bind, run_underlying hu, Result.andThen_ok]
  rcases h with ⟨rfl, rfl⟩ | ⟨rfl, h, rfl⟩ | ⟨h, rfl, hs, rfl⟩
  · cases b <;> rfl
  · cases a with
    | none => exact absurd rfl h
    | some a => rfl
  · cases a with
    | none => exact absurd rfl h
    | some a =>
      have hi : ∃ i, P.info? e = some i := by
        unfold sizeT at hs
        split at hs
        · rename_i i hi; exact ⟨i, hi⟩
        · exact absurd rfl hs
      obtain ⟨i, hi⟩ := hi
      rw [sizeT_run hi] at hs
      simp [run_sizeOf hi, hs, sameAddr]
theorem ptrEqK_sound {P : Program} {t x y} {K : Bool → Prop} (h : ptrEqK P t x y K) : ∃ b, K b ∧ ∀ r β vx vy, Rel r β x vx → Rel r β y vy → ∃ a c, vx = .pointer a ∧ vy = .pointer c ∧ ∀ w, (Op.equal t vx vy).run P w = .ok b w := by
  unfold ptrEqK at h
  split at h
  · rename_i e hu
    split at h
    · refine ⟨true, h, fun r β vx vy hx hy => ?_⟩
      cases hx; cases hy
      exact ⟨_, _, rfl, rfl, fun w => run_equal_ptr hu w (.inl ⟨rfl, rfl⟩)⟩
    · cases hp : isPtr x with
      | false => rw [hp] at h; exact h.elim
      | true =>
        rw [hp] at h
        refine ⟨false, h, fun r β vx vy hx hy => ?_⟩
        obtain ⟨a, rfl⟩ := isPtr_some hp hx
        cases hy
        exact ⟨_, _, rfl, rfl, fun w => run_equal_ptr hu w (.inr (.inl ⟨rfl, by simp, rfl⟩))⟩
    · cases hp : isPtr y with
      | false => rw [hp] at h; exact h.elim
      | true =>
        rw [hp] at h
        refine ⟨false, h, fun r β vx vy hx hy => ?_⟩
        obtain ⟨a, rfl⟩ := isPtr_some hp hy
        cases hx
        exact ⟨_, _, rfl, rfl, fun w => run_equal_ptr hu w (.inl ⟨rfl, rfl⟩)⟩
    · rename_i i off j off'
      cases hc : (Nat.beq i j && (Nat.beq off off' && !Nat.beq (sizeT P e) 0)) with
      | false => rw [hc] at h; exact h.elim
      | true =>
        rw [hc] at h
        simp only [Bool.and_eq_true, Bool.not_eq_true'] at hc
        obtain rfl := beq_of hc.1
        obtain rfl := beq_of hc.2.1
        refine ⟨true, h, fun r β vx vy hx hy => ?_⟩
        cases hx with
        | loc h1 =>
          cases hy with
          | loc h2 =>
            rw [h1] at h2
            simp only [Value.pointer.injEq, Option.some.injEq, Addr.mk.injEq, and_true] at h2
            subst h2
            refine ⟨_, _, rfl, rfl, fun w => run_equal_ptr hu w (.inr (.inr ⟨by simp, rfl, ?_, rfl⟩))⟩
            intro hz
            rw [hz] at hc
            exact absurd hc.2.2 (by simp)
    · exact h.elim
  · exact h.elim
theorem evBinB_sound {B : Base} {op t x y g} {K : SV → Prop} (h : evBinB B op t x y g K) :
    ∃ sv, K sv ∧ ((∀ p, g p → p) → ∀ r β vx vy, Rel r β x vx → Rel r β y vy → (∀ ox oy w, (eqGuard op t ox oy vx vy).run B.P w = .ok () w) ∧ ∃ v, Rel r β sv v ∧ ∀ w, (Go.binOp op t vx vy).run B.P w = .ok v w) := by
  unfold evBinB at h
  split at h
  · rename_i xs ys
    cases he : B.eqs t with
    | false => rw [he] at h; exact h.elim
    | true =>
      rw [he] at h
      obtain ⟨h1, h2, h3⟩ := B.eqs_ok t he
      simp only [cond_true] at h
      split at h
      · rename_i fs hu
        have hf : B.P.fieldsOf t = ⟨fs⟩ := by unfold Program.fieldsOf; rw [hu]
        rw [hf] at h3
        obtain ⟨b, hk, hb⟩ := eqFieldsK_sound h (fun f hf => by simpa using List.all_eq_true.1 h3 f hf)
        refine ⟨_, hk, fun hv r β vx vy hx hy => ?_⟩
        obtain ⟨cs, rfl, hcs⟩ := hx.aggL_inv
        obtain ⟨ds, rfl, hds⟩ := hy.aggL_inv
        refine ⟨fun ox oy w => run_eqGuard_agg w _ t ox oy _ _ h2, _, .bool, fun w => ?_⟩
        rw [run_eql_struct, run_equalIn_agg w 9999 t _ _ (by rw [hf]; exact hu) h1, hf, hb r β cs ds hcs hds w]
        rfl
      · rename_i fs hu
        have hf : B.P.fieldsOf t = ⟨fs⟩ := by unfold Program.fieldsOf; rw [hu]
        rw [hf] at h3
        obtain ⟨b, hk, hb⟩ := eqFieldsK_sound h (fun f hf => by simpa using List.all_eq_true.1 h3 f hf)
        refine ⟨_, hk, fun hv r β vx vy hx hy => ?_⟩
        obtain ⟨cs, rfl, hcs⟩ := hx.aggL_inv
        obtain ⟨ds, rfl, hds⟩ := hy.aggL_inv
        refine ⟨fun ox oy w => run_eqGuard_agg w _ t ox oy _ _ h2, _, .bool, fun w => ?_⟩
        rw [run_neq_struct, run_equalIn_agg w 9999 t _ _ (by rw [hf]; exact hu) h1, hf, hb r β cs ds hcs hds w]
        rfl
      · exact h.elim
  · cases hpv : isPtrV x with
    | true =>
      rw [hpv] at h
      simp only [cond_true] at h
      have fin : ∀ {neg : Bool} {o : BinOp}, (o = .eql ∧ neg = false) ∨ (o = .neq ∧ neg = true) → (ptrEqK B.P t x y fun b => K (.bool (bif neg then !b else b))) →
          ∃ sv, K sv ∧ ((∀ p, g p → p) → ∀ r β vx vy, Rel r β x vx → Rel r β y vy → (∀ ox oy w, (eqGuard o t ox oy vx vy).run B.P w = .ok () w) ∧ ∃ v, Rel r β sv v ∧ ∀ w, (Go.binOp o t vx vy).run B.P w = .ok v w) := by
        intro neg o ho h
        obtain ⟨b, hk, hb⟩ := ptrEqK_sound h
        refine ⟨_, hk, fun hv r β vx vy hx hy => ?_⟩
        obtain ⟨a, c, rfl, rfl, hrun⟩ := hb r β vx vy hx hy
        refine ⟨fun ox oy w => by unfold eqGuard; split <;> rfl, _, .bool, fun w => ?_⟩
        rcases ho with ⟨rfl, rfl⟩ | ⟨rfl, rfl⟩
        · show Sem.run B.P (do pure (Value.bool (← Op.equal t _ _))) w = _
          rw [Sem.run_bind, hrun w]; rfl
        · show Sem.run B.P (do pure (Value.bool (!(← Op.equal t _ _)))) w = _
          rw [Sem.run_bind, hrun w]; rfl
      split at h
      · exact fin (.inl ⟨rfl, rfl⟩) h
      · exact fin (.inr ⟨rfl, rfl⟩) h
      · exact h.elim
    | false =>
    rw [hpv] at h
    simp only [cond_false] at h
    obtain ⟨sv, hk, hr⟩ := evBin_sound h
    refine ⟨sv, hk, fun hv r β vx vy hx hy => ⟨fun ox oy w => ?_, hr hv r β vx vy hx hy⟩⟩
    unfold evBin at h
    split at h
    · cases hx; cases hy; unfold eqGuard; split <;> rfl
    · cases hx; cases hy; unfold eqGuard; split <;> rfl
    · cases hx; cases hy; unfold eqGuard; split <;> rfl
    · cases hx; cases hy; unfold eqGuard; split <;> rfl
    · cases hx; cases hy; unfold eqGuard; split <;> rfl
    · exact h.elim
end Go.Vc

namespace Go.Vc
set_option autoImplicit false
theorem decKeyK_sound {κ : KTy} {x : SV} {K : κ.T → Prop} (h : decKeyK κ x K) : ∃ k, K k ∧ ∀ r β v, Rel r β x v → v = κ.val k := by
  cases κ with
  | s =>
    cases x <;> try exact h.elim
    exact ⟨_, h, fun r β v hv => by cases hv; rfl⟩
  | w =>
    cases x <;> try exact h.elim
    exact ⟨_, h, fun r β v hv => by cases hv; rfl⟩
  | i k =>
    cases x <;> try exact h.elim
    rename_i k' n
    simp only [decKeyK] at h
    cases hk : kEq k k' with
    | false => rw [hk] at h; exact h.elim
    | true => rw [hk] at h; obtain rfl := kEq_of hk; exact ⟨_, h, fun r β v hv => by cases hv; rfl⟩
  | p =>
    cases x <;> try exact h.elim
    rename_i l
    match l, h with
    | [], h => exact h.elim
    | [x], h => cases x <;> exact h.elim
    | x :: y :: z :: l, h => cases x <;> cases y <;> exact h.elim
    | [x, y], h =>
      cases x <;> cases y <;> try exact h.elim
      rename_i a b
      refine ⟨(a, b), h, fun r β v hv => ?_⟩
      obtain ⟨cs, rfl, hcs⟩ := hv.aggL_inv
      obtain ⟨v1, us, rfl, h1, h2⟩ := hcs.uncons
      obtain ⟨v2, us2, rfl, h3, h4⟩ := h2.uncons
      have : us2 = [] := List.length_eq_zero_iff.1 h4.1
      subst this
      cases h1; cases h3; rfl
def kindOf : KTy → TypeDesc → Prop
  | .s, d => d = .string
  | .w, d => d = .string
  | .i k, d => d = .int k
  | .p, _ => False
theorem keyTyOk_spec {B : Base} {kt : TypeId} {κ : KTy} (hp : κ ≠ .p) (h : keyTyOk B kt κ = true) : ∃ d, B.P.underlying kt = some d ∧ kindOf κ d := by
  cases κ with
  | s =>
    simp only [keyTyOk, isStrTy] at h
    split at h
    · exact ⟨_, by assumption, rfl⟩
    · cases h
  | w =>
    simp only [keyTyOk, isStrTy] at h
    split at h
    · exact ⟨_, by assumption, rfl⟩
    · cases h
  | i k =>
    simp only [keyTyOk] at h
    split at h
    · exact ⟨_, by assumption, by rw [kEq_of h]; rfl⟩
    · cases h
  | p => exact absurd rfl hp
theorem kbeq_iff {κ : KTy} (a b : κ.T) : κ.beq a b = true ↔ a = b := by
  cases κ with
  | s => simp [KTy.beq]
  | i k => simp [KTy.beq]
  | p => simp [KTy.beq]
  | w => simp [KTy.beq]
theorem ba_beq (a b : List UInt8) : ((⟨a.toArray⟩ : ByteArray) == ⟨b.toArray⟩) = (a == b) := by
  show (a.toArray == b.toArray) = (a == b)
  simp
theorem sameNow_eq {κ : KTy} {d : TypeDesc} (h : kindOf κ d) (a b : κ.T) : Instr.sameNow d (κ.val a) (κ.val b) = some (κ.beq a b) := by
  cases κ with
  | s =>
    cases h
    simp only [Instr.sameNow, KTy.val, KTy.beq]
    congr 1
    rw [ba_beq]
  | w =>
    cases h
    simp only [Instr.sameNow, KTy.val, KTy.beq]
    congr 1
    rw [ba_beq]
  | i k => cases h; simp [Instr.sameNow, KTy.val, KTy.beq]
  | p => cases h
theorem sameBits_self {κ : KTy} {d : TypeDesc} (h : kindOf κ d) (a : κ.T) : Instr.sameBits 10000 (κ.val a) (κ.val a) = true := by
  cases κ with
  | s => simp [Instr.sameBits, KTy.val, ba_beq]
  | w => simp [Instr.sameBits, KTy.val, ba_beq]
  | i k => simp [Instr.sameBits, KTy.val]
  | p => cases h
theorem find_sound {κ : KTy} {d : TypeDesc} (hd : kindOf κ d) {α : Type} (k : κ.T) : ∀ (l : List (κ.T × α)) (es : List MapEntry) (i0 : Nat), es.length = l.length →
    (∀ (i : Nat) k' v e, l[i]? = some (k', v) → es[i]? = some e → e.key = κ.val k') →
    (mget κ l k = none ∧ Instr.findNow d (κ.val k) es i0 = some none ∧ ∀ a, mset κ l k a = l ++ [(k, a)]) ∨
    ∃ j v e, l[j]? = some (k, v) ∧ mget κ l k = some v ∧ es[j]? = some e ∧ Instr.findNow d (κ.val k) es i0 = some (some (i0 + j, e.val)) ∧ (∀ a, mset κ l k a = l.set j (k, a)) ∧ mdel κ l k = l.eraseIdx j := by
  intro l
  induction l with
  | nil =>
    intro es i0 hl _
    have : es = [] := List.length_eq_zero_iff.1 hl
    subst this
    exact .inl ⟨rfl, rfl, fun a => rfl⟩
  | cons x l ih =>
    intro es i0 hl hk
    obtain ⟨k', v⟩ := x
    match es, hl with
    | e :: es, hl =>
      have h0 := hk 0 k' v e rfl rfl
      simp only [Instr.findNow, h0, sameNow_eq hd]
      cases hb : κ.beq k k' with
      | true =>
        obtain rfl := (kbeq_iff k k').1 hb
        exact .inr ⟨0, v, e, rfl, by simp [mget, hb], rfl, rfl, fun a => by simp [mset, hb], by simp [mdel, hb]⟩
      | false =>
        rcases ih es (i0 + 1) (by simpa using hl) (fun i k1 v1 e1 q1 q2 => hk (i + 1) k1 v1 e1 (by simpa using q1) (by simpa using q2)) with ⟨a1, a2, a3⟩ | ⟨j, v1, e1, a1, a2, a3, a4, a5, a6⟩
        · exact .inl ⟨by simp [mget, hb, a1], a2, fun a => by simp [mset, hb, a3]⟩
        · exact .inr ⟨j + 1, v1, e1, by simpa using a1, by simp [mget, hb, a2], by simpa using a3, by rw [a4, Nat.add_assoc, Nat.add_comm 1 j], fun a => by simp [mset, hb, a5], by simp [mdel, hb, a6]⟩
theorem run_checkKey {P : Program} {κ : KTy} {d : TypeDesc} {kt : TypeId} (hu : P.underlying kt = some d) (hd : kindOf κ d) (b : Bool) (k : κ.T) (w : World) : (Instr.checkKey b 10000 kt (κ.val k)).run P w = .ok () w := by
  rw [show (10000 : Nat) = 9999 + 1 from rfl, Instr.checkKey]
  cases κ with
  | s => cases hd; simp [run_underlying hu, KTy.val]
  | w => cases hd; simp [run_underlying hu, KTy.val]
  | i k => cases hd; simp [run_underlying hu, KTy.val]
  | p => cases hd
theorem run_findKey {P : Program} {κ : KTy} {d : TypeDesc} {kt : TypeId} (hu : P.underlying kt = some d) {k : κ.T} {es : List MapEntry} {x : Option (Nat × Value)} (h : Instr.findNow d (κ.val k) es 0 = some x) (w : World) :
    (Instr.findKey kt (κ.val k) es).run P w = .ok x w := by
  simp [Instr.findKey, run_underlying hu, h]
structure KOk (P : Program) (kt : TypeId) (κ : KTy) : Prop where
  check : ∀ (b : Bool) (k : κ.T) (w : World), (Instr.checkKey b 10000 kt (κ.val k)).run P w = .ok () w
  bits : ∀ k : κ.T, Instr.sameBits 10000 (κ.val k) (κ.val k) = true
  find : ∀ {α : Type} (k : κ.T) (l : List (κ.T × α)) (es : List MapEntry), es.length = l.length → (∀ (i : Nat) k' v e, l[i]? = some (k', v) → es[i]? = some e → e.key = κ.val k') →
    (mget κ l k = none ∧ (∀ w, (Instr.findKey kt (κ.val k) es).run P w = .ok none w) ∧ (∀ a, mset κ l k a = l ++ [(k, a)]) ∧ mdel κ l k = l) ∨
    ∃ j v e, l[j]? = some (k, v) ∧ mget κ l k = some v ∧ es[j]? = some e ∧ (∀ w, (Instr.findKey kt (κ.val k) es).run P w = .ok (some (j, e.val)) w) ∧ (∀ a, mset κ l k a = l.set j (k, a)) ∧ mdel κ l k = l.eraseIdx j
theorem mdel_none {κ : KTy} {α : Type} {k : κ.T} : ∀ {l : List (κ.T × α)}, mget κ l k = none → mdel κ l k = l := by
  intro l
  induction l with
  | nil => intro _; rfl
  | cons x r ih =>
    intro h
    obtain ⟨k', v⟩ := x
    cases hb : κ.beq k k' with
    | true => simp [mget, hb] at h
    | false =>
      have h : mget κ r k = none := by simpa [mget, hb] using h
      simp [mdel, hb, ih h]
theorem run_part_str {P : Program} {t : TypeId} {cs : Array Value} {off : Nat} {v : Value} {w : World} (hu : P.underlying t = some .string) (hv : cs[off]? = some v) : (part t cs off).run P w = .ok v w :=
  run_part_cell (fun d hd => by rw [hu] at hd; cases hd; rfl) ⟨_, hu⟩ hv
theorem isStrTy_spec {P : Program} {t : TypeId} (h : isStrTy P t = true) : P.underlying t = some .string := by
  unfold isStrTy at h
  split at h
  · assumption
  · cases h
theorem eqFields_pair {P : Program} {f g : Field} (hf : f.name ≠ "_") (hg : g.name ≠ "_") (of : f.offset = 0) (og : g.offset = 1) (tf : P.underlying f.type = some .string) (tg : P.underlying g.type = some .string) (p q : List UInt8 × List UInt8) (w : World) :
    (Op.eqFields 9999 #[.string ⟨p.1.toArray⟩, .string ⟨p.2.toArray⟩] #[.string ⟨q.1.toArray⟩, .string ⟨q.2.toArray⟩] [f, g]).run P w = .ok (p == q) w := by
  have e1 : ∀ (x y : List UInt8) (t : TypeId) w, P.underlying t = some .string → (Op.equalIn 9999 t (.string ⟨x.toArray⟩) (.string ⟨y.toArray⟩)).run P w = .ok (x == y) w := by
    intro x y t w ht
    rw [run_equalIn_string w 9998 t _ _ ht, ByteArray.toList_eq, ByteArray.toList_eq]
  have hpq : (p == q) = (p.1 == q.1 && p.2 == q.2) := rfl
  rw [hpq]
  unfold Op.eqFields
  rw [if_pos hf]
  simp only [Sem.run_bind, run_part_str (cs := #[.string ⟨p.1.toArray⟩, .string ⟨p.2.toArray⟩]) (off := f.offset) (v := .string ⟨p.1.toArray⟩) tf (by rw [of]; rfl), run_part_str (cs := #[.string ⟨q.1.toArray⟩, .string ⟨q.2.toArray⟩]) (off := f.offset) (v := .string ⟨q.1.toArray⟩) tf (by rw [of]; rfl), e1 _ _ _ _ tf, Result.andThen_ok]
  cases p.1 == q.1 with
  | false => rfl
  | true =>
    simp only [Bool.not_true, Bool.false_eq_true, if_false, Bool.true_and]
    unfold Op.eqFields
    rw [if_pos hg]
    simp only [Sem.run_bind, run_part_str (cs := #[.string ⟨p.1.toArray⟩, .string ⟨p.2.toArray⟩]) (off := g.offset) (v := .string ⟨p.2.toArray⟩) tg (by rw [og]; rfl), run_part_str (cs := #[.string ⟨q.1.toArray⟩, .string ⟨q.2.toArray⟩]) (off := g.offset) (v := .string ⟨q.2.toArray⟩) tg (by rw [og]; rfl), e1 _ _ _ _ tg, Result.andThen_ok]
    cases p.2 == q.2 with
    | false => rfl
    | true =>
      simp only [Bool.not_true, Bool.false_eq_true, if_false]
      rfl
theorem keyTyOk_ok {B : Base} {kt : TypeId} {κ : KTy} (h : keyTyOk B kt κ = true) : KOk B.P kt κ := by
  by_cases hp : κ = .p
  · subst hp
    simp only [keyTyOk, Bool.and_eq_true] at h
    obtain ⟨he, h⟩ := h
    obtain ⟨h1, h2, h3⟩ := B.eqs_ok kt he
    split at h
    · rename_i f g hu
      simp only [Bool.and_eq_true] at h
      obtain ⟨of, og, tf, tg⟩ := h
      have of := beq_of of
      have og := beq_of og
      have tf := isStrTy_spec tf
      have tg := isStrTy_spec tg
      have hfo : B.P.fieldsOf kt = #[f, g] := by unfold Program.fieldsOf; rw [hu]
      rw [hfo] at h3
      simp only [Array.toList, List.all_cons, List.all_nil, Bool.and_true, Bool.and_eq_true, bne_iff_ne, ne_eq] at h3
      have heq : ∀ (p q : List UInt8 × List UInt8) w, (Op.equal kt (KTy.val .p p) (KTy.val .p q)).run B.P w = .ok (p == q) w := by
        intro p q w
        have e : Op.equal kt (KTy.val .p p) (KTy.val .p q) = Op.equalIn (9999 + 1) kt (.agg #[.string ⟨p.1.toArray⟩, .string ⟨p.2.toArray⟩]) (.agg #[.string ⟨q.1.toArray⟩, .string ⟨q.2.toArray⟩]) := rfl
        rw [e, run_equalIn_agg w 9999 kt _ _ (by rw [hfo]; exact hu) h1, hfo]
        exact eqFields_pair h3.1 h3.2 of og tf tg p q w
      refine ⟨fun b k w => ?_, fun k => ?_, fun {α} k l es hl hk => ?_⟩
      · rw [show (10000 : Nat) = 9998 + 1 + 1 from rfl, Instr.checkKey]
        have c1 : ∀ (t : TypeId) (x : List UInt8) w, B.P.underlying t = some .string → (Instr.checkKey b (9998 + 1) t (.string ⟨x.toArray⟩)).run B.P w = .ok () w := by
          intro t x w ht
          rw [Instr.checkKey]
          simp [run_underlying ht]
        simp [run_underlying hu, KTy.val, h3.1, h3.2, run_part_str (cs := #[.string ⟨k.1.toArray⟩, .string ⟨k.2.toArray⟩]) (off := f.offset) (v := .string ⟨k.1.toArray⟩) tf (by rw [of]; rfl), run_part_str (cs := #[.string ⟨k.1.toArray⟩, .string ⟨k.2.toArray⟩]) (off := g.offset) (v := .string ⟨k.2.toArray⟩) tg (by rw [og]; rfl), c1 _ _ _ tf, c1 _ _ _ tg]
      · simp [Instr.sameBits, KTy.val, ba_beq]
      · have ask : ∀ (l : List (KTy.T .p × α)) (es : List MapEntry) (i0 : Nat), es.length = l.length → (∀ (i : Nat) k' v e, l[i]? = some (k', v) → es[i]? = some e → e.key = KTy.val .p k') →
            (mget .p l k = none ∧ (∀ w, (Instr.findAsking kt (KTy.val .p k) es i0).run B.P w = .ok none w) ∧ (∀ a, mset .p l k a = l ++ [(k, a)]) ∧ mdel .p l k = l) ∨
            ∃ j v e, l[j]? = some (k, v) ∧ mget .p l k = some v ∧ es[j]? = some e ∧ (∀ w, (Instr.findAsking kt (KTy.val .p k) es i0).run B.P w = .ok (some (i0 + j, e.val)) w) ∧ (∀ a, mset .p l k a = l.set j (k, a)) ∧ mdel .p l k = l.eraseIdx j := by
          intro l
          induction l with
          | nil =>
            intro es i0 hl _
            have : es = [] := List.length_eq_zero_iff.1 hl
            subst this
            exact .inl ⟨rfl, fun w => rfl, fun a => rfl, rfl⟩
          | cons x l ih =>
            intro es i0 hl hk
            obtain ⟨k', v⟩ := x
            match es, hl with
            | e :: es, hl =>
              have h0 := hk 0 k' v e rfl rfl
              have hstep : ∀ w, (Instr.findAsking kt (KTy.val .p k) (e :: es) i0).run B.P w = (if (KTy.beq .p k k') = true then (pure (some (i0, e.val)) : Sem _) else Instr.findAsking kt (KTy.val .p k) es (i0 + 1)).run B.P w := by
                intro w
                rw [Instr.findAsking, h0]
                simp only [Sem.run_bind, heq, Result.andThen_ok]
                rfl
              cases hb : KTy.beq .p k k' with
              | true =>
                obtain rfl := (kbeq_iff (κ := .p) k k').1 hb
                exact .inr ⟨0, v, e, rfl, by simp [mget, hb], rfl, fun w => by rw [hstep, hb, if_pos rfl]; rfl, fun a => by simp [mset, hb], by simp [mdel, hb]⟩
              | false =>
                rcases ih es (i0 + 1) (by simpa using hl) (fun i k1 v1 e1 q1 q2 => hk (i + 1) k1 v1 e1 (by simpa using q1) (by simpa using q2)) with ⟨a1, a2, a3, a4⟩ | ⟨j, v1, e1, a1, a2, a3, a4, a5, a6⟩
                · exact .inl ⟨by simp [mget, hb, a1], fun w => by rw [hstep, hb, if_neg (by simp)]; exact a2 w, fun a => by simp [mset, hb, a3], by simp [mdel, hb, a4]⟩
                · exact .inr ⟨j + 1, v1, e1, by simpa using a1, by simp [mget, hb, a2], by simpa using a3, fun w => by rw [hstep, hb, if_neg (by simp), a4, Nat.add_assoc, Nat.add_comm 1 j], fun a => by simp [mset, hb, a5], by simp [mdel, hb, a6]⟩
        have hfk : ∀ w, (Instr.findKey kt (KTy.val .p k) es).run B.P w = (Instr.findAsking kt (KTy.val .p k) es 0).run B.P w := by
          intro w
          unfold Instr.findKey
          simp only [Sem.run_bind, run_underlying hu, Result.andThen_ok]
          cases es with
          | nil => rfl
          | cons e es => rfl
        rcases ask l es 0 hl hk with ⟨a1, a2, a3⟩ | ⟨j, v, e, a1, a2, a3, a4, a5⟩
        · exact .inl ⟨a1, fun w => by rw [hfk, a2], a3⟩
        · exact .inr ⟨j, v, e, a1, a2, a3, fun w => by rw [hfk, a4, Nat.zero_add], a5⟩
    · cases h
  · obtain ⟨d, hu, hd⟩ := keyTyOk_spec hp h
    refine ⟨fun b k w => run_checkKey hu hd b k w, fun k => sameBits_self hd k, fun {α} k l es hl hk => ?_⟩
    rcases find_sound hd k l es 0 hl hk with ⟨a1, a2, a3⟩ | ⟨j, v, e, a1, a2, a3, a4, a5, a6⟩
    · exact .inl ⟨a1, fun w => run_findKey hu a2 w, a3, mdel_none a1⟩
    · refine .inr ⟨j, v, e, a1, a2, a3, fun w => by rw [run_findKey hu a4 w, Nat.zero_add], a5, a6⟩
theorem zero1K_sound {P : Program} {t : TypeId} {K : SV → Prop} (h : zero1K P t K) :
    ∃ sv z, K sv ∧ sv.okIds (fun _ => false) = true ∧ (∀ w, (zeroValue t).run P w = .ok z w) ∧ ∀ r β, Rel r β sv z := by
  unfold zero1K at h
  split at h
  · rename_i i hi
    split at h
    · rename_i z hz
      obtain ⟨sv, hk, hid, hr⟩ := constAK_sound h
      exact ⟨sv, z, hk, hid, fun w => by simp [zeroValue, typeInfo, hi, hz], hr⟩
    · exact h.elim
  · exact h.elim
theorem oneK_sound {l : List SV} {K : SV → Prop} (h : oneK l K) : ∃ sv, l = [sv] ∧ K sv := by
  unfold oneK at h
  split at h
  · exact ⟨_, rfl, h⟩
  · exact h.elim
theorem enc_pure : ∀ (τ : Ty) (x : τ.T) (j : Nat) (sv : SV), (τ.enc x)[j]? = some sv → sv.okIds (fun _ => false) = true := by
  intro τ
  induction τ with
  | pr a b iha ihb =>
    intro x j sv h
    simp only [Ty.enc] at h
    rw [List.getElem?_append] at h
    split at h
    · exact iha _ _ _ h
    · exact ihb _ _ _ h
  | _ => intro x j sv h; cases j <;> simp [Ty.enc] at h; subst h; rfl
theorem unwK_sound {κ : KTy} {v : SV} {K : SV → Prop} (h : unwK κ v K) : ∃ x, K x ∧ v = κ.wv x := by
  unfold unwK at h
  split at h
  · exact ⟨_, h, rfl⟩
  · exact h.elim
  · rename_i hw
    refine ⟨_, h, ?_⟩
    cases κ <;> first | rfl | (exfalso; simp_all)
theorem wv_rel {κ : KTy} {x y : SV} {r : Mem} {β β' : Bind} (h : ∀ v, Rel r β x v → Rel r β' y v) {v : Value} (hv : Rel r β (κ.wv x) v) : Rel r β' (κ.wv y) v := by
  cases κ with
  | w =>
    have hv : Rel r β (.agg [x]) v := hv
    obtain ⟨cs, rfl, hcs⟩ := hv.aggL_inv
    obtain ⟨v1, us, rfl, h1, h2⟩ := hcs.uncons
    have : us = [] := List.length_eq_zero_iff.1 h2.1
    subst this
    refine .agg rfl fun i sv v q1 q2 => ?_
    match i with
    | 0 => simp at q1 q2; subst q1; subst q2; exact h _ h1
    | i + 1 => simp at q1
  | _ => exact h v hv
theorem evLookup_sound {B : Base} {Φ t x i ok} {K : SV → Prop} (h : evLookup B Φ t x i ok K) :
    ∃ sv, K sv ∧ ∀ r β vx vi, Rel r β x vx → Rel r β i vi → ∀ w, MemSat r β Φ w → ∃ v, Rel r β sv v ∧ (Instr.lookup t vx vi ok).run B.P w = .ok v w := by
  unfold evLookup at h
  split at h
  · rename_i kt e id hu
    split at h
    · rename_i κ τ l hg
      cases hko : keyTyOk B kt κ with
      | false => rw [hko] at h; exact h.elim
      | true =>
        rw [hko] at h
        have hK := keyTyOk_ok hko
        obtain ⟨k, h, hkey⟩ := decKeyK_sound h
        obtain ⟨z0, zv, h, _, hzrun, hzrel⟩ := zero1K_sound h
        obtain ⟨z, h2, hz0⟩ := unwK_sound h
        subst hz0
        clear h
        have h := h2
        clear h2
        obtain ⟨dv, h, hent⟩ := dec1K_sound h
        obtain ⟨sv, hsv, h⟩ := oneK_sound h
        have main : ∀ r β vx vi, Rel r β (.mref id) vx → Rel r β i vi → ∀ w, MemSat r β Φ w → ∃ v, Rel r β (κ.wv sv) v ∧ (Instr.lookup t vx vi ok).run B.P w = .ok (bif ok then .tuple #[v, .bool (mget κ l k).isSome] else v) w := by
          intro r β vx vi hx hi w m
          obtain rfl := hkey _ _ _ hi
          cases hx with
          | mref hβ =>
          rename_i b
          have hs := m.chs _ _ hg
          cases hs with
          | mp hxb hw hl hk hv hb hn =>
          rename_i b' es clock
          rw [hβ] at hxb
          obtain rfl : b = b' := by simpa using hxb
          rcases hK.find k l es.toList (by simpa using hl) (fun i k' v e q1 q2 => hk i k' v e q1 (by simpa using q2)) with ⟨a1, a2, a3, _⟩ | ⟨j, v, e1, a1, a2, a3, a4, a5, _⟩
          · rw [a1] at hsv
            have hsv : τ.enc dv = [sv] := hsv
            rw [hsv] at hent
            refine ⟨zv, wv_rel (fun v hv => (hent.2 0 z sv rfl rfl).1 _ _ _ hv) (hzrel r β), ?_⟩
            simp only [Instr.lookup, Sem.run_bind, run_underlying hu, Result.andThen_ok, Go.MapKept.run_getObj_map hw, Sem.run_pure, hK.check, a2, hzrun, a1]
            cases ok <;> rfl
          · rw [a2] at hsv
            have hsv : τ.enc v = [sv] := hsv
            obtain ⟨sv', p1, p2, p3⟩ := hv j k v e1 a1 (by simpa using a3)
            rw [hsv] at p1
            obtain rfl : sv = sv' := by simpa using p1
            refine ⟨e1.val, wv_rel (fun u hu => hu.pure (enc_pure τ v 0 sv (by rw [hsv]; rfl)) β) p3, ?_⟩
            simp only [Instr.lookup, Sem.run_bind, run_underlying hu, Result.andThen_ok, Go.MapKept.run_getObj_map hw, Sem.run_pure, hK.check, a4, a2]
            cases ok <;> rfl
        cases ok with
        | false =>
          refine ⟨κ.wv sv, h, fun r β vx vi hx hi w m => ?_⟩
          obtain ⟨v, h1, h2⟩ := main r β vx vi hx hi w m
          exact ⟨v, h1, h2⟩
        | true =>
          refine ⟨_, h, fun r β vx vi hx hi w m => ?_⟩
          obtain ⟨v, h1, h2⟩ := main r β vx vi hx hi w m
          refine ⟨.tuple #[v, .bool (mget κ l k).isSome], .tup (cs := [v, .bool (mget κ l k).isSome]) rfl (fun i sv v h3 h4 => ?_), h2⟩
          match i with
          | 0 => simp at h3 h4; subst h3; subst h4; exact h1
          | 1 => simp at h3 h4; subst h3; subst h4; exact .bool
          | i + 2 => simp at h3
    · exact h.elim
  · exact h.elim
end Go.Vc

namespace Go.Vc
set_option autoImplicit false
theorem new_lits {P : Program} {e : TypeId} {ln : Nat} {rows : List (List SV)} {us : Array Value} {r : Mem} {β : Bind} {b0 : Nat} (h1 : rows.length = ln) (hrow : ∀ (i : Nat) row, rows[i]? = some row → row.length = sizeT P e) (hsz : sizeT P e ≠ 0) (hble : ln * sizeT P e ≤ 16777216)
    (hone : ∀ (i : Nat) row (j : Nat) sv, rows[i]? = some row → row[j]? = some sv → sv.one = true ∧ sv.okIds (fun _ => false) = true) (hus : us.size = ln * sizeT P e)
    (hrel : ∀ (i : Nat) row (j : Nat) sv v, rows[i]? = some row → row[j]? = some sv → us[i * sizeT P e + j]? = some v → Rel r β0 sv v) (hb : r b0 = some (.cells us e (0, 0))) :
    Rel r β (.lits (sizeT P e) rows) (.slice (some ⟨b0, 0, none⟩) ln ln) := by
  by_cases hl0 : ln = 0
  · subst hl0
    have : rows = [] := List.length_eq_zero_iff.1 h1
    subst this
    exact .litsE
  · have hle : ln ≤ ln * sizeT P e := Nat.le_mul_of_pos_right ln (by omega)
    have := Rel.lits (r := r) (β := β) (sz := sizeT P e) (rows := rows) (b := b0) (off := 0) (cap := ln) hb (by rw [h1]; omega) (by omega) hrow (fun i row j sv q1 q2 => (hone i row j sv q1 q2).1)
      (by rw [h1, hus]; omega) (fun i row j sv v q1 q2 q3 => hrel i row j sv v q1 q2 (by rw [Nat.zero_add] at q3; exact q3))
    rw [h1] at this
    exact this
theorem buildRdK_sound {B : Base} {σ ctx t ln parts} {K : SV → Prop} (h : buildRdK B σ ctx t ln parts K) :
    ∃ sv, K sv ∧ ∀ p r β (a : Act) g Φ w, (∀ y ∈ parts, Has p y.2) → Sm p r β σ a.tmps ctx g → MemSat r β Φ w →
      ∃ v w', (Instr.buildSlice t ln (parts.map fun (i, x) => (i, a.eval x)).toArray).run B.P w = .ok v w' ∧ Quiet r β Φ w sv v w' := by
  unfold buildRdK at h
  split at h
  · rename_i e ht
    have go : ∀ {K : List (List SV) → Prop}, rowsOfK B.P σ ctx e ln parts K → ∃ rows, K rows ∧ ∀ p r β (a : Act) g Φ w, (∀ y ∈ parts, Has p y.2) → Sm p r β σ a.tmps ctx g → MemSat r β Φ w →
        ∃ v w', (Instr.buildSlice t ln (parts.map fun (i, x) => (i, a.eval x)).toArray).run B.P w = .ok v w' ∧ Quiet r β Φ w (.lits (sizeT B.P e) rows) v w' := by
      intro K h
      obtain ⟨rows, hk, h1, h2, h3, h4, h5, h6⟩ := rowsOfK_sound h
      refine ⟨rows, hk, fun p r β a g Φ w hP sm m => ?_⟩
      obtain ⟨us, hus, hrun, hrel⟩ := h6 p r β a g hP sm
      obtain ⟨hle, hm, hid⟩ := mem_grow m (.cells us e)
      refine ⟨_, _, hrun t w ht, _, ?_, hle, hm, hid⟩
      exact new_lits h1 h2 h3 h4 h5 hus (fun i row j sv v q1 q2 q3 => (hrel i row j sv v q1 q2 q3).mono hle) (by simp [Nat.beq_refl])
    split at h
    · rename_i τ hty
      cases hz : szOk B.P e τ.size with
      | false => rw [hz] at h; exact h.elim
      | true =>
        rw [hz] at h
        obtain ⟨rows, h, hq⟩ := go h
        obtain ⟨l, hk, hl⟩ := decRowsK_sound (fun _ _ h => decK_sound h) h
        refine ⟨_, hk, fun p r β a g Φ w hP sm m => ?_⟩
        obtain ⟨v, w', g1, r', g2, g3⟩ := hq p r β a g Φ w hP sm m
        exact ⟨v, w', g1, r', hl.lits (szOk_spec hz).1 g2, g3⟩
    · obtain ⟨rows, hk, hq⟩ := go h
      exact ⟨_, hk, hq⟩
  · exact h.elim
theorem evK_float {B : Base} {Φ σ ctx g ung op} {K : SV → Prop} (hfl : floats op = true) (h : evK B Φ σ ctx g ung op K) :
    ∃ sv, K sv ∧ ∀ p r β a, (∀ x ∈ op.operands.toList, Has p x) → Sm p r β σ (Act.tmps a) ctx g → ∀ dst ty pos after guard, ∃ v, Rel r β sv v ∧ ∀ w, (execOp a.eval ⟨dst, op, ty, pos, after, guard⟩).run B.P w = .ok (.value v) w := by
  unfold evK at h
  split at h
  · -- move
    obtain ⟨sv, hk, hr⟩ := opK_sound h
    exact ⟨sv, hk, fun p r β a hP sm dst ty pos after guard => ⟨_, hr p r β a g (hP _ (by simp [Op.operands])) sm, fun w => rfl⟩⟩
  · obtain ⟨sv, hk, hr⟩ := opK_sound h
    exact ⟨sv, hk, fun p r β a hP sm dst ty pos after guard => ⟨_, hr p r β a g (hP _ (by simp [Op.operands])) sm, fun w => rfl⟩⟩
  · -- pick
    obtain ⟨sv, hk, hr⟩ := evPick_sound h
    refine ⟨sv, hk, fun p r β a hP sm dst ty pos after guard => ?_⟩
    obtain ⟨v, hv, hw⟩ := hr p r β a g (hP _ (by simp [Op.operands])) (hP _ (by simp [Op.operands])) (hP _ (by simp [Op.operands])) sm
    exact ⟨v, hv, fun w => hw _ _ _ _ _ _ _⟩
  · -- binOp
    rename_i op t x y t'
    obtain ⟨sx, h, hx⟩ := opK_sound h
    obtain ⟨sy, h, hy⟩ := opK_sound h
    obtain ⟨sv, hk, hr⟩ := evBinB_sound h
    refine ⟨sv, hk, fun p r β a hP sm dst ty pos after guard => ?_⟩
    have hpx := hP x (by simp [Op.operands])
    have hpy := hP y (by simp [Op.operands])
    obtain ⟨hgd, v, hv, hw⟩ := hr sm.valid r β _ _ (hx p r β a g hpx sm) (hy p r β a g hpy sm)
    refine ⟨v, hv, fun w => ?_⟩
    simp only [execOp, Sem.run_bind, hgd x y w, Result.andThen_ok, hw w, Sem.run_pure]
  · -- unOp
    obtain ⟨sx, h, hx⟩ := opK_sound h
    obtain ⟨sv, hk, hr⟩ := evUn_sound (P := B.P) h
    refine ⟨sv, hk, fun p r β a hP sm dst ty pos after guard => ?_⟩
    obtain ⟨v, hv, hw⟩ := hr sm.valid r β _ (hx p r β a g (hP _ (by simp [Op.operands])) sm)
    exact ⟨v, hv, fun w => by simp only [execOp, Sem.run_bind, hw w, Result.andThen_ok, Sem.run_pure]⟩
  · -- convert
    obtain ⟨sx, h, hx⟩ := opK_sound h
    obtain ⟨sv, hk, hr⟩ := evConv_sound (P := B.P) h
    refine ⟨sv, hk, fun p r β a hP sm dst ty pos after guard => ?_⟩
    obtain ⟨v, hv, hw⟩ := hr sm.valid r β _ (hx p r β a g (hP _ (by simp [Op.operands])) sm)
    exact ⟨v, hv, fun w => by simp only [execOp, Sem.run_bind, hw w, Result.andThen_ok, Sem.run_pure]⟩
  · -- index
    obtain ⟨sx, h, hx⟩ := opK_sound h
    obtain ⟨si, h, hi⟩ := opK_sound h
    obtain ⟨sv, hk, hr⟩ := evIndex_sound h
    refine ⟨sv, hk, fun p r β a hP sm dst ty pos after guard => ?_⟩
    obtain ⟨v, hv, hw⟩ := hr sm.valid r β _ _ (hx p r β a g (hP _ (by simp [Op.operands])) sm) (hi p r β a g (hP _ (by simp [Op.operands])) sm)
    exact ⟨v, hv, fun w => by simp only [execOp, Sem.run_bind, hw w, Result.andThen_ok, Sem.run_pure]⟩
  · -- slice
    rename_i t x lo hi
    obtain ⟨sx, h, hx⟩ := opK_sound h
    obtain ⟨slo, h, hlo⟩ := loK_sound h
    obtain ⟨shi, h, hhi⟩ := loK_sound h
    obtain ⟨sv, hk, hr⟩ := evSlice_sound h
    refine ⟨sv, hk, fun p r β a hP sm dst ty pos after guard => ?_⟩
    have conv : ∀ (x : Option Operand) (y : Option Int), OptEv a x y → OptIs y (x.map a.eval) := by
      intro x y h; cases x <;> cases y <;> first | exact h | trivial
    obtain ⟨v, hv, hw⟩ := hr sm.valid r β _ _ _ (hx p r β a g (hP _ (by simp [Op.operands])) sm) (conv _ _ (hlo p r β a g (fun o ho => hP _ (by simp [Op.operands, ho])) sm)) (conv _ _ (hhi p r β a g (fun o ho => hP _ (by simp [Op.operands, ho])) sm))
    exact ⟨v, hv, fun w => by simp only [execOp, Option.map_none, Sem.run_bind, hw w, Result.andThen_ok, Sem.run_pure]⟩
  · -- field
    obtain ⟨sx, h, hx⟩ := opK_sound h
    obtain ⟨sv, hk, hr⟩ := evField_sound h
    refine ⟨sv, hk, fun p r β a hP sm dst ty pos after guard => ?_⟩
    obtain ⟨v, hv, hw⟩ := hr r β _ (hx p r β a g (hP _ (by simp [Op.operands])) sm)
    exact ⟨v, hv, fun w => by simp only [execOp, Sem.run_bind, hw w, Result.andThen_ok, Sem.run_pure]⟩
  · cases hfl
  · -- fieldAddr
    obtain ⟨sx, h, hx⟩ := opK_sound h
    obtain ⟨sv, hk, hr⟩ := evFieldAddr_sound h
    refine ⟨sv, hk, fun p r β a hP sm dst ty pos after guard => ?_⟩
    obtain ⟨v, hv, hw⟩ := hr r β _ (hx p r β a g (hP _ (by simp [Op.operands])) sm)
    exact ⟨v, hv, fun w => by simp only [execOp, Sem.run_bind, hw w, Result.andThen_ok, Sem.run_pure]⟩
  · cases hfl
  · -- extract
    rename_i x i
    obtain ⟨sx, h, hx⟩ := opK_sound h
    cases sx <;> simp only at h
    rename_i l
    split at h
    · rename_i sv hn
      rw [nth_eq] at hn
      refine ⟨sv, h, fun p r β a hP sm dst ty pos after guard => ?_⟩
      have hv := hx p r β a g (hP _ (by simp [Op.operands])) sm
      generalize hq : a.eval x = v at hv
      cases hv with
      | tup hl hr =>
        rename_i cs
        have hlt : i < cs.length := by
          rcases Nat.lt_or_ge i l.length with h | h
          · omega
          · rw [List.getElem?_eq_none h] at hn; cases hn
        have hc : cs[i]? = some cs[i] := List.getElem?_eq_getElem hlt
        refine ⟨cs[i], hr _ _ _ hn hc, fun w => ?_⟩
        simp [execOp, hq, Instr.extract, hlt]
    · exact h.elim
  · cases hfl
  · cases hfl
  · cases hfl
  · cases hfl
  · -- nilCheck
    rename_i x
    obtain ⟨sx, h, hx⟩ := opK_sound h
    unfold evNil at h
    split at h
    · refine ⟨_, h, fun p r β a hP sm dst ty pos after guard => ?_⟩
      have hv := hx p r β a g (hP _ (by simp [Op.operands])) sm
      refine ⟨_, hv, fun w => ?_⟩
      generalize hq : a.eval x = v at hv
      cases hv
      simp only [execOp, hq]; rfl
    · refine ⟨_, h, fun p r β a hP sm dst ty pos after guard => ?_⟩
      have hv := hx p r β a g (hP _ (by simp [Op.operands])) sm
      refine ⟨_, hv, fun w => ?_⟩
      generalize hq : a.eval x = v at hv
      cases hv
      simp only [execOp, hq]; rfl
    · refine ⟨_, h, fun p r β a hP sm dst ty pos after guard => ?_⟩
      have hv := hx p r β a g (hP _ (by simp [Op.operands])) sm
      refine ⟨_, hv, fun w => ?_⟩
      generalize hq : a.eval x = v at hv
      cases hv
      simp only [execOp, hq]; rfl
    · exact h.elim
  · cases hfl
  · cases hfl
  · exact h.elim
theorem evK_sound {B : Base} {Φ σ ctx g ung op} {K : SV → Prop} (h : evK B Φ σ ctx g ung op K)
    (hp : ung = true → ∃ p r β a w, (∀ x ∈ op.operands.toList, Has p x) ∧ Sm p r β σ (Act.tmps a) ctx g ∧ MemSat r β Φ w) :
    ∃ sv, K sv ∧ (∀ c, op ≠ .defer c) ∧ ∀ p r β a w0, (∀ x ∈ op.operands.toList, Has p x) → Sm p r β σ (Act.tmps a) ctx g → B.G r → MemSat r β Φ w0 → ∀ dst ty pos after guard, OpTo B.P a w0 ⟨dst, op, ty, pos, after, guard⟩ (Quiet r β Φ w0 sv) := by
  cases hfl : floats op with
  | true =>
    obtain ⟨sv, hk, hr⟩ := evK_float hfl h
    refine ⟨sv, hk, (fun c hc => by subst hc; cases hfl), fun p r β a w0 hP sm hG m dst ty pos after guard => ?_⟩
    obtain ⟨v, hv, hw⟩ := hr p r β a hP sm dst ty pos after guard
    exact .val v w0 (hw w0) (Quiet.same m hv)
  | false =>
  unfold evK at h
  split at h
  · cases hfl
  · cases hfl
  · cases hfl
  · cases hfl
  · cases hfl
  · cases hfl
  · cases hfl
  · cases hfl
  · cases hfl
  · -- load
    obtain ⟨sx, h, hx⟩ := opK_sound h
    obtain ⟨sv, hk, hr⟩ := evLoad_sound h
    refine ⟨sv, hk, (fun c hc => by cases hc), fun p r β a w0 hP sm hG m dst ty pos after guard => ?_⟩
    obtain ⟨v, hv, hw⟩ := hr sm.valid r β _ (hx p r β a g (hP _ (by simp [Op.operands])) sm) w0 m
    exact .val v w0 (by simp only [execOp, Sem.run_bind, hw w0 (Near.refl m), Result.andThen_ok, Sem.run_pure]) (Quiet.same m hv)
  · cases hfl
  · -- indexAddr
    obtain ⟨sx, h, hx⟩ := opK_sound h
    obtain ⟨si, h, hi⟩ := opK_sound h
    obtain ⟨sv, hk, hr⟩ := evIndexAddr_sound h
    refine ⟨sv, hk, (fun c hc => by cases hc), fun p r β a w0 hP sm hG m dst ty pos after guard => ?_⟩
    obtain ⟨v, hv, hw⟩ := hr sm.valid r β _ _ (hx p r β a g (hP _ (by simp [Op.operands])) sm) (hi p r β a g (hP _ (by simp [Op.operands])) sm) w0 m
    exact .val v w0 (by simp only [execOp, Sem.run_bind, hw w0, Result.andThen_ok, Sem.run_pure]) (Quiet.same m hv)
  · cases hfl
  · -- build
    rename_i t parts
    obtain ⟨sv, hk, hr⟩ := evBuild_sound h
    refine ⟨sv, hk, (fun c hc => by cases hc), fun p r β a w0 hP sm hG m dst ty pos after guard => ?_⟩
    obtain ⟨v, hv, hw⟩ := hr p r β a g (fun y hy => hP _ (by simp only [Op.operands]; exact List.mem_map.2 ⟨y, hy, rfl⟩)) sm
    refine .val v w0 ?_ (Quiet.same m hv)
    have : (Array.map (fun (x : Nat × Operand) => (x.1, a.eval x.2)) ⟨parts⟩) = (parts.map fun (i, x) => (i, a.eval x)).toArray := by simp
    simp only [execOp, Sem.run_bind]
    rw [this, hw w0]; rfl
  · -- makeFunc
    rename_i f caps
    obtain ⟨l, hk, h1, h2⟩ := opsK_sound h
    refine ⟨_, hk, (fun c hc => by cases hc), fun p r β a w0 hP sm hG m dst ty pos after guard => ?_⟩
    have hl := evalL h1 (h2 p r β a g (fun x hx => hP _ (by simpa [Op.operands] using hx)) sm)
    refine .val (.func (.func f) #[] (caps.map a.eval).toArray) w0 ?_ (Quiet.same m (.fn hl.1 hl.2))
    simp [execOp, Instr.makeFunc]
  · -- builtin
    rename_i b xs ts
    have hops : ∀ x, x ∈ xs → x ∈ (Op.operands (.call ⟨.builtin b, ⟨xs⟩, ⟨ts⟩⟩)).toList := fun x hx => by simp [Op.operands, Call.operands, hx]
    obtain ⟨l, h, h1, h2⟩ := opsK_sound h
    obtain ⟨sv, hk, hr⟩ := evBuiltin_sound h (fun hu => by
      obtain ⟨p, r, β, a, w, hP, sm, m⟩ := hp hu
      exact ⟨r, β, xs.map a.eval, w, evalL h1 (h2 p r β a g (fun x hx => hP _ (hops x hx)) sm), m⟩)
    refine ⟨sv, hk, (fun c hc => by cases hc), fun p r β a w0 hP sm hG m dst ty pos after guard => ?_⟩
    obtain ⟨v, hv, hw⟩ := hr r β _ (evalL h1 (h2 p r β a g (fun x hx => hP _ (hops x hx)) sm))
    refine .val v w0 ?_ (Quiet.same m hv)
    have := hw w0 ty (Array.map (fun | .const _ => true | _ => false) (⟨xs⟩ : Array Operand)) m
    simp only [execOp, resolve, Sem.run_bind, Sem.run_pure, Result.andThen_ok, invoke]
    rw [show Array.map a.eval ⟨xs⟩ = (xs.map a.eval).toArray by simp]
    exact this
  · -- a call
    rename_i f xs ts
    have hops : ∀ x, x ∈ xs → x ∈ (Op.operands (.call ⟨.value f, ⟨xs⟩, ts⟩)).toList := fun x hx => by simp [Op.operands, Call.operands, hx]
    have hopf : f ∈ (Op.operands (.call ⟨.value f, ⟨xs⟩, ts⟩)).toList := by simp [Op.operands, Call.operands]
    obtain ⟨fv, h, hf⟩ := opK_sound h
    cases fv <;> simp only at h
    rename_i fid caps
    obtain ⟨l, h, h1, h2⟩ := opsK_sound h
    have h := appK_sound h
    obtain ⟨sv, hk, hr⟩ := call_sound h
    refine ⟨sv, hk, (fun c hc => by cases hc), fun p r β a w0 hP sm hG m dst ty pos after guard => ?_⟩
    have hfv := hf p r β a g (hP _ hopf) sm
    generalize hq : a.eval f = v at hfv
    cases hfv with
    | fn hl hc =>
      rename_i cs
      refine hr sm.valid r β w0 (xs.map a.eval ++ cs) a _ hG m ((evalL h1 (h2 p r β a g (fun x hx => hP _ (hops x hx)) sm)).append ⟨hl, hc⟩) fun w => ?_
      simp only [execOp, resolve, hq, Deferred.ofValue, Sem.run_bind, Sem.run_pure, Result.andThen_ok, invoke]
      congr 2
      simp
  · cases hfl
  · -- lookup
    obtain ⟨sx, h, hx⟩ := opK_sound h
    obtain ⟨si, h, hi⟩ := opK_sound h
    obtain ⟨sv, hk, hr⟩ := evLookup_sound h
    refine ⟨sv, hk, (fun c hc => by cases hc), fun p r β a w0 hP sm hG m dst ty pos after guard => ?_⟩
    obtain ⟨v, hv, hw⟩ := hr r β _ _ (hx p r β a g (hP _ (by simp [Op.operands])) sm) (hi p r β a g (hP _ (by simp [Op.operands])) sm) w0 m
    exact .val v w0 (by simp only [execOp, Sem.run_bind, hw, Result.andThen_ok, Sem.run_pure]) (Quiet.same m hv)
  · -- a slice, written out
    rename_i t ln parts
    obtain ⟨sv, hk, hr⟩ := buildRdK_sound h
    refine ⟨sv, hk, (fun c hc => by cases hc), fun p r β a w0 hP sm hG m dst ty pos after guard => ?_⟩
    obtain ⟨v, w', h1, h2⟩ := hr p r β a g Φ w0 (fun y hy => hP _ (by simp only [Op.operands]; exact List.mem_map.2 ⟨y, hy, rfl⟩)) sm m
    refine .val v w' ?_ h2
    have : (Array.map (fun (x : Nat × Operand) => (x.1, a.eval x.2)) ⟨parts⟩) = (parts.map fun (i, x) => (i, a.eval x)).toArray := by simp
    simp only [execOp, Sem.run_bind]
    rw [this, h1]; rfl
  · exact h.elim
end Go.Vc

namespace Go.Vc
set_option autoImplicit false
def Keep (β : Bind) (Φ : Phi) (β' : Bind) (Φ' : Phi) : Prop := ∀ id ch, Phi.get Φ id = some ch → ch.kind ≠ 0 → β' id = β id ∧ ∃ ch', Phi.get Φ' id = some ch' ∧ ch'.kind = ch.kind
theorem Keep.refl (β Φ) : Keep β Φ β Φ := fun _ ch h _ => ⟨rfl, ch, h, rfl⟩
theorem Keep.trans {β Φ β' Φ' β2 Φ2} (h : Keep β Φ β' Φ') (k : Keep β' Φ' β2 Φ2) : Keep β Φ β2 Φ2 := fun id ch h0 hk => by
  obtain ⟨q1, ch1, q2, q3⟩ := h id ch h0 hk
  obtain ⟨p1, ch2, p2, p3⟩ := k id ch1 q2 (by rw [q3]; exact hk)
  exact ⟨p1.trans q1, ch2, p2, p3.trans q3⟩
def Marks (r : Mem) (β : Bind) (Φ : Phi) (w : World) (lo : Nat → Prop) (ds : List Deferred) : Prop :=
  ∃ Ds : List Nat, ds = Ds.map (fun D => { target := .collected D, args := #[] }) ∧ Ds.Nodup ∧
    ∀ D ∈ Ds, lo D ∧ w.heap[D]? = some (.deferred (some [])) ∧ r D = none ∧ ∀ id ch, Phi.get Φ id = some ch → ch.blk (β id) ≠ some D
theorem Marks.step {r β Φ w lo ds r' β' Φ' w'} (h : Marks r β Φ w lo ds) (hid : Hid r β Φ w r' β' Φ' w') : Marks r' β' Φ' w' lo ds := by
  obtain ⟨Ds, h1, h2, h3⟩ := h
  refine ⟨Ds, h1, h2, fun D hD => ?_⟩
  obtain ⟨g1, g2, g3, g4⟩ := h3 D hD
  obtain ⟨k1, k2, k3⟩ := hid.block D (lt_of_get g2) g3 g4
  exact ⟨g1, k1.trans g2, k2, k3⟩
structure Entry where
  r : Mem
  S : Nat → Prop
  lo : Nat → Prop
  β : Bind
  Φ : Phi
  w : World
structure Kept (e : Entry) (r : Mem) (β : Bind) (Φ : Phi) (w : World) : Prop where
  le : e.r.le r
  os : w.os = e.w.os
  tape : w.tape = e.w.tape
  output : w.output = e.w.output
  size : e.w.heap.size ≤ w.heap.size
  block : ∀ b, e.S b → w.heap[b]? = e.w.heap[b]? ∧ r b = none ∧ (∀ id ch, Phi.get Φ id = some ch → ch.blk (β id) ≠ some b)
  keep : ∀ id ch, Phi.get e.Φ id = some ch → ch.kind ≠ 0 → β id = e.β id ∧ ∃ ch', Phi.get Φ id = some ch' ∧ ch'.kind = ch.kind
  slt : ∀ b, e.S b → b < e.w.heap.size
theorem Kept.step {e r β Φ w r' β' Φ' w'} (h : Kept e r β Φ w) (hle : r.le r') (hid : Hid r β Φ w r' β' Φ' w') : Kept e r' β' Φ' w' :=
  ⟨Mem.le_trans h.le hle, hid.os.trans h.os, hid.tape.trans h.tape, hid.output.trans h.output, Nat.le_trans h.size hid.size, fun b hb => by
    obtain ⟨h1, h2, h3⟩ := h.block b hb
    obtain ⟨k1, k2, k3⟩ := hid.block b (Nat.lt_of_lt_of_le (h.slt b hb) h.size) h2 h3
    exact ⟨k1.trans h1, k2, k3⟩, fun id ch h0 hk => by
    obtain ⟨q1, ch1, q2, q3⟩ := h.keep id ch h0 hk
    obtain ⟨p1, ch2, p2, p3⟩ := hid.keep id ch1 q2 (by rw [q3]; exact hk)
    exact ⟨p1.trans q1, ch2, p2, p3.trans q3⟩, h.slt⟩
def hidS (r : Mem) (β : Bind) (Φ : Phi) (w : World) (b : Nat) : Prop := b < w.heap.size ∧ r b = none ∧ ∀ id ch, Phi.get Φ id = some ch → ch.blk (β id) ≠ some b
def Entry.of (r : Mem) (β : Bind) (Φ : Phi) (w : World) : Entry := ⟨r, hidS r β Φ w, fun D => w.heap.size ≤ D, β, Φ, w⟩
theorem Kept.refl (r β Φ w) : Kept (Entry.of r β Φ w) r β Φ w :=
  ⟨Mem.le_refl r, rfl, rfl, rfl, Nat.le_refl _, fun b hb => ⟨rfl, hb.2.1, hb.2.2⟩, fun id ch h _ => ⟨rfl, ch, h, rfl⟩, fun b hb => hb.1⟩
theorem Kept.hid {r β Φ w r' β' Φ' w'} (h : Kept (Entry.of r β Φ w) r' β' Φ' w') : Hid r β Φ w r' β' Φ' w' :=
  ⟨h.os, h.tape, h.output, h.size, fun b h1 h2 h3 => h.block b ⟨h1, h2, h3⟩, h.keep⟩
structure Sat (B : Base) (e : Entry) (N : Nat) (r : Mem) (β : Bind) (σ : Env) (Φ : Phi) (a : Act) (w : World) : Prop where
  agree : Agree r β σ a.tmps
  mem : MemSat r β Φ w
  G : B.G r
  kept : Kept e r β Φ w
  defers : Marks r β Φ w e.lo a.defers
  size : a.tmps.size = N
theorem Sat.step {B : Base} {e N r β σ Φ a w} (s : Sat B e N r β σ Φ a w) {r' β' σ' Φ' w'} (ha : Agree r' β' σ' a.tmps) (m : MemSat r' β' Φ' w') (hle : r.le r') (hid : Hid r β Φ w r' β' Φ' w') : Sat B e N r' β' σ' Φ' a w' :=
  ⟨ha, m, B.mono _ _ hle s.G, s.kept.step hle hid, s.defers.step hid, s.size⟩
theorem put_some (a : Act) (d : Nat) (v : Value) : (a.put (some d) v).tmps = a.tmps.setIfInBounds d v := rfl
theorem put_defers (a : Act) (d : Option Nat) (v : Value) : (a.put d v).defers = a.defers := by cases d <;> rfl
theorem put_size (a : Act) (d : Option Nat) (v : Value) : (a.put d v).tmps.size = a.tmps.size := by cases d <;> simp [Act.put]
theorem get_cons (k : Nat) (g sv) (σ : Env) (j : Nat) : Env.get ((k, g, sv) :: σ) j = bif Nat.beq k j then some (g, sv) else Env.get σ j := rfl
def GdIn (D : List Nat) (σ : Env) : Prop := ∀ k s w sv, Env.get σ k = some (some (s, w), sv) → s ∈ D
theorem Agree.put {r β σ t D} (h : Agree r β σ t) (hgd : GdIn D σ) {d : Nat} {gd : Option (Nat × Bool)} {sv : SV} {v : Value} (hd : d ∉ D) (hlt : d < t.size)
    (hv : match gd with | none => Rel r β sv v | some (s, w) => s ≠ d ∧ (t[s]? = some (.bool w) → Rel r β sv v) ∧ (t[s]? ≠ some (.bool w) → v = undef)) :
    Agree r β ((d, gd, sv) :: σ) (t.setIfInBounds d v) := by
  have self : (t.setIfInBounds d v)[d]? = some v := by rw [Array.getElem?_setIfInBounds_self_of_lt hlt]
  have other : ∀ k, k ≠ d → (t.setIfInBounds d v)[k]? = t[k]? := fun k hk => Array.getElem?_setIfInBounds_ne (Ne.symm hk)
  intro k g sv' hg
  rw [get_cons] at hg
  cases hb : Nat.beq d k with
  | true =>
    obtain rfl := beq_of hb
    rw [hb] at hg
    simp only [cond_true, Option.some.injEq, Prod.mk.injEq] at hg
    obtain ⟨rfl, rfl⟩ := hg
    cases gd with
    | none => exact ⟨v, self, hv⟩
    | some p =>
      obtain ⟨s, w⟩ := p
      obtain ⟨h1, h2, h3⟩ := hv
      refine ⟨fun hs => ⟨v, self, h2 (by rw [← other s h1]; exact hs)⟩, fun hs => ?_⟩
      rw [self, h3 (by rw [← other s h1]; exact hs)]
  | false =>
    rw [hb] at hg
    simp only [cond_false] at hg
    have hk : k ≠ d := by
      rintro rfl
      have : Nat.beq k k = true := Nat.beq_refl k
      rw [this] at hb; cases hb
    have := h k g sv' hg
    cases g with
    | none => obtain ⟨u, h1, h2⟩ := this; exact ⟨u, by rw [other k hk]; exact h1, h2⟩
    | some p =>
      obtain ⟨s, w⟩ := p
      have hs : s ≠ d := by rintro rfl; exact hd (hgd _ _ _ _ hg)
      simp only [EntSat, other k hk, other s hs] at this ⊢
      exact this
theorem Agree.none {r β σ t} (h : Agree r β σ t) {t' : Array Value} (ht : t' = t) : Agree r β σ t' := by subst ht; exact h
theorem GdIn.put {D σ d gd sv} (h : GdIn D σ) (hg : ∀ s w, gd = some (s, w) → s ∈ D) (d' : List Nat) : GdIn (D ++ d') ((d, gd, sv) :: σ) := by
  intro k s w sv' hk
  rw [get_cons] at hk
  cases hb : Nat.beq d k with
  | true =>
    rw [hb] at hk
    simp only [cond_true, Option.some.injEq, Prod.mk.injEq] at hk
    exact List.mem_append.2 (.inl (hg _ _ hk.1))
  | false => rw [hb] at hk; exact List.mem_append.2 (.inl (h _ _ _ _ hk))
theorem GdIn.more {D σ} (h : GdIn D σ) (d : List Nat) : GdIn (D ++ d) σ := fun k s w sv hk => List.mem_append.2 (.inl (h k s w sv hk))
def dsts (l : List Oper) : List Nat := l.filterMap (·.dst)
theorem freshE_get {n : Nat} {σ : Env} (h : freshE n σ = true) (k : Nat) (g sv) (hg : Env.get σ k = some (g, sv)) : sv.okIds (fun i => !Nat.beq i n) = true := by
  induction σ with
  | nil => simp [Env.get] at hg
  | cons x r ih =>
    obtain ⟨k', g', sv'⟩ := x
    simp only [freshE, Bool.and_eq_true] at h
    rw [get_cons] at hg
    cases hb : Nat.beq k' k with
    | true => rw [hb] at hg; simp at hg; rw [← hg.2]; exact h.1
    | false => rw [hb] at hg; exact ih h.2 hg
theorem phi_cons (k : Nat) (c : Chunk) (Φ : Phi) (j : Nat) : Phi.get ((k, c) :: Φ) j = bif Nat.beq k j then some c else Phi.get Φ j := rfl
theorem freshP_get {n : Nat} {Φ : Phi} (h : freshP n Φ = true) (k : Nat) (ch) (hg : Phi.get Φ k = some ch) : k ≠ n ∧ freshC n ch = true := by
  induction Φ with
  | nil => simp [Phi.get] at hg
  | cons x r ih =>
    obtain ⟨k', c'⟩ := x
    simp only [freshP, Bool.and_eq_true] at h
    rw [phi_cons] at hg
    cases hb : Nat.beq k' k with
    | true =>
      rw [hb] at hg
      simp at hg
      subst hg
      obtain rfl := beq_of hb
      refine ⟨?_, h.2.1⟩
      rintro rfl
      rw [Nat.beq_refl] at h
      simp at h
    | false => rw [hb] at hg; exact ih h.2.2 hg
def setB (β : Bind) (n : Nat) (v : Value) : Bind := fun i => bif Nat.beq i n then v else β i
theorem setB_self (β n v) : setB β n v n = v := by simp [setB]
theorem setB_ne {β : Bind} {n : Nat} {v : Value} {i : Nat} (h : i ≠ n) : setB β n v i = β i := by simp [setB, nbeq_of h]
theorem setB_ok {β : Bind} {n : Nat} {v : Value} (i : Nat) (h : (!Nat.beq i n) = true) : setB β n v i = β i := by
  refine setB_ne ?_
  rintro rfl
  rw [Nat.beq_refl] at h; cases h
theorem heap_alloc_lt {w : World} {o : Obj} {b : Nat} (h : b < w.heap.size) : ({ w with heap := w.heap.push o } : World).heap[b]? = w.heap[b]? := by
  show (w.heap.push o)[b]? = _
  rw [Array.getElem?_push, if_neg (by omega)]
theorem heap_alloc_eq {w : World} {o : Obj} : ({ w with heap := w.heap.push o } : World).heap[w.heap.size]? = some o := by
  show (w.heap.push o)[w.heap.size]? = _
  simp
theorem lt_of_heap {w : World} {b : Nat} {o : Obj} (h : w.heap[b]? = some o) : b < w.heap.size := lt_of_get h
structure Grows (w w' : World) : Prop where
  os : w'.os = w.os
  tape : w'.tape = w.tape
  output : w'.output = w.output
  size : w.heap.size ≤ w'.heap.size
  old : ∀ b, b < w.heap.size → w'.heap[b]? = w.heap[b]?
theorem Grows.alloc (w : World) (o : Obj) : Grows w { w with heap := w.heap.push o } :=
  ⟨rfl, rfl, rfl, by show w.heap.size ≤ (w.heap.push o).size; simp, fun b hb => heap_alloc_lt hb⟩
theorem Agree.of {r r' β β' σ σ' t} (h : Agree r β σ t) (hσ : ∀ k g sv', Env.get σ' k = some (g, sv') → ∃ sv, Env.get σ k = some (g, sv) ∧ ∀ v, Rel r β sv v → Rel r' β' sv' v) : Agree r' β' σ' t := by
  intro k g sv' hg
  obtain ⟨sv, q1, q2⟩ := hσ k g sv' hg
  have := h k g sv q1
  cases g with
  | none => obtain ⟨u, p1, p2⟩ := this; exact ⟨u, p1, q2 u p2⟩
  | some p => obtain ⟨s', w''⟩ := p; exact ⟨fun hs => by obtain ⟨u, p1, p2⟩ := this.1 hs; exact ⟨u, p1, q2 u p2⟩, this.2⟩
theorem mem_new {r β Φ w} {n : Nat} {ch : Chunk} {v : Value} {w' : World} (m : MemSat r β Φ w) (hΦ : freshP n Φ = true)
    (hg : Grows w w') (hblk : ∀ b, ch.blk v = some b → w.heap.size ≤ b) (hch : ch.Sat r (setB β n v) w' v) : MemSat r (setB β n v) ((n, ch) :: Φ) w' ∧ Hid r β Φ w r (setB β n v) ((n, ch) :: Φ) w' := by
  have old : ∀ id c, Phi.get Φ id = some c → setB β n v id = β id := fun id c h => setB_ne (freshP_get hΦ id c h).1
  have alive : ∀ id c b, Phi.get Φ id = some c → c.blk (β id) = some b → b < w.heap.size := fun id c b h1 h2 => (m.chs _ _ h1).alive h2
  have get : ∀ id c, Phi.get ((n, ch) :: Φ) id = some c → (id = n ∧ c = ch) ∨ (id ≠ n ∧ Phi.get Φ id = some c) := by
    intro id c h
    rw [phi_cons] at h
    cases hb : Nat.beq n id with
    | true => obtain rfl := beq_of hb; rw [hb] at h; simp at h; exact .inl ⟨rfl, h.symm⟩
    | false => rw [hb] at h; exact .inr ⟨(fun he => by (subst he; rw [Nat.beq_refl] at hb; cases hb)), h⟩
  refine ⟨⟨fun b o' h => ?_, fun id c h => ?_, fun id c b h1 h2 => ?_, fun id id' c c' b h1 h1' h2 h2' => ?_⟩,
    hg.os, hg.tape, hg.output, hg.size, fun b hb h1 h2 => ⟨hg.old _ hb, h1, fun id c h hc => ?_⟩, fun id c h _ => ⟨old id c h, c, ?_, rfl⟩⟩
  · have := m.vis _ _ h
    rw [hg.old _ (lt_of_heap this)]; exact this
  · rcases get id c h with ⟨rfl, rfl⟩ | ⟨_, h⟩
    · rw [setB_self]; exact hch
    · rw [old id c h]
      refine (m.chs _ _ h).keep (Mem.le_refl r) (fun b hb => hg.old _ (alive _ _ _ h hb)) (fun _ cells he i sv v hi hr => ?_)
      have := (freshP_get hΦ id c h).2
      subst he
      exact hr.bind (p := fun i => !Nat.beq i n) (fun i hi => setB_ok i hi) (SV.okIdsL_get this i sv hi)
  · rcases get id c h1 with ⟨rfl, rfl⟩ | ⟨_, h⟩
    · rw [setB_self] at h2
      have := hblk _ h2
      cases hr : r b with
      | none => rfl
      | some o' => exact absurd (lt_of_heap (m.vis _ _ hr)) (by omega)
    · rw [old id c h] at h2; exact m.sep _ _ _ h h2
  · rcases get id c h1 with ⟨rfl, rfl⟩ | ⟨_, h⟩ <;> rcases get id' c' h1' with ⟨rfl, rfl⟩ | ⟨_, h'⟩
    · rfl
    · rw [setB_self] at h2; rw [old id' c' h'] at h2'
      have := hblk _ h2
      exact absurd (alive _ _ _ h' h2') (by omega)
    · rw [setB_self] at h2'; rw [old id c h] at h2
      have := hblk _ h2'
      exact absurd (alive _ _ _ h h2) (by omega)
    · rw [old id c h] at h2; rw [old id' c' h'] at h2'
      exact m.nod _ _ _ _ _ h h' h2 h2'
  · rcases get id c h with ⟨rfl, rfl⟩ | ⟨_, h⟩
    · rw [setB_self] at hc; have := hblk _ hc; omega
    · rw [old id c h] at hc; exact h2 id c h hc
  · rw [phi_cons]
    cases hb : Nat.beq n id with
    | true => obtain rfl := beq_of hb; exact absurd rfl (freshP_get hΦ n _ h).1
    | false => exact h
theorem sat_new {B : Base} {e N r β σ Φ a w} {n : Nat} {ch : Chunk} {v : Value} {w' : World} (s : Sat B e N r β σ Φ a w) (hσ : freshE n σ = true) (hΦ : freshP n Φ = true)
    (hg : Grows w w') (hblk : ∀ b, ch.blk v = some b → w.heap.size ≤ b) (hch : ch.Sat r (setB β n v) w' v) : Sat B e N r (setB β n v) σ ((n, ch) :: Φ) a w' := by
  obtain ⟨h1, h2⟩ := mem_new s.mem hΦ hg hblk hch
  refine s.step (s.agree.of fun k g sv hk => ⟨sv, hk, fun v hr => hr.bind (p := fun i => !Nat.beq i n) (fun i hi => setB_ok i hi) (freshE_get hσ k g sv hk)⟩) h1 (Mem.le_refl r) h2
theorem newK_sound {B : Base} {e N r β σ Φ a w n To cs} {K : EK} (h : newK n To cs σ Φ K) (s : Sat B e N r β σ Φ a w) (T : TypeId) (hT : ∀ t, To = some t → T = t) (vs : Array Value) (hl : RelL r β cs vs.toList) :
    ∃ sv σ' Φ' n', K sv σ' Φ' n' ∧ σ' = σ ∧ ∃ β', Rel r β' sv (.pointer (some ⟨w.heap.size, 0, none⟩)) ∧ Sat B e N r β' σ' Φ' a { w with heap := w.heap.push (.cells vs T) } := by
  unfold newK at h
  cases hc : (freshE n σ && (freshP n Φ && SV.okIdsL (fun i => !Nat.beq i n) cs)) with
  | false => rw [hc] at h; exact h.elim
  | true =>
    rw [hc] at h
    simp only [Bool.and_eq_true] at hc
    obtain ⟨h1, h2, h3⟩ := hc
    refine ⟨_, _, _, _, h, rfl, setB β n (.pointer (some ⟨w.heap.size, 0, none⟩)), .loc (setB_self _ _ _), ?_⟩
    refine sat_new s h1 h2 (Grows.alloc w _) (fun b hb => by simp [Chunk.blk] at hb; omega) ?_
    refine .box rfl heap_alloc_eq (by simpa using hl.1) (fun i sv v q1 q2 => ?_) hT
    exact (hl.2 i sv v q1 (by simpa using q2)).bind (p := fun i => !Nat.beq i n) (fun i hi => setB_ok i hi) (SV.okIdsL_get h3 i sv q1)
theorem newChK_sound {B : Base} {e N r β σ Φ a w n ch sv} {K : EK} (h : newChK n ch sv σ Φ K) (s : Sat B e N r β σ Φ a w) {v : Value} {w' : World} (hg : Grows w w')
    (hblk : ∀ b, ch.blk v = some b → w.heap.size ≤ b) (hch : ch.Sat r (setB β n v) w' v) (hr : Rel r (setB β n v) sv v) :
    ∃ sv σ' Φ' n', K sv σ' Φ' n' ∧ σ' = σ ∧ ∃ β', Rel r β' sv v ∧ Sat B e N r β' σ' Φ' a w' := by
  unfold newChK at h
  cases hc : (freshE n σ && freshP n Φ) with
  | false => rw [hc] at h; exact h.elim
  | true =>
    rw [hc] at h
    simp only [Bool.and_eq_true] at hc
    exact ⟨_, _, _, _, h, rfl, _, hr, sat_new s hc.1 hc.2 hg hblk hch⟩
end Go.Vc

namespace Go.Vc
set_option autoImplicit false
theorem hasId_of {Φ : Phi} {i : Nat} {c : Chunk} (h : Phi.get Φ i = some c) : hasId Φ i = true := by simp [hasId, h]
theorem blk_box' (T : Option Nat) (cs cs' : List SV) (x : Value) : (Chunk.bx T cs).blk x = (Chunk.bx T cs').blk x := by
  cases x <;> first | rfl | (rename_i a; cases a <;> rfl)
theorem setPK_sound {id : Nat} {ch : Chunk} {Φ : Phi} : ∀ {K : Phi → Prop}, setPK id ch Φ K → hasId Φ id = true →
    ∃ Φ', K Φ' ∧ ∀ j, Phi.get Φ' j = bif Nat.beq id j then some ch else Phi.get Φ j := by
  induction Φ with
  | nil => intro K h hi; simp [hasId, Phi.get] at hi
  | cons x r ih =>
    obtain ⟨k, c⟩ := x
    intro K h hi
    unfold setPK at h
    cases hb : Nat.beq k id with
    | true =>
      rw [hb] at h
      obtain rfl := beq_of hb
      refine ⟨_, h, fun j => ?_⟩
      rw [phi_cons, phi_cons]
      cases Nat.beq k j <;> rfl
    | false =>
      rw [hb] at h
      have hi' : hasId r id = true := by
        unfold hasId at hi ⊢
        rw [phi_cons, hb] at hi
        exact hi
      obtain ⟨Φ', hk, hg⟩ := ih h hi'
      refine ⟨_, hk, fun j => ?_⟩
      rw [phi_cons, phi_cons, hg]
      cases hq : Nat.beq k j with
      | false => rfl
      | true =>
        obtain rfl := beq_of hq
        have : Nat.beq id k = false := nbeq_of (fun he => by subst he; rw [Nat.beq_refl] at hb; cases hb)
        rw [this]; rfl
structure Turns (w w' : World) (g : Nat) : Prop where
  os : w'.os = w.os
  tape : w'.tape = w.tape
  output : w'.output = w.output
  size : w'.heap.size = w.heap.size
  old : ∀ b, b ≠ g → w'.heap[b]? = w.heap[b]?
theorem mem_upd {r β Φ w} {id g : Nat} {ch ch' : Chunk} {w' : World} {Φ' : Phi} (m : MemSat r β Φ w) (hid : Phi.get Φ id = some ch)
    (hΦ : ∀ j, Phi.get Φ' j = bif Nat.beq id j then some ch' else Phi.get Φ j) (hw : Turns w w' g) (hg : ch.blk (β id) = some g)
    (hb : ch'.blk (β id) = ch.blk (β id)) (hch : ch'.Sat r β w' (β id)) (hkd : ch'.kind = ch.kind) : MemSat r β Φ' w' ∧ Hid r β Φ w r β Φ' w' := by
  have get : ∀ j c, Phi.get Φ' j = some c → (j = id ∧ c = ch') ∨ (j ≠ id ∧ Phi.get Φ j = some c) := by
    intro j c h
    rw [hΦ] at h
    cases hq : Nat.beq id j with
    | true => obtain rfl := beq_of hq; rw [hq] at h; simp at h; exact .inl ⟨rfl, h.symm⟩
    | false => rw [hq] at h; exact .inr ⟨(fun he => by (subst he; rw [Nat.beq_refl] at hq; cases hq)), h⟩
  have blk : ∀ j c b, Phi.get Φ' j = some c → c.blk (β j) = some b → ∃ c0, Phi.get Φ j = some c0 ∧ c0.blk (β j) = some b := by
    intro j c b h1 h2
    rcases get j c h1 with ⟨rfl, rfl⟩ | ⟨_, h⟩
    · exact ⟨ch, hid, by rw [← hb]; exact h2⟩
    · exact ⟨c, h, h2⟩
  refine ⟨⟨fun b o h => ?_, fun j c h => ?_, fun j c b h1 h2 => ?_, fun j j' c c' b h1 h1' h2 h2' => ?_⟩,
    hw.os, hw.tape, hw.output, by rw [hw.size]; exact Nat.le_refl _, fun b hb' p1 p2 => ⟨hw.old b (fun he => p2 _ _ hid (he ▸ hg)), p1, fun j c h hc => ?_⟩, fun j c h hk => ⟨rfl, ?_⟩⟩
  · have hne : b ≠ g := by
      rintro rfl
      rw [m.sep _ _ _ hid hg] at h; cases h
    rw [hw.old b hne]; exact m.vis _ _ h
  · rcases get j c h with ⟨rfl, rfl⟩ | ⟨hne, h⟩
    · exact hch
    · refine (m.chs _ _ h).keep (Mem.le_refl r) (fun b hb' => hw.old b ?_) (fun _ _ _ _ _ _ _ h => h)
      rintro rfl
      exact hne (m.nod _ _ _ _ _ h hid hb' hg)
  · obtain ⟨c0, q1, q2⟩ := blk _ _ _ h1 h2
    exact m.sep _ _ _ q1 q2
  · obtain ⟨c0, q1, q2⟩ := blk _ _ _ h1 h2
    obtain ⟨c1, q1', q2'⟩ := blk _ _ _ h1' h2'
    exact m.nod _ _ _ _ _ q1 q1' q2 q2'
  · obtain ⟨c0, q1, q2⟩ := blk _ _ _ h hc
    exact p2 _ _ q1 q2
  · rw [hΦ]
    cases hq : Nat.beq id j with
    | true =>
      obtain rfl := beq_of hq
      rw [hid] at h
      cases h
      exact ⟨ch', rfl, hkd⟩
    | false => exact ⟨c, h, rfl⟩
theorem sat_upd {B : Base} {e N r β σ Φ a w} {id g : Nat} {ch ch' : Chunk} {w' : World} {Φ' : Phi} (s : Sat B e N r β σ Φ a w) (hid : Phi.get Φ id = some ch)
    (hΦ : ∀ j, Phi.get Φ' j = bif Nat.beq id j then some ch' else Phi.get Φ j) (hw : Turns w w' g) (hg : ch.blk (β id) = some g)
    (hb : ch'.blk (β id) = ch.blk (β id)) (hch : ch'.Sat r β w' (β id)) (hkd : ch'.kind = ch.kind) : Sat B e N r β σ Φ' a w' := by
  obtain ⟨h1, h2⟩ := mem_upd s.mem hid hΦ hw hg hb hch hkd
  exact s.step s.agree h1 (Mem.le_refl r) h2
theorem run_storeCells {P : Program} (g o : Nat) (t : TypeId) (fr : Nat × Nat) : ∀ (vs : List Value) (i : Nat) (cur : Array Value) (w : World), w.heap[g]? = some (.cells cur t fr) →
    o + i + vs.length ≤ cur.size → (∀ v ∈ vs, v.oneCell' = true) → (∀ j, j < cur.size → ¬ (fr.1 ≤ j ∧ j < fr.2)) →
    ∃ cur' w', (storeCells ⟨g, o, none⟩ vs i).run P w = .ok () w' ∧ w'.heap[g]? = some (.cells cur' t fr) ∧ Turns w w' g ∧ cur'.size = cur.size ∧
      ∀ j : Nat, cur'[j]? = if o + i ≤ j ∧ j < o + i + vs.length then vs[j - (o + i)]? else cur[j]? := by
  intro vs
  induction vs with
  | nil =>
    intro i cur w hg _ _ _
    exact ⟨cur, w, rfl, hg, ⟨rfl, rfl, rfl, rfl, fun _ _ => rfl⟩, rfl, fun j => by rw [if_neg (by simp)]⟩
  | cons v rest ih =>
    intro i cur w hg hl h1 hfr
    have hi : o + i < cur.size := by simp at hl; omega
    have hcell : w.cell? ⟨g, o + i, none⟩ = some cur[o + i] := by simp [World.cell?, hg, hi]
    have hfro : w.frozen? ⟨g, o + i, none⟩ = false := by
      simp only [World.frozen?, hg]
      have := hfr _ hi
      simpa using fun h => Nat.le_of_not_lt fun h2 => this ⟨h, h2⟩
    have hst : (store ((⟨g, o, none⟩ : Addr).add i) v).run P w = .ok () (w.setCell ⟨g, o + i, none⟩ v) := by
      rw [add_mk, run_store P w _ v _ (h1 v (by simp)), hcell]
      simp [hfro]
    have hg' : (w.setCell ⟨g, o + i, none⟩ v).heap[g]? = some (.cells (cur.setIfInBounds (o + i) v) t fr) := by
      simp only [World.setCell, Array.getElem?_modify, hg, if_true]
      rfl
    have hT : Turns w (w.setCell ⟨g, o + i, none⟩ v) g := by
      refine ⟨rfl, rfl, rfl, by simp [World.setCell], fun b hb => ?_⟩
      simp only [World.setCell, Array.getElem?_modify]
      rw [if_neg (fun h => hb h.symm)]
    obtain ⟨cur', w', hr, q1, q2, q3, q4⟩ := ih (i + 1) (cur.setIfInBounds (o + i) v) (w.setCell ⟨g, o + i, none⟩ v) hg' (by simp at hl ⊢; omega) (fun x hx => h1 x (by simp [hx])) (by simpa using hfr)
    refine ⟨cur', w', ?_, q1, ⟨q2.os.trans hT.os, q2.tape.trans hT.tape, q2.output.trans hT.output, q2.size.trans hT.size, fun b hb => (q2.old b hb).trans (hT.old b hb)⟩, by simpa using q3, fun j => ?_⟩
    · simp only [storeCells, Sem.run_bind, hst, Result.andThen_ok, hr]
    · rw [q4]
      simp only [List.length_cons]
      by_cases hj : o + (i + 1) ≤ j ∧ j < o + (i + 1) + rest.length
      · rw [if_pos hj, if_pos (by omega), show j - (o + i) = (j - (o + (i + 1))) + 1 by omega, List.getElem?_cons_succ]
      · rw [if_neg hj]
        by_cases hj2 : j = o + i
        · subst hj2
          rw [if_pos (by omega), Array.getElem?_setIfInBounds_self_of_lt hi]
          simp
        · rw [if_neg (by omega), Array.getElem?_setIfInBounds_ne (by omega)]
theorem RelL.ones {r β l vs} (h : RelL r β l vs) (ho : allOne l = true) : ∀ v ∈ vs, v.oneCell' = true := by
  intro v hv
  obtain ⟨i, hi, rfl⟩ := List.getElem_of_mem hv
  have hil : i < l.length := by have := h.1; omega
  have h1 : l[i]? = some l[i] := List.getElem?_eq_getElem hil
  exact (h.2 i _ _ h1 (List.getElem?_eq_getElem hi)).oneCell (allOne_get ho i _ h1)
theorem storeK_sound {B : Base} {e N r β σ Φ a w n t} {p x : SV} {vp vx : Value} {K : EK} (h : storeK B.P t p x σ Φ n K) (s : Sat B e N r β σ Φ a w) (hp : Rel r β p vp) (hx : Rel r β x vx) :
    ∃ sv Φ' w', K sv σ Φ' n ∧ (Instr.storeAt t vp vx).run B.P w = .ok () w' ∧ sv = .und ∧ Sat B e N r β σ Φ' a w' := by
  unfold storeK at h
  obtain ⟨xs, h, ho, _, hxs⟩ := cellsK_sound h
  have hvx := hxs r β vx hx
  cases hz : Nat.beq (sizeT B.P t) 0 with
  | true => rw [hz] at h; exact h.elim
  | false =>
  rw [hz] at h
  cases hz2 : Nat.beq (len xs) (sizeT B.P t) with
  | false => rw [hz2] at h; exact h.elim
  | true =>
  rw [hz2] at h
  simp only [cond_true, cond_false] at h
  have hlen := beq_of hz2
  rw [len_eq] at hlen
  obtain ⟨i, hi⟩ : ∃ i, B.P.info? t = some i := by
    unfold sizeT at hz
    cases hq : B.P.info? t with
    | none => rw [hq] at hz; cases hz
    | some i => exact ⟨i, rfl⟩
  have hsz : vx.cells.size = i.size := by
    have := hvx.1
    rw [sizeT_run hi] at hlen
    simp at this
    omega
  have hone := hvx.ones ho
  have run : ∀ {b o w'}, (storeCells ⟨b, o, none⟩ vx.cells.toList 0).run B.P w = .ok () w' → (Instr.storeAt t (.pointer (some ⟨b, o, none⟩)) vx).run B.P w = .ok () w' := by
    intro b o w' hr
    simp only [Instr.storeAt, Sem.run_bind, Instr.sureAddr, Sem.run_pure, Result.andThen_ok, storeVar, run_sizeOf hi, hsz, ne_eq, not_true_eq_false, if_false, hr]
  split at h
  · rename_i id off _
    split at h
    · rename_i cs hg
      obtain ⟨l, h, h1, h2, h3⟩ := fillAt_sound h
      obtain ⟨Φ', hk, hΦ⟩ := setPK_sound h (hasId_of hg)
      cases hp with
      | loc hβ =>
        rename_i b
        have hs := s.mem.rows hg
        cases hs with
        | box hxb hw hl hc hT =>
          rename_i b' c T
          rw [hβ] at hxb
          obtain rfl : b = b' := by simpa using hxb
          have hx0 : xs ≠ [] := by intro h0; subst h0; simp at hlen; rw [← hlen] at hz; cases hz
          have hfit := h2 hx0
          obtain ⟨cur', w', hr, q1, q2, q3, q4⟩ := run_storeCells (P := B.P) b off T (0, 0) vx.cells.toList 0 c w hw (by have := hvx.1; omega) hone (by intro j _; omega)
          refine ⟨_, Φ', w', hk, run hr, rfl, sat_upd s hg hΦ q2 (by rw [hβ]; rfl) (blk_box' _ _ _ _) ?_ rfl⟩
          refine .box hβ q1 (by rw [q3, hl, h1]) (fun j sv v p1 p2 => ?_) hT
          rw [h3] at p1
          rw [q4] at p2
          have hvl := hvx.1
          simp only [Nat.add_zero] at p2
          by_cases hj : off ≤ j ∧ j < off + xs.length
          · rw [if_pos hj] at p1
            rw [if_pos (by omega)] at p2
            exact hvx.2 _ _ _ p1 p2
          · rw [if_neg hj] at p1
            rw [if_neg (by omega)] at p2
            exact hc _ _ _ p1 p2
    · exact h.elim
  · rename_i id sz0 i' off _
    split at h
    · rename_i τ l hg
      cases hc0 : (Nat.beq sz0 τ.size && SV.okIdsL (fun _ => false) xs) with
      | false => rw [hc0] at h; exact h.elim
      | true =>
        rw [hc0] at h
        simp only [Bool.and_eq_true] at hc0
        obtain ⟨hc1, hc2⟩ := hc0
        have hsz0 := beq_of hc1
        obtain ⟨hob, h⟩ := h
        have hil := hob.h
        obtain ⟨row, h, h1, h2, h3⟩ := fillAt_sound h
        obtain ⟨a', h, hent⟩ := dec1K_sound h
        obtain ⟨Φ', hk, hΦ⟩ := setPK_sound h (hasId_of hg)
        cases hp with
        | oel hβ =>
          rename_i b off0 n0 cap
          rw [hsz0]
          have hs := s.mem.rows hg
          cases hs with
          | own hs =>
            rcases hs with ⟨a0, _, he⟩ | ⟨b', off', cap', c, T, fr, he, hcap0, hw, hfr, hm, hcap, hszc, hrow, hone', hrr⟩
            · simp at he; subst he; simp at hil
            · rw [he] at hβ
              simp only [Value.slice.injEq, Option.some.injEq, Addr.mk.injEq] at hβ
              obtain ⟨⟨rfl, rfl, _⟩, _, _⟩ := hβ
              have hx0 : xs ≠ [] := by intro h0; subst h0; simp at hlen; rw [← hlen] at hz; cases hz
              have hfit := h2 hx0
              have hg0 : l.getD i' τ.dflt = l[i'] := by simp [List.getD, List.getElem?_eq_getElem hil]
              have hrl : (τ.enc (l.getD i' τ.dflt)).length = τ.size := hrow i' _ (by rw [hg0]; simp [List.getElem?_eq_getElem hil])
              rw [hrl] at hfit
              have hbnd : off' + i' * τ.size + τ.size ≤ c.size := by
                have h1 : (i' + 1) * τ.size ≤ cap' * τ.size := Nat.mul_le_mul_right τ.size (by simp at hcap; omega)
                rw [Nat.add_mul] at h1
                omega
              obtain ⟨cur', w', hr, q1, q2, q3, q4⟩ := run_storeCells (P := B.P) b' (off' + i' * τ.size + off) T fr vx.cells.toList 0 c w hw (by have := hvx.1; omega) hone (hfr.cell)
              refine ⟨_, Φ', w', hk, run hr, rfl, sat_upd s hg hΦ q2 (blk_own he hcap0) (by rw [blk_own he hcap0, blk_own he hcap0]) ?_ rfl⟩
              refine .own (.inr ⟨b', off', cap', cur', T, fr, by rw [he]; simp, hcap0, q1, hfr.turn q3, by simpa using hm, by simpa using hcap, by rw [q3]; exact hszc, ?_, ?_, ?_⟩)
              · intro k row' hk'
                simp only [List.getElem?_map, List.getElem?_set] at hk'
                by_cases hki : i' = k
                · subst hki
                  rw [if_pos rfl, if_pos hil] at hk'
                  simp at hk'
                  rw [← hk', enc_len]
                · rw [if_neg hki] at hk'
                  exact hrow k row' (by simpa using hk')
              · intro k row' j sv hk' hj
                simp only [List.getElem?_map, List.getElem?_set] at hk'
                by_cases hki : i' = k
                · subst hki
                  rw [if_pos rfl, if_pos hil] at hk'
                  simp at hk'
                  rw [← hk'] at hj
                  exact enc_one τ a' j sv hj
                · rw [if_neg hki] at hk'
                  exact hone' k row' j sv (by simpa using hk') hj
              · intro k row' j sv v hk' hj hv
                have hvl := hvx.1
                rw [q4] at hv
                simp only [Nat.add_zero] at hv
                simp only [List.getElem?_map, List.getElem?_set] at hk'
                by_cases hki : i' = k
                · subst hki
                  rw [if_pos rfl, if_pos hil] at hk'
                  simp at hk'
                  rw [← hk'] at hj
                  have hjl : j < row.length := by
                    have := hent.1
                    rcases Nat.lt_or_ge j row.length with h' | h'
                    · exact h'
                    · rw [List.getElem?_eq_none (by omega)] at hj; cases hj
                  refine (hent.2 j row[j] sv (List.getElem?_eq_getElem hjl) hj).1 _ _ _ ?_
                  have hj0 := h3 j
                  rw [List.getElem?_eq_getElem hjl] at hj0
                  by_cases hjj : off ≤ j ∧ j < off + xs.length
                  · rw [if_pos hjj] at hj0
                    rw [if_pos (by omega)] at hv
                    have e : off' + i' * τ.size + j - (off' + i' * τ.size + off) = j - off := by omega
                    rw [e] at hv
                    exact (hvx.2 _ _ _ hj0.symm hv).pure (SV.okIdsL_get hc2 _ _ hj0.symm) _
                  · rw [if_neg hjj] at hj0
                    rw [if_neg (by omega)] at hv
                    exact hrr i' _ j _ v (by rw [hg0]; simp [List.getElem?_eq_getElem hil]) hj0.symm hv
                · rw [if_neg hki] at hk'
                  have hjs : j < τ.size := by
                    have := hrow k row' (by simpa using hk')
                    rcases Nat.lt_or_ge j row'.length with h | h
                    · omega
                    · rw [List.getElem?_eq_none h] at hj; cases hj
                  have hne : ¬ (off' + i' * τ.size + off ≤ off' + k * τ.size + j ∧ off' + k * τ.size + j < off' + i' * τ.size + off + vx.cells.toList.length) := by
                    rintro ⟨g1, g2⟩
                    rcases Nat.lt_or_gt_of_ne hki with hlt | hgt
                    · have : (i' + 1) * τ.size ≤ k * τ.size := Nat.mul_le_mul_right τ.size hlt
                      rw [Nat.add_mul] at this; omega
                    · have : (k + 1) * τ.size ≤ i' * τ.size := Nat.mul_le_mul_right τ.size hgt
                      rw [Nat.add_mul] at this; omega
                  rw [if_neg hne] at hv
                  exact hrr k row' j sv v (by simpa using hk') hj hv
    · rename_i τ l hg
      cases hc0 : (Nat.beq sz0 τ.size && SV.okIdsL (fun _ => false) xs) with
      | false => rw [hc0] at h; exact h.elim
      | true =>
        rw [hc0] at h
        simp only [Bool.and_eq_true] at hc0
        obtain ⟨hc1, hc2⟩ := hc0
        have hsz0 := beq_of hc1
        obtain ⟨hob, h⟩ := h
        have hil := hob.h
        obtain ⟨row, h, h1, h2, h3⟩ := fillAt_sound h
        obtain ⟨a', h, hent⟩ := dec1K_sound h
        obtain ⟨Φ', hk, hΦ⟩ := setPK_sound h (hasId_of hg)
        cases hp with
        | oel hβ =>
          rename_i b off0 n0 cap
          rw [hsz0]
          have hs := s.mem.rows hg
          cases hs with
          | ow hs =>
            rcases hs with ⟨a0, _, he⟩ | ⟨b', off', cap', c, T, fr, he, hcap0, hw, hfr, hm, hcap, hszc, hrow, hone', hrr⟩
            · simp at he; subst he; simp at hil
            · rw [he] at hβ
              simp only [Value.slice.injEq, Option.some.injEq, Addr.mk.injEq] at hβ
              obtain ⟨⟨rfl, rfl, _⟩, _, _⟩ := hβ
              have hx0 : xs ≠ [] := by intro h0; subst h0; simp at hlen; rw [← hlen] at hz; cases hz
              have hfit := h2 hx0
              have hg0 : l.getD i' τ.dflt = l[i'] := by simp [List.getD, List.getElem?_eq_getElem hil]
              have hrl : (τ.enc (l.getD i' τ.dflt)).length = τ.size := hrow i' _ (by rw [hg0]; simp [List.getElem?_eq_getElem hil])
              rw [hrl] at hfit
              have hbnd : off' + i' * τ.size + τ.size ≤ c.size := by
                have h1 : (i' + 1) * τ.size ≤ cap' * τ.size := Nat.mul_le_mul_right τ.size (by simp at hcap; omega)
                rw [Nat.add_mul] at h1
                omega
              obtain ⟨cur', w', hr, q1, q2, q3, q4⟩ := run_storeCells (P := B.P) b' (off' + i' * τ.size + off) T fr vx.cells.toList 0 c w hw (by have := hvx.1; omega) hone (hfr.cell)
              refine ⟨_, Φ', w', hk, run hr, rfl, sat_upd s hg hΦ q2 (blk_ow he hcap0) (by rw [blk_ow he hcap0, blk_ow he hcap0]) ?_ rfl⟩
              refine .ow (.inr ⟨b', off', cap', cur', T, fr, by rw [he]; simp, hcap0, q1, hfr.turn q3, by simpa using hm, by simpa using hcap, by rw [q3]; exact hszc, ?_, ?_, ?_⟩)
              · intro k row' hk'
                simp only [List.getElem?_map, List.getElem?_set] at hk'
                by_cases hki : i' = k
                · subst hki
                  rw [if_pos rfl, if_pos hil] at hk'
                  simp at hk'
                  rw [← hk', enc_len]
                · rw [if_neg hki] at hk'
                  exact hrow k row' (by simpa using hk')
              · intro k row' j sv hk' hj
                simp only [List.getElem?_map, List.getElem?_set] at hk'
                by_cases hki : i' = k
                · subst hki
                  rw [if_pos rfl, if_pos hil] at hk'
                  simp at hk'
                  rw [← hk'] at hj
                  exact enc_one τ a' j sv hj
                · rw [if_neg hki] at hk'
                  exact hone' k row' j sv (by simpa using hk') hj
              · intro k row' j sv v hk' hj hv
                have hvl := hvx.1
                rw [q4] at hv
                simp only [Nat.add_zero] at hv
                simp only [List.getElem?_map, List.getElem?_set] at hk'
                by_cases hki : i' = k
                · subst hki
                  rw [if_pos rfl, if_pos hil] at hk'
                  simp at hk'
                  rw [← hk'] at hj
                  have hjl : j < row.length := by
                    have := hent.1
                    rcases Nat.lt_or_ge j row.length with h' | h'
                    · exact h'
                    · rw [List.getElem?_eq_none (by omega)] at hj; cases hj
                  refine (hent.2 j row[j] sv (List.getElem?_eq_getElem hjl) hj).1 _ _ _ ?_
                  have hj0 := h3 j
                  rw [List.getElem?_eq_getElem hjl] at hj0
                  by_cases hjj : off ≤ j ∧ j < off + xs.length
                  · rw [if_pos hjj] at hj0
                    rw [if_pos (by omega)] at hv
                    have e : off' + i' * τ.size + j - (off' + i' * τ.size + off) = j - off := by omega
                    rw [e] at hv
                    exact (hvx.2 _ _ _ hj0.symm hv).pure (SV.okIdsL_get hc2 _ _ hj0.symm) _
                  · rw [if_neg hjj] at hj0
                    rw [if_neg (by omega)] at hv
                    exact hrr i' _ j _ v (by rw [hg0]; simp [List.getElem?_eq_getElem hil]) hj0.symm hv
                · rw [if_neg hki] at hk'
                  have hjs : j < τ.size := by
                    have := hrow k row' (by simpa using hk')
                    rcases Nat.lt_or_ge j row'.length with h | h
                    · omega
                    · rw [List.getElem?_eq_none h] at hj; cases hj
                  have hne : ¬ (off' + i' * τ.size + off ≤ off' + k * τ.size + j ∧ off' + k * τ.size + j < off' + i' * τ.size + off + vx.cells.toList.length) := by
                    rintro ⟨g1, g2⟩
                    rcases Nat.lt_or_gt_of_ne hki with hlt | hgt
                    · have : (i' + 1) * τ.size ≤ k * τ.size := Nat.mul_le_mul_right τ.size hlt
                      rw [Nat.add_mul] at this; omega
                    · have : (k + 1) * τ.size ≤ i' * τ.size := Nat.mul_le_mul_right τ.size hgt
                      rw [Nat.add_mul] at this; omega
                  rw [if_neg hne] at hv
                  exact hrr k row' j sv v (by simpa using hk') hj hv
    · exact h.elim
  · exact h.elim
end Go.Vc

namespace Go.Vc
set_option autoImplicit false
def Stale (id : Nat) (sv sv' : SV) : Prop := sv' = .und ∨ (sv' = sv ∧ sv.okIds (fun i => !Nat.beq i id) = true)
theorem staleS_sound {id sv} {K : SV → Prop} (h : staleS id sv K) : ∃ sv', K sv' ∧ Stale id sv sv' := by
  unfold staleS at h
  cases hb : sv.okIds (fun i => !Nat.beq i id) with
  | true => rw [hb] at h; exact ⟨_, h, .inr ⟨rfl, hb⟩⟩
  | false => rw [hb] at h; exact ⟨_, h, .inl rfl⟩
theorem staleL_sound {id : Nat} {l : List SV} : ∀ {K : List SV → Prop}, staleL id l K → ∃ l', K l' ∧ l'.length = l.length ∧ ∀ (i : Nat) (sv' : SV), l'[i]? = some sv' → ∃ sv, l[i]? = some sv ∧ Stale id sv sv' := by
  induction l with
  | nil => intro K h; exact ⟨[], h, rfl, fun i sv' h => by simp at h⟩
  | cons x r ih =>
    intro K h
    obtain ⟨y, h, hy⟩ := staleS_sound h
    obtain ⟨l', h, h1, h2⟩ := ih h
    refine ⟨_, h, by simp [h1], fun i sv' hi => ?_⟩
    cases i with
    | zero => simp at hi; subst hi; exact ⟨x, rfl, hy⟩
    | succ i => obtain ⟨sv, q1, q2⟩ := h2 i sv' (by simpa using hi); exact ⟨sv, by simpa using q1, q2⟩
theorem staleE_sound {id : Nat} {σ : Env} : ∀ {K : Env → Prop}, staleE id σ K → ∃ σ', K σ' ∧ ∀ k g sv', Env.get σ' k = some (g, sv') → ∃ sv, Env.get σ k = some (g, sv) ∧ Stale id sv sv' := by
  induction σ with
  | nil => intro K h; exact ⟨[], h, fun k g sv' h => by simp [Env.get] at h⟩
  | cons x r ih =>
    obtain ⟨k0, g0, sv0⟩ := x
    intro K h
    obtain ⟨y, h, hy⟩ := staleS_sound h
    obtain ⟨σ', h, h2⟩ := ih h
    refine ⟨_, h, fun k g sv' hi => ?_⟩
    rw [get_cons] at hi ⊢
    cases hb : Nat.beq k0 k with
    | true => rw [hb] at hi; simp at hi; obtain ⟨rfl, rfl⟩ := hi; exact ⟨sv0, rfl, hy⟩
    | false => rw [hb] at hi; exact h2 k g sv' hi
inductive StaleC (id : Nat) : Chunk → Chunk → Prop
  | same {c} (h : ∀ T cs, c ≠ .bx T cs) : StaleC id c c
  | box {T cs cs'} (hl : cs'.length = cs.length) (h : ∀ (i : Nat) (sv' : SV), cs'[i]? = some sv' → ∃ sv, cs[i]? = some sv ∧ Stale id sv sv') : StaleC id (.bx T cs) (.bx T cs')
theorem staleP_sound {id : Nat} {Φ : Phi} : ∀ {K : Phi → Prop}, staleP id Φ K → ∃ Φ', K Φ' ∧ ∀ j, (∀ c', Phi.get Φ' j = some c' → ∃ c, Phi.get Φ j = some c ∧ StaleC id c c') ∧ (∀ c, Phi.get Φ j = some c → ∃ c', Phi.get Φ' j = some c') := by
  induction Φ with
  | nil => intro K h; exact ⟨[], h, fun j => ⟨fun c' h => by simp [Phi.get] at h, fun c h => by simp [Phi.get] at h⟩⟩
  | cons x r ih =>
    obtain ⟨k, c⟩ := x
    intro K h
    have : ∃ c', StaleC id c c' ∧ staleP id r fun l => K ((k, c') :: l) := by
      unfold staleP at h
      cases c with
      | bx _ cs => obtain ⟨l', h, h1, h2⟩ := staleL_sound h; exact ⟨_, .box h1 h2, h⟩
      | own τ l => exact ⟨_, .same (by intro _ cs h; cases h), h⟩
      | ro => exact ⟨_, .same (by intro _ cs h; cases h), h⟩
      | ow => exact ⟨_, .same (by intro _ cs h; cases h), h⟩
      | iter s pos => exact ⟨_, .same (by intro _ cs h; cases h), h⟩
      | gh i => exact ⟨_, .same (by intro _ cs h; cases h), h⟩
      | mp κ τ l => exact ⟨_, .same (by intro _ cs h; cases h), h⟩
    obtain ⟨c', hc, h⟩ := this
    obtain ⟨Φ', h, hg⟩ := ih h
    refine ⟨_, h, fun j => ?_⟩
    rw [phi_cons, phi_cons]
    cases hb : Nat.beq k j with
    | true => exact ⟨fun c1 h => by simp at h; subst h; exact ⟨c, rfl, hc⟩, fun c1 h => ⟨c', rfl⟩⟩
    | false => exact hg j
theorem Stale.rel {id sv sv'} (h : Stale id sv sv') {r β v} (hr : Rel r β sv v) (v' : Value) : Rel r (setB β id v') sv' v := by
  rcases h with rfl | ⟨rfl, ho⟩
  · exact .und
  · exact hr.bind (p := fun i => !Nat.beq i id) (fun i hi => setB_ok i hi) ho
theorem StaleC.blk {id c c'} (h : StaleC id c c') (x : Value) : c'.blk x = c.blk x := by
  cases h with
  | same => rfl
  | box => exact blk_box' _ _ _ _
theorem StaleC.kind {id c c'} (h : StaleC id c c') : c'.kind = c.kind := by
  cases h <;> rfl
theorem mem_head {r β Φ w} {id : Nat} {ch ch' : Chunk} {v' : Value} {w' : World} {Φ1 Φ' : Phi} (m : MemSat r β Φ w) (hid : Phi.get Φ id = some ch)
    (hΦ1 : ∀ j, (∀ c', Phi.get Φ1 j = some c' → ∃ c, Phi.get Φ j = some c ∧ StaleC id c c') ∧ (∀ c, Phi.get Φ j = some c → ∃ c', Phi.get Φ1 j = some c'))
    (hΦ : ∀ j, Phi.get Φ' j = bif Nat.beq id j then some ch' else Phi.get Φ1 j)
    (hos : w'.os = w.os) (ht : w'.tape = w.tape) (hout : w'.output = w.output) (hsz : w.heap.size ≤ w'.heap.size)
    (hold : ∀ b, b < w.heap.size → ch.blk (β id) ≠ some b → w'.heap[b]? = w.heap[b]?)
    (hblk : ∀ b, ch'.blk v' = some b → ch.blk (β id) = some b ∨ w.heap.size ≤ b)
    (hch : ch'.Sat r (setB β id v') w' v') (hk0 : ch.kind = 0) : MemSat r (setB β id v') Φ' w' ∧ Hid r β Φ w r (setB β id v') Φ' w' := by
  have get : ∀ j c, Phi.get Φ' j = some c → (j = id ∧ c = ch') ∨ (j ≠ id ∧ ∃ c0, Phi.get Φ j = some c0 ∧ StaleC id c0 c) := by
    intro j c h
    rw [hΦ] at h
    cases hq : Nat.beq id j with
    | true => obtain rfl := beq_of hq; rw [hq] at h; simp at h; exact .inl ⟨rfl, h.symm⟩
    | false => rw [hq] at h; exact .inr ⟨(fun he => by (subst he; rw [Nat.beq_refl] at hq; cases hq)), (hΦ1 j).1 c h⟩
  have blk : ∀ j c b, Phi.get Φ' j = some c → c.blk (setB β id v' j) = some b → (∃ c0, Phi.get Φ j = some c0 ∧ c0.blk (β j) = some b) ∨ (j = id ∧ w.heap.size ≤ b) := by
    intro j c b h1 h2
    rcases get j c h1 with ⟨rfl, rfl⟩ | ⟨hne, c0, h, hs⟩
    · rw [setB_self] at h2
      rcases hblk b h2 with h | h
      · exact .inl ⟨ch, hid, h⟩
      · exact .inr ⟨rfl, h⟩
    · rw [setB_ne hne, hs.blk] at h2
      exact .inl ⟨c0, h, h2⟩
  have alive : ∀ j c b, Phi.get Φ j = some c → c.blk (β j) = some b → b < w.heap.size := fun j c b h1 h2 => (m.chs _ _ h1).alive h2
  refine ⟨⟨fun b o h => ?_, fun j c h => ?_, fun j c b h1 h2 => ?_, fun j j' c c' b h1 h1' h2 h2' => ?_⟩,
    hos, ht, hout, hsz, fun b hb' p1 p2 => ⟨hold b hb' (p2 _ _ hid), p1, fun j c h hc => ?_⟩, fun j c h hk => ?_⟩
  · have hv := m.vis _ _ h
    rw [hold b (lt_of_heap hv) (fun hc => by rw [m.sep _ _ _ hid hc] at h; cases h)]
    exact hv
  · rcases get j c h with ⟨rfl, rfl⟩ | ⟨hne, c0, h0, hs⟩
    · rw [setB_self]; exact hch
    · rw [setB_ne hne]
      have hkeep : ∀ b, c0.blk (β j) = some b → w'.heap[b]? = w.heap[b]? := fun b hb => hold b (alive _ _ _ h0 hb) (fun hc => hne (m.nod _ _ _ _ _ h0 hid hb hc))
      have hsat := m.chs _ _ h0
      cases hs with
      | same hnb => exact hsat.keep (Mem.le_refl r) hkeep (fun T cells he => (hnb T cells he).elim)
      | box hl hst =>
        cases hsat with
        | box hx hw hlc hc hT =>
          refine .box hx (by rw [hkeep _ (by rw [hx]; rfl)]; exact hw) (by rw [hlc, hl]) (fun i sv v p1 p2 => ?_) hT
          obtain ⟨sv0, q1, q2⟩ := hst i sv p1
          exact q2.rel (hc i sv0 v q1 p2) v'
  · rcases blk _ _ _ h1 h2 with ⟨c0, q1, q2⟩ | ⟨rfl, q⟩
    · exact m.sep _ _ _ q1 q2
    · cases hr : r b with
      | none => rfl
      | some o' => exact absurd (lt_of_heap (m.vis _ _ hr)) (by omega)
  · rcases blk _ _ _ h1 h2 with ⟨c0, q1, q2⟩ | ⟨rfl, q⟩ <;> rcases blk _ _ _ h1' h2' with ⟨c1, q1', q2'⟩ | ⟨rfl, q'⟩
    · exact m.nod _ _ _ _ _ q1 q1' q2 q2'
    · exact absurd (alive _ _ _ q1 q2) (by omega)
    · exact absurd (alive _ _ _ q1' q2') (by omega)
    · rfl
  · rcases blk _ _ _ h hc with ⟨c0, q1, q2⟩ | ⟨rfl, q⟩
    · exact p2 _ _ q1 q2
    · omega
  · have hne : j ≠ id := by
      rintro rfl
      rw [hid] at h; cases h; exact hk hk0
    obtain ⟨c1, h1⟩ := (hΦ1 j).2 c h
    obtain ⟨c2, h2, h3⟩ := (hΦ1 j).1 c1 h1
    rw [h] at h2; cases h2
    refine ⟨setB_ne hne, c1, ?_, h3.kind⟩
    rw [hΦ, nbeq_of (fun he => hne he.symm)]
    exact h1
theorem sat_head {B : Base} {e N r β σ Φ a w} {id : Nat} {ch ch' : Chunk} {v' : Value} {w' : World} {σ' : Env} {Φ1 Φ' : Phi} (s : Sat B e N r β σ Φ a w) (hid : Phi.get Φ id = some ch)
    (hσ : ∀ k g sv', Env.get σ' k = some (g, sv') → ∃ sv, Env.get σ k = some (g, sv) ∧ Stale id sv sv')
    (hΦ1 : ∀ j, (∀ c', Phi.get Φ1 j = some c' → ∃ c, Phi.get Φ j = some c ∧ StaleC id c c') ∧ (∀ c, Phi.get Φ j = some c → ∃ c', Phi.get Φ1 j = some c'))
    (hΦ : ∀ j, Phi.get Φ' j = bif Nat.beq id j then some ch' else Phi.get Φ1 j)
    (hos : w'.os = w.os) (ht : w'.tape = w.tape) (hout : w'.output = w.output) (hsz : w.heap.size ≤ w'.heap.size)
    (hold : ∀ b, b < w.heap.size → ch.blk (β id) ≠ some b → w'.heap[b]? = w.heap[b]?)
    (hblk : ∀ b, ch'.blk v' = some b → ch.blk (β id) = some b ∨ w.heap.size ≤ b)
    (hch : ch'.Sat r (setB β id v') w' v') (hk0 : ch.kind = 0) : Sat B e N r (setB β id v') σ' Φ' a w' := by
  obtain ⟨h1, h2⟩ := mem_head s.mem hid hΦ1 hΦ hos ht hout hsz hold hblk hch hk0
  refine s.step (s.agree.of fun k g sv' hg => ?_) h1 (Mem.le_refl r) h2
  obtain ⟨sv, q1, q2⟩ := hσ k g sv' hg
  exact ⟨sv, q1, fun v hr => q2.rel hr v'⟩
structure NewRows (r : Mem) (sz m : Nat) (rows : List (List SV)) (news : List Value) : Prop where
  len : rows.length = m
  size : news.length = m * sz
  row : ∀ (i : Nat) (row : List SV), rows[i]? = some row → row.length = sz
  rel : ∀ (i : Nat) (row : List SV) (j : Nat) (sv : SV) (v : Value), rows[i]? = some row → row[j]? = some sv → news[i * sz + j]? = some v → Rel r β0 sv v
  one : ∀ (i : Nat) (row : List SV) (j : Nat) (sv : SV), rows[i]? = some row → row[j]? = some sv → sv.one = true
  ones : ∀ v ∈ news, v.oneCell' = true
def blkOf : Value → Option Nat
  | .slice (some a) _ cap => bif Nat.beq cap 0 then none else some a.block
  | _ => none
theorem blk_own_eq (τ : Ty) (l : List τ.T) (x : Value) : (Chunk.own τ l).blk x = blkOf x := by
  cases x <;> first | rfl | (rename_i a _ _; cases a <;> rfl)
theorem RowsAt.app {r : Mem} {sz n m : Nat} {rows new : List (List SV)} {news : List Value} {c c' : Array Value} {off : Nat}
    (hn : rows.length = n) (nr : NewRows r sz m new news)
    (hrow : ∀ (i : Nat) (row : List SV), rows[i]? = some row → row.length = sz)
    (hrel : ∀ (i : Nat) (row : List SV) (j : Nat) (sv : SV) (v : Value), rows[i]? = some row → row[j]? = some sv → c[off + i * sz + j]? = some v → Rel r β0 sv v)
    {off' : Nat} (hold : ∀ j, j < n * sz → c'[off' + j]? = c[off + j]?) (hnew : ∀ j, j < m * sz → c'[off' + n * sz + j]? = news[j]?) :
    (∀ (i : Nat) (row : List SV), (rows ++ new)[i]? = some row → row.length = sz) ∧
    (∀ (i : Nat) (row : List SV) (j : Nat) (sv : SV) (v : Value), (rows ++ new)[i]? = some row → row[j]? = some sv → c'[off' + i * sz + j]? = some v → Rel r β0 sv v) := by
  have lt : ∀ {l : List SV} {j : Nat} {sv}, l[j]? = some sv → j < l.length := by
    intro l j sv h
    rcases Nat.lt_or_ge j l.length with h' | h'
    · exact h'
    · rw [List.getElem?_eq_none h'] at h; cases h
  have ltr : ∀ {l : List (List SV)} {j : Nat} {sv}, l[j]? = some sv → j < l.length := by
    intro l j sv h
    rcases Nat.lt_or_ge j l.length with h' | h'
    · exact h'
    · rw [List.getElem?_eq_none h'] at h; cases h
  refine ⟨fun i row hi => ?_, fun i row j sv v hi hj hv => ?_⟩
  · rw [List.getElem?_append] at hi
    split at hi
    · exact hrow _ _ hi
    · exact nr.row _ _ hi
  · rw [List.getElem?_append] at hi
    split at hi
    · rename_i hlt
      have hjs : j < sz := by have := hrow _ _ hi; have := lt hj; omega
      have hb : i * sz + j < n * sz := by
        have : (i + 1) * sz ≤ n * sz := Nat.mul_le_mul_right sz (by omega)
        rw [Nat.add_mul] at this; omega
      rw [Nat.add_assoc, hold _ hb, ← Nat.add_assoc] at hv
      exact hrel i row j sv v hi hj hv
    · rename_i hge
      have hjs : j < sz := by have := nr.row _ _ hi; have := lt hj; omega
      have him := ltr hi
      rw [nr.len] at him
      have hb : (i - n) * sz + j < m * sz := by
        have : (i - n + 1) * sz ≤ m * sz := Nat.mul_le_mul_right sz (by omega)
        rw [Nat.add_mul] at this; omega
      have e : off' + i * sz + j = off' + n * sz + ((i - n) * sz + j) := by
        have : i * sz = n * sz + (i - n) * sz := by rw [← Nat.add_mul]; congr 1; omega
        omega
      rw [e, hnew _ hb] at hv
      rw [hn] at hi
      exact nr.rel _ _ _ _ _ hi hj hv
theorem one_app {r : Mem} {sz m : Nat} {rows new : List (List SV)} {news : List Value}
    (h : ∀ (i : Nat) (row : List SV) (j : Nat) (sv : SV), rows[i]? = some row → row[j]? = some sv → sv.one = true) (nr : NewRows r sz m new news) :
    ∀ (i : Nat) (row : List SV) (j : Nat) (sv : SV), (rows ++ new)[i]? = some row → row[j]? = some sv → sv.one = true := by
  intro i row j sv hi hj
  rw [List.getElem?_append] at hi
  split at hi
  · exact h _ _ _ _ hi hj
  · exact nr.one _ _ _ _ hi hj
set_option maxHeartbeats 1000000 in
theorem run_append {P : Program} {r : Mem} {w : World} {t tx e ty : TypeId} {dx : TypeDesc} {i : TypeInfo} {z : Value} (ht : P.underlying t = some (.slice e)) (hx : P.underlying tx = some dx)
    (hni : dx = .string ∨ ∃ e', dx = .slice e') (hi : P.info? e = some i) (hz : i.zero = some z) (hzs : z.cells.size = i.size) (hsz : i.size ≠ 0)
    {v xv : Value} {rows new : List (List SV)} {news : List Value} {m : Nat} {bt : Bool} (h5 : bt = true → e = 5) (hv : RowsAt r w v bt i.size rows) (nr : NewRows r i.size m new news)
    (hlen : ∀ w', (Builtin.lenOf xv).run P w' = .ok m w') (hnews : ∀ w', w'.heap = w.heap → (Builtin.firstCells i.size m xv).run P w' = .ok news.toArray w')
    (hb : (rows.length + m) * i.bytes ≤ 70368744177664) (hb2 : rows.length + m ≤ 70368744177664) :
    ∃ v' w', (Builtin.append_ #[t, tx] ty #[v, xv]).run P w = .ok v' w' ∧ RowsAt r w' v' bt i.size (rows ++ new) ∧ w'.os = w.os ∧ w'.tape = w.tape ∧ w'.output = w.output ∧ w.heap.size ≤ w'.heap.size ∧
      (∀ b, b < w.heap.size → blkOf v ≠ some b → w'.heap[b]? = w.heap[b]?) ∧ (∀ b, blkOf v' = some b → blkOf v = some b ∨ w.heap.size ≤ b) := by
  have hrow0 : ∀ (i' : Nat) (row : List SV), ([] : List (List SV))[i']? = some row → row.length = i.size := by intro i' row h; simp at h
  have grow : ∀ (a0 : Option Addr) (cap : Nat) (olds : List Value), v = .slice a0 rows.length cap → ¬ (rows.length + m ≤ cap) → olds.length = rows.length * i.size →
      (∀ w', w'.heap = w.heap → (Builtin.firstCells i.size rows.length v).run P w' = .ok olds.toArray w') →
      (∀ (i' : Nat) (row : List SV), rows[i']? = some row → row.length = i.size) →
      (∀ (i' : Nat) (row : List SV) (j : Nat) (sv : SV), rows[i']? = some row → row[j]? = some sv → sv.one = true) →
      (∀ (i' : Nat) (row : List SV) (j : Nat) (sv : SV) (u : Value), rows[i']? = some row → row[j]? = some sv → olds[i' * i.size + j]? = some u → Rel r β0 sv u) →
      ∃ v' w', (Builtin.append_ #[t, tx] ty #[v, xv]).run P w = .ok v' w' ∧ RowsAt r w' v' bt i.size (rows ++ new) ∧ w'.os = w.os ∧ w'.tape = w.tape ∧ w'.output = w.output ∧ w.heap.size ≤ w'.heap.size ∧
      (∀ b, b < w.heap.size → blkOf v ≠ some b → w'.heap[b]? = w.heap[b]?) ∧ (∀ b, blkOf v' = some b → blkOf v = some b ∨ w.heap.size ≤ b) := by
    intro a0 cap olds hve hn holen holds hrow hone hrel
    have h63 : ¬ ((9223372036854775807 : Int) < ((rows.length + m : Nat) : Int)) := by omega
    have hfit : Builtin.nextslicecap (rows.length + m) cap * i.bytes ≤ 281474976710656 := growslice_fits (by omega) (by omega)
    have h48 : ¬ (281474976710656 < Builtin.nextslicecap (rows.length + m) cap * i.bytes) := by omega
    have hge : rows.length + m ≤ grownCap w (rows.length + m) cap e := grownCap_ge w _ _ _
    refine ⟨.slice (some ⟨w.heap.size, 0, none⟩) (rows.length + m) (grownCap w (rows.length + m) cap e),
      { w with heap := w.heap.push (.cells (olds.toArray ++ (news.toArray ++ Builtin.zeroCells z.cells (grownCap w (rows.length + m) cap e - (rows.length + m)))) e), drawn := w.drawn + 1 }, ?_, ?_, rfl, rfl, rfl, ?_, ?_, ?_⟩
    · have hf := hnews w.drew rfl
      have hfo := holds w.drew rfl
      rw [hve] at hfo ⊢
      have hl := hlen w
      have h63' : ¬ (9223372036854775807 < (rows.length : Int) + (m : Int)) := by omega
      rcases hni with rfl | ⟨e', rfl⟩
      all_goals
        simp [Builtin.append_, run_underlying ht, run_underlying hx, sizeOf, typeInfo, zeroValue, hi, hz, hl, hn, h63', h48, Question.forced, hf, hfo, newRow, grownCap]
        rfl
    · have hg0 : grownCap w (rows.length + m) cap e ≠ 0 := by omega
      have hzc : (Builtin.zeroCells z.cells (grownCap w (rows.length + m) cap e - (rows.length + m))).size = (grownCap w (rows.length + m) cap e - (rows.length + m)) * i.size := by rw [size_zeroCells, hzs]
      have hnl := nr.size
      have hap := RowsAt.app (c := olds.toArray) (c' := olds.toArray ++ (news.toArray ++ Builtin.zeroCells z.cells (grownCap w (rows.length + m) cap e - (rows.length + m)))) (off := 0) (off' := 0) (n := rows.length) rfl nr hrow
        (fun i' row j sv u q1 q2 q3 => hrel i' row j sv u q1 q2 (by simpa using q3))
        (fun j hj => by rw [Nat.zero_add, Array.getElem?_append_left (by simp; omega)])
        (fun j hj => by
          rw [Nat.zero_add, Array.getElem?_append_right (by simp; omega)]
          simp only [List.size_toArray, holen, Nat.add_sub_cancel_left]
          rw [Array.getElem?_append_left (by simp; omega)]
          simp)
      refine .inr ⟨w.heap.size, 0, grownCap w (rows.length + m) cap e, _, e, (0, 0), ?_, hg0, heap_alloc_eq (w := { w with drawn := w.drawn + 1 }), ⟨fun h => ⟨h5 h, rfl⟩, .inl rfl⟩, ?_, ?_, ?_, hap.1, one_app hone nr, hap.2⟩
      · rw [List.length_append, nr.len]
      · exact grownCap_le_maxLen w _ _ _ (by show rows.length + m ≤ 2 ^ 63 - 1; omega)
      · rw [List.length_append, nr.len]; exact hge
      · simp only [Array.size_append, List.size_toArray, hzc, holen, hnl, Nat.zero_add]
        rw [← Nat.add_mul, ← Nat.add_mul]
        exact Nat.mul_le_mul_right _ (by omega)
    · show w.heap.size ≤ (w.heap.push _).size; simp
    · intro b hb' _
      exact heap_alloc_lt (w := { w with drawn := w.drawn + 1 }) hb'
    · intro b hb'
      have : grownCap w (rows.length + m) cap e ≠ 0 := by omega
      simp only [blkOf, nbeq_of this, cond_false, Option.some.injEq] at hb'
      right; omega
  rcases hv with ⟨a, hve, hr0⟩ | ⟨b, off, cap, c, T, fr, hve, hc0, hw, hfr, hm1, hcap, hszc, hrow, hone, hrel⟩
  · subst hr0
    by_cases hm : m = 0
    · subst hm
      have hnn : new = [] := List.length_eq_zero_iff.1 nr.len
      have hne : news = [] := List.length_eq_zero_iff.1 (by simpa using nr.size)
      subst hnn; subst hne
      refine ⟨v, w, ?_, .inl ⟨a, hve, rfl⟩, rfl, rfl, rfl, Nat.le_refl _, fun _ _ _ => rfl, fun b hb => ?_⟩
      · rw [hve]
        have hl := hlen w
        have hf := hnews w rfl
        rcases hni with rfl | ⟨e', rfl⟩
        all_goals
          simp only [List.length_nil] at *
          simp [Builtin.append_, run_underlying ht, run_underlying hx, sizeOf, typeInfo, hi, hl, hf]
          cases a <;> simp [storeCells]
      · rw [hve] at hb; cases a <;> simp [blkOf] at hb
    · refine grow a 0 [] (by simpa using hve) (by simp; omega) (by simp) (fun w' _ => ?_) hrow0 (fun i' row j sv q1 => by simp at q1) (fun i' row j sv u q1 => by simp at q1)
      rw [hve]
      cases a <;> simp [Builtin.firstCells, loadCells, loadCellsFrom]
  · have hbl : blkOf v = some b := by rw [hve]; simp only [blkOf, nbeq_of hc0]; rfl
    by_cases hroom : rows.length + m ≤ cap
    · have hfit : off + rows.length * i.size + 0 + news.length ≤ c.size := by
        rw [nr.size]
        have := Nat.mul_le_mul_right i.size hroom
        rw [Nat.add_mul] at this
        omega
      obtain ⟨cur', w', hst, q1, q2, q3, q4⟩ := run_storeCells (P := P) b (off + rows.length * i.size) T fr news 0 c w hw hfit nr.ones (hfr.cell)
      refine ⟨.slice (some ⟨b, off, none⟩) (rows.length + m) cap, w', ?_, ?_, q2.os, q2.tape, q2.output, by rw [q2.size]; exact Nat.le_refl _, fun b' _ hb' => q2.old b' (fun he => hb' (he ▸ hbl)), fun b' hb' => ?_⟩
      · rw [hve]
        have hl := hlen w
        have hf := hnews w rfl
        rcases hni with rfl | ⟨e', rfl⟩
        all_goals
          simp [Builtin.append_, run_underlying ht, run_underlying hx, sizeOf, typeInfo, hi, hl, hf, hroom, add_mk, hst]
      · have hap := RowsAt.app (c := c) (c' := cur') (off := off) (off' := off) (n := rows.length) rfl nr hrow hrel
          (fun j hj => by rw [q4, if_neg (by omega)])
          (fun j hj => by
            rw [q4, if_pos (by have := nr.size; omega)]
            congr 1; omega)
        refine .inr ⟨b, off, cap, cur', T, fr, by rw [List.length_append, nr.len], hc0, q1, hfr.turn q3, hm1, by rw [List.length_append, nr.len]; exact hroom, by rw [q3]; exact hszc, hap.1, one_app hone nr, hap.2⟩
      · simp only [blkOf, nbeq_of hc0, cond_false, Option.some.injEq] at hb'
        left; rw [hbl, ← hb']
    · -- it grows
      have hbnd : ∀ j, j < rows.length * i.size → off + j < c.size := by
        intro j hj
        have := Nat.mul_le_mul_right i.size hcap
        omega
      refine grow (some ⟨b, off, none⟩) cap ((List.range (rows.length * i.size)).map fun j => c.getD (off + j) undef) hve hroom (by simp) (fun w' hw' => ?_) hrow hone (fun i' row j sv u q1 q2 q3 => ?_)
      · rw [hve]
        have hw'' : w'.heap[b]? = some (.cells c T fr) := by rw [hw']; exact hw
        have := run_loadCells (P := P) w' ⟨b, off, none⟩ (rows.length * i.size) (fun j => c.getD (off + j) undef) (fun j hj => by
          rw [add_mk, cell_of_block hw'']
          simp [Array.getD_eq_getD_getElem?, hbnd j hj])
        simp only [Builtin.firstCells, this]
      · have hlt : i' * i.size + j < rows.length * i.size := by
          rcases Nat.lt_or_ge (i' * i.size + j) (rows.length * i.size) with h | h
          · exact h
          · rw [List.getElem?_eq_none (by simpa using h)] at q3; cases q3
        rw [List.getElem?_map, List.getElem?_range hlt] at q3
        simp only [Option.map_some, Option.some.injEq] at q3
        refine hrel i' row j sv u q1 q2 ?_
        rw [Nat.add_assoc, ← q3, Array.getD_eq_getD_getElem?, Array.getElem?_eq_getElem (hbnd _ hlt)]
        rfl
end Go.Vc

namespace Go.Vc
set_option autoImplicit false
theorem rows_news {P : Program} {r : Mem} {w : World} {sz : Nat} {rows : List (List SV)} {b off cap : Nat} {c : Array Value} {T : TypeId} {fr : Nat × Nat}
    (hw : w.heap[b]? = some (.cells c T fr)) (hc : off + rows.length * sz ≤ c.size)
    (hrow : ∀ (i : Nat) (row : List SV), rows[i]? = some row → row.length = sz)
    (hone : ∀ (i : Nat) (row : List SV) (j : Nat) (sv : SV), rows[i]? = some row → row[j]? = some sv → sv.one = true)
    (hrel : ∀ (i : Nat) (row : List SV) (j : Nat) (sv : SV) (v : Value), rows[i]? = some row → row[j]? = some sv → c[off + i * sz + j]? = some v → Rel r β0 sv v) :
    ∃ news, NewRows r sz rows.length rows news ∧ ∀ w', w'.heap = w.heap → (Builtin.firstCells sz rows.length (.slice (some ⟨b, off, none⟩) rows.length cap)).run P w' = .ok news.toArray w' := by
  have hbnd : ∀ j, j < rows.length * sz → off + j < c.size := by intro j hj; omega
  have get : ∀ (j : Nat) (u : Value), ((List.range (rows.length * sz)).map fun j => c.getD (off + j) undef)[j]? = some u → j < rows.length * sz ∧ c[off + j]? = some u := by
    intro j u h
    have hlt : j < rows.length * sz := by have := lt_len h; simpa using this
    rw [List.getElem?_map, List.getElem?_range hlt] at h
    simp only [Option.map_some, Option.some.injEq] at h
    refine ⟨hlt, ?_⟩
    rw [← h, Array.getD_eq_getD_getElem?, Array.getElem?_eq_getElem (hbnd _ hlt)]
    rfl
  refine ⟨(List.range (rows.length * sz)).map fun j => c.getD (off + j) undef, ⟨rfl, by simp, hrow, fun i row j sv v h1 h2 h3 => ?_, hone, fun v hv => ?_⟩, fun w' hw' => ?_⟩
  · have := (get _ _ h3).2
    rw [← Nat.add_assoc] at this
    exact hrel _ _ _ _ _ h1 h2 this
  · obtain ⟨k, hk, rfl⟩ := List.getElem_of_mem hv
    obtain ⟨hlt, hcv⟩ := get k _ (List.getElem?_eq_getElem hk)
    have hsz : 0 < sz := by
      rcases Nat.eq_zero_or_pos sz with h | h
      · subst h; simp at hlt
      · exact h
    have hi : k / sz < rows.length := (Nat.div_lt_iff_lt_mul hsz).2 hlt
    have h1 : rows[k / sz]? = some rows[k / sz] := List.getElem?_eq_getElem hi
    have hrl := hrow _ _ h1
    have hj : k % sz < rows[k / sz].length := by rw [hrl]; exact Nat.mod_lt _ hsz
    have h2 : rows[k / sz][k % sz]? = some rows[k / sz][k % sz] := List.getElem?_eq_getElem hj
    have e : k / sz * sz + k % sz = k := by rw [Nat.mul_comm]; exact Nat.div_add_mod k sz
    exact (hrel _ _ _ _ _ h1 h2 (by rw [Nat.add_assoc, e]; exact hcv)).oneCell (hone _ _ _ _ h1 h2)
  · have hw'' : w'.heap[b]? = some (.cells c T fr) := by rw [hw']; exact hw
    have := run_loadCells (P := P) w' ⟨b, off, none⟩ (rows.length * sz) (fun j => c.getD (off + j) undef) (fun j hj => by
      rw [add_mk, cell_of_block hw'']
      simp [Array.getD_eq_getD_getElem?, hbnd j hj])
    simp only [Builtin.firstCells, this]
theorem news_empty {P : Program} {r : Mem} {w : World} {sz : Nat} (a : Option Addr) (cap : Nat) :
    ∃ news, NewRows r sz 0 [] news ∧ ∀ w', w'.heap = w.heap → (Builtin.firstCells sz 0 (.slice a 0 cap)).run P w' = .ok news.toArray w' := by
  refine ⟨[], ⟨rfl, by simp, fun i row h => by simp at h, fun i row j sv v h => by simp at h, fun i row j sv h => by simp at h, fun v hv => by cases hv⟩, fun w' _ => ?_⟩
  cases a <;> simp [Builtin.firstCells, loadCells, loadCellsFrom]
theorem lits_news {P : Program} {r : Mem} {β : Bind} {w : World} {sz : Nat} {rows : List (List SV)} {x : Value} (h : Rel r β (.lits sz rows) x) (hvis : ∀ b o, r b = some o → w.heap[b]? = some o) :
    ∃ news, NewRows r sz rows.length rows news ∧ (∀ w', (Builtin.lenOf x).run P w' = .ok rows.length w') ∧ ∀ w', w'.heap = w.heap → (Builtin.firstCells sz rows.length x).run P w' = .ok news.toArray w' := by
  cases h with
  | litsE => obtain ⟨news, h1, h2⟩ := news_empty (P := P) (r := r) (w := w) (sz := sz) _ _; exact ⟨news, h1, fun w' => rfl, h2⟩
  | lits hb hn hcap hrow ho hc hr =>
    rename_i b off cap c T fr
    obtain ⟨news, h1, h2⟩ := rows_news (P := P) (cap := cap) (hvis _ _ hb) hc hrow ho hr
    exact ⟨news, h1, fun w' => rfl, h2⟩
theorem rowsAt_news {P : Program} {r : Mem} {w : World} {sz : Nat} {rows : List (List SV)} {bt : Bool} {x : Value} (h : RowsAt r w x bt sz rows) :
    ∃ news, NewRows r sz rows.length rows news ∧ (∀ w', (Builtin.lenOf x).run P w' = .ok rows.length w') ∧ ∀ w', w'.heap = w.heap → (Builtin.firstCells sz rows.length x).run P w' = .ok news.toArray w' := by
  rcases h with ⟨a, rfl, rfl⟩ | ⟨b, off, cap, c, T, fr, rfl, hc0, hw, hfr, hm1, hcap, hszc, hrow, hone, hrel⟩
  · obtain ⟨news, h1, h2⟩ := news_empty (P := P) (r := r) (w := w) (sz := sz) a 0; exact ⟨news, h1, fun w' => rfl, h2⟩
  · have : off + rows.length * sz ≤ c.size := by have := Nat.mul_le_mul_right sz hcap; omega
    obtain ⟨news, h1, h2⟩ := rows_news (P := P) (cap := cap) hw this hrow hone hrel
    exact ⟨news, h1, fun w' => rfl, h2⟩
theorem str_news {P : Program} {r : Mem} {w : World} (l : List UInt8) :
    ∃ news, NewRows r 1 l.length (l.map (Ty.enc .byte)) news ∧ (∀ w', (Builtin.lenOf (.string ⟨l.toArray⟩)).run P w' = .ok l.length w') ∧ ∀ w', w'.heap = w.heap → (Builtin.firstCells 1 l.length (.string ⟨l.toArray⟩)).run P w' = .ok news.toArray w' := by
  refine ⟨l.map fun b => .int .u8 b.toNat, ⟨by simp, by simp, fun i row h => ?_, fun i row j sv v h1 h2 h3 => ?_, fun i row j sv h1 h2 => ?_, fun v hv => ?_⟩, fun w' => by simp [Builtin.lenOf, ByteArray.size], fun w' _ => ?_⟩
  · rw [List.getElem?_map] at h
    cases hq : l[i]? with
    | none => rw [hq] at h; cases h
    | some b => rw [hq] at h; simp at h; subst h; rfl
  · rw [List.getElem?_map] at h1
    cases hq : l[i]? with
    | none => rw [hq] at h1; cases h1
    | some b =>
      rw [hq] at h1
      simp at h1
      subst h1
      cases j with
      | zero =>
        simp [Ty.enc] at h2
        subst h2
        rw [List.getElem?_map] at h3
        simp only [Nat.mul_one, Nat.add_zero, hq, Option.map_some, Option.some.injEq] at h3
        subst h3
        exact .int
      | succ j => simp [Ty.enc] at h2
  · rw [List.getElem?_map] at h1
    cases hq : l[i]? with
    | none => rw [hq] at h1; cases h1
    | some b =>
      rw [hq] at h1
      simp at h1
      subst h1
      cases j with
      | zero => simp [Ty.enc] at h2; subst h2; rfl
      | succ j => simp [Ty.enc] at h2
  · obtain ⟨b, _, rfl⟩ := List.mem_map.1 hv; rfl
  · have : (ByteArray.mk l.toArray).extract 0 l.length = ByteArray.mk l.toArray := by rw [ByteArray.extract_mk]; simp
    simp [Builtin.firstCells, this]
theorem NewRows.ent {r sz m rows news} {τ : Ty} {l : List τ.T} (nr : NewRows r sz m rows news) (h : EntRows τ rows l) (hs : sz = τ.size) : NewRows r sz m (l.map τ.enc) news := by
  have key : ∀ (i : Nat) (row : List SV), (l.map τ.enc)[i]? = some row → ∃ row0, rows[i]? = some row0 ∧ Entl row0 row := by
    intro i row hi
    rw [List.getElem?_map] at hi
    cases hq : l[i]? with
    | none => rw [hq] at hi; cases hi
    | some a =>
      rw [hq] at hi
      simp at hi
      subst hi
      have hlt : i < rows.length := by have := lt_len hq; rw [← h.1]; exact this
      exact ⟨rows[i], List.getElem?_eq_getElem hlt, h.2 i _ a (List.getElem?_eq_getElem hlt) hq⟩
  refine ⟨by simp [h.1, nr.len], nr.size, fun i row hi => ?_, fun i row j sv v hi hj hv => ?_, fun i row j sv hi hj => ?_, nr.ones⟩
  · obtain ⟨row0, g1, g2⟩ := key i row hi; rw [g2.1]; exact nr.row _ _ g1
  · obtain ⟨row0, g1, g2⟩ := key i row hi
    have hjl : j < row0.length := by have := lt_len hj; rw [← g2.1]; exact this
    exact (g2.2 j _ sv (List.getElem?_eq_getElem hjl) hj).1 _ _ _ (nr.rel _ _ _ _ _ g1 (List.getElem?_eq_getElem hjl) hv)
  · obtain ⟨row0, g1, g2⟩ := key i row hi
    have hjl : j < row0.length := by have := lt_len hj; rw [← g2.1]; exact this
    exact (g2.2 j _ sv (List.getElem?_eq_getElem hjl) hj).2.1 (nr.one _ _ _ _ g1 (List.getElem?_eq_getElem hjl))
theorem srcK_sound {P : Program} {Φ : Phi} {e : TypeId} {τ : Ty} {x : SV} {K : List τ.T → Prop} (h : srcK P Φ e τ x K) :
    ∃ l, K l ∧ ∃ i, P.info? e = some i ∧ i.size = τ.size ∧ ∀ r β w xv, Rel r β x xv → MemSat r β Φ w → ∃ news, NewRows r i.size l.length (l.map τ.enc) news ∧ (∀ w', (Builtin.lenOf xv).run P w' = .ok l.length w') ∧
      (∀ w', w'.heap = w.heap → (Builtin.firstCells i.size l.length xv).run P w' = .ok news.toArray w') := by
  unfold srcK at h
  cases hz : szOk P e τ.size with
  | false => rw [hz] at h; exact h.elim
  | true =>
  rw [hz] at h
  obtain ⟨i, hi, his⟩ := szOk_info hz
  simp only [cond_true] at h
  split at h
  · rename_i s rows
    cases hs : Nat.beq s τ.size with
    | false => rw [hs] at h; exact h.elim
    | true =>
      rw [hs] at h
      obtain ⟨l, hk, hl⟩ := decRowsK_sound (fun _ _ h => decK_sound h) h
      refine ⟨l, hk, i, hi, his, fun r β w xv hx m => ?_⟩
      have hs' := beq_of hs
      subst hs'
      obtain ⟨news, h1, h2, h3⟩ := lits_news (P := P) hx m.vis
      rw [his]
      rw [← hl.1] at h1 h2 h3
      exact ⟨news, h1.ent hl rfl, h2, h3⟩
  · rename_i τ' l
    obtain ⟨rfl, h⟩ := castK_sound h
    refine ⟨l, h, i, hi, his, fun r β w xv hx m => ?_⟩
    cases hx with
    | rd hx => have := lits_news (P := P) hx m.vis; rw [his]; simpa using this
  · refine ⟨[], h, i, hi, his, fun r β w xv hx m => ?_⟩
    cases hx
    obtain ⟨news, h1, h2⟩ := news_empty (P := P) (r := r) (w := w) (sz := i.size) none 0
    exact ⟨news, h1, fun w' => rfl, h2⟩
  · rename_i l
    obtain ⟨rfl, h⟩ := castK_sound h
    refine ⟨l, h, i, hi, his, fun r β w xv hx m => ?_⟩
    rw [his]
    cases hx
    exact str_news l
  · rename_i id
    split at h
    · rename_i τ' l hg
      obtain ⟨rfl, h⟩ := castK_sound h
      refine ⟨l, h, i, hi, his, fun r β w xv hx m => ?_⟩
      rw [his]
      cases hx
      have hs := m.rowsR hg
      cases hs with
      | own hs => have := rowsAt_news (P := P) hs; simpa using this
    · exact h.elim
  · exact h.elim
theorem RowsAt.oneCell {r w x bt sz rows} (h : RowsAt r w x bt sz rows) : x.oneCell' = true := by
  obtain ⟨a, cap, rfl, _⟩ := h.slice; rfl
theorem zero_of_run {P : Program} {el : TypeId} {i : TypeInfo} {zv : Value} {w : World} (hi : P.info? el = some i) (h : (zeroValue el).run P w = .ok zv w) : i.zero = some zv := by
  cases hq : i.zero with
  | none => simp [zeroValue, typeInfo, hi, hq] at h
  | some z0 => simp [zeroValue, typeInfo, hi, hq] at h; rw [h]
theorem own_rel {r β id v} (h : Value.oneCell' v = true) : Rel r (setB β id v) (.own id) v := by
  have hs := setB_self β id v
  have q := Rel.own (r := r) (β := setB β id v) (id := id) (by rw [hs]; exact h)
  rwa [hs] at q
theorem appendK_sound {B : Base} {e N r β σ Φ a w n ts tx ty} {s x : SV} {vs vx : Value} {K : EK} (h : appendK B ts tx s x σ Φ n K) (st : Sat B e N r β σ Φ a w) (hs : Rel r β s vs) (hx : Rel r β x vx) :
    ∃ sv σ' Φ' n' v w' β', K sv σ' Φ' n' ∧ (Builtin.append_ #[ts, tx] ty #[vs, vx]).run B.P w = .ok v w' ∧ Rel r β' sv v ∧ Sat B e N r β' σ' Φ' a w' ∧ (∀ D, GdIn D σ → GdIn D σ') := by
  unfold appendK at h
  split at h
  · rename_i el dx hts htx
    cases hc : (!appendK.isSrcD dx || Nat.beq (sizeT B.P el) 0) with
    | true => rw [hc] at h; exact h.elim
    | false =>
    rw [hc] at h
    simp only [Bool.or_eq_false_iff, Bool.not_eq_false'] at hc
    obtain ⟨hc1, hc2⟩ := hc
    have hsrc : dx = .string ∨ ∃ e', dx = .slice e' := by
      cases dx <;> first | (cases hc1; done) | exact .inl rfl | exact .inr ⟨_, rfl⟩
    simp only [cond_false] at h
    obtain ⟨z, zv, h, hz1, _, hzrun, hzrel⟩ := zeroK_sound h
    cases hz2 : Nat.beq (len z) (sizeT B.P el) with
    | false => rw [hz2] at h; exact h.elim
    | true =>
    rw [hz2] at h
    simp only [cond_true] at h
    have hzl := beq_of hz2
    rw [len_eq] at hzl
    have common : ∀ {i}, B.P.info? el = some i → i.size ≠ 0 ∧ bytesT B.P el = i.bytes ∧ ∃ z0, i.zero = some z0 ∧ z0.cells.size = i.size := by
      intro i hi
      rw [sizeT_run hi] at hc2 hzl
      refine ⟨(by intro h0; rw [h0] at hc2; cases hc2), by simp [bytesT, hi], zv, zero_of_run hi (hzrun w), ?_⟩
      have := (hzrel r β).1
      simp at this
      omega
    split at h
    · -- to a nil slice
      cases hs
      split at h
      · rename_i τ hty
        obtain ⟨l, h, i, hi, his, hrows⟩ := srcK_sound h
        obtain ⟨hsz, hby, z0, hz0, hzc⟩ := common hi
        obtain ⟨news, nr, hlen, hnews⟩ := hrows r β w vx hx st.mem
        obtain ⟨hob, h⟩ := h
        have hob := hob.h
        rw [hby] at hob
        obtain ⟨v', w', hr, q1, q2, q3, q4, q5, q6, q7⟩ := run_append (P := B.P) (ty := ty) (v := .slice none 0 0) (rows := []) hts htx hsrc hi hz0 hzc hsz (ty_five hty) (.inl ⟨none, rfl, rfl⟩) nr hlen hnews (by simpa using hob.1) (by simpa using hob.2)
        have hg : Grows w w' := ⟨q2, q3, q4, q5, fun b hb => q6 b hb (by simp [blkOf])⟩
        have hblk : ∀ b, blkOf v' = some b → w.heap.size ≤ b := by
          intro b hb
          rcases q7 b hb with h | h
          · simp [blkOf] at h
          · exact h
        simp only [List.nil_append] at q1
        rw [his] at q1
        obtain ⟨sv, σ', Φ', n', hk, rfl, β', hr', hsat⟩ := newChK_sound h st hg (v := v') (fun b hb => hblk b (by rw [← blk_own_eq]; exact hb)) (.own q1) (own_rel q1.oneCell)
        exact ⟨sv, σ', Φ', n', v', w', β', hk, hr, hr', hsat, fun D hD => hD⟩
      · exact h.elim
    · rename_i id _
      split at h
      · rename_i τ l hg
        cases hokb : okB τ el with
        | false => rw [hokb] at h; exact h.elim
        | true =>
        rw [hokb] at h
        simp only [cond_true] at h
        obtain ⟨as, h, i, hi, his, hrows⟩ := srcK_sound h
        obtain ⟨hsz, hby, z0, hz0, hzc⟩ := common hi
        obtain ⟨news, nr, hlen, hnews⟩ := hrows r β w vx hx st.mem
        obtain ⟨hob, h⟩ := h
        have hob := hob.h
        rw [hby] at hob
        obtain ⟨σ', h, hσ⟩ := staleE_sound h
        obtain ⟨Φ1, h, hΦ1⟩ := staleP_sound h
        obtain ⟨c1, hc1'⟩ := (hΦ1 id).2 _ hg
        obtain ⟨Φ', hk, hΦ⟩ := setPK_sound h (hasId_of hc1')
        cases hs
        have hrs := st.mem.rows hg
        cases hrs with
        | own hrs =>
          rw [← his] at hrs
          obtain ⟨v', w', hr, q1, q2, q3, q4, q5, q6, q7⟩ := run_append (P := B.P) (ty := ty) hts htx hsrc hi hz0 hzc hsz (okB_five hokb) hrs nr hlen hnews (by simpa using hob.1) (by simpa using hob.2)
          rw [← List.map_append, his] at q1
          have hsat := sat_head (ch' := .own τ (l ++ as)) (v' := v') st hg hσ hΦ1 hΦ q2 q3 q4 q5
            (fun b hb hnb => q6 b hb (by rw [← blk_own_eq]; exact hnb)) (fun b hb => by rw [blk_own_eq] at hb ⊢; exact q7 b hb) (.own q1) rfl
          refine ⟨_, σ', Φ', n, v', w', _, hk, hr, ?_, hsat, fun D hD k s0 w0 sv0 hk0 => ?_⟩
          · exact own_rel q1.oneCell
          · obtain ⟨sv1, g1, _⟩ := hσ k _ _ hk0
            exact hD _ _ _ _ g1
      · exact h.elim
    · exact h.elim
  · exact h.elim
end Go.Vc

namespace Go.Vc
set_option autoImplicit false
theorem makeSliceK_sound {B : Base} {e N r β σ Φ a w n t} {ln cp : SV} {vl vc : Value} {K : EK} (h : makeSliceK B t ln cp σ Φ n K) (st : Sat B e N r β σ Φ a w) (hl : Rel r β ln vl) (hc : Rel r β cp vc) :
    ∃ sv Φ' n' v w' β', K sv σ Φ' n' ∧ (Instr.makeSlice t vl vc).run B.P w = .ok v w' ∧ Rel r β' sv v ∧ Sat B e N r β' σ Φ' a w' := by
  unfold makeSliceK at h
  split at h
  · rename_i el k1 a0 k2 c0 ht
    cases hl; cases hc
    cases hz0 : Nat.beq (sizeT B.P el) 0 with
    | true => rw [hz0] at h; exact h.elim
    | false =>
    rw [hz0] at h
    simp only [cond_false] at h
    obtain ⟨z, zv, h, hz1, _, hzrun, hzrel⟩ := zeroK_sound h
    cases hz2 : Nat.beq (len z) (sizeT B.P el) with
    | false => rw [hz2] at h; exact h.elim
    | true =>
    rw [hz2] at h
    simp only [cond_true] at h
    split at h
    · rename_i τ hty
      cases hz3 : szOk B.P el τ.size with
      | false => rw [hz3] at h; exact h.elim
      | true =>
      rw [hz3] at h
      obtain ⟨i, hi, his⟩ := szOk_info hz3
      obtain ⟨d, h, hent⟩ := dec1K_sound h
      obtain ⟨hob, h⟩ := h
      have hob := hob.h
      have hzl := beq_of hz2
      rw [len_eq, sizeT_run hi] at hzl
      have hby : bytesT B.P el = i.bytes := by simp [bytesT, hi]
      rw [hby] at hob
      have hzc : zv.cells.size = i.size := by
        have := (hzrel r β).1
        simp at this
        omega
      have hrun := run_make (P := B.P) w t el i zv ht hi (zero_of_run hi (hzrun w)) k1 k2 a0 c0 hob.1 hob.2.1 (by have := hob.2.2.1; rw [Int.mul_comm]; omega) (by omega)
      have hrows : RowsAt r { w with heap := w.heap.push (.cells (madeCells zv.cells (c0.toNat * i.size)) el) } (.slice (some ⟨w.heap.size, 0, none⟩) a0.toNat c0.toNat) τ.isB τ.size ((List.replicate a0.toNat d).map τ.enc) := by
        by_cases hcz : c0.toNat = 0
        · have : a0.toNat = 0 := by omega
          left
          exact ⟨_, by rw [hcz, this], by rw [this]; rfl⟩
        · right
          have rowz : ∀ (k : Nat) (row : List SV), ((List.replicate a0.toNat d).map τ.enc)[k]? = some row → k < a0.toNat ∧ row = τ.enc d := by
            intro k row hk
            have hlt := lt_len hk
            rw [List.length_map, List.length_replicate] at hlt
            refine ⟨hlt, ?_⟩
            rw [List.getElem?_map, List.getElem?_replicate, if_pos hlt] at hk
            simp at hk
            rw [← hk]
          refine ⟨w.heap.size, 0, c0.toNat, _, el, (0, 0), by simp, hcz, heap_alloc_eq, ⟨fun h => ⟨ty_five hty h, rfl⟩, .inl rfl⟩, by simp; omega, by simp; omega, by rw [size_madeCells, his]; omega, ?_, ?_, ?_⟩
          · intro k row hk; rw [(rowz k row hk).2, enc_len]
          · intro k row j sv hk hj
            rw [(rowz k row hk).2] at hj
            exact enc_one τ d j sv hj
          · intro k row j sv v hk hj hv
            obtain ⟨hk1, hk2⟩ := rowz k row hk
            subst hk2
            have hjl := lt_len hj
            rw [enc_len, ← his] at hjl
            rw [Nat.zero_add, ← his, madeCells_get hzc k j (by omega) hjl] at hv
            have hzj : z[j]? = some z[j] := List.getElem?_eq_getElem (by omega)
            exact (hent.2 j _ sv hzj hj).1 _ _ _ ((hzrel r β0).2 j _ v hzj (by simpa using hv))
      obtain ⟨sv, σ', Φ', n', hk, rfl, β', hr', hsat⟩ := newChK_sound h st (Grows.alloc w (.cells (madeCells zv.cells (c0.toNat * i.size)) el)) (v := .slice (some ⟨w.heap.size, 0, none⟩) a0.toNat c0.toNat)
        (fun b hb => by
          simp only [Chunk.blk] at hb
          cases hq : Nat.beq c0.toNat 0 with
          | true => rw [hq] at hb; cases hb
          | false => rw [hq] at hb; simp at hb; omega) (.own hrows) (own_rel rfl)
      exact ⟨sv, Φ', n', _, _, β', hk, hrun, hr', hsat⟩
    · exact h.elim
  · exact h.elim
theorem buildSliceK_sound {B : Base} {e N r β σ Φ a w n t ln parts} {K : EK} (h : buildSliceK B σ t ln parts Φ n K) (st : Sat B e N r β σ Φ a w) :
    ∃ sv Φ' n' v w' β', K sv σ Φ' n' ∧ (Instr.buildSlice t ln (parts.map fun (i, x) => (i, a.eval x)).toArray).run B.P w = .ok v w' ∧ Rel r β' sv v ∧ Sat B e N r β' σ Φ' a w' := by
  unfold buildSliceK at h
  split at h
  · rename_i el ht
    split at h
    · rename_i τ hty
      cases hz : szOk B.P el τ.size with
      | false => rw [hz] at h; exact h.elim
      | true =>
      rw [hz] at h
      have hts := (szOk_spec hz).1
      obtain ⟨rows, h, h1, h2, h3, h4, h5, h6⟩ := rowsOfK_sound h
      obtain ⟨l, h, hl⟩ := decRowsK_sound (fun _ _ h => decK_sound h) h
      obtain ⟨us, hus, hrun, hrel⟩ := h6 _ r β a _ (fun _ _ => hasT _) (Sm.plain st.agree)
      have hlen : (l.map τ.enc).length = ln := by rw [List.length_map, hl.1, h1]
      have hrows : RowsAt r { w with heap := w.heap.push (.cells us el) } (.slice (some ⟨w.heap.size, 0, none⟩) ln ln) τ.isB τ.size (l.map τ.enc) := by
        by_cases hz : ln = 0
        · left
          exact ⟨_, by rw [hz], List.length_eq_zero_iff.1 (by rw [hlen, hz])⟩
        · right
          have key : ∀ (i : Nat) (row : List SV), (l.map τ.enc)[i]? = some row → ∃ row0 a, rows[i]? = some row0 ∧ Entl row0 row ∧ row = τ.enc a := by
            intro i row hi
            rw [List.getElem?_map] at hi
            cases hq : l[i]? with
            | none => rw [hq] at hi; cases hi
            | some a =>
              rw [hq] at hi
              simp at hi
              subst hi
              have hlt : i < rows.length := by have := lt_len hq; rw [← hl.1]; exact this
              exact ⟨rows[i], a, List.getElem?_eq_getElem hlt, hl.2 i _ a (List.getElem?_eq_getElem hlt) hq, rfl⟩
          have hle : ln ≤ ln * sizeT B.P el := Nat.le_mul_of_pos_right ln (by omega)
          refine ⟨w.heap.size, 0, ln, us, el, (0, 0), by rw [hlen], hz, heap_alloc_eq, ⟨fun h => ⟨ty_five hty h, rfl⟩, .inl rfl⟩, by omega, by rw [hlen]; exact Nat.le_refl _, by rw [← hts, hus]; omega, ?_, ?_, ?_⟩
          · intro k row hk; obtain ⟨_, a', _, _, rfl⟩ := key k row hk; exact enc_len _ _
          · intro k row j sv hk hj; obtain ⟨_, a', _, _, rfl⟩ := key k row hk; exact enc_one _ _ _ _ hj
          · intro k row j sv v hk hj hv
            obtain ⟨row0, a', g1, g2, rfl⟩ := key k row hk
            have hjl : j < row0.length := by have := lt_len hj; rw [← g2.1]; exact this
            exact (g2.2 j _ sv (List.getElem?_eq_getElem hjl) hj).1 _ _ _ (hrel k row0 j _ v g1 (List.getElem?_eq_getElem hjl) (by rw [hts]; rw [Nat.zero_add] at hv; exact hv))
      obtain ⟨sv, σ', Φ', n', hk, rfl, β', hr', hsat⟩ := newChK_sound h st (Grows.alloc w (.cells us el)) (v := .slice (some ⟨w.heap.size, 0, none⟩) ln ln)
        (fun b hb => by
          simp only [Chunk.blk] at hb
          cases hq : Nat.beq ln 0 with
          | true => rw [hq] at hb; cases hb
          | false => rw [hq] at hb; simp at hb; omega) (.own hrows) (own_rel rfl)
      exact ⟨sv, Φ', n', _, _, β', hk, hrun t w ht, hr', hsat⟩
    · exact h.elim
  · exact h.elim
theorem rangeK_sound {B : Base} {e N r β σ Φ a w n t} {x : SV} {vx : Value} {K : EK} (h : rangeK B.P t x σ Φ n K) (st : Sat B e N r β σ Φ a w) (hx : Rel r β x vx) :
    ∃ sv Φ' n' v w' β', K sv σ Φ' n' ∧ (Instr.range t vx).run B.P w = .ok v w' ∧ Rel r β' sv v ∧ Sat B e N r β' σ Φ' a w' := by
  unfold rangeK at h
  split at h
  · rename_i l hu
    cases hx
    rename_i hlen
    obtain ⟨sv, σ', Φ', n', hk, rfl, β', hr', hsat⟩ := newChK_sound h st (Grows.alloc w (.stringIter ⟨l.toArray⟩ 0)) (v := .pointer (some ⟨w.heap.size, 0, none⟩))
      (fun b hb => by simp [Chunk.blk] at hb; omega) (.iter rfl heap_alloc_eq hlen) (.loc (setB_self _ _ _))
    refine ⟨sv, Φ', n', _, _, β', hk, ?_, hr', hsat⟩
    simp only [Instr.range, Sem.run_bind, run_underlying hu, Result.andThen_ok, Sem.run_pure, run_newObj]
  · exact h.elim
theorem nextK_sound {B : Base} {e N r β σ Φ a w n is ty} {x : SV} {vx : Value} {K : EK} (h : nextK x is σ Φ n K) (st : Sat B e N r β σ Φ a w) (hx : Rel r β x vx) :
    ∃ sv Φ' n' v w', K sv σ Φ' n' ∧ (Instr.next vx is ty).run B.P w = .ok v w' ∧ Rel r β sv v ∧ Sat B e N r β σ Φ' a w' := by
  unfold nextK at h
  split at h
  · rename_i id
    split at h
    · rename_i s pos hg
      obtain ⟨h1, h2⟩ := h
      cases hx with
      | loc hβ =>
        rename_i b
        have hs := st.mem.rows hg
        cases hs with
        | iter hxb hw hlen =>
          rename_i b'
          rw [hβ] at hxb
          obtain rfl : b = b' := by simpa using hxb
          have hz : (ByteArray.mk s.toArray).size = s.length := by simp [ByteArray.size]
          by_cases hp : pos < s.length
          · obtain ⟨Φ', hk, hΦ⟩ := setPK_sound (h1 hp) (hasId_of hg)
            have hlt := lt_of_heap hw
            refine ⟨_, Φ', n, _, { w with heap := w.heap.setIfInBounds b (.stringIter ⟨s.toArray⟩ (pos + (decL s pos).2)) }, hk, ?_, .tup (cs := [.bool true, .int .i64 pos, .int .i32 (decL s pos).1]) rfl ?_, ?_⟩
            · have hp' : pos < (ByteArray.mk s.toArray).size := by rw [hz]; exact hp
              simp only [Instr.next, Sem.run_bind, getObj, Sem.run, hw, Result.andThen_ok]
              simp only [hp', if_true, setObj, Sem.run_bind, Sem.run, hw, Result.andThen_ok, Sem.run_pure, goInt]
              rfl
            · intro i sv v q1 q2
              match i with
              | 0 => simp at q1 q2; subst q1; subst q2; exact .bool
              | 1 => simp at q1 q2; subst q1; subst q2; exact .int
              | 2 => simp at q1 q2; subst q1; subst q2; exact .int
              | i + 3 => simp at q1
            · refine sat_upd st hg hΦ ⟨rfl, rfl, rfl, by simp, fun b' hb' => ?_⟩ (by rw [hβ]; rfl) (by rw [hβ]; rfl) (.iter hβ (by simp [hlt]) hlen) rfl
              show (w.heap.setIfInBounds b _)[b']? = _
              rw [Array.getElem?_setIfInBounds_ne (fun h => hb' h.symm)]
          · refine ⟨_, Φ, n, _, w, h2 hp, ?_, .tup (cs := [.bool false]) rfl ?_, st⟩
            · have hp' : ¬ pos < (ByteArray.mk s.toArray).size := by rw [hz]; exact hp
              simp only [Instr.next, Sem.run_bind, getObj, Sem.run, hw, Result.andThen_ok]
              simp only [hp', if_false]
              rfl
            · intro i sv v q1 q2
              cases i with
              | zero => simp at q1 q2; subst q1; subst q2; exact .bool
              | succ i => simp at q1
    · exact h.elim
  · exact h.elim
end Go.Vc

namespace Go.Vc
set_option autoImplicit false
def bq (id : Nat) : Nat → Bool := fun i => Nat.beq i id
theorem bq_self (id : Nat) : bq id id = true := Nat.beq_refl id
theorem bq_eq {id i : Nat} (h : bq id i = true) : i = id := beq_of h
def FzR (id : Nat) (τ : Ty) (l : List τ.T) (x y : SV) : Prop := ∀ r β Φ w v, MemSat r β Φ w → Phi.get Φ id = some (.own τ l) → Rel r β x v → Rel (frz (bq id) r β Φ w) β y v
theorem fz0_sound {id τ l x} {K : SV → Prop} (h : fz0 id τ l x K) : ∃ y, K y ∧ FzR id τ l x y := by
  by_cases hx : ∃ i, x = .own i
  · obtain ⟨i, rfl⟩ := hx
    simp only [fz0] at h
    cases hb : Nat.beq i id with
    | true =>
      rw [hb] at h
      obtain rfl := beq_of hb
      refine ⟨_, h, fun r β Φ w v m hg hr => ?_⟩
      cases hr
      exact own_frz m (bq_self _) hg β
    | false =>
      rw [hb] at h
      exact ⟨_, h, fun r β Φ w v m hg hr => hr.mono (frz_le m)⟩
  · have h' : bif x.okIds (fun i => !Nat.beq i id) then K x else K .und := by cases x <;> first | exact h | exact (hx ⟨_, rfl⟩).elim
    cases ho : x.okIds (fun i => !Nat.beq i id) with
    | true => rw [ho] at h'; exact ⟨x, h', fun r β Φ w v m hg hr => hr.mono (frz_le m)⟩
    | false => rw [ho] at h'; exact ⟨_, h', fun r β Φ w v m hg hr => .und⟩
theorem fz1_sound {id τ l x} {K : SV → Prop} (h : fz1 id τ l x K) : ∃ y, K y ∧ FzR id τ l x y := by
  by_cases hx : ∃ xs, x = .agg xs
  · obtain ⟨xs, rfl⟩ := hx
    obtain ⟨ys, hk, hl, hh⟩ := lift_list (D := fz0 id τ l) (DL := fz0L id τ l) (fun _ h => h) (fun _ _ _ h => h) (fun _ _ h => fz0_sound h) xs _ h
    refine ⟨_, hk, fun r β Φ w v m hg hr => ?_⟩
    obtain ⟨cs, rfl, hcs⟩ := hr.aggL_inv
    exact .aggL (relL_of hl hh (fun x y v hR hx => hR r β Φ w v m hg hx) hcs)
  · have h' : fz0 id τ l x K := by cases x <;> first | exact h | exact (hx ⟨_, rfl⟩).elim
    exact fz0_sound h'
theorem fz1L_sound {id τ l xs} {K : List SV → Prop} (h : fz1L id τ l xs K) : ∃ ys, K ys ∧ ys.length = xs.length ∧ ∀ (i : Nat) y, ys[i]? = some y → ∃ x, xs[i]? = some x ∧ FzR id τ l x y :=
  lift_list (D := fz1 id τ l) (DL := fz1L id τ l) (fun _ h => h) (fun _ _ _ h => h) (fun _ _ h => fz1_sound h) xs K h
theorem fz2_sound {id τ l x} {K : SV → Prop} (h : fz2 id τ l x K) : ∃ y, K y ∧ FzR id τ l x y := by
  by_cases hx : ∃ xs, x = .tup xs
  · obtain ⟨xs, rfl⟩ := hx
    obtain ⟨ys, hk, hl, hh⟩ := fz1L_sound h
    refine ⟨_, hk, fun r β Φ w v m hg hr => ?_⟩
    obtain ⟨cs, rfl, hcs⟩ := hr.tupL_inv
    exact .tupL (relL_of hl hh (fun x y v hR hx => hR r β Φ w v m hg hx) hcs)
  · have h' : fz1 id τ l x K := by cases x <;> first | exact h | exact (hx ⟨_, rfl⟩).elim
    exact fz1_sound h'
theorem fzE_sound {id τ l} {σ : Env} : ∀ {K : Env → Prop}, fzE id τ l σ K → ∃ σ', K σ' ∧ ∀ k g sv', Env.get σ' k = some (g, sv') → ∃ sv, Env.get σ k = some (g, sv) ∧ FzR id τ l sv sv' := by
  induction σ with
  | nil => intro K h; exact ⟨[], h, fun k g sv' hk => by simp [Env.get] at hk⟩
  | cons x r ih =>
    obtain ⟨k0, g0, sv0⟩ := x
    intro K h
    obtain ⟨y, h, hy⟩ := fz2_sound h
    obtain ⟨σ', hk, hh⟩ := ih h
    refine ⟨_, hk, fun k g sv' hi => ?_⟩
    rw [get_cons] at hi ⊢
    cases hb : Nat.beq k0 k with
    | true => rw [hb] at hi; simp at hi; obtain ⟨rfl, rfl⟩ := hi; exact ⟨sv0, rfl, hy⟩
    | false => rw [hb] at hi; exact hh k g sv' hi
inductive FzC (id : Nat) (τ : Ty) (l : List τ.T) : Chunk → Chunk → Prop
  | same {c} (h : ∀ T cs, c ≠ .bx T cs) : FzC id τ l c c
  | box {T cs cs'} (hl : cs'.length = cs.length) (h : ∀ (i : Nat) (sv' : SV), cs'[i]? = some sv' → ∃ sv, cs[i]? = some sv ∧ FzR id τ l sv sv') : FzC id τ l (.bx T cs) (.bx T cs')
theorem FzC.kind {id τ l c c'} (h : FzC id τ l c c') : c'.kind = c.kind := by cases h <;> rfl
theorem FzC.blk {id τ l c c'} (h : FzC id τ l c c') (x : Value) : c'.blk x = c.blk x := by
  cases h with
  | same => rfl
  | box => exact blk_box' _ _ _ _
theorem fzC_sound {id τ l c} {K : Chunk → Prop} (h : fzC id τ l c K) : ∃ c', K c' ∧ FzC id τ l c c' := by
  cases c with
  | bx _ cs => obtain ⟨ys, hk, hl, hh⟩ := fz1L_sound h; exact ⟨_, hk, .box hl hh⟩
  | own => exact ⟨_, h, .same (by intro _ cs h; cases h)⟩
  | iter => exact ⟨_, h, .same (by intro _ cs h; cases h)⟩
  | gh => exact ⟨_, h, .same (by intro _ cs h; cases h)⟩
  | mp => exact ⟨_, h, .same (by intro _ cs h; cases h)⟩
  | ro => exact ⟨_, h, .same (by intro _ cs h; cases h)⟩
  | ow => exact ⟨_, h, .same (by intro _ cs h; cases h)⟩
theorem fzP_sound {id τ l} {Φ : Phi} : ∀ {K : Phi → Prop}, fzP id τ l Φ K → ∃ Φ', K Φ' ∧ ∀ j, (∀ c', Phi.get Φ' j = some c' → j ≠ id ∧ ∃ c, Phi.get Φ j = some c ∧ FzC id τ l c c') ∧ (j ≠ id → ∀ c, Phi.get Φ j = some c → ∃ c', Phi.get Φ' j = some c') := by
  induction Φ with
  | nil => intro K h; exact ⟨[], h, fun j => ⟨fun c' h => by simp [Phi.get] at h, fun _ c h => by simp [Phi.get] at h⟩⟩
  | cons x r ih =>
    obtain ⟨k, c⟩ := x
    intro K h
    unfold fzP at h
    cases hb : Nat.beq k id with
    | true =>
      rw [hb] at h
      obtain rfl := beq_of hb
      obtain ⟨Φ', hk, hh⟩ := ih h
      refine ⟨Φ', hk, fun j => ⟨fun c' hj => ?_, fun hne c1 hj => ?_⟩⟩
      · obtain ⟨h1, c0, h2, h3⟩ := (hh j).1 c' hj
        exact ⟨h1, c0, by rw [phi_cons, nbeq_of (fun he => h1 he.symm)]; exact h2, h3⟩
      · rw [phi_cons, nbeq_of (fun he => hne he.symm)] at hj
        exact (hh j).2 hne c1 hj
    | false =>
      rw [hb] at h
      simp only [cond_false] at h
      obtain ⟨c', h, hc⟩ := fzC_sound h
      obtain ⟨Φ', hk, hh⟩ := ih h
      refine ⟨_, hk, fun j => ?_⟩
      rw [phi_cons, phi_cons]
      cases hq : Nat.beq k j with
      | true =>
        obtain rfl := beq_of hq
        have hne : k ≠ id := by rintro rfl; rw [Nat.beq_refl] at hb; cases hb
        exact ⟨fun c1 h => by simp at h; subst h; exact ⟨hne, c, rfl, hc⟩, fun _ c1 h => ⟨c', rfl⟩⟩
      | false => exact hh j
theorem mem_fz {id τ l r β Φ w Φ'} (m : MemSat r β Φ w) (hg : Phi.get Φ id = some (.own τ l))
    (hΦ : ∀ j, (∀ c', Phi.get Φ' j = some c' → j ≠ id ∧ ∃ c, Phi.get Φ j = some c ∧ FzC id τ l c c') ∧ (j ≠ id → ∀ c, Phi.get Φ j = some c → ∃ c', Phi.get Φ' j = some c')) :
    MemSat (frz (bq id) r β Φ w) β Φ' w ∧ Hid r β Φ w (frz (bq id) r β Φ w) β Φ' w := by
  have notin : ∀ b j c0, j ≠ id → Phi.get Φ j = some c0 → c0.blk (β j) = some b → frz (bq id) r β Φ w b = none := by
    intro b j c0 hne h1 h2
    rw [frz_not, m.sep _ _ _ h1 h2]
    intro i c q1 q2 _ q4
    rw [bq_eq q1] at q2 q4
    exact hne (m.nod _ _ _ _ _ h1 q2 h2 q4)
  refine ⟨⟨frz_vis m, fun j c' hj => ?_, fun j c' b hj hb => ?_, fun j j' c c' b h1 h1' h2 h2' => ?_⟩, rfl, rfl, rfl, Nat.le_refl _, fun b hb h1 h2 => ⟨rfl, ?_, fun j c' hj hc => ?_⟩, fun j c hj hk => ⟨rfl, ?_⟩⟩
  · obtain ⟨hne, c, h1, h2⟩ := (hΦ j).1 c' hj
    have hs := m.chs _ _ h1
    cases h2 with
    | same hnb => exact hs.keep (frz_le m) (fun _ _ => rfl) (fun T cells he => (hnb T cells he).elim)
    | box hl hh =>
      cases hs with
      | box hx hw hlc hc hT =>
        refine .box hx hw (by rw [hlc, hl]) (fun i sv v p1 p2 => ?_) hT
        obtain ⟨sv0, q1, q2⟩ := hh i sv p1
        exact q2 r β Φ w v m hg (hc i sv0 v q1 p2)
  · obtain ⟨hne, c, h1, h2⟩ := (hΦ j).1 c' hj
    rw [h2.blk] at hb
    exact notin b j c hne h1 hb
  · obtain ⟨hne, c0, p1, p2⟩ := (hΦ j).1 c h1
    obtain ⟨hne', c0', p1', p2'⟩ := (hΦ j').1 c' h1'
    rw [p2.blk] at h2; rw [p2'.blk] at h2'
    exact m.nod _ _ _ _ _ p1 p1' h2 h2'
  · rw [frz_not (fun i c _ q2 _ => h2 i c q2)]; exact h1
  · obtain ⟨hne, c, p1, p2⟩ := (hΦ j).1 c' hj
    rw [p2.blk] at hc
    exact h2 j c p1 hc
  · have hne : j ≠ id := by
      rintro rfl
      rw [hg] at hj; cases hj; exact hk rfl
    obtain ⟨c', h1⟩ := (hΦ j).2 hne c hj
    obtain ⟨_, c0, p1, p2⟩ := (hΦ j).1 c' h1
    rw [hj] at p1; cases p1
    exact ⟨c', h1, p2.kind⟩
theorem frzK_sound {B : Base} {e N a w} : ∀ {ids : List Nat} {xs σ Φ} {K : List SV → Env → Phi → Prop}, frzK ids xs σ Φ K → ∀ {r β vs}, Sat B e N r β σ Φ a w → RelL r β xs vs →
    ∃ xs' σ' Φ' r', K xs' σ' Φ' ∧ Sat B e N r' β σ' Φ' a w ∧ RelL r' β xs' vs ∧ (∀ D, GdIn D σ → GdIn D σ') := by
  intro ids
  induction ids with
  | nil => intro xs σ Φ K h r β vs s hv; exact ⟨xs, σ, Φ, r, h, s, hv, fun D hD => hD⟩
  | cons id ids ih =>
    intro xs σ Φ K h r β vs s hv
    simp only [frzK] at h
    split at h
    · rename_i τ l hg
      obtain ⟨ys, h, hl, hh⟩ := fz1L_sound h
      obtain ⟨σ1, h, hσ⟩ := fzE_sound h
      obtain ⟨Φ1, h, hΦ⟩ := fzP_sound h
      obtain ⟨m1, hid⟩ := mem_fz s.mem hg hΦ
      have s1 : Sat B e N (frz (bq id) r β Φ w) β σ1 Φ1 a w := s.step (s.agree.of fun k g sv' hk => by
        obtain ⟨sv, q1, q2⟩ := hσ k g sv' hk
        exact ⟨sv, q1, fun v hr => q2 r β Φ w v s.mem hg hr⟩) m1 (frz_le s.mem) hid
      obtain ⟨xs', σ', Φ', r', hk, s', hv', hD⟩ := ih h s1 (relL_of hl hh (fun x y v hR hx => hR r β Φ w v s.mem hg hx) hv)
      refine ⟨xs', σ', Φ', r', hk, s', hv', fun D h0 => hD D fun k s0 w0 sv0 hk0 => ?_⟩
      obtain ⟨sv, q1, _⟩ := hσ k _ _ hk0
      exact h0 _ _ _ _ q1
    · exact ih h s hv
    · exact h.elim
end Go.Vc

namespace Go.Vc
set_option autoImplicit false
abbrev NN := List (Nat × Nat)
def lookF : NN → Nat → Option Nat
  | [], _ => none
  | (a, j) :: r, i => bif Nat.beq a i then some j else lookF r i
def lookB : NN → Nat → Option Nat
  | [], _ => none
  | (a, j) :: r, i => bif Nat.beq j i then some a else lookB r i
theorem lookK_sound {m : NN} {i : Nat} {K : Nat → Prop} (h : lookK m i K) : ∃ j, lookF m i = some j ∧ K j := by
  induction m with
  | nil => exact h.elim
  | cons x r ih =>
    obtain ⟨a, j⟩ := x
    simp only [lookK] at h
    simp only [lookF]
    cases hb : Nat.beq a i with
    | true => rw [hb] at h; exact ⟨j, rfl, h⟩
    | false => rw [hb] at h; exact ih h
theorem lookF_mem {m : NN} {i j : Nat} (h : lookF m i = some j) : (i, j) ∈ m := by
  induction m with
  | nil => cases h
  | cons x r ih =>
    obtain ⟨a, c⟩ := x
    simp only [lookF] at h
    cases hb : Nat.beq a i with
    | true => rw [hb] at h; simp at h; obtain rfl := beq_of hb; subst h; simp
    | false => rw [hb] at h; exact List.mem_cons_of_mem _ (ih h)
theorem lookB_mem {m : NN} {i j : Nat} (h : lookB m j = some i) : (i, j) ∈ m := by
  induction m with
  | nil => cases h
  | cons x r ih =>
    obtain ⟨a, c⟩ := x
    simp only [lookB] at h
    cases hb : Nat.beq c j with
    | true => rw [hb] at h; simp at h; obtain rfl := beq_of hb; subst h; simp
    | false => rw [hb] at h; exact List.mem_cons_of_mem _ (ih h)
theorem hasFst_iff {m : NN} {i : Nat} : hasFst m i = true ↔ ∃ j, (i, j) ∈ m := by
  induction m with
  | nil => simp [hasFst]
  | cons x r ih =>
    obtain ⟨a, c⟩ := x
    simp only [hasFst, Bool.or_eq_true, ih]
    constructor
    · rintro (h | ⟨j, h⟩)
      · obtain rfl := beq_of h; exact ⟨c, by simp⟩
      · exact ⟨j, by simp [h]⟩
    · rintro ⟨j, h⟩
      simp only [List.mem_cons, Prod.mk.injEq] at h
      rcases h with ⟨rfl, rfl⟩ | h
      · exact .inl (Nat.beq_refl _)
      · exact .inr ⟨j, h⟩
theorem hasSnd_iff {m : NN} {j : Nat} : hasSnd m j = true ↔ ∃ i, (i, j) ∈ m := by
  induction m with
  | nil => simp [hasSnd]
  | cons x r ih =>
    obtain ⟨a, c⟩ := x
    simp only [hasSnd, Bool.or_eq_true, ih]
    constructor
    · rintro (h | ⟨j, h⟩)
      · obtain rfl := beq_of h; exact ⟨a, by simp⟩
      · exact ⟨j, by simp [h]⟩
    · rintro ⟨i, h⟩
      simp only [List.mem_cons, Prod.mk.injEq] at h
      rcases h with ⟨rfl, rfl⟩ | h
      · exact .inl (Nat.beq_refl _)
      · exact .inr ⟨i, h⟩
theorem lookF_of {m : NN} (hn : nodupFst m = true) {i j : Nat} (h : (i, j) ∈ m) : lookF m i = some j := by
  induction m with
  | nil => cases h
  | cons x r ih =>
    obtain ⟨a, c⟩ := x
    simp only [nodupFst, Bool.and_eq_true, Bool.not_eq_true'] at hn
    simp only [List.mem_cons, Prod.mk.injEq] at h
    simp only [lookF]
    rcases h with ⟨rfl, rfl⟩ | h
    · rw [Nat.beq_refl]; rfl
    · have : a ≠ i := by
        rintro rfl
        have := hasFst_iff.2 ⟨j, h⟩
        rw [hn.1] at this; cases this
      rw [nbeq_of this]; exact ih hn.2 h
theorem lookB_of {m : NN} (hn : nodupSnd m = true) {i j : Nat} (h : (i, j) ∈ m) : lookB m j = some i := by
  induction m with
  | nil => cases h
  | cons x r ih =>
    obtain ⟨a, c⟩ := x
    simp only [nodupSnd, Bool.and_eq_true, Bool.not_eq_true'] at hn
    simp only [List.mem_cons, Prod.mk.injEq] at h
    simp only [lookB]
    rcases h with ⟨rfl, rfl⟩ | h
    · rw [Nat.beq_refl]; rfl
    · have : c ≠ j := by
        rintro rfl
        have := hasSnd_iff.2 ⟨i, h⟩
        rw [hn.1] at this; cases this
      rw [nbeq_of this]; exact ih hn.2 h
theorem nodupFst_app {P m : NN} (h : nodupFst (P ++ m) = true) : nodupFst m = true := by
  induction P with
  | nil => exact h
  | cons x r ih => obtain ⟨a, c⟩ := x; simp only [List.cons_append, nodupFst, Bool.and_eq_true] at h; exact ih h.2
theorem nodupSnd_app {P m : NN} (h : nodupSnd (P ++ m) = true) : nodupSnd m = true := by
  induction P with
  | nil => exact h
  | cons x r ih => obtain ⟨a, c⟩ := x; simp only [List.cons_append, nodupSnd, Bool.and_eq_true] at h; exact ih h.2
theorem swapK_sound {m : NN} : ∀ {K : NN → Prop}, swapK m K → ∃ M, K M ∧ ∀ i j, (j, i) ∈ M ↔ (i, j) ∈ m := by
  induction m with
  | nil => intro K h; exact ⟨[], h, fun i j => by simp⟩
  | cons x r ih =>
    obtain ⟨a, c⟩ := x
    intro K h
    obtain ⟨M, hk, hM⟩ := ih h
    refine ⟨_, hk, fun i j => ?_⟩
    simp only [List.mem_cons, Prod.mk.injEq, hM]
    constructor
    · rintro (⟨rfl, rfl⟩ | h)
      · exact .inl ⟨rfl, rfl⟩
      · exact .inr h
    · rintro (⟨rfl, rfl⟩ | h)
      · exact .inl ⟨rfl, rfl⟩
      · exact .inr h
def Rn (m : NN) (β β' : Bind) : Prop := ∀ i j, lookF m i = some j → β' j = β i
def RnR (m : NN) (x y : SV) : Prop := ∀ r β β' v, Rn m β β' → Rel r β x v → Rel r β' y v
theorem rn0_sound {m x} {K : SV → Prop} (h : rn0 m x K) : ∃ y, K y ∧ RnR m x y := by
  unfold rn0 at h
  split at h
  · obtain ⟨j, hj, h⟩ := lookK_sound h
    refine ⟨_, h, fun r β β' v hm hr => ?_⟩
    cases hr with
    | loc hb => exact .loc (by rw [hm _ _ hj]; exact hb)
  · obtain ⟨j, hj, h⟩ := lookK_sound h
    refine ⟨_, h, fun r β β' v hm hr => ?_⟩
    cases hr with
    | own hb => rw [← hm _ _ hj] at hb ⊢; exact .own hb
  · obtain ⟨j, hj, h⟩ := lookK_sound h
    refine ⟨_, h, fun r β β' v hm hr => ?_⟩
    cases hr with
    | oel hb => exact .oel (by rw [hm _ _ hj]; exact hb)
  · obtain ⟨j, hj, h⟩ := lookK_sound h
    refine ⟨_, h, fun r β β' v hm hr => ?_⟩
    cases hr with
    | mref hb => exact .mref (by rw [hm _ _ hj]; exact hb)
  · cases ho : SV.okIds (fun _ => false) x with
    | false => rw [ho] at h; exact h.elim
    | true => rw [ho] at h; exact ⟨x, h, fun r β β' v _ hr => hr.pure ho β'⟩
theorem rn0L_sound {m xs} {K : List SV → Prop} (h : rn0L m xs K) : ∃ ys, K ys ∧ ys.length = xs.length ∧ ∀ (i : Nat) y, ys[i]? = some y → ∃ x, xs[i]? = some x ∧ RnR m x y :=
  lift_list (D := rn0 m) (DL := rn0L m) (fun _ h => h) (fun _ _ _ h => h) (fun _ _ h => rn0_sound h) xs K h
theorem rn1_sound {m x} {K : SV → Prop} (h : rn1 m x K) : ∃ y, K y ∧ RnR m x y := by
  unfold rn1 at h
  split at h
  · obtain ⟨ys, hk, hl, hh⟩ := rn0L_sound h
    refine ⟨_, hk, fun r β β' v hm hr => ?_⟩
    obtain ⟨cs, rfl, hcs⟩ := hr.aggL_inv
    exact .aggL (relL_of hl hh (fun x y v hR hx => hR r β β' v hm hx) hcs)
  · obtain ⟨ys, hk, hl, hh⟩ := rn0L_sound h
    refine ⟨_, hk, fun r β β' v hm hr => ?_⟩
    obtain ⟨cs, rfl, hcs⟩ := hr.fnL_inv
    exact .fnL (relL_of hl hh (fun x y v hR hx => hR r β β' v hm hx) hcs)
  · exact rn0_sound h
theorem rn1L_sound {m xs} {K : List SV → Prop} (h : rn1L m xs K) : ∃ ys, K ys ∧ ys.length = xs.length ∧ ∀ (i : Nat) y, ys[i]? = some y → ∃ x, xs[i]? = some x ∧ RnR m x y :=
  lift_list (D := rn1 m) (DL := rn1L m) (fun _ h => h) (fun _ _ _ h => h) (fun _ _ h => rn1_sound h) xs K h
theorem rn2_sound {m x} {K : SV → Prop} (h : rn2 m x K) : ∃ y, K y ∧ RnR m x y := by
  unfold rn2 at h
  split at h
  · obtain ⟨ys, hk, hl, hh⟩ := rn1L_sound h
    refine ⟨_, hk, fun r β β' v hm hr => ?_⟩
    obtain ⟨cs, rfl, hcs⟩ := hr.tupL_inv
    exact .tupL (relL_of hl hh (fun x y v hR hx => hR r β β' v hm hx) hcs)
  · exact rn1_sound h
inductive RnC (m : NN) : Chunk → Chunk → Prop
  | same {c} (h : ∀ T cs, c ≠ .bx T cs) : RnC m c c
  | box {T cs cs'} (hl : cs'.length = cs.length) (h : ∀ (i : Nat) (y : SV), cs'[i]? = some y → ∃ x, cs[i]? = some x ∧ RnR m x y) : RnC m (.bx T cs) (.bx T cs')
theorem RnC.kind {m c c'} (h : RnC m c c') : c'.kind = c.kind := by cases h <;> rfl
theorem RnC.blk {m c c'} (h : RnC m c c') (x : Value) : c'.blk x = c.blk x := by
  cases h with
  | same => rfl
  | box => exact blk_box' _ _ _ _
theorem rnC_sound {m c} {K : Chunk → Prop} (h : rnC m c K) : ∃ c', K c' ∧ RnC m c c' := by
  cases c with
  | bx _ cs => obtain ⟨ys, hk, hl, hh⟩ := rn1L_sound h; exact ⟨_, hk, .box hl hh⟩
  | own => exact ⟨_, h, .same (by intro _ cs h; cases h)⟩
  | iter => exact ⟨_, h, .same (by intro _ cs h; cases h)⟩
  | gh => exact ⟨_, h, .same (by intro _ cs h; cases h)⟩
  | mp => exact ⟨_, h, .same (by intro _ cs h; cases h)⟩
  | ro => exact ⟨_, h, .same (by intro _ cs h; cases h)⟩
  | ow => exact ⟨_, h, .same (by intro _ cs h; cases h)⟩
theorem RnC.sat {m c c'} (h : RnC m c c') {r r' : Mem} (hle : r.le r') {β β' w w' x} (hm : Rn m β β') (hs : c.Sat r β w x) (hb : ∀ b, c.blk x = some b → w'.heap[b]? = w.heap[b]?) : c'.Sat r' β' w' x := by
  cases h with
  | same hnb => exact hs.keep hle hb (fun T cells he => (hnb T cells he).elim)
  | box hl hh =>
    cases hs with
    | box hx hw hlc hc hT =>
      refine .box hx (by rw [hb _ (by rw [hx]; rfl)]; exact hw) (by rw [hlc, hl]) (fun i sv v p1 p2 => ?_) hT
      obtain ⟨sv0, q1, q2⟩ := hh i sv p1
      exact q2 _ _ _ _ hm ((hc i sv0 v q1 p2).mono hle)
theorem subPK_sound {Φ : Phi} {m0 : NN} : ∀ {m : NN} {K : Phi → Prop}, subPK Φ m0 m K → ∃ Φc, K Φc ∧
    (∀ j ch, Phi.get Φc j = some ch → ∃ i ch0, (i, j) ∈ m ∧ Phi.get Φ i = some ch0 ∧ RnC m0 ch0 ch) ∧ (∀ i j, (i, j) ∈ m → ∃ ch, Phi.get Φc j = some ch) := by
  intro m
  induction m with
  | nil => intro K h; exact ⟨[], h, fun j ch h => by simp [Phi.get] at h, fun i j h => by cases h⟩
  | cons x r ih =>
    obtain ⟨a, c⟩ := x
    intro K h
    simp only [subPK] at h
    split at h
    · rename_i ch0 hg
      obtain ⟨ch, h, hc⟩ := rnC_sound h
      obtain ⟨Φc, hk, h1, h2⟩ := ih h
      refine ⟨_, hk, fun j ch' hj => ?_, fun i j hij => ?_⟩
      · rw [phi_cons] at hj
        cases hb : Nat.beq c j with
        | true => obtain rfl := beq_of hb; rw [hb] at hj; simp at hj; subst hj; exact ⟨a, ch0, by simp, hg, hc⟩
        | false =>
          rw [hb] at hj
          obtain ⟨i, c0, q1, q2, q3⟩ := h1 j ch' hj
          exact ⟨i, c0, by simp [q1], q2, q3⟩
      · rw [phi_cons]
        cases hb : Nat.beq c j with
        | true => exact ⟨ch, rfl⟩
        | false =>
          simp only [List.mem_cons, Prod.mk.injEq] at hij
          rcases hij with ⟨rfl, rfl⟩ | hij
          · rw [Nat.beq_refl] at hb; cases hb
          · exact h2 i j hij
    · exact h.elim
theorem okIds_and {p q : Nat → Bool} : ∀ {sv : SV}, sv.okIds p = true → sv.okIds q = true → sv.okIds (fun i => p i && q i) = true := by
  intro sv
  refine SV.rec (motive_1 := fun sv => sv.okIds p = true → sv.okIds q = true → sv.okIds (fun i => p i && q i) = true) (motive_2 := fun _ => True) (motive_3 := fun l => SV.okIdsL p l = true → SV.okIdsL q l = true → SV.okIdsL (fun i => p i && q i) l = true)
    ?_ ?_ ?_ ?_ ?_ ?_ ?_ ?_ ?_ ?_ ?_ ?_ ?_ ?_ ?_ ?_ ?_ ?_ ?_ ?_ ?_ ?_ ?_ sv
  all_goals try (intros; trivial)
  all_goals try (intros; simp_all [SV.okIds, SV.okIdsL]; done)
theorem okIds_all : ∀ (sv : SV), sv.okIds (fun _ => true) = true := by
  intro sv
  refine SV.rec (motive_1 := fun sv => sv.okIds (fun _ => true) = true) (motive_2 := fun _ => True) (motive_3 := fun l => SV.okIdsL (fun _ => true) l = true)
    ?_ ?_ ?_ ?_ ?_ ?_ ?_ ?_ ?_ ?_ ?_ ?_ ?_ ?_ ?_ ?_ ?_ ?_ ?_ ?_ ?_ ?_ ?_ sv
  all_goals try (intros; trivial)
  all_goals try (intros; simp_all [SV.okIds, SV.okIdsL]; done)
theorem okIds_mono {p q : Nat → Bool} (hpq : ∀ i, p i = true → q i = true) : ∀ {sv : SV}, sv.okIds p = true → sv.okIds q = true := fun {sv} h => SV.okIds_mono hpq sv h
def NoneOf (S : List Nat) (sv : SV) : Prop := ∀ i ∈ S, sv.okIds (fun k => !Nat.beq k i) = true
theorem NoneOf.ok {S : List Nat} {sv : SV} (h : NoneOf S sv) : sv.okIds (fun k => !memN k S) = true := by
  induction S with
  | nil =>
    exact okIds_mono (fun i _ => rfl) (okIds_all sv)
  | cons i S ih =>
    have h1 := h i (by simp)
    have h2 := ih (fun k hk => h k (by simp [hk]))
    refine okIds_mono (fun k hk => ?_) (okIds_and h1 h2)
    simp only [Bool.and_eq_true, Bool.not_eq_true'] at hk
    simp only [memN, Bool.not_eq_true', Bool.or_eq_false_iff]
    refine ⟨?_, hk.2⟩
    have := hk.1
    cases hq : Nat.beq i k with
    | false => rfl
    | true => obtain rfl := beq_of hq; rw [Nat.beq_refl] at this; cases this
theorem memN_iff {i : Nat} {l : List Nat} : memN i l = true ↔ i ∈ l := by
  induction l with
  | nil => simp [memN]
  | cons x r ih =>
    simp only [memN, Bool.or_eq_true, ih, List.mem_cons]
    constructor
    · rintro (h | h)
      · exact .inl (beq_of h).symm
      · exact .inr h
    · rintro (rfl | h)
      · exact .inl (Nat.beq_refl _)
      · exact .inr h
end Go.Vc

namespace Go.Vc
set_option autoImplicit false
theorem reachK_sound {Φ : Phi} : ∀ {f : Nat} {todo : List Nat} {m : NN} {ns : List Nat} {K : NN → Prop}, reachK Φ f todo m ns K → ∃ m, K m
  | 0, _, _, _, _, h => h.elim
  | f + 1, [], m, _, K, h => ⟨m, h⟩
  | f + 1, i :: todo, m, ns, K, h => by
    simp only [reachK] at h
    have snoc : ∀ {x : Nat × Nat} {l : NN} {K : NN → Prop}, snocK x l K → ∃ l', K l' := by
      intro x l
      induction l with
      | nil => intro K h; exact ⟨_, h⟩
      | cons y r ih => intro K h; obtain ⟨l', h⟩ := ih h; exact ⟨_, h⟩
    cases hb : hasFst m i with
    | true => rw [hb] at h; exact reachK_sound h
    | false =>
      rw [hb] at h
      simp only [cond_false] at h
      split at h
      · exact h.elim
      · split at h
        · obtain ⟨_, h⟩ := snoc h; exact reachK_sound h
        · obtain ⟨_, h⟩ := snoc h; exact reachK_sound h
        · exact h.elim
def StV (S : List Nat) (sv sv' : SV) : Prop := sv' = .und ∨ (sv' = sv ∧ NoneOf S sv)
inductive StS (S : List Nat) : Chunk → Chunk → Prop
  | same {c} (h : ∀ T cs, c ≠ .bx T cs) : StS S c c
  | box {T cs cs'} (hl : cs'.length = cs.length) (h : ∀ (i : Nat) (sv' : SV), cs'[i]? = some sv' → ∃ sv, cs[i]? = some sv ∧ StV S sv sv') : StS S (.bx T cs) (.bx T cs')
theorem StS.kind {S c c'} (h : StS S c c') : c'.kind = c.kind := by cases h <;> rfl
theorem StS.blk {S c c'} (h : StS S c c') (x : Value) : c'.blk x = c.blk x := by
  cases h with
  | same => rfl
  | box => exact blk_box' _ _ _ _
theorem StS.refl (c : Chunk) : StS [] c c := by
  cases c with
  | bx _ cs => exact .box rfl fun i sv' h => ⟨sv', h, .inr ⟨rfl, fun _ h => by cases h⟩⟩
  | _ => exact .same (by intro _ cs h; cases h)
theorem StV.cons {i S sv sv1 sv'} (h1 : Stale i sv sv1) (h2 : StV S sv1 sv') : StV (i :: S) sv sv' := by
  rcases h2 with rfl | ⟨rfl, h2⟩
  · exact .inl rfl
  · rcases h1 with rfl | ⟨rfl, h1⟩
    · exact .inl rfl
    · refine .inr ⟨rfl, fun k hk => ?_⟩
      cases hk with
      | head => exact h1
      | tail _ hk => exact h2 k hk
theorem StS.cons {i S c c1 c'} (h1 : StaleC i c c1) (h2 : StS S c1 c') : StS (i :: S) c c' := by
  cases h1 with
  | same hn =>
    cases h2 with
    | same => exact .same hn
    | box => exact absurd rfl (hn _ _)
  | box hl hh =>
    cases h2 with
    | same hn => exact absurd rfl (hn _ _)
    | box hl2 hh2 =>
      refine .box (hl2.trans hl) fun k sv' hk => ?_
      obtain ⟨sv1, q1, q2⟩ := hh2 k sv' hk
      obtain ⟨sv, p1, p2⟩ := hh k sv1 q1
      exact ⟨sv, p1, StV.cons p2 q2⟩
theorem staleMK_sound {Φ0 : Phi} : ∀ {m : NN} {σ : Env} {Φ : Phi} {K : Env → Phi → Prop}, staleMK Φ0 m σ Φ K →
    ∃ S σ' Φ', K σ' Φ' ∧ (∀ i j (τ : Ty) l, (i, j) ∈ m → Phi.get Φ0 i = some (.own τ l) → i ∈ S) ∧
      (∀ k g sv', Env.get σ' k = some (g, sv') → ∃ sv, Env.get σ k = some (g, sv) ∧ StV S sv sv') ∧
      (∀ j, (∀ c', Phi.get Φ' j = some c' → ∃ c, Phi.get Φ j = some c ∧ StS S c c') ∧ (∀ c, Phi.get Φ j = some c → ∃ c', Phi.get Φ' j = some c')) := by
  intro m
  induction m with
  | nil =>
    intro σ Φ K h
    exact ⟨[], σ, Φ, h, (fun i j τ l h => by cases h), fun k g sv' hk => ⟨sv', hk, .inr ⟨rfl, fun _ h => by cases h⟩⟩, fun j => ⟨fun c' h => ⟨c', h, .refl _⟩, fun c h => ⟨c, h⟩⟩⟩
  | cons x r ih =>
    obtain ⟨i, j0⟩ := x
    intro σ Φ K h
    simp only [staleMK] at h
    split at h
    · obtain ⟨σ1, h, hσ1⟩ := staleE_sound h
      obtain ⟨Φ1, h, hΦ1⟩ := staleP_sound h
      obtain ⟨S, σ', Φ', hk, h1, h2, h3⟩ := ih h
      refine ⟨i :: S, σ', Φ', hk, fun k j τ l hm hg => ?_, fun k g sv' hs => ?_, fun j => ⟨fun c' hj => ?_, fun c hj => ?_⟩⟩
      · simp only [List.mem_cons, Prod.mk.injEq] at hm
        rcases hm with ⟨rfl, rfl⟩ | hm
        · simp
        · exact List.mem_cons_of_mem _ (h1 k j τ l hm hg)
      · obtain ⟨sv1, q1, q2⟩ := h2 k g sv' hs
        obtain ⟨sv, p1, p2⟩ := hσ1 k g sv1 q1
        exact ⟨sv, p1, StV.cons p2 q2⟩
      · obtain ⟨c1, q1, q2⟩ := (h3 j).1 c' hj
        obtain ⟨c, p1, p2⟩ := (hΦ1 j).1 c1 q1
        exact ⟨c, p1, StS.cons p2 q2⟩
      · obtain ⟨c1, q1⟩ := (hΦ1 j).2 c hj
        exact (h3 j).2 c1 q1
    · rename_i hno
      obtain ⟨S, σ', Φ', hk, h1, h2, h3⟩ := ih h
      refine ⟨S, σ', Φ', hk, fun k j τ l hm hg => ?_, h2, h3⟩
      simp only [List.mem_cons, Prod.mk.injEq] at hm
      rcases hm with ⟨rfl, rfl⟩ | hm
      · exact absurd hg (hno τ l)
      · exact h1 k j τ l hm hg
theorem newMK_sound {σ : Env} {Φ : Phi} : ∀ {Φ' : Phi} {M : NN} {n : Nat} {K : NN → Nat → Prop}, newMK σ Φ Φ' M n K →
    ∃ P M' n', M' = P ++ M ∧ K M' n' ∧ (∀ j i, (j, i) ∈ P → freshE i σ = true ∧ freshP i Φ = true) ∧ (∀ j ch, Phi.get Φ' j = some ch → hasFst M' j = true) := by
  intro Φ'
  induction Φ' with
  | nil => intro M n K h; exact ⟨[], M, n, rfl, h, (fun j i h => by cases h), fun j ch h => by simp [Phi.get] at h⟩
  | cons x r ih =>
    obtain ⟨j0, c0⟩ := x
    intro M n K h
    simp only [newMK] at h
    have key : ∀ {M1 : NN} {P M' : NN}, M' = P ++ M1 → hasFst M1 j0 = true → (∀ j ch, Phi.get r j = some ch → hasFst M' j = true) → ∀ j ch, Phi.get ((j0, c0) :: r) j = some ch → hasFst M' j = true := by
      intro M1 P M' he hj hr j ch hg
      rw [phi_cons] at hg
      cases hb : Nat.beq j0 j with
      | true =>
        obtain rfl := beq_of hb
        obtain ⟨i, hi⟩ := hasFst_iff.1 hj
        exact hasFst_iff.2 ⟨i, by rw [he]; simp [hi]⟩
      | false => rw [hb] at hg; exact hr j ch hg
    cases hb : hasFst M j0 with
    | true =>
      rw [hb] at h
      obtain ⟨P, M', n', he, hk, h1, h2⟩ := ih h
      exact ⟨P, M', n', he, hk, h1, key he hb h2⟩
    | false =>
      rw [hb] at h
      simp only [cond_false] at h
      cases hc : (freshE n σ && (freshP n Φ && !hasSnd M n)) with
      | false => rw [hc] at h; exact h.elim
      | true =>
        rw [hc] at h
        simp only [Bool.and_eq_true] at hc
        obtain ⟨P, M', n', he, hk, h1, h2⟩ := ih h
        refine ⟨P ++ [(j0, n)], M', n', by rw [he]; simp, hk, fun j i hm => ?_, key he (hasFst_iff.2 ⟨n, by simp⟩) h2⟩
        simp only [List.mem_append, List.mem_singleton, Prod.mk.injEq] at hm
        rcases hm with hm | ⟨rfl, rfl⟩
        · exact h1 j i hm
        · exact ⟨hc.1, hc.2.1⟩
theorem backPK_sound {M : NN} (hn : nodupFst M = true) (hn2 : nodupSnd M = true) : ∀ {Φ' : Phi} {K : Phi → Prop}, backPK M Φ' K → ∃ Φb, K Φb ∧
    (∀ i ch, Phi.get Φb i = some ch → ∃ j ch', lookF M j = some i ∧ Phi.get Φ' j = some ch' ∧ RnC M ch' ch) ∧
    (∀ j ch', Phi.get Φ' j = some ch' → ∃ i ch, lookF M j = some i ∧ Phi.get Φb i = some ch ∧ RnC M ch' ch) := by
  intro Φ'
  induction Φ' with
  | nil => intro K h; exact ⟨[], h, fun i ch h => by simp [Phi.get] at h, fun j ch h => by simp [Phi.get] at h⟩
  | cons x r ih =>
    obtain ⟨j0, c0⟩ := x
    intro K h
    obtain ⟨i0, hj0, h⟩ := lookK_sound h
    obtain ⟨c1, h, hc⟩ := rnC_sound h
    obtain ⟨Φb, hk, h1, h2⟩ := ih h
    have inj : ∀ {j i}, lookF M j = some i → (j = j0 ↔ i = i0) := by
      intro j i hj
      constructor
      · rintro rfl; rw [hj0] at hj; cases hj; rfl
      · rintro rfl
        have a1 := lookB_of hn2 (lookF_mem hj)
        have a2 := lookB_of hn2 (lookF_mem hj0)
        rw [a1] at a2; cases a2; rfl
    refine ⟨_, hk, fun i ch hi => ?_, fun j ch' hj => ?_⟩
    · rw [phi_cons] at hi
      cases hb : Nat.beq i0 i with
      | true =>
        obtain rfl := beq_of hb
        rw [hb] at hi; simp at hi; subst hi
        exact ⟨j0, c0, hj0, by rw [phi_cons, Nat.beq_refl]; rfl, hc⟩
      | false =>
        rw [hb] at hi
        obtain ⟨j, ch', q1, q2, q3⟩ := h1 i ch hi
        refine ⟨j, ch', q1, ?_, q3⟩
        have : ¬ j = j0 := fun he => by
          have := (inj q1).1 he
          subst this; rw [Nat.beq_refl] at hb; cases hb
        rw [phi_cons, nbeq_of (fun he => this he.symm)]; exact q2
    · rw [phi_cons] at hj
      cases hb : Nat.beq j0 j with
      | true =>
        obtain rfl := beq_of hb
        rw [hb] at hj; simp at hj; subst hj
        exact ⟨i0, c1, hj0, by rw [phi_cons, Nat.beq_refl]; rfl, hc⟩
      | false =>
        rw [hb] at hj
        obtain ⟨i, ch, q1, q2, q3⟩ := h2 j ch' hj
        refine ⟨i, ch, q1, ?_, q3⟩
        have : ¬ i = i0 := fun he => by
          have := (inj q1).2 he
          subst this; rw [Nat.beq_refl] at hb; cases hb
        rw [phi_cons, nbeq_of (fun he => this he.symm)]; exact q2
theorem dropMK_sound {m : NN} : ∀ {Φ : Phi} {K : Phi → Prop}, dropMK m Φ K → ∃ Φr, K Φr ∧ ∀ i, Phi.get Φr i = bif hasFst m i then none else Phi.get Φ i := by
  intro Φ
  induction Φ with
  | nil => intro K h; exact ⟨[], h, fun i => by cases hasFst m i <;> rfl⟩
  | cons x r ih =>
    obtain ⟨k, c⟩ := x
    intro K h
    simp only [dropMK] at h
    cases hb : hasFst m k with
    | true =>
      rw [hb] at h
      obtain ⟨Φr, hk, hh⟩ := ih h
      refine ⟨Φr, hk, fun i => ?_⟩
      rw [hh, phi_cons]
      cases hq : Nat.beq k i with
      | true => obtain rfl := beq_of hq; rw [hb]; rfl
      | false => rfl
    | false =>
      rw [hb] at h
      obtain ⟨Φr, hk, hh⟩ := ih h
      refine ⟨_, hk, fun i => ?_⟩
      rw [phi_cons, phi_cons, hh]
      cases hq : Nat.beq k i with
      | true => obtain rfl := beq_of hq; rw [hb]; rfl
      | false => rfl
theorem appPK_eq (F R : Phi) : ∀ (K : Phi → Prop), appPK F R K = K (F ++ R) := by
  induction F with
  | nil => intro K; rfl
  | cons e F ih => intro K; show appPK F R _ = _; rw [ih]; rfl
theorem phi_app (F R : Phi) (id : Nat) : Phi.get (F ++ R) id = match Phi.get F id with | some c => some c | none => Phi.get R id := by
  induction F with
  | nil => rfl
  | cons x r ih =>
    obtain ⟨k, c⟩ := x
    rw [List.cons_append, phi_cons, phi_cons, ih]
    cases Nat.beq k id <;> rfl
theorem plainI0_keep {r r2 β sv v} (h : Rel r β sv v) (hp : sv.plainI0 = true) : Rel r2 β sv v := plainI0_rel h hp (fun _ _ => rfl)
theorem plainI1_keep {r r2 β sv v} (h : Rel r β sv v) (hp : sv.plainI1 = true) : Rel r2 β sv v := by
  by_cases hx : ∃ l, sv = .agg l
  · obtain ⟨l, rfl⟩ := hx
    obtain ⟨cs, rfl, hl⟩ := h.aggL_inv
    exact .aggL ⟨hl.1, fun i sv v q1 q2 => plainI0_keep (hl.2 i sv v q1 q2) (plainI0L_get hp i sv q1)⟩
  · have : sv.plainI0 = true := by cases sv <;> first | exact hp | exact (hx ⟨_, rfl⟩).elim
    exact plainI0_keep h this
theorem plainI_keep {r r2 β sv v} (h : Rel r β sv v) (hp : sv.plainI = true) : Rel r2 β sv v := by
  by_cases hx : ∃ l, sv = .tup l
  · obtain ⟨l, rfl⟩ := hx
    obtain ⟨cs, rfl, hl⟩ := h.tupL_inv
    exact .tupL ⟨hl.1, fun i sv v q1 q2 => plainI1_keep (hl.2 i sv v q1 q2) (plainI1L_get hp i sv q1)⟩
  · have : sv.plainI1 = true := by cases sv <;> first | exact hp | exact (hx ⟨_, rfl⟩).elim
    exact plainI1_keep h this
theorem own_plain_sat {r r2 β w x} {τ : Ty} {l : List τ.T} (h : Chunk.Sat r β w x (.own τ l)) (hp : τ.plain = true) : Chunk.Sat r2 β w x (.own τ l) := by
  cases h with
  | own h =>
    refine .own ?_
    rcases h with ⟨a, h1, h2⟩ | ⟨b, off, cap, c, T, fr, he, hc0, hw, h0, h1, h2, h3, h4, h4', h5⟩
    · exact .inl ⟨a, h1, h2⟩
    · refine .inr ⟨b, off, cap, c, T, fr, he, hc0, hw, h0, h1, h2, h3, h4, h4', fun i row j sv v q1 q2 q3 => ?_⟩
      have hi : i < l.length := by have := lt_len q1; simpa using this
      have e : row = τ.enc l[i] := by
        rw [List.getElem?_map, List.getElem?_eq_getElem hi] at q1
        simpa using q1.symm
      exact plain0_rel (h5 i row j sv v q1 q2 q3) (tyPlain_enc τ _ hp j sv (by rw [← e]; exact q2)) _ _
end Go.Vc

namespace Go.Vc
set_option autoImplicit false
structure After (B : Base) (e : Entry) (N : Nat) (a : Act) (σ : Env) (K : EK) (v : Value) (w' : World) : Prop where
  ex : ∃ sv σ' Φ2 n' r2 β2, K sv σ' Φ2 n' ∧ Rel r2 β2 sv v ∧ Sat B e N r2 β2 σ' Φ2 a w' ∧ ∀ D, GdIn D σ → GdIn D σ'
theorem afterK_sound {B : Base} {e N a w} {m : NN} {res : SV} {Φ' : Phi} {σ : Env} {Φ : Phi} {n : Nat} {K : EK} (h : afterK m res Φ' σ Φ n K) {r β} (s : Sat B e N r β σ Φ a w)
    {q : Nat → Bool} (hq : ∀ i, q i = true → hasFst m i = false) {Φc : Phi}
    (hc1 : ∀ j ch, Phi.get Φc j = some ch → ∃ i ch0, (i, j) ∈ m ∧ Phi.get Φ i = some ch0 ∧ RnC m ch0 ch) (hc2 : ∀ i j, (i, j) ∈ m → ∃ ch, Phi.get Φc j = some ch) :
    ∃ βc, Rn m β βc ∧ MemSat (frz q r β Φ w) βc Φc w ∧ ∀ {r' βc' w' v} {r2 : Mem}, MemSat r' βc' Φ' w' → (frz q r β Φ w).le r' → Hid (frz q r β Φ w) βc Φc w r' βc' Φ' w' →
      r.le r2 → r2.le r' → (∀ id ch b, q id = true → Phi.get Φ id = some ch → ch.kind = 0 → ch.blk (β id) = some b → r2 b = none) → Rel r2 βc' res v →
      (∀ j ch, Phi.get Φ' j = some ch → ch.Sat r2 βc' w' (βc' j)) → After B e N a σ K v w' := by
  unfold afterK at h
  obtain ⟨S, σ', Φ1, h, hS, hσ, hΦ1⟩ := staleMK_sound h
  obtain ⟨M0, h, hM0⟩ := swapK_sound h
  obtain ⟨P, M, n', hM, h, hP, hall⟩ := newMK_sound h
  cases hnd : (nodupFst M && nodupSnd M) with
  | false => rw [hnd] at h; exact h.elim
  | true =>
  rw [hnd] at h
  simp only [cond_true] at h
  simp only [Bool.and_eq_true] at hnd
  obtain ⟨hn1, hn2⟩ := hnd
  have hn1' : nodupFst M0 = true := nodupFst_app (hM ▸ hn1)
  have hn2' : nodupSnd M0 = true := nodupSnd_app (hM ▸ hn2)
  obtain ⟨res', h, hres⟩ := rn2_sound h
  obtain ⟨Φb, h, hb1, hb2⟩ := backPK_sound hn1 hn2 h
  obtain ⟨Φr, h, hr1⟩ := dropMK_sound h
  rw [appPK_eq] at h
  obtain ⟨βc, hβc⟩ : ∃ βc : Bind, βc = fun j => match lookF M0 j with | some i => β i | none => .nilIface := ⟨_, rfl⟩
  have hmem : ∀ {i j}, (i, j) ∈ m → βc j = β i := by
    intro i j hij
    have := lookF_of hn1' ((hM0 i j).2 hij)
    rw [hβc]; simp only [this]
  have uniq : ∀ {i j j'}, (i, j) ∈ m → (i, j') ∈ m → j = j' := by
    intro i j j' h1 h2
    have a1 := lookB_of hn2' ((hM0 i j).2 h1)
    have a2 := lookB_of hn2' ((hM0 i j').2 h2)
    rw [a1] at a2; cases a2; rfl
  have hrn : Rn m β βc := fun i j hij => hmem (lookF_mem hij)
  have hcB : ∀ j ch b, Phi.get Φc j = some ch → ch.blk (βc j) = some b → ∃ i ch0, (i, j) ∈ m ∧ Phi.get Φ i = some ch0 ∧ ch0.blk (β i) = some b := by
    intro j ch b h1 h2
    obtain ⟨i, ch0, g1, g2, g3⟩ := hc1 j ch h1
    rw [hmem g1, g3.blk] at h2
    exact ⟨i, ch0, g1, g2, h2⟩
  have notq : ∀ {i j}, (i, j) ∈ m → q i = false := by
    intro i j hij
    cases hqi : q i with
    | false => rfl
    | true =>
      have := hq i hqi
      rw [hasFst_iff.2 ⟨j, hij⟩] at this; cases this
  have frzn : ∀ {i j ch0 b}, (i, j) ∈ m → Phi.get Φ i = some ch0 → ch0.blk (β i) = some b → frz q r β Φ w b = none := by
    intro i j ch0 b h1 h2 h3
    rw [frz_not, s.mem.sep _ _ _ h2 h3]
    intro id ch q1 q2 _ q4
    have := s.mem.nod _ _ _ _ _ q2 h2 q4 h3
    subst this
    rw [notq h1] at q1; cases q1
  have mc : MemSat (frz q r β Φ w) βc Φc w := by
    refine ⟨frz_vis s.mem, fun j ch hj => ?_, fun j ch b hj hb => ?_, fun j j' ch ch' b hj hj' hb hb' => ?_⟩
    · obtain ⟨i, ch0, g1, g2, g3⟩ := hc1 j ch hj
      rw [hmem g1]
      exact g3.sat (frz_le s.mem) hrn (s.mem.chs _ _ g2) (fun _ _ => rfl)
    · obtain ⟨i, ch0, g1, g2, g3⟩ := hcB j ch b hj hb
      exact frzn g1 g2 g3
    · obtain ⟨i, ch0, g1, g2, g3⟩ := hcB j ch b hj hb
      obtain ⟨i', ch0', g1', g2', g3'⟩ := hcB j' ch' b hj' hb'
      have := s.mem.nod _ _ _ _ _ g2 g2' g3 g3'
      subst this
      exact uniq g1 g1'
  refine ⟨βc, hrn, mc, fun {r' βc' w' v r2} m' hle hid h1 h2 h3 hv hch => ?_⟩
  obtain ⟨β2, hβ2⟩ : ∃ β2 : Bind, β2 = fun i => match lookB M i with | some j => βc' j | none => β i := ⟨_, rfl⟩
  have F1 : ∀ {i j}, lookF M j = some i → β2 i = βc' j := by
    intro i j hij
    have := lookB_of hn2 (lookF_mem hij)
    rw [hβ2]; simp only [this]
  have inM : ∀ {i j}, (i, j) ∈ m → (j, i) ∈ M := by
    intro i j hij; rw [hM]; exact List.mem_append_right _ ((hM0 i j).2 hij)
  have F2 : ∀ {i j ch}, (i, j) ∈ m → Phi.get Φ i = some ch → ch.kind ≠ 0 → β2 i = β i ∧ ∃ ch', Phi.get Φ' j = some ch' ∧ ch'.kind = ch.kind := by
    intro i j ch hij hg hk
    obtain ⟨c, hc⟩ := hc2 i j hij
    obtain ⟨i', ch0, g1, g2, g3⟩ := hc1 j c hc
    have : i' = i := by
      have a1 := lookF_of hn1' ((hM0 i' j).2 g1)
      have a2 := lookF_of hn1' ((hM0 i j).2 hij)
      rw [a1] at a2; cases a2; rfl
    subst this
    rw [hg] at g2; cases g2
    obtain ⟨k1, ch', k2, k3⟩ := hid.keep j c hc (by rw [g3.kind]; exact hk)
    refine ⟨?_, ch', k2, k3.trans g3.kind⟩
    rw [F1 (lookF_of hn1 (inM hij)), k1, hmem hij]
  have mget : ∀ {i j}, (i, j) ∈ m → ∃ ch, Phi.get Φ i = some ch := by
    intro i j hij
    obtain ⟨c, hc⟩ := hc2 i j hij
    obtain ⟨i', ch0, g1, g2, g3⟩ := hc1 j c hc
    have : i' = i := by
      have a1 := lookF_of hn1' ((hM0 i' j).2 g1)
      have a2 := lookF_of hn1' ((hM0 i j).2 hij)
      rw [a1] at a2; cases a2; rfl
    subst this
    exact ⟨ch0, g2⟩
  have F4 : ∀ {sv v}, NoneOf (S ++ P.map (·.2)) sv → Rel r β sv v → Rel r2 β2 sv v := by
    intro sv v hn hr
    refine (hr.bind (p := fun k => !memN k (S ++ P.map (·.2))) (fun k hk => ?_) hn.ok).mono h1
    simp only [Bool.not_eq_true'] at hk
    have hk' : k ∉ S ++ P.map (·.2) := fun hm => by rw [memN_iff.2 hm] at hk; cases hk
    rw [List.mem_append, not_or] at hk'
    cases hl : lookB M k with
    | none => rw [hβ2]; simp only [hl]
    | some j =>
      have hmM := lookB_mem hl
      rw [hM, List.mem_append] at hmM
      rcases hmM with hmM | hmM
      · exact absurd (List.mem_map.2 ⟨(j, k), hmM, rfl⟩) hk'.2
      · have hkm := (hM0 k j).1 hmM
        obtain ⟨ch, hg⟩ := mget hkm
        refine (F2 hkm hg fun h0 => ?_).1
        cases ch with
        | own τ l => exact hk'.1 (hS k j τ l hkm hg)
        | _ => cases h0
  obtain ⟨g1, g2, g3⟩ := back (I := fun i => ∃ j, (i, j) ∈ m) s.mem (fun j ch b p1 p2 => by
    obtain ⟨i, ch0, q1, q2, q3⟩ := hcB j ch b p1 p2
    exact ⟨i, ch0, ⟨j, q1⟩, q2, q3⟩) (fun i ⟨j, hj⟩ => notq hj) hle m' hid r2 h2 h3
  have get : ∀ i ch, Phi.get (Φb ++ Φr) i = some ch → (∃ j ch', lookF M j = some i ∧ Phi.get Φ' j = some ch' ∧ RnC M ch' ch ∧ β2 i = βc' j) ∨
      (¬ (∃ j, (i, j) ∈ m) ∧ β2 i = β i ∧ Phi.get Φ1 i = some ch ∧ ∃ c, Phi.get Φ i = some c ∧ StS S c ch) := by
    intro i ch hi
    rw [phi_app] at hi
    cases hq : Phi.get Φb i with
    | some c =>
      rw [hq] at hi; cases hi
      obtain ⟨j, ch', q1, q2, q3⟩ := hb1 i ch hq
      exact .inl ⟨j, ch', q1, q2, q3, F1 q1⟩
    | none =>
      rw [hq] at hi
      simp only [hr1] at hi
      cases hf : hasFst m i with
      | true => rw [hf] at hi; cases hi
      | false =>
        rw [hf] at hi
        have hnm : ¬ ∃ j, (i, j) ∈ m := fun hj => by rw [hasFst_iff.2 hj] at hf; cases hf
        refine .inr ⟨hnm, ?_, hi, (hΦ1 i).1 ch hi⟩
        cases hl : lookB M i with
        | none => rw [hβ2]; simp only [hl]
        | some j =>
          exfalso
          have hmM := lookB_mem hl
          rw [hM, List.mem_append] at hmM
          rcases hmM with hmM | hmM
          · exact (freshP_get (hP j i hmM).2 i ch hi).1 rfl
          · exact hnm ⟨j, (hM0 i j).1 hmM⟩
  have hrnM : Rn M βc' β2 := fun j i hji => F1 hji
  refine ⟨res', σ', Φb ++ Φr, n', r2, β2, h, hres _ _ _ _ hrnM hv, ?_, fun D hD k s0 w0 sv0 hk0 => ?_⟩
  · refine s.step (s.agree.of fun k g sv' hk => ?_) ?_ h1 ?_
    · obtain ⟨sv, q1, q2⟩ := hσ k g sv' hk
      refine ⟨sv, q1, fun v hr => ?_⟩
      rcases q2 with rfl | ⟨rfl, q2⟩
      · exact .und
      · refine F4 (fun i hi => ?_) hr
        rw [List.mem_append] at hi
        rcases hi with hi | hi
        · exact q2 i hi
        · obtain ⟨⟨j, i'⟩, hji, rfl⟩ := List.mem_map.1 hi
          exact freshE_get (hP j i' hji).1 k g sv' hk
    · refine ⟨g2, fun i ch hi => ?_, fun i ch b hi hb => ?_, fun i i' ch ch' b hi hi' hb hb' => ?_⟩
      · rcases get i ch hi with ⟨j, ch', q1, q2, q3, q4⟩ | ⟨hnm, q1, q2, c, q3, q4⟩
        · rw [q4]
          exact q3.sat (Mem.le_refl r2) hrnM (hch j ch' q2) (fun _ _ => rfl)
        · rw [q1]
          have hs := s.mem.chs _ _ q3
          have hkeep : ∀ b, c.blk (β i) = some b → w'.heap[b]? = w.heap[b]? := fun b hb => (g1 i c b hnm q3 hb).1
          cases q4 with
          | same hnb => exact hs.keep h1 hkeep (fun T cells he => (hnb T cells he).elim)
          | box hl hh =>
            cases hs with
            | box hx hw hlc hcc hT =>
              refine .box hx (by rw [hkeep _ (by rw [hx]; rfl)]; exact hw) (by rw [hlc, hl]) (fun k sv v p1 p2 => ?_) hT
              obtain ⟨sv0, a1, a2⟩ := hh k sv p1
              rcases a2 with rfl | ⟨rfl, a2⟩
              · exact .und
              · refine F4 (fun i0 hi0 => ?_) (hcc k sv v a1 p2)
                rw [List.mem_append] at hi0
                rcases hi0 with hi0 | hi0
                · exact a2 i0 hi0
                · obtain ⟨⟨j, i'⟩, hji, rfl⟩ := List.mem_map.1 hi0
                  have := (freshP_get (hP j i' hji).2 i _ q2).2
                  exact SV.okIdsL_get this k sv p1
      · rcases get i ch hi with ⟨j, ch', q1, q2, q3, q4⟩ | ⟨hnm, q1, q2, c, q3, q4⟩
        · rw [q4, q3.blk] at hb
          have := m'.sep _ _ _ q2 hb
          cases hq : r2 b with
          | none => rfl
          | some o => rw [h2 b o hq] at this; cases this
        · rw [q1, q4.blk] at hb
          exact (g1 i c b hnm q3 hb).2.1
      · rcases get i ch hi with ⟨j, cj, q1, q2, q3, q4⟩ | ⟨hnm, q1, q2, c, q3, q4⟩ <;> rcases get i' ch' hi' with ⟨j', cj', q1', q2', q3', q4'⟩ | ⟨hnm', q1', q2', c', q3', q4'⟩
        · rw [q4, q3.blk] at hb
          rw [q4', q3'.blk] at hb'
          have := m'.nod _ _ _ _ _ q2 q2' hb hb'
          subst this
          rw [q1] at q1'; cases q1'; rfl
        · rw [q4, q3.blk] at hb
          rw [q1', q4'.blk] at hb'
          exact ((g1 i' c' b hnm' q3' hb').2.2 j cj q2 hb).elim
        · rw [q1, q4.blk] at hb
          rw [q4', q3'.blk] at hb'
          exact ((g1 i c b hnm q3 hb).2.2 j' cj' q2' hb').elim
        · rw [q1, q4.blk] at hb
          rw [q1', q4'.blk] at hb'
          exact s.mem.nod _ _ _ _ _ q3 q3' hb hb'
    · refine ⟨hid.os, hid.tape, hid.output, hid.size, fun b hb p1 p2 => ?_, fun i ch hi hk => ?_⟩
      · obtain ⟨a1, a2, a3⟩ := g3 b hb p1 p2
        refine ⟨a1, a2, fun i ch hi hcb => ?_⟩
        rcases get i ch hi with ⟨j, ch', q1, q2, q3, q4⟩ | ⟨hnm, q1, q2, c, q3, q4⟩
        · rw [q4, q3.blk] at hcb
          exact a3 j ch' q2 hcb
        · rw [q1, q4.blk] at hcb
          exact p2 i c q3 hcb
      · cases hf : hasFst m i with
        | true =>
          obtain ⟨j, hij⟩ := hasFst_iff.1 hf
          obtain ⟨k1, ch', k2, k3⟩ := F2 hij hi hk
          obtain ⟨i', ch2, q1, q2, q3⟩ := hb2 j ch' k2
          have : i' = i := by
            have := lookF_of hn1 (inM hij)
            rw [this] at q1; cases q1; rfl
          subst this
          exact ⟨k1, ch2, by rw [phi_app, q2], q3.kind.trans k3⟩
        | false =>
          have hnm : ¬ ∃ j, (i, j) ∈ m := fun hj => by rw [hasFst_iff.2 hj] at hf; cases hf
          obtain ⟨c1, hc1'⟩ := (hΦ1 i).2 ch hi
          obtain ⟨c0, p1, p2⟩ := (hΦ1 i).1 c1 hc1'
          rw [hi] at p1; cases p1
          have hnl : lookB M i = none := by
            cases hl : lookB M i with
            | none => rfl
            | some j =>
              exfalso
              have hmM := lookB_mem hl
              rw [hM, List.mem_append] at hmM
              rcases hmM with hmM | hmM
              · exact (freshP_get (hP j i hmM).2 i c1 hc1').1 rfl
              · exact hnm ⟨j, (hM0 i j).1 hmM⟩
          have hnb : Phi.get Φb i = none := by
            cases hq : Phi.get Φb i with
            | none => rfl
            | some c =>
              obtain ⟨j, ch', q1, _, _⟩ := hb1 i c hq
              have := lookB_of hn2 (lookF_mem q1)
              rw [hnl] at this; cases this
          refine ⟨by rw [hβ2]; simp only [hnl], c1, ?_, p2.kind⟩
          rw [phi_app, hnb]
          simp only [hr1, hf, cond_false]
          exact hc1'
  · obtain ⟨sv1, q1, _⟩ := hσ k _ _ hk0
    exact hD _ _ _ _ q1
end Go.Vc

namespace Go.Vc
set_option autoImplicit false
theorem mem_own0L {id : Nat} {l : List SV} {r : List Nat} : id ∈ own0L l r ↔ (SV.own id ∈ l ∨ id ∈ r) := by
  induction l with
  | nil => simp [own0L]
  | cons x xs ih =>
    simp only [own0L, List.mem_cons]
    by_cases hx : ∃ i, x = .own i
    · obtain ⟨i, rfl⟩ := hx
      simp only [own0, List.mem_cons, ih, SV.own.injEq]
      constructor
      · rintro (h | h | h)
        · exact .inl (.inl h)
        · exact .inl (.inr h)
        · exact .inr h
      · rintro ((h | h) | h)
        · exact .inl h
        · exact .inr (.inl h)
        · exact .inr (.inr h)
    · have e : own0 x (own0L xs r) = own0L xs r := by cases x <;> first | rfl | exact (hx ⟨_, rfl⟩).elim
      rw [e, ih]
      constructor
      · rintro (h | h)
        · exact .inl (.inr h)
        · exact .inr h
      · rintro ((h | h) | h)
        · exact (hx ⟨id, h.symm⟩).elim
        · exact .inl h
        · exact .inr h
theorem own1L_cons {id : Nat} {x : SV} {xs : List SV} : (id ∈ own1L xs → id ∈ own1L (x :: xs)) ∧ (x = .own id → id ∈ own1L (x :: xs)) ∧ (∀ l, x = .agg l → SV.own id ∈ l → id ∈ own1L (x :: xs)) := by
  by_cases hx : ∃ l, x = .agg l
  · obtain ⟨l, rfl⟩ := hx
    refine ⟨fun h => mem_own0L.2 (.inr h), (fun h => by cases h), fun l' h hm => ?_⟩
    cases h; exact mem_own0L.2 (.inl hm)
  · have e : own1L (x :: xs) = own0 x (own1L xs) := by cases x <;> first | rfl | exact (hx ⟨_, rfl⟩).elim
    rw [e]
    refine ⟨fun h => ?_, fun h => by subst h; simp [own0], fun l h => (hx ⟨l, h⟩).elim⟩
    cases x <;> first | exact h | (simp [own0, h])
theorem ln0_q {Φ : Phi} {x : SV} {K : SV → Prop} (h : ln0 Φ x K) : ∃ y, K y ∧ ∀ q r β w v, (∀ id, x = .own id → q id = true) → MemSat r β Φ w → Rel r β x v → Rel (frz q r β Φ w) β y v := by
  by_cases hx : ∃ id, x = .own id
  · obtain ⟨id, rfl⟩ := hx
    simp only [ln0] at h
    split at h
    · rename_i τ l hg
      refine ⟨_, h, fun q r β w v hq m hr => ?_⟩
      cases hr
      exact own_frz m (hq id rfl) hg β
    · exact h.elim
  · have h' : K x := by cases x <;> first | exact h | exact (hx ⟨_, rfl⟩).elim
    exact ⟨x, h', fun q r β w v _ m hr => hr.mono (frz_le m)⟩
theorem lendK_q {Φ : Phi} : ∀ {xs : List SV} {K : List SV → Prop}, lendK Φ xs K → ∃ ys, K ys ∧ ∀ q r β w vs, (∀ id ∈ own1L xs, q id = true) → MemSat r β Φ w → RelL r β xs vs → RelL (frz q r β Φ w) β ys vs := by
  intro xs
  induction xs with
  | nil => intro K h; exact ⟨[], h, fun q r β w vs _ m hv => by rw [hv.nil_inv]; exact .nil⟩
  | cons x xs ih =>
    intro K h
    have h : ln1 Φ x fun y => lendK Φ xs fun l => K (y :: l) := h
    have one : ∃ y, (lendK Φ xs fun l => K (y :: l)) ∧ ∀ q r β w v, (∀ id ∈ own1L (x :: xs), q id = true) → MemSat r β Φ w → Rel r β x v → Rel (frz q r β Φ w) β y v := by
      by_cases hx : ∃ l, x = .agg l
      · obtain ⟨l, rfl⟩ := hx
        obtain ⟨ys, hk, hl, hh⟩ := lift_list (D := ln0 Φ) (DL := ln0L Φ) (R := fun x y => ∀ q r β w v, (∀ id, x = .own id → q id = true) → MemSat r β Φ w → Rel r β x v → Rel (frz q r β Φ w) β y v) (fun _ h => h) (fun _ _ _ h => h) (fun _ _ h => ln0_q h) l _ h
        refine ⟨_, hk, fun q r β w v hq m hv => ?_⟩
        obtain ⟨cs, rfl, hcs⟩ := hv.aggL_inv
        refine .aggL ⟨by rw [hcs.1, hl], fun i y v q1 q2 => ?_⟩
        obtain ⟨x0, p1, p2⟩ := hh i y q1
        exact p2 q r β w v (fun id he => hq id (own1L_cons.2.2 l rfl (by rw [← he]; exact List.mem_of_getElem? p1))) m (hcs.2 i x0 v p1 q2)
      · have h' : ln0 Φ x fun y => lendK Φ xs fun l => K (y :: l) := by cases x <;> first | exact h | exact (hx ⟨_, rfl⟩).elim
        obtain ⟨y, hk, hr⟩ := ln0_q h'
        exact ⟨y, hk, fun q r β w v hq m hv => hr q r β w v (fun id he => hq id (own1L_cons.2.1 he)) m hv⟩
    obtain ⟨y, h, hy⟩ := one
    obtain ⟨ys, hk, hys⟩ := ih h
    refine ⟨_, hk, fun q r β w vs hq m hv => ?_⟩
    obtain ⟨v, us, rfl, hv1, hv2⟩ := hv.uncons
    exact RelL.cons (hy q r β w v hq m hv1) (hys q r β w us (fun id hi => hq id (own1L_cons.1 hi)) m hv2)
theorem lentOk_spec {m : NN} {l : List Nat} (h : lentOk m l = true) : ∀ i, memN i l = true → hasFst m i = false := by
  induction l with
  | nil => intro i hi; cases hi
  | cons x r ih =>
    simp only [lentOk, Bool.and_eq_true, Bool.not_eq_true'] at h
    intro i hi
    simp only [memN, Bool.or_eq_true] at hi
    rcases hi with hi | hi
    · rw [← beq_of hi]; exact h.1
    · exact ih h.2 i hi
theorem callMK_sound {B : Base} {e N a w f args lent σ Φ n} {K : EK} (h : callMK B f args lent σ Φ n K) {r β} (s : Sat B e N r β σ Φ a w) {vs : List Value}
    (hargs : RelL (frz (fun i => memN i lent) r β Φ w) β args vs) :
    (∀ w, (callFunc f vs.toArray).run B.P w = .ok (.enter f vs.toArray) w) ∧ Calls B.P f vs.toArray w fun ev w' => ∃ v, ev = .returned v ∧ After B e N a σ K v w' := by
  obtain ⟨m, h⟩ := reachK_sound h
  obtain ⟨cargs, h, hl, hh⟩ := rn1L_sound h
  obtain ⟨Φc, h, hc1, hc2⟩ := subPK_sound h
  cases h with
  | mk hlt hp k =>
    rename_i pre res Φ' fn
    simp only [Bool.and_eq_true] at hlt
    obtain ⟨hlt, hpl⟩ := hlt
    obtain ⟨βc, hrn, mc, fin⟩ := afterK_sound k s (lentOk_spec hlt) hc1 hc2
    refine ⟨fun w => fn.call _ w, ?_⟩
    refine (fn.ok hp.h _ βc w vs (B.mono _ _ (frz_le s.mem) s.G) mc (relL_of hl hh (fun x y v hR hx => hR _ _ _ _ hrn hx) hargs)).mono ?_
    rintro ev w' ⟨v, sv, r', βc', Φ1, he, ⟨rfl, rfl⟩, hr, m', hle, hid⟩
    refine ⟨v, he, ?_⟩
    cases lent with
    | nil =>
      have hz : frz (fun i => memN i []) r β Φ w = r := frz_none
      exact fin m' hle hid (by rw [hz] at hle; exact hle) (Mem.le_refl r') (fun _ _ _ h => by cases h) hr (fun j ch hj => m'.chs _ _ hj)
    | cons x l =>
      have hpl : (SV.plainI sv && plainP Φ1) = true := hpl
      simp only [Bool.and_eq_true] at hpl
      refine fin (r2 := fun b => if b < w.heap.size then r b else r' b) m' hle hid (fun b o hb => ?_) (fun b o hb => ?_) (fun id ch b _ p1 _ p3 => ?_) (plainI_keep hr hpl.1) (fun j ch hj => ?_)
      · have := lt_of_get (s.mem.vis _ _ hb)
        simp only [this, if_true]; exact hb
      · simp only at hb
        split at hb
        · exact hle _ _ (frz_le s.mem _ _ hb)
        · exact hb
      · simp only [blk_lt s.mem p1 p3, if_true]
        exact s.mem.sep _ _ _ p1 p3
      · obtain ⟨τ, l, rfl, hτ⟩ := plainP_get hpl.2 hj
        exact own_plain_sat (m'.chs _ _ hj) hτ
inductive RoEq : Chunk → Chunk → Prop
  | same (c) : RoEq c c
  | lend (τ) (l : List (Ty.T τ)) : RoEq (.own τ l) (.ro τ l)
  | back (τ) (l : List (Ty.T τ)) : RoEq (.ro τ l) (.own τ l)
  | fix (τ) (l : List (Ty.T τ)) : RoEq (.own τ l) (.ow τ l)
  | fix2 (τ) (l : List (Ty.T τ)) : RoEq (.ro τ l) (.ow τ l)
theorem RoEq.blk {c c' : Chunk} (h : RoEq c c') (x : Value) : c'.blk x = c.blk x := by
  cases h with
  | same => rfl
  | lend τ l => cases x <;> first | rfl | (rename_i a _ _; cases a <;> rfl)
  | back τ l => cases x <;> first | rfl | (rename_i a _ _; cases a <;> rfl)
  | fix τ l => cases x <;> first | rfl | (rename_i a _ _; cases a <;> rfl)
  | fix2 τ l => cases x <;> first | rfl | (rename_i a _ _; cases a <;> rfl)
theorem RoEq.sat {c c' : Chunk} (h : RoEq c c') {r β w x} (hs : c.Sat r β w x) : c'.Sat r β w x := by
  cases h with
  | same => exact hs
  | lend τ l => cases hs with | own h => exact .ro h
  | back τ l => cases hs with | ro h => exact .own h
  | fix τ l => cases hs with | own h => exact .ow h
  | fix2 τ l => cases hs with | ro h => exact .ow h
theorem sat_swap {B : Base} {e N r β σ Φ Φ2 a w} (s : Sat B e N r β σ Φ a w) (hsw : ∀ j c2, Phi.get Φ2 j = some c2 → ∃ c, Phi.get Φ j = some c ∧ RoEq c c2)
    (hkeep : ∀ id ch, Phi.get e.Φ id = some ch → ch.kind ≠ 0 → Phi.get Φ2 id = Phi.get Φ id) : Sat B e N r β σ Φ2 a w := by
  refine ⟨s.agree, ⟨s.mem.vis, fun j c2 h => ?_, fun j c2 b h hb => ?_, fun j j' c2 c2' b h h' hb hb' => ?_⟩, s.G, ⟨s.kept.le, s.kept.os, s.kept.tape, s.kept.output, s.kept.size, fun b hb => ?_, fun id ch h hk => ?_, s.kept.slt⟩, ?_, s.size⟩
  · obtain ⟨c, h1, h2⟩ := hsw j c2 h
    exact h2.sat (s.mem.chs _ _ h1)
  · obtain ⟨c, h1, h2⟩ := hsw j c2 h
    rw [h2.blk] at hb
    exact s.mem.sep _ _ _ h1 hb
  · obtain ⟨c, h1, h2⟩ := hsw j c2 h
    obtain ⟨c', h1', h2'⟩ := hsw j' c2' h'
    rw [h2.blk] at hb; rw [h2'.blk] at hb'
    exact s.mem.nod _ _ _ _ _ h1 h1' hb hb'
  · obtain ⟨x1, x2, x3⟩ := s.kept.block b hb
    refine ⟨x1, x2, fun j c2 h hb' => ?_⟩
    obtain ⟨c, g1, g2⟩ := hsw j c2 h
    rw [g2.blk] at hb'
    exact x3 j c g1 hb'
  · obtain ⟨q1, ch', q2, q3⟩ := s.kept.keep id ch h hk
    exact ⟨q1, ch', by rw [hkeep id ch h hk]; exact q2, q3⟩
  · obtain ⟨Ds, h1, h2, h3⟩ := s.defers
    refine ⟨Ds, h1, h2, fun D hD => ?_⟩
    obtain ⟨g1, g2, g3, g4⟩ := h3 D hD
    refine ⟨g1, g2, g3, fun j c2 h hb => ?_⟩
    obtain ⟨c, k1, k2⟩ := hsw j c2 h
    rw [k2.blk] at hb
    exact g4 j c k1 hb
theorem roK_sound : ∀ {ids : List Nat} {Φ : Phi} {K : Phi → Prop}, roK ids Φ K → ∃ Φr, K Φr ∧ (∀ j c2, Phi.get Φr j = some c2 → ∃ c, Phi.get Φ j = some c ∧ RoEq c c2) ∧ (∀ j, j ∉ ids → Phi.get Φr j = Phi.get Φ j) ∧ (∀ j ∈ ids, ∃ τ l, Phi.get Φ j = some (.own τ l) ∧ Phi.get Φr j = some (.ro τ l)) := by
  intro ids
  induction ids with
  | nil => intro Φ K h; exact ⟨Φ, h, fun j c2 hj => ⟨c2, hj, .same _⟩, fun _ _ => rfl, fun j hj => by cases hj⟩
  | cons i ids ih =>
    intro Φ K h
    simp only [roK] at h
    split at h
    · rename_i τ l hg
      obtain ⟨Φ1, h, hΦ⟩ := setPK_sound h (hasId_of hg)
      obtain ⟨Φr, hk, h1, h2, h3⟩ := ih h
      have hi1 : Phi.get Φ1 i = some (.ro τ l) := by rw [hΦ, Nat.beq_refl]; rfl
      have hni : i ∉ ids := fun hm => by
        obtain ⟨τ', l', g1, _⟩ := h3 i hm
        rw [hi1] at g1; cases g1
      have hne : ∀ j, j ≠ i → Phi.get Φ1 j = Phi.get Φ j := fun j hj => by rw [hΦ, nbeq_of (fun h => hj h.symm)]; rfl
      refine ⟨Φr, hk, fun j c2 hj => ?_, fun j hj => ?_, fun j hj => ?_⟩
      · by_cases hji : j = i
        · subst hji
          rw [h2 j hni, hi1] at hj
          cases hj
          exact ⟨_, hg, .lend τ l⟩
        · obtain ⟨c, g1, g2⟩ := h1 j c2 hj
          rw [hne j hji] at g1
          exact ⟨c, g1, g2⟩
      · simp only [List.mem_cons, not_or] at hj
        rw [h2 j hj.2, hne j hj.1]
      · by_cases hji : j = i
        · subst hji
          exact ⟨τ, l, hg, by rw [h2 j hni, hi1]⟩
        · rcases List.mem_cons.1 hj with h | hj
          · exact (hji h).elim
          · obtain ⟨τ', l', g1, g2⟩ := h3 j hj
            rw [hne j hji] at g1
            exact ⟨τ', l', g1, g2⟩
    · exact h.elim
    · exact h.elim
theorem unroK_sound : ∀ {ids : List Nat} {Φ : Phi} {K : Phi → Prop}, unroK ids Φ K → ∃ Φr, K Φr ∧ (∀ j c2, Phi.get Φr j = some c2 → ∃ c, Phi.get Φ j = some c ∧ RoEq c c2) ∧ (∀ j, j ∉ ids → Phi.get Φr j = Phi.get Φ j) := by
  intro ids
  induction ids with
  | nil => intro Φ K h; exact ⟨Φ, h, fun j c2 hj => ⟨c2, hj, .same _⟩, fun _ _ => rfl⟩
  | cons i ids ih =>
    intro Φ K h
    simp only [unroK] at h
    split at h
    · rename_i τ l hg
      obtain ⟨Φ1, h, hΦ⟩ := setPK_sound h (hasId_of hg)
      obtain ⟨Φr, hk, h1, h2⟩ := ih h
      have hi1 : Phi.get Φ1 i = some (.own τ l) := by rw [hΦ, Nat.beq_refl]; rfl
      have hne : ∀ j, j ≠ i → Phi.get Φ1 j = Phi.get Φ j := fun j hj => by rw [hΦ, nbeq_of (fun h => hj h.symm)]; rfl
      refine ⟨Φr, hk, fun j c2 hj => ?_, fun j hj => ?_⟩
      · obtain ⟨c, g1, g2⟩ := h1 j c2 hj
        by_cases hji : j = i
        · subst hji
          rw [hi1] at g1
          cases g1
          cases g2 with
          | same => exact ⟨_, hg, .back τ l⟩
          | lend => exact ⟨_, hg, .same _⟩
          | fix => exact ⟨_, hg, .fix2 τ l⟩
        · rw [hne j hji] at g1
          exact ⟨c, g1, g2⟩
      · simp only [List.mem_cons, not_or] at hj
        rw [h2 j hj.2, hne j hj.1]
    · exact h.elim
theorem fixK_sound : ∀ {ids : List Nat} {Φ : Phi} {K : Phi → Prop}, fixK ids Φ K → ∃ Φr, K Φr ∧ (∀ j c2, Phi.get Φr j = some c2 → ∃ c, Phi.get Φ j = some c ∧ RoEq c c2) ∧ (∀ j c, Phi.get Φ j = some c → c.kind ≠ 0 → Phi.get Φr j = Phi.get Φ j) := by
  intro ids
  induction ids with
  | nil => intro Φ K h; exact ⟨Φ, h, fun j c2 hj => ⟨c2, hj, .same _⟩, fun _ _ _ _ => rfl⟩
  | cons i ids ih =>
    intro Φ K h
    simp only [fixK] at h
    split at h
    · rename_i τ l hg
      obtain ⟨Φ1, h, hΦ⟩ := setPK_sound h (hasId_of hg)
      obtain ⟨Φr, hk, h1, h2⟩ := ih h
      have hi1 : Phi.get Φ1 i = some (.ow τ l) := by rw [hΦ, Nat.beq_refl]; rfl
      have hne : ∀ j, j ≠ i → Phi.get Φ1 j = Phi.get Φ j := fun j hj => by rw [hΦ, nbeq_of (fun h => hj h.symm)]; rfl
      refine ⟨Φr, hk, fun j c2 hj => ?_, fun j c hj hk0 => ?_⟩
      · obtain ⟨c, g1, g2⟩ := h1 j c2 hj
        by_cases hji : j = i
        · subst hji
          rw [hi1] at g1
          cases g1
          cases g2 with
          | same => exact ⟨_, hg, .fix τ l⟩
        · rw [hne j hji] at g1
          exact ⟨c, g1, g2⟩
      · have hji : j ≠ i := fun he => by subst he; rw [hg] at hj; cases hj; exact hk0 rfl
        rw [h2 j c (by rw [hne j hji]; exact hj) hk0, hne j hji]
    · exact ih h
    · exact h.elim
theorem fixK_sat {B : Base} {e N r β σ Φ a w} {ids : List Nat} {K : Phi → Prop} (h : fixK ids Φ K) (s : Sat B e N r β σ Φ a w) : ∃ Φr, K Φr ∧ Sat B e N r β σ Φr a w := by
  obtain ⟨Φr, hk, h1, h2⟩ := fixK_sound h
  refine ⟨Φr, hk, sat_swap s h1 fun id ch hi hk0 => ?_⟩
  obtain ⟨_, ch', q2, q3⟩ := s.kept.keep id ch hi hk0
  rw [h2 id ch' q2 (by rw [q3]; exact hk0)]
theorem callS_sound {B : Base} {e N a w f args σ Φ n} {K : EK} (h : CallS B f args σ Φ n K) {r β} (s : Sat B e N r β σ Φ a w) {vs : List Value} (hargs : RelL r β args vs) {o : Oper}
    (hrun : ∀ w, (execOp a.eval o).run B.P w = (callFunc f vs.toArray).run B.P w) : OpTo B.P a w o (After B e N a σ K) := by
  cases h with
  | q h =>
    obtain ⟨sv, hk, hop⟩ := call_sound h
    refine (hop (fun _ h => h) r β w vs a o s.G s.mem hargs hrun).mono ?_
    rintro v w' ⟨r', hr, hle, m', hid⟩
    exact ⟨sv, σ, Φ, n, r', β, hk, hr, s.step (s.agree.of fun k g sv hk => ⟨sv, hk, fun v hr => hr.mono hle⟩) m' hle hid, fun D hD => hD⟩
  | m h =>
    obtain ⟨ys, h, hl⟩ := lendK_q h
    obtain ⟨h1, h2⟩ := callMK_sound h s (hl _ r β w vs (fun id hi => memN_iff.2 hi) s.mem hargs)
    exact .call f vs.toArray (by rw [hrun]; exact h1 _) h2
  | h h =>
    obtain ⟨h1, h2⟩ := callMK_sound h s (by
      have hz : frz (fun i => memN i []) r β Φ w = r := frz_none
      rw [hz]; exact hargs)
    exact .call f vs.toArray (by rw [hrun]; exact h1 _) h2
  | b h =>
    obtain ⟨Φr, h, hr1, hr2, hr3⟩ := roK_sound h
    have hno : ∀ id ch, Phi.get e.Φ id = some ch → ch.kind ≠ 0 → id ∉ own1L args := fun id ch hi hk hm => by
      obtain ⟨τ, l, g1, _⟩ := hr3 id hm
      obtain ⟨_, ch', q2, q3⟩ := s.kept.keep id ch hi hk
      rw [g1] at q2; cases q2
      exact hk q3.symm
    have s1 := sat_swap s hr1 (fun id ch hi hk => hr2 id (hno id ch hi hk))
    obtain ⟨h1, h2⟩ := callMK_sound h s1 (by
      have hz : frz (fun i => memN i []) r β Φr w = r := frz_none
      rw [hz]; exact hargs)
    refine .call f vs.toArray (by rw [hrun]; exact h1 _) (h2.mono ?_)
    rintro ev w' ⟨v, he, sv, σ2, Φ2, n', r2, β2, k1, k2, k3, k4⟩
    obtain ⟨Φu, k1, u1, u2⟩ := unroK_sound k1
    exact ⟨v, he, sv, σ2, Φu, n', r2, β2, k1, k2, sat_swap k3 u1 (fun id ch hi hk => u2 id (hno id ch hi hk)), k4⟩
  | z h =>
    obtain ⟨xs', σ', Φ', r', h, s', hv', hD⟩ := frzK_sound h s hargs
    obtain ⟨h1, h2⟩ := callMK_sound h s' (by
      have hz : frz (fun i => memN i []) r' β Φ' w = r' := frz_none
      rw [hz]; exact hv')
    refine .call f vs.toArray (by rw [hrun]; exact h1 _) (h2.mono ?_)
    rintro ev w' ⟨v, he, sv, σ2, Φ2, n', r2, β2, k1, k2, k3, k4⟩
    exact ⟨v, he, sv, σ2, Φ2, n', r2, β2, k1, k2, k3, fun D h0 => k4 D (hD D h0)⟩
end Go.Vc
