/- A part of the proof: lemmas and walks that the last text of the claim joins; no condition. -/
import Derived.Test.YtfjggnjfifbbgaaVcS8
namespace Go.Vc
set_option autoImplicit false
set_option linter.unusedVariables false

/-- where a function was entered -/
structure Entry where
  r : Mem
  β : Bind
  Φ : Phi
  w : World

structure Sat (B : Base) (e : Entry) (N : Nat) (r : Mem) (β : Bind) (σ : Env) (Φ : Phi) (a : Act) (w : World) : Prop where
  agree : Agree r β σ a.tmps
  mem : MemSat r β Φ w
  G : B.G r
  le : e.r.le r
  hid : Hid e.r e.β e.Φ e.w r β Φ w
  defers : a.defers = []
  size : a.tmps.size = N

theorem put_some (a : Act) (d : Nat) (v : Value) : (a.put (some d) v).tmps = a.tmps.setIfInBounds d v := rfl
theorem put_defers (a : Act) (d : Option Nat) (v : Value) : (a.put d v).defers = a.defers := by cases d <;> rfl
theorem put_size (a : Act) (d : Option Nat) (v : Value) : (a.put d v).tmps.size = a.tmps.size := by cases d <;> simp [Act.put]

theorem get_cons (k : Nat) (g sv) (σ : Env) (j : Nat) : Env.get ((k, g, sv) :: σ) j = bif Nat.beq k j then some (g, sv) else Env.get σ j := rfl

/-- the guards' slots are among these -/
def GdIn (D : List Nat) (σ : Env) : Prop := ∀ k s w sv, Env.get σ k = some (some (s, w), sv) → s ∈ D

theorem Agree.put {r β σ t D} (h : Agree r β σ t) (hgd : GdIn D σ) {d : Nat} {gd : Option (Nat × Bool)} {sv : SV} {v : Value} (hd : d ∉ D) (hlt : d < t.size)
    (hv : match gd with | none => Rel r β sv v | some (s, w) => s ≠ d ∧ (t[s]? = some (.bool w) → Rel r β sv v) ∧ (t[s]? ≠ some (.bool w) → v = undef)) :
    Agree r β ((d, gd, sv) :: σ) (t.setIfInBounds d v) := by
  have self : (t.setIfInBounds d v)[d]? = some v := by rw [Array.getElem?_setIfInBounds_self_of_lt hlt]
  have other : ∀ k, k ≠ d → (t.setIfInBounds d v)[k]? = t[k]? := fun k hk => Array.getElem?_setIfInBounds_ne (Ne.symm hk)
  intro k g sv' hg
  rw [get_cons] at hg
  cases hb : Nat.beq d k with
  | true =>
    obtain rfl := beq_of hb
    rw [hb] at hg
    simp only [cond_true, Option.some.injEq, Prod.mk.injEq] at hg
    obtain ⟨rfl, rfl⟩ := hg
    cases gd with
    | none => exact ⟨v, self, hv⟩
    | some p =>
      obtain ⟨s, w⟩ := p
      obtain ⟨h1, h2, h3⟩ := hv
      refine ⟨fun hs => ⟨v, self, h2 (by rw [← other s h1]; exact hs)⟩, fun hs => ?_⟩
      rw [self, h3 (by rw [← other s h1]; exact hs)]
  | false =>
    rw [hb] at hg
    simp only [cond_false] at hg
    have hk : k ≠ d := by
      rintro rfl
      have : Nat.beq k k = true := Nat.beq_refl k
      rw [this] at hb; cases hb
    have := h k g sv' hg
    cases g with
    | none => obtain ⟨u, h1, h2⟩ := this; exact ⟨u, by rw [other k hk]; exact h1, h2⟩
    | some p =>
      obtain ⟨s, w⟩ := p
      have hs : s ≠ d := by rintro rfl; exact hd (hgd _ _ _ _ hg)
      simp only [EntSat, other k hk, other s hs] at this ⊢
      exact this

theorem Agree.none {r β σ t} (h : Agree r β σ t) {t' : Array Value} (ht : t' = t) : Agree r β σ t' := by subst ht; exact h

theorem GdIn.put {D σ d gd sv} (h : GdIn D σ) (hg : ∀ s w, gd = some (s, w) → s ∈ D) (d' : List Nat) : GdIn (D ++ d') ((d, gd, sv) :: σ) := by
  intro k s w sv' hk
  rw [get_cons] at hk
  cases hb : Nat.beq d k with
  | true =>
    rw [hb] at hk
    simp only [cond_true, Option.some.injEq, Prod.mk.injEq] at hk
    exact List.mem_append.2 (.inl (hg _ _ hk.1))
  | false => rw [hb] at hk; exact List.mem_append.2 (.inl (h _ _ _ _ hk))
theorem GdIn.more {D σ} (h : GdIn D σ) (d : List Nat) : GdIn (D ++ d) σ := fun k s w sv hk => List.mem_append.2 (.inl (h k s w sv hk))

def dsts (l : List Oper) : List Nat := l.filterMap (·.dst)

/-- from what is known of an operation to the machine's step -/
theorem OpOk.wp {B : Base} {e N q r β σ Φ a w o sv} (h : OpOk B q r β Φ w a o sv) (s : Sat B e N r β σ Φ a w) {next : Act → World → Prop} {Q : Exit → Act → World → Prop}
    (hn : ∀ v r' w', Rel r' β sv v → r.le r' → Sat B e N r' β σ Φ a w' → next (a.put o.dst v) w') : o.wp B.P a w next Q := by
  unfold Oper.wp
  cases h with
  | val v hr hw =>
    rw [hw w (Near.refl s.mem)]
    exact hn v r w hr (Mem.le_refl r) s
  | callQ v hr hw =>
    obtain ⟨f, args, h1, h2⟩ := hw w (Near.refl s.mem)
    rw [h1]
    refine h2.mono fun e' w' ⟨he, hnear⟩ => ?_
    subst he
    exact hn v r w' hr (Mem.le_refl r) ⟨s.agree, hnear.mem, s.G, s.le, s.hid.trans hnear.hid, s.defers, s.size⟩
  | callG hq f args h1 h2 =>
    rw [h1]
    refine h2.mono fun e' w' ⟨v, r', he, hr, hm, hle, hid⟩ => ?_
    subst he
    refine hn v r' w' hr hle ⟨fun k g sv' hg => ?_, hm, B.mono _ _ hle s.G, Mem.le_trans s.le hle, s.hid.trans hid, s.defers, s.size⟩
    have := s.agree k g sv' hg
    cases g with
    | none => obtain ⟨u, q1, q2⟩ := this; exact ⟨u, q1, q2.mono hle⟩
    | some p => obtain ⟨s', w''⟩ := p; exact ⟨fun hs => by obtain ⟨u, q1, q2⟩ := this.1 hs; exact ⟨u, q1, q2.mono hle⟩, this.2⟩

theorem Sm.plain {r β σ t} (h : Agree r β σ t) : Sm r β σ t [] (fun p => p) := ⟨h, fun s w hm => by simp [ctxMem] at hm, fun p hp => hp⟩

theorem freshE_get {n : Nat} {σ : Env} (h : freshE n σ = true) (k : Nat) (g sv) (hg : Env.get σ k = some (g, sv)) : sv.okIds (fun i => !Nat.beq i n) = true := by
  induction σ with
  | nil => simp [Env.get] at hg
  | cons x r ih =>
    obtain ⟨k', g', sv'⟩ := x
    simp only [freshE, Bool.and_eq_true] at h
    rw [get_cons] at hg
    cases hb : Nat.beq k' k with
    | true => rw [hb] at hg; simp at hg; rw [← hg.2]; exact h.1
    | false => rw [hb] at hg; exact ih h.2 hg
theorem phi_cons (k : Nat) (c : Chunk) (Φ : Phi) (j : Nat) : Phi.get ((k, c) :: Φ) j = bif Nat.beq k j then some c else Phi.get Φ j := rfl
theorem freshP_get {n : Nat} {Φ : Phi} (h : freshP n Φ = true) (k : Nat) (ch) (hg : Phi.get Φ k = some ch) : k ≠ n ∧ freshC n ch = true := by
  induction Φ with
  | nil => simp [Phi.get] at hg
  | cons x r ih =>
    obtain ⟨k', c'⟩ := x
    simp only [freshP, Bool.and_eq_true] at h
    rw [phi_cons] at hg
    cases hb : Nat.beq k' k with
    | true =>
      rw [hb] at hg
      simp at hg
      subst hg
      obtain rfl := beq_of hb
      refine ⟨?_, h.2.1⟩
      rintro rfl
      rw [Nat.beq_refl] at h
      simp at h
    | false => rw [hb] at hg; exact ih h.2.2 hg

def setB (β : Bind) (n : Nat) (v : Value) : Bind := fun i => bif Nat.beq i n then v else β i
theorem setB_self (β n v) : setB β n v n = v := by simp [setB]
theorem setB_ne {β : Bind} {n : Nat} {v : Value} {i : Nat} (h : i ≠ n) : setB β n v i = β i := by simp [setB, nbeq_of h]
theorem setB_ok {β : Bind} {n : Nat} {v : Value} (i : Nat) (h : (!Nat.beq i n) = true) : setB β n v i = β i := by
  refine setB_ne ?_
  rintro rfl
  rw [Nat.beq_refl] at h; cases h

theorem heap_alloc_lt {w : World} {o : Obj} {b : Nat} (h : b < w.heap.size) : ({ w with heap := w.heap.push o } : World).heap[b]? = w.heap[b]? := by
  show (w.heap.push o)[b]? = _
  rw [Array.getElem?_push, if_neg (by omega)]
theorem heap_alloc_eq {w : World} {o : Obj} : ({ w with heap := w.heap.push o } : World).heap[w.heap.size]? = some o := by
  show (w.heap.push o)[w.heap.size]? = _
  simp
theorem lt_of_heap {w : World} {b : Nat} {o : Obj} (h : w.heap[b]? = some o) : b < w.heap.size := by
  rcases Nat.lt_or_ge b w.heap.size with h' | h'
  · exact h'
  · rw [Array.getElem?_eq_none h'] at h; cases h

/-- nothing that was there has turned -/
structure Grows (w w' : World) : Prop where
  os : w'.os = w.os
  tape : w'.tape = w.tape
  output : w'.output = w.output
  size : w.heap.size ≤ w'.heap.size
  old : ∀ b, b < w.heap.size → w'.heap[b]? = w.heap[b]?

theorem Grows.alloc (w : World) (o : Obj) : Grows w { w with heap := w.heap.push o } :=
  ⟨rfl, rfl, rfl, by show w.heap.size ≤ (w.heap.push o).size; simp, fun b hb => heap_alloc_lt hb⟩

/-- a new chunk, bound to a new id -/
theorem sat_new {B : Base} {e N r β σ Φ a w} {n : Nat} {ch : Chunk} {v : Value} {w' : World} (s : Sat B e N r β σ Φ a w) (hσ : freshE n σ = true) (hΦ : freshP n Φ = true)
    (hg : Grows w w') (hblk : ∀ b, ch.blk v = some b → w.heap.size ≤ b) (hch : ch.Sat r (setB β n v) w' v) : Sat B e N r (setB β n v) σ ((n, ch) :: Φ) a w' := by
  have old : ∀ id c, Phi.get Φ id = some c → setB β n v id = β id := fun id c h => setB_ne (freshP_get hΦ id c h).1
  have alive : ∀ id c b, Phi.get Φ id = some c → c.blk (β id) = some b → b < w.heap.size := fun id c b h1 h2 => (s.mem.chs _ _ h1).alive h2
  refine ⟨fun k g sv hg => ?_, ⟨fun b o' h => ?_, fun id c h => ?_, fun id c b h1 h2 => ?_, fun id id' c c' b h1 h1' h2 h2' => ?_⟩, s.G, s.le,
    ⟨hg.os.trans s.hid.os, hg.tape.trans s.hid.tape, hg.output.trans s.hid.output, Nat.le_trans s.hid.size hg.size, ?_⟩, s.defers, s.size⟩
  · have := s.agree k g sv hg
    have hok := freshE_get hσ k g sv hg
    cases g with
    | none => obtain ⟨u, q1, q2⟩ := this; exact ⟨u, q1, q2.bind (p := fun i => !Nat.beq i n) (fun i hi => setB_ok i hi) hok⟩
    | some p => obtain ⟨s', w''⟩ := p; exact ⟨fun hs => by obtain ⟨u, q1, q2⟩ := this.1 hs; exact ⟨u, q1, q2.bind (p := fun i => !Nat.beq i n) (fun i hi => setB_ok i hi) hok⟩, this.2⟩
  · have := s.mem.vis _ _ h
    rw [hg.old _ (lt_of_heap this)]; exact this
  · rw [phi_cons] at h
    cases hb : Nat.beq n id with
    | true =>
      obtain rfl := beq_of hb
      rw [hb] at h; simp at h; subst h
      rw [setB_self]
      exact hch
    | false =>
      rw [hb] at h
      have h : Phi.get Φ id = some c := h
      rw [old id c h]
      refine (s.mem.chs _ _ h).keep (Mem.le_refl r) (fun b hb => hg.old _ (alive _ _ _ h hb)) (fun cells he i sv v hi hr => ?_)
      have := (freshP_get hΦ id c h).2
      subst he
      exact hr.bind (p := fun i => !Nat.beq i n) (fun i hi => setB_ok i hi) (SV.okIdsL_get this i sv hi)
  · rw [phi_cons] at h1
    cases hb : Nat.beq n id with
    | true =>
      obtain rfl := beq_of hb
      rw [hb] at h1; simp at h1; subst h1
      rw [setB_self] at h2
      have := hblk _ h2
      cases hr : r b with
      | none => rfl
      | some o' => exact absurd (lt_of_heap (s.mem.vis _ _ hr)) (by omega)
    | false =>
      rw [hb] at h1
      have h1 : Phi.get Φ id = some c := h1
      rw [old id c h1] at h2
      exact s.mem.sep _ _ _ h1 h2
  · rw [phi_cons] at h1 h1'
    cases hb : Nat.beq n id with
    | true =>
      obtain rfl := beq_of hb
      rw [hb] at h1; simp at h1; subst h1
      rw [setB_self] at h2
      have hge := hblk _ h2
      cases hb' : Nat.beq n id' with
      | true => exact beq_of hb'
      | false =>
        rw [hb'] at h1'
        have h1' : Phi.get Φ id' = some c' := h1'
        rw [old id' c' h1'] at h2'
        exact absurd (alive _ _ _ h1' h2') (by omega)
    | false =>
      rw [hb] at h1
      have h1 : Phi.get Φ id = some c := h1
      rw [old id c h1] at h2
      cases hb' : Nat.beq n id' with
      | true =>
        obtain rfl := beq_of hb'
        rw [hb'] at h1'; simp at h1'; subst h1'
        rw [setB_self] at h2'
        have hge := hblk _ h2'
        exact absurd (alive _ _ _ h1 h2) (by omega)
      | false =>
        rw [hb'] at h1'
        have h1' : Phi.get Φ id' = some c' := h1'
        rw [old id' c' h1'] at h2'
        exact s.mem.nod _ _ _ _ _ h1 h1' h2 h2'
  · intro b hb h1 h2
    obtain ⟨q1, q2, q3⟩ := s.hid.block b hb h1 h2
    have hlt : b < w.heap.size := Nat.lt_of_lt_of_le hb s.hid.size
    refine ⟨by rw [hg.old _ hlt]; exact q1, q2, fun id c h => ?_⟩
    rw [phi_cons] at h
    cases hb' : Nat.beq n id with
    | true =>
      obtain rfl := beq_of hb'
      rw [hb'] at h; simp at h; subst h
      rw [setB_self]
      intro hc
      have := hblk _ hc
      omega
    | false =>
      rw [hb'] at h
      have h : Phi.get Φ id = some c := h
      rw [old id c h]
      exact q3 id c h

theorem newK_sound {B : Base} {e N r β σ Φ a w n cs} {K : EK} (h : newK n cs σ Φ K) (s : Sat B e N r β σ Φ a w) (T : TypeId) (vs : Array Value) (hl : RelL r β cs vs.toList) :
    ∃ sv σ' Φ' n', K sv σ' Φ' n' ∧ σ' = σ ∧ ∃ β', Rel r β' sv (.pointer (some ⟨w.heap.size, 0, none⟩)) ∧ Sat B e N r β' σ' Φ' a { w with heap := w.heap.push (.cells vs T) } := by
  unfold newK at h
  cases hc : (freshE n σ && (freshP n Φ && SV.okIdsL (fun i => !Nat.beq i n) cs)) with
  | false => rw [hc] at h; exact h.elim
  | true =>
    rw [hc] at h
    simp only [Bool.and_eq_true] at hc
    obtain ⟨h1, h2, h3⟩ := hc
    refine ⟨_, _, _, _, h, rfl, setB β n (.pointer (some ⟨w.heap.size, 0, none⟩)), .loc (setB_self _ _ _), ?_⟩
    refine sat_new s h1 h2 (Grows.alloc w _) (fun b hb => by simp [Chunk.blk] at hb; omega) ?_
    refine .box rfl heap_alloc_eq (by simpa using hl.1) fun i sv v q1 q2 => ?_
    exact (hl.2 i sv v q1 (by simpa using q2)).bind (p := fun i => !Nat.beq i n) (fun i hi => setB_ok i hi) (SV.okIdsL_get h3 i sv q1)

theorem newChK_sound {B : Base} {e N r β σ Φ a w n ch sv} {K : EK} (h : newChK n ch sv σ Φ K) (s : Sat B e N r β σ Φ a w) {v : Value} {w' : World} (hg : Grows w w')
    (hblk : ∀ b, ch.blk v = some b → w.heap.size ≤ b) (hch : ch.Sat r (setB β n v) w' v) (hr : Rel r (setB β n v) sv v) :
    ∃ sv σ' Φ' n', K sv σ' Φ' n' ∧ σ' = σ ∧ ∃ β', Rel r β' sv v ∧ Sat B e N r β' σ' Φ' a w' := by
  unfold newChK at h
  cases hc : (freshE n σ && freshP n Φ) with
  | false => rw [hc] at h; exact h.elim
  | true =>
    rw [hc] at h
    simp only [Bool.and_eq_true] at hc
    exact ⟨_, _, _, _, h, rfl, _, hr, sat_new s hc.1 hc.2 hg hblk hch⟩

end Go.Vc
