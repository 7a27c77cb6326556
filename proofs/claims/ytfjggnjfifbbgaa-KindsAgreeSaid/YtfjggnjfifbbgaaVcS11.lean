/- A part of the proof: lemmas and walks that the last text of the claim joins; no condition. -/
import Derived.Test.YtfjggnjfifbbgaaVcS10
import Derived.Scope
import Derived.Deep.LoopGhost
namespace Go.Vc
set_option autoImplicit false
set_option linter.unusedVariables false

def NoGd (σ : Env) : Prop := ∀ k g sv, Env.get σ k = some (g, sv) → g = none

def purge : List Nat → Env → Env
  | [], _ => []
  | k :: L, σ =>
    match σ.get k with
    | some (none, sv) => (k, none, sv) :: purge L σ
    | _ => purge L σ
theorem purgeK_eq (L : List Nat) (σ : Env) : ∀ (K : Env → Prop), purgeK L σ K = K (purge L σ) := by
  induction L with
  | nil => intro K; rfl
  | cons k L ih =>
    intro K
    unfold purgeK purge
    cases hq : σ.get k with
    | none => simp only [ih]
    | some p =>
      obtain ⟨g, sv⟩ := p
      cases g <;> simp only [ih]
theorem blk_box {cs cs' : List SV} (x : Value) : (Chunk.box cs).blk x = (Chunk.box cs').blk x := by
  cases x <;> first | rfl | (rename_i a; cases a <;> rfl)
theorem blk_ownl_own {sz rows} {α : Type} {sz' d enc} {l : List α} (x : Value) : (Chunk.ownl sz rows).blk x = (Chunk.own sz' d enc l).blk x := by
  cases x <;> first | rfl | (rename_i a _ _; cases a <;> rfl)
theorem purge_get {L : List Nat} {σ : Env} {k : Nat} {g sv} (h : Env.get (purge L σ) k = some (g, sv)) : g = none ∧ Env.get σ k = some (none, sv) := by
  induction L with
  | nil => simp [purge, Env.get] at h
  | cons x L ih =>
    unfold purge at h
    split at h
    · rename_i sv' hx
      rw [get_cons] at h
      cases hb : Nat.beq x k with
      | true =>
        obtain rfl := beq_of hb
        rw [hb] at h
        simp only [cond_true, Option.some.injEq, Prod.mk.injEq] at h
        obtain ⟨rfl, rfl⟩ := h
        exact ⟨rfl, hx⟩
      | false => rw [hb] at h; exact ih h
    · exact ih h
theorem purge_noGd (L : List Nat) (σ : Env) : NoGd (purge L σ) := fun k g sv h => (purge_get h).1
theorem Sat.purge {B : Base} {e N r β σ Φ a w} (s : Sat B e N r β σ Φ a w) (L : List Nat) : Sat B e N r β (purge L σ) Φ a w :=
  ⟨fun k g sv h => by obtain ⟨rfl, h2⟩ := purge_get h; exact s.agree k none sv h2, s.mem, s.G, s.le, s.hid, s.defers, s.size⟩
theorem NoGd.gdIn {σ : Env} (h : NoGd σ) (D : List Nat) : GdIn D σ := fun k s w sv hg => by cases h _ _ _ hg

/-! Entailments. -/

def mergeF (F Φ : Phi) : Phi := F ++ Φ.filter fun x => !hasId F x.1
theorem restK_eq (F Φ : Phi) : ∀ (K : Phi → Prop), restK F Φ K = K (Φ.filter fun x => !hasId F x.1) := by
  induction Φ with
  | nil => intro K; rfl
  | cons x r ih =>
    intro K
    obtain ⟨k, c⟩ := x
    unfold restK
    cases hb : hasId F k with
    | true => simp only [cond_true, ih, List.filter_cons, hb]; rfl
    | false => simp only [cond_false, ih, List.filter_cons, hb]; rfl
theorem mergeK_eq (F R : Phi) : ∀ (K : Phi → Prop), mergeK F R K = K (F ++ R) := by
  induction F with
  | nil => intro K; rfl
  | cons x F ih => intro K; unfold mergeK; rw [ih]; rfl
theorem headK_eq (L : List Nat) (U : List (Nat × SV)) (F : Phi) (σ : Env) (Φ : Phi) (K : Env → Phi → Prop) : headK L U F σ Φ K = K (purge L (updE U σ)) (mergeF F Φ) := by
  unfold headK
  rw [purgeK_eq, restK_eq, mergeK_eq]; rfl

/-- where a chunk comes into being out of a nil slice -/
def newB (β : Bind) (Φ ΦI : Phi) : Bind := fun i => bif hasId Φ i then β i else bif hasId ΦI i then .slice none 0 0 else β i
theorem newB_old {β : Bind} {Φ ΦI : Phi} {i : Nat} (h : hasId Φ i = true) : newB β Φ ΦI i = β i := by simp [newB, h]
theorem newB_new {β : Bind} {Φ ΦI : Phi} {i : Nat} (h : hasId Φ i = false) (h' : hasId ΦI i = true) : newB β Φ ΦI i = .slice none 0 0 := by simp [newB, h, h']
theorem get_of_hasId {Φ : Phi} {i : Nat} (h : hasId Φ i = true) : ∃ c, Phi.get Φ i = some c := by
  unfold hasId at h
  split at h
  · exact ⟨_, by assumption⟩
  · cases h

theorem svEnt_sound {Φ ΦI : Phi} {sv svI : SV} (h : svEnt Φ ΦI sv svI) {r β v} (hr : Rel r β sv v) : Rel r (newB β Φ ΦI) svI v := by
  unfold svEnt at h
  split at h
  · obtain ⟨rfl, rfl⟩ := h; cases hr; exact .int
  · subst h; cases hr; exact .bool
  · subst h; cases hr; rename_i h; exact .str h
  · rename_i j
    cases h1 : hasId Φ j with
    | true => rw [h1] at h; exact h.elim
    | false =>
      rw [h1] at h
      cases h2 : hasId ΦI j with
      | false => rw [h2] at h; exact h.elim
      | true =>
        cases hr
        have := newB_new (β := β) h1 h2
        rw [← this]
        exact .own (by rw [this]; rfl)
  · cases hb : SV.okIds (hasId Φ) svI with
    | false => rw [hb] at h; exact h.elim
    | true =>
      rw [hb] at h
      simp only [cond_true] at h
      subst h
      exact hr.bind (p := hasId Φ) (fun i hi => newB_old hi) hb

theorem svEntL_sound {Φ ΦI : Phi} {l : List SV} : ∀ {l' : List SV}, svEntL Φ ΦI l l' → l.length = l'.length ∧ ∀ (i : Nat) a b, l[i]? = some a → l'[i]? = some b → svEnt Φ ΦI a b := by
  induction l with
  | nil =>
    intro l' h
    cases l' with
    | nil => exact ⟨rfl, fun i a b h1 => by simp at h1⟩
    | cons => exact h.elim
  | cons x l ih =>
    intro l' h
    cases l' with
    | nil => exact h.elim
    | cons y l' =>
      obtain ⟨h1, h2⟩ := h
      obtain ⟨q1, q2⟩ := ih h2
      refine ⟨by simp [q1], fun i a b p1 p2 => ?_⟩
      cases i with
      | zero => simp at p1 p2; subst p1; subst p2; exact h1
      | succ i => exact q2 i a b (by simpa using p1) (by simpa using p2)

theorem entE_sound {σ : Env} {Φ ΦI : Phi} {σI : Env} (h : entE σ Φ ΦI σI) (hng : NoGd σI) {r β t} (ha : Agree r β σ t) : Agree r (newB β Φ ΦI) σI t := by
  intro k g sv hg
  have hgn := hng _ _ _ hg
  subst hgn
  clear hng
  induction σI with
  | nil => simp [Env.get] at hg
  | cons x rest ih =>
    obtain ⟨k', g', svI⟩ := x
    simp only [entE] at h
    split at h
    · rename_i sv0 hs
      rw [get_cons] at hg
      cases hb : Nat.beq k' k with
      | true =>
        obtain rfl := beq_of hb
        rw [hb] at hg
        simp only [cond_true, Option.some.injEq, Prod.mk.injEq] at hg
        obtain ⟨_, rfl⟩ := hg
        obtain ⟨v, h1, h2⟩ := ha k' none sv0 hs
        exact ⟨v, h1, svEnt_sound h.1 h2⟩
      | false => rw [hb] at hg; exact ih h.2 hg
    · exact h.elim

theorem entP_get {Φ ΦI : Phi} : ∀ {L : Phi}, entP Φ ΦI L → ∀ id chI, Phi.get L id = some chI →
    (∃ cs csI, Phi.get Φ id = some (.box cs) ∧ chI = .box csI ∧ svEntL Φ ΦI cs csI) ∨
    (∃ ch, Phi.get Φ id = some ch ∧ chI = ch ∧ ∀ cs, ch ≠ .box cs) ∨
    (∃ (sz : Nat) (rows : List (List SV)) (α : Type) (d : α) (enc : α → List SV) (l : List α), Phi.get Φ id = some (.ownl sz rows) ∧ chI = .own sz d enc l ∧ rows = l.map enc) ∨
    (Phi.get Φ id = none ∧ ∃ (sz : Nat) (α : Type) (d : α) (enc : α → List SV), chI = .own sz d enc []) ∨
    (Phi.get Φ id = none ∧ ∃ sz, chI = .ownl sz []) := by
  intro L
  induction L with
  | nil => intro _ id chI h; simp [Phi.get] at h
  | cons x rest ih =>
    obtain ⟨k, c⟩ := x
    intro h id chI hg
    have tail : entP Φ ΦI rest := by
      unfold entP at h
      split at h <;> first | exact h.2 | exact h.elim
    rw [phi_cons] at hg
    cases hb : Nat.beq k id with
    | false => rw [hb] at hg; exact ih tail id chI hg
    | true =>
      obtain rfl := beq_of hb
      rw [hb] at hg
      simp only [cond_true, Option.some.injEq] at hg
      subst hg
      unfold entP at h
      split at h
      · rename_i cs csI hp; exact .inl ⟨cs, csI, hp, rfl, h.1⟩
      · rename_i sz rows α sz' d enc l hp
        obtain ⟨⟨rfl, hr⟩, _⟩ := h
        exact .inr (.inr (.inl ⟨sz, rows, α, d, enc, l, hp, rfl, hr⟩))
      · rename_i ch hp hnb _
        obtain ⟨rfl, _⟩ := h
        refine .inr (.inl ⟨ch, hp, rfl, ?_⟩)
        intro cs hcs
        subst hcs
        exact hnb cs cs rfl rfl
      · rename_i α sz d enc l hp; obtain ⟨rfl, _⟩ := h; exact .inr (.inr (.inr (.inl ⟨hp, sz, α, d, enc, rfl⟩)))
      · rename_i sz rows hp; obtain ⟨rfl, _⟩ := h; exact .inr (.inr (.inr (.inr ⟨hp, sz, rfl⟩)))
      · exact h.elim

theorem ent_sat {B : Base} {e N r β σ Φ a w σI ΦI} (s : Sat B e N r β σ Φ a w) (h1 : entE σ Φ ΦI σI) (h2 : entP Φ ΦI ΦI) (hng : NoGd σI) :
    Sat B e N r (newB β Φ ΦI) σI ΦI a w := by
  have cases5 := entP_get h2
  have blk : ∀ id chI b, Phi.get ΦI id = some chI → chI.blk (newB β Φ ΦI id) = some b → ∃ ch, Phi.get Φ id = some ch ∧ ch.blk (β id) = some b := by
    intro id chI b hg hb
    rcases cases5 id chI hg with ⟨cs, csI, q1, q2, _⟩ | ⟨ch, q1, q2, _⟩ | ⟨sz, rows, α, d, enc, l, q1, q2, _⟩ | ⟨q1, sz, α, d, enc, q2⟩ | ⟨q1, sz, q2⟩
    · subst q2; rw [newB_old (hasId_of q1)] at hb; exact ⟨_, q1, by rw [← hb]; exact blk_box _⟩
    · subst q2; rw [newB_old (hasId_of q1)] at hb; exact ⟨_, q1, hb⟩
    · subst q2; rw [newB_old (hasId_of q1)] at hb; exact ⟨_, q1, by rw [← hb]; exact blk_ownl_own _⟩
    · subst q2
      rw [newB_new (by simp [hasId, q1]) (hasId_of hg)] at hb
      simp [Chunk.blk] at hb
    · subst q2
      rw [newB_new (by simp [hasId, q1]) (hasId_of hg)] at hb
      simp [Chunk.blk] at hb
  refine ⟨entE_sound h1 hng s.agree, ⟨s.mem.vis, fun id chI hg => ?_, fun id ch b q1 q2 => ?_, fun id id' ch ch' b q1 q1' q2 q2' => ?_⟩, s.G, s.le, ⟨s.hid.os, s.hid.tape, s.hid.output, s.hid.size, fun b hb p1 p2 => ?_⟩, s.defers, s.size⟩
  · rcases cases5 id chI hg with ⟨cs, csI, q1, q2, q3⟩ | ⟨ch, q1, q2, q3⟩ | ⟨sz, rows, α, d, enc, l, q1, q2, q3⟩ | ⟨q1, sz, α, d, enc, q2⟩ | ⟨q1, sz, q2⟩
    · subst q2
      rw [newB_old (hasId_of q1)]
      obtain ⟨hl, he⟩ := svEntL_sound q3
      have := s.mem.chs _ _ q1
      cases this with
      | box hx hw hsz hc =>
        refine .box hx hw (by rw [hsz, hl]) fun i sv v p1 p2 => ?_
        have hi : i < cs.length := by
          rw [hl]
          rcases Nat.lt_or_ge i csI.length with h | h
          · exact h
          · rw [List.getElem?_eq_none h] at p1; cases p1
        have hcs : cs[i]? = some cs[i] := List.getElem?_eq_getElem hi
        exact svEnt_sound (he i _ _ hcs p1) (hc i _ v hcs p2)
    · subst q2
      rw [newB_old (hasId_of q1)]
      exact (s.mem.chs _ _ q1).keep (Mem.le_refl r) (fun b _ => rfl) (fun cells he => (q3 cells he).elim)
    · subst q2
      rw [newB_old (hasId_of q1)]
      have := s.mem.chs _ _ q1
      cases this with
      | ownl hr => subst q3; exact .own hr
    · subst q2
      rw [newB_new (by simp [hasId, q1]) (hasId_of hg)]
      exact .own (.inl ⟨none, rfl, rfl⟩)
    · subst q2
      rw [newB_new (by simp [hasId, q1]) (hasId_of hg)]
      exact .ownl (.inl ⟨none, rfl, rfl⟩)
  · obtain ⟨ch0, p1, p2⟩ := blk _ _ _ q1 q2
    exact s.mem.sep _ _ _ p1 p2
  · obtain ⟨ch0, p1, p2⟩ := blk _ _ _ q1 q2
    obtain ⟨ch1, p1', p2'⟩ := blk _ _ _ q1' q2'
    exact s.mem.nod _ _ _ _ _ p1 p1' p2 p2'
  · obtain ⟨x1, x2, x3⟩ := s.hid.block b hb p1 p2
    refine ⟨x1, x2, fun id ch hg hb' => ?_⟩
    obtain ⟨ch0, y1, y2⟩ := blk _ _ _ hg hb'
    exact x3 _ _ y1 y2

/-! Code. -/

def Out (B : Base) (e : Entry) (N : Nat) (K : KT) (ex : Ex) (a : Act) (w : World) : Prop :=
  ∃ r β σ Φ n, K ex σ Φ n ∧ Sat B e N r β σ Φ a w ∧ NoGd σ
def QK (B : Base) (e : Entry) (N : Nat) (K : KT) : Exit → Act → World → Prop
  | .normal, a, w => Out B e N K .normal a w
  | .exit i, a, w => Out B e N K (.exit i) a w
  | .ret, a, w => Out B e N K .ret a w
  | _, _, _ => False

theorem near_drawn {r β Φ w} (m : MemSat r β Φ w) : Near r β Φ w { w with drawn := w.drawn + 1 } :=
  ⟨⟨m.vis, fun id ch h => (m.chs _ _ h).keep (Mem.le_refl r) (fun b _ => rfl) (fun _ _ _ _ _ _ h => h), m.sep, m.nod⟩, fun _ _ _ _ _ => rfl, ⟨rfl, rfl, rfl, Nat.le_refl _, fun b _ h1 h2 => ⟨rfl, h1, h2⟩⟩⟩

theorem vc_sound {B : Base} {e N} {L : List Nat} : ∀ (c : Code) (K : KT) (r : Mem) (β : Bind) (σ : Env) (Φ : Phi) (n : Nat) (a : Act) (w : World),
    vc B L c K σ Φ n → codeOk N c = true → Sat B e N r β σ Φ a w → NoGd σ → c.wp B.P (QK B e N K) a w := by
  intro c
  induction c with
  | skip => intro K r β σ Φ n a w h _ s hng; exact wp_skip ⟨r, β, σ, Φ, n, h, s, hng⟩
  | region id ops draw =>
    intro K r β σ Φ n a w h hok s hng
    obtain ⟨ops⟩ := ops
    simp only [codeOk, Bool.and_eq_true] at hok
    obtain ⟨h1, h2, h3, h4⟩ := hok
    have ok := regOk_of h1 h2 h3
    simp only [vc] at h
    have fin : ∀ r β σ Φ n a w, (purgeK L σ fun σ => K .normal σ Φ n) → Sat B e N r β σ Φ a w → QK B e N K .normal a w := by
      intro r β σ Φ n a w hk s'
      rw [purgeK_eq] at hk
      exact ⟨r, β, _, Φ, n, hk, s'.purge L, purge_noGd L σ⟩
    cases draw with
    | false =>
      refine wp_region_list ?_
      exact vcOps_sound ok (K := fun σ Φ n => purgeK L σ fun σ => K .normal σ Φ n) (Q := QK B e N K) (fun r β σ Φ n a w hk s' => fin r β σ Φ n a w hk s') ops [] rfl r β σ Φ n a w h s (hng.gdIn _)
    | true =>
      simp only [Bool.not_true, Bool.false_or] at h4
      refine wp_region_quiet (C := Near r β Φ w) B.mixed h4 (near_drawn s.mem) ?_
      refine vcOps_quiet ok (n := n) (w0 := w) (K := fun σ Φ n => purgeK L σ fun σ => K .normal σ Φ n) rfl (fun σ' a' hk s' w' hn => ?_) ops [] rfl σ a h s (hng.gdIn _)
      exact fin r β σ' Φ n a' w' hk ⟨s'.agree, hn.mem, s'.G, s'.le, s'.hid.trans hn.hid, s'.defers, s'.size⟩
  | seq x y ihx ihy =>
    intro K r β σ Φ n a w h hok s hng
    simp only [codeOk, Bool.and_eq_true] at hok
    simp only [vc] at h
    refine wp_seq (wp_mono (ihx _ r β σ Φ n a w h hok.1 s hng) fun ex a' w' hq => ?_)
    cases ex with
    | normal => obtain ⟨r', β', σ', Φ', n', hk, s', hng'⟩ := hq; exact ihy K r' β' σ' Φ' n' a' w' hk hok.2 s' hng'
    | exit i => exact hq
    | ret => exact hq
    | goto l => exact hq.elim
    | panic ch => exact hq.elim
    | outgrown => exact hq.elim
  | cond c x y ihx ihy =>
    intro K r β σ Φ n a w h hok s hng
    simp only [codeOk, Bool.and_eq_true] at hok
    simp only [vc] at h
    obtain ⟨sv, hk, hr⟩ := opK_sound h
    cases sv <;> simp only at hk
    rename_i b
    have hv := hr r β a _ (Sm.plain s.agree)
    generalize hq : a.eval c = v at hv
    cases hv
    exact wp_cond_split hq (fun hb => ihx K r β σ Φ n a w (hk.1 hb) hok.1 s hng) (fun hb => ihy K r β σ Φ n a w (hk.2 hb) hok.2 s hng)
  | block id c ih =>
    intro K r β σ Φ n a w h hok s hng
    simp only [codeOk] at hok
    simp only [vc] at h
    refine wp_block (wp_mono (ih _ r β σ Φ n a w h hok s hng) fun ex a' w' hq => ?_)
    cases ex with
    | normal => exact hq
    | exit i =>
      obtain ⟨r', β', σ', Φ', n', hk, s', hng'⟩ := hq
      simp only [Exit.inBlock]
      by_cases hi : i = id
      · subst hi
        rw [if_pos rfl]
        simp only [Nat.beq_refl, cond_true] at hk
        exact ⟨r', β', σ', Φ', n', hk, s', hng'⟩
      · rw [if_neg hi]
        simp only [nbeq_of hi, cond_false] at hk
        exact ⟨r', β', σ', Φ', n', hk, s', hng'⟩
    | ret => exact hq
    | goto l => exact hq.elim
    | panic ch => exact hq.elim
    | outgrown => exact hq.elim
  | loop c ih =>
    intro K r β σ Φ n a w h hok s hng
    simp only [codeOk] at hok
    simp only [vc] at h
    cases h with
    | mk U F m C μ a0 h0 he hr =>
      rename_i α
      have head : ∀ x, NoGd (purge L (updE (U x) σ)) := fun x => purge_noGd _ _
      refine wp_loop_ghost (fun k a' w' => ∃ x, C x ∧ μ x = k ∧ ∃ r' β', Sat B e N r' β' (purge L (updE (U x) σ)) (mergeF (F x) Φ) a' w') (μ a0) ?_ ?_
      · rw [headK_eq] at he
        exact ⟨a0, h0, rfl, r, _, ent_sat s he.1 he.2 (head a0)⟩
      · rintro k a' w' ⟨x, hx, rfl, r', β', s'⟩
        have hbody := hr x hx
        rw [headK_eq] at hbody
        refine wp_mono (ih _ r' β' _ _ m a' w' hbody hok s' (head x)) fun ex a'' w'' hq => ?_
        cases ex with
        | normal =>
          obtain ⟨r2, β2, σ2, Φ2, n2, ⟨⟨x', hx', hlt, hent⟩⟩, s2, hng2⟩ := hq
          rw [headK_eq] at hent
          exact ⟨μ x', hlt, x', hx', rfl, r2, _, ent_sat s2 hent.1 hent.2 (head x')⟩
        | exit i => exact hq
        | ret => exact hq
        | goto l => exact hq.elim
        | panic ch => exact hq.elim
        | outgrown => exact hq.elim
  | exit id => intro K r β σ Φ n a w h _ s hng; exact wp_exit ⟨r, β, σ, Φ, n, h, s, hng⟩
  | ret => intro K r β σ Φ n a w h _ s hng; exact wp_ret ⟨r, β, σ, Φ, n, h, s, hng⟩
  | scope c ih =>
    intro K r β σ Φ n a w h hok s hng
    simp only [codeOk] at hok
    simp only [vc] at h
    refine wp_scope_straight (wp_mono (ih K r β σ Φ n a w h hok s hng) fun ex a' w' hq => ?_)
    cases ex <;> first | exact hq | exact hq.elim
  | rangeFunc f ps x y _ _ => intro K r β σ Φ n a w h; exact h.elim
  | label l => intro K r β σ Φ n a w h; exact h.elim
  | goto l => intro K r β σ Φ n a w h; exact h.elim
  | refuse y => intro K r β σ Φ n a w h; exact h.elim

end Go.Vc
