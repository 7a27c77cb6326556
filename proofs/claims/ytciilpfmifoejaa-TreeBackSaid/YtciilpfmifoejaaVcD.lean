/- A part of the proof: lemmas and walks that the last text of the claim joins; no condition. -/
import Derived.Test.YtciilpfmifoejaaVcC
import Derived.OrdersIn
import Derived.Still
namespace Go.Vc
set_option autoImplicit false
set_option linter.unusedVariables false
set_option linter.unusedSimpArgs false

/-! Tables of names. -/
abbrev NN := List (Nat × Nat)
def lookF : NN → Nat → Option Nat
  | [], _ => none
  | (a, j) :: r, i => bif Nat.beq a i then some j else lookF r i
def lookB : NN → Nat → Option Nat
  | [], _ => none
  | (a, j) :: r, i => bif Nat.beq j i then some a else lookB r i
theorem lookK_sound {m : NN} {i : Nat} {K : Nat → Prop} (h : lookK m i K) : ∃ j, lookF m i = some j ∧ K j := by
  induction m with
  | nil => exact h.elim
  | cons x r ih =>
    obtain ⟨a, j⟩ := x
    simp only [lookK] at h
    simp only [lookF]
    cases hb : Nat.beq a i with
    | true => rw [hb] at h; exact ⟨j, rfl, h⟩
    | false => rw [hb] at h; exact ih h
theorem lookF_mem {m : NN} {i j : Nat} (h : lookF m i = some j) : (i, j) ∈ m := by
  induction m with
  | nil => cases h
  | cons x r ih =>
    obtain ⟨a, c⟩ := x
    simp only [lookF] at h
    cases hb : Nat.beq a i with
    | true => rw [hb] at h; simp at h; obtain rfl := beq_of hb; subst h; simp
    | false => rw [hb] at h; exact List.mem_cons_of_mem _ (ih h)
theorem lookB_mem {m : NN} {i j : Nat} (h : lookB m j = some i) : (i, j) ∈ m := by
  induction m with
  | nil => cases h
  | cons x r ih =>
    obtain ⟨a, c⟩ := x
    simp only [lookB] at h
    cases hb : Nat.beq c j with
    | true => rw [hb] at h; simp at h; obtain rfl := beq_of hb; subst h; simp
    | false => rw [hb] at h; exact List.mem_cons_of_mem _ (ih h)
theorem hasFst_iff {m : NN} {i : Nat} : hasFst m i = true ↔ ∃ j, (i, j) ∈ m := by
  induction m with
  | nil => simp [hasFst]
  | cons x r ih =>
    obtain ⟨a, c⟩ := x
    simp only [hasFst, Bool.or_eq_true, ih]
    constructor
    · rintro (h | ⟨j, h⟩)
      · obtain rfl := beq_of h; exact ⟨c, by simp⟩
      · exact ⟨j, by simp [h]⟩
    · rintro ⟨j, h⟩
      simp only [List.mem_cons, Prod.mk.injEq] at h
      rcases h with ⟨rfl, rfl⟩ | h
      · exact .inl (Nat.beq_refl _)
      · exact .inr ⟨j, h⟩
theorem hasSnd_iff {m : NN} {j : Nat} : hasSnd m j = true ↔ ∃ i, (i, j) ∈ m := by
  induction m with
  | nil => simp [hasSnd]
  | cons x r ih =>
    obtain ⟨a, c⟩ := x
    simp only [hasSnd, Bool.or_eq_true, ih]
    constructor
    · rintro (h | ⟨j, h⟩)
      · obtain rfl := beq_of h; exact ⟨a, by simp⟩
      · exact ⟨j, by simp [h]⟩
    · rintro ⟨i, h⟩
      simp only [List.mem_cons, Prod.mk.injEq] at h
      rcases h with ⟨rfl, rfl⟩ | h
      · exact .inl (Nat.beq_refl _)
      · exact .inr ⟨i, h⟩
theorem lookF_of {m : NN} (hn : nodupFst m = true) {i j : Nat} (h : (i, j) ∈ m) : lookF m i = some j := by
  induction m with
  | nil => cases h
  | cons x r ih =>
    obtain ⟨a, c⟩ := x
    simp only [nodupFst, Bool.and_eq_true, Bool.not_eq_true'] at hn
    simp only [List.mem_cons, Prod.mk.injEq] at h
    simp only [lookF]
    rcases h with ⟨rfl, rfl⟩ | h
    · rw [Nat.beq_refl]; rfl
    · have : a ≠ i := by
        rintro rfl
        have := hasFst_iff.2 ⟨j, h⟩
        rw [hn.1] at this; cases this
      rw [nbeq_of this]; exact ih hn.2 h
theorem lookB_of {m : NN} (hn : nodupSnd m = true) {i j : Nat} (h : (i, j) ∈ m) : lookB m j = some i := by
  induction m with
  | nil => cases h
  | cons x r ih =>
    obtain ⟨a, c⟩ := x
    simp only [nodupSnd, Bool.and_eq_true, Bool.not_eq_true'] at hn
    simp only [List.mem_cons, Prod.mk.injEq] at h
    simp only [lookB]
    rcases h with ⟨rfl, rfl⟩ | h
    · rw [Nat.beq_refl]; rfl
    · have : c ≠ j := by
        rintro rfl
        have := hasSnd_iff.2 ⟨i, h⟩
        rw [hn.1] at this; cases this
      rw [nbeq_of this]; exact ih hn.2 h
theorem nodupFst_app {P m : NN} (h : nodupFst (P ++ m) = true) : nodupFst m = true := by
  induction P with
  | nil => exact h
  | cons x r ih => obtain ⟨a, c⟩ := x; simp only [List.cons_append, nodupFst, Bool.and_eq_true] at h; exact ih h.2
theorem nodupSnd_app {P m : NN} (h : nodupSnd (P ++ m) = true) : nodupSnd m = true := by
  induction P with
  | nil => exact h
  | cons x r ih => obtain ⟨a, c⟩ := x; simp only [List.cons_append, nodupSnd, Bool.and_eq_true] at h; exact ih h.2
theorem swapK_sound {m : NN} : ∀ {K : NN → Prop}, swapK m K → ∃ M, K M ∧ ∀ i j, (j, i) ∈ M ↔ (i, j) ∈ m := by
  induction m with
  | nil => intro K h; exact ⟨[], h, fun i j => by simp⟩
  | cons x r ih =>
    obtain ⟨a, c⟩ := x
    intro K h
    obtain ⟨M, hk, hM⟩ := ih h
    refine ⟨_, hk, fun i j => ?_⟩
    simp only [List.mem_cons, Prod.mk.injEq, hM]
    constructor
    · rintro (⟨rfl, rfl⟩ | h)
      · exact .inl ⟨rfl, rfl⟩
      · exact .inr h
    · rintro (⟨rfl, rfl⟩ | h)
      · exact .inl ⟨rfl, rfl⟩
      · exact .inr h

/-! The same values, under other names. -/
def Rn (m : NN) (β β' : Bind) : Prop := ∀ i j, lookF m i = some j → β' j = β i
def RnR (m : NN) (x y : SV) : Prop := ∀ r β β' v, Rn m β β' → Rel r β x v → Rel r β' y v
theorem rn0_sound {m x} {K : SV → Prop} (h : rn0 m x K) : ∃ y, K y ∧ RnR m x y := by
  unfold rn0 at h
  split at h
  · obtain ⟨j, hj, h⟩ := lookK_sound h
    refine ⟨_, h, fun r β β' v hm hr => ?_⟩
    cases hr with
    | loc hb => exact .loc (by rw [hm _ _ hj]; exact hb)
  · obtain ⟨j, hj, h⟩ := lookK_sound h
    refine ⟨_, h, fun r β β' v hm hr => ?_⟩
    cases hr with
    | own hb => rw [← hm _ _ hj] at hb ⊢; exact .own hb
  · obtain ⟨j, hj, h⟩ := lookK_sound h
    refine ⟨_, h, fun r β β' v hm hr => ?_⟩
    cases hr with
    | oel hb => exact .oel (by rw [hm _ _ hj]; exact hb)
  · obtain ⟨j, hj, h⟩ := lookK_sound h
    refine ⟨_, h, fun r β β' v hm hr => ?_⟩
    cases hr with
    | mref hb => exact .mref (by rw [hm _ _ hj]; exact hb)
  · cases ho : SV.okIds (fun _ => false) x with
    | false => rw [ho] at h; exact h.elim
    | true => rw [ho] at h; exact ⟨x, h, fun r β β' v _ hr => hr.pure ho β'⟩
theorem rn0L_sound {m xs} {K : List SV → Prop} (h : rn0L m xs K) : ∃ ys, K ys ∧ ys.length = xs.length ∧ ∀ (i : Nat) y, ys[i]? = some y → ∃ x, xs[i]? = some x ∧ RnR m x y :=
  lift_list (D := rn0 m) (DL := rn0L m) (fun _ h => h) (fun _ _ _ h => h) (fun _ _ h => rn0_sound h) xs K h
theorem rn1_sound {m x} {K : SV → Prop} (h : rn1 m x K) : ∃ y, K y ∧ RnR m x y := by
  unfold rn1 at h
  split at h
  · obtain ⟨ys, hk, hl, hh⟩ := rn0L_sound h
    refine ⟨_, hk, fun r β β' v hm hr => ?_⟩
    obtain ⟨cs, rfl, hcs⟩ := hr.aggL_inv
    exact .aggL (relL_of hl hh (fun x y v hR hx => hR r β β' v hm hx) hcs)
  · obtain ⟨ys, hk, hl, hh⟩ := rn0L_sound h
    refine ⟨_, hk, fun r β β' v hm hr => ?_⟩
    obtain ⟨cs, rfl, hcs⟩ := hr.fnL_inv
    exact .fnL (relL_of hl hh (fun x y v hR hx => hR r β β' v hm hx) hcs)
  · exact rn0_sound h
theorem rn1L_sound {m xs} {K : List SV → Prop} (h : rn1L m xs K) : ∃ ys, K ys ∧ ys.length = xs.length ∧ ∀ (i : Nat) y, ys[i]? = some y → ∃ x, xs[i]? = some x ∧ RnR m x y :=
  lift_list (D := rn1 m) (DL := rn1L m) (fun _ h => h) (fun _ _ _ h => h) (fun _ _ h => rn1_sound h) xs K h
theorem rn2_sound {m x} {K : SV → Prop} (h : rn2 m x K) : ∃ y, K y ∧ RnR m x y := by
  unfold rn2 at h
  split at h
  · obtain ⟨ys, hk, hl, hh⟩ := rn1L_sound h
    refine ⟨_, hk, fun r β β' v hm hr => ?_⟩
    obtain ⟨cs, rfl, hcs⟩ := hr.tupL_inv
    exact .tupL (relL_of hl hh (fun x y v hR hx => hR r β β' v hm hx) hcs)
  · exact rn1_sound h
inductive RnC (m : NN) : Chunk → Chunk → Prop
  | same {c} (h : ∀ cs, c ≠ .box cs) : RnC m c c
  | box {cs cs'} (hl : cs'.length = cs.length) (h : ∀ (i : Nat) (y : SV), cs'[i]? = some y → ∃ x, cs[i]? = some x ∧ RnR m x y) : RnC m (.box cs) (.box cs')
theorem RnC.kind {m c c'} (h : RnC m c c') : c'.kind = c.kind := by cases h <;> rfl
theorem RnC.blk {m c c'} (h : RnC m c c') (x : Value) : c'.blk x = c.blk x := by
  cases h with
  | same => rfl
  | box => exact blk_box' _ _ _
theorem rnC_sound {m c} {K : Chunk → Prop} (h : rnC m c K) : ∃ c', K c' ∧ RnC m c c' := by
  cases c with
  | box cs => obtain ⟨ys, hk, hl, hh⟩ := rn1L_sound h; exact ⟨_, hk, .box hl hh⟩
  | own => exact ⟨_, h, .same (by intro cs h; cases h)⟩
  | iter => exact ⟨_, h, .same (by intro cs h; cases h)⟩
  | mp => exact ⟨_, h, .same (by intro cs h; cases h)⟩
  | ro => exact ⟨_, h, .same (by intro cs h; cases h)⟩
/-- a chunk, under another name, in another memory that has its block -/
theorem RnC.sat {m c c'} (h : RnC m c c') {r r' : Mem} (hle : r.le r') {β β' w w' x} (hm : Rn m β β') (hs : c.Sat r β w x) (hb : ∀ b, c.blk x = some b → w'.heap[b]? = w.heap[b]?) : c'.Sat r' β' w' x := by
  cases h with
  | same hnb => exact hs.keep hle hb (fun cells he => (hnb cells he).elim)
  | box hl hh =>
    cases hs with
    | box hx hw hlc hc =>
      refine .box hx (by rw [hb _ (by rw [hx]; rfl)]; exact hw) (by rw [hlc, hl]) fun i sv v p1 p2 => ?_
      obtain ⟨sv0, q1, q2⟩ := hh i sv p1
      exact q2 _ _ _ _ hm ((hc i sv0 v q1 p2).mono hle)

theorem subPK_sound {Φ : Phi} {m0 : NN} : ∀ {m : NN} {K : Phi → Prop}, subPK Φ m0 m K → ∃ Φc, K Φc ∧
    (∀ j ch, Phi.get Φc j = some ch → ∃ i ch0, (i, j) ∈ m ∧ Phi.get Φ i = some ch0 ∧ RnC m0 ch0 ch) ∧ (∀ i j, (i, j) ∈ m → ∃ ch, Phi.get Φc j = some ch) := by
  intro m
  induction m with
  | nil => intro K h; exact ⟨[], h, fun j ch h => by simp [Phi.get] at h, fun i j h => by cases h⟩
  | cons x r ih =>
    obtain ⟨a, c⟩ := x
    intro K h
    simp only [subPK] at h
    split at h
    · rename_i ch0 hg
      obtain ⟨ch, h, hc⟩ := rnC_sound h
      obtain ⟨Φc, hk, h1, h2⟩ := ih h
      refine ⟨_, hk, fun j ch' hj => ?_, fun i j hij => ?_⟩
      · rw [phi_cons] at hj
        cases hb : Nat.beq c j with
        | true => obtain rfl := beq_of hb; rw [hb] at hj; simp at hj; subst hj; exact ⟨a, ch0, by simp, hg, hc⟩
        | false =>
          rw [hb] at hj
          obtain ⟨i, c0, q1, q2, q3⟩ := h1 j ch' hj
          exact ⟨i, c0, by simp [q1], q2, q3⟩
      · rw [phi_cons]
        cases hb : Nat.beq c j with
        | true => exact ⟨ch, rfl⟩
        | false =>
          simp only [List.mem_cons, Prod.mk.injEq] at hij
          rcases hij with ⟨rfl, rfl⟩ | hij
          · rw [Nat.beq_refl] at hb; cases hb
          · exact h2 i j hij
    · exact h.elim

/-! Ids that may no longer be named. -/
theorem okIds_and {p q : Nat → Bool} : ∀ {sv : SV}, sv.okIds p = true → sv.okIds q = true → sv.okIds (fun i => p i && q i) = true := by
  intro sv
  refine SV.rec (motive_1 := fun sv => sv.okIds p = true → sv.okIds q = true → sv.okIds (fun i => p i && q i) = true) (motive_2 := fun _ => True) (motive_3 := fun l => SV.okIdsL p l = true → SV.okIdsL q l = true → SV.okIdsL (fun i => p i && q i) l = true)
    ?_ ?_ ?_ ?_ ?_ ?_ ?_ ?_ ?_ ?_ ?_ ?_ ?_ ?_ ?_ ?_ ?_ ?_ ?_ ?_ sv
  all_goals try (intros; trivial)
  all_goals try (intros; simp_all [SV.okIds, SV.okIdsL]; done)
theorem okIds_all : ∀ (sv : SV), sv.okIds (fun _ => true) = true := by
  intro sv
  refine SV.rec (motive_1 := fun sv => sv.okIds (fun _ => true) = true) (motive_2 := fun _ => True) (motive_3 := fun l => SV.okIdsL (fun _ => true) l = true)
    ?_ ?_ ?_ ?_ ?_ ?_ ?_ ?_ ?_ ?_ ?_ ?_ ?_ ?_ ?_ ?_ ?_ ?_ ?_ ?_ sv
  all_goals try (intros; trivial)
  all_goals try (intros; simp_all [SV.okIds, SV.okIdsL]; done)
theorem okIds_mono {p q : Nat → Bool} (hpq : ∀ i, p i = true → q i = true) : ∀ {sv : SV}, sv.okIds p = true → sv.okIds q = true := fun {sv} h => SV.okIds_mono hpq sv h
/-- it names none of these -/
def NoneOf (S : List Nat) (sv : SV) : Prop := ∀ i ∈ S, sv.okIds (fun k => !Nat.beq k i) = true
theorem NoneOf.ok {S : List Nat} {sv : SV} (h : NoneOf S sv) : sv.okIds (fun k => !memN k S) = true := by
  induction S with
  | nil =>
    exact okIds_mono (fun i _ => rfl) (okIds_all sv)
  | cons i S ih =>
    have h1 := h i (by simp)
    have h2 := ih (fun k hk => h k (by simp [hk]))
    refine okIds_mono (fun k hk => ?_) (okIds_and h1 h2)
    simp only [Bool.and_eq_true, Bool.not_eq_true'] at hk
    simp only [memN, Bool.not_eq_true', Bool.or_eq_false_iff]
    refine ⟨?_, hk.2⟩
    have := hk.1
    cases hq : Nat.beq i k with
    | false => rfl
    | true => obtain rfl := beq_of hq; rw [Nat.beq_refl] at this; cases this
theorem memN_iff {i : Nat} {l : List Nat} : memN i l = true ↔ i ∈ l := by
  induction l with
  | nil => simp [memN]
  | cons x r ih =>
    simp only [memN, Bool.or_eq_true, ih, List.mem_cons]
    constructor
    · rintro (h | h)
      · exact .inl (beq_of h).symm
      · exact .inr h
    · rintro (rfl | h)
      · exact .inl (Nat.beq_refl _)
      · exact .inr h
end Go.Vc

namespace Go.Vc
set_option autoImplicit false
set_option linter.unusedVariables false
set_option linter.unusedSimpArgs false

theorem reachK_sound {Φ : Phi} : ∀ {f : Nat} {todo : List Nat} {m : NN} {ns : List Nat} {K : NN → Prop}, reachK Φ f todo m ns K → ∃ m, K m
  | 0, _, _, _, _, h => h.elim
  | f + 1, [], m, _, K, h => ⟨m, h⟩
  | f + 1, i :: todo, m, ns, K, h => by
    simp only [reachK] at h
    have snoc : ∀ {x : Nat × Nat} {l : NN} {K : NN → Prop}, snocK x l K → ∃ l', K l' := by
      intro x l
      induction l with
      | nil => intro K h; exact ⟨_, h⟩
      | cons y r ih => intro K h; obtain ⟨l', h⟩ := ih h; exact ⟨_, h⟩
    cases hb : hasFst m i with
    | true => rw [hb] at h; exact reachK_sound h
    | false =>
      rw [hb] at h
      simp only [cond_false] at h
      split at h
      · exact h.elim
      · split at h
        · obtain ⟨_, h⟩ := snoc h; exact reachK_sound h
        · obtain ⟨_, h⟩ := snoc h; exact reachK_sound h
        · exact h.elim

/-- behind what is stale for these ids -/
def StV (S : List Nat) (sv sv' : SV) : Prop := sv' = .und ∨ (sv' = sv ∧ NoneOf S sv)
inductive StS (S : List Nat) : Chunk → Chunk → Prop
  | same {c} (h : ∀ cs, c ≠ .box cs) : StS S c c
  | box {cs cs'} (hl : cs'.length = cs.length) (h : ∀ (i : Nat) (sv' : SV), cs'[i]? = some sv' → ∃ sv, cs[i]? = some sv ∧ StV S sv sv') : StS S (.box cs) (.box cs')
theorem StS.kind {S c c'} (h : StS S c c') : c'.kind = c.kind := by cases h <;> rfl
theorem StS.blk {S c c'} (h : StS S c c') (x : Value) : c'.blk x = c.blk x := by
  cases h with
  | same => rfl
  | box => exact blk_box' _ _ _
theorem StS.refl (c : Chunk) : StS [] c c := by
  cases c with
  | box cs => exact .box rfl fun i sv' h => ⟨sv', h, .inr ⟨rfl, fun _ h => by cases h⟩⟩
  | _ => exact .same (by intro cs h; cases h)
theorem StV.cons {i S sv sv1 sv'} (h1 : Stale i sv sv1) (h2 : StV S sv1 sv') : StV (i :: S) sv sv' := by
  rcases h2 with rfl | ⟨rfl, h2⟩
  · exact .inl rfl
  · rcases h1 with rfl | ⟨rfl, h1⟩
    · exact .inl rfl
    · refine .inr ⟨rfl, fun k hk => ?_⟩
      cases hk with
      | head => exact h1
      | tail _ hk => exact h2 k hk
theorem StS.cons {i S c c1 c'} (h1 : StaleC i c c1) (h2 : StS S c1 c') : StS (i :: S) c c' := by
  cases h1 with
  | same hn =>
    cases h2 with
    | same => exact .same hn
    | box => exact absurd rfl (hn _)
  | box hl hh =>
    cases h2 with
    | same hn => exact absurd rfl (hn _)
    | box hl2 hh2 =>
      refine .box (hl2.trans hl) fun k sv' hk => ?_
      obtain ⟨sv1, q1, q2⟩ := hh2 k sv' hk
      obtain ⟨sv, p1, p2⟩ := hh k sv1 q1
      exact ⟨sv, p1, StV.cons p2 q2⟩

theorem staleMK_sound {Φ0 : Phi} : ∀ {m : NN} {σ : Env} {Φ : Phi} {K : Env → Phi → Prop}, staleMK Φ0 m σ Φ K →
    ∃ S σ' Φ', K σ' Φ' ∧ (∀ i j (τ : Ty) l, (i, j) ∈ m → Phi.get Φ0 i = some (.own τ l) → i ∈ S) ∧
      (∀ k g sv', Env.get σ' k = some (g, sv') → ∃ sv, Env.get σ k = some (g, sv) ∧ StV S sv sv') ∧
      (∀ j, (∀ c', Phi.get Φ' j = some c' → ∃ c, Phi.get Φ j = some c ∧ StS S c c') ∧ (∀ c, Phi.get Φ j = some c → ∃ c', Phi.get Φ' j = some c')) := by
  intro m
  induction m with
  | nil =>
    intro σ Φ K h
    exact ⟨[], σ, Φ, h, (fun i j τ l h => by cases h), fun k g sv' hk => ⟨sv', hk, .inr ⟨rfl, fun _ h => by cases h⟩⟩, fun j => ⟨fun c' h => ⟨c', h, .refl _⟩, fun c h => ⟨c, h⟩⟩⟩
  | cons x r ih =>
    obtain ⟨i, j0⟩ := x
    intro σ Φ K h
    simp only [staleMK] at h
    split at h
    · obtain ⟨σ1, h, hσ1⟩ := staleE_sound h
      obtain ⟨Φ1, h, hΦ1⟩ := staleP_sound h
      obtain ⟨S, σ', Φ', hk, h1, h2, h3⟩ := ih h
      refine ⟨i :: S, σ', Φ', hk, fun k j τ l hm hg => ?_, fun k g sv' hs => ?_, fun j => ⟨fun c' hj => ?_, fun c hj => ?_⟩⟩
      · simp only [List.mem_cons, Prod.mk.injEq] at hm
        rcases hm with ⟨rfl, rfl⟩ | hm
        · simp
        · exact List.mem_cons_of_mem _ (h1 k j τ l hm hg)
      · obtain ⟨sv1, q1, q2⟩ := h2 k g sv' hs
        obtain ⟨sv, p1, p2⟩ := hσ1 k g sv1 q1
        exact ⟨sv, p1, StV.cons p2 q2⟩
      · obtain ⟨c1, q1, q2⟩ := (h3 j).1 c' hj
        obtain ⟨c, p1, p2⟩ := (hΦ1 j).1 c1 q1
        exact ⟨c, p1, StS.cons p2 q2⟩
      · obtain ⟨c1, q1⟩ := (hΦ1 j).2 c hj
        exact (h3 j).2 c1 q1
    · rename_i hno
      obtain ⟨S, σ', Φ', hk, h1, h2, h3⟩ := ih h
      refine ⟨S, σ', Φ', hk, fun k j τ l hm hg => ?_, h2, h3⟩
      simp only [List.mem_cons, Prod.mk.injEq] at hm
      rcases hm with ⟨rfl, rfl⟩ | hm
      · exact absurd hg (hno τ l)
      · exact h1 k j τ l hm hg

theorem newMK_sound {σ : Env} {Φ : Phi} : ∀ {Φ' : Phi} {M : NN} {n : Nat} {K : NN → Nat → Prop}, newMK σ Φ Φ' M n K →
    ∃ P M' n', M' = P ++ M ∧ K M' n' ∧ (∀ j i, (j, i) ∈ P → freshE i σ = true ∧ freshP i Φ = true) ∧ (∀ j ch, Phi.get Φ' j = some ch → hasFst M' j = true) := by
  intro Φ'
  induction Φ' with
  | nil => intro M n K h; exact ⟨[], M, n, rfl, h, (fun j i h => by cases h), fun j ch h => by simp [Phi.get] at h⟩
  | cons x r ih =>
    obtain ⟨j0, c0⟩ := x
    intro M n K h
    simp only [newMK] at h
    have key : ∀ {M1 : NN} {P M' : NN}, M' = P ++ M1 → hasFst M1 j0 = true → (∀ j ch, Phi.get r j = some ch → hasFst M' j = true) → ∀ j ch, Phi.get ((j0, c0) :: r) j = some ch → hasFst M' j = true := by
      intro M1 P M' he hj hr j ch hg
      rw [phi_cons] at hg
      cases hb : Nat.beq j0 j with
      | true =>
        obtain rfl := beq_of hb
        obtain ⟨i, hi⟩ := hasFst_iff.1 hj
        exact hasFst_iff.2 ⟨i, by rw [he]; simp [hi]⟩
      | false => rw [hb] at hg; exact hr j ch hg
    cases hb : hasFst M j0 with
    | true =>
      rw [hb] at h
      obtain ⟨P, M', n', he, hk, h1, h2⟩ := ih h
      exact ⟨P, M', n', he, hk, h1, key he hb h2⟩
    | false =>
      rw [hb] at h
      simp only [cond_false] at h
      cases hc : (freshE n σ && (freshP n Φ && !hasSnd M n)) with
      | false => rw [hc] at h; exact h.elim
      | true =>
        rw [hc] at h
        simp only [Bool.and_eq_true] at hc
        obtain ⟨P, M', n', he, hk, h1, h2⟩ := ih h
        refine ⟨P ++ [(j0, n)], M', n', by rw [he]; simp, hk, fun j i hm => ?_, key he (hasFst_iff.2 ⟨n, by simp⟩) h2⟩
        simp only [List.mem_append, List.mem_singleton, Prod.mk.injEq] at hm
        rcases hm with hm | ⟨rfl, rfl⟩
        · exact h1 j i hm
        · exact ⟨hc.1, hc.2.1⟩

theorem backPK_sound {M : NN} (hn : nodupFst M = true) (hn2 : nodupSnd M = true) : ∀ {Φ' : Phi} {K : Phi → Prop}, backPK M Φ' K → ∃ Φb, K Φb ∧
    (∀ i ch, Phi.get Φb i = some ch → ∃ j ch', lookF M j = some i ∧ Phi.get Φ' j = some ch' ∧ RnC M ch' ch) ∧
    (∀ j ch', Phi.get Φ' j = some ch' → ∃ i ch, lookF M j = some i ∧ Phi.get Φb i = some ch ∧ RnC M ch' ch) := by
  intro Φ'
  induction Φ' with
  | nil => intro K h; exact ⟨[], h, fun i ch h => by simp [Phi.get] at h, fun j ch h => by simp [Phi.get] at h⟩
  | cons x r ih =>
    obtain ⟨j0, c0⟩ := x
    intro K h
    obtain ⟨i0, hj0, h⟩ := lookK_sound h
    obtain ⟨c1, h, hc⟩ := rnC_sound h
    obtain ⟨Φb, hk, h1, h2⟩ := ih h
    have inj : ∀ {j i}, lookF M j = some i → (j = j0 ↔ i = i0) := by
      intro j i hj
      constructor
      · rintro rfl; rw [hj0] at hj; cases hj; rfl
      · rintro rfl
        have a1 := lookB_of hn2 (lookF_mem hj)
        have a2 := lookB_of hn2 (lookF_mem hj0)
        rw [a1] at a2; cases a2; rfl
    refine ⟨_, hk, fun i ch hi => ?_, fun j ch' hj => ?_⟩
    · rw [phi_cons] at hi
      cases hb : Nat.beq i0 i with
      | true =>
        obtain rfl := beq_of hb
        rw [hb] at hi; simp at hi; subst hi
        exact ⟨j0, c0, hj0, by rw [phi_cons, Nat.beq_refl]; rfl, hc⟩
      | false =>
        rw [hb] at hi
        obtain ⟨j, ch', q1, q2, q3⟩ := h1 i ch hi
        refine ⟨j, ch', q1, ?_, q3⟩
        have : ¬ j = j0 := fun he => by
          have := (inj q1).1 he
          subst this; rw [Nat.beq_refl] at hb; cases hb
        rw [phi_cons, nbeq_of (fun he => this he.symm)]; exact q2
    · rw [phi_cons] at hj
      cases hb : Nat.beq j0 j with
      | true =>
        obtain rfl := beq_of hb
        rw [hb] at hj; simp at hj; subst hj
        exact ⟨i0, c1, hj0, by rw [phi_cons, Nat.beq_refl]; rfl, hc⟩
      | false =>
        rw [hb] at hj
        obtain ⟨i, ch, q1, q2, q3⟩ := h2 j ch' hj
        refine ⟨i, ch, q1, ?_, q3⟩
        have : ¬ i = i0 := fun he => by
          have := (inj q1).2 he
          subst this; rw [Nat.beq_refl] at hb; cases hb
        rw [phi_cons, nbeq_of (fun he => this he.symm)]; exact q2

theorem dropMK_sound {m : NN} : ∀ {Φ : Phi} {K : Phi → Prop}, dropMK m Φ K → ∃ Φr, K Φr ∧ ∀ i, Phi.get Φr i = bif hasFst m i then none else Phi.get Φ i := by
  intro Φ
  induction Φ with
  | nil => intro K h; exact ⟨[], h, fun i => by cases hasFst m i <;> rfl⟩
  | cons x r ih =>
    obtain ⟨k, c⟩ := x
    intro K h
    simp only [dropMK] at h
    cases hb : hasFst m k with
    | true =>
      rw [hb] at h
      obtain ⟨Φr, hk, hh⟩ := ih h
      refine ⟨Φr, hk, fun i => ?_⟩
      rw [hh, phi_cons]
      cases hq : Nat.beq k i with
      | true => obtain rfl := beq_of hq; rw [hb]; rfl
      | false => rfl
    | false =>
      rw [hb] at h
      obtain ⟨Φr, hk, hh⟩ := ih h
      refine ⟨_, hk, fun i => ?_⟩
      rw [phi_cons, phi_cons, hh]
      cases hq : Nat.beq k i with
      | true => obtain rfl := beq_of hq; rw [hb]; rfl
      | false => rfl
theorem appPK_eq (F R : Phi) : ∀ (K : Phi → Prop), appPK F R K = K (F ++ R) := by
  induction F with
  | nil => intro K; rfl
  | cons e F ih => intro K; show appPK F R _ = _; rw [ih]; rfl
theorem phi_app (F R : Phi) (id : Nat) : Phi.get (F ++ R) id = match Phi.get F id with | some c => some c | none => Phi.get R id := by
  induction F with
  | nil => rfl
  | cons x r ih =>
    obtain ⟨k, c⟩ := x
    rw [List.cons_append, phi_cons, phi_cons, ih]
    cases Nat.beq k id <;> rfl

theorem plainI0_keep {r r2 β sv v} (h : Rel r β sv v) (hp : sv.plainI0 = true) : Rel r2 β sv v := plainI0_rel h hp (fun _ _ => rfl)
theorem plainI1_keep {r r2 β sv v} (h : Rel r β sv v) (hp : sv.plainI1 = true) : Rel r2 β sv v := by
  by_cases hx : ∃ l, sv = .agg l
  · obtain ⟨l, rfl⟩ := hx
    obtain ⟨cs, rfl, hl⟩ := h.aggL_inv
    exact .aggL ⟨hl.1, fun i sv v q1 q2 => plainI0_keep (hl.2 i sv v q1 q2) (plainI0L_get hp i sv q1)⟩
  · have : sv.plainI0 = true := by cases sv <;> first | exact hp | exact (hx ⟨_, rfl⟩).elim
    exact plainI0_keep h this
theorem plainI_keep {r r2 β sv v} (h : Rel r β sv v) (hp : sv.plainI = true) : Rel r2 β sv v := by
  by_cases hx : ∃ l, sv = .tup l
  · obtain ⟨l, rfl⟩ := hx
    obtain ⟨cs, rfl, hl⟩ := h.tupL_inv
    exact .tupL ⟨hl.1, fun i sv v q1 q2 => plainI1_keep (hl.2 i sv v q1 q2) (plainI1L_get hp i sv q1)⟩
  · have : sv.plainI1 = true := by cases sv <;> first | exact hp | exact (hx ⟨_, rfl⟩).elim
    exact plainI1_keep h this
theorem own_plain_sat {r r2 β w x} {τ : Ty} {l : List τ.T} (h : Chunk.Sat r β w x (.own τ l)) (hp : τ.plain = true) : Chunk.Sat r2 β w x (.own τ l) := by
  cases h with
  | own h =>
    refine .own ?_
    rcases h with ⟨a, h1, h2⟩ | ⟨b, off, cap, c, T, fr, he, hc0, hw, h0, h1, h2, h3, h4, h4', h5⟩
    · exact .inl ⟨a, h1, h2⟩
    · refine .inr ⟨b, off, cap, c, T, fr, he, hc0, hw, h0, h1, h2, h3, h4, h4', fun i row j sv v q1 q2 q3 => ?_⟩
      have hi : i < l.length := by have := lt_len q1; simpa using this
      have e : row = τ.enc l[i] := by
        rw [List.getElem?_map, List.getElem?_eq_getElem hi] at q1
        simpa using q1.symm
      exact plain0_rel (h5 i row j sv v q1 q2 q3) (tyPlain_enc τ _ hp j sv (by rw [← e]; exact q2)) _ _
end Go.Vc

namespace Go.Vc
set_option autoImplicit false
set_option linter.unusedVariables false
set_option linter.unusedSimpArgs false

/-- what is known behind a call -/
structure After (B : Base) (e : Entry) (N : Nat) (a : Act) (σ : Env) (K : EK) (v : Value) (w' : World) : Prop where
  ex : ∃ sv σ' Φ2 n' r2 β2, K sv σ' Φ2 n' ∧ Rel r2 β2 sv v ∧ Sat B e N r2 β2 σ' Φ2 a w' ∧ ∀ D, GdIn D σ → GdIn D σ'

/-- behind a call that was handed the chunks of m, and lent those of q -/
theorem afterK_sound {B : Base} {e N a w} {m : NN} {res : SV} {Φ' : Phi} {σ : Env} {Φ : Phi} {n : Nat} {K : EK} (h : afterK m res Φ' σ Φ n K) {r β} (s : Sat B e N r β σ Φ a w)
    {q : Nat → Bool} (hq : ∀ i, q i = true → hasFst m i = false) {Φc : Phi}
    (hc1 : ∀ j ch, Phi.get Φc j = some ch → ∃ i ch0, (i, j) ∈ m ∧ Phi.get Φ i = some ch0 ∧ RnC m ch0 ch) (hc2 : ∀ i j, (i, j) ∈ m → ∃ ch, Phi.get Φc j = some ch) :
    ∃ βc, Rn m β βc ∧ MemSat (frz q r β Φ w) βc Φc w ∧ ∀ {r' βc' w' v} {r2 : Mem}, MemSat r' βc' Φ' w' → (frz q r β Φ w).le r' → Hid (frz q r β Φ w) βc Φc w r' βc' Φ' w' →
      r.le r2 → r2.le r' → (∀ id ch b, q id = true → Phi.get Φ id = some ch → ch.kind = 0 → ch.blk (β id) = some b → r2 b = none) → Rel r2 βc' res v →
      (∀ j ch, Phi.get Φ' j = some ch → ch.Sat r2 βc' w' (βc' j)) → After B e N a σ K v w' := by
  unfold afterK at h
  obtain ⟨S, σ', Φ1, h, hS, hσ, hΦ1⟩ := staleMK_sound h
  obtain ⟨M0, h, hM0⟩ := swapK_sound h
  obtain ⟨P, M, n', hM, h, hP, hall⟩ := newMK_sound h
  cases hnd : (nodupFst M && nodupSnd M) with
  | false => rw [hnd] at h; exact h.elim
  | true =>
  rw [hnd] at h
  simp only [cond_true] at h
  simp only [Bool.and_eq_true] at hnd
  obtain ⟨hn1, hn2⟩ := hnd
  have hn1' : nodupFst M0 = true := nodupFst_app (hM ▸ hn1)
  have hn2' : nodupSnd M0 = true := nodupSnd_app (hM ▸ hn2)
  obtain ⟨res', h, hres⟩ := rn2_sound h
  obtain ⟨Φb, h, hb1, hb2⟩ := backPK_sound hn1 hn2 h
  obtain ⟨Φr, h, hr1⟩ := dropMK_sound h
  rw [appPK_eq] at h
  obtain ⟨βc, hβc⟩ : ∃ βc : Bind, βc = fun j => match lookF M0 j with | some i => β i | none => .nilIface := ⟨_, rfl⟩
  have hmem : ∀ {i j}, (i, j) ∈ m → βc j = β i := by
    intro i j hij
    have := lookF_of hn1' ((hM0 i j).2 hij)
    rw [hβc]; simp only [this]
  have uniq : ∀ {i j j'}, (i, j) ∈ m → (i, j') ∈ m → j = j' := by
    intro i j j' h1 h2
    have a1 := lookB_of hn2' ((hM0 i j).2 h1)
    have a2 := lookB_of hn2' ((hM0 i j').2 h2)
    rw [a1] at a2; cases a2; rfl
  have hrn : Rn m β βc := fun i j hij => hmem (lookF_mem hij)
  have hcB : ∀ j ch b, Phi.get Φc j = some ch → ch.blk (βc j) = some b → ∃ i ch0, (i, j) ∈ m ∧ Phi.get Φ i = some ch0 ∧ ch0.blk (β i) = some b := by
    intro j ch b h1 h2
    obtain ⟨i, ch0, g1, g2, g3⟩ := hc1 j ch h1
    rw [hmem g1, g3.blk] at h2
    exact ⟨i, ch0, g1, g2, h2⟩
  have notq : ∀ {i j}, (i, j) ∈ m → q i = false := by
    intro i j hij
    cases hqi : q i with
    | false => rfl
    | true =>
      have := hq i hqi
      rw [hasFst_iff.2 ⟨j, hij⟩] at this; cases this
  have frzn : ∀ {i j ch0 b}, (i, j) ∈ m → Phi.get Φ i = some ch0 → ch0.blk (β i) = some b → frz q r β Φ w b = none := by
    intro i j ch0 b h1 h2 h3
    rw [frz_not, s.mem.sep _ _ _ h2 h3]
    intro id ch q1 q2 _ q4
    have := s.mem.nod _ _ _ _ _ q2 h2 q4 h3
    subst this
    rw [notq h1] at q1; cases q1
  have mc : MemSat (frz q r β Φ w) βc Φc w := by
    refine ⟨frz_vis s.mem, fun j ch hj => ?_, fun j ch b hj hb => ?_, fun j j' ch ch' b hj hj' hb hb' => ?_⟩
    · obtain ⟨i, ch0, g1, g2, g3⟩ := hc1 j ch hj
      rw [hmem g1]
      exact g3.sat (frz_le s.mem) hrn (s.mem.chs _ _ g2) (fun _ _ => rfl)
    · obtain ⟨i, ch0, g1, g2, g3⟩ := hcB j ch b hj hb
      exact frzn g1 g2 g3
    · obtain ⟨i, ch0, g1, g2, g3⟩ := hcB j ch b hj hb
      obtain ⟨i', ch0', g1', g2', g3'⟩ := hcB j' ch' b hj' hb'
      have := s.mem.nod _ _ _ _ _ g2 g2' g3 g3'
      subst this
      exact uniq g1 g1'
  refine ⟨βc, hrn, mc, fun {r' βc' w' v r2} m' hle hid h1 h2 h3 hv hch => ?_⟩
  obtain ⟨β2, hβ2⟩ : ∃ β2 : Bind, β2 = fun i => match lookB M i with | some j => βc' j | none => β i := ⟨_, rfl⟩
  have F1 : ∀ {i j}, lookF M j = some i → β2 i = βc' j := by
    intro i j hij
    have := lookB_of hn2 (lookF_mem hij)
    rw [hβ2]; simp only [this]
  have inM : ∀ {i j}, (i, j) ∈ m → (j, i) ∈ M := by
    intro i j hij; rw [hM]; exact List.mem_append_right _ ((hM0 i j).2 hij)
  have F2 : ∀ {i j ch}, (i, j) ∈ m → Phi.get Φ i = some ch → ch.kind ≠ 0 → β2 i = β i ∧ ∃ ch', Phi.get Φ' j = some ch' ∧ ch'.kind = ch.kind := by
    intro i j ch hij hg hk
    obtain ⟨c, hc⟩ := hc2 i j hij
    obtain ⟨i', ch0, g1, g2, g3⟩ := hc1 j c hc
    have : i' = i := by
      have a1 := lookF_of hn1' ((hM0 i' j).2 g1)
      have a2 := lookF_of hn1' ((hM0 i j).2 hij)
      rw [a1] at a2; cases a2; rfl
    subst this
    rw [hg] at g2; cases g2
    obtain ⟨k1, ch', k2, k3⟩ := hid.keep j c hc (by rw [g3.kind]; exact hk)
    refine ⟨?_, ch', k2, k3.trans g3.kind⟩
    rw [F1 (lookF_of hn1 (inM hij)), k1, hmem hij]
  have mget : ∀ {i j}, (i, j) ∈ m → ∃ ch, Phi.get Φ i = some ch := by
    intro i j hij
    obtain ⟨c, hc⟩ := hc2 i j hij
    obtain ⟨i', ch0, g1, g2, g3⟩ := hc1 j c hc
    have : i' = i := by
      have a1 := lookF_of hn1' ((hM0 i' j).2 g1)
      have a2 := lookF_of hn1' ((hM0 i j).2 hij)
      rw [a1] at a2; cases a2; rfl
    subst this
    exact ⟨ch0, g2⟩
  have F4 : ∀ {sv v}, NoneOf (S ++ P.map (·.2)) sv → Rel r β sv v → Rel r2 β2 sv v := by
    intro sv v hn hr
    refine (hr.bind (p := fun k => !memN k (S ++ P.map (·.2))) (fun k hk => ?_) hn.ok).mono h1
    simp only [Bool.not_eq_true'] at hk
    have hk' : k ∉ S ++ P.map (·.2) := fun hm => by rw [memN_iff.2 hm] at hk; cases hk
    rw [List.mem_append, not_or] at hk'
    cases hl : lookB M k with
    | none => rw [hβ2]; simp only [hl]
    | some j =>
      have hmM := lookB_mem hl
      rw [hM, List.mem_append] at hmM
      rcases hmM with hmM | hmM
      · exact absurd (List.mem_map.2 ⟨(j, k), hmM, rfl⟩) hk'.2
      · have hkm := (hM0 k j).1 hmM
        obtain ⟨ch, hg⟩ := mget hkm
        refine (F2 hkm hg fun h0 => ?_).1
        cases ch with
        | own τ l => exact hk'.1 (hS k j τ l hkm hg)
        | _ => cases h0
  obtain ⟨g1, g2, g3⟩ := back (I := fun i => ∃ j, (i, j) ∈ m) s.mem (fun j ch b p1 p2 => by
    obtain ⟨i, ch0, q1, q2, q3⟩ := hcB j ch b p1 p2
    exact ⟨i, ch0, ⟨j, q1⟩, q2, q3⟩) (fun i ⟨j, hj⟩ => notq hj) hle m' hid r2 h2 h3
  have get : ∀ i ch, Phi.get (Φb ++ Φr) i = some ch → (∃ j ch', lookF M j = some i ∧ Phi.get Φ' j = some ch' ∧ RnC M ch' ch ∧ β2 i = βc' j) ∨
      (¬ (∃ j, (i, j) ∈ m) ∧ β2 i = β i ∧ Phi.get Φ1 i = some ch ∧ ∃ c, Phi.get Φ i = some c ∧ StS S c ch) := by
    intro i ch hi
    rw [phi_app] at hi
    cases hq : Phi.get Φb i with
    | some c =>
      rw [hq] at hi; cases hi
      obtain ⟨j, ch', q1, q2, q3⟩ := hb1 i ch hq
      exact .inl ⟨j, ch', q1, q2, q3, F1 q1⟩
    | none =>
      rw [hq] at hi
      simp only [hr1] at hi
      cases hf : hasFst m i with
      | true => rw [hf] at hi; cases hi
      | false =>
        rw [hf] at hi
        have hnm : ¬ ∃ j, (i, j) ∈ m := fun hj => by rw [hasFst_iff.2 hj] at hf; cases hf
        refine .inr ⟨hnm, ?_, hi, (hΦ1 i).1 ch hi⟩
        cases hl : lookB M i with
        | none => rw [hβ2]; simp only [hl]
        | some j =>
          exfalso
          have hmM := lookB_mem hl
          rw [hM, List.mem_append] at hmM
          rcases hmM with hmM | hmM
          · exact (freshP_get (hP j i hmM).2 i ch hi).1 rfl
          · exact hnm ⟨j, (hM0 i j).1 hmM⟩
  have hrnM : Rn M βc' β2 := fun j i hji => F1 hji
  refine ⟨res', σ', Φb ++ Φr, n', r2, β2, h, hres _ _ _ _ hrnM hv, ?_, fun D hD k s0 w0 sv0 hk0 => ?_⟩
  · refine s.step (s.agree.of fun k g sv' hk => ?_) ?_ h1 ?_
    · obtain ⟨sv, q1, q2⟩ := hσ k g sv' hk
      refine ⟨sv, q1, fun v hr => ?_⟩
      rcases q2 with rfl | ⟨rfl, q2⟩
      · exact .und
      · refine F4 (fun i hi => ?_) hr
        rw [List.mem_append] at hi
        rcases hi with hi | hi
        · exact q2 i hi
        · obtain ⟨⟨j, i'⟩, hji, rfl⟩ := List.mem_map.1 hi
          exact freshE_get (hP j i' hji).1 k g sv' hk
    · refine ⟨g2, fun i ch hi => ?_, fun i ch b hi hb => ?_, fun i i' ch ch' b hi hi' hb hb' => ?_⟩
      · rcases get i ch hi with ⟨j, ch', q1, q2, q3, q4⟩ | ⟨hnm, q1, q2, c, q3, q4⟩
        · rw [q4]
          exact q3.sat (Mem.le_refl r2) hrnM (hch j ch' q2) (fun _ _ => rfl)
        · rw [q1]
          have hs := s.mem.chs _ _ q3
          have hkeep : ∀ b, c.blk (β i) = some b → w'.heap[b]? = w.heap[b]? := fun b hb => (g1 i c b hnm q3 hb).1
          cases q4 with
          | same hnb => exact hs.keep h1 hkeep (fun cells he => (hnb cells he).elim)
          | box hl hh =>
            cases hs with
            | box hx hw hlc hcc =>
              rename_i cs cs' bb cc T
              refine .box hx (by rw [hkeep _ (by rw [hx]; rfl)]; exact hw) (by rw [hlc, hl]) fun k sv v p1 p2 => ?_
              obtain ⟨sv0, a1, a2⟩ := hh k sv p1
              rcases a2 with rfl | ⟨rfl, a2⟩
              · exact .und
              · refine F4 (fun i0 hi0 => ?_) (hcc k sv v a1 p2)
                rw [List.mem_append] at hi0
                rcases hi0 with hi0 | hi0
                · exact a2 i0 hi0
                · obtain ⟨⟨j, i'⟩, hji, rfl⟩ := List.mem_map.1 hi0
                  have := (freshP_get (hP j i' hji).2 i _ q2).2
                  exact SV.okIdsL_get this k sv p1
      · rcases get i ch hi with ⟨j, ch', q1, q2, q3, q4⟩ | ⟨hnm, q1, q2, c, q3, q4⟩
        · rw [q4, q3.blk] at hb
          have := m'.sep _ _ _ q2 hb
          cases hq : r2 b with
          | none => rfl
          | some o => rw [h2 b o hq] at this; cases this
        · rw [q1, q4.blk] at hb
          exact (g1 i c b hnm q3 hb).2.1
      · rcases get i ch hi with ⟨j, cj, q1, q2, q3, q4⟩ | ⟨hnm, q1, q2, c, q3, q4⟩ <;> rcases get i' ch' hi' with ⟨j', cj', q1', q2', q3', q4'⟩ | ⟨hnm', q1', q2', c', q3', q4'⟩
        · rw [q4, q3.blk] at hb
          rw [q4', q3'.blk] at hb'
          have := m'.nod _ _ _ _ _ q2 q2' hb hb'
          subst this
          rw [q1] at q1'; cases q1'; rfl
        · rw [q4, q3.blk] at hb
          rw [q1', q4'.blk] at hb'
          exact ((g1 i' c' b hnm' q3' hb').2.2 j cj q2 hb).elim
        · rw [q1, q4.blk] at hb
          rw [q4', q3'.blk] at hb'
          exact ((g1 i c b hnm q3 hb).2.2 j' cj' q2' hb').elim
        · rw [q1, q4.blk] at hb
          rw [q1', q4'.blk] at hb'
          exact s.mem.nod _ _ _ _ _ q3 q3' hb hb'
    · refine ⟨hid.os, hid.tape, hid.output, hid.size, fun b hb p1 p2 => ?_, fun i ch hi hk => ?_⟩
      · obtain ⟨a1, a2, a3⟩ := g3 b hb p1 p2
        refine ⟨a1, a2, fun i ch hi hcb => ?_⟩
        rcases get i ch hi with ⟨j, ch', q1, q2, q3, q4⟩ | ⟨hnm, q1, q2, c, q3, q4⟩
        · rw [q4, q3.blk] at hcb
          exact a3 j ch' q2 hcb
        · rw [q1, q4.blk] at hcb
          exact p2 i c q3 hcb
      · cases hf : hasFst m i with
        | true =>
          obtain ⟨j, hij⟩ := hasFst_iff.1 hf
          obtain ⟨k1, ch', k2, k3⟩ := F2 hij hi hk
          obtain ⟨i', ch2, q1, q2, q3⟩ := hb2 j ch' k2
          have : i' = i := by
            have := lookF_of hn1 (inM hij)
            rw [this] at q1; cases q1; rfl
          subst this
          exact ⟨k1, ch2, by rw [phi_app, q2], q3.kind.trans k3⟩
        | false =>
          have hnm : ¬ ∃ j, (i, j) ∈ m := fun hj => by rw [hasFst_iff.2 hj] at hf; cases hf
          obtain ⟨c1, hc1'⟩ := (hΦ1 i).2 ch hi
          obtain ⟨c0, p1, p2⟩ := (hΦ1 i).1 c1 hc1'
          rw [hi] at p1; cases p1
          have hnl : lookB M i = none := by
            cases hl : lookB M i with
            | none => rfl
            | some j =>
              exfalso
              have hmM := lookB_mem hl
              rw [hM, List.mem_append] at hmM
              rcases hmM with hmM | hmM
              · exact (freshP_get (hP j i hmM).2 i c1 hc1').1 rfl
              · exact hnm ⟨j, (hM0 i j).1 hmM⟩
          have hnb : Phi.get Φb i = none := by
            cases hq : Phi.get Φb i with
            | none => rfl
            | some c =>
              obtain ⟨j, ch', q1, _, _⟩ := hb1 i c hq
              have := lookB_of hn2 (lookF_mem q1)
              rw [hnl] at this; cases this
          refine ⟨by rw [hβ2]; simp only [hnl], c1, ?_, p2.kind⟩
          rw [phi_app, hnb]
          simp only [hr1, hf, cond_false]
          exact hc1'
  · obtain ⟨sv1, q1, _⟩ := hσ k _ _ hk0
    exact hD _ _ _ _ q1
end Go.Vc

namespace Go.Vc
set_option autoImplicit false
set_option linter.unusedVariables false
set_option linter.unusedSimpArgs false

theorem mem_own0L {id : Nat} {l : List SV} {r : List Nat} : id ∈ own0L l r ↔ (SV.own id ∈ l ∨ id ∈ r) := by
  induction l with
  | nil => simp [own0L]
  | cons x xs ih =>
    simp only [own0L, List.mem_cons]
    by_cases hx : ∃ i, x = .own i
    · obtain ⟨i, rfl⟩ := hx
      simp only [own0, List.mem_cons, ih, SV.own.injEq]
      constructor
      · rintro (h | h | h)
        · exact .inl (.inl h)
        · exact .inl (.inr h)
        · exact .inr h
      · rintro ((h | h) | h)
        · exact .inl h
        · exact .inr (.inl h)
        · exact .inr (.inr h)
    · have e : own0 x (own0L xs r) = own0L xs r := by cases x <;> first | rfl | exact (hx ⟨_, rfl⟩).elim
      rw [e, ih]
      constructor
      · rintro (h | h)
        · exact .inl (.inr h)
        · exact .inr h
      · rintro ((h | h) | h)
        · exact (hx ⟨id, h.symm⟩).elim
        · exact .inl h
        · exact .inr h
theorem own1L_cons {id : Nat} {x : SV} {xs : List SV} : (id ∈ own1L xs → id ∈ own1L (x :: xs)) ∧ (x = .own id → id ∈ own1L (x :: xs)) ∧ (∀ l, x = .agg l → SV.own id ∈ l → id ∈ own1L (x :: xs)) := by
  by_cases hx : ∃ l, x = .agg l
  · obtain ⟨l, rfl⟩ := hx
    refine ⟨fun h => mem_own0L.2 (.inr h), (fun h => by cases h), fun l' h hm => ?_⟩
    cases h; exact mem_own0L.2 (.inl hm)
  · have e : own1L (x :: xs) = own0 x (own1L xs) := by cases x <;> first | rfl | exact (hx ⟨_, rfl⟩).elim
    rw [e]
    refine ⟨fun h => ?_, fun h => by subst h; simp [own0], fun l h => (hx ⟨l, h⟩).elim⟩
    cases x <;> first | exact h | (simp [own0, h])

theorem ln0_q {Φ : Phi} {x : SV} {K : SV → Prop} (h : ln0 Φ x K) : ∃ y, K y ∧ ∀ q r β w v, (∀ id, x = .own id → q id = true) → MemSat r β Φ w → Rel r β x v → Rel (frz q r β Φ w) β y v := by
  by_cases hx : ∃ id, x = .own id
  · obtain ⟨id, rfl⟩ := hx
    simp only [ln0] at h
    split at h
    · rename_i τ l hg
      refine ⟨_, h, fun q r β w v hq m hr => ?_⟩
      cases hr
      exact own_frz m (hq id rfl) hg β
    · exact h.elim
  · have h' : K x := by cases x <;> first | exact h | exact (hx ⟨_, rfl⟩).elim
    exact ⟨x, h', fun q r β w v _ m hr => hr.mono (frz_le m)⟩
theorem lendK_q {Φ : Phi} : ∀ {xs : List SV} {K : List SV → Prop}, lendK Φ xs K → ∃ ys, K ys ∧ ∀ q r β w vs, (∀ id ∈ own1L xs, q id = true) → MemSat r β Φ w → RelL r β xs vs → RelL (frz q r β Φ w) β ys vs := by
  intro xs
  induction xs with
  | nil => intro K h; exact ⟨[], h, fun q r β w vs _ m hv => by rw [hv.nil_inv]; exact .nil⟩
  | cons x xs ih =>
    intro K h
    have h : ln1 Φ x fun y => lendK Φ xs fun l => K (y :: l) := h
    have one : ∃ y, (lendK Φ xs fun l => K (y :: l)) ∧ ∀ q r β w v, (∀ id ∈ own1L (x :: xs), q id = true) → MemSat r β Φ w → Rel r β x v → Rel (frz q r β Φ w) β y v := by
      by_cases hx : ∃ l, x = .agg l
      · obtain ⟨l, rfl⟩ := hx
        obtain ⟨ys, hk, hl, hh⟩ := lift_list (D := ln0 Φ) (DL := ln0L Φ) (R := fun x y => ∀ q r β w v, (∀ id, x = .own id → q id = true) → MemSat r β Φ w → Rel r β x v → Rel (frz q r β Φ w) β y v) (fun _ h => h) (fun _ _ _ h => h) (fun _ _ h => ln0_q h) l _ h
        refine ⟨_, hk, fun q r β w v hq m hv => ?_⟩
        obtain ⟨cs, rfl, hcs⟩ := hv.aggL_inv
        refine .aggL ⟨by rw [hcs.1, hl], fun i y v q1 q2 => ?_⟩
        obtain ⟨x0, p1, p2⟩ := hh i y q1
        exact p2 q r β w v (fun id he => hq id (own1L_cons.2.2 l rfl (by rw [← he]; exact List.mem_of_getElem? p1))) m (hcs.2 i x0 v p1 q2)
      · have h' : ln0 Φ x fun y => lendK Φ xs fun l => K (y :: l) := by cases x <;> first | exact h | exact (hx ⟨_, rfl⟩).elim
        obtain ⟨y, hk, hr⟩ := ln0_q h'
        exact ⟨y, hk, fun q r β w v hq m hv => hr q r β w v (fun id he => hq id (own1L_cons.2.1 he)) m hv⟩
    obtain ⟨y, h, hy⟩ := one
    obtain ⟨ys, hk, hys⟩ := ih h
    refine ⟨_, hk, fun q r β w vs hq m hv => ?_⟩
    obtain ⟨v, us, rfl, hv1, hv2⟩ := hv.uncons
    exact RelL.cons (hy q r β w v hq m hv1) (hys q r β w us (fun id hi => hq id (own1L_cons.1 hi)) m hv2)

theorem lentOk_spec {m : NN} {l : List Nat} (h : lentOk m l = true) : ∀ i, memN i l = true → hasFst m i = false := by
  induction l with
  | nil => intro i hi; cases hi
  | cons x r ih =>
    simp only [lentOk, Bool.and_eq_true, Bool.not_eq_true'] at h
    intro i hi
    simp only [memN, Bool.or_eq_true] at hi
    rcases hi with hi | hi
    · rw [← beq_of hi]; exact h.1
    · exact ih h.2 i hi

theorem callMK_sound {B : Base} {e N a w f args lent σ Φ n} {K : EK} (h : callMK B f args lent σ Φ n K) {r β} (s : Sat B e N r β σ Φ a w) {vs : List Value}
    (hargs : RelL (frz (fun i => memN i lent) r β Φ w) β args vs) :
    (∀ w, (callFunc f vs.toArray).run B.P w = .ok (.enter f vs.toArray) w) ∧ Calls B.P f vs.toArray w fun ev w' => ∃ v, ev = .returned v ∧ After B e N a σ K v w' := by
  obtain ⟨m, h⟩ := reachK_sound h
  obtain ⟨cargs, h, hl, hh⟩ := rn1L_sound h
  obtain ⟨Φc, h, hc1, hc2⟩ := subPK_sound h
  cases h with
  | mk hlt hp k =>
    rename_i pre res Φ' fn
    simp only [Bool.and_eq_true] at hlt
    obtain ⟨hlt, hpl⟩ := hlt
    obtain ⟨βc, hrn, mc, fin⟩ := afterK_sound k s (lentOk_spec hlt) hc1 hc2
    refine ⟨fun w => fn.call _ w, ?_⟩
    refine (fn.ok hp.h _ βc w vs (B.mono _ _ (frz_le s.mem) s.G) mc (relL_of hl hh (fun x y v hR hx => hR _ _ _ _ hrn hx) hargs)).mono ?_
    rintro ev w' ⟨v, sv, r', βc', Φ1, he, ⟨rfl, rfl⟩, hr, m', hle, hid⟩
    refine ⟨v, he, ?_⟩
    cases lent with
    | nil =>
      have hz : frz (fun i => memN i []) r β Φ w = r := frz_none
      exact fin m' hle hid (by rw [hz] at hle; exact hle) (Mem.le_refl r') (fun _ _ _ h => by cases h) hr (fun j ch hj => m'.chs _ _ hj)
    | cons x l =>
      have hpl : (SV.plainI sv && plainP Φ1) = true := hpl
      simp only [Bool.and_eq_true] at hpl
      refine fin (r2 := fun b => if b < w.heap.size then r b else r' b) m' hle hid (fun b o hb => ?_) (fun b o hb => ?_) (fun id ch b _ p1 _ p3 => ?_) (plainI_keep hr hpl.1) (fun j ch hj => ?_)
      · have := lt_of_get (s.mem.vis _ _ hb)
        simp only [this, if_true]; exact hb
      · simp only at hb
        split at hb
        · exact hle _ _ (frz_le s.mem _ _ hb)
        · exact hb
      · simp only [blk_lt s.mem p1 p3, if_true]
        exact s.mem.sep _ _ _ p1 p3
      · obtain ⟨τ, l, rfl, hτ⟩ := plainP_get hpl.2 hj
        exact own_plain_sat (m'.chs _ _ hj) hτ

/-- the same rows, lent or not -/
inductive RoEq : Chunk → Chunk → Prop
  | same (c) : RoEq c c
  | lend (τ) (l : List (Ty.T τ)) : RoEq (.own τ l) (.ro τ l)
  | back (τ) (l : List (Ty.T τ)) : RoEq (.ro τ l) (.own τ l)
theorem RoEq.blk {c c' : Chunk} (h : RoEq c c') (x : Value) : c'.blk x = c.blk x := by
  cases h with
  | same => rfl
  | lend τ l => cases x <;> first | rfl | (rename_i a _ _; cases a <;> rfl)
  | back τ l => cases x <;> first | rfl | (rename_i a _ _; cases a <;> rfl)
theorem RoEq.sat {c c' : Chunk} (h : RoEq c c') {r β w x} (hs : c.Sat r β w x) : c'.Sat r β w x := by
  cases h with
  | same => exact hs
  | lend τ l => cases hs with | own h => exact .ro h
  | back τ l => cases hs with | ro h => exact .own h
theorem sat_swap {B : Base} {e N r β σ Φ Φ2 a w} (s : Sat B e N r β σ Φ a w) (hsw : ∀ j c2, Phi.get Φ2 j = some c2 → ∃ c, Phi.get Φ j = some c ∧ RoEq c c2)
    (hkeep : ∀ id ch, Phi.get e.Φ id = some ch → ch.kind ≠ 0 → Phi.get Φ2 id = Phi.get Φ id) : Sat B e N r β σ Φ2 a w := by
  refine ⟨s.agree, ⟨s.mem.vis, fun j c2 h => ?_, fun j c2 b h hb => ?_, fun j j' c2 c2' b h h' hb hb' => ?_⟩, s.G, s.le, ⟨s.hid.os, s.hid.tape, s.hid.output, s.hid.size, fun b hb h1 h2 => ?_, fun id ch h hk => ?_⟩, ?_, s.size⟩
  · obtain ⟨c, h1, h2⟩ := hsw j c2 h
    exact h2.sat (s.mem.chs _ _ h1)
  · obtain ⟨c, h1, h2⟩ := hsw j c2 h
    rw [h2.blk] at hb
    exact s.mem.sep _ _ _ h1 hb
  · obtain ⟨c, h1, h2⟩ := hsw j c2 h
    obtain ⟨c', h1', h2'⟩ := hsw j' c2' h'
    rw [h2.blk] at hb; rw [h2'.blk] at hb'
    exact s.mem.nod _ _ _ _ _ h1 h1' hb hb'
  · obtain ⟨x1, x2, x3⟩ := s.hid.block b hb h1 h2
    refine ⟨x1, x2, fun j c2 h hb' => ?_⟩
    obtain ⟨c, g1, g2⟩ := hsw j c2 h
    rw [g2.blk] at hb'
    exact x3 j c g1 hb'
  · obtain ⟨q1, ch', q2, q3⟩ := s.hid.keep id ch h hk
    exact ⟨q1, ch', by rw [hkeep id ch h hk]; exact q2, q3⟩
  · obtain ⟨Ds, h1, h2, h3⟩ := s.defers
    refine ⟨Ds, h1, h2, fun D hD => ?_⟩
    obtain ⟨g1, g2, g3, g4⟩ := h3 D hD
    refine ⟨g1, g2, g3, fun j c2 h hb => ?_⟩
    obtain ⟨c, k1, k2⟩ := hsw j c2 h
    rw [k2.blk] at hb
    exact g4 j c k1 hb
theorem roK_sound : ∀ {ids : List Nat} {Φ : Phi} {K : Phi → Prop}, roK ids Φ K → ∃ Φr, K Φr ∧ (∀ j c2, Phi.get Φr j = some c2 → ∃ c, Phi.get Φ j = some c ∧ RoEq c c2) ∧ (∀ j, j ∉ ids → Phi.get Φr j = Phi.get Φ j) ∧ (∀ j ∈ ids, ∃ τ l, Phi.get Φ j = some (.own τ l) ∧ Phi.get Φr j = some (.ro τ l)) := by
  intro ids
  induction ids with
  | nil => intro Φ K h; exact ⟨Φ, h, fun j c2 hj => ⟨c2, hj, .same _⟩, fun _ _ => rfl, fun j hj => by cases hj⟩
  | cons i ids ih =>
    intro Φ K h
    simp only [roK] at h
    split at h
    · rename_i τ l hg
      obtain ⟨Φ1, h, hΦ⟩ := setPK_sound h (hasId_of hg)
      obtain ⟨Φr, hk, h1, h2, h3⟩ := ih h
      have hi1 : Phi.get Φ1 i = some (.ro τ l) := by rw [hΦ, Nat.beq_refl]; rfl
      have hni : i ∉ ids := fun hm => by
        obtain ⟨τ', l', g1, _⟩ := h3 i hm
        rw [hi1] at g1; cases g1
      have hne : ∀ j, j ≠ i → Phi.get Φ1 j = Phi.get Φ j := fun j hj => by rw [hΦ, nbeq_of (fun h => hj h.symm)]; rfl
      refine ⟨Φr, hk, fun j c2 hj => ?_, fun j hj => ?_, fun j hj => ?_⟩
      · by_cases hji : j = i
        · subst hji
          rw [h2 j hni, hi1] at hj
          cases hj
          exact ⟨_, hg, .lend τ l⟩
        · obtain ⟨c, g1, g2⟩ := h1 j c2 hj
          rw [hne j hji] at g1
          exact ⟨c, g1, g2⟩
      · simp only [List.mem_cons, not_or] at hj
        rw [h2 j hj.2, hne j hj.1]
      · by_cases hji : j = i
        · subst hji
          exact ⟨τ, l, hg, by rw [h2 j hni, hi1]⟩
        · rcases List.mem_cons.1 hj with h | hj
          · exact (hji h).elim
          · obtain ⟨τ', l', g1, g2⟩ := h3 j hj
            rw [hne j hji] at g1
            exact ⟨τ', l', g1, g2⟩
    · exact h.elim
    · exact h.elim
theorem unroK_sound : ∀ {ids : List Nat} {Φ : Phi} {K : Phi → Prop}, unroK ids Φ K → ∃ Φr, K Φr ∧ (∀ j c2, Phi.get Φr j = some c2 → ∃ c, Phi.get Φ j = some c ∧ RoEq c c2) ∧ (∀ j, j ∉ ids → Phi.get Φr j = Phi.get Φ j) := by
  intro ids
  induction ids with
  | nil => intro Φ K h; exact ⟨Φ, h, fun j c2 hj => ⟨c2, hj, .same _⟩, fun _ _ => rfl⟩
  | cons i ids ih =>
    intro Φ K h
    simp only [unroK] at h
    split at h
    · rename_i τ l hg
      obtain ⟨Φ1, h, hΦ⟩ := setPK_sound h (hasId_of hg)
      obtain ⟨Φr, hk, h1, h2⟩ := ih h
      have hi1 : Phi.get Φ1 i = some (.own τ l) := by rw [hΦ, Nat.beq_refl]; rfl
      have hne : ∀ j, j ≠ i → Phi.get Φ1 j = Phi.get Φ j := fun j hj => by rw [hΦ, nbeq_of (fun h => hj h.symm)]; rfl
      refine ⟨Φr, hk, fun j c2 hj => ?_, fun j hj => ?_⟩
      · obtain ⟨c, g1, g2⟩ := h1 j c2 hj
        by_cases hji : j = i
        · subst hji
          rw [hi1] at g1
          cases g1
          cases g2 with
          | same => exact ⟨_, hg, .back τ l⟩
          | lend => exact ⟨_, hg, .same _⟩
        · rw [hne j hji] at g1
          exact ⟨c, g1, g2⟩
      · simp only [List.mem_cons, not_or] at hj
        rw [h2 j hj.2, hne j hj.1]
    · exact h.elim
theorem callS_sound {B : Base} {e N a w f args σ Φ n} {K : EK} (h : CallS B f args σ Φ n K) {r β} (s : Sat B e N r β σ Φ a w) {vs : List Value} (hargs : RelL r β args vs) {o : Oper}
    (hrun : ∀ w, (execOp a.eval o).run B.P w = (callFunc f vs.toArray).run B.P w) : OpTo B.P a w o (After B e N a σ K) := by
  cases h with
  | q h =>
    obtain ⟨sv, hk, hop⟩ := call_sound h
    refine (hop (fun _ h => h) r β w vs a o s.G s.mem hargs hrun).mono ?_
    rintro v w' ⟨r', hr, hle, m', hid⟩
    exact ⟨sv, σ, Φ, n, r', β, hk, hr, s.step (s.agree.of fun k g sv hk => ⟨sv, hk, fun v hr => hr.mono hle⟩) m' hle hid, fun D hD => hD⟩
  | m h =>
    obtain ⟨ys, h, hl⟩ := lendK_q h
    obtain ⟨h1, h2⟩ := callMK_sound h s (hl _ r β w vs (fun id hi => memN_iff.2 hi) s.mem hargs)
    exact .call f vs.toArray (by rw [hrun]; exact h1 _) h2
  | h h =>
    obtain ⟨h1, h2⟩ := callMK_sound h s (by
      have hz : frz (fun i => memN i []) r β Φ w = r := frz_none
      rw [hz]; exact hargs)
    exact .call f vs.toArray (by rw [hrun]; exact h1 _) h2
  | b h =>
    obtain ⟨Φr, h, hr1, hr2, hr3⟩ := roK_sound h
    have hno : ∀ id ch, Phi.get e.Φ id = some ch → ch.kind ≠ 0 → id ∉ own1L args := fun id ch hi hk hm => by
      obtain ⟨τ, l, g1, _⟩ := hr3 id hm
      obtain ⟨_, ch', q2, q3⟩ := s.hid.keep id ch hi hk
      rw [g1] at q2; cases q2
      exact hk q3.symm
    have s1 := sat_swap s hr1 (fun id ch hi hk => hr2 id (hno id ch hi hk))
    obtain ⟨h1, h2⟩ := callMK_sound h s1 (by
      have hz : frz (fun i => memN i []) r β Φr w = r := frz_none
      rw [hz]; exact hargs)
    refine .call f vs.toArray (by rw [hrun]; exact h1 _) (h2.mono ?_)
    rintro ev w' ⟨v, he, sv, σ2, Φ2, n', r2, β2, k1, k2, k3, k4⟩
    obtain ⟨Φu, k1, u1, u2⟩ := unroK_sound k1
    exact ⟨v, he, sv, σ2, Φu, n', r2, β2, k1, k2, sat_swap k3 u1 (fun id ch hi hk => u2 id (hno id ch hi hk)), k4⟩
  | z h =>
    obtain ⟨xs', σ', Φ', r', h, s', hv', hD⟩ := frzK_sound h s hargs
    obtain ⟨h1, h2⟩ := callMK_sound h s' (by
      have hz : frz (fun i => memN i []) r' β Φ' w = r' := frz_none
      rw [hz]; exact hv')
    refine .call f vs.toArray (by rw [hrun]; exact h1 _) (h2.mono ?_)
    rintro ev w' ⟨v, he, sv, σ2, Φ2, n', r2, β2, k1, k2, k3, k4⟩
    exact ⟨v, he, sv, σ2, Φ2, n', r2, β2, k1, k2, k3, fun D h0 => k4 D (hD D h0)⟩
end Go.Vc

namespace Go.Vc
set_option autoImplicit false
set_option linter.unusedVariables false

theorem run_equal_nil {P : Program} {t e : TypeId} (hu : P.underlying t = some (.slice e)) (x : Option Addr) (n c : Nat) (w : World) : (Op.equal t (.slice x n c) (.slice none 0 0)).run P w = .ok x.isNone w := by
  unfold Op.equal Op.maxDepth
  rw [show (10000 : Nat) = 9999 + 1 from rfl, Op.equalIn]
  simp only [Sem.run_bind, run_underlying hu, Result.andThen_ok]
  cases x <;> rfl
theorem rows_slice {r w x sz rows} (h : RowsAt r w x sz rows) : ∃ a n c, x = .slice a n c ∧ (a = none → rows = []) := by
  rcases h with ⟨a, rfl, rfl⟩ | ⟨b, off, cap, c, T, fr, rfl, _⟩
  · exact ⟨a, 0, 0, rfl, fun _ => rfl⟩
  · exact ⟨_, _, _, rfl, fun h => by cases h⟩
theorem lits_slice {r β sz rows x} (h : Rel r β (.lits sz rows) x) : ∃ a n c, x = .slice a n c ∧ (a = none → rows = []) := by
  cases h with
  | litsE => exact ⟨_, _, _, rfl, fun _ => rfl⟩
  | lits => exact ⟨_, _, _, rfl, fun h => by cases h⟩
theorem nilK_sound {P : Program} {Φ t x} {K : Bool → Prop} (h : nilK P Φ t x K) {r β w v} (m : MemSat r β Φ w) (hx : Rel r β x v) :
    ∃ b, K b ∧ (Op.equal t v (.slice none 0 0)).run P w = .ok b w ∧ ∃ a n c, v = .slice a n c := by
  unfold nilK at h
  split at h
  · rename_i e hu
    split at h
    · cases hx
      exact ⟨true, h, run_equal_nil hu none 0 0 w, _, _, _, rfl⟩
    · cases hx with
      | rd hx =>
        obtain ⟨a, n, c, rfl, ha⟩ := lits_slice hx
        exact ⟨a.isNone, h _ (fun hb => by
          have := ha (by simpa using hb)
          simpa using this), run_equal_nil hu a n c w, _, _, _, rfl⟩
    · split at h
      · rename_i id τ l hg
        have hs := m.rowsR hg
        cases hs with
        | own hrows =>
          obtain ⟨a, n, c, hv, ha⟩ := rows_slice hrows
          cases hx
          rw [hv]
          exact ⟨a.isNone, h _ (fun hb => by
            have := ha (by simpa using hb)
            simpa using this), run_equal_nil hu a n c w, _, _, _, rfl⟩
      · exact h.elim
    · exact h.elim
  · exact h.elim

theorem guard_slice {P : Program} {op : BinOp} {t : TypeId} {x y : Operand} {a a' : Option Addr} {n c n' c' : Nat} {w : World} : (eqGuard op t x y (.slice a n c) (.slice a' n' c')).run P w = .ok () w := by
  unfold eqGuard; split <;> rfl
theorem storeFK_sound {B : Base} {e N r β σ Φ a w n t} {p x : SV} {vp vx : Value} {K : EK} (h : storeFK B.P t p x σ Φ n K) (s : Sat B e N r β σ Φ a w) (hp : Rel r β p vp) (hx : Rel r β x vx) :
    ∃ sv σ' Φ' r' w', K sv σ' Φ' n ∧ (Instr.storeAt t vp vx).run B.P w = .ok () w' ∧ sv = .und ∧ Sat B e N r' β σ' Φ' a w' ∧ (∀ D, GdIn D σ → GdIn D σ') := by
  unfold storeFK at h
  split at h
  · obtain ⟨xs', σ', Φ', r', h, s', hv, hD⟩ := frzK_sound h s (vs := [vp, vx]) (RelL.cons hp (RelL.cons hx ⟨rfl, fun i sv v h => by simp at h⟩))
    split at h
    · rename_i p' x'
      obtain ⟨sv, Φ2, w', hk, hrun, he, s2⟩ := storeK_sound h s' (hv.2 0 _ _ rfl rfl) (hv.2 1 _ _ rfl rfl)
      exact ⟨sv, _, _, _, _, hk, hrun, he, s2, hD⟩
    · exact h.elim
  · obtain ⟨sv, Φ2, w', hk, hrun, he, s2⟩ := storeK_sound h s hp hx
    exact ⟨sv, _, _, _, _, hk, hrun, he, s2, fun _ h => h⟩
end Go.Vc

namespace Go.Vc
set_option autoImplicit false
set_option linter.unusedVariables false
set_option linter.unusedSimpArgs false

theorem vcOp_sound {B : Base} {e N r β σ Φ a w n op} {K : EK} (h : vcOp B op σ Φ n K) (s : Sat B e N r β σ Φ a w) {dst ty pos after guard} :
    (∀ c, op ≠ .defer c) ∧ OpTo B.P a w ⟨dst, op, ty, pos, after, guard⟩ (After B e N a σ K) := by
  have ev : ∀ {x : Operand} {sv : SV}, (∀ p r β (a : Act) g, Has p x → Sm p r β σ a.tmps [] g → Rel r β sv (a.eval x)) → Rel r β sv (a.eval x) := fun h => h _ r β a _ (hasT _) (Sm.plain s.agree)
  unfold vcOp at h
  split at h
  · rename_i t
    obtain ⟨l, z, hk, ho, _, hz, hl⟩ := zeroK_sound h
    obtain ⟨sv, σ', Φ', n', hk2, rfl, β', hr, s'⟩ := newK_sound hk s t z.cells (hl r β)
    refine ⟨(fun c hc => by cases hc), .val (.pointer (some ⟨w.heap.size, 0, none⟩)) { w with heap := w.heap.push (.cells z.cells t) } ?_ ⟨_, _, _, _, _, _, hk2, hr, s', fun _ h => h⟩⟩
    simp only [execOp, Instr.alloc, Sem.run_bind, hz, Result.andThen_ok, newVar, newRow, run_newObj, Sem.run_pure]
  · rename_i t x
    obtain ⟨sx, h, hx⟩ := opK_sound h
    obtain ⟨l, hk, ho, _, hl⟩ := cellsK_sound h
    obtain ⟨sv, σ', Φ', n', hk2, rfl, β', hr, s'⟩ := newK_sound hk s t (a.eval x).cells (hl r β _ (ev hx))
    refine ⟨(fun c hc => by cases hc), .val (.pointer (some ⟨w.heap.size, 0, none⟩)) { w with heap := w.heap.push (.cells (a.eval x).cells t) } ?_ ⟨_, _, _, _, _, _, hk2, hr, s', fun _ h => h⟩⟩
    simp only [execOp, Instr.box, Sem.run_bind, Result.andThen_ok, newVar, newRow, run_newObj, Sem.run_pure]
  · -- store
    rename_i t p x
    obtain ⟨sp, h, hp⟩ := opK_sound h
    obtain ⟨sx, h, hx⟩ := opK_sound h
    obtain ⟨sv, σ', Φ', r', w', hk, hrun, rfl, s', hD⟩ := storeFK_sound h s (ev hp) (ev hx)
    refine ⟨(fun c hc => by cases hc), .skip w' ?_ ⟨_, _, _, _, _, _, hk, .und, s', hD⟩⟩
    simp only [execOp, Sem.run_bind, hrun, Result.andThen_ok, Sem.run_pure]
  · -- buildSlice
    rename_i t ln parts
    obtain ⟨xs, h, _, _⟩ := opsK_sound h
    obtain ⟨_, σ1, Φ1, r1, h, s1, _, hD⟩ := frzK_sound h s (vs := []) ⟨rfl, fun i sv v h => by simp at h⟩
    obtain ⟨sv, Φ', n', v, w', β', hk, hrun, hr, s'⟩ := buildSliceK_sound h s1
    refine ⟨(fun c hc => by cases hc), .val v w' ?_ ⟨_, _, _, _, _, _, hk, hr, s', hD⟩⟩
    have e : (Array.map (fun (x : Nat × Operand) => (x.1, a.eval x.2)) ⟨parts⟩) = (parts.map fun (i, x) => (i, a.eval x)).toArray := by simp
    simp only [execOp, Sem.run_bind]
    rw [e, hrun]; rfl
  · -- makeSlice
    rename_i t l c
    obtain ⟨sl, h, hl⟩ := opK_sound h
    obtain ⟨sc, h, hc⟩ := opK_sound h
    obtain ⟨sv, Φ', n', v, w', β', hk, hrun, hr, s'⟩ := makeSliceK_sound h s (ev hl) (ev hc)
    refine ⟨(fun c hc => by cases hc), .val v w' ?_ ⟨_, _, _, _, _, _, hk, hr, s', fun _ h => h⟩⟩
    simp only [execOp, Sem.run_bind, hrun, Result.andThen_ok, Sem.run_pure]
  · -- range
    rename_i t x
    obtain ⟨sx, h, hx⟩ := opK_sound h
    obtain ⟨sv, Φ', n', v, w', β', hk, hrun, hr, s'⟩ := rangeK_sound h s (ev hx)
    refine ⟨(fun c hc => by cases hc), .val v w' ?_ ⟨_, _, _, _, _, _, hk, hr, s', fun _ h => h⟩⟩
    simp only [execOp, Sem.run_bind, hrun, Result.andThen_ok, Sem.run_pure]
  · -- next
    rename_i x is
    obtain ⟨sx, h, hx⟩ := opK_sound h
    obtain ⟨sv, Φ', n', v, w', hk, hrun, hr, s'⟩ := nextK_sound (ty := ty) h s (ev hx)
    refine ⟨(fun c hc => by cases hc), .val v w' ?_ ⟨_, _, _, _, _, _, hk, hr, s', fun _ h => h⟩⟩
    simp only [execOp, Sem.run_bind, hrun, Result.andThen_ok, Sem.run_pure]
  · -- a slice and nil
    rename_i t x t2
    obtain ⟨sx, h, hx⟩ := opK_sound h
    obtain ⟨b, hk, hrun, av, nv, cv, hv⟩ := nilK_sound h s.mem (ev hx)
    refine ⟨(fun c hc => by cases hc), .val (.bool b) w ?_ ⟨_, _, _, _, _, _, hk, .bool, s, fun _ h => h⟩⟩
    have he : a.eval (.const (.slice none 0 0)) = .slice none 0 0 := rfl
    rw [hv] at hrun
    simp only [execOp, Sem.run_bind, hv, he, guard_slice, Result.andThen_ok]
    have hb : (Go.binOp .eql t (.slice av nv cv) (.slice none 0 0)).run B.P w = .ok (.bool b) w := by
      show Sem.run B.P (do pure (Value.bool (← Op.equal t _ _))) w = _
      rw [Sem.run_bind, hrun]; rfl
    rw [hb]; rfl
  · -- a slice, not nil
    rename_i t x t2
    obtain ⟨sx, h, hx⟩ := opK_sound h
    obtain ⟨b, hk, hrun, av, nv, cv, hv⟩ := nilK_sound h s.mem (ev hx)
    refine ⟨(fun c hc => by cases hc), .val (.bool (!b)) w ?_ ⟨_, _, _, _, _, _, hk, .bool, s, fun _ h => h⟩⟩
    have he : a.eval (.const (.slice none 0 0)) = .slice none 0 0 := rfl
    rw [hv] at hrun
    simp only [execOp, Sem.run_bind, hv, he, guard_slice, Result.andThen_ok]
    have hb : (Go.binOp .neq t (.slice av nv cv) (.slice none 0 0)).run B.P w = .ok (.bool (!b)) w := by
      show Sem.run B.P (do pure (Value.bool (!(← Op.equal t _ _)))) w = _
      rw [Sem.run_bind, hrun]; rfl
    rw [hb]; rfl
  · -- append
    rename_i sl x ts tx
    obtain ⟨ss, h, hs⟩ := opK_sound h
    obtain ⟨sx, h, hx⟩ := opK_sound h
    obtain ⟨sv, σ', Φ', n', v, w', β', hk, hrun, hr, s', hD⟩ := appendK_sound (ty := ty) h s (ev hs) (ev hx)
    refine ⟨(fun c hc => by cases hc), .val v w' ?_ ⟨_, _, _, _, _, _, hk, hr, s', hD⟩⟩
    simp only [execOp, resolve, Sem.run_bind, Sem.run_pure, Result.andThen_ok, invoke, builtin]
    rw [show Array.map a.eval ⟨[sl, x]⟩ = #[a.eval sl, a.eval x] by simp]
    rw [hrun]; rfl
  · -- a call
    rename_i f xs ts
    obtain ⟨fv, h, hf⟩ := opK_sound h
    cases fv <;> simp only at h
    rename_i fid caps
    obtain ⟨l, h, h1, h2⟩ := opsK_sound h
    have h := appK_sound h
    have hfv := ev hf
    generalize hq : a.eval f = v at hfv
    cases hfv with
    | fn hl hc =>
      rename_i cs
      refine ⟨(fun c hc => by cases hc), callS_sound h s (vs := xs.map a.eval ++ cs) ((evalL h1 (h2 _ r β a _ (fun _ _ => hasT _) (Sm.plain s.agree))).append ⟨hl, hc⟩) fun w => ?_⟩
      simp only [execOp, resolve, hq, Deferred.ofValue, Sem.run_bind, Sem.run_pure, Result.andThen_ok, invoke]
      congr 2
      simp
  · obtain ⟨sv, hk, hnd, hop⟩ := evK_sound h (fun _ => ⟨_, r, β, a, w, fun _ _ => hasT _, Sm.plain s.agree, s.mem⟩)
    refine ⟨hnd, (hop _ r β a w (fun _ _ => hasT _) (Sm.plain s.agree) s.G s.mem dst ty pos after guard).mono ?_⟩
    rintro v w' ⟨r', hr, hle, m', hid⟩
    exact ⟨sv, σ, Φ, n, r', β, hk, hr, s.step (s.agree.of fun k g sv hk => ⟨sv, hk, fun v hr => hr.mono hle⟩) m' hle hid, fun D hD => hD⟩

theorem dstOf_spec {all : List Oper} {j s : Nat} (h : dstOf all j = some s) : ∃ o, all[j]? = some o ∧ o.dst = some s := by
  unfold dstOf at h
  rw [nth_eq] at h
  split at h
  · exact ⟨_, by assumption, h⟩
  · cases h
theorem yielded_of {all : List Oper} {j s : Nat} (h : dstOf all j = some s) (t : Array Value) (w : Bool) : (yielded all.toArray t j == some w) = true ↔ t[s]? = some (.bool w) := by
  obtain ⟨o, h1, h2⟩ := dstOf_spec h
  unfold yielded
  simp only [List.getElem?_toArray, h1, Option.bind_some, h2]
  cases hq : t[s]? with
  | none => simp
  | some v => cases v <;> simp


structure RegOk (N : Nat) (all : List Oper) : Prop where
  lt : ∀ o ∈ all, ∀ d, o.dst = some d → d < N
  nodup : (dsts all).Nodup
  before : ∀ (i : Nat) (o : Oper), all[i]? = some o → ∀ j w, o.guard = some (j, w) → j < i

theorem notDst_spec {d : Nat} {l : List Oper} (h : notDst d l = true) : d ∉ dsts l := by
  induction l with
  | nil => simp [dsts]
  | cons o r ih =>
    simp only [notDst, Bool.and_eq_true] at h
    have := ih h.2
    cases hd : o.dst with
    | none => simp only [dsts, List.filterMap_cons, hd]; exact this
    | some d' =>
      simp only [dsts, List.filterMap_cons, hd, List.mem_cons, not_or]
      refine ⟨?_, this⟩
      rintro rfl
      have h1 := h.1
      rw [hd] at h1
      simp [Nat.beq_refl] at h1
theorem regOk_of {N : Nat} {all : List Oper} (h1 : allDst N all = true) (h2 : distinctDst all = true) (h3 : guardsOk 0 all = true) : RegOk N all := by
  refine ⟨?_, ?_, ?_⟩
  · clear h2 h3
    induction all with
    | nil => intro o ho; cases ho
    | cons x r ih =>
      simp only [allDst, Bool.and_eq_true] at h1
      intro o ho d hd
      cases ho with
      | head =>
        have := h1.1
        rw [hd] at this
        exact (Nat.blt_eq ▸ this : _ < _)
      | tail _ ho => exact ih h1.2 o ho d hd
  · clear h1 h3
    induction all with
    | nil => exact List.nodup_nil
    | cons x r ih =>
      simp only [distinctDst, Bool.and_eq_true] at h2
      have := ih h2.2
      cases hd : x.dst with
      | none => simp only [dsts, List.filterMap_cons, hd]; exact this
      | some d =>
        simp only [dsts, List.filterMap_cons, hd]
        have h := h2.1
        rw [hd] at h
        exact List.nodup_cons.2 ⟨notDst_spec h, this⟩
  · clear h1 h2
    have gen : ∀ (l : List Oper) (k : Nat), guardsOk k l = true → ∀ (i : Nat) (o : Oper), l[i]? = some o → ∀ j w, o.guard = some (j, w) → j < k + i := by
      intro l
      induction l with
      | nil => intro k _ i o hi; simp at hi
      | cons x r ih =>
        intro k h i o hi j w hg
        simp only [guardsOk, Bool.and_eq_true] at h
        cases i with
        | zero =>
          simp at hi; subst hi
          have := h.1
          rw [hg] at this
          simpa [Nat.blt_eq] using this
        | succ i =>
          have := ih (k + 1) h.2 i o (by simpa using hi) j w hg
          omega
    intro i o hi j w hg
    have := gen all 0 h3 i o hi j w hg
    omega


theorem mem_dsts_take {all : List Oper} {i s : Nat} : s ∈ dsts (all.take i) ↔ ∃ j o, j < i ∧ all[j]? = some o ∧ o.dst = some s := by
  unfold dsts
  rw [List.mem_filterMap]
  constructor
  · rintro ⟨o, ho, hd⟩
    obtain ⟨j, hj, rfl⟩ := List.getElem_of_mem ho
    rw [List.length_take] at hj
    refine ⟨j, _, by omega, ?_, hd⟩
    rw [List.getElem_take]; exact List.getElem?_eq_getElem (by omega)
  · rintro ⟨j, o, hj, ho, hd⟩
    refine ⟨o, ?_, hd⟩
    have := lt_len ho
    exact List.mem_of_getElem? (i := j) (by rw [List.getElem?_take, if_pos hj]; exact ho)
theorem RegOk.uniq {N all} (h : RegOk N all) : ∀ {i j : Nat} {oi oj : Oper} {d : Nat}, all[i]? = some oi → all[j]? = some oj → oi.dst = some d → oj.dst = some d → i = j := by
  have key : ∀ (l : List Oper), (dsts l).Nodup → ∀ (i j : Nat) (oi oj : Oper) (d : Nat), l[i]? = some oi → l[j]? = some oj → oi.dst = some d → oj.dst = some d → i = j := by
    intro l
    induction l with
    | nil => intro _ i j oi oj d h; simp at h
    | cons x r ih =>
      intro hn i j oi oj d hi hj hdi hdj
      have hmem : ∀ {k : Nat} {ok : Oper}, r[k]? = some ok → ok.dst = some d → d ∈ dsts r := fun hk hd => List.mem_filterMap.2 ⟨_, List.mem_of_getElem? hk, hd⟩
      have hr : (dsts r).Nodup := by
        cases hx : x.dst with
        | none => simpa [dsts, hx] using hn
        | some d' => simp only [dsts, List.filterMap_cons, hx] at hn; exact (List.nodup_cons.1 hn).2
      cases i with
      | zero =>
        cases j with
        | zero => rfl
        | succ j =>
          simp at hi; subst hi
          simp only [dsts, List.filterMap_cons, hdi] at hn
          exact ((List.nodup_cons.1 hn).1 (hmem (by simpa using hj) hdj)).elim
      | succ i =>
        cases j with
        | zero =>
          simp at hj; subst hj
          simp only [dsts, List.filterMap_cons, hdj] at hn
          exact ((List.nodup_cons.1 hn).1 (hmem (by simpa using hi) hdi)).elim
        | succ j => rw [ih hr i j oi oj d (by simpa using hi) (by simpa using hj) hdi hdj]
  exact fun {i j oi oj d} => key all h.nodup i j oi oj d
theorem RegOk.fresh {N all} (h : RegOk N all) {i : Nat} {o : Oper} {d : Nat} (ho : all[i]? = some o) (hd : o.dst = some d) : d ∉ dsts (all.take i) := by
  intro hm
  obtain ⟨j, o', hj, ho', hd'⟩ := mem_dsts_take.1 hm
  have := h.uniq ho ho' hd hd'
  omega
theorem RegOk.guardIn {N all} (h : RegOk N all) {i : Nat} {o : Oper} {j s : Nat} {w : Bool} (ho : all[i]? = some o) (hg : o.guard = some (j, w)) (hs : dstOf all j = some s) : s ∈ dsts (all.take i) := by
  obtain ⟨o', h1, h2⟩ := dstOf_spec hs
  exact mem_dsts_take.2 ⟨j, o', h.before i o ho j w hg, h1, h2⟩
theorem GdIn.mono {D D' : List Nat} {σ : Env} (h : GdIn D σ) (hs : ∀ x ∈ D, x ∈ D') : GdIn D' σ := fun k s w sv hk => hs _ (h k s w sv hk)
theorem take_mono {all : List Oper} {i j : Nat} (h : i ≤ j) : ∀ x ∈ dsts (all.take i), x ∈ dsts (all.take j) := by
  intro x hx
  obtain ⟨k, o, h1, h2, h3⟩ := mem_dsts_take.1 hx
  exact mem_dsts_take.2 ⟨k, o, by omega, h2, h3⟩

theorem Sat.put {B : Base} {e N r β σ Φ a w D} (s : Sat B e N r β σ Φ a w) (hgd : GdIn D σ) {dst : Option Nat} {gd : Option (Nat × Bool)} {sv : SV} {v : Value}
    (hd : ∀ d, dst = some d → d ∉ D ∧ d < N)
    (hv : match gd with | none => Rel r β sv v | some (s, w) => s ∈ D ∧ (a.tmps[s]? = some (.bool w) → Rel r β sv v) ∧ (a.tmps[s]? ≠ some (.bool w) → v = undef)) :
    Sat B e N r β (putE dst gd sv σ) Φ (a.put dst v) w := by
  cases dst with
  | none => exact s
  | some d =>
    obtain ⟨h1, h2⟩ := hd d rfl
    refine ⟨?_, s.mem, s.G, s.le, s.hid, s.defers, by rw [put_size]; exact s.size⟩
    refine s.agree.put hgd h1 (by rw [s.size]; exact h2) ?_
    cases gd with
    | none => exact hv
    | some p => exact ⟨fun hq => h1 (hq ▸ hv.1), hv.2⟩

theorem putE_gd {D D' : List Nat} {σ : Env} {dst : Option Nat} (hgd : GdIn D σ) (hs : ∀ x ∈ D, x ∈ D') {gd : Option (Nat × Bool)} {sv : SV} (hg : ∀ s w, gd = some (s, w) → s ∈ D') : GdIn D' (putE dst gd sv σ) := by
  cases dst with
  | none => exact hgd.mono hs
  | some d =>
    intro k s w sv' hk
    have hk : Env.get ((d, gd, sv) :: σ) k = some (some (s, w), sv') := hk
    rw [get_cons] at hk
    cases hb : Nat.beq d k with
    | true =>
      rw [hb] at hk
      simp only [cond_true, Option.some.injEq, Prod.mk.injEq] at hk
      exact hg _ _ hk.1
    | false => rw [hb] at hk; exact hs _ (hgd _ _ _ _ hk)

theorem wanted_guard {all : List Oper} {o : Oper} {j : Nat} {w : Bool} (hg : o.guard = some (j, w)) (t : Array Value) : Region.wanted o (yielded all.toArray t) = (yielded all.toArray t j == some w) := by
  unfold Region.wanted; rw [hg]

/-- where the walk of a region stands, ahead of these operations -/
def SeqInv (B : Base) (e : Entry) (N : Nat) (all : List Oper) (i : Nat) (rest : List Oper) (K : Env → Phi → Nat → Prop) (a : Act) (w : World) : Prop :=
  ∃ r β σ Φ n, vcOps B all rest σ Φ n K ∧ Sat B e N r β σ Φ a w ∧ GdIn (dsts (all.take i)) σ

/-- one operation, in its turn -/
theorem op_stepTo {B : Base} {e N all} (ok : RegOk N all) {K : Env → Phi → Nat → Prop} {i : Nat} {o : Oper} {rest : List Oper} (ho : all[i]? = some o) {a : Act} {w : World}
    (h : SeqInv B e N all i (o :: rest) K a w) : (∀ c, o.op ≠ .defer c) ∧ (Region.wanted o (yielded all.toArray a.tmps) = true → OpTo B.P a w o fun v w' => SeqInv B e N all (i + 1) rest K (a.put o.dst v) w') ∧
      (Region.wanted o (yielded all.toArray a.tmps) = false → SeqInv B e N all (i + 1) rest K (a.put o.dst undef) w) := by
  obtain ⟨r, β, σ, Φ, n, h, s, hgd⟩ := h
  have hd : ∀ d, o.dst = some d → d ∉ dsts (all.take i) ∧ d < N := fun d hd => ⟨ok.fresh ho hd, ok.lt o (List.mem_of_getElem? ho) d hd⟩
  obtain ⟨dst, op, ty, pos, after, guard⟩ := o
  simp only [vcOps] at h
  split at h
  · obtain ⟨hnd, hop⟩ := vcOp_sound (dst := dst) (ty := ty) (pos := pos) (after := after) (guard := none) h s
    refine ⟨hnd, fun _ => hop.mono ?_, fun hw => by simp [Region.wanted] at hw⟩
    rintro v w' ⟨sv, σ', Φ', n', r', β', hk, hr, s', hD⟩
    exact ⟨r', β', _, Φ', n', hk, s'.put (hD _ hgd) hd hr, putE_gd (hD _ hgd) (take_mono (Nat.le_succ i)) (fun s w h => by cases h)⟩
  · rename_i j wv
    split at h
    · rename_i sl hs
      obtain ⟨ctx, g, h, hsm⟩ := ctxK_sound h
      obtain ⟨sv, hk, hnd, hop⟩ := evK_sound h (fun hq => by cases hq)
      have hin : sl ∈ dsts (all.take i) := ok.guardIn ho rfl hs
      have hgd' : GdIn (dsts (all.take (i + 1))) (putE dst (some (sl, wv)) sv σ) := putE_gd hgd (take_mono (Nat.le_succ i)) (fun s w h => by cases h; exact take_mono (Nat.le_succ i) _ hin)
      rw [wanted_guard (all := all) (j := j) (w := wv) rfl]
      refine ⟨hnd, fun hw => ?_, fun hw => ?_⟩
      · have ht := (yielded_of hs a.tmps wv).1 hw
        refine (hop (fun _ => True) r β a w (fun _ _ => hasT _) (hsm _ r β a.tmps (fun _ _ _ _ _ _ => trivial) trivial (s.agree.P _) ht) s.G s.mem dst ty pos after _).mono ?_
        rintro v w' ⟨r', hr, hle, m', hid⟩
        refine ⟨r', β, _, Φ, n, hk, ?_, hgd'⟩
        have s' := s.step (s.agree.of fun k g sv hk => ⟨sv, hk, fun v hr => hr.mono hle⟩) m' hle hid
        exact s'.put hgd hd ⟨hin, fun _ => hr, fun h => (h ht).elim⟩
      · have ht : a.tmps[sl]? ≠ some (.bool wv) := fun ht => by rw [(yielded_of hs a.tmps wv).2 ht] at hw; cases hw
        exact ⟨r, β, _, Φ, n, hk, s.put hgd hd ⟨hin, fun h => (ht h).elim, fun _ => rfl⟩, hgd'⟩
    · exact h.elim
theorem op_step {B : Base} {e N all} (ok : RegOk N all) {ro : Option Nat} {Q : Exit → Act → World → Prop} {K : Env → Phi → Nat → Prop} {i : Nat} {o : Oper} {rest : List Oper} (ho : all[i]? = some o) {a : Act} {w : World}
    (h : SeqInv B e N all i (o :: rest) K a w) : wpOpIn (fc ro) 0 B.P all.toArray Q i (SeqInv B e N all (i + 1) rest K) a w := by
  obtain ⟨h1, h2, h3⟩ := op_stepTo ok ho h
  unfold wpOpIn
  simp only [List.getElem?_toArray, ho]
  cases hw : Region.wanted o (yielded all.toArray a.tmps) with
  | true => rw [if_pos rfl]; exact (h2 hw).wpIn h1 fun _ _ h => h
  | false => rw [if_neg (by simp)]; exact ⟨fun _ _ => trivial, h3 hw⟩

theorem vcOps_sound {B : Base} {e N all} (ok : RegOk N all) {ro : Option Nat} {K : Env → Phi → Nat → Prop} {Q : Exit → Act → World → Prop}
    (hQ : ∀ r β σ Φ n a w, K σ Φ n → Sat B e N r β σ Φ a w → Q .normal a w) :
    ∀ (l pre : List Oper), all = pre ++ l → ∀ a w, SeqInv B e N all pre.length l K a w → wpOpsIn (fc ro) 0 B.P all.toArray Q (List.range' pre.length l.length) a w := by
  intro l
  induction l with
  | nil => intro pre he a w ⟨r, β, σ, Φ, n, h, s, _⟩; exact hQ _ _ _ _ _ _ _ h s
  | cons o rest ih =>
    intro pre he a w h
    have ho : all[pre.length]? = some o := by rw [he]; simp
    rw [List.length_cons, List.range'_succ, wpOpsIn_cons]
    refine wpOpIn_mono (fun a' w' h' => ?_) (op_step ok ho h)
    have := ih (pre ++ [o]) (by rw [he]; simp) a' w' (by simpa using h')
    simpa using this

theorem region_seq {B : Base} {e N all} (ok : RegOk N all) {ro : Option Nat} {K : Env → Phi → Nat → Prop} {Q : Exit → Act → World → Prop} {id : Nat}
    (hQ : ∀ r β σ Φ n a w, K σ Φ n → Sat B e N r β σ Φ a w → Q .normal a w) {r β σ Φ n a w} (h : vcOps B all all σ Φ n K) (s : Sat B e N r β σ Φ a w) (hgd : GdIn [] σ) :
    (Code.region id all.toArray false).wpIn (fc ro) 0 B.P Q a w := by
  refine wpIn_region ?_
  have := vcOps_sound ok (ro := ro) hQ all [] rfl a w ⟨r, β, σ, Φ, n, h, s, by simpa [dsts] using hgd⟩
  simpa [List.range_eq_range'] using this
end Go.Vc

namespace Go.Vc
set_option autoImplicit false
set_option linter.unusedVariables false

/-! A region that draws its order, by an invariant over the set of what has been carried out. -/

def isDone (listed : Array Bool) (i : Nat) : Prop := listed.getD i false = true

/-- What the boolean 'lexB' says of a region. -/
structure LexOk (md : Region.Mode) (ops : Array Oper) : Prop where
  back : ∀ (i : Nat) (o : Oper), ops[i]? = some o → ∀ e ∈ o.after, Region.binds md e = true → e.on < i
  apart : ∀ (k j : Nat) (ok oj : Oper), ops[k]? = some ok → ops[j]? = some oj → k < j → (∃ e ∈ oj.after, Region.binds md e = true ∧ e.on = k) ∨ ok.apart ops oj = true

theorem lexFrom_at {md : Region.Mode} {ops : Array Oper} : ∀ (fuel k : Nat) (L : Array Bool), Region.lexFrom md ops fuel k L = true → ∀ i, i < fuel →
    ∃ L' : Array Bool, L'.size = L.size ∧ (∀ t, (k ≤ t ∧ t < k + i → t < L.size → L'[t]? = some true) ∧ (¬ (k ≤ t ∧ t < k + i) → L'[t]? = L[t]?)) ∧
      (k + i) ∈ Region.ready md ops L' ∧ Region.free md ops L' (k + i) = true := by
  intro fuel
  induction fuel with
  | zero => intro k L h i hi; omega
  | succ fuel ih =>
    intro k L h i hi
    simp only [Region.lexFrom, Bool.and_eq_true] at h
    obtain ⟨⟨h1, h2⟩, h3⟩ := h
    cases i with
    | zero => exact ⟨L, rfl, fun t => ⟨fun ht => by omega, fun _ => rfl⟩, by simpa using h1, by simpa using h2⟩
    | succ i =>
      obtain ⟨L', hs, ht, hr, hf⟩ := ih (k + 1) _ h3 i (by omega)
      refine ⟨L', by rw [hs]; simp, fun t => ⟨fun hk hlt => ?_, fun hk => ?_⟩, by rw [show k + (i + 1) = k + 1 + i by omega]; exact hr, by rw [show k + (i + 1) = k + 1 + i by omega]; exact hf⟩
      · by_cases he : t = k
        · subst he
          rw [(ht t).2 (by omega)]
          simp [hlt]
        · exact (ht t).1 (by omega) (by simpa using hlt)
      · rw [(ht t).2 (by omega)]
        rw [Array.getElem?_setIfInBounds_ne (by omega)]

theorem lexOk_of {md : Region.Mode} {ops : Array Oper} (h : Region.lexB md ops = true) : LexOk md ops := by
  simp only [Region.lexB, Bool.and_eq_true] at h
  have at' : ∀ i, i < ops.size → ∃ L' : Array Bool, L'.size = ops.size ∧ (∀ t, t < ops.size → L'[t]? = some (decide (t < i))) ∧ i ∈ Region.ready md ops L' ∧ Region.free md ops L' i = true := by
    intro i hi
    obtain ⟨L', hs, ht, hr, hf⟩ := lexFrom_at ops.size 0 _ h.2 i hi
    refine ⟨L', by simpa using hs, fun t hlt => ?_, by simpa using hr, by simpa using hf⟩
    by_cases hti : t < i
    · rw [(ht t).1 (by omega) (by simpa using hlt)]; simp [hti]
    · rw [(ht t).2 (by omega)]; simp [hti, hlt]
  refine ⟨fun i o ho e he hb => ?_, fun k j ok oj hk hj hkj => ?_⟩
  · have hi : i < ops.size := (Array.getElem?_eq_some_iff.1 ho).1
    obtain ⟨L', hs, ht, hr, _⟩ := at' i hi
    obtain ⟨_, o', ho', hall⟩ := mem_ready.1 hr
    rw [ho] at ho'; cases ho'
    have := hall e he hb
    rcases Nat.lt_or_ge e.on ops.size with hlt | hge
    · have h1 := ht e.on hlt
      rw [Array.getD_eq_getD_getElem?, h1] at this
      simpa using this
    · rw [Array.getD_eq_getD_getElem?, Array.getElem?_eq_none (by omega)] at this
      cases this
  · have hkl : k < ops.size := (Array.getElem?_eq_some_iff.1 hk).1
    have hjl : j < ops.size := (Array.getElem?_eq_some_iff.1 hj).1
    obtain ⟨L', hs, ht, _, hf⟩ := at' k hkl
    by_cases hc : ∃ e ∈ oj.after, Region.binds md e = true ∧ e.on = k
    · exact .inl hc
    · refine .inr (Region.free_spec hk hf j oj hj (by omega) ?_ fun e he hb heq => hc ⟨e, he, hb, heq⟩)
      rw [Array.getD_eq_getD_getElem?, ht j hjl]
      simp; omega

theorem filter_erase {p p' : Nat → Bool} {i : Nat} (h : ∀ j, p' j = (p j && !(j == i))) : ∀ {l : List Nat}, l.Nodup → i ∈ l → p i = true → (l.filter p').length + 1 = (l.filter p).length := by
  intro l
  induction l with
  | nil => intro _ hi; cases hi
  | cons x l ih =>
    intro hn hi hp
    simp only [List.nodup_cons] at hn
    by_cases hx : x = i
    · subst hx
      have e : l.filter p' = l.filter p := by
        apply List.filter_congr
        intro y hy
        rw [h]
        have : y ≠ x := by rintro rfl; exact hn.1 hy
        simp [this]
      have hp' : p' x = false := by rw [h]; simp
      rw [List.filter_cons, List.filter_cons, hp, hp']
      simp [e]
    · have hi' : i ∈ l := by
        cases hi with
        | head => exact absurd rfl hx
        | tail _ hi => exact hi
      have := ih hn.2 hi' hp
      have e : p' x = p x := by rw [h]; simp [hx]
      rw [List.filter_cons, List.filter_cons, e]
      split
      · simp only [List.length_cons]; omega
      · exact this

/-- every order, by an invariant over what has been done -/
theorem wpAnyIn_inv {F : Fence} {n : Nat} {P : Program} {md : Region.Mode} {ops : Array Oper} {Q : Exit → Act → World → Prop} (ok : LexOk md ops) {I : (Nat → Prop) → Act → World → Prop}
    (hstep : ∀ (S : Nat → Prop) (i : Nat) (o : Oper) (a : Act) (w : World), (∀ j, S j → j < ops.size) → (∀ (j : Nat) (oj : Oper), S j → ops[j]? = some oj → ∀ e ∈ oj.after, Region.binds md e = true → S e.on) → ops[i]? = some o → ¬ S i →
      (∀ e ∈ o.after, Region.binds md e = true → S e.on) → I S a w → wpOpIn F n P ops Q i (I fun j => S j ∨ j = i) a w)
    (hend : ∀ S a w, (∀ i, i < ops.size → S i) → I S a w → Q .normal a w) :
    ∀ (fuel : Nat) (listed : Array Bool) (a : Act) (w : World), listed.size = ops.size → ((List.range ops.size).filter fun i => !listed.getD i false).length ≤ fuel →
      (∀ (j : Nat) (oj : Oper), isDone listed j → ops[j]? = some oj → ∀ e ∈ oj.after, Region.binds md e = true → isDone listed e.on) → I (isDone listed) a w → wpAnyIn F n P md ops Q fuel listed a w := by
  have all_of_ready : ∀ (listed : Array Bool), listed.size = ops.size → Region.ready md ops listed = [] → ∀ i, i < ops.size → isDone listed i := by
    intro listed hs hr i
    induction i using Nat.strongRecOn with
    | _ i ih =>
      intro hi
      by_cases hd : isDone listed i
      · exact hd
      · exfalso
        have : i ∈ Region.ready md ops listed := by
          refine mem_ready.2 ⟨?_, ops[i], Array.getElem?_eq_getElem hi, fun e he hb => ?_⟩
          · have hlt : i < listed.size := by omega
            unfold isDone at hd
            rw [Array.getD_eq_getD_getElem?, Array.getElem?_eq_getElem hlt] at hd ⊢
            simpa using hd
          · have hlt := ok.back i _ (Array.getElem?_eq_getElem hi) e he hb
            exact ih e.on hlt (by omega)
        rw [hr] at this; cases this
  intro fuel
  induction fuel with
  | zero =>
    intro listed a w hs hl hcl hI
    have hnil : (List.range ops.size).filter (fun i => !listed.getD i false) = [] := List.length_eq_zero_iff.1 (by omega)
    have hall : ∀ i, i < ops.size → isDone listed i := by
      intro i hi
      rw [List.filter_eq_nil_iff] at hnil
      have := hnil i (by simpa using hi)
      unfold isDone
      simpa using this
    refine ⟨?_, hend _ a w hall hI⟩
    cases hr : Region.ready md ops listed with
    | nil => rfl
    | cons x xs =>
      have hx : x ∈ Region.ready md ops listed := by rw [hr]; simp
      obtain ⟨h0, o, ho, _⟩ := mem_ready.1 hx
      have hlt := (Array.getElem?_eq_some_iff.1 ho).1
      have := hall x hlt
      unfold isDone at this
      rw [Array.getD_eq_getD_getElem?, Array.getElem?_eq_getElem (by omega)] at this h0
      simp at this h0
      rw [this] at h0; cases h0
  | succ fuel ih =>
    intro listed a w hs hl hcl hI
    refine ⟨fun hr => hend _ a w (all_of_ready listed hs hr) hI, fun i hi => ?_⟩
    obtain ⟨h0, o, ho, hall⟩ := mem_ready.1 hi
    have hlt := (Array.getElem?_eq_some_iff.1 ho).1
    have hnd : ¬ isDone listed i := by
      unfold isDone
      rw [Array.getD_eq_getD_getElem?, Array.getElem?_eq_getElem (by omega)] at h0 ⊢
      simp at h0 ⊢; exact h0
    have hset : isDone (listed.setIfInBounds i true) = fun j => isDone listed j ∨ j = i := by
      funext j
      apply propext
      unfold isDone
      by_cases hj : j = i
      · subst hj
        simp [Array.getD_eq_getD_getElem?, show j < listed.size by omega]
      · rw [getD_set_ne false (fun h => hj h.symm)]
        simp [hj]
    refine wpOpIn_mono (fun a' w' hI' => ?_) (hstep (isDone listed) i o a w (fun j hj => ?_) hcl ho hnd (fun e he hb => hall e he hb) hI)
    · refine ih _ a' w' (by simpa using hs) ?_ ?_ (by rw [hset]; exact hI')
      · have := filter_erase (p := fun i => !listed.getD i false) (p' := fun j => !(listed.setIfInBounds i true).getD j false) (i := i) (fun j => by
          by_cases hj : j = i
          · subst hj
            simp [Array.getD_eq_getD_getElem?, show j < listed.size by omega]
          · rw [getD_set_ne false (fun h => hj h.symm)]
            simp [hj]) List.nodup_range (by simpa using hlt) (by unfold isDone at hnd; simpa using hnd)
        omega
      · rw [hset]
        intro j oj hj hoj e he hb
        rcases hj with hj | rfl
        · exact .inl (hcl j oj hj hoj e he hb)
        · rw [ho] at hoj; cases hoj
          exact .inl (hall e he hb)
    · unfold isDone at hj
      rcases Nat.lt_or_ge j ops.size with h | h
      · exact h
      · rw [Array.getD_eq_getD_getElem?, Array.getElem?_eq_none (by omega)] at hj; cases hj

theorem wpIn_region_inv {F : Fence} {n : Nat} {P : Program} {ops : Array Oper} {Q : Exit → Act → World → Prop} (ok : LexOk .any ops) {I : (Nat → Prop) → Act → World → Prop} {id : Nat} {a : Act} {w : World} (hm : P.follows .mixedOrders = true)
    (hstep : ∀ (S : Nat → Prop) (i : Nat) (o : Oper) (a : Act) (w : World), (∀ j, S j → j < ops.size) → (∀ (j : Nat) (oj : Oper), S j → ops[j]? = some oj → ∀ e ∈ oj.after, Region.binds .any e = true → S e.on) → ops[i]? = some o → ¬ S i →
      (∀ e ∈ o.after, Region.binds .any e = true → S e.on) → I S a w → wpOpIn F n P ops Q i (I fun j => S j ∨ j = i) a w)
    (hend : ∀ S a w, (∀ i, i < ops.size → S i) → I S a w → Q .normal a w)
    (h0 : ∀ S : Nat → Prop, (∀ i, ¬ S i) → I S a { w with drawn := w.drawn + 1 }) : (Code.region id ops true).wpIn F n P Q a w := by
  refine wpIn_region_any hm (wpAnyIn_inv ok hstep hend _ _ _ _ (by simp) ?_ ?_ ?_)
  · have := List.length_filter_le (fun i => !(Array.replicate ops.size false).getD i false) (List.range ops.size)
    simpa using this
  · intro j oj hj
    unfold isDone at hj
    rw [Array.getD_eq_getD_getElem?, Array.getElem?_replicate] at hj
    split at hj <;> simp at hj
  · refine h0 _ fun i hi => ?_
    unfold isDone at hi
    rw [Array.getD_eq_getD_getElem?, Array.getElem?_replicate] at hi
    split at hi <;> simp at hi
end Go.Vc

namespace Go.Vc
set_option autoImplicit false
set_option linter.unusedVariables false
set_option linter.unusedSimpArgs false

/-! What a plan says. -/
theorem noneReads_spec {A : Array Oper} {d : Nat} {l : List Oper} (h : noneReads A d l = true) : ∀ o ∈ l, d ∉ o.looksAt A := by
  induction l with
  | nil => intro o ho; cases ho
  | cons x r ih =>
    simp only [noneReads, Bool.and_eq_true, Bool.not_eq_true'] at h
    intro o ho
    cases ho with
    | head => intro hm; rw [memN_iff.2 hm] at h; exact absurd h.1 (by simp)
    | tail _ ho => exact ih h.2 o ho
theorem noneWrites_spec {ts : List Nat} : ∀ {ps : List Nat} {ops : List Oper}, noneWrites ts ps ops = true → ∀ (j p : Nat) (o : Oper) (d : Nat), ps[j]? = some p → ops[j]? = some o → o.dst = some d → d ∈ ts → p = 0 := by
  intro ps
  induction ps with
  | nil => intro ops _ j p o d h; simp at h
  | cons p0 ps ih =>
    intro ops h j p o d hp ho hd hm
    cases ops with
    | nil => simp at ho
    | cons o0 ops =>
      simp only [noneWrites, Bool.and_eq_true] at h
      cases j with
      | zero =>
        simp at hp ho; subst hp; subst ho
        have h1 := h.1
        rw [hd] at h1
        simp only [Bool.or_eq_true, Bool.not_eq_true'] at h1
        rcases h1 with h1 | h1
        · exact beq_of h1
        · rw [memN_iff.2 hm] at h1; cases h1
      | succ j => exact ih h.2 j p o d (by simpa using hp) (by simpa using ho) hd hm
theorem cloOf_inv {all : List Oper} {Q : Nat → Prop} (hQ : ∀ (x : Nat) (o : Oper), Q x → all[x]? = some o → ∀ e ∈ o.after, Region.binds .any e = true → Q e.on) :
    ∀ (f : Nat) (todo acc : List Nat), (∀ x ∈ todo, Q x) → (∀ x ∈ acc, Q x) → ∀ x ∈ cloOf all f todo acc, Q x := by
  intro f
  induction f with
  | zero => intro todo acc _ h x hx; exact h x hx
  | succ f ih =>
    intro todo acc ht ha x hx
    cases todo with
    | nil => exact ha x hx
    | cons i todo =>
      simp only [cloOf] at hx
      have hi := ht i (by simp)
      cases hb : memN i acc with
      | true => rw [hb] at hx; exact ih todo acc (fun y hy => ht y (by simp [hy])) ha x hx
      | false =>
        rw [hb] at hx
        refine ih _ _ (fun y hy => ?_) (fun y hy => ?_) x hx
        · rw [List.mem_append] at hy
          rcases hy with hy | hy
          · rw [nth_eq] at hy
            split at hy
            · rename_i o ho
              obtain ⟨e, he, heq⟩ := List.mem_filterMap.1 hy
              cases hbe : Region.binds .any e with
              | false => rw [hbe] at heq; cases heq
              | true => rw [hbe] at heq; cases heq; exact hQ i o hi ho e (by simpa using he) hbe
            · cases hy
          · exact ht y (by simp [hy])
        · cases hy with
          | head => exact hi
          | tail _ hy => exact ha y hy
theorem coversB_spec {clo : List Nat} : ∀ {ps : List Nat} {k : Nat}, coversB clo k ps = true → ∀ (j p : Nat), ps[j]? = some p → p ≠ 0 → (k + j) ∈ clo := by
  intro ps
  induction ps with
  | nil => intro k _ j p h; simp at h
  | cons p0 ps ih =>
    intro k h j p hp hne
    simp only [coversB, Bool.and_eq_true, Bool.or_eq_true] at h
    cases j with
    | zero =>
      simp at hp; subst hp
      rcases h.1 with h1 | h1
      · exact absurd (beq_of h1) hne
      · exact memN_iff.1 h1
    | succ j =>
      have := ih h.2 j p (by simpa using hp) hne
      rw [show k + (j + 1) = k + 1 + j by omega]; exact this
theorem noThree_spec {l : List Nat} (h : planOkFrom.noThree l = true) : ∀ x ∈ l, x ≠ 3 := by
  induction l with
  | nil => intro x hx; cases hx
  | cons y r ih =>
    simp only [planOkFrom.noThree, Bool.and_eq_true, Bool.not_eq_true'] at h
    intro x hx
    cases hx with
    | head => rintro rfl; rw [Nat.beq_refl] at h; cases h.1
    | tail _ hx => exact ih h.2 x hx

inductive PlanAt (all : List Oper) (plan : List Nat) (i : Nat) (o : Oper) : Prop
  | t (d : Nat) (hp : plan[i]? = some 0) (hf : floats o.op = true) (hg : o.guard = none) (hd : o.dst = some d) (hr : ∀ (j : Nat) (oj : Oper), j ≤ i → all[j]? = some oj → d ∉ oj.looksAt all.toArray)
      (hw : ∀ (j : Nat) (oj : Oper) (d' : Nat), j < i → plan[j]? ≠ some 0 → all[j]? = some oj → oj.dst = some d' → .tmp d' ∉ o.op.operands.toList)
  | q (hp : plan[i]? = some 1) (h3 : ∀ (j : Nat), j < i → plan[j]? ≠ some 3)
  | f (d : Nat) (hp : plan[i]? = some 2) (h3 : ∀ (j : Nat), j < i → plan[j]? ≠ some 3) (hg : o.guard = none) (hd : o.dst = some d) (hr : ∀ (j : Nat) (oj : Oper), all[j]? = some oj → plan[j]? ≠ some 3 → d ∉ oj.looksAt all.toArray)
  | s (hp : plan[i]? = some 3) (hc : ∀ Q : Nat → Prop, (∀ (x : Nat) (o : Oper), Q x → all[x]? = some o → ∀ e ∈ o.after, Region.binds .any e = true → Q e.on) → Q i → ∀ (j : Nat), j < i → plan[j]? ≠ some 0 → Q j)

theorem opTmpsB_mem {t : Nat} {l : List Operand} : t ∈ opTmpsB l ↔ Operand.tmp t ∈ l := by
  induction l with
  | nil => simp [opTmpsB]
  | cons x r ih =>
    cases x <;> simp [opTmpsB, ih]

theorem planOk_spec {all : List Oper} {plan : List Nat} (h : planOk all plan = true) : plan.length = all.length ∧ ∀ (i : Nat) (o : Oper), all[i]? = some o → PlanAt all plan i o := by
  have key : ∀ (ps : List Nat) (ops : List Oper) (k : Nat), planOkFrom all plan k ps ops = true → ps.length = ops.length ∧ ∀ (i : Nat) (o : Oper) (p : Nat), ops[i]? = some o → ps[i]? = some p →
      (match p with
       | 0 => floats o.op && ((match o.guard with | none => true | some _ => false) && ((match o.dst with | some d => noneReads all.toArray d (all.take (k + i + 1)) | none => false) && noneWrites (opTmpsB o.op.operands.toList) (plan.take (k + i)) (all.take (k + i))))
       | 1 => planOkFrom.noThree (plan.take (k + i))
       | 2 => planOkFrom.noThree (plan.take (k + i)) && ((match o.guard with | none => true | some _ => false) && (match o.dst with | some d => noneReads all.toArray d ((plan.zip all).filterMap fun x => bif Nat.beq x.1 3 then none else some x.2) | none => false))
       | 3 => coversB (cloOf all (all.length * all.length + all.length + 2) [k + i] []) 0 (plan.take (k + i))
       | _ => false) = true := by
    intro ps
    induction ps with
    | nil =>
      intro ops k h
      cases ops with
      | nil => exact ⟨rfl, fun i o p h => by simp at h⟩
      | cons => cases h
    | cons p0 ps ih =>
      intro ops k h
      cases ops with
      | nil => cases h
      | cons o0 ops =>
        simp only [planOkFrom, Bool.and_eq_true] at h
        obtain ⟨h1, h2⟩ := h
        obtain ⟨g1, g2⟩ := ih ops (k + 1) h2
        refine ⟨by simp [g1], fun i o p ho hp => ?_⟩
        cases i with
        | zero => simp at ho hp; subst ho; subst hp; exact h1
        | succ i =>
          have := g2 i o p (by simpa using ho) (by simpa using hp)
          rw [show k + (i + 1) = k + 1 + i by omega]; exact this
  obtain ⟨hl, hk⟩ := key plan all 0 h
  refine ⟨hl, fun i o ho => ?_⟩
  have hi : i < plan.length := by have := lt_len ho; omega
  have hp : plan[i]? = some plan[i] := List.getElem?_eq_getElem hi
  have := hk i o _ ho hp
  simp only [Nat.zero_add] at this
  have take3 : ∀ {j : Nat}, planOkFrom.noThree (plan.take i) = true → j < i → plan[j]? ≠ some 3 := by
    intro j hn hj hq
    exact noThree_spec hn 3 (List.mem_of_getElem? (i := j) (by rw [List.getElem?_take, if_pos hj]; exact hq)) rfl
  split at this
  · rename_i he
    simp only [Bool.and_eq_true] at this
    obtain ⟨h1, h2, h3, h4⟩ := this
    cases hd : o.dst with
    | none => rw [hd] at h3; cases h3
    | some d =>
      rw [hd] at h3
      refine .t d (he ▸ hp) h1 ?_ hd (fun j oj hj hoj => ?_) (fun j oj d' hj hpj hoj hdj hm => ?_)
      · cases hg : o.guard with
        | none => rfl
        | some _ => rw [hg] at h2; cases h2
      · exact noneReads_spec h3 oj (List.mem_of_getElem? (i := j) (by rw [List.getElem?_take, if_pos (by omega)]; exact hoj))
      · have hjl : j < plan.length := by omega
        refine hpj ?_
        have := noneWrites_spec h4 j plan[j] oj d' (by rw [List.getElem?_take, if_pos hj]; exact List.getElem?_eq_getElem hjl) (by rw [List.getElem?_take, if_pos hj]; exact hoj) hdj (opTmpsB_mem.2 hm)
        rw [List.getElem?_eq_getElem hjl, this]
  · rename_i he; exact .q (he ▸ hp) (fun j hj => take3 this hj)
  · rename_i he
    simp only [Bool.and_eq_true] at this
    obtain ⟨h1, h2, h3⟩ := this
    cases hd : o.dst with
    | none => rw [hd] at h3; cases h3
    | some d =>
      rw [hd] at h3
      refine .f d (he ▸ hp) (fun j hj => take3 h1 hj) ?_ hd (fun j oj hoj hpj => ?_)
      · cases hg : o.guard with
        | none => rfl
        | some _ => rw [hg] at h2; cases h2
      · have hjl : j < plan.length := by have := lt_len hoj; omega
        refine noneReads_spec h3 oj (List.mem_filterMap.2 ⟨(plan[j], oj), List.mem_of_getElem? (i := j) (by rw [List.getElem?_zip_eq_some]; exact ⟨List.getElem?_eq_getElem hjl, hoj⟩), ?_⟩)
        have : Nat.beq plan[j] 3 = false := nbeq_of (fun h => hpj (by rw [List.getElem?_eq_getElem hjl, h]))
        simp only [this]; rfl
  · rename_i he
    refine .s (he ▸ hp) fun Q hQ hQi j hj hpj => ?_
    have hjl : j < plan.length := by omega
    have hm := coversB_spec this j plan[j] (by rw [List.getElem?_take, if_pos hj]; exact List.getElem?_eq_getElem hjl) (fun h => hpj (by rw [List.getElem?_eq_getElem hjl, h]))
    rw [Nat.zero_add] at hm
    exact cloOf_inv hQ _ [i] [] (fun x hx => by simp at hx; rw [hx]; exact hQi) (fun x hx => by cases hx) j hm
  · cases this
end Go.Vc
