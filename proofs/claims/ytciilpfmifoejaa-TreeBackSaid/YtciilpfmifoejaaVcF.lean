/- A part of the proof: lemmas and walks that the last text of the claim joins; no condition. -/
import Derived.Test.YtciilpfmifoejaaVcE
import Derived.ControlIn
import Derived.RangeFuncLeaves
import Derived.RangeFuncRecord
namespace Go.Vc
set_option autoImplicit false
set_option linter.unusedVariables false

def purge : List Nat → Env → Env
  | [], _ => []
  | k :: L, σ =>
    match σ.get k with
    | some (none, sv) => (k, none, sv) :: purge L σ
    | _ => purge L σ
theorem purgeK_eq (L : List Nat) (σ : Env) : ∀ (K : Env → Prop), purgeK L σ K = K (purge L σ) := by
  induction L with
  | nil => intro K; rfl
  | cons k L ih =>
    intro K
    unfold purgeK purge
    cases hq : σ.get k with
    | none => simp only [ih]
    | some p =>
      obtain ⟨g, sv⟩ := p
      cases g <;> simp only [ih]
theorem purge_get {L : List Nat} {σ : Env} {k : Nat} {g sv} (h : Env.get (purge L σ) k = some (g, sv)) : g = none ∧ Env.get σ k = some (none, sv) := by
  induction L with
  | nil => simp [purge, Env.get] at h
  | cons x L ih =>
    unfold purge at h
    split at h
    · rename_i sv' hx
      rw [get_cons] at h
      cases hb : Nat.beq x k with
      | true =>
        obtain rfl := beq_of hb
        rw [hb] at h
        simp only [cond_true, Option.some.injEq, Prod.mk.injEq] at h
        obtain ⟨rfl, rfl⟩ := h
        exact ⟨rfl, hx⟩
      | false => rw [hb] at h; exact ih h
    · exact ih h
theorem purge_noGd (L : List Nat) (σ : Env) : NoGd (purge L σ) := fun k g sv h => (purge_get h).1
theorem Sat.purge {B : Base} {e N r β σ Φ a w} (s : Sat B e N r β σ Φ a w) (L : List Nat) : Sat B e N r β (purge L σ) Φ a w :=
  ⟨fun k g sv h => by obtain ⟨rfl, h2⟩ := purge_get h; exact s.agree k none sv h2, s.mem, s.G, s.le, s.hid, s.defers, s.size⟩
/-! Entailments. -/

def mergeF (F Φ : Phi) : Phi := F ++ Φ.filter fun x => !hasId F x.1
theorem restK_eq (F Φ : Phi) : ∀ (K : Phi → Prop), restK F Φ K = K (Φ.filter fun x => !hasId F x.1) := by
  induction Φ with
  | nil => intro K; rfl
  | cons x r ih =>
    intro K
    obtain ⟨k, c⟩ := x
    unfold restK
    cases hb : hasId F k with
    | true => simp only [cond_true, ih, List.filter_cons, hb]; rfl
    | false => simp only [cond_false, ih, List.filter_cons, hb]; rfl
theorem mergeK_eq (F R : Phi) : ∀ (K : Phi → Prop), mergeK F R K = K (F ++ R) := by
  induction F with
  | nil => intro K; rfl
  | cons x F ih => intro K; unfold mergeK; rw [ih]; rfl
theorem headK_eq (L : List Nat) (U : List (Nat × SV)) (F : Phi) (σ : Env) (Φ : Phi) (K : Env → Phi → Prop) : headK L U F σ Φ K = K (purge L (updE U σ)) (mergeF F Φ) := by
  unfold headK
  rw [purgeK_eq, restK_eq, mergeK_eq]; rfl

theorem phi_filter (F Φ : Phi) (id : Nat) (h : hasId F id = false) : Phi.get (Φ.filter fun x => !hasId F x.1) id = Phi.get Φ id := by
  induction Φ with
  | nil => rfl
  | cons x r ih =>
    obtain ⟨k, c⟩ := x
    simp only [List.filter_cons]
    cases hb : Nat.beq k id with
    | true =>
      obtain rfl := beq_of hb
      simp only [h, Bool.not_false, if_true, Phi.get, Nat.beq_refl, cond_true]
    | false =>
      cases hasId F k with
      | true => simp only [Bool.not_true, Bool.false_eq_true, if_false, Phi.get, hb, cond_false]; exact ih
      | false => simp only [Bool.not_false, if_true, Phi.get, hb, cond_false]; exact ih
theorem mergeF_keep {F Φ : Phi} {id : Nat} {c : Chunk} (h : Phi.get Φ id = some c) : ∃ c', Phi.get (mergeF F Φ) id = some c' := by
  unfold mergeF
  rw [phi_app]
  cases hF : Phi.get F id with
  | some c' => exact ⟨c', rfl⟩
  | none =>
    rw [phi_filter F Φ id (by simp [hasId, hF])]
    exact ⟨c, h⟩


/-! Code. -/

theorem stepR_scope {P : Program} {b : Frame} {a : Act} {k : List Item} {cs : List Frame} {w : World} {c : Code} : step P (lone (b.atR a (.code (.scope c) :: k)) cs w) = .next (lone (b.atR a (.code c :: .inScope c :: k)) cs w) :=
  step_lone_go (by simp [stepG, stepG.exec, Frame.atR])
theorem stepR_inScope {P : Program} {b : Frame} {a : Act} {k : List Item} {cs : List Frame} {w : World} {c : Code} : step P (lone (b.atR a (.inScope c :: k)) cs w) = .next (lone (b.atR a k) cs w) :=
  step_lone_go (by simp [stepG, stepG.exec, Frame.atR])

def Exit.noGoto' (Q : Exit → Act → World → Prop) : Exit → Act → World → Prop
  | .goto _, _, _ => False
  | e, a, w => Q e a w
theorem wpIn_scope_straight {F : Fence} {n : Nat} {P : Program} {Q : Exit → Act → World → Prop} {a : Act} {w : World} {c : Code} (h : c.wpIn F n P (Exit.noGoto' Q) a w) : (Code.scope c).wpIn F n P Q a w := by
  intro b k cs hro hb hr
  have h0 : (lone (b.atR a (.code (.scope c) :: k)) cs w).fenced P F := fenced_calm hb hr rfl
  obtain ⟨e, a₁, w₁, hq, harr⟩ := h b (.inScope c :: k) cs hro hb hr
  cases e with
  | normal => exact ⟨.normal, a₁, w₁, hq, .head h0 stepR_scope (StepsIn.trans harr (.one (fenced_calm hb hr rfl) stepR_inScope))⟩
  | exit id =>
    have hx : exitTo id (.inScope c :: k) = exitTo id k := by simp [exitTo]
    exact ⟨.exit id, a₁, w₁, hq, fun k' hk => .head h0 stepR_scope (harr.1 k' (by rw [hx]; exact hk)),
      fun hr' hk => let ⟨k₁, h1, h2⟩ := harr.2 hr' (by rw [hx]; exact hk); ⟨k₁, h1, .head h0 stepR_scope h2⟩⟩
  | goto l => exact hq.elim
  | ret => exact ⟨_, a₁, w₁, hq, .of_steps (.one h0 stepR_scope) harr⟩
  | panic ch => exact ⟨_, a₁, w₁, hq, .of_steps (.one h0 stepR_scope) harr⟩
  | outgrown => exact ⟨_, a₁, w₁, hq, .of_steps (.one h0 stepR_scope) harr⟩

/-- a loop: a relation that bears a number, which every round lowers -/
theorem wpIn_loop_ghost {F : Fence} {n : Nat} {P : Program} {Q : Exit → Act → World → Prop} {a : Act} {w : World} {c : Code} (I : Nat → Act → World → Prop) (n₀ : Nat) (h₀ : I n₀ a w)
    (round : ∀ j a w, I j a w → c.wpIn F n P (Exit.then (fun a' w' => ∃ j', j' < j ∧ I j' a' w') Q) a w) : (Code.loop c).wpIn F n P Q a w := by
  intro b k cs hro hb hr
  have key : ∀ j a w, I j a w → ∃ e a' w', Q e a' w' ∧ ArrivesIn (Machine.fenced P F) P (lone (b.atR a (.code c :: .inLoop c :: k)) cs w) b k cs e a' w' := by
    intro j
    induction j using Nat.strongRecOn with
    | _ j ih =>
      intro a w hI
      obtain ⟨e, a₁, w₁, hq, harr⟩ := round j a w hI b (.inLoop c :: k) cs hro hb hr
      cases e with
      | normal =>
        obtain ⟨j', hlt, hI₁⟩ := hq
        obtain ⟨e₂, a₂, w₂, hq₂, harr₂⟩ := ih j' hlt a₁ w₁ hI₁
        exact ⟨e₂, a₂, w₂, hq₂, .of_steps (StepsIn.trans harr (.one (fenced_calm hb hr rfl) stepR_inLoop)) harr₂⟩
      | exit id => exact ⟨_, a₁, w₁, hq, .pass (x := .inLoop c) rfl (fun _ _ => .inl (by simp)) harr⟩
      | goto l => exact ⟨_, a₁, w₁, hq, .pass (x := .inLoop c) rfl (fun _ _ => .inl (by simp)) harr⟩
      | ret => exact ⟨_, a₁, w₁, hq, .pass (x := .inLoop c) rfl (fun _ _ => .inl (by simp)) harr⟩
      | panic ch => exact ⟨_, a₁, w₁, hq, .pass (x := .inLoop c) rfl (fun _ _ => .inl (by simp)) harr⟩
      | outgrown => exact ⟨_, a₁, w₁, hq, .pass (x := .inLoop c) rfl (fun _ _ => .inl (by simp)) harr⟩
  obtain ⟨e, a', w', hq, harr⟩ := key _ a w h₀
  exact ⟨e, a', w', hq, .of_steps (.one (fenced_calm hb hr rfl) stepR_loop) harr⟩

def Out (B : Base) (e : Entry) (N : Nat) (K : KT) (ex : Ex) (a : Act) (w : World) : Prop :=
  ∃ r β σ Φ n, K ex σ Φ n ∧ Sat B e N r β σ Φ a w ∧ NoGd σ
def QK (B : Base) (e : Entry) (N : Nat) (K : KT) : Exit → Act → World → Prop
  | .normal, a, w => Out B e N K .normal a w
  | .exit i, a, w => Out B e N K (.exit i) a w
  | .ret, a, w => Out B e N K .ret a w
  | _, _, _ => False

theorem vc_sound {B : Base} {e N ro} {L : List Nat} {pl : List (Nat × List Nat)} : ∀ (c : Code) (K : KT) (r : Mem) (β : Bind) (σ : Env) (Φ : Phi) (n : Nat) (a : Act) (w : World),
    vc B L pl c K σ Φ n → codeOk N pl c = true → Sat B e N r β σ Φ a w → NoGd σ → c.wpIn (fc ro) 0 B.P (QK B e N K) a w := by
  intro c
  induction c with
  | skip => intro K r β σ Φ n a w h _ s hng; exact wpIn_skip ⟨r, β, σ, Φ, n, h, s, hng⟩
  | region id ops draw =>
    intro K r β σ Φ n a w h hok s hng
    obtain ⟨ops⟩ := ops
    simp only [codeOk, Bool.and_eq_true] at hok
    obtain ⟨h1, h2, h3, h4⟩ := hok
    have ok := regOk_of h1 h2 h3
    simp only [vc] at h
    obtain ⟨_, σ1, Φ1, r1, h, s1, _, hD1⟩ := frzK_sound h s (vs := []) ⟨rfl, fun i sv v h => by simp at h⟩
    have hng1 : NoGd σ1 := fun k g sv hg => by
      cases g with
      | none => rfl
      | some p => obtain ⟨s0, w0⟩ := p; exact (List.not_mem_nil (hD1 [] (hng.gdIn _) k s0 w0 sv hg)).elim
    have fin : ∀ r β σ Φ n a w, (purgeK L σ fun σ => K .normal σ Φ n) → Sat B e N r β σ Φ a w → QK B e N K .normal a w := by
      intro r β σ Φ n a w hk s'
      rw [purgeK_eq] at hk
      exact ⟨r, β, _, Φ, n, hk, s'.purge L, purge_noGd L σ⟩
    cases draw with
    | false => exact region_seq ok (K := fun σ Φ n => purgeK L σ fun σ => K .normal σ Φ n) fin h s1 (hng1.gdIn _)
    | true =>
      simp only [Bool.not_true, Bool.false_or, Bool.and_eq_true] at h4
      exact region_draw ok h4.1 h4.2 (K := fun σ Φ n => purgeK L σ fun σ => K .normal σ Φ n) fin h s1 hng1
  | seq x y ihx ihy =>
    intro K r β σ Φ n a w h hok s hng
    simp only [codeOk, Bool.and_eq_true] at hok
    simp only [vc] at h
    refine wpIn_seq (wpIn_mono (ihx _ r β σ Φ n a w h hok.1 s hng) fun ex a' w' hq => ?_)
    cases ex with
    | normal => obtain ⟨r', β', σ', Φ', n', hk, s', hng'⟩ := hq; exact ihy K r' β' σ' Φ' n' a' w' hk hok.2 s' hng'
    | exit i => exact hq
    | ret => exact hq
    | goto l => exact hq.elim
    | panic ch => exact hq.elim
    | outgrown => exact hq.elim
  | cond c x y ihx ihy =>
    intro K r β σ Φ n a w h hok s hng
    simp only [codeOk, Bool.and_eq_true] at hok
    simp only [vc] at h
    obtain ⟨sv, hk, hr⟩ := opK_sound h
    cases sv <;> simp only at hk
    rename_i b
    have hv := hr _ r β a _ (hasT _) (Sm.plain s.agree)
    generalize hq : a.eval c = v at hv
    cases hv
    exact wpIn_cond_split hq (fun hb => ihx K r β σ Φ n a w (hk.1 hb) hok.1 s hng) (fun hb => ihy K r β σ Φ n a w (hk.2 hb) hok.2 s hng)
  | block id c ih =>
    intro K r β σ Φ n a w h hok s hng
    simp only [codeOk] at hok
    simp only [vc] at h
    refine wpIn_block (wpIn_mono (ih _ r β σ Φ n a w h hok s hng) fun ex a' w' hq => ?_)
    cases ex with
    | normal => exact hq
    | exit i =>
      obtain ⟨r', β', σ', Φ', n', hk, s', hng'⟩ := hq
      simp only [Exit.inBlock]
      by_cases hi : i = id
      · subst hi
        rw [if_pos rfl]
        simp only [Nat.beq_refl, cond_true] at hk
        exact ⟨r', β', σ', Φ', n', hk, s', hng'⟩
      · rw [if_neg hi]
        simp only [nbeq_of hi, cond_false] at hk
        exact ⟨r', β', σ', Φ', n', hk, s', hng'⟩
    | ret => exact hq
    | goto l => exact hq.elim
    | panic ch => exact hq.elim
    | outgrown => exact hq.elim
  | loop c ih =>
    intro K r β σ Φ n a w h hok s hng
    simp only [codeOk] at hok
    simp only [vc] at h
    cases h with
    | mk U F m C μ a0 h0 he hr =>
      rename_i α
      have head : ∀ x, NoGd (purge L (updE (U x) σ)) := fun x => purge_noGd _ _
      have hks : ∀ id ch, Phi.get e.Φ id = some ch → ch.kind ≠ 0 → ∃ ch0, Phi.get Φ id = some ch0 ∧ ch0.kind = ch.kind := fun id ch h hk => (s.hid.keep id ch h hk).2
      refine wpIn_loop_ghost (fun k a' w' => ∃ x, C x ∧ μ x = k ∧ ∃ r' β', Sat B e N r' β' (purge L (updE (U x) σ)) (mergeF (F x) Φ) a' w') (μ a0) ?_ ?_
      · rw [headK_eq] at he
        exact ⟨a0, h0, rfl, ent_sat s he (head a0) hks⟩
      · rintro k a' w' ⟨x, hx, rfl, r', β', s'⟩
        have hbody := hr x hx
        rw [headK_eq] at hbody
        refine wpIn_mono (ih _ r' β' _ _ m a' w' hbody hok s' (head x)) fun ex a'' w'' hq => ?_
        cases ex with
        | normal =>
          obtain ⟨r2, β2, σ2, Φ2, n2, ⟨⟨x', hx', hlt, hent⟩⟩, s2, hng2⟩ := hq
          rw [headK_eq] at hent
          exact ⟨μ x', hlt, x', hx', rfl, ent_sat s2 hent (head x') hks⟩
        | exit i => exact hq
        | ret => exact hq
        | goto l => exact hq.elim
        | panic ch => exact hq.elim
        | outgrown => exact hq.elim
  | exit id => intro K r β σ Φ n a w h _ s hng; exact wpIn_exit ⟨r, β, σ, Φ, n, h, s, hng⟩
  | ret => intro K r β σ Φ n a w h _ s hng; exact wpIn_ret ⟨r, β, σ, Φ, n, h, s, hng⟩
  | scope c ih =>
    intro K r β σ Φ n a w h hok s hng
    simp only [codeOk] at hok
    simp only [vc] at h
    refine wpIn_scope_straight (wpIn_mono (ih K r β σ Φ n a w h hok s hng) fun ex a' w' hq => ?_)
    cases ex <;> first | exact hq | exact hq.elim
  | rangeFunc f ps x y _ _ => intro K r β σ Φ n a w h; exact h.elim
  | label l => intro K r β σ Φ n a w h; exact h.elim
  | goto l => intro K r β σ Φ n a w h; exact h.elim
  | refuse y => intro K r β σ Φ n a w h; exact h.elim

end Go.Vc

namespace Go.Vc
set_option autoImplicit false
set_option linter.unusedVariables false

theorem getElem_of_len {α β : Type _} {l : List α} {l' : List β} (h : l.length = l'.length) {i : Nat} {b : β} (hb : l'[i]? = some b) : ∃ a, l[i]? = some a := by
  rcases Nat.lt_or_ge i l.length with hi | hi
  · exact ⟨l[i], List.getElem?_eq_getElem hi⟩
  · rw [List.getElem?_eq_none (by omega)] at hb; cases hb

/-- a result variable, read -/
def resF (tmps : Array Value) : ResultVar → Sem Value
  | .tmp t => pure (tmps.getD t undef)
  | .cell ad t => do loadVar t (← asAddr (tmps.getD ad undef))
/-- the result variables, read at the end -/
theorem resK_sound {P : Program} {σ Φ} {rs : List ResultVar} : ∀ {K : List SV → Prop}, resK P σ Φ rs K → ∃ l, K l ∧ ∀ r β (a : Act) w, Agree r β σ a.tmps → MemSat r β Φ w →
    ∃ vs, RelL r β l vs ∧ (rs.mapM (resF a.tmps)).run P w = .ok vs w := by
  induction rs with
  | nil => intro K h; exact ⟨[], h, fun r β a w ha m => ⟨[], ⟨rfl, fun i sv v h => by simp at h⟩, rfl⟩⟩
  | cons x rs ih =>
    intro K h
    cases x with
    | tmp t =>
      simp only [resK] at h
      obtain ⟨sv, h, hr⟩ := opK_sound h
      obtain ⟨l, hk, hl⟩ := ih h
      refine ⟨_, hk, fun r β a w ha m => ?_⟩
      obtain ⟨vs, h1, h2⟩ := hl r β a w ha m
      refine ⟨_, RelL.cons (hr _ r β a _ (hasT _) (Sm.plain ha)) h1, ?_⟩
      simp only [List.mapM_cons, resF, Sem.run_bind, Sem.run_pure, Result.andThen_ok, h2]
      rfl
    | cell ad t =>
      simp only [resK] at h
      obtain ⟨sv, h, hr⟩ := opK_sound h
      cases sv <;> simp only at h
      rename_i id off
      split at h
      · rename_i cs hg
        obtain ⟨sv', h, hp⟩ := partK_sound h
        obtain ⟨l, hk, hl⟩ := ih h
        refine ⟨_, hk, fun r β a w ha m => ?_⟩
        obtain ⟨vs, h1, h2⟩ := hl r β a w ha m
        have hloc := hr _ r β a _ (hasT _) (Sm.plain ha)
        generalize hq : a.eval (.tmp ad) = v at hloc
        cases hloc with
        | loc hβ =>
          rename_i b
          have hs := m.chs _ _ hg
          cases hs with
          | box hxb hw hlen hc =>
            rename_i b' c T
            rw [hβ] at hxb
            obtain rfl : b = b' := by simpa using hxb
            obtain ⟨v, hrel, _, hload⟩ := hp r β c.toList (toList_rel hlen hc)
            refine ⟨_, RelL.cons hrel h1, ?_⟩
            have hl2 := hload w b 0 (fun j u hj => by rw [cell_of_block hw]; simpa using hj)
            simp only [Nat.zero_add] at hl2
            have hq' : a.tmps.getD ad undef = .pointer (some ⟨b, off, none⟩) := hq
            simp only [List.mapM_cons, resF, Sem.run_bind, hq', asAddr, Sem.run_pure, Result.andThen_ok, hl2, h2]
      · exact h.elim

theorem tup_rel {r β l vs} (h : RelL r β l vs) : Rel r β (tupSV l) (if h : vs.toArray.size = 1 then vs.toArray[0] else .tuple vs.toArray) := by
  obtain ⟨h1, h2⟩ := h
  match l, vs, h1 with
  | [], [], _ => exact .tup (cs := []) rfl (fun i sv v h => by simp at h)
  | [x], [v], _ => exact h2 0 x v rfl rfl
  | x :: y :: l, v :: u :: vs, h1 =>
    rw [dif_neg (by simp)]
    exact .tup h1 h2

theorem results_run {P : Program} {fn : Func} {tmps : Array Value} {vs : List Value} {w : World}
    (h : (fn.results.toList.mapM (resF tmps)).run P w = .ok vs w) :
    (results fn tmps).run P w = .ok (if h : vs.toArray.size = 1 then vs.toArray[0] else .tuple vs.toArray) w := by
  have e : results fn tmps = (do let vs ← fn.results.mapM (resF tmps); pure (if h : vs.size = 1 then vs[0] else .tuple vs)) := by
    unfold results
    congr 2
  rw [e, Sem.run_bind]
  have : (fn.results.mapM (resF tmps)).run P w = .ok vs.toArray w := by
    rw [← Array.toArray_toList (xs := fn.results), List.mapM_toArray, Sem.run_map]
    rw [h]
    rfl
  rw [this]
  rfl

theorem argE_get {args : List SV} : ∀ {i k : Nat} {g sv}, Env.get (argE i args) k = some (g, sv) → g = none ∧ i ≤ k ∧ args[k - i]? = some sv := by
  induction args with
  | nil => intro i k g sv h; simp [argE, Env.get] at h
  | cons x l ih =>
    intro i k g sv h
    simp only [argE] at h
    rw [get_cons] at h
    cases hb : Nat.beq i k with
    | true =>
      obtain rfl := beq_of hb
      rw [hb] at h
      simp only [cond_true, Option.some.injEq, Prod.mk.injEq] at h
      obtain ⟨rfl, rfl⟩ := h
      exact ⟨rfl, Nat.le_refl _, by simp⟩
    | false =>
      rw [hb] at h
      obtain ⟨h1, h2, h3⟩ := ih h
      refine ⟨h1, by omega, ?_⟩
      rw [show k - i = (k - (i + 1)) + 1 by omega]
      simpa using h3


theorem setObj_get {w : World} {D : Nat} {o : Obj} {b : Nat} (h : b ≠ D) : ({ w with heap := w.heap.setIfInBounds D o } : World).heap[b]? = w.heap[b]? := by
  show (w.heap.setIfInBounds D o)[b]? = _
  exact Array.getElem?_setIfInBounds_ne (Ne.symm h)

/-- a frame with nothing but marks among its deferred calls, on its way out -/
theorem leaves_marks {F : Fence} {n : Nat} {P : Program} {fn : Func} {tmps : Array Value} {R : Ending → World → Prop} {r : Mem} {β : Bind} {Φ : Phi} {lo : Nat} :
    ∀ (Ds : List Nat) (w : World), Ds.Nodup → (∀ D ∈ Ds, lo ≤ D ∧ w.heap[D]? = some (.deferred (some [])) ∧ r D = none ∧ ∀ id ch, Phi.get Φ id = some ch → ch.blk (β id) ≠ some D) → MemSat r β Φ w →
    (∀ w', MemSat r β Φ w' → w'.os = w.os → w'.tape = w.tape → w'.output = w.output → w'.heap.size = w.heap.size → (∀ b, b < lo → w'.heap[b]? = w.heap[b]?) → ∃ v, (results fn tmps).run P w' = .ok v w' ∧ R (.returned v) w') →
    LeavesInM F n P fn tmps R (Ds.map (fun D => { target := .collected D, args := #[] })) .returning w := by
  intro Ds
  induction Ds with
  | nil => intro w _ _ m h; exact h w m rfl rfl rfl rfl (fun _ _ => rfl)
  | cons D Ds ih =>
    intro w hnd hD m h
    obtain ⟨g1, g2, g3, g4⟩ := hD D (by simp)
    have hnd' := List.nodup_cons.1 hnd
    refine ⟨by simp, .inl ⟨D, _, rfl, run_takeDeferred g2, ?_⟩⟩
    have get : ∀ b, b ≠ D → (w.putObj D (.deferred none)).heap[b]? = w.heap[b]? := fun b hb => setObj_get hb
    refine ih _ hnd'.2 (fun D' hD' => ?_) ⟨fun b o hb => ?_, fun id ch hi => ?_, m.sep, m.nod⟩ (fun w' m' e1 e2 e3 e4 e5 => h w' m' e1 e2 e3 (e4.trans (by simp [World.putObj])) (fun b hb => (e5 b hb).trans (get b (by omega))))
    · obtain ⟨k1, k2, k3, k4⟩ := hD D' (by simp [hD'])
      exact ⟨k1, (get D' (fun he => hnd'.1 (he ▸ hD'))).trans k2, k3, k4⟩
    · rw [get b (fun he => by rw [he, g3] at hb; cases hb)]; exact m.vis b o hb
    · exact (m.chs _ _ hi).keep (Mem.le_refl r) (fun b hb => get b (fun he => g4 id ch hi (he ▸ hb))) (fun _ _ _ _ _ _ h => h)

theorem body_ct {B : Base} {f : FuncId} {fn : Func} {c : Code} {args : List SV} {Φ0 Φ' : Phi} {res : SV} {N : Nat} (L : List Nat) (pl : List (Nat × List Nat)) (n : Nat)
    (hf : B.P.funcs[f]? = some fn) (hb : fn.body = some c) (hN : fn.ntmps = N) (hok : (Nat.ble args.length N && codeOk N pl c) = true)
    (h : vc B L pl c (retKT B.P fn.results.toList res Φ0 Φ') (argE 0 args) Φ0 n) : Ct B f args Φ0 fun sv Φ1 => sv = res ∧ Φ1 = Φ' := by
  simp only [Bool.and_eq_true] at hok
  obtain ⟨hlen, hok⟩ := hok
  have hlen := Nat.le_of_ble_eq_true hlen
  intro r β w vs hG m hl
  refine callsIn_fc (ro := none) (n := 0) |>.1 ?_
  refine callsIn_of_wp_marks hf hb trivial ?_ rfl
  have hvl : vs.length = args.length := hl.1
  have hsz : vs.toArray.size = args.length := by simpa using hvl
  rw [hN]
  have hget : ∀ (k : Nat) (v : Value), vs[k]? = some v → (vs.toArray ++ Array.replicate (N - vs.toArray.size) undef)[k]? = some v := by
    intro k v hk
    have : k < vs.length := lt_len hk
    rw [Array.getElem?_append_left (by simpa using this)]
    simpa using hk
  have s : Sat B ⟨r, β, Φ0, w⟩ N r β (argE 0 args) Φ0 { tmps := vs.toArray ++ Array.replicate (N - vs.toArray.size) undef, defers := [] } w := by
    refine ⟨fun k g sv hg => ?_, m, hG, Mem.le_refl r, Hid.refl .., ⟨[], rfl, List.nodup_nil, fun D hD => (List.not_mem_nil hD).elim⟩, by simp; omega⟩
    obtain ⟨rfl, _, hk⟩ := argE_get hg
    have hk : args[k]? = some sv := by simpa using hk
    obtain ⟨v, hv⟩ := getElem_of_len hvl hk
    exact ⟨v, hget k v hv, hl.2 k sv v hk hv⟩
  have hng : NoGd (argE 0 args) := fun k g sv hg => (argE_get hg).1
  refine wpIn_mono (vc_sound (ro := none) c _ r β (argE 0 args) Φ0 n _ w h hok s hng) fun ex a' w' hq => ?_
  have fin : ∀ {ex}, (∀ i, ex ≠ Ex.exit i) → Out B ⟨r, β, Φ0, w⟩ N (retKT B.P fn.results.toList res Φ0 Φ') ex a' w' →
      LeavesInM (fc none) 0 B.P fn a'.tmps (fun e w' => ∃ v sv r' β' Φ1, e = .returned v ∧ (sv = res ∧ Φ1 = Φ') ∧ Rel r' β' sv v ∧ MemSat r' β' Φ1 w' ∧ r.le r' ∧ Hid r β Φ0 w r' β' Φ1 w') a'.defers .returning w' := by
    intro ex hex ⟨r', β', σ', Φ1, n', hk, s', _⟩
    have hk : resK B.P σ' Φ1 fn.results.toList fun l => Fin (matK [(0, none, tupSV l)] Φ1 [(0, none, res)] Φ' Φ0) := by
      cases ex with
      | exit i => exact (hex i rfl).elim
      | normal => exact hk
      | ret => exact hk
    obtain ⟨l, hfin, hl'⟩ := resK_sound hk
    obtain ⟨Ds, hds, hnd, hD⟩ := s'.defers
    rw [hds]
    refine leaves_marks (r := r') (β := β') (Φ := Φ1) (lo := w.heap.size) Ds w' hnd hD s'.mem fun w2 m2 e1 e2 e3 e4 e5 => ?_
    obtain ⟨us, hus, hrun⟩ := hl' r' β' a' w2 s'.agree m2
    obtain ⟨r2, β2, hle, m3, hE, hH, hK⟩ := mat_mem hfin.h m2
    refine ⟨_, results_run hrun, _, res, r2, β2, Φ', rfl, ⟨rfl, rfl⟩, ?_, m3, Mem.le_trans s'.le hle, ?_⟩
    · obtain ⟨sv, q1, q2⟩ := hE 0 none res rfl
      cases q1
      exact q2 _ (tup_rel hus)
    · refine ⟨e1.trans s'.hid.os, e2.trans s'.hid.tape, e3.trans s'.hid.output, by rw [e4]; exact s'.hid.size, fun b hb' h1 h2 => ?_, fun id ch hi hk => ?_⟩
      · obtain ⟨q1, q2, q3⟩ := s'.hid.block b hb' h1 h2
        exact ⟨(e5 b hb').trans q1, hH b q2 q3⟩
      · obtain ⟨q1, _⟩ := s'.hid.keep id ch hi hk
        obtain ⟨p1, p2⟩ := hK id ch hi hk
        exact ⟨p1.trans q1, p2⟩
  cases ex with
  | normal => exact fin (by intro i h; cases h) hq
  | ret => exact fin (by intro i h; cases h) hq
  | exit i =>
    obtain ⟨r', β', σ', Φ1, n', hk, _⟩ := hq
    exact hk.elim
  | goto l => exact hq.elim
  | panic ch => exact hq.elim
  | outgrown => exact hq.elim

/-- A FUNCTION OF PLAIN DATA. -/
theorem Fn.intro {B : Base} {f : FuncId} {fn : Func} {c : Code} {args : List SV} {pre : Prop} {res : SV} {N : Nat} (L : List Nat) (pl : List (Nat × List Nat))
    (call : ∀ (vs : Array Value) (w : World), (callFunc f vs).run B.P w = .ok (.enter f vs) w)
    (hf : B.P.funcs[f]? = some fn) (hb : fn.body = some c) (hN : fn.ntmps = N) (hok : (Nat.ble args.length N && codeOk N pl c) = true)
    (h : pre → vc B L pl c (retKT B.P fn.results.toList res [] []) (argE 0 args) [] 0) : Fn B f args pre res :=
  ⟨call, fun hp => body_ct L pl 0 hf hb hN hok (h hp)⟩
/-- A FUNCTION THAT IS HANDED CHUNKS, OR MAKES SOME. -/
theorem FnM.intro {B : Base} {f : FuncId} {fn : Func} {c : Code} {args : List SV} {Φ : Phi} {pre : Prop} {res : SV} {Φ' : Phi} {N : Nat} (L : List Nat) (pl : List (Nat × List Nat)) (n : Nat)
    (call : ∀ (vs : Array Value) (w : World), (callFunc f vs).run B.P w = .ok (.enter f vs) w)
    (hf : B.P.funcs[f]? = some fn) (hb : fn.body = some c) (hN : fn.ntmps = N) (hok : (Nat.ble args.length N && codeOk N pl c) = true)
    (h : pre → vc B L pl c (retKT B.P fn.results.toList res Φ Φ') (argE 0 args) Φ n) : FnM B f args Φ pre res Φ' :=
  ⟨call, fun hp => body_ct L pl n hf hb hN hok (h hp)⟩

theorem absTF {p : Prop} (h : true = false) : p := nomatch h
theorem absFT {p : Prop} (h : false = true) : p := nomatch h
/-- A contract of the kit's that leaves the world as it is. -/
theorem Fn.lift {B : Base} {f : FuncId} {args : List SV} {pre : Prop} {res : SV}
    (call : ∀ (vs : Array Value) (w : World), (callFunc f vs).run B.P w = .ok (.enter f vs) w)
    (h : pre → ∀ (r : Mem) (β : Bind) (w : World) (vs : List Value), B.G r → MemSat r β [] w → RelL r β args vs →
      ∃ v, Calls B.P f vs.toArray w (fun e w' => e = .returned v ∧ w' = w) ∧ Rel r β res v) : Fn B f args pre res := by
  refine ⟨call, fun hp r β w vs hG m hl => ?_⟩
  obtain ⟨v, hc, hr⟩ := h hp r β w vs hG m hl
  refine hc.mono fun e w' hh => ?_
  obtain ⟨rfl, rfl⟩ := hh
  exact ⟨v, res, r, β, [], rfl, ⟨rfl, rfl⟩, hr, m, Mem.le_refl r, Hid.refl ..⟩
theorem RelL.str1 {r : Mem} {β : Bind} {s : List UInt8} {vs : List Value} (h : RelL r β [.str s] vs) : vs = [.string ⟨s.toArray⟩] ∧ s.length ≤ 9223372036854775807 := by
  obtain ⟨hl, h⟩ := h
  match vs, hl with
  | [a], _ =>
    have h0 := h 0 _ a rfl rfl
    cases h0 with
    | str k => exact ⟨rfl, k⟩
theorem RelL.str2 {r : Mem} {β : Bind} {s t : List UInt8} {vs : List Value} (h : RelL r β [.str s, .str t] vs) :
    vs = [.string ⟨s.toArray⟩, .string ⟨t.toArray⟩] ∧ s.length ≤ 9223372036854775807 ∧ t.length ≤ 9223372036854775807 := by
  obtain ⟨hl, h⟩ := h
  match vs, hl with
  | [a, b], _ =>
    have h0 := h 0 _ a rfl rfl
    have h1 := h 1 _ b rfl rfl
    cases h0 with
    | str k => cases h1 with
      | str k1 => exact ⟨rfl, k, k1⟩
end Go.Vc
