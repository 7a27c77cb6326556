/- A part of the proof: lemmas and walks that the last text of the claim joins; no condition. -/
import Derived.Test.YtjnmepijcndcpaaGreatWindowHasVD
import Derived.RangeFuncLeaves
import Derived.RangeFuncRecord
import Derived.Below
set_option linter.unusedVariables false
set_option linter.unusedSimpArgs false
set_option maxHeartbeats 8000000
namespace Go.Vc
set_option autoImplicit false
theorem stepR_scope {P : Program} {b : Frame} {a : Act} {k : List Item} {cs : List Frame} {w : World} {c : Code} : step P (lone (b.atR a (.code (.scope c) :: k)) cs w) = .next (lone (b.atR a (.code c :: .inScope c :: k)) cs w) :=
 step_lone_go (by simp [stepG, stepG.exec, Frame.atR])
theorem stepR_inScope {P : Program} {b : Frame} {a : Act} {k : List Item} {cs : List Frame} {w : World} {c : Code} : step P (lone (b.atR a (.inScope c :: k)) cs w) = .next (lone (b.atR a k) cs w) :=
 step_lone_go (by simp [stepG, stepG.exec, Frame.atR])
def Exit.noGoto' (Q : Exit → Act → World → Prop) : Exit → Act → World → Prop
 | .goto _, _, _ => False
 | e, a, w => Q e a w
theorem wpIn_scope_straight {F : Fence} {n : Nat} {P : Program} {Q : Exit → Act → World → Prop} {a : Act} {w : World} {c : Code} (h : c.wpIn F n P (Exit.noGoto' Q) a w) : (Code.scope c).wpIn F n P Q a w := by
 intro b k cs hro hb hr
 have h0 : (lone (b.atR a (.code (.scope c) :: k)) cs w).fenced P F := fenced_calm hb hr rfl
 obtain ⟨e, a₁, w₁, hq, harr⟩ := h b (.inScope c :: k) cs hro hb hr
 cases e with
 | normal => exact ⟨.normal, a₁, w₁, hq, .head h0 stepR_scope (StepsIn.trans harr (.one (fenced_calm hb hr rfl) stepR_inScope))⟩
 | exit id =>
  have hx : exitTo id (.inScope c :: k) = exitTo id k := by simp [exitTo]
  exact ⟨.exit id, a₁, w₁, hq, fun k' hk => .head h0 stepR_scope (harr.1 k' (by rw [hx]; exact hk)),
   fun hr' hk => let ⟨k₁, h1, h2⟩ := harr.2 hr' (by rw [hx]; exact hk); ⟨k₁, h1, .head h0 stepR_scope h2⟩⟩
 | goto l => exact hq.elim
 | ret => exact ⟨_, a₁, w₁, hq, .of_steps (.one h0 stepR_scope) harr⟩
 | panic ch => exact ⟨_, a₁, w₁, hq, .of_steps (.one h0 stepR_scope) harr⟩
 | outgrown => exact ⟨_, a₁, w₁, hq, .of_steps (.one h0 stepR_scope) harr⟩
theorem wpIn_loop_ghost {F : Fence} {n : Nat} {P : Program} {Q : Exit → Act → World → Prop} {a : Act} {w : World} {c : Code} (I : Nat → Act → World → Prop) (n₀ : Nat) (h₀ : I n₀ a w)
  (round : ∀ j a w, I j a w → c.wpIn F n P (Exit.then (fun a' w' => ∃ j', j' < j ∧ I j' a' w') Q) a w) : (Code.loop c).wpIn F n P Q a w := by
 intro b k cs hro hb hr
 have key : ∀ j a w, I j a w → ∃ e a' w', Q e a' w' ∧ ArrivesIn (Machine.fenced P F) P (lone (b.atR a (.code c :: .inLoop c :: k)) cs w) b k cs e a' w' := by
  intro j
  induction j using Nat.strongRecOn with
  | _ j ih =>
   intro a w hI
   obtain ⟨e, a₁, w₁, hq, harr⟩ := round j a w hI b (.inLoop c :: k) cs hro hb hr
   cases e with
   | normal =>
    obtain ⟨j', hlt, hI₁⟩ := hq
    obtain ⟨e₂, a₂, w₂, hq₂, harr₂⟩ := ih j' hlt a₁ w₁ hI₁
    exact ⟨e₂, a₂, w₂, hq₂, .of_steps (StepsIn.trans harr (.one (fenced_calm hb hr rfl) stepR_inLoop)) harr₂⟩
   | exit id => exact ⟨_, a₁, w₁, hq, .pass (x := .inLoop c) rfl (fun _ _ => .inl (by simp)) harr⟩
   | goto l => exact ⟨_, a₁, w₁, hq, .pass (x := .inLoop c) rfl (fun _ _ => .inl (by simp)) harr⟩
   | ret => exact ⟨_, a₁, w₁, hq, .pass (x := .inLoop c) rfl (fun _ _ => .inl (by simp)) harr⟩
   | panic ch => exact ⟨_, a₁, w₁, hq, .pass (x := .inLoop c) rfl (fun _ _ => .inl (by simp)) harr⟩
   | outgrown => exact ⟨_, a₁, w₁, hq, .pass (x := .inLoop c) rfl (fun _ _ => .inl (by simp)) harr⟩
 obtain ⟨e, a', w', hq, harr⟩ := key _ a w h₀
 exact ⟨e, a', w', hq, .of_steps (.one (fenced_calm hb hr rfl) stepR_loop) harr⟩
theorem ltAll_spec {N : Nat} : ∀ {l : List Nat}, ltAll N l = true → ∀ p ∈ l, p < N := by
 intro l
 induction l with
 | nil => intro _ p hp; cases hp
 | cons x l ih =>
  intro h p hp
  simp only [ltAll, Bool.and_eq_true] at h
  cases hp with
  | head => have := Nat.le_of_ble_eq_true h.1; omega
  | tail _ hp => exact ih h.2 p hp
def Exit.jumps (J : Nat → Act → World → Prop) (Q : Exit → Act → World → Prop) : Exit → Act → World → Prop
 | .goto l, a, w => J l a w
 | e, a, w => Q e a w
theorem wpIn_scope_jumps {F : Fence} {n : Nat} {P : Program} {Q : Exit → Act → World → Prop} {a : Act} {w : World} {c : Code} (I : Nat → Nat → Act → World → Prop)
  (first : c.wpIn F n P (Exit.jumps (fun l a w => ∃ k, I l k a w) Q) a w)
  (pass : ∀ l k a w, I l k a w → ∃ rest, findLabel c l = some rest ∧ rest.wpIn F n P (Exit.jumps (fun l' a' w' => ∃ k', k' < k ∧ I l' k' a' w') Q) a w) : (Code.scope c).wpIn F n P Q a w := by
 intro b k cs hro hb hr
 have h0 : (lone (b.atR a (.code (.scope c) :: k)) cs w).fenced P F := fenced_calm hb hr rfl
 have hg : ∀ l rest, findLabel c l = some rest → gotoIn l (.inScope c :: k) = some (.code rest :: .inScope c :: k) := fun l rest h => by simp [gotoIn, h]
 have hx : ∀ id, exitTo id (.inScope c :: k) = exitTo id k := fun id => by simp [exitTo]
 have key : ∀ j l a w rest, I l j a w → findLabel c l = some rest → ∃ e a' w', Q e a' w' ∧ ArrivesIn (Machine.fenced P F) P (lone (b.atR a (.code rest :: .inScope c :: k)) cs w) b k cs e a' w' := by
  intro j
  induction j using Nat.strongRecOn with
  | _ j ih =>
   intro l a w rest hI hf
   obtain ⟨rest', hf', hp⟩ := pass l j a w hI
   rw [hf] at hf'
   cases hf'
   obtain ⟨e, a₁, w₁, hq, harr⟩ := hp b (.inScope c :: k) cs hro hb hr
   cases e with
   | normal => exact ⟨.normal, a₁, w₁, hq, StepsIn.trans harr (.one (fenced_calm hb hr rfl) stepR_inScope)⟩
   | exit id =>
    exact ⟨.exit id, a₁, w₁, hq, fun k' hk => harr.1 k' (by rw [hx]; exact hk), fun hr' hk => let ⟨k₁, h1, h2⟩ := harr.2 hr' (by rw [hx]; exact hk); ⟨k₁, h1, h2⟩⟩
   | goto l' =>
    obtain ⟨j', hlt, hI'⟩ := hq
    obtain ⟨rest2, hf2, _⟩ := pass l' j' a₁ w₁ hI'
    obtain ⟨e₂, a₂, w₂, hq₂, harr₂⟩ := ih j' hlt l' a₁ w₁ rest2 hI' hf2
    exact ⟨e₂, a₂, w₂, hq₂, .of_steps (harr.1 _ (hg l' rest2 hf2)) harr₂⟩
   | ret => exact ⟨_, a₁, w₁, hq, harr⟩
   | panic ch => exact ⟨_, a₁, w₁, hq, harr⟩
   | outgrown => exact ⟨_, a₁, w₁, hq, harr⟩
 obtain ⟨e, a₁, w₁, hq, harr⟩ := first b (.inScope c :: k) cs hro hb hr
 cases e with
 | normal => exact ⟨.normal, a₁, w₁, hq, .head h0 stepR_scope (StepsIn.trans harr (.one (fenced_calm hb hr rfl) stepR_inScope))⟩
 | exit id =>
  exact ⟨.exit id, a₁, w₁, hq, fun k' hk => .head h0 stepR_scope (harr.1 k' (by rw [hx]; exact hk)),
   fun hr' hk => let ⟨k₁, h1, h2⟩ := harr.2 hr' (by rw [hx]; exact hk); ⟨k₁, h1, .head h0 stepR_scope h2⟩⟩
 | goto l =>
  obtain ⟨j, hI⟩ := hq
  obtain ⟨rest, hf, _⟩ := pass l j a₁ w₁ hI
  obtain ⟨e₂, a₂, w₂, hq₂, harr₂⟩ := key j l a₁ w₁ rest hI hf
  exact ⟨e₂, a₂, w₂, hq₂, .of_steps (.head h0 stepR_scope (harr.1 _ (hg l rest hf))) harr₂⟩
 | ret => exact ⟨_, a₁, w₁, hq, .of_steps (.one h0 stepR_scope) harr⟩
 | panic ch => exact ⟨_, a₁, w₁, hq, .of_steps (.one h0 stepR_scope) harr⟩
 | outgrown => exact ⟨_, a₁, w₁, hq, .of_steps (.one h0 stepR_scope) harr⟩
theorem findLabel_none {l : Nat} : ∀ {c : Code}, hasLab l c = false → findLabel c l = none := by
 intro c
 induction c with
 | seq x y ihx ihy =>
  intro h
  simp only [hasLab, Bool.or_eq_false_iff] at h
  simp [findLabel, ihx h.1, ihy h.2]
 | label l' =>
  intro h
  simp only [hasLab] at h
  have : l' ≠ l := fun q => by rw [q, Nat.beq_refl] at h; cases h
  simp [findLabel, this]
 | _ => intro _; rfl
def QKg (B : Base) (F : Entry → Prop) (N : Nat) (K : KT) (gb nr : Bool) : Exit → Act → World → Prop
 | .normal, a, w => Out B F N K .normal a w
 | .exit i, a, w => (nr = true → i < GT) ∧ Out B F N K (.exit i) a w
 | .ret, a, w => Out B F N K .ret a w
 | .goto l, a, w => gb = true ∧ Out B F N K (.exit (GT + l)) a w
 | _, _, _ => False
theorem QKg.up {B : Base} {F : Entry → Prop} {N : Nat} {K : KT} {gb nr gb' nr' : Bool} (h1 : gb = true → gb' = true) (h2 : nr' = true → nr = true) {ex : Exit} {a : Act} {w : World} (h : QKg B F N K gb nr ex a w) : QKg B F N K gb' nr' ex a w := by
 cases ex with
 | normal => exact h
 | exit i => exact ⟨fun q => h.1 (h2 q), h.2⟩
 | ret => exact h
 | goto l => exact ⟨h1 h.1, h.2⟩
 | panic ch => exact h.elim
 | outgrown => exact h.elim
theorem QKg.of {B : Base} {F : Entry → Prop} {N : Nat} {K : KT} {gb : Bool} {ex : Exit} {a : Act} {w : World} (h : QK B F N K ex a w) : QKg B F N K gb false ex a w := by
 cases ex with
 | normal => exact h
 | exit i => exact ⟨fun q => (by cases q), h⟩
 | ret => exact h
 | goto l => exact h.elim
 | panic ch => exact h.elim
 | outgrown => exact h.elim
theorem QKg.to {B : Base} {F : Entry → Prop} {N : Nat} {K : KT} {gb nr : Bool} (hg : gb = false ∨ ∀ l σ Φ n, ¬ K (.exit (GT + l)) σ Φ n) {ex : Exit} {a : Act} {w : World} (h : QKg B F N K gb nr ex a w) : QK B F N K ex a w := by
 cases ex with
 | normal => exact h
 | exit i => exact h.2
 | ret => exact h
 | goto l =>
  rcases hg with hg | hg
  ·rw [hg] at h; cases h.1
  ·obtain ⟨_, e', r', β', σ', Φ', n', _, hk, _⟩ := h
   exact (hg l _ _ _ hk).elim
 | panic ch => exact h.elim
 | outgrown => exact h.elim
abbrev SndC (B : Base) (N : Nat) (L : List Nat) (pl : List (Nat × List Nat)) (c : Code) (F : Entry → Prop) (ro : Option Nat) (m : Option Nat) (rest : Code) : Prop :=
 ∀ (K : KT) (e : Entry) (r : Mem) (β : Bind) (σ : Env) (Φ : Phi) (n : Nat) (a : Act) (w : World),
  F e → vcg B L pl c m K σ Φ n → Sat B e N r β σ Φ a w → NoGd σ → rest.wpIn (fc ro) 0 B.P (QKg B F N K (hasGoto c) (noRange c)) a w
theorem vcg_sound {B : Base} {N : Nat} {L : List Nat} {pl : List (Nat × List Nat)} : ∀ (c : Code), codeOk N pl c = true → ∀ (F : Entry → Prop), YOk B F N → FamOk F → ∀ (ro : Option Nat), (ro = none ∨ noRange c = true) →
    SndC B N L pl c F ro none c ∧ ∀ l, hasLab l c = true → ∃ rest, findLabel c l = some rest ∧ SndC B N L pl c F ro (some l) rest := by
  intro c
  induction c with
  | skip => intro hok F hY hFam ro hro; exact ⟨fun K e r β σ Φ n a w hF h s hng => wpIn_skip ⟨e, r, β, σ, Φ, n, hF, h, s, hng⟩, fun l h => absurd h (by simp [hasLab])⟩
  | region id ops draw =>
    intro hok F hY hFam ro hro
    refine ⟨fun K e r β σ Φ n a w hF h s hng => ?_, fun l h => absurd h (by simp [hasLab])⟩
    generalize hasGoto (.region id ops draw) = gb
    generalize noRange (.region id ops draw) = nr
    obtain ⟨ops⟩ := ops
    simp only [codeOk, Bool.and_eq_true] at hok
    obtain ⟨h1, h2, h3, h4⟩ := hok
    have ok := regOk_of h1 h2 h3
    simp only [vcg] at h
    obtain ⟨_, σ1, Φ1, r1, h, s1, _, hD1⟩ := frzK_sound h s (vs := []) ⟨rfl, fun i sv v h => by simp at h⟩
    obtain ⟨Φ1, h, s1⟩ := fixK_sat h s1
    have hng1 : NoGd σ1 := fun k g sv hg => by
      cases g with
      | none => rfl
      | some p => obtain ⟨s0, w0⟩ := p; exact (List.not_mem_nil (hD1 [] (hng.gdIn _) k s0 w0 sv hg)).elim
    have fin : ∀ e r β σ Φ n a w, F e → (purgeK L σ fun σ => K .normal σ Φ n) → Sat B e N r β σ Φ a w → QKg B F N K gb nr .normal a w := by
      intro e r β σ Φ n a w hF hk s'
      rw [purgeK_eq] at hk
      exact ⟨e, r, β, _, Φ, n, hF, hk, s'.purge L, purge_noGd L σ⟩
    cases draw with
    | false => exact region_seq hY hF ok (K := fun σ Φ n => purgeK L σ fun σ => K .normal σ Φ n) fin h s1 (hng1.gdIn _)
    | true =>
      simp only [Bool.not_true, Bool.false_or, Bool.and_eq_true] at h4
      obtain ⟨h5, h6⟩ := h4
      cases hx : memN 6 (planOf pl id) with
      | true =>
        rw [hx] at h h6
        exact region_indep hF ok h5 h6 (K := fun σ Φ n => purgeK L σ fun σ => K .normal σ Φ n) (fun e r β σ Φ n a w h1 h2 h3 _ => fin e r β σ Φ n a w h1 h2 h3) h s1 hng1
      | false =>
      rw [hx] at h h6
      cases hm : memN 4 (planOf pl id) with
      | true =>
        rw [hm] at h h6
        have h6 : ((bif isNil (planOf pl (Nat.add id 3000000)) then planE ops (planOf pl id) else planL ops (planOf pl id)) && (tabOk ops (planOf pl (Nat.add id 3000000)) && Nat.ble ops.length 64)) = true := h6
        rw [Bool.and_eq_true, Bool.and_eq_true] at h6
        obtain ⟨h6, h7⟩ := h6
        cases hz : isNil (planOf pl (Nat.add id 3000000)) with
        | true =>
          rw [hz] at h h6
          exact region_enum hF hY ok h5 h6 (tab := []) rfl (.inl rfl) (K := fun σ Φ n => purgeK L σ fun σ => K .normal σ Φ n) fin h s1 hng1
        | false =>
          rw [hz] at h h6
          simp only [cond_false, cond_true] at h
          cases h with
          | dir hd => exact region_late hF hY ok h5 h6 (tab := planOf pl (Nat.add id 3000000)) h7.1 (.inr (Nat.le_of_ble_eq_true h7.2)) (K := fun σ Φ n => purgeK L σ fun σ => K .normal σ Φ n) fin hd s1 hng1
          | mk U Fz m he =>
            rw [headK_eq] at he
            obtain ⟨hd, hk⟩ := he
            have hks : ∀ e', F e' → ∀ id ch, Phi.get e'.Φ id = some ch → ch.kind ≠ 0 → ∃ ch0, Phi.get Φ1 id = some ch0 ∧ ch0.kind = ch.kind := fun e' he' id ch h hk => by
              obtain ⟨ch', q1, q2⟩ := hFam.heads e e' hF he' id ch h hk
              obtain ⟨_, ch0, p1, p2⟩ := s1.kept.keep id ch' q1 (by rw [q2]; exact hk)
              exact ⟨ch0, p1, p2.trans q2⟩
            refine region_late hF hY ok h5 h6 (tab := planOf pl (Nat.add id 3000000)) h7.1 (.inr (Nat.le_of_ble_eq_true h7.2)) (K := fun σ' Φ' _ => Rnd (matK σ' Φ' (purge L (updE U σ1)) (mergeF Fz Φ1) Φ1)) (fun e2 r2 β2 σ2 Φ2 n2 a2 w2 hF2 hm2 s2 => ?_) hd s1 hng1
            obtain ⟨r3, β3, s3⟩ := ent_sat s2 hm2.h (purge_noGd _ _) (hks e2 hF2)
            exact ⟨e2, r3, β3, _, _, m, hF2, hk, s3, purge_noGd _ _⟩
      | false =>
        rw [hm] at h h6
        exact region_draw hF hY ok h5 h6 (K := fun σ Φ n => purgeK L σ fun σ => K .normal σ Φ n) fin h s1 hng1
  | seq x y ihx ihy =>
    intro hok F hY hFam ro hro
    simp only [codeOk, Bool.and_eq_true] at hok
    have hro2 := hro
    simp only [noRange, Bool.and_eq_true] at hro
    obtain ⟨ix, lx⟩ := ihx hok.1 F hY hFam ro (hro.imp id And.left)
    obtain ⟨iy, ly⟩ := ihy hok.2 F hY hFam ro (hro.imp id And.right)
    have gx : hasGoto x = true → hasGoto (.seq x y) = true := fun h => by simp [hasGoto, h]
    have gy : hasGoto y = true → hasGoto (.seq x y) = true := fun h => by simp [hasGoto, h]
    have nx : noRange (.seq x y) = true → noRange x = true := fun h => by simp only [noRange, Bool.and_eq_true] at h; exact h.1
    have ny : noRange (.seq x y) = true → noRange y = true := fun h => by simp only [noRange, Bool.and_eq_true] at h; exact h.2
    have step : ∀ (K : KT) (x' : Code) (a : Act) (w : World), x'.wpIn (fc ro) 0 B.P (QKg B F N (fun e => match e with | .normal => vcg B L pl y none K | e => K e) (hasGoto x) (noRange x)) a w →
        (Code.seq x' y).wpIn (fc ro) 0 B.P (QKg B F N K (hasGoto (.seq x y)) (noRange (.seq x y))) a w := fun K x' a w h => by
      refine wpIn_seq (wpIn_mono h fun ex a' w' hq => ?_)
      cases ex with
      | normal =>
        obtain ⟨e', r', β', σ', Φ', n', hF', hk, s', hng'⟩ := hq
        exact wpIn_mono (iy K e' r' β' σ' Φ' n' a' w' hF' hk s' hng') fun ex a'' w'' hq => QKg.up gy ny hq
      | exit i => exact ⟨fun q => hq.1 (nx q), hq.2⟩
      | ret => exact hq
      | goto l => exact ⟨gx hq.1, hq.2⟩
      | panic ch => exact hq.elim
      | outgrown => exact hq.elim
    refine ⟨fun K e r β σ Φ n a w hF h s hng => step K x a w (ix (fun e => match e with | .normal => vcg B L pl y none K | e => K e) e r β σ Φ n a w hF h s hng), fun l hl => ?_⟩
    cases hlx : hasLab l x with
    | true =>
      obtain ⟨rest, hf, hr⟩ := lx l hlx
      refine ⟨.seq rest y, by simp [findLabel, hf], fun K e r β σ Φ n a w hF h s hng => ?_⟩
      simp only [vcg, hlx, cond_true] at h
      exact step K rest a w (hr _ e r β σ Φ n a w hF h s hng)
    | false =>
      simp only [hasLab, hlx, Bool.false_or] at hl
      obtain ⟨rest, hf, hr⟩ := ly l hl
      refine ⟨rest, by simp [findLabel, findLabel_none hlx, hf], fun K e r β σ Φ n a w hF h s hng => ?_⟩
      simp only [vcg, hlx, cond_false] at h
      exact wpIn_mono (hr _ e r β σ Φ n a w hF h s hng) fun ex a'' w'' hq => QKg.up gy ny hq
  | cond c x y ihx ihy =>
    intro hok F hY hFam ro hro
    refine ⟨fun K e r β σ Φ n a w hF h s hng => ?_, fun l h => absurd h (by simp [hasLab])⟩
    simp only [codeOk, Bool.and_eq_true] at hok
    simp only [noRange, Bool.and_eq_true] at hro
    have gx : hasGoto x = true → hasGoto (.cond c x y) = true := fun h => by simp [hasGoto, h]
    have gy : hasGoto y = true → hasGoto (.cond c x y) = true := fun h => by simp [hasGoto, h]
    have nx : noRange (.cond c x y) = true → noRange x = true := fun h => by simp only [noRange, Bool.and_eq_true] at h; exact h.1
    have ny : noRange (.cond c x y) = true → noRange y = true := fun h => by simp only [noRange, Bool.and_eq_true] at h; exact h.2
    simp only [vcg] at h
    obtain ⟨sv, hk, hr⟩ := opK_sound h
    cases sv <;> simp only at hk
    rename_i b
    have hv := hr _ r β a _ (hasT _) (Sm.plain s.agree)
    generalize hq : a.eval c = v at hv
    cases hv
    exact wpIn_cond_split hq
      (fun hb => wpIn_mono ((ihx hok.1 F hY hFam ro (hro.imp id And.left)).1 K e r β σ Φ n a w hF (hk.1 hb) s hng) fun ex a' w' hq => QKg.up gx nx hq)
      (fun hb => wpIn_mono ((ihy hok.2 F hY hFam ro (hro.imp id And.right)).1 K e r β σ Φ n a w hF (hk.2 hb) s hng) fun ex a' w' hq => QKg.up gy ny hq)
  | block id c ih =>
    intro hok F hY hFam ro hro
    refine ⟨fun K e r β σ Φ n a w hF h s hng => ?_, fun l h => absurd h (by simp [hasLab])⟩
    simp only [codeOk, Bool.and_eq_true] at hok
    have hid : id < GT := Nat.le_of_ble_eq_true hok.1
    simp only [noRange] at hro
    simp only [vcg] at h
    refine wpIn_block (wpIn_mono ((ih hok.2 F hY hFam ro hro).1 _ e r β σ Φ n a w hF h s hng) fun ex a' w' hq => ?_)
    cases ex with
    | normal => exact hq
    | exit i =>
      obtain ⟨hlt, e', r', β', σ', Φ', n', hF', hk, s', hng'⟩ := hq
      simp only [Exit.inBlock]
      by_cases hi : i = id
      · subst hi
        rw [if_pos rfl]
        simp only [Nat.beq_refl, cond_true] at hk
        exact ⟨e', r', β', σ', Φ', n', hF', hk, s', hng'⟩
      · rw [if_neg hi]
        simp only [nbeq_of hi, cond_false] at hk
        exact ⟨fun q => hlt q, e', r', β', σ', Φ', n', hF', hk, s', hng'⟩
    | ret => exact hq
    | goto l =>
      obtain ⟨hg, e', r', β', σ', Φ', n', hF', hk, s', hng'⟩ := hq
      have hi : GT + l ≠ id := by omega
      simp only [nbeq_of hi, cond_false] at hk
      exact ⟨hg, e', r', β', σ', Φ', n', hF', hk, s', hng'⟩
    | panic ch => exact hq.elim
    | outgrown => exact hq.elim
  | loop c ih =>
    intro hok F0 hY hFam ro hro
    refine ⟨fun K e r β σ Φ n a w hF h s hng => ?_, fun l h => absurd h (by simp [hasLab])⟩
    simp only [codeOk] at hok
    simp only [noRange] at hro
    simp only [vcg] at h
    cases h with
    | mk U F m C μ a0 h0 he hr =>
      rename_i α
      have head : ∀ x, NoGd (purge L (updE (U x) σ)) := fun x => purge_noGd _ _
      have hks : ∀ e', F0 e' → ∀ id ch, Phi.get e'.Φ id = some ch → ch.kind ≠ 0 → ∃ ch0, Phi.get Φ id = some ch0 ∧ ch0.kind = ch.kind := fun e' he' id ch h hk => by
        obtain ⟨ch', q1, q2⟩ := hFam.heads e e' hF he' id ch h hk
        obtain ⟨_, ch0, p1, p2⟩ := s.kept.keep id ch' q1 (by rw [q2]; exact hk)
        exact ⟨ch0, p1, p2.trans q2⟩
      refine wpIn_loop_ghost (fun k a' w' => ∃ x, C x ∧ μ x = k ∧ ∃ e' r' β', F0 e' ∧ Sat B e' N r' β' (purge L (updE (U x) σ)) (mergeF (F x) Φ) a' w') (μ a0) ?_ ?_
      · rw [headK_eq] at he
        obtain ⟨r', β', s'⟩ := ent_sat s he (head a0) (hks e hF)
        exact ⟨a0, h0, rfl, e, r', β', hF, s'⟩
      · rintro k a' w' ⟨x, hx, rfl, e', r', β', hF', s'⟩
        have hbody := hr x hx
        rw [headK_eq] at hbody
        refine wpIn_mono ((ih hok F0 hY hFam ro hro).1 _ e' r' β' _ _ m a' w' hF' hbody s' (head x)) fun ex a'' w'' hq => ?_
        cases ex with
        | normal =>
          obtain ⟨e2, r2, β2, σ2, Φ2, n2, hF2, ⟨⟨x', hx', hlt, hent⟩⟩, s2, hng2⟩ := hq
          rw [headK_eq] at hent
          obtain ⟨r3, β3, s3⟩ := ent_sat s2 hent (head x') (hks e2 hF2)
          exact ⟨μ x', hlt, x', hx', rfl, e2, r3, β3, hF2, s3⟩
        | exit i => exact hq
        | ret => exact hq
        | goto l => exact hq
        | panic ch => exact hq.elim
        | outgrown => exact hq.elim
    | unroll k0 hk0 =>
      refine wpIn_loop_ghost (fun k a' w' => ∃ e' r' β' σ' Φ' n', F0 e' ∧ loopU (fun K σ Φ n => vcg B L pl c none K σ Φ n) K k σ' Φ' n' ∧ Sat B e' N r' β' σ' Φ' a' w' ∧ NoGd σ') k0 ⟨e, r, β, σ, Φ, n, hF, hk0, s, hng⟩ ?_
      rintro k a' w' ⟨e', r', β', σ', Φ', n', hF', hk, s', hng'⟩
      cases k with
      | zero => exact hk.elim
      | succ k =>
        refine wpIn_mono ((ih hok F0 hY hFam ro hro).1 _ e' r' β' _ _ n' a' w' hF' hk s' hng') fun ex a'' w'' hq => ?_
        cases ex with
        | normal =>
          obtain ⟨e2, r2, β2, σ2, Φ2, n2, hF2, hk2, s2, hng2⟩ := hq
          exact ⟨k, Nat.lt_succ_self k, e2, r2, β2, σ2, Φ2, n2, hF2, hk2, s2, hng2⟩
        | exit i => exact hq
        | ret => exact hq
        | goto l => exact hq
        | panic ch => exact hq.elim
        | outgrown => exact hq.elim
    | ug k0 hk0 =>
      have hks : ∀ e', F0 e' → ∀ id ch, Phi.get e'.Φ id = some ch → ch.kind ≠ 0 → hasIdP Φ id = true := fun e' he' id ch h hk => by
        obtain ⟨ch', q1, q2⟩ := hFam.heads e e' hF he' id ch h hk
        obtain ⟨_, ch0, p1, p2⟩ := s.kept.keep id ch' q1 (by rw [q2]; exact hk)
        exact hasIdP_iff.2 ⟨ch0, p1⟩
      refine wpIn_loop_ghost (fun k a' w' => ∃ e' r' β' σ' Φ' n', F0 e' ∧ loopG (fun K σ Φ n => vcg B L pl c none K σ Φ n) K Φ n k σ' Φ' n' ∧ Sat B e' N r' β' σ' Φ' a' w' ∧ NoGd σ') k0 ⟨e, r, β, σ, Φ, n, hF, hk0, s, hng⟩ ?_
      rintro k a' w' ⟨e', r', β', σ', Φ', n', hF', hk, s', hng'⟩
      cases k with
      | zero => exact hk.elim
      | succ k =>
        refine wpIn_mono ((ih hok F0 hY hFam ro hro).1 _ e' r' β' _ _ n' a' w' hF' hk s' hng') fun ex a'' w'' hq => ?_
        cases ex with
        | normal =>
          obtain ⟨e2, r2, β2, σ2, Φ2, n2, hF2, hk2, s2, hng2⟩ := hq
          obtain ⟨σ3, hk3, o1⟩ := oldE_sound hk2
          obtain ⟨Φ3, hk3, g1, g2⟩ := gcP_sound hk3
          have s3 := s2.less o1 g1 (fun id ch hi hk0 => g2 id (hks e2 hF2 id ch hi hk0))
          have ng3 : NoGd σ3 := fun k g sv hh => by
            obtain ⟨sv0, q1, _⟩ := o1 k g sv hh
            exact hng2 k g sv0 q1
          cases hb : lenLe Φ3 Φ with
          | true => rw [hb] at hk3; exact ⟨k, Nat.lt_succ_self k, e2, r2, β2, σ3, Φ3, n, hF2, hk3.h, s3, ng3⟩
          | false => rw [hb] at hk3; exact ⟨k, Nat.lt_succ_self k, e2, r2, β2, σ3, Φ3, n2, hF2, hk3.h, s3, ng3⟩
        | exit i => exact hq
        | ret => exact hq
        | goto l => exact hq
        | panic ch => exact hq.elim
        | outgrown => exact hq.elim
  | exit id =>
    intro hok F hY hFam ro hro
    simp only [codeOk] at hok
    exact ⟨fun K e r β σ Φ n a w hF h s hng => wpIn_exit ⟨fun _ => Nat.le_of_ble_eq_true hok, e, r, β, σ, Φ, n, hF, h, s, hng⟩, fun l h => absurd h (by simp [hasLab])⟩
  | ret => intro hok F hY hFam ro hro; exact ⟨fun K e r β σ Φ n a w hF h s hng => wpIn_ret ⟨e, r, β, σ, Φ, n, hF, h, s, hng⟩, fun l h => absurd h (by simp [hasLab])⟩
  | scope c ih =>
    intro hok F0 hY hFam ro hro
    refine ⟨fun K e r β σ Φ n a w hF h s hng => ?_, fun l h => absurd h (by simp [hasLab])⟩
    simp only [codeOk, Bool.and_eq_true] at hok
    have hro2 := hro
    simp only [noRange] at hro
    simp only [vcg] at h
    obtain ⟨ic, lc⟩ := ih hok.2 F0 hY hFam ro hro
    have hst : ∀ (K' : KT), (∀ l σ Φ n, ¬ K' (.exit (GT + l)) σ Φ n) ∨ hasGoto c = false → (∀ ex σ Φ n, K' ex σ Φ n → K ex σ Φ n) → vcg B L pl c none K' σ Φ n →
        (Code.scope c).wpIn (fc ro) 0 B.P (QKg B F0 N K (hasGoto (.scope c)) (noRange (.scope c))) a w := fun K' hg hKK h => by
      refine wpIn_scope_straight (wpIn_mono (ic K' e r β σ Φ n a w hF h s hng) fun ex a' w' hq => ?_)
      cases ex with
      | normal => obtain ⟨e', r', β', σ', Φ', n', hF', hk, s', hng'⟩ := hq; exact ⟨e', r', β', σ', Φ', n', hF', hKK _ _ _ _ hk, s', hng'⟩
      | exit i => obtain ⟨hlt, e', r', β', σ', Φ', n', hF', hk, s', hng'⟩ := hq; exact ⟨hlt, e', r', β', σ', Φ', n', hF', hKK _ _ _ _ hk, s', hng'⟩
      | ret => obtain ⟨e', r', β', σ', Φ', n', hF', hk, s', hng'⟩ := hq; exact ⟨e', r', β', σ', Φ', n', hF', hKK _ _ _ _ hk, s', hng'⟩
      | goto l =>
        obtain ⟨hb, e', r', β', σ', Φ', n', hF', hk, s', hng'⟩ := hq
        rcases hg with hg | hg
        · exact hg l _ _ _ hk
        · rw [hg] at hb; cases hb
      | panic ch => exact hq.elim
      | outgrown => exact hq.elim
    cases hg : hasGoto c with
    | false =>
      rw [hg] at h
      exact hst K (.inr hg) (fun _ _ _ _ h => h) h
    | true =>
      rw [hg] at h
      have hnr : noRange c = true := by
        have h1 := hok.1
        rw [hg] at h1
        simpa using h1
      have hle : ∀ l, Nat.ble GT (GT + l) = true := fun l => Nat.ble_eq_true_of_le (by omega)
      cases h with
      | straight h =>
        refine hst _ (.inl fun l σ Φ n hk => ?_) (fun ex σ Φ n hk => ?_) h
        · simp only [hle l, cond_true] at hk
        · cases ex with
          | normal => exact hk
          | ret => exact hk
          | exit i =>
            simp only at hk
            cases hb : Nat.ble GT i with
            | true => rw [hb] at hk; exact hk.elim
            | false => rw [hb] at hk; exact hk
      | mk lab U F m C μ hl h1 hr =>
        rename_i α
        have head : ∀ x, NoGd (purge L (updE (U x) σ)) := fun x => purge_noGd _ _
        have hks : ∀ e', F0 e' → ∀ id ch, Phi.get e'.Φ id = some ch → ch.kind ≠ 0 → ∃ ch0, Phi.get Φ id = some ch0 ∧ ch0.kind = ch.kind := fun e' he' id ch h hk => by
          obtain ⟨ch', q1, q2⟩ := hFam.heads e e' hF he' id ch h hk
          obtain ⟨_, ch0, p1, p2⟩ := s.kept.keep id ch' q1 (by rw [q2]; exact hk)
          exact ⟨ch0, p1, p2.trans q2⟩
        have hexit : ∀ (J : Nat → Act → World → Prop) (R : Nat → Env → Phi → Prop) (hJ : ∀ l a' w', Out B F0 N (fun e σ' Φ' n' => match e with | .exit i => (bif Nat.ble GT i then R i σ' Φ' else K (.exit i) σ' Φ' n') | e => K e σ' Φ' n') (.exit (GT + l)) a' w' → J l a' w') (ex : Exit) (a' : Act) (w' : World),
            QKg B F0 N (fun e σ' Φ' n' => match e with | .exit i => (bif Nat.ble GT i then R i σ' Φ' else K (.exit i) σ' Φ' n') | e => K e σ' Φ' n') (hasGoto c) (noRange c) ex a' w' → Exit.jumps J (QKg B F0 N K (hasGoto (.scope c)) (noRange (.scope c))) ex a' w' := fun J R hJ ex a' w' hq => by
          cases ex with
          | normal => exact hq
          | exit i =>
            obtain ⟨hlt, e', r', β', σ', Φ', n', hF', hk, s', hng'⟩ := hq
            have hlt' := hlt hnr
            have hb : Nat.ble GT i = false := by
              cases hb : Nat.ble GT i with
              | false => rfl
              | true => have := Nat.le_of_ble_eq_true hb; omega
            simp only [hb, cond_false] at hk
            exact ⟨fun _ => hlt', e', r', β', σ', Φ', n', hF', hk, s', hng'⟩
          | ret => exact hq
          | goto l => exact hJ l a' w' hq.2
          | panic ch => exact hq.elim
          | outgrown => exact hq.elim
        refine wpIn_scope_jumps (fun l k a' w' => ∃ x, lab x = l ∧ C x ∧ μ x = k ∧ ∃ e' r' β', F0 e' ∧ Sat B e' N r' β' (purge L (updE (U x) σ)) (mergeF (F x) Φ) a' w') ?_ ?_
        · refine wpIn_mono (ic _ e r β σ Φ n a w hF h1 s hng) (hexit _ (fun i σ' Φ' => Rnd (∃ a', GT + lab a' = i ∧ C a' ∧ headK L (U a') (F a') σ Φ fun σI ΦI => matK σ' Φ' σI ΦI Φ)) fun l a' w' ho => ?_)
          obtain ⟨e2, r2, β2, σ2, Φ2, n2, hF2, hk, s2, hng2⟩ := ho
          simp only [hle l, cond_true] at hk
          obtain ⟨⟨x, hx1, hx2, hent⟩⟩ := hk
          rw [headK_eq] at hent
          obtain ⟨r3, β3, s3⟩ := ent_sat s2 hent (head x) (hks e2 hF2)
          exact ⟨μ x, x, by omega, hx2, rfl, e2, r3, β3, hF2, s3⟩
        · rintro l k a' w' ⟨x, rfl, hx, rfl, e', r', β', hF', s'⟩
          obtain ⟨rest, hf, hrest⟩ := lc (lab x) (hl x hx)
          refine ⟨rest, hf, ?_⟩
          have hbody := hr x hx
          rw [headK_eq] at hbody
          refine wpIn_mono (hrest _ e' r' β' _ _ m a' w' hF' hbody s' (head x)) (hexit _ (fun i σ' Φ' => Rnd (∃ a', GT + lab a' = i ∧ C a' ∧ μ a' < μ x ∧ headK L (U a') (F a') σ Φ fun σI ΦI => matK σ' Φ' σI ΦI Φ)) fun l a'' w'' ho => ?_)
          obtain ⟨e2, r2, β2, σ2, Φ2, n2, hF2, hk, s2, hng2⟩ := ho
          simp only [hle l, cond_true] at hk
          obtain ⟨⟨x', hx1, hx2, hlt, hent⟩⟩ := hk
          rw [headK_eq] at hent
          obtain ⟨r3, β3, s3⟩ := ent_sat s2 hent (head x') (hks e2 hF2)
          exact ⟨μ x', hlt, x', by omega, hx2, rfl, e2, r3, β3, hF2, s3⟩
  | rangeFunc g ps x y ihx ihy =>
    intro hok F hY hFam ro hro
    refine ⟨fun K e r β σ Φ n a w hF h s hng => ?_, fun l h => absurd h (by simp [hasLab])⟩
    refine wpIn_mono (Q := QK B F N K) ?_ fun ex a' w' hq => QKg.of hq
    obtain ⟨ps⟩ := ps
    simp only [codeOk, Bool.and_eq_true, Bool.not_eq_true', Bool.or_eq_false_iff] at hok
    obtain ⟨⟨hps, ⟨hnx, hny⟩, hgx, hgy⟩, hokx, hoky⟩ := hok
    rcases hro with rfl | hro
    · simp only [vcg] at h
      obtain ⟨sv, hk, hr⟩ := opK_sound h
      cases sv <;> simp only at hk
      rename_i f caps
      cases hl : Nat.beq B.Y.len 0 with
      | false => rw [hl] at hk; exact hk.elim
      | true =>
        rw [hl] at hk
        have hv := hr _ r β a _ (hasT _) (Sm.plain s.agree)
        generalize hq : a.eval g = v at hv
        cases hv with
        | fn h1 h2 =>
          rename_i cs
          refine range_sound (pl := pl) (beq_of hl) hFam
            (fun F hY hFam ro K e r β σ Φ n a w hF h s hng => wpIn_mono ((ihx hokx F hY hFam ro (.inr hnx)).1 K e r β σ Φ n a w hF h s hng) fun ex a' w' hq => QKg.to (.inl hgx) hq)
            (fun F hY hFam ro K e r β σ Φ n a w hF h s hng => wpIn_mono ((ihy hoky F hY hFam ro (.inr hny)).1 K e r β σ Φ n a w hF h s hng) fun ex a' w' hq => QKg.to (.inl hgy) hq) (ltAll_spec hps) hk s hF hq ⟨h1, h2⟩
    · cases hro
  | label l =>
    intro hok F hY hFam ro hro
    refine ⟨fun K e r β σ Φ n a w hF h s hng => wpIn_label ⟨e, r, β, σ, Φ, n, hF, h, s, hng⟩, fun l' h => ?_⟩
    simp only [hasLab] at h
    have hll : l = l' := Nat.eq_of_beq_eq_true h
    refine ⟨.skip, by simp [findLabel, hll], fun K e r β σ Φ n a w hF hv s hng => ?_⟩
    simp only [vcg, h, cond_true] at hv
    exact wpIn_skip ⟨e, r, β, σ, Φ, n, hF, hv, s, hng⟩
  | goto l => intro hok F hY hFam ro hro; exact ⟨fun K e r β σ Φ n a w hF h s hng => wpIn_goto ⟨rfl, e, r, β, σ, Φ, n, hF, h, s, hng⟩, fun l h => absurd h (by simp [hasLab])⟩
  | refuse y => intro hok F hY hFam ro hro; exact ⟨fun K e r β σ Φ n a w hF h => h.elim, fun l h => absurd h (by simp [hasLab])⟩
theorem vc_sound' {B : Base} {N : Nat} {L : List Nat} {pl : List (Nat × List Nat)} (c : Code) (hok : codeOk N pl c = true) (F : Entry → Prop) (hY : YOk B F N) (hFam : FamOk F) (ro : Option Nat) (hro : ro = none ∨ noRange c = true)
  (K : KT) (hK : ∀ l σ Φ n, ¬ K (.exit (GT + l)) σ Φ n) (e : Entry) (r : Mem) (β : Bind) (σ : Env) (Φ : Phi) (n : Nat) (a : Act) (w : World)
  (hF : F e) (h : vc B L pl c K σ Φ n) (s : Sat B e N r β σ Φ a w) (hng : NoGd σ) : c.wpIn (fc ro) 0 B.P (QK B F N K) a w :=
 wpIn_mono ((vcg_sound c hok F hY hFam ro hro).1 K e r β σ Φ n a w hF h s hng) fun ex a' w' hq => QKg.to (.inr hK) hq
end Go.Vc

namespace Go.Vc
set_option autoImplicit false
theorem getElem_of_len {α β : Type _} {l : List α} {l' : List β} (h : l.length = l'.length) {i : Nat} {b : β} (hb : l'[i]? = some b) : ∃ a, l[i]? = some a := by
 rcases Nat.lt_or_ge i l.length with hi | hi
 ·exact ⟨l[i], List.getElem?_eq_getElem hi⟩
 ·rw [List.getElem?_eq_none (by omega)] at hb; cases hb
def resF (tmps : Array Value) : ResultVar → Sem Value
 | .tmp t => pure (tmps.getD t undef)
 | .cell ad t => do loadVar t (← asAddr (tmps.getD ad undef))
theorem resK_sound {P : Program} {σ Φ} {rs : List ResultVar} : ∀ {K : List SV → Prop}, resK P σ Φ rs K → ∃ l, K l ∧ ∀ r β (a : Act) w, Agree r β σ a.tmps → MemSat r β Φ w →
  ∃ vs, RelL r β l vs ∧ (rs.mapM (resF a.tmps)).run P w = .ok vs w := by
 induction rs with
 | nil => intro K h; exact ⟨[], h, fun r β a w ha m => ⟨[], ⟨rfl, fun i sv v h => by simp at h⟩, rfl⟩⟩
 | cons x rs ih =>
  intro K h
  cases x with
  | tmp t =>
   simp only [resK] at h
   obtain ⟨sv, h, hr⟩ := opK_sound h
   obtain ⟨l, hk, hl⟩ := ih h
   refine ⟨_, hk, fun r β a w ha m => ?_⟩
   obtain ⟨vs, h1, h2⟩ := hl r β a w ha m
   refine ⟨_, RelL.cons (hr _ r β a _ (hasT _) (Sm.plain ha)) h1, ?_⟩
   simp only [List.mapM_cons, resF, Sem.run_bind, Sem.run_pure, Result.andThen_ok, h2]
   rfl
  | cell ad t =>
   simp only [resK] at h
   obtain ⟨sv, h, hr⟩ := opK_sound h
   cases sv <;> simp only at h
   rename_i id off
   split at h
   ·rename_i cs hg
    obtain ⟨sv', h, hp⟩ := partK_sound h
    obtain ⟨l, hk, hl⟩ := ih h
    refine ⟨_, hk, fun r β a w ha m => ?_⟩
    obtain ⟨vs, h1, h2⟩ := hl r β a w ha m
    have hloc := hr _ r β a _ (hasT _) (Sm.plain ha)
    generalize hq : a.eval (.tmp ad) = v at hloc
    cases hloc with
    | loc hβ =>
     rename_i b
     have hs := m.chs _ _ hg
     cases hs with
     | box hxb hw hlen hc hT =>
      rename_i b' c T
      rw [hβ] at hxb
      obtain rfl : b = b' := by simpa using hxb
      obtain ⟨v, hrel, _, hload⟩ := hp r β c.toList (toList_rel hlen hc)
      refine ⟨_, RelL.cons hrel h1, ?_⟩
      have hl2 := hload w b 0 (fun j u hj => by rw [cell_of_block hw]; simpa using hj)
      simp only [Nat.zero_add] at hl2
      have hq' : a.tmps.getD ad undef = .pointer (some ⟨b, off, none⟩) := hq
      simp only [List.mapM_cons, resF, Sem.run_bind, hq', asAddr, Sem.run_pure, Result.andThen_ok, hl2, h2]
   ·exact h.elim
theorem tup_rel {r β l vs} (h : RelL r β l vs) : Rel r β (tupSV l) (if h : vs.toArray.size = 1 then vs.toArray[0] else .tuple vs.toArray) := by
 obtain ⟨h1, h2⟩ := h
 match l, vs, h1 with
 | [], [], _ => exact .tup (cs := []) rfl (fun i sv v h => by simp at h)
 | [x], [v], _ => exact h2 0 x v rfl rfl
 | x :: y :: l, v :: u :: vs, h1 =>
  rw [dif_neg (by simp)]
  exact .tup h1 h2
theorem results_run {P : Program} {fn : Func} {tmps : Array Value} {vs : List Value} {w : World}
  (h : (fn.results.toList.mapM (resF tmps)).run P w = .ok vs w) :
  (results fn tmps).run P w = .ok (if h : vs.toArray.size = 1 then vs.toArray[0] else .tuple vs.toArray) w := by
 have e : results fn tmps = (do let vs ← fn.results.mapM (resF tmps); pure (if h : vs.size = 1 then vs[0] else .tuple vs)) := by
  unfold results
  congr 2
 rw [e, Sem.run_bind]
 have : (fn.results.mapM (resF tmps)).run P w = .ok vs.toArray w := by
  rw [← Array.toArray_toList (xs := fn.results), List.mapM_toArray, Sem.run_map]
  rw [h]
  rfl
 rw [this]
 rfl
theorem argE_get {args : List SV} : ∀ {i k : Nat} {g sv}, Env.get (argE i args) k = some (g, sv) → g = none ∧ i ≤ k ∧ args[k - i]? = some sv := by
 induction args with
 | nil => intro i k g sv h; simp [argE, Env.get] at h
 | cons x l ih =>
  intro i k g sv h
  simp only [argE] at h
  rw [get_cons] at h
  cases hb : Nat.beq i k with
  | true =>
   obtain rfl := beq_of hb
   rw [hb] at h
   simp only [cond_true, Option.some.injEq, Prod.mk.injEq] at h
   obtain ⟨rfl, rfl⟩ := h
   exact ⟨rfl, Nat.le_refl _, by simp⟩
  | false =>
   rw [hb] at h
   obtain ⟨h1, h2, h3⟩ := ih h
   refine ⟨h1, by omega, ?_⟩
   rw [show k - i = (k - (i + 1)) + 1 by omega]
   simpa using h3
theorem setObj_get {w : World} {D : Nat} {o : Obj} {b : Nat} (h : b ≠ D) : ({ w with heap := w.heap.setIfInBounds D o } : World).heap[b]? = w.heap[b]? := by
 show (w.heap.setIfInBounds D o)[b]? = _
 exact Array.getElem?_setIfInBounds_ne (Ne.symm h)
theorem leaves_marks {F : Fence} {n : Nat} {P : Program} {fn : Func} {tmps : Array Value} {R : Ending → World → Prop} {r : Mem} {β : Bind} {Φ : Phi} {lo : Nat → Prop} :
  ∀ (Ds : List Nat) (w : World), Ds.Nodup → (∀ D ∈ Ds, lo D ∧ w.heap[D]? = some (.deferred (some [])) ∧ r D = none ∧ ∀ id ch, Phi.get Φ id = some ch → ¬ ch.hb (β id) D) → MemSat r β Φ w →
  (∀ w', MemSat r β Φ w' → w'.os = w.os → w'.tape = w.tape → w'.output = w.output → w'.heap.size = w.heap.size → (∀ b, ¬ lo b → w'.heap[b]? = w.heap[b]?) → ∃ v, (results fn tmps).run P w' = .ok v w' ∧ R (.returned v) w') →
  LeavesInM F n P fn tmps R (Ds.map (fun D => { target := .collected D, args := #[] })) .returning w := by
 intro Ds
 induction Ds with
 | nil => intro w _ _ m h; exact h w m rfl rfl rfl rfl (fun _ _ => rfl)
 | cons D Ds ih =>
  intro w hnd hD m h
  obtain ⟨g1, g2, g3, g4⟩ := hD D (by simp)
  have hnd' := List.nodup_cons.1 hnd
  refine ⟨by simp, .inl ⟨D, _, rfl, run_takeDeferred g2, ?_⟩⟩
  have get : ∀ b, b ≠ D → (w.putObj D (.deferred none)).heap[b]? = w.heap[b]? := fun b hb => setObj_get hb
  refine ih _ hnd'.2 (fun D' hD' => ?_) ⟨fun b o hb => ?_, fun id ch hi => ?_, m.sep, m.nod⟩ (fun w' m' e1 e2 e3 e4 e5 => h w' m' e1 e2 e3 (e4.trans (by simp [World.putObj])) (fun b hb => (e5 b hb).trans (get b (fun he => hb (he ▸ g1)))))
  ·obtain ⟨k1, k2, k3, k4⟩ := hD D' (by simp [hD'])
   exact ⟨k1, (get D' (fun he => hnd'.1 (he ▸ hD'))).trans k2, k3, k4⟩
  ·rw [get b (fun he => by rw [he, g3] at hb; cases hb)]; exact m.vis b o hb
  ·exact (m.chs _ _ hi).keep (Mem.le_refl r) (fun b hb => get b (fun he => g4 id ch hi (he ▸ hb))) (fun _ _ _ _ _ _ _ h => h)
theorem body_ct {B : Base} {f : FuncId} {fn : Func} {c : Code} {args : List SV} {Φ0 Φ' : Phi} {res : SV} {N : Nat} (L : List Nat) (pl : List (Nat × List Nat)) (n : Nat)
    (hf : B.P.funcs[f]? = some fn) (hb : fn.body = some c) (hN : fn.ntmps = N) (hok : (Nat.ble args.length N && codeOk N pl c) = true)
    (h : vc B L pl c (retKT B.P fn.results.toList res Φ0 Φ') (argE 0 args) Φ0 n) (hY : B.Y.len = 0) : Ct B f args Φ0 fun sv Φ1 => sv = res ∧ Φ1 = Φ' := by
  simp only [Bool.and_eq_true] at hok
  obtain ⟨hlen, hok⟩ := hok
  have hlen := Nat.le_of_ble_eq_true hlen
  intro r β w vs hG m hl
  refine callsIn_fc (ro := none) (n := 0) |>.1 ?_
  refine callsIn_of_wp_marks hf hb trivial ?_ rfl
  have hvl : vs.length = args.length := hl.1
  have hsz : vs.toArray.size = args.length := by simpa using hvl
  rw [hN]
  have hget : ∀ (k : Nat) (v : Value), vs[k]? = some v → (vs.toArray ++ Array.replicate (N - vs.toArray.size) undef)[k]? = some v := by
    intro k v hk
    have : k < vs.length := lt_len hk
    rw [Array.getElem?_append_left (by simpa using this)]
    simpa using hk
  have s : Sat B (Entry.of r β Φ0 w) N r β (argE 0 args) Φ0 { tmps := vs.toArray ++ Array.replicate (N - vs.toArray.size) undef, defers := [] } w := by
    refine ⟨fun k g sv hg => ?_, m, hG, Kept.refl .., ⟨[], rfl, List.nodup_nil, fun D hD => (List.not_mem_nil hD).elim⟩, by simp; omega⟩
    obtain ⟨rfl, _, hk⟩ := argE_get hg
    have hk : args[k]? = some sv := by simpa using hk
    obtain ⟨v, hv⟩ := getElem_of_len hvl hk
    exact ⟨v, hget k v hv, hl.2 k sv v hk hv⟩
  have hng : NoGd (argE 0 args) := fun k g sv hg => (argE_get hg).1
  refine wpIn_mono (vc_sound' c hok (fun e => e = Entry.of r β Φ0 w) (YOk.none hY) (FamOk.one (fun _ h => h)) none (.inl rfl) _ (fun l σ Φ n h => h) _ r β (argE 0 args) Φ0 n _ w rfl h s hng) fun ex a' w' hq => ?_
  have fin : ∀ {ex}, (∀ i, ex ≠ Ex.exit i) → Out B (fun e => e = Entry.of r β Φ0 w) N (retKT B.P fn.results.toList res Φ0 Φ') ex a' w' →
      LeavesInM (fc none) 0 B.P fn a'.tmps (fun e w' => ∃ v sv r' β' Φ1, e = .returned v ∧ (sv = res ∧ Φ1 = Φ') ∧ Rel r' β' sv v ∧ MemSat r' β' Φ1 w' ∧ r.le r' ∧ Hid r β Φ0 w r' β' Φ1 w') a'.defers .returning w' := by
    intro ex hex ⟨e', r', β', σ', Φ1, n', he', hk, s', _⟩
    subst he'
    have hhid := s'.kept.hid
    have hk : resK B.P σ' Φ1 fn.results.toList fun l => Fin (matK [(0, none, tupSV l)] Φ1 [(0, none, res)] Φ' Φ0) := by
      cases ex with
      | exit i => exact (hex i rfl).elim
      | normal => exact hk
      | ret => exact hk
    obtain ⟨l, hfin, hl'⟩ := resK_sound hk
    obtain ⟨Ds, hds, hnd, hD⟩ := s'.defers
    rw [hds]
    refine leaves_marks (r := r') (β := β') (Φ := Φ1) (lo := fun D => w.heap.size ≤ D) Ds w' hnd hD s'.mem fun w2 m2 e1 e2 e3 e4 e5 => ?_
    obtain ⟨us, hus, hrun⟩ := hl' r' β' a' w2 s'.agree m2
    obtain ⟨r2, β2, hle, m3, hE, hH, hK⟩ := mat_mem hfin.h m2
    refine ⟨_, results_run hrun, _, res, r2, β2, Φ', rfl, ⟨rfl, rfl⟩, ?_, m3, Mem.le_trans s'.kept.le hle, ?_⟩
    · obtain ⟨sv, q1, q2⟩ := hE 0 none res rfl
      cases q1
      exact q2 _ (tup_rel hus)
    · refine ⟨e1.trans hhid.os, e2.trans hhid.tape, e3.trans hhid.output, by rw [e4]; exact hhid.size, fun b hb' h1 h2 => ?_, fun id ch hi hk => ?_⟩
      · obtain ⟨q1, q2, q3⟩ := hhid.block b hb' h1 h2
        exact ⟨(e5 b (by omega)).trans q1, hH b q2 q3⟩
      · obtain ⟨q1, _⟩ := hhid.keep id ch hi hk
        obtain ⟨p1, p2⟩ := hK id ch hi hk
        exact ⟨p1.trans q1, p2⟩
  cases ex with
  | normal => exact fin (by intro i h; cases h) hq
  | ret => exact fin (by intro i h; cases h) hq
  | exit i =>
    obtain ⟨_, r', β', σ', Φ1, n', _, hk, _⟩ := hq
    exact hk.elim
  | goto l => exact hq.elim
  | panic ch => exact hq.elim
  | outgrown => exact hq.elim
theorem body_ctI {B : Base} {f : FuncId} {fn : Func} {c : Code} {args : List SV} {Φ0 : Phi} {N : Nat} {Kr : SV → Phi → Nat → Prop} (L : List Nat) (pl : List (Nat × List Nat)) (n : Nat)
    (hf : B.P.funcs[f]? = some fn) (hb : fn.body = some c) (hN : fn.ntmps = N) (hok : (Nat.ble args.length N && codeOk N pl c) = true)
    (h : vc B L pl c (retI B.P fn.results.toList Kr) (argE 0 args) Φ0 n) (hY : B.Y.len = 0) : Ct B f args Φ0 fun sv Φ1 => ∃ n', Kr sv Φ1 n' := by
  simp only [Bool.and_eq_true] at hok
  obtain ⟨hlen, hok⟩ := hok
  have hlen := Nat.le_of_ble_eq_true hlen
  intro r β w vs hG m hl
  refine callsIn_fc (ro := none) (n := 0) |>.1 ?_
  refine callsIn_of_wp_marks hf hb trivial ?_ rfl
  have hvl : vs.length = args.length := hl.1
  have hsz : vs.toArray.size = args.length := by simpa using hvl
  rw [hN]
  have hget : ∀ (k : Nat) (v : Value), vs[k]? = some v → (vs.toArray ++ Array.replicate (N - vs.toArray.size) undef)[k]? = some v := by
    intro k v hk
    have : k < vs.length := lt_len hk
    rw [Array.getElem?_append_left (by simpa using this)]
    simpa using hk
  have s : Sat B (Entry.of r β Φ0 w) N r β (argE 0 args) Φ0 { tmps := vs.toArray ++ Array.replicate (N - vs.toArray.size) undef, defers := [] } w := by
    refine ⟨fun k g sv hg => ?_, m, hG, Kept.refl .., ⟨[], rfl, List.nodup_nil, fun D hD => (List.not_mem_nil hD).elim⟩, by simp; omega⟩
    obtain ⟨rfl, _, hk⟩ := argE_get hg
    have hk : args[k]? = some sv := by simpa using hk
    obtain ⟨v, hv⟩ := getElem_of_len hvl hk
    exact ⟨v, hget k v hv, hl.2 k sv v hk hv⟩
  have hng : NoGd (argE 0 args) := fun k g sv hg => (argE_get hg).1
  refine wpIn_mono (vc_sound' c hok (fun e => e = Entry.of r β Φ0 w) (YOk.none hY) (FamOk.one (fun _ h => h)) none (.inl rfl) _ (fun l σ Φ n h => h) _ r β (argE 0 args) Φ0 n _ w rfl h s hng) fun ex a' w' hq => ?_
  have fin : ∀ {ex}, (∀ i, ex ≠ Ex.exit i) → Out B (fun e => e = Entry.of r β Φ0 w) N (retI B.P fn.results.toList Kr) ex a' w' →
      LeavesInM (fc none) 0 B.P fn a'.tmps (fun e w' => ∃ v sv r' β' Φ1, e = .returned v ∧ (∃ n', Kr sv Φ1 n') ∧ Rel r' β' sv v ∧ MemSat r' β' Φ1 w' ∧ r.le r' ∧ Hid r β Φ0 w r' β' Φ1 w') a'.defers .returning w' := by
    intro ex hex ⟨e', r', β', σ', Φ1, n', he', hk, s', _⟩
    subst he'
    have hhid := s'.kept.hid
    have hk : resK B.P σ' Φ1 fn.results.toList fun l => tupK l fun sv => Kr sv Φ1 n' := by
      cases ex with
      | exit i => exact (hex i rfl).elim
      | normal => exact hk
      | ret => exact hk
    obtain ⟨l, hfin, hl'⟩ := resK_sound hk
    rw [tupK_eq] at hfin
    obtain ⟨Ds, hds, hnd, hD⟩ := s'.defers
    rw [hds]
    refine leaves_marks (r := r') (β := β') (Φ := Φ1) (lo := fun D => w.heap.size ≤ D) Ds w' hnd hD s'.mem fun w2 m2 e1 e2 e3 e4 e5 => ?_
    obtain ⟨us, hus, hrun⟩ := hl' r' β' a' w2 s'.agree m2
    refine ⟨_, results_run hrun, _, tupSV l, r', β', Φ1, rfl, ⟨n', hfin⟩, tup_rel hus, m2, s'.kept.le, ?_⟩
    refine ⟨e1.trans hhid.os, e2.trans hhid.tape, e3.trans hhid.output, by rw [e4]; exact hhid.size, fun b hb' h1 h2 => ?_, fun id ch hi hk => hhid.keep id ch hi hk⟩
    obtain ⟨q1, q2, q3⟩ := hhid.block b hb' h1 h2
    exact ⟨(e5 b (by omega)).trans q1, q2, q3⟩
  cases ex with
  | normal => exact fin (by intro i h; cases h) hq
  | ret => exact fin (by intro i h; cases h) hq
  | exit i =>
    obtain ⟨_, r', β', σ', Φ1, n', _, hk, _⟩ := hq
    exact hk.elim
  | goto l => exact hq.elim
  | panic ch => exact hq.elim
  | outgrown => exact hq.elim
class Inl (B : Base) (f : FuncId) where
 fn : Func
 c : Code
 N : Nat
 L : List Nat
 pl : List (Nat × List Nat)
 call : ∀ (vs : Array Value) (w : World), (callFunc f vs).run B.P w = .ok (.enter f vs) w
 hf : B.P.funcs[f]? = some fn
 hb : fn.body = some c
 hN : fn.ntmps = N
 hok : codeOk N pl c = true
 hY : B.Y.len = 0
@[reducible] def Inl.make {B : Base} {f : FuncId} {fn : Func} {c : Code} {N : Nat} (L : List Nat) (pl : List (Nat × List Nat)) (call : ∀ (vs : Array Value) (w : World), (callFunc f vs).run B.P w = .ok (.enter f vs) w)
  (hf : B.P.funcs[f]? = some fn) (hb : fn.body = some c) (hN : fn.ntmps = N) (hok : codeOk N pl c = true) (hY : B.Y.len = 0 := by rfl) : Inl B f := ⟨fn, c, N, L, pl, call, hf, hb, hN, hok, hY⟩
theorem CallS.inl {B : Base} {f : FuncId} {args : List SV} {σ : Env} {Φ : Phi} {n : Nat} {K : EK} [I : Inl B f] (hl : Nat.ble args.length I.N = true)
  (h : vc B I.L I.pl I.c (retI B.P I.fn.results.toList fun sv Φ' n' => gcP (fun i => !(sv.okIds (fun j => !Nat.beq j i))) Φ Φ' Φ' fun Φ'' => onlyBK Φ σ fun σ' => bif lenLe Φ'' Φ then K sv σ' Φ'' n else K sv σ' Φ'' n') (argE 0 args) Φ n) : CallS B f args σ Φ n K :=
 .i I.call (body_ctI I.L I.pl n I.hf I.hb I.hN (by rw [hl, I.hok]; rfl) h I.hY)
theorem Fn.intro {B : Base} {f : FuncId} {fn : Func} {c : Code} {args : List SV} {pre : Prop} {res : SV} {N : Nat} (L : List Nat) (pl : List (Nat × List Nat))
  (call : ∀ (vs : Array Value) (w : World), (callFunc f vs).run B.P w = .ok (.enter f vs) w)
  (hf : B.P.funcs[f]? = some fn) (hb : fn.body = some c) (hN : fn.ntmps = N) (hok : (Nat.ble args.length N && codeOk N pl c) = true)
  (h : pre → vc B L pl c (retKT B.P fn.results.toList res [] []) (argE 0 args) [] 0) (hY : B.Y.len = 0 := by rfl) : Fn B f args pre res :=
 ⟨call, fun hp => body_ct L pl 0 hf hb hN hok (h hp) hY⟩
theorem FnM.intro {B : Base} {f : FuncId} {fn : Func} {c : Code} {args : List SV} {Φ : Phi} {pre : Prop} {res : SV} {Φ' : Phi} {N : Nat} (L : List Nat) (pl : List (Nat × List Nat)) (n : Nat)
  (call : ∀ (vs : Array Value) (w : World), (callFunc f vs).run B.P w = .ok (.enter f vs) w)
  (hf : B.P.funcs[f]? = some fn) (hb : fn.body = some c) (hN : fn.ntmps = N) (hok : (Nat.ble args.length N && codeOk N pl c) = true)
  (h : pre → vc B L pl c (retKT B.P fn.results.toList res Φ Φ') (argE 0 args) Φ n) (hY : B.Y.len = 0 := by rfl) : FnM B f args Φ pre res Φ' :=
 ⟨call, fun hp => body_ct L pl n hf hb hN hok (h hp) hY⟩
theorem CallS.norm {B : Base} {f : FuncId} {args : List SV} {σ : Env} {Φ : Phi} {n : Nat} {K : EK} {args' : List SV} {σ' : Env} {Φ' : Phi} {n' : Nat} (h : (args, σ, Φ, n) = (args', σ', Φ', n')) [I : Inl B f] (hl : Nat.ble args'.length I.N = true)
  (k : vc B I.L I.pl I.c (retI B.P I.fn.results.toList fun sv Φ2 n2 => gcP (fun i => !(sv.okIds (fun j => !Nat.beq j i))) Φ' Φ2 Φ2 fun Φ'' => onlyBK Φ' σ' fun σ2 => bif lenLe Φ'' Φ' then K sv σ2 Φ'' n' else K sv σ2 Φ'' n2) (argE 0 args') Φ' n') : CallS B f args σ Φ n K := by
 cases h; exact CallS.inl hl k
theorem absTF {p : Prop} (h : true = false) : p := nomatch h
theorem absFT {p : Prop} (h : false = true) : p := nomatch h
theorem Fn.lift {B : Base} {f : FuncId} {args : List SV} {pre : Prop} {res : SV}
  (call : ∀ (vs : Array Value) (w : World), (callFunc f vs).run B.P w = .ok (.enter f vs) w)
  (h : pre → ∀ (r : Mem) (β : Bind) (w : World) (vs : List Value), B.G r → MemSat r β [] w → RelL r β args vs →
   ∃ v, Calls B.P f vs.toArray w (fun e w' => e = .returned v ∧ w' = w) ∧ Rel r β res v) : Fn B f args pre res := by
 refine ⟨call, fun hp r β w vs hG m hl => ?_⟩
 obtain ⟨v, hc, hr⟩ := h hp r β w vs hG m hl
 refine hc.mono fun e w' hh => ?_
 obtain ⟨rfl, rfl⟩ := hh
 exact ⟨v, res, r, β, [], rfl, ⟨rfl, rfl⟩, hr, m, Mem.le_refl r, Hid.refl ..⟩
theorem RelL.str1 {r : Mem} {β : Bind} {s : List UInt8} {vs : List Value} (h : RelL r β [.str s] vs) : vs = [.string ⟨s.toArray⟩] ∧ s.length ≤ 9223372036854775807 := by
 obtain ⟨hl, h⟩ := h
 match vs, hl with
 | [a], _ =>
  have h0 := h 0 _ a rfl rfl
  cases h0 with
  | str k => exact ⟨rfl, k⟩
theorem RelL.str2 {r : Mem} {β : Bind} {s t : List UInt8} {vs : List Value} (h : RelL r β [.str s, .str t] vs) :
  vs = [.string ⟨s.toArray⟩, .string ⟨t.toArray⟩] ∧ s.length ≤ 9223372036854775807 ∧ t.length ≤ 9223372036854775807 := by
 obtain ⟨hl, h⟩ := h
 match vs, hl with
 | [a, b], _ =>
  have h0 := h 0 _ a rfl rfl
  have h1 := h 1 _ b rfl rfl
  cases h0 with
  | str k => cases h1 with
   | str k1 => exact ⟨rfl, k, k1⟩
end Go.Vc

namespace Go.Vc
set_option autoImplicit false
structure ItFin (len : Nat) (Φ : Phi) : Prop where
 h : (∃ i, Phi.get Φ GID = some (.gh (some i)) ∧ i = len) ∨ Phi.get Φ GID = some (.gh none)
def itEnd (len : Nat) (Φ : Phi) : Prop :=
 match Phi.get Φ GID with
 | some (.gh none) => True
 | some (.gh (some i)) => Ob (i = len)
 | _ => False
theorem itEnd_fin {len : Nat} {Φ : Phi} (h : itEnd len Φ) : ItFin len Φ := by
 unfold itEnd at h
 split at h
 ·rename_i h1; exact ⟨.inr h1⟩
 ·rename_i i h1; exact ⟨.inl ⟨i, h1, h.h⟩⟩
 ·exact h.elim
def itKT (P : Program) (rs : List ResultVar) (len : Nat) : KT := fun e σ Φ _ =>
 match e with
 | .exit _ => False
 | _ => resK P σ Φ rs fun _ => itEnd len Φ
theorem freshQ_get {n : Nat} {Φ : Phi} (h : freshQ n Φ = true) (k : Nat) (ch) (hg : Phi.get Φ k = some ch) : freshC n ch = true := by
 induction Φ with
 | nil => simp [Phi.get] at hg
 | cons x r ih =>
  obtain ⟨k0, c⟩ := x
  simp only [freshQ, Bool.and_eq_true] at h
  rw [phi_cons] at hg
  cases hb : Nat.beq k0 k with
  | true => rw [hb] at hg; simp at hg; subst hg; exact h.1
  | false => rw [hb] at hg; exact ih h.2 hg
def ItAt (J : Nat → (Nat → Prop) → World → Prop) (Jx : (Nat → Prop) → World → Prop) : Option Nat → (Nat → Prop) → World → Prop
 | some i, S, w => J i S w
 | none, S, w => Jx S w
structure ItE (r0 : Mem) (J : Nat → (Nat → Prop) → World → Prop) (Jx : (Nat → Prop) → World → Prop) (e : Entry) : Prop where
 r : e.r = r0
 lo : e.lo = fun D => ¬ e.S D
 h : ∃ oi, e.Φ = [(GID, .gh oi)] ∧ e.β GID = ghV oi ∧ ItAt J Jx oi e.S e.w
section
variable {B : Base} {len : Nat} {at_ : Nat → List SV} {l : Nat} {r0 : Mem} {J : Nat → (Nat → Prop) → World → Prop} {Jx : (Nat → Prop) → World → Prop}
 (hJ : ∀ i S w, J i S w → (∀ b, S b → b < w.heap.size ∧ r0 b = none) ∧ ∀ w', Oth r0 S w w' → J i S w')
 (hJx : ∀ S w, Jx S w → (∀ b, S b → b < w.heap.size ∧ r0 b = none) ∧ ∀ w', Oth r0 S w w' → Jx S w')
include hJ hJx
theorem ItE.fam : FamOk (ItE r0 J Jx) := by
 refine ⟨fun e he D hD => ?_, fun e e' he he' id ch h hk => ?_⟩
 ·rw [he.lo]
  intro hS
  obtain ⟨oi, _, _, h3⟩ := he.h
  have : D < e.w.heap.size := by
   cases oi with
   | some i => exact ((hJ _ _ _ h3).1 D hS).1
   | none => exact ((hJx _ _ h3).1 D hS).1
  omega
 ·obtain ⟨oi, h1, _, _⟩ := he.h
  obtain ⟨oi', h1', _, _⟩ := he'.h
  rw [h1'] at h
  rw [h1]
  rw [phi_cons] at h
  cases hb : Nat.beq GID id with
  | true => rw [hb] at h; simp at h; subst h; exact ⟨.gh oi, by rw [phi_cons, hb]; rfl, rfl⟩
  | false => rw [hb] at h; simp [Phi.get] at h
theorem ItE.now {B' : Base} {e N r β σ Φ a w} (he : ItE r0 J Jx e) (s : Sat B' e N r β σ Φ a w) {oi} (hg : Phi.get Φ GID = some (.gh oi)) {w2 : World} (hw : Oth r0 e.S w w2) :
  ItAt J Jx oi e.S w2 := by
 obtain ⟨oi', h1, h2, h3⟩ := he.h
 have hk := (s.kept.keep GID (.gh oi') (by rw [h1]; rfl) (by simp [Chunk.kind])).1
 have hc := s.mem.chs GID _ hg
 have : oi = oi' := by
  cases hc with
  | gh hx => rw [hk, h2] at hx; exact (ghV_inj hx).symm
 subst this
 have ho : Oth r0 e.S e.w w2 := ⟨hw.os.trans s.kept.os, hw.tape.trans s.kept.tape, hw.output.trans s.kept.output, Nat.le_trans s.kept.size hw.size, fun b hb => (hw.same b hb).trans (s.kept.block b hb).1, hw.old⟩
 cases oi with
 | some i => exact (hJ _ _ _ h3).2 _ ho
 | none => exact (hJx _ _ h3).2 _ ho
theorem ItE.yok (hY : ∀ i S w r β vs, J i S w → i < len → RelL r β (at_ i) vs → YieldTo B.P l vs w fun e w' => ∃ b S', e = .returned (.bool b) ∧ Own S w w' ∧ (∀ x, S' x → S x ∨ w.heap.size ≤ x) ∧ (bif b then J (i + 1) S' w' else Jx S' w')) (N : Nat) :
  YOk (B.withY ⟨l, len, at_⟩) (ItE r0 J Jx) N := by
 intro e r β σ Φ a w i vs hF s hg hi hvs hfσ hfΦ
 have hr0 : r0.le r := by rw [← hF.r]; exact s.kept.le
 have hnow := hF.now hJ hJx s hg (w2 := w) ⟨rfl, rfl, rfl, Nat.le_refl _, fun _ _ => rfl, fun b o h => s.mem.vis b o (hr0 b o h)⟩
 refine (hY i e.S w r β vs hnow hi hvs).mono ?_
 rintro en w' ⟨b, S', rfl, hown, hS', hb⟩
 obtain ⟨oi, hoi⟩ : ∃ oi : Option Nat, oi = bif b then some (i + 1) else none := ⟨_, rfl⟩
 obtain ⟨β', hβ⟩ : ∃ β' : Bind, β' = fun id => bif Nat.beq GID id then ghV oi else β id := ⟨_, rfl⟩
 have hin : ItAt J Jx oi S' w' := by
  cases b <;> subst hoi <;> exact hb
 have hlt : ∀ x, S' x → x < w'.heap.size ∧ r0 x = none := by
  intro x hx
  cases oi with
  | some i => exact (hJ _ _ _ hin).1 x hx
  | none => exact (hJx _ _ hin).1 x hx
 have hβg : β' GID = ghV oi := by rw [hβ]; simp
 have hβo : ∀ id, (!Nat.beq id GID) = true → β' id = β id := by
  intro id hid
  have : Nat.beq GID id = false := by
   cases hq : Nat.beq GID id with
   | false => rfl
   | true => rw [← beq_of hq] at hid; simp at hid
  rw [hβ]; simp [this]
 have ngid : ∀ {id ch}, Phi.get Φ id = some ch → (∀ oi, ch ≠ .gh oi) ∨ id = id := fun _ => .inr rfl
 refine ⟨b, rfl, ⟨r0, S', fun D => ¬ S' D, β', [(GID, .gh oi)], w'⟩, ⟨rfl, rfl, oi, rfl, hβg, hin⟩, fun Φ' hΦ' => ⟨β', ?_⟩⟩
 rw [← hoi] at hΦ'
 have other : ∀ {j ch}, Phi.get Φ' j = some ch → (j = GID ∧ ch = .gh oi) ∨ ((!Nat.beq j GID) = true ∧ Phi.get Φ j = some ch) := by
  intro j ch h
  rw [hΦ'] at h
  cases hq : Nat.beq GID j with
  | true => rw [hq] at h; simp at h; exact .inl ⟨(beq_of hq).symm, h.symm⟩
  | false =>
   rw [hq] at h
   refine .inr ⟨?_, h⟩
   cases hq' : Nat.beq j GID with
   | false => rfl
   | true => rw [beq_of hq'] at hq; simp at hq
 have hidn : ∀ {x}, S' x → r x = none ∧ ∀ id ch, Phi.get Φ id = some ch → ¬ ch.hb (β id) x := by
  intro x hx
  rcases hS' x hx with h | h
  ·exact (s.kept.block x h).2
  ·refine ⟨?_, fun id ch h1 h2 => by have := blk_lt s.mem h1 h2; omega⟩
   cases hq : r x with
   | none => rfl
   | some o => have := lt_of_heap (s.mem.vis x o hq); omega
 have heap : ∀ x, x < w.heap.size → ¬ e.S x → w'.heap[x]? = w.heap[x]? := hown.same
 refine ⟨?_, ⟨fun b o h => ?_, fun id ch hi' => ?_, fun id ch b hi' hb' => ?_, fun id id' ch ch' b h1 h2 h3 h4 => ?_⟩, s.G, ⟨hr0, rfl, rfl, rfl, Nat.le_refl _, fun x hx => ⟨rfl, (hidn hx).1, fun id ch hi' hb' => ?_⟩, fun id ch hi' hk => ?_, fun x hx => (hlt x hx).1⟩, ?_, s.size⟩
 ·refine s.agree.of fun k g sv hk => ⟨sv, hk, fun v hr => ?_⟩
  exact hr.bind (p := fun i => !Nat.beq i GID) hβo (freshE_get hfσ k g sv hk)
 ·have h1 := s.mem.vis b o h
  rw [heap b (lt_of_heap h1) (fun hS => by rw [(s.kept.block b hS).2.1] at h; cases h)]
  exact h1
 ·rcases other hi' with ⟨rfl, rfl⟩ | ⟨hne, hg'⟩
  ·exact .gh hβg
  ·have hc := s.mem.chs id ch hg'
   have hfc := freshQ_get hfΦ id ch hg'
   have e1 : β' id = β id := hβo id hne
   rw [e1]
   have h2 : ch.Sat r β w' (β id) := hc.keep (Mem.le_refl r) (fun b hb' => heap b (blk_lt s.mem hg' hb') (fun hS => (s.kept.block b hS).2.2 id ch hg' hb')) (fun _ _ _ _ _ _ _ h => h)
   refine h2.keep (Mem.le_refl r) (fun _ _ => rfl) fun _ cells hcl i sv v h3 h4 => ?_
   subst hcl
   exact h4.bind (p := fun i => !Nat.beq i GID) hβo (SV.okIdsL_get (by simpa [freshC] using hfc) i sv h3)
 ·rcases other hi' with ⟨rfl, rfl⟩ | ⟨hne, hg'⟩
  ·cases hb'
  ·rw [hβo id hne] at hb'; exact s.mem.sep id ch b hg' hb'
 ·rcases other h1 with ⟨rfl, rfl⟩ | ⟨hne, hg1⟩
  ·cases h3
  ·rcases other h2 with ⟨rfl, rfl⟩ | ⟨hne', hg2⟩
   ·cases h4
   ·rw [hβo id hne] at h3; rw [hβo id' hne'] at h4
    exact s.mem.nod id id' ch ch' b hg1 hg2 h3 h4
 ·rcases other hi' with ⟨rfl, rfl⟩ | ⟨hne, hg'⟩
  ·cases hb'
  ·rw [hβo id hne] at hb'; exact (hidn hx).2 id ch hg' hb'
 ·have hi' : Phi.get [(GID, Chunk.gh oi)] id = some ch := hi'
  rw [phi_cons] at hi'
  cases hq : Nat.beq GID id with
  | true =>
   obtain rfl := beq_of hq
   rw [hq] at hi'; simp at hi'; subst hi'
   exact ⟨rfl, .gh oi, by rw [hΦ']; simp, rfl⟩
  | false => rw [hq] at hi'; simp [Phi.get] at hi'
 ·obtain ⟨Ds, h1, h2, h3⟩ := s.defers
  refine ⟨Ds, h1, h2, fun D hD => ?_⟩
  obtain ⟨g1, g2, g3, g4⟩ := h3 D hD
  rw [hF.lo] at g1
  have hDw := lt_of_heap g2
  refine ⟨fun hS => ?_, (heap D hDw g1).trans g2, g3, fun id ch hi' hb' => ?_⟩
  ·rcases hS' D hS with h | h
   ·exact g1 h
   ·omega
  ·rcases other hi' with ⟨rfl, rfl⟩ | ⟨hne, hg'⟩
   ·cases hb'
   ·rw [hβo id hne] at hb'; exact g4 id ch hg' hb'
end
theorem It.intro {B : Base} {f : FuncId} {fn : Func} {c : Code} {caps : List SV} {pre : Prop} {len : Nat} {at_ : Nat → List SV} {N : Nat} (L : List Nat) (pl : List (Nat × List Nat)) (n : Nat)
    (call : ∀ (vs : Array Value) (w : World), (callFunc f vs).run B.P w = .ok (.enter f vs) w)
    (hf : B.P.funcs[f]? = some fn) (hb : fn.body = some c) (hN : fn.ntmps = N) (hok : (Nat.ble (caps.length + 1) N && (codeOk N pl c && SV.okIdsL (fun _ => false) caps)) = true)
    (h : pre → ∀ l, vc (B.withY ⟨l, len, at_⟩) L pl c (itKT B.P fn.results.toList len) (argE 0 (.v (yldV l) :: caps)) [(GID, .gh (some 0))] n) : It B f caps pre len at_ := by
  refine ⟨call, fun hpre l r0 J Jx hJ hJx hY β w vs S hG m hl hJ0 => ?_⟩
  have h := h hpre l
  simp only [Bool.and_eq_true] at hok
  obtain ⟨hlen, hok, hcap⟩ := hok
  have hlen := Nat.le_of_ble_eq_true hlen
  obtain ⟨βi, hβi⟩ : ∃ βi : Bind, βi = fun _ => ghV (some 0) := ⟨_, rfl⟩
  have hrel : RelL r0 βi (.v (yldV l) :: caps) (yldV l :: vs) := by
    refine RelL.cons .v ⟨hl.1, fun i sv v h1 h2 => (hl.2 i sv v h1 h2).bind (p := fun _ => false) (fun _ h => by cases h) (SV.okIdsL_get hcap i sv h1)⟩
  generalize hargs : (SV.v (yldV l) :: caps) = args at h hrel
  have halen : args.length ≤ N := by rw [← hargs]; simpa using hlen
  generalize (yldV l :: vs) = vs at hrel
  refine callsIn_fc (ro := none) (n := 0) |>.1 ?_
  refine callsIn_of_wp_marks hf hb trivial ?_ rfl
  have hvl : vs.length = args.length := hrel.1
  have hsz : vs.toArray.size = args.length := by simpa using hvl
  rw [hN]
  have hget : ∀ (k : Nat) (v : Value), vs[k]? = some v → (vs.toArray ++ Array.replicate (N - vs.toArray.size) undef)[k]? = some v := by
    intro k v hk
    have : k < vs.length := lt_len hk
    rw [Array.getElem?_append_left (by simpa using this)]
    simpa using hk
  have hbound := (hJ _ _ _ hJ0).1
  have he0 : ItE r0 J Jx ⟨r0, S, fun D => ¬ S D, βi, [(GID, .gh (some 0))], w⟩ := ⟨rfl, rfl, some 0, rfl, by rw [hβi], hJ0⟩
  have mi : MemSat r0 βi [(GID, .gh (some 0))] w := by
    have one : ∀ {id ch}, Phi.get [(GID, Chunk.gh (some 0))] id = some ch → ch = .gh (some 0) := by
      intro id ch h
      rw [phi_cons] at h
      cases hq : Nat.beq GID id with
      | true => rw [hq] at h; simp at h; exact h.symm
      | false => rw [hq] at h; simp [Phi.get] at h
    refine ⟨m.vis, fun id ch h => ?_, fun id ch b h h1 => ?_, fun id id' ch ch' b h h' h1 => ?_⟩
    · rw [one h]; exact .gh (by rw [hβi])
    · rw [one h] at h1; cases h1
    · rw [one h] at h1; cases h1
  have s : Sat (B.withY ⟨l, len, at_⟩) ⟨r0, S, fun D => ¬ S D, βi, [(GID, .gh (some 0))], w⟩ N r0 βi (argE 0 args) [(GID, .gh (some 0))] { tmps := vs.toArray ++ Array.replicate (N - vs.toArray.size) undef, defers := [] } w := by
    refine ⟨fun k g sv hg => ?_, mi, hG, ⟨Mem.le_refl _, rfl, rfl, rfl, Nat.le_refl _, fun b hb => ⟨rfl, (hbound b hb).2, fun id ch hi hbk => ?_⟩, fun id ch hi _ => ⟨rfl, ch, hi, rfl⟩, fun b hb => (hbound b hb).1⟩, ⟨[], rfl, List.nodup_nil, fun D hD => (List.not_mem_nil hD).elim⟩, by simp; omega⟩
    · obtain ⟨rfl, _, hk⟩ := argE_get hg
      have hk : args[k]? = some sv := by simpa using hk
      obtain ⟨v, hv⟩ := getElem_of_len hvl hk
      exact ⟨v, hget k v hv, hrel.2 k sv v hk hv⟩
    · rw [phi_cons] at hi
      cases hq : Nat.beq GID id with
      | true => rw [hq] at hi; simp at hi; subst hi; cases hbk
      | false => rw [hq] at hi; simp [Phi.get] at hi
  have hng : NoGd (argE 0 args) := fun k g sv hg => (argE_get hg).1
  refine wpIn_mono (vc_sound' (B := B.withY ⟨l, len, at_⟩) c hok (ItE r0 J Jx) (ItE.yok hJ hJx hY N) (ItE.fam hJ hJx) none (.inl rfl) _ (fun l σ Φ n h => h) _ r0 βi (argE 0 args) _ n _ w he0 h s hng) fun ex a' w' hq => ?_
  have fin : ∀ {ex}, (∀ i, ex ≠ Ex.exit i) → Out (B.withY ⟨l, len, at_⟩) (ItE r0 J Jx) N (itKT B.P fn.results.toList len) ex a' w' →
      LeavesInM (fc none) 0 B.P fn a'.tmps (fun e w' => (∃ v, e = .returned v) ∧ ∃ S', J len S' w' ∨ Jx S' w') a'.defers .returning w' := by
    intro ex hex ⟨e', r', β', σ', Φ1, n', he', hk, s', _⟩
    have hk : resK B.P σ' Φ1 fn.results.toList fun _ => itEnd len Φ1 := by
      cases ex with
      | exit i => exact (hex i rfl).elim
      | normal => exact hk
      | ret => exact hk
    obtain ⟨ls, hfin, hl'⟩ := resK_sound hk
    obtain ⟨Ds, hds, hnd, hD⟩ := s'.defers
    rw [hds]
    refine leaves_marks (r := r') (β := β') (Φ := Φ1) (lo := e'.lo) Ds w' hnd hD s'.mem fun w2 m2 e1 e2 e3 e4 e5 => ?_
    obtain ⟨us, hus, hrun⟩ := hl' r' β' a' w2 s'.agree m2
    refine ⟨_, results_run hrun, ⟨_, rfl⟩, e'.S, ?_⟩
    have hle : r0.le r' := by rw [← he'.r]; exact s'.kept.le
    have ho : Oth r0 e'.S w' w2 := ⟨e1, e2, e3, by rw [e4]; exact Nat.le_refl _, fun b hb => e5 b (by rw [he'.lo]; exact fun h => h hb), fun b o hb => m2.vis b o (hle b o hb)⟩
    rcases (itEnd_fin hfin).h with ⟨i, hg, rfl⟩ | hg
    · exact .inl (he'.now hJ hJx s' hg ho)
    · exact .inr (he'.now hJ hJx s' hg ho)
  cases ex with
  | normal => exact fin (by intro i h; cases h) hq
  | ret => exact fin (by intro i h; cases h) hq
  | exit i =>
    obtain ⟨_, r', β', σ', Φ1, n', _, hk, _⟩ := hq
    exact hk.elim
  | goto l => exact hq.elim
  | panic ch => exact hq.elim
  | outgrown => exact hq.elim
theorem ZA {p : Prop} [Decidable p] : (decide p = true) = p := decide_eq_true_eq
theorem ZB {p : Prop} [Decidable p] : decide p = false ↔ ¬ p := decide_eq_false_iff_not
theorem ZC.{u} {α : Type u} [BEq α] [LawfulBEq α] {a b : α} : (a == b) = true ↔ a = b := beq_iff_eq
theorem ZD.{u} {α : Type u} [BEq α] [LawfulBEq α] {a b : α} : (a == b) = false ↔ a ≠ b := beq_eq_false_iff_ne
theorem ZE.{u} {α : Type u} [BEq α] [LawfulBEq α] {a b : α} : (a != b) = true ↔ a ≠ b := bne_iff_ne
theorem ZF.{u} {α : Type u} [BEq α] [LawfulBEq α] {a b : α} : (a != b) = false ↔ a = b := bne_eq_false_iff_eq
theorem ZG.{u} {α : Sort u} (a b : α) : (a ≠ b) = ¬ (a = b) := ne_eq a b
theorem ZH (a b : Bool) : ((a && b) = true) = (a = true ∧ b = true) := Bool.and_eq_true a b
theorem ZI (a b : Bool) : ((a || b) = true) = (a = true ∨ b = true) := Bool.or_eq_true a b
theorem ZJ (b : Bool) : (¬ b = true) = (b = false) := Bool.not_eq_true b
theorem ZK (b : Bool) : (¬ b = false) = (b = true) := Bool.not_eq_false b
theorem ZL (b : Bool) : ((!b) = true) = (b = false) := Bool.not_eq_true' b
theorem ZM (b : Bool) : ((!b) = false) = (b = true) := Bool.not_eq_false' b
theorem ZN {a b : Int} : ¬ a < b ↔ b ≤ a := Int.not_lt
theorem ZO {a b : Int} : ¬ a ≤ b ↔ b < a := Int.not_le
abbrev W1 := @CallG.plain
abbrev W2 := @CallG.mk
abbrev W3 := @CallG.nwl
abbrev W4 := @CallG.nw
abbrev W5 := @CallF.nwl
abbrev W6 := @CallF.nw
abbrev W7 := @CallM.mk
abbrev X1 := @CallS.q
abbrev X2 := @CallS.m
abbrev X3 := @CallS.h
abbrev X4 := @CallS.b
abbrev X5 := @CallS.z
abbrev X7 := @CallS.norm
abbrev X8 := @RdG.norm
end Go.Vc

namespace Go.Vc
set_option autoImplicit false
open Go.RowKit
theorem Fn.liftB {B : Base} {f : FuncId} {args : List SV} {pre : Prop} {res : SV}
  (call : ∀ (vs : Array Value) (w : World), (callFunc f vs).run B.P w = .ok (.enter f vs) w)
  (h : pre → ∀ (r : Mem) (β : Bind) (w : World) (vs : List Value), B.G r → MemSat r β [] w → RelL r β args vs →
   ∃ v, Calls B.P f vs.toArray w (fun e w' => e = .returned v ∧ Below w.heap.size w w') ∧ Rel r β res v) : Fn B f args pre res := by
 refine ⟨call, fun hp r β w vs hG m hl => ?_⟩
 obtain ⟨v, hc, hr⟩ := h hp r β w vs hG m hl
 refine hc.mono fun e w' hh => ?_
 obtain ⟨rfl, hb⟩ := hh
 refine ⟨v, res, r, β, [], rfl, ⟨rfl, rfl⟩, hr, ⟨fun b o h => ?_, fun _ _ h => (by cases h), fun _ _ _ h => (by cases h), fun _ _ _ _ _ h => (by cases h)⟩, Mem.le_refl r,
  ⟨hb.os, hb.tape, hb.output, hb.size, fun b hb' h1 h2 => ⟨hb.block b hb', h1, h2⟩, fun _ _ h => (by cases h)⟩⟩
 have := m.vis b o h
 rw [hb.block b (lt_of_heap this)]; exact this
end Go.Vc
