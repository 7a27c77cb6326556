/- A part of the proof: lemmas and walks that the last text of the claim joins; no condition. -/
import Derived.Test.YtfjggnjfifbbgaaVcE1
namespace Go.Vc
set_option autoImplicit false
set_option linter.unusedVariables false

/-- the second says no more than the first, and does not name id -/
def Stale (id : Nat) (sv sv' : SV) : Prop := sv' = .und ∨ (sv' = sv ∧ sv.okIds (fun i => !Nat.beq i id) = true)

theorem staleS_sound {id sv} {K : SV → Prop} (h : staleS id sv K) : ∃ sv', K sv' ∧ Stale id sv sv' := by
  unfold staleS at h
  cases hb : sv.okIds (fun i => !Nat.beq i id) with
  | true => rw [hb] at h; exact ⟨_, h, .inr ⟨rfl, hb⟩⟩
  | false => rw [hb] at h; exact ⟨_, h, .inl rfl⟩
theorem staleL_sound {id : Nat} {l : List SV} : ∀ {K : List SV → Prop}, staleL id l K → ∃ l', K l' ∧ l'.length = l.length ∧ ∀ (i : Nat) (sv' : SV), l'[i]? = some sv' → ∃ sv, l[i]? = some sv ∧ Stale id sv sv' := by
  induction l with
  | nil => intro K h; exact ⟨[], h, rfl, fun i sv' h => by simp at h⟩
  | cons x r ih =>
    intro K h
    obtain ⟨y, h, hy⟩ := staleS_sound h
    obtain ⟨l', h, h1, h2⟩ := ih h
    refine ⟨_, h, by simp [h1], fun i sv' hi => ?_⟩
    cases i with
    | zero => simp at hi; subst hi; exact ⟨x, rfl, hy⟩
    | succ i => obtain ⟨sv, q1, q2⟩ := h2 i sv' (by simpa using hi); exact ⟨sv, by simpa using q1, q2⟩
theorem staleE_sound {id : Nat} {σ : Env} : ∀ {K : Env → Prop}, staleE id σ K → ∃ σ', K σ' ∧ ∀ k g sv', Env.get σ' k = some (g, sv') → ∃ sv, Env.get σ k = some (g, sv) ∧ Stale id sv sv' := by
  induction σ with
  | nil => intro K h; exact ⟨[], h, fun k g sv' h => by simp [Env.get] at h⟩
  | cons x r ih =>
    obtain ⟨k0, g0, sv0⟩ := x
    intro K h
    obtain ⟨y, h, hy⟩ := staleS_sound h
    obtain ⟨σ', h, h2⟩ := ih h
    refine ⟨_, h, fun k g sv' hi => ?_⟩
    rw [get_cons] at hi ⊢
    cases hb : Nat.beq k0 k with
    | true => rw [hb] at hi; simp at hi; obtain ⟨rfl, rfl⟩ := hi; exact ⟨sv0, rfl, hy⟩
    | false => rw [hb] at hi; exact h2 k g sv' hi
inductive StaleC (id : Nat) : Chunk → Chunk → Prop
  | same {c} (h : ∀ cs, c ≠ .box cs) : StaleC id c c
  | box {cs cs'} (hl : cs'.length = cs.length) (h : ∀ (i : Nat) (sv' : SV), cs'[i]? = some sv' → ∃ sv, cs[i]? = some sv ∧ Stale id sv sv') : StaleC id (.box cs) (.box cs')
theorem staleP_sound {id : Nat} {Φ : Phi} : ∀ {K : Phi → Prop}, staleP id Φ K → ∃ Φ', K Φ' ∧ ∀ j, (∀ c', Phi.get Φ' j = some c' → ∃ c, Phi.get Φ j = some c ∧ StaleC id c c') ∧ (∀ c, Phi.get Φ j = some c → ∃ c', Phi.get Φ' j = some c') := by
  induction Φ with
  | nil => intro K h; exact ⟨[], h, fun j => ⟨fun c' h => by simp [Phi.get] at h, fun c h => by simp [Phi.get] at h⟩⟩
  | cons x r ih =>
    obtain ⟨k, c⟩ := x
    intro K h
    have : ∃ c', StaleC id c c' ∧ staleP id r fun l => K ((k, c') :: l) := by
      unfold staleP at h
      cases c with
      | box cs => obtain ⟨l', h, h1, h2⟩ := staleL_sound h; exact ⟨_, .box h1 h2, h⟩
      | own sz d enc l => exact ⟨_, .same (by intro cs h; cases h), h⟩
      | ownl sz rows => exact ⟨_, .same (by intro cs h; cases h), h⟩
      | iter s pos => exact ⟨_, .same (by intro cs h; cases h), h⟩
    obtain ⟨c', hc, h⟩ := this
    obtain ⟨Φ', h, hg⟩ := ih h
    refine ⟨_, h, fun j => ?_⟩
    rw [phi_cons, phi_cons]
    cases hb : Nat.beq k j with
    | true => exact ⟨fun c1 h => by simp at h; subst h; exact ⟨c, rfl, hc⟩, fun c1 h => ⟨c', rfl⟩⟩
    | false => exact hg j

theorem Stale.rel {id sv sv'} (h : Stale id sv sv') {r β v} (hr : Rel r β sv v) (v' : Value) : Rel r (setB β id v') sv' v := by
  rcases h with rfl | ⟨rfl, ho⟩
  · exact .und
  · exact hr.bind (p := fun i => !Nat.beq i id) (fun i hi => setB_ok i hi) ho

theorem StaleC.blk {id c c'} (h : StaleC id c c') (x : Value) : c'.blk x = c.blk x := by
  cases h with
  | same => rfl
  | box => exact blk_box' _ _ _

/-- a chunk is written, and gets another header -/
theorem sat_head {B : Base} {e N r β σ Φ a w} {id : Nat} {ch ch' : Chunk} {v' : Value} {w' : World} {σ' : Env} {Φ1 Φ' : Phi} (s : Sat B e N r β σ Φ a w) (hid : Phi.get Φ id = some ch)
    (hσ : ∀ k g sv', Env.get σ' k = some (g, sv') → ∃ sv, Env.get σ k = some (g, sv) ∧ Stale id sv sv')
    (hΦ1 : ∀ j c', Phi.get Φ1 j = some c' → ∃ c, Phi.get Φ j = some c ∧ StaleC id c c')
    (hΦ : ∀ j, Phi.get Φ' j = bif Nat.beq id j then some ch' else Phi.get Φ1 j)
    (hos : w'.os = w.os) (ht : w'.tape = w.tape) (hout : w'.output = w.output) (hsz : w.heap.size ≤ w'.heap.size)
    (hold : ∀ b, b < w.heap.size → ch.blk (β id) ≠ some b → w'.heap[b]? = w.heap[b]?)
    (hblk : ∀ b, ch'.blk v' = some b → ch.blk (β id) = some b ∨ w.heap.size ≤ b)
    (hch : ch'.Sat r (setB β id v') w' v') : Sat B e N r (setB β id v') σ' Φ' a w' := by
  have get : ∀ j c, Phi.get Φ' j = some c → (j = id ∧ c = ch') ∨ (j ≠ id ∧ ∃ c0, Phi.get Φ j = some c0 ∧ StaleC id c0 c) := by
    intro j c h
    rw [hΦ] at h
    cases hq : Nat.beq id j with
    | true => obtain rfl := beq_of hq; rw [hq] at h; simp at h; exact .inl ⟨rfl, h.symm⟩
    | false => rw [hq] at h; exact .inr ⟨(fun he => by (subst he; rw [Nat.beq_refl] at hq; cases hq)), hΦ1 j c h⟩
  have blk : ∀ j c b, Phi.get Φ' j = some c → c.blk (setB β id v' j) = some b → (∃ c0, Phi.get Φ j = some c0 ∧ c0.blk (β j) = some b) ∨ (j = id ∧ w.heap.size ≤ b) := by
    intro j c b h1 h2
    rcases get j c h1 with ⟨rfl, rfl⟩ | ⟨hne, c0, h, hs⟩
    · rw [setB_self] at h2
      rcases hblk b h2 with h | h
      · exact .inl ⟨ch, hid, h⟩
      · exact .inr ⟨rfl, h⟩
    · rw [setB_ne hne, hs.blk] at h2
      exact .inl ⟨c0, h, h2⟩
  have alive : ∀ j c b, Phi.get Φ j = some c → c.blk (β j) = some b → b < w.heap.size := fun j c b h1 h2 => (s.mem.chs _ _ h1).alive h2
  refine ⟨fun k g sv' hg => ?_, ⟨fun b o h => ?_, fun j c h => ?_, fun j c b h1 h2 => ?_, fun j j' c c' b h1 h1' h2 h2' => ?_⟩, s.G, s.le,
    ⟨hos.trans s.hid.os, ht.trans s.hid.tape, hout.trans s.hid.output, Nat.le_trans s.hid.size hsz, fun b hb' p1 p2 => ?_⟩, s.defers, s.size⟩
  · obtain ⟨sv, q1, q2⟩ := hσ k g sv' hg
    have := s.agree k g sv q1
    cases g with
    | none => obtain ⟨u, p1, p2⟩ := this; exact ⟨u, p1, q2.rel p2 v'⟩
    | some p => obtain ⟨s', w''⟩ := p; exact ⟨fun hs => by obtain ⟨u, p1, p2⟩ := this.1 hs; exact ⟨u, p1, q2.rel p2 v'⟩, this.2⟩
  · have hv := s.mem.vis _ _ h
    rw [hold b (lt_of_heap hv) (fun hc => by rw [s.mem.sep _ _ _ hid hc] at h; cases h)]
    exact hv
  · rcases get j c h with ⟨rfl, rfl⟩ | ⟨hne, c0, h0, hs⟩
    · rw [setB_self]; exact hch
    · rw [setB_ne hne]
      have hkeep : ∀ b, c0.blk (β j) = some b → w'.heap[b]? = w.heap[b]? := fun b hb => hold b (alive _ _ _ h0 hb) (fun hc => hne (s.mem.nod _ _ _ _ _ h0 hid hb hc))
      have hsat := s.mem.chs _ _ h0
      cases hs with
      | same hnb => exact hsat.keep (Mem.le_refl r) hkeep (fun cells he => (hnb cells he).elim)
      | box hl hst =>
        cases hsat with
        | box hx hw hlc hc =>
          refine .box hx (by rw [hkeep _ (by rw [hx]; rfl)]; exact hw) (by rw [hlc, hl]) fun i sv v p1 p2 => ?_
          obtain ⟨sv0, q1, q2⟩ := hst i sv p1
          exact q2.rel (hc i sv0 v q1 p2) v'
  · rcases blk _ _ _ h1 h2 with ⟨c0, q1, q2⟩ | ⟨rfl, q⟩
    · exact s.mem.sep _ _ _ q1 q2
    · cases hr : r b with
      | none => rfl
      | some o' => exact absurd (lt_of_heap (s.mem.vis _ _ hr)) (by omega)
  · rcases blk _ _ _ h1 h2 with ⟨c0, q1, q2⟩ | ⟨rfl, q⟩ <;> rcases blk _ _ _ h1' h2' with ⟨c1, q1', q2'⟩ | ⟨rfl, q'⟩
    · exact s.mem.nod _ _ _ _ _ q1 q1' q2 q2'
    · exact absurd (alive _ _ _ q1 q2) (by omega)
    · exact absurd (alive _ _ _ q1' q2') (by omega)
    · rfl
  · obtain ⟨x1, x2, x3⟩ := s.hid.block b hb' p1 p2
    have hlt : b < w.heap.size := Nat.lt_of_lt_of_le hb' s.hid.size
    refine ⟨by rw [hold b hlt (x3 _ _ hid)]; exact x1, x2, fun j c h hc => ?_⟩
    rcases blk _ _ _ h hc with ⟨c0, q1, q2⟩ | ⟨rfl, q⟩
    · exact x3 _ _ q1 q2
    · omega

/-- new rows, as cells -/
structure NewRows (r : Mem) (sz m : Nat) (rows : List (List SV)) (news : List Value) : Prop where
  len : rows.length = m
  size : news.length = m * sz
  row : ∀ (i : Nat) (row : List SV), rows[i]? = some row → row.length = sz
  rel : ∀ (i : Nat) (row : List SV) (j : Nat) (sv : SV) (v : Value), rows[i]? = some row → row[j]? = some sv → news[i * sz + j]? = some v → Rel r β0 sv v
  one : ∀ (i : Nat) (row : List SV) (j : Nat) (sv : SV), rows[i]? = some row → row[j]? = some sv → sv.one = true
  ones : ∀ v ∈ news, v.oneCell' = true

def blkOf : Value → Option Nat
  | .slice (some a) _ cap => bif Nat.beq cap 0 then none else some a.block
  | _ => none
theorem blk_ownl_eq (sz rows) (x : Value) : (Chunk.ownl sz rows).blk x = blkOf x := by
  cases x <;> first | rfl | (rename_i a _ _; cases a <;> rfl)
theorem blk_own_eq {α : Type} (sz d enc) (l : List α) (x : Value) : (Chunk.own sz d enc l).blk x = blkOf x := by
  cases x <;> first | rfl | (rename_i a _ _; cases a <;> rfl)

theorem RowsAt.app {r : Mem} {sz n m : Nat} {rows new : List (List SV)} {news : List Value} {c c' : Array Value} {off : Nat}
    (hn : rows.length = n) (nr : NewRows r sz m new news)
    (hrow : ∀ (i : Nat) (row : List SV), rows[i]? = some row → row.length = sz)
    (hrel : ∀ (i : Nat) (row : List SV) (j : Nat) (sv : SV) (v : Value), rows[i]? = some row → row[j]? = some sv → c[off + i * sz + j]? = some v → Rel r β0 sv v)
    {off' : Nat} (hold : ∀ j, j < n * sz → c'[off' + j]? = c[off + j]?) (hnew : ∀ j, j < m * sz → c'[off' + n * sz + j]? = news[j]?) :
    (∀ (i : Nat) (row : List SV), (rows ++ new)[i]? = some row → row.length = sz) ∧
    (∀ (i : Nat) (row : List SV) (j : Nat) (sv : SV) (v : Value), (rows ++ new)[i]? = some row → row[j]? = some sv → c'[off' + i * sz + j]? = some v → Rel r β0 sv v) := by
  have lt : ∀ {l : List SV} {j : Nat} {sv}, l[j]? = some sv → j < l.length := by
    intro l j sv h
    rcases Nat.lt_or_ge j l.length with h' | h'
    · exact h'
    · rw [List.getElem?_eq_none h'] at h; cases h
  have ltr : ∀ {l : List (List SV)} {j : Nat} {sv}, l[j]? = some sv → j < l.length := by
    intro l j sv h
    rcases Nat.lt_or_ge j l.length with h' | h'
    · exact h'
    · rw [List.getElem?_eq_none h'] at h; cases h
  refine ⟨fun i row hi => ?_, fun i row j sv v hi hj hv => ?_⟩
  · rw [List.getElem?_append] at hi
    split at hi
    · exact hrow _ _ hi
    · exact nr.row _ _ hi
  · rw [List.getElem?_append] at hi
    split at hi
    · rename_i hlt
      have hjs : j < sz := by have := hrow _ _ hi; have := lt hj; omega
      have hb : i * sz + j < n * sz := by
        have : (i + 1) * sz ≤ n * sz := Nat.mul_le_mul_right sz (by omega)
        rw [Nat.add_mul] at this; omega
      rw [Nat.add_assoc, hold _ hb, ← Nat.add_assoc] at hv
      exact hrel i row j sv v hi hj hv
    · rename_i hge
      have hjs : j < sz := by have := nr.row _ _ hi; have := lt hj; omega
      have him := ltr hi
      rw [nr.len] at him
      have hb : (i - n) * sz + j < m * sz := by
        have : (i - n + 1) * sz ≤ m * sz := Nat.mul_le_mul_right sz (by omega)
        rw [Nat.add_mul] at this; omega
      have e : off' + i * sz + j = off' + n * sz + ((i - n) * sz + j) := by
        have : i * sz = n * sz + (i - n) * sz := by rw [← Nat.add_mul]; congr 1; omega
        omega
      rw [e, hnew _ hb] at hv
      rw [hn] at hi
      exact nr.rel _ _ _ _ _ hi hj hv

theorem one_app {r : Mem} {sz m : Nat} {rows new : List (List SV)} {news : List Value}
    (h : ∀ (i : Nat) (row : List SV) (j : Nat) (sv : SV), rows[i]? = some row → row[j]? = some sv → sv.one = true) (nr : NewRows r sz m new news) :
    ∀ (i : Nat) (row : List SV) (j : Nat) (sv : SV), (rows ++ new)[i]? = some row → row[j]? = some sv → sv.one = true := by
  intro i row j sv hi hj
  rw [List.getElem?_append] at hi
  split at hi
  · exact h _ _ _ _ hi hj
  · exact nr.one _ _ _ _ hi hj

set_option maxHeartbeats 1000000 in
theorem run_append {P : Program} {r : Mem} {w : World} {t tx e ty : TypeId} {dx : TypeDesc} {i : TypeInfo} {z : Value} (ht : P.underlying t = some (.slice e)) (hx : P.underlying tx = some dx)
    (hni : dx = .string ∨ ∃ e', dx = .slice e') (hi : P.info? e = some i) (hz : i.zero = some z) (hzs : z.cells.size = i.size) (hsz : i.size ≠ 0)
    {v xv : Value} {rows new : List (List SV)} {news : List Value} {m : Nat} (hv : RowsAt r w v i.size rows) (nr : NewRows r i.size m new news)
    (hlen : ∀ w', (Builtin.lenOf xv).run P w' = .ok m w') (hnews : ∀ w', w'.heap = w.heap → (Builtin.firstCells i.size m xv).run P w' = .ok news.toArray w')
    (hb : (rows.length + m) * i.bytes ≤ 70368744177664) (hb2 : rows.length + m ≤ 70368744177664) :
    ∃ v' w', (Builtin.append_ #[t, tx] ty #[v, xv]).run P w = .ok v' w' ∧ RowsAt r w' v' i.size (rows ++ new) ∧ w'.os = w.os ∧ w'.tape = w.tape ∧ w'.output = w.output ∧ w.heap.size ≤ w'.heap.size ∧
      (∀ b, b < w.heap.size → blkOf v ≠ some b → w'.heap[b]? = w.heap[b]?) ∧ (∀ b, blkOf v' = some b → blkOf v = some b ∨ w.heap.size ≤ b) := by
  have hrow0 : ∀ (i' : Nat) (row : List SV), ([] : List (List SV))[i']? = some row → row.length = i.size := by intro i' row h; simp at h
  -- where it must grow
  have grow : ∀ (a0 : Option Addr) (cap : Nat) (olds : List Value), v = .slice a0 rows.length cap → ¬ (rows.length + m ≤ cap) → olds.length = rows.length * i.size →
      (∀ w', w'.heap = w.heap → (Builtin.firstCells i.size rows.length v).run P w' = .ok olds.toArray w') →
      (∀ (i' : Nat) (row : List SV), rows[i']? = some row → row.length = i.size) →
      (∀ (i' : Nat) (row : List SV) (j : Nat) (sv : SV), rows[i']? = some row → row[j]? = some sv → sv.one = true) →
      (∀ (i' : Nat) (row : List SV) (j : Nat) (sv : SV) (u : Value), rows[i']? = some row → row[j]? = some sv → olds[i' * i.size + j]? = some u → Rel r β0 sv u) →
      ∃ v' w', (Builtin.append_ #[t, tx] ty #[v, xv]).run P w = .ok v' w' ∧ RowsAt r w' v' i.size (rows ++ new) ∧ w'.os = w.os ∧ w'.tape = w.tape ∧ w'.output = w.output ∧ w.heap.size ≤ w'.heap.size ∧
      (∀ b, b < w.heap.size → blkOf v ≠ some b → w'.heap[b]? = w.heap[b]?) ∧ (∀ b, blkOf v' = some b → blkOf v = some b ∨ w.heap.size ≤ b) := by
    intro a0 cap olds hve hn holen holds hrow hone hrel
    have h63 : ¬ ((9223372036854775807 : Int) < ((rows.length + m : Nat) : Int)) := by omega
    have hfit : Builtin.nextslicecap (rows.length + m) cap * i.bytes ≤ 281474976710656 := growslice_fits (by omega) (by omega)
    have h48 : ¬ (281474976710656 < Builtin.nextslicecap (rows.length + m) cap * i.bytes) := by omega
    have hge : rows.length + m ≤ grownCap w (rows.length + m) cap e := grownCap_ge w _ _ _
    refine ⟨.slice (some ⟨w.heap.size, 0, none⟩) (rows.length + m) (grownCap w (rows.length + m) cap e),
      { w with heap := w.heap.push (.cells (olds.toArray ++ (news.toArray ++ Builtin.zeroCells z.cells (grownCap w (rows.length + m) cap e - (rows.length + m)))) e), drawn := w.drawn + 1 }, ?_, ?_, rfl, rfl, rfl, ?_, ?_, ?_⟩
    · have hf := hnews w.drew rfl
      have hfo := holds w.drew rfl
      rw [hve] at hfo ⊢
      have hl := hlen w
      have h63' : ¬ (9223372036854775807 < (rows.length : Int) + (m : Int)) := by omega
      rcases hni with rfl | ⟨e', rfl⟩
      all_goals
        simp [Builtin.append_, run_underlying ht, run_underlying hx, sizeOf, typeInfo, zeroValue, hi, hz, hl, hn, h63', h48, Question.forced, hf, hfo, newRow, grownCap]
        rfl
    · have hg0 : grownCap w (rows.length + m) cap e ≠ 0 := by omega
      have hzc : (Builtin.zeroCells z.cells (grownCap w (rows.length + m) cap e - (rows.length + m))).size = (grownCap w (rows.length + m) cap e - (rows.length + m)) * i.size := by rw [size_zeroCells, hzs]
      have hnl := nr.size
      have hap := RowsAt.app (c := olds.toArray) (c' := olds.toArray ++ (news.toArray ++ Builtin.zeroCells z.cells (grownCap w (rows.length + m) cap e - (rows.length + m)))) (off := 0) (off' := 0) (n := rows.length) rfl nr hrow
        (fun i' row j sv u q1 q2 q3 => hrel i' row j sv u q1 q2 (by simpa using q3))
        (fun j hj => by rw [Nat.zero_add, Array.getElem?_append_left (by simp; omega)])
        (fun j hj => by
          rw [Nat.zero_add, Array.getElem?_append_right (by simp; omega)]
          simp only [List.size_toArray, holen, Nat.add_sub_cancel_left]
          rw [Array.getElem?_append_left (by simp; omega)]
          simp)
      refine .inr ⟨w.heap.size, 0, grownCap w (rows.length + m) cap e, _, e, (0, 0), ?_, hg0, heap_alloc_eq (w := { w with drawn := w.drawn + 1 }), by intro j _; omega, ?_, ?_, ?_, hap.1, one_app hone nr, hap.2⟩
      · rw [List.length_append, nr.len]
      · rw [List.length_append, nr.len]; omega
      · rw [List.length_append, nr.len]; exact hge
      · simp only [Array.size_append, List.size_toArray, hzc, holen, hnl, Nat.zero_add]
        rw [← Nat.add_mul, ← Nat.add_mul]
        exact Nat.mul_le_mul_right _ (by omega)
    · show w.heap.size ≤ (w.heap.push _).size; simp
    · intro b hb' _
      exact heap_alloc_lt (w := { w with drawn := w.drawn + 1 }) hb'
    · intro b hb'
      have : grownCap w (rows.length + m) cap e ≠ 0 := by omega
      simp only [blkOf, nbeq_of this, cond_false, Option.some.injEq] at hb'
      right; omega
  rcases hv with ⟨a, hve, hr0⟩ | ⟨b, off, cap, c, T, fr, hve, hc0, hw, hfr, hm1, hcap, hszc, hrow, hone, hrel⟩
  · subst hr0
    by_cases hm : m = 0
    · subst hm
      have hnn : new = [] := List.length_eq_zero_iff.1 nr.len
      have hne : news = [] := List.length_eq_zero_iff.1 (by simpa using nr.size)
      subst hnn; subst hne
      refine ⟨v, w, ?_, .inl ⟨a, hve, rfl⟩, rfl, rfl, rfl, Nat.le_refl _, fun _ _ _ => rfl, fun b hb => ?_⟩
      · rw [hve]
        have hl := hlen w
        have hf := hnews w rfl
        rcases hni with rfl | ⟨e', rfl⟩
        all_goals
          simp only [List.length_nil] at *
          simp [Builtin.append_, run_underlying ht, run_underlying hx, sizeOf, typeInfo, hi, hl, hf]
          cases a <;> simp [storeCells]
      · rw [hve] at hb; cases a <;> simp [blkOf] at hb
    · refine grow a 0 [] (by simpa using hve) (by simp; omega) (by simp) (fun w' _ => ?_) hrow0 (fun i' row j sv q1 => by simp at q1) (fun i' row j sv u q1 => by simp at q1)
      rw [hve]
      cases a <;> simp [Builtin.firstCells, loadCells, loadCellsFrom]
  · have hbl : blkOf v = some b := by rw [hve]; simp only [blkOf, nbeq_of hc0]; rfl
    by_cases hroom : rows.length + m ≤ cap
    · have hfit : off + rows.length * i.size + 0 + news.length ≤ c.size := by
        rw [nr.size]
        have := Nat.mul_le_mul_right i.size hroom
        rw [Nat.add_mul] at this
        omega
      obtain ⟨cur', w', hst, q1, q2, q3, q4⟩ := run_storeCells (P := P) b (off + rows.length * i.size) T fr news 0 c w hw hfit nr.ones hfr
      refine ⟨.slice (some ⟨b, off, none⟩) (rows.length + m) cap, w', ?_, ?_, q2.os, q2.tape, q2.output, by rw [q2.size]; exact Nat.le_refl _, fun b' _ hb' => q2.old b' (fun he => hb' (he ▸ hbl)), fun b' hb' => ?_⟩
      · rw [hve]
        have hl := hlen w
        have hf := hnews w rfl
        rcases hni with rfl | ⟨e', rfl⟩
        all_goals
          simp [Builtin.append_, run_underlying ht, run_underlying hx, sizeOf, typeInfo, hi, hl, hf, hroom, add_mk, hst]
      · have hap := RowsAt.app (c := c) (c' := cur') (off := off) (off' := off) (n := rows.length) rfl nr hrow hrel
          (fun j hj => by rw [q4, if_neg (by omega)])
          (fun j hj => by
            rw [q4, if_pos (by have := nr.size; omega)]
            congr 1; omega)
        refine .inr ⟨b, off, cap, cur', T, fr, by rw [List.length_append, nr.len], hc0, q1, by rw [q3]; exact hfr, by rw [List.length_append, nr.len]; omega, by rw [List.length_append, nr.len]; exact hroom, by rw [q3]; exact hszc, hap.1, one_app hone nr, hap.2⟩
      · simp only [blkOf, nbeq_of hc0, cond_false, Option.some.injEq] at hb'
        left; rw [hbl, ← hb']
    · -- it grows
      have hbnd : ∀ j, j < rows.length * i.size → off + j < c.size := by
        intro j hj
        have := Nat.mul_le_mul_right i.size hcap
        omega
      refine grow (some ⟨b, off, none⟩) cap ((List.range (rows.length * i.size)).map fun j => c.getD (off + j) undef) hve hroom (by simp) (fun w' hw' => ?_) hrow hone (fun i' row j sv u q1 q2 q3 => ?_)
      · rw [hve]
        have hw'' : w'.heap[b]? = some (.cells c T fr) := by rw [hw']; exact hw
        have := run_loadCells (P := P) w' ⟨b, off, none⟩ (rows.length * i.size) (fun j => c.getD (off + j) undef) (fun j hj => by
          rw [add_mk, cell_of_block hw'']
          simp [Array.getD_eq_getD_getElem?, hbnd j hj])
        simp only [Builtin.firstCells, this]
      · have hlt : i' * i.size + j < rows.length * i.size := by
          rcases Nat.lt_or_ge (i' * i.size + j) (rows.length * i.size) with h | h
          · exact h
          · rw [List.getElem?_eq_none (by simpa using h)] at q3; cases q3
        rw [List.getElem?_map, List.getElem?_range hlt] at q3
        simp only [Option.map_some, Option.some.injEq] at q3
        refine hrel i' row j sv u q1 q2 ?_
        rw [Nat.add_assoc, ← q3, Array.getD_eq_getD_getElem?, Array.getElem?_eq_getElem (hbnd _ hlt)]
        rfl

end Go.Vc
