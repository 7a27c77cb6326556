/- A part of the proof: lemmas and walks that the last text of the claim joins; no condition. -/
import Derived.Test.YtecfabjncghbnaaVcE
import Derived.ControlIn
import Derived.RangeFuncLeaves
import Derived.RangeFuncRecord
set_option linter.unusedVariables false
set_option linter.unusedSimpArgs false
namespace Go.Vc
set_option autoImplicit false
set_option linter.unusedVariables false
set_option linter.unusedSimpArgs false
set_option maxHeartbeats 2000000

theorem EntSat.keep {r r' β t t' k g sv} (h : EntSat r β t k g sv) (hle : r.le r') (hk : t'[k]? = t[k]?) (hs : ∀ s w, g = some (s, w) → t'[s]? = t[s]?) : EntSat r' β t' k g sv := by
  cases g with
  | none => obtain ⟨u, p1, p2⟩ := h; exact ⟨u, by rw [hk]; exact p1, p2.mono hle⟩
  | some p =>
    obtain ⟨s, w⟩ := p
    have := hs s w rfl
    simp only [EntSat, hk, this] at h ⊢
    exact ⟨fun hq => by obtain ⟨u, p1, p2⟩ := h.1 hq; exact ⟨u, p1, p2.mono hle⟩, h.2⟩

theorem region_draw {B : Base} {e : Entry} {N : Nat} {all : List Oper} {plan : List Nat} {ro : Option Nat} {K : Env → Phi → Nat → Prop} {Q : Exit → Act → World → Prop} {id : Nat} (ok : RegOk N all) (hlex : Region.lexB .any all.toArray = true) (hpk : planOk all plan = true)
    (hQ : ∀ r β σ Φ n a w, K σ Φ n → Sat B e N r β σ Φ a w → Q .normal a w) {r β σ Φ n a0 w00} (h : vcDraw B all plan σ Φ n K) (s00 : Sat B e N r β σ Φ a0 w00) (hng : NoGd σ) :
    (Code.region id all.toArray true).wpIn (fc ro) 0 B.P Q a0 w00 := by
  obtain ⟨hlen, hpl⟩ := planOk_spec hpk
  have lx : LexOk .any all.toArray := lexOk_of hlex
  have nosel : ∀ (i : Nat) (o : Oper), all[i]? = some o → ∀ cs b, o.op ≠ .select cs b := by
    intro i o ho cs b
    simp only [Region.lexB, Bool.and_eq_true] at hlex
    exact Region.noSelect_spec hlex.1 i o cs b (by simpa using ho)
  -- the state behind the draw
  obtain ⟨w0, hw0⟩ : ∃ w0 : World, w0 = { w00 with drawn := w00.drawn + 1 } := ⟨_, rfl⟩
  have hheap : w0.heap = w00.heap := by rw [hw0]
  have s0 : Sat B e N r β σ Φ a0 w0 := by
    refine s00.step s00.agree ⟨fun b o h => by rw [hheap]; exact s00.mem.vis b o h, fun id ch h => (s00.mem.chs _ _ h).keep (Mem.le_refl r) (fun b _ => by rw [hheap]) (fun _ _ _ _ _ _ h => h), s00.mem.sep, s00.mem.nod⟩ (Mem.le_refl r) ?_
    exact ⟨by rw [hw0], by rw [hw0], by rw [hw0], by rw [hheap]; exact Nat.le_refl _, fun b _ h1 h2 => ⟨by rw [hheap], h1, h2⟩, fun _ ch h _ => ⟨rfl, ch, h, rfl⟩⟩
  unfold vcDraw at h
  obtain ⟨σT, aT, h, hagT, hngT, hszT, hdfT, hTI, hbaseT⟩ := vcT_sound (r := r) (β := β) ok hlen hpl all 0 σ a0 (by simp) (by simp) (by simpa using h) s0.agree hng s0.size (fun i o d hi => by omega)
  obtain ⟨p, sig, frl, gd, sv, fr, pf, hsig0, hfrl0, h⟩ := vcPre_facts hlen hpl all 0 σT [] (by simp) (by simp) (by simpa using h)
  have sg := sig_get pf ok hlen hpl
  obtain ⟨σ1, Φ1, n1, hk1, hD1, hown⟩ := ownFK_sound (n := n) (w0 := w0) (r := r) (β := β) pf hfrl0 hpl hlen p (Nat.le_refl p) h
  have hblt : ∀ id ch bb, Phi.get Φ id = some ch → ch.blk (β id) = some bb → bb < w0.heap.size := fun id ch bb h1 h2 => blk_lt s0.mem h1 h2
  have nonTlt : ∀ {i : Nat} {o : Oper}, all[i]? = some o → (plan[i]? = some 1 ∨ plan[i]? = some 2) → i < p := by
    intro i o ho hp
    rcases Nat.lt_or_ge i p with h | h
    · exact h
    · rcases pf.rest i h (lt_len ho) with h0 | h0 <;> rcases hp with hp | hp <;> rw [hp] at h0 <;> cases h0
  have getA : ∀ {i : Nat} {o : Oper}, all.toArray[i]? = some o → all[i]? = some o := fun h => by simpa using h
  -- the whole of the first part, as the call's own
  have conv : ∀ {S : Nat → Prop} {b : Act} {w : World} {r' x βf}, PI r β Φ w0 all plan p gd sv fr S b w r' x βf → (∀ (j : Nat), j < p → plan[j]? ≠ some 0 → S j) →
      (∀ (t : Nat), (∀ (i : Nat) (o : Oper), S i → plan[i]? ≠ some 0 → all[i]? = some o → o.dst ≠ some t) → b.tmps[t]? = aT.tmps[t]?) → b.tmps.size = N → b.defers = a0.defers →
      SeqInv B e N all p (restOps (plan.drop p) (all.drop p)) K b w := by
    intro S b w r' x βf hPI hall hbase hsz hdf
    have hag : Agree r' β (sig p) b.tmps := by
      intro t g sv' hg
      by_cases hex : ∃ (j : Nat) (oj : Oper), j < p ∧ plan[j]? ≠ some 0 ∧ all[j]? = some oj ∧ oj.dst = some t
      · obtain ⟨j, oj, hj, hnT, hoj, hdj⟩ := hex
        obtain ⟨g1, g2⟩ := (sg p (Nat.le_refl p) t).1 j oj hj hoj hdj
        have hSj := hall j hj hnT
        cases hpl j oj hoj with
        | t _ hq => exact absurd hq hnT
        | q hq => rw [g1 hq] at hg; cases hg; exact hPI.ent j oj t hSj hq hoj hdj
        | f _ hq => rw [g2 hq] at hg; cases hg; exact ⟨x j, (hPI.frs j oj t hSj hq hoj hdj).1, .und⟩
        | s hq => exact absurd hq (pf.no3 j (by omega) hj)
      · have hno : ∀ (j : Nat) (oj : Oper), j < p → plan[j]? ≠ some 0 → all[j]? = some oj → oj.dst ≠ some t := fun j oj h1 h2 h3 h4 => hex ⟨j, oj, h1, h2, h3, h4⟩
        rw [(sg p (Nat.le_refl p) t).2 hno, hsig0] at hg
        have hb := hbase t (fun i o h1 h2 h3 => hno i o (hPI.lt i h1 h2) h2 h3)
        exact (hagT t g sv' hg).keep hPI.le hb (fun s w hgs => by have := hngT t g sv' hg; rw [this] at hgs; cases hgs)
    have hgd : GdIn (dsts (all.take p)) (sig p) := by
      intro t s wv sv' hg
      by_cases hex : ∃ (j : Nat) (oj : Oper), j < p ∧ plan[j]? ≠ some 0 ∧ all[j]? = some oj ∧ oj.dst = some t
      · obtain ⟨j, oj, hj, hnT, hoj, hdj⟩ := hex
        obtain ⟨g1, g2⟩ := (sg p (Nat.le_refl p) t).1 j oj hj hoj hdj
        cases hpl j oj hoj with
        | t _ hq => exact absurd hq hnT
        | q hq =>
          rw [g1 hq] at hg
          obtain ⟨_, _, hf⟩ := pf.step1 j oj (by omega) hj hq hoj
          rcases hf.gd with ⟨_, h2⟩ | ⟨jg, wv', s', h1, h2, h3⟩
          · rw [h2] at hg; cases hg
          · rw [h3] at hg; cases hg
            exact take_mono (by omega) _ (ok.guardIn hoj h1 h2)
        | f _ hq => rw [g2 hq] at hg; cases hg
        | s hq => exact absurd hq (pf.no3 j (by omega) hj)
      · have hno : ∀ (j : Nat) (oj : Oper), j < p → plan[j]? ≠ some 0 → all[j]? = some oj → oj.dst ≠ some t := fun j oj h1 h2 h3 h4 => hex ⟨j, oj, h1, h2, h3, h4⟩
        rw [(sg p (Nat.le_refl p) t).2 hno, hsig0] at hg
        have := hngT t _ sv' hg
        cases this
    obtain ⟨β1, q1, q2, q3, q4⟩ := hown hPI hall hag hblt
    refine ⟨r', β1, σ1, Φ1, n1, hk1, ?_, hD1 _ hgd⟩
    have hid : Hid r β Φ w0 r' β1 Φ1 w := by
      refine ⟨hPI.hid.os, hPI.hid.tape, hPI.hid.output, hPI.hid.size, fun bb hb h1 h2 => ?_, q3⟩
      obtain ⟨a1, a2, a3⟩ := hPI.hid.block bb hb h1 h2
      refine ⟨a1, a2, fun id ch hg hc => ?_⟩
      rcases q4 id ch bb hg hc with ⟨id', c, c1, c2⟩ | ⟨i', j, c, c0, c1, c2, c3⟩
      · exact a3 id' c c1 c2
      · obtain ⟨oi, hoi⟩ : ∃ oi, all[i']? = some oi := ⟨_, List.getElem?_eq_getElem (by have := pf.pl; omega)⟩
        cases hpl i' oi hoi with
        | f d hq _ _ hd =>
          have := (hPI.frs i' oi d (hall i' c0 (by rw [c1]; simp)) hq hoi hd).2.2.2 j c bb c2 c3
          omega
        | t _ hq => rw [c1] at hq; cases hq
        | q hq => rw [c1] at hq; cases hq
        | s hq => rw [c1] at hq; cases hq
    have hmk : Marks r' β1 Φ1 w e.w.heap.size b.defers := by
      rw [hdf]; exact s0.defers.step hid
    exact ⟨q1, q2, B.mono _ _ hPI.le s0.G, Mem.le_trans s0.le hPI.le, s0.hid.trans hid, hmk, hsz⟩
  refine wpIn_region_inv (I := DI B e N r β Φ w0 all plan p gd sv fr aT K) (ops := all.toArray) lx B.mixed ?_ ?_ ?_
  · -- one operation
    intro S i o a w hSlt hcl ho hnS hdep hI
    have ho : all[i]? = some o := getA ho
    have hil := lt_len ho
    obtain ⟨b, tr, hph⟩ := hI
    -- what an operation looks at
    have ahead : ∀ (j : Nat) (oj : Oper) (t : Nat), all[j]? = some oj → oj.dst = some t → t ∈ o.looksAt all.toArray → (j < i → S j) ∧ (i < j → ¬ S j) := by
      intro j oj t hoj hdj hm
      refine ⟨fun hji => ?_, fun hij hSj => ?_⟩
      · rcases lx.apart j i oj o (by simpa using hoj) (by simpa using ho) hji with ⟨ed, he, hb, heq⟩ | hap
        · have := hdep ed he hb; rw [heq] at this; exact this
        · exact absurd hm ((Oper.apart_spec hap).1 t hdj)
      · rcases lx.apart i j o oj (by simpa using ho) (by simpa using hoj) hij with ⟨ed, he, hb, heq⟩ | hap
        · have := hcl j oj hSj (by simpa using hoj) ed he hb
          rw [heq] at this; exact hnS this
        · exact (Oper.apart_spec hap).2.2 t hdj hm
    have heq : ∀ t ∈ o.looksAt all.toArray, a.tmps[t]? = b.tmps[t]? := by
      intro t ht
      by_cases hex : ∃ (j : Nat) (oj : Oper), plan[j]? = some 0 ∧ all[j]? = some oj ∧ oj.dst = some t
      · obtain ⟨j, oj, hpj, hoj, hdj⟩ := hex
        obtain ⟨h1, h2⟩ := ahead j oj t hoj hdj ht
        refine tr.slotT j oj t hpj hoj hdj ?_
        rcases Nat.lt_trichotomy j i with hji | hji | hji
        · exact h1 hji
        · subst hji
          rw [ho] at hoj; cases hoj
          cases hpl j o ho with
          | t d _ _ _ hd hr =>
            rw [hd] at hdj; cases hdj
            exact absurd ht (hr j o (Nat.le_refl j) ho)
          | q hq => rw [hpj] at hq; cases hq
          | f _ hq => rw [hpj] at hq; cases hq
          | s hq => rw [hpj] at hq; cases hq
        · cases hpl j oj hoj with
          | t d _ _ _ hd hr =>
            rw [hd] at hdj; cases hdj
            exact absurd ht (hr i o (by omega) ho)
          | q hq => rw [hpj] at hq; cases hq
          | f _ hq => rw [hpj] at hq; cases hq
          | s hq => rw [hpj] at hq; cases hq
      · exact tr.slotN t fun j oj h1 h2 h3 => hex ⟨j, oj, h1, h2, h3⟩
    have hexec : execOp a.eval o = execOp b.eval o := exec_same (nosel i o ho) heq
    have hwant : Region.wanted o (yielded all.toArray a.tmps) = Region.wanted o (yielded all.toArray b.tmps) := wanted_same heq
    have hszb : b.tmps.size = N → a.tmps.size = N := fun h => by rw [tr.size]; exact h
    have hNlt : ∀ d, o.dst = some d → d < N := fun d hd => ok.lt o (List.mem_of_getElem? ho) d hd
    -- both frames take the same value
    have tr_put : ∀ (v : Value), plan[i]? ≠ some 0 → TR all plan (fun j => S j ∨ j = i) aT (a.put o.dst v) (b.put o.dst v) := by
      intro v hnT
      have other : ∀ {x : Act} {t : Nat}, o.dst ≠ some t → (x.put o.dst v).tmps[t]? = x.tmps[t]? := by
        intro x t hne
        cases hd : o.dst with
        | none => rfl
        | some d => exact put_ne (fun h => hne (by rw [hd, h]))
      refine ⟨by rw [put_defers, put_defers]; exact tr.defers, by rw [put_size, put_size]; exact tr.size, by rw [put_size]; exact tr.szT, by rw [put_defers]; exact tr.dfT, fun j oj d hpj hoj hdj hSj => ?_, fun t ht => ?_, fun t ht => ?_⟩
      · have hji : j ≠ i := by rintro rfl; exact hnT hpj
        have hne : o.dst ≠ some d := fun h => hji (ok.uniq hoj ho hdj h)
        rw [other hne, other hne]
        exact tr.slotT j oj d hpj hoj hdj (hSj.resolve_right hji)
      · by_cases hd : o.dst = some t
        · have hl : ∀ {x : Act}, x.tmps.size = a.tmps.size → (x.put o.dst v).tmps[t]? = if t < a.tmps.size then some v else none := by
            intro x hx
            rw [hd, put_some]
            rw [Array.getElem?_setIfInBounds]
            simp [hx]
          rw [hl rfl, hl tr.size.symm]
        · rw [other hd, other hd]; exact tr.slotN t ht
      · have hne : o.dst ≠ some t := ht i o (.inr rfl) hnT ho
        rw [other hne]
        exact tr.base t fun j oj hj => ht j oj (.inl hj)
    have nowhere : plan[i]? = some 1 ∨ plan[i]? = some 2 → ∃ r' x βf, PI r β Φ w0 all plan p gd sv fr S b w r' x βf := by
      intro hp12
      rcases hph with h | ⟨m, hpm, hiff, _⟩
      · exact h
      · have hip := nonTlt ho hp12
        have hne : plan[i]? ≠ some 0 := by rcases hp12 with h | h <;> rw [h] <;> simp
        exact absurd ((hiff i hil hne).2 (by omega)) hnS
    have hsz0 : b.tmps.size = N := by rw [tr.szT, hszT]
    have hdf0 : b.defers = a0.defers := by rw [tr.dfT, hdfT]
    have putN : ∀ {x : Act} {d : Nat} {v : Value}, x.tmps.size = N → o.dst = some d → (x.put o.dst v).tmps[d]? = some v := by
      intro x d v hx hd
      rw [hd]; exact put_eq (by rw [hx]; exact hNlt d hd)
    have other : ∀ {x : Act} {t : Nat} {v : Value}, o.dst ≠ some t → (x.put o.dst v).tmps[t]? = x.tmps[t]? := by
      intro x t v hne
      cases hd : o.dst with
      | none => rfl
      | some d => exact put_ne (fun h => hne (by rw [hd, h]))
    unfold wpOpIn
    simp only [List.getElem?_toArray, ho]
    -- the slots that agree, for one that turns nothing
    have prf : ∀ {r' x βf}, PI r β Φ w0 all plan p gd sv fr S b w r' x βf → i < p →
        ∃ pr : Nat → Prop, (∀ t ∈ o.looksAt all.toArray, pr t) ∧ GdP pr (sig i) ∧ AgreeP pr r' β (sig i) b.tmps := by
      intro r' x βf hPI hip
      refine ⟨fun t => ∀ (j : Nat) (oj : Oper), plan[j]? ≠ some 0 → all[j]? = some oj → oj.dst = some t → (j < i → S j) ∧ (i ≤ j → ¬ S j), fun t ht j oj hnT hoj hdj => ?_, fun t s wv sv' hpt hg => ?_, fun t g sv' hpt hg => ?_⟩
      · obtain ⟨h1, h2⟩ := ahead j oj t hoj hdj ht
        refine ⟨h1, fun hij => ?_⟩
        rcases Nat.lt_or_eq_of_le hij with h | h
        · exact h2 h
        · rw [← h]; exact hnS
      · -- the guard's own slot
        intro jg' og hnT hog hdg
        by_cases hex : ∃ (j : Nat) (oj : Oper), j < i ∧ plan[j]? ≠ some 0 ∧ all[j]? = some oj ∧ oj.dst = some t
        · obtain ⟨j, oj, hj, hnTj, hoj, hdj⟩ := hex
          obtain ⟨g1, g2⟩ := (sg i (by omega) t).1 j oj hj hoj hdj
          have hSj := (hpt j oj hnTj hoj hdj).1 hj
          cases hpl j oj hoj with
          | t _ hq => exact absurd hq hnTj
          | q hq =>
            rw [g1 hq] at hg
            obtain ⟨_, _, hf⟩ := pf.step1 j oj (by omega) (by omega) hq hoj
            rcases hf.gd with ⟨_, h2⟩ | ⟨jg, wv', s', h1, h2, h3⟩
            · rw [h2] at hg; cases hg
            · rw [h3] at hg; cases hg
              obtain ⟨o', k1, k2⟩ := dstOf_spec h2
              have hjj := ok.uniq hog k1 hdg k2
              subst hjj
              have hlt := ok.before j oj hoj _ _ h1
              refine ⟨fun _ => ?_, fun h => by omega⟩
              rcases lx.apart jg' j o' oj (by simpa using k1) (by simpa using hoj) hlt with ⟨ed, he, hb, heq⟩ | hap
              · have := hcl j oj hSj (by simpa using hoj) ed he hb
                rw [heq] at this; exact this
              · exact absurd (looks_guard h1 h2) ((Oper.apart_spec hap).1 s k2)
          | f _ hq => rw [g2 hq] at hg; cases hg
          | s hq => exact absurd hq (pf.no3 j (by omega) (by omega))
        · have hno : ∀ (j : Nat) (oj : Oper), j < i → plan[j]? ≠ some 0 → all[j]? = some oj → oj.dst ≠ some t := fun j oj h1 h2 h3 h4 => hex ⟨j, oj, h1, h2, h3, h4⟩
          rw [(sg i (by omega) t).2 hno, hsig0] at hg
          have := hngT t _ sv' hg
          cases this
      · by_cases hex : ∃ (j : Nat) (oj : Oper), j < i ∧ plan[j]? ≠ some 0 ∧ all[j]? = some oj ∧ oj.dst = some t
        · obtain ⟨j, oj, hj, hnTj, hoj, hdj⟩ := hex
          obtain ⟨g1, g2⟩ := (sg i (by omega) t).1 j oj hj hoj hdj
          have hSj := (hpt j oj hnTj hoj hdj).1 hj
          cases hpl j oj hoj with
          | t _ hq => exact absurd hq hnTj
          | q hq => rw [g1 hq] at hg; cases hg; exact hPI.ent j oj t hSj hq hoj hdj
          | f _ hq => rw [g2 hq] at hg; cases hg; exact ⟨x j, (hPI.frs j oj t hSj hq hoj hdj).1, .und⟩
          | s hq => exact absurd hq (pf.no3 j (by omega) (by omega))
        · have hno : ∀ (j : Nat) (oj : Oper), j < i → plan[j]? ≠ some 0 → all[j]? = some oj → oj.dst ≠ some t := fun j oj h1 h2 h3 h4 => hex ⟨j, oj, h1, h2, h3, h4⟩
          rw [(sg i (by omega) t).2 hno, hsig0] at hg
          have hb := tr.base t (fun j oj h1 h2 h3 h4 => by
            rcases Nat.lt_or_ge j i with hji | hji
            · exact hno j oj hji h2 h3 h4
            · exact (hpt j oj h2 h3 h4).2 hji h1)
          exact (hagT t g sv' hg).keep hPI.le hb (fun s w hgs => by have := hngT t g sv' hg; rw [this] at hgs; cases hgs)
    -- what stays as it is
    have stay : ∀ {r' x βf r2 w'} (v : Value), PI r β Φ w0 all plan p gd sv fr S b w r' x βf → r'.le r2 → MemSat r2 β Φ w' → Hid r' β Φ w r2 β Φ w' →
        (∀ (j : Nat) (oj : Oper) (d : Nat), S j → plan[j]? = some 1 → all[j]? = some oj → oj.dst = some d → EntSat r2 β (b.put o.dst v).tmps d (gd j) (sv j)) ∧
        (∀ (j : Nat) (oj : Oper) (d : Nat), S j → plan[j]? = some 2 → all[j]? = some oj → oj.dst = some d → (b.put o.dst v).tmps[d]? = some (x j) ∧ Rel r2 (βf j) (fr j).1 (x j) ∧ MemSat r2 (βf j) (fr j).2 w' ∧
          ∀ k ch bb, Phi.get (fr j).2 k = some ch → ch.blk (βf j k) = some bb → w0.heap.size ≤ bb) := by
      intro r' x βf r2 w' v hPI hle m' hid
      refine ⟨fun j oj d hSj hpj hoj hdj => ?_, fun j oj d hSj hpj hoj hdj => ?_⟩
      · have hji : j ≠ i := by rintro rfl; exact hnS hSj
        have hne : o.dst ≠ some d := fun h => hji (ok.uniq hoj ho hdj h)
        have hjp := hPI.lt j hSj (by rw [hpj]; simp)
        obtain ⟨_, _, hf⟩ := pf.step1 j oj (by omega) hjp hpj hoj
        refine (hPI.ent j oj d hSj hpj hoj hdj).keep hle (other hne) fun s wv hgs => other fun hos => ?_
        rcases hf.gd with ⟨_, h2⟩ | ⟨jg, wv', s', h1, h2, h3⟩
        · rw [h2] at hgs; cases hgs
        · rw [h3] at hgs; cases hgs
          obtain ⟨o', k1, k2⟩ := dstOf_spec h2
          have hjj := ok.uniq ho k1 hos k2
          subst hjj
          rw [ho] at k1; cases k1
          have hlt := ok.before j oj hoj _ _ h1
          rcases lx.apart i j o oj (by simpa using ho) (by simpa using hoj) hlt with ⟨ed, he, hb, heq⟩ | hap
          · have := hcl j oj hSj (by simpa using hoj) ed he hb
            rw [heq] at this; exact hnS this
          · exact absurd (looks_guard h1 h2) ((Oper.apart_spec hap).1 s hos)
      · have hji : j ≠ i := by rintro rfl; exact hnS hSj
        have hne : o.dst ≠ some d := fun h => hji (ok.uniq hoj ho hdj h)
        obtain ⟨f1, f2, f3, f4⟩ := hPI.frs j oj d hSj hpj hoj hdj
        exact ⟨by rw [other hne]; exact f1, f2.mono hle, memKeep f3 hle m' hid (fun k ch bb h1 h2 id c h3 h4 => by
          have := f4 k ch bb h1 h2
          have := hblt id c bb h3 h4
          omega), f4⟩
    cases hpl i o ho with
    | t d hq hfl hg hd hr hw =>
      have hw1 : Region.wanted o (yielded all.toArray a.tmps) = true := by simp [Region.wanted, hg]
      rw [if_pos hw1]
      have hbT : ∀ t ∈ o.looksAt all.toArray, b.tmps[t]? = aT.tmps[t]? := by
        intro t ht
        refine tr.base t fun j oj hSj hnT hoj hdj => ?_
        obtain ⟨_, h2⟩ := ahead j oj t hoj hdj ht
        rcases Nat.lt_trichotomy j i with hji | hji | hji
        · have hop : Operand.tmp t ∈ o.op.operands.toList := by
            unfold Oper.looksAt at ht
            rw [hg, List.append_nil, List.mem_filterMap] at ht
            obtain ⟨y, hy, hyt⟩ := ht
            cases y <;> simp at hyt
            subst hyt; exact hy
          exact hw j oj t hji hnT hoj hdj hop
        · subst hji; exact hnS hSj
        · exact h2 hji hSj
      have hexT : execOp b.eval o = execOp aT.eval o := exec_same (nosel i o ho) hbT
      obtain ⟨v, hv, hrun⟩ := hTI i o d hil hq ho hd
      refine (OpTo.val v w (R := fun v' w' => v' = v ∧ w' = w) (by rw [hexec, hexT]; exact hrun w) ⟨rfl, rfl⟩).wpIn (floats_nodef hfl) ?_
      rintro v' w' ⟨rfl, rfl⟩
      have hnTd : ∀ (j : Nat) (oj : Oper), plan[j]? ≠ some 0 → all[j]? = some oj → oj.dst ≠ some d := fun j oj h1 h2 h3 => by
        have := ok.uniq h2 ho h3 hd
        subst this; exact h1 hq
      refine ⟨b, ⟨by rw [put_defers]; exact tr.defers, by rw [put_size]; exact tr.size, tr.szT, tr.dfT, fun j oj d' hpj hoj hdj hSj => ?_, fun t ht => ?_, fun t ht => ?_⟩, ?_⟩
      · by_cases hji : j = i
        · subst hji
          rw [ho] at hoj; cases hoj
          rw [putN (hszb hsz0) hdj]
          rw [hd] at hdj; cases hdj
          rw [tr.base d (fun j oj _ h1 h2 => hnTd j oj h1 h2)]
          exact hv.symm
        · have hne : o.dst ≠ some d' := fun h => hji (ok.uniq hoj ho hdj h)
          rw [other hne]
          exact tr.slotT j oj d' hpj hoj hdj (hSj.resolve_right hji)
      · rw [other (ht i o hq ho)]; exact tr.slotN t ht
      · exact tr.base t fun j oj hj => ht j oj (.inl hj)
      · have hS' : ∀ {j}, plan[j]? ≠ some 0 → (S j ∨ j = i) → S j := fun h1 h2 => h2.resolve_right (by rintro rfl; exact h1 hq)
        rcases hph with ⟨r', x, βf, hPI⟩ | ⟨m, h1, h2, h3⟩
        · refine .inl ⟨r', x, βf, hPI.le, hPI.mem, hPI.hid, fun j hj hn => hPI.lt j (hS' hn hj) hn, fun j oj d' hj hp => hPI.ent j oj d' (hS' (by rw [hp]; simp) hj) hp, fun j oj d' hj hp => hPI.frs j oj d' (hS' (by rw [hp]; simp) hj) hp,
            fun j j' k ch k' ch' bb hj hj' hp hp' => hPI.dis j j' k ch k' ch' bb (hS' (by rw [hp]; simp) hj) (hS' (by rw [hp']; simp) hj') hp hp'⟩
        · exact .inr ⟨m, h1, fun j hj hn => ⟨fun hh => (h2 j hj hn).1 (hS' hn hh), fun hh => .inl ((h2 j hj hn).2 hh)⟩, h3⟩
    | q hq h3 =>
      have hnT : plan[i]? ≠ some 0 := by rw [hq]; simp
      obtain ⟨r', x, βf, hPI⟩ := nowhere (.inl hq)
      have hip := nonTlt ho (.inl hq)
      obtain ⟨pr, hp1, hp2, hp3⟩ := prf hPI hip
      obtain ⟨_, _, hf⟩ := pf.step1 i o (by omega) hip hq ho
      -- the next state
      have next : ∀ {r2 w'} (v : Value), r'.le r2 → MemSat r2 β Φ w' → Hid r' β Φ w r2 β Φ w' → (∀ d, o.dst = some d → EntSat r2 β (b.put o.dst v).tmps d (gd i) (sv i)) →
          DI B e N r β Φ w0 all plan p gd sv fr aT K (fun j => S j ∨ j = i) (a.put o.dst v) w' := by
        intro r2 w' v hle m' hid hent
        obtain ⟨k1, k2⟩ := stay v hPI hle m' hid
        refine ⟨_, tr_put v hnT, .inl ⟨r2, x, βf, Mem.le_trans hPI.le hle, m', hPI.hid.trans hid, fun j hj hn => ?_, fun j oj d hj hpj hoj hdj => ?_, fun j oj d hj hpj hoj hdj => ?_, fun j j' k ch k' ch' bb hj hj' hpj hpj' => ?_⟩⟩
        · rcases hj with hj | rfl
          · exact hPI.lt j hj hn
          · exact hip
        · rcases hj with hj | rfl
          · exact k1 j oj d hj hpj hoj hdj
          · rw [ho] at hoj; cases hoj; exact hent d hdj
        · rcases hj with hj | rfl
          · exact k2 j oj d hj hpj hoj hdj
          · rw [hq] at hpj; cases hpj
        · rcases hj with hj | rfl
          · rcases hj' with hj' | rfl
            · exact hPI.dis j j' k ch k' ch' bb hj hj' hpj hpj'
            · rw [hq] at hpj'; cases hpj'
          · rw [hq] at hpj; cases hpj
      have hG : B.G r' := B.mono _ _ hPI.le s0.G
      have hops : ∀ x ∈ o.op.operands.toList, Has pr x := fun x hx t hxt => hp1 t (looks_op (by subst hxt; simpa using hx))
      rcases hf.gd with ⟨hg1, hg2⟩ | ⟨jg, wv, s, hg1, hg2, hg3⟩
      · have hw1 : Region.wanted o (yielded all.toArray a.tmps) = true := by simp [Region.wanted, hg1]
        rw [if_pos hw1]
        refine (OpTo.same hexec (hf.run pr r' β b w hops hp2 (fun s w' h => by rw [hg2] at h; cases h) hp3 hG hPI.mem)).wpIn hf.nd ?_
        rintro v w' ⟨r2, hr, hle, m', hid⟩
        refine next v hle m' hid fun d hd => ?_
        rw [hg2]
        exact ⟨v, putN hsz0 hd, hr⟩
      · have hps : pr s := hp1 s (looks_guard hg1 hg2)
        have hsd : ∀ d, o.dst = some d → o.dst ≠ some s := by
          intro d hd hds
          obtain ⟨o', k1, k2⟩ := dstOf_spec hg2
          have := ok.uniq ho k1 hds k2
          have := ok.before i o ho _ _ hg1
          omega
        rw [hwant, wanted_guard hg1]
        by_cases ht : b.tmps[s]? = some (.bool wv)
        · rw [if_pos ((yielded_of hg2 b.tmps wv).2 ht)]
          refine (OpTo.same hexec (hf.run pr r' β b w hops hp2 (fun s' w' h => by rw [hg3] at h; cases h; exact ⟨hps, ht⟩) hp3 hG hPI.mem)).wpIn hf.nd ?_
          rintro v w' ⟨r2, hr, hle, m', hid⟩
          refine next v hle m' hid fun d hd => ?_
          rw [hg3]
          refine ⟨fun _ => ⟨v, putN hsz0 hd, hr⟩, fun h => ?_⟩
          rw [other (hsd d hd)] at h
          exact absurd ht h
        · rw [if_neg (fun hc => ht ((yielded_of hg2 b.tmps wv).1 hc))]
          refine ⟨fun _ _ => trivial, next undef (Mem.le_refl r') hPI.mem (Hid.refl ..) fun d hd => ?_⟩
          rw [hg3]
          refine ⟨fun h => ?_, fun _ => putN hsz0 hd⟩
          rw [other (hsd d hd)] at h
          exact absurd h ht
    | f d hq h3 hg hd hr =>
      have hnT : plan[i]? ≠ some 0 := by rw [hq]; simp
      obtain ⟨r', x, βf, hPI⟩ := nowhere (.inr hq)
      have hip := nonTlt ho (.inr hq)
      obtain ⟨pr, hp1, hp2, hp3⟩ := prf hPI hip
      obtain ⟨_, _, hf⟩ := pf.step2 i o d (by omega) hip hq ho hd
      have hG : B.G r' := B.mono _ _ hPI.le s0.G
      have hops : ∀ x ∈ o.op.operands.toList, Has pr x := fun x hx t hxt => hp1 t (looks_op (by subst hxt; simpa using hx))
      have hw1 : Region.wanted o (yielded all.toArray a.tmps) = true := by simp [Region.wanted, hg]
      rw [if_pos hw1]
      refine (OpTo.same hexec (hf.run pr r' β b w hops hp3 hG hPI.mem)).wpIn hf.nd ?_
      rintro v w' ⟨r2, βn, hle, m', hid, hrel, mf, hnew⟩
      obtain ⟨k1, k2⟩ := stay v hPI hle m' hid
      have hws : w0.heap.size ≤ w.heap.size := hPI.hid.size
      refine ⟨_, tr_put v hnT, .inl ⟨r2, fun j => if j = i then v else x j, fun j => if j = i then βn else βf j, Mem.le_trans hPI.le hle, m', hPI.hid.trans hid, fun j hj hn => ?_, fun j oj d' hj hpj hoj hdj => ?_, fun j oj d' hj hpj hoj hdj => ?_, fun j j' k ch k' ch' bb hj hj' hpj hpj' hne q1 q2 q3 q4 => ?_⟩⟩
      · rcases hj with hj | rfl
        · exact hPI.lt j hj hn
        · exact hip
      · rcases hj with hj | rfl
        · exact k1 j oj d' hj hpj hoj hdj
        · rw [hq] at hpj; cases hpj
      · rcases hj with hj | rfl
        · have hji : j ≠ i := by rintro rfl; exact hnS hj
          simp only [hji, if_false]
          exact k2 j oj d' hj hpj hoj hdj
        · rw [ho] at hoj; cases hoj
          simp only [if_true]
          exact ⟨putN hsz0 hdj, hrel, mf, fun k ch bb a1 a2 => Nat.le_trans hws (hnew k ch bb a1 a2)⟩
      · have old : ∀ {j k ch bb}, S j → plan[j]? = some 2 → Phi.get (fr j).2 k = some ch → ch.blk (βf j k) = some bb → bb < w.heap.size := by
          intro j k ch bb hSj hpj a1 a2
          obtain ⟨oj, hoj⟩ : ∃ oj, all[j]? = some oj := ⟨_, List.getElem?_eq_getElem (by have := lt_len hpj; omega)⟩
          cases hpl j oj hoj with
          | f d' _ _ _ hdj => exact ((hPI.frs j oj d' hSj hpj hoj hdj).2.2.1.chs _ _ a1).alive a2
          | t _ h' => rw [hpj] at h'; cases h'
          | q h' => rw [hpj] at h'; cases h'
          | s h' => rw [hpj] at h'; cases h'
        rcases hj with hj | rfl <;> rcases hj' with hj' | rfl
        · have h1 : j ≠ i := by rintro rfl; exact hnS hj
          have h2 : j' ≠ i := by rintro rfl; exact hnS hj'
          simp only [h1, h2, if_false] at q2 q4
          exact hPI.dis j j' k ch k' ch' bb hj hj' hpj hpj' hne q1 q2 q3 q4
        · have h1 : j ≠ j' := hne
          simp only [h1, if_false, if_true] at q2 q4
          have := old hj hpj q1 q2
          have := hnew k' ch' bb q3 q4
          omega
        · have h2 : j' ≠ j := fun h => hne h.symm
          simp only [h2, if_false, if_true] at q2 q4
          have := old hj' hpj' q3 q4
          have := hnew k ch bb q1 q2
          omega
        · exact hne rfl
    | s hq hc =>
      have hnT : plan[i]? ≠ some 0 := by rw [hq]; simp
      have hallb : ∀ (j : Nat), j < i → plan[j]? ≠ some 0 → S j := by
        intro j hj hn
        have := hc (fun y => y = i ∨ S y) (fun y oy hy hoy ed he hb => by
          rcases hy with rfl | hy
          · rw [ho] at hoy; cases hoy; exact .inr (hdep ed he hb)
          · exact .inr (hcl y oy hy (by simpa using hoy) ed he hb)) (.inl rfl) j hj hn
        rcases this with h | h
        · omega
        · exact h
      have hpi : p ≤ i := by
        rcases Nat.lt_or_ge i p with h | h
        · exact absurd hq (pf.no3 i (by omega) h)
        · exact h
      have hseq : ∃ m, m ≤ i ∧ (∀ (j : Nat), j < all.length → plan[j]? ≠ some 0 → (S j → j < m)) ∧ SeqInv B e N all m (restOps (plan.drop m) (all.drop m)) K b w := by
        rcases hph with ⟨r', x, βf, hPI⟩ | ⟨m, h1, h2, h3⟩
        · exact ⟨p, hpi, fun j _ hn hS => hPI.lt j hS hn, conv hPI (fun j hj hn => hallb j (by omega) hn) tr.base hsz0 hdf0⟩
        · refine ⟨m, ?_, fun j hj hn hS => (h2 j hj hn).1 hS, h3⟩
          rcases Nat.lt_or_ge i m with h | h
          · exact absurd ((h2 i hil hnT).2 h) hnS
          · exact h
      obtain ⟨m, hmi, hSm, hseq⟩ := hseq
      have hskip : restOps (plan.drop m) (all.drop m) = o :: restOps (plan.drop (i + 1)) (all.drop (i + 1)) := by
        have := restOps_skip hlen (i - m) m (by omega) (fun j q1 q2 => by
          by_cases hn : plan[j]? = some 0
          · exact hn
          · have := hSm j (by omega) hn (hallb j (by omega) hn)
            omega)
        rw [show m + (i - m) = i by omega] at this
        rw [this, restOps_cons ho hq]
      rw [hskip] at hseq
      have hseq' : SeqInv B e N all i (o :: restOps (plan.drop (i + 1)) (all.drop (i + 1))) K b w := by
        obtain ⟨r1, β1, σ1, Φ1, n1, g1, g2, g3⟩ := hseq
        exact ⟨r1, β1, σ1, Φ1, n1, g1, g2, g3.mono (take_mono hmi)⟩
      obtain ⟨hnd, hop1, hop2⟩ := op_stepTo ok ho hseq'
      have next : ∀ {v w'}, SeqInv B e N all (i + 1) (restOps (plan.drop (i + 1)) (all.drop (i + 1))) K (b.put o.dst v) w' → DI B e N r β Φ w0 all plan p gd sv fr aT K (fun j => S j ∨ j = i) (a.put o.dst v) w' := by
        intro v w' h
        refine ⟨_, tr_put v hnT, .inr ⟨i + 1, by omega, fun j hj hn => ⟨fun hS => ?_, fun hlt => ?_⟩, h⟩⟩
        · rcases hS with hS | rfl
          · have := hSm j hj hn hS; omega
          · omega
        · by_cases hji : j = i
          · exact .inr hji
          · exact .inl (hallb j (by omega) hn)
      cases hw : Region.wanted o (yielded all.toArray b.tmps) with
      | true =>
        rw [hwant, hw, if_pos rfl]
        exact (OpTo.same hexec (hop1 hw)).wpIn hnd fun v w' h => next h
      | false =>
        rw [hwant, hw, if_neg (by simp)]
        exact ⟨fun _ _ => trivial, next (hop2 hw)⟩
  · -- the end
    intro S a w hall hI
    obtain ⟨b, tr, hph⟩ := hI
    have hall' : ∀ (i : Nat), i < all.length → S i := fun i hi => hall i (by simpa using hi)
    have hab : a = b := by
      have ht : a.tmps = b.tmps := by
        apply Array.ext_getElem?
        intro t
        by_cases hex : ∃ (j : Nat) (oj : Oper), plan[j]? = some 0 ∧ all[j]? = some oj ∧ oj.dst = some t
        · obtain ⟨j, oj, h1, h2, h3⟩ := hex
          exact tr.slotT j oj t h1 h2 h3 (hall' j (lt_len h2))
        · exact tr.slotN t fun j oj h1 h2 h3 => hex ⟨j, oj, h1, h2, h3⟩
      cases a; cases b
      have hd := tr.defers
      simp only at ht hd
      subst ht; subst hd; rfl
    subst hab
    have fin : ∀ {m}, m ≤ all.length → (∀ (i : Nat), m ≤ i → i < all.length → plan[i]? = some 0) → SeqInv B e N all m (restOps (plan.drop m) (all.drop m)) K a w → Q .normal a w := by
      intro m hm h0 h
      rw [restOps_nil hlen hm h0] at h
      obtain ⟨r1, β1, σ1, Φ1, n1, g1, g2, g3⟩ := h
      exact hQ _ _ _ _ _ _ _ g1 g2
    rcases hph with ⟨r', x, βf, hPI⟩ | ⟨m, h1, h2, h3⟩
    · refine fin pf.pl (fun i hi hil => ?_) (conv hPI (fun j hj hn => hall' j (by have := pf.pl; omega)) tr.base (by rw [tr.szT, hszT]) (by rw [tr.dfT, hdfT]))
      by_cases hn : plan[i]? = some 0
      · exact hn
      · have := hPI.lt i (hall' i hil) hn; omega
    · rcases Nat.lt_or_ge all.length m with hm | hm
      · -- beyond the end
        have e1 : restOps (plan.drop m) (all.drop m) = [] := by
          rw [List.drop_eq_nil_of_le (by omega), List.drop_eq_nil_of_le (by omega)]; rfl
        rw [e1] at h3
        obtain ⟨r1, β1, σ1, Φ1, n1, g1, g2, g3⟩ := h3
        exact hQ _ _ _ _ _ _ _ g1 g2
      · refine fin hm (fun i hi hil => ?_) h3
        by_cases hn : plan[i]? = some 0
        · exact hn
        · have := (h2 i hil hn).1 (hall' i hil); omega
  · -- the beginning
    intro S hS
    have hw : ({ w00 with drawn := w00.drawn + 1 } : World) = w0 := hw0.symm
    rw [hw]
    refine ⟨aT, ⟨hdfT.symm, by rw [hszT, s0.size], rfl, rfl, fun i o d _ _ _ h => absurd h (hS i), fun t ht => ?_, fun t _ => rfl⟩, .inl ⟨r, fun _ => undef, fun _ => β0, Mem.le_refl r, s0.mem, Hid.refl .., fun i h => absurd h (hS i), fun i o d h => absurd h (hS i), fun i o d h => absurd h (hS i), fun i i' j ch j' ch' bb h => absurd h (hS i)⟩⟩
    exact ((hbaseT t fun j oj _ h1 h2 => ht j oj h1 h2).1).symm
end Go.Vc

namespace Go.Vc
set_option autoImplicit false
set_option linter.unusedVariables false
set_option linter.unusedSimpArgs false

/-! One state says all that another one says. -/
def Ext (M M' : MM) : Prop := ∀ j x, MM.get M j = some x → MM.get M' j = some x
theorem Ext.refl (M : MM) : Ext M M := fun _ _ h => h
theorem Ext.trans {A B C : MM} (h : Ext A B) (k : Ext B C) : Ext A C := fun j x hx => k j x (h j x hx)
theorem mm_cons (a : Nat) (x : Option Nat) (M : MM) (j : Nat) : MM.get ((a, x) :: M) j = bif Nat.beq a j then some x else MM.get M j := rfl
theorem Ext.cons {M : MM} {j : Nat} {x : Option Nat} (h : MM.get M j = none) : Ext M ((j, x) :: M) := by
  intro k y hk
  rw [mm_cons]
  cases hb : Nat.beq j k with
  | true => obtain rfl := beq_of hb; rw [h] at hk; cases hk
  | false => exact hk
def Sub (Z Z' : List Nat) : Prop := ∀ z ∈ Z, z ∈ Z'
/-- what the ids there are bound to -/
def βM (M : MM) (β : Bind) : Bind := fun j => match MM.get M j with | some (some i) => β i | some none => .slice none 0 0 | none => β j
def MatP (Φ : Phi) (M : MM) (Z : List Nat) (a b : SV) : Prop :=
  ∀ Mf Zf, Ext M Mf → Sub Z Zf → ∀ r β w v, MemSat r β Φ w → Rel r β a v → Rel (frz (fun i => memN i Zf) r β Φ w) (βM Mf β) b v
theorem MatP.mono {Φ M Z a b M' Z'} (h : MatP Φ M Z a b) (hM : Ext M M') (hZ : Sub Z Z') : MatP Φ M' Z' a b :=
  fun Mf Zf h1 h2 => h Mf Zf (hM.trans h1) (fun z hz => h2 z (hZ z hz))
/-- from one pair of tables to the next -/
def MStep (M : MM) (Z : List Nat) (M' : MM) (Z' : List Nat) : Prop := Ext M M' ∧ Sub Z Z'
theorem MStep.refl (M Z) : MStep M Z M Z := ⟨Ext.refl M, fun _ h => h⟩
theorem MStep.trans {M Z M' Z' M2 Z2} (h : MStep M Z M' Z') (k : MStep M' Z' M2 Z2) : MStep M Z M2 Z2 := ⟨h.1.trans k.1, fun z hz => k.2 z (h.2 z hz)⟩

theorem mapTo_sound {M : MM} {j i : Nat} {K : MM → Prop} (h : mapTo M j i K) : ∃ M', K M' ∧ Ext M M' ∧ MM.get M' j = some (some i) := by
  unfold mapTo at h
  split at h
  · rename_i i' hg
    cases hb : Nat.beq i i' with
    | false => rw [hb] at h; exact h.elim
    | true => rw [hb] at h; obtain rfl := beq_of hb; exact ⟨M, h, Ext.refl M, hg⟩
  · exact h.elim
  · rename_i hg
    cases hu : MM.used M i with
    | true => rw [hu] at h; exact h.elim
    | false => rw [hu] at h; exact ⟨_, h, Ext.cons hg, by rw [mm_cons, Nat.beq_refl]; rfl⟩

theorem mat0_sound {Φ ΦI a b M Z} {K : MM → List Nat → Prop} (h : mat0 Φ ΦI a b M Z K) : ∃ M' Z', K M' Z' ∧ MStep M Z M' Z' ∧ MatP Φ M' Z' a b := by
  have map : ∀ {j i : Nat} {K : MM → List Nat → Prop}, mapTo M j i (fun M => K M Z) → ∃ M' Z', K M' Z' ∧ MStep M Z M' Z' ∧ ∀ Mf, Ext M' Mf → ∀ β, βM Mf β j = β i := by
    intro j i K h
    obtain ⟨M', hk, h1, h2⟩ := mapTo_sound h
    exact ⟨M', Z, hk, ⟨h1, fun _ h => h⟩, fun Mf hf β => by simp only [βM, hf j _ h2]⟩
  unfold mat0 at h
  split at h
  · obtain ⟨⟨rfl, rfl⟩, h⟩ := h
    exact ⟨M, Z, h, MStep.refl M Z, fun Mf Zf _ _ r β w v m hr => by cases hr; exact .int⟩
  · obtain ⟨rfl, h⟩ := h
    exact ⟨M, Z, h, MStep.refl M Z, fun Mf Zf _ _ r β w v m hr => by cases hr; exact .bool⟩
  · obtain ⟨rfl, h⟩ := h
    exact ⟨M, Z, h, MStep.refl M Z, fun Mf Zf _ _ r β w v m hr => by cases hr; rename_i hl; exact .str hl⟩
  · obtain ⟨M', Z', hk, hs, hb⟩ := map h
    refine ⟨M', Z', hk, hs, fun Mf Zf hf _ r β w v m hr => ?_⟩
    cases hr with
    | own ho => rw [← hb Mf hf β] at ho ⊢; exact .own ho
  · rename_i j
    split at h
    · rename_i hg
      refine ⟨_, Z, h, ⟨Ext.cons hg, fun _ h => h⟩, fun Mf Zf hf _ r β w v m hr => ?_⟩
      cases hr
      have e : βM Mf β j = .slice none 0 0 := by simp only [βM, hf j none (by rw [mm_cons, Nat.beq_refl]; rfl)]
      have := Rel.own (r := frz (fun i => memN i Zf) r β Φ w) (β := βM Mf β) (id := j) (by rw [e]; rfl)
      rw [e] at this; exact this
    · rename_i hg
      refine ⟨_, Z, h, MStep.refl M Z, fun Mf Zf hf _ r β w v m hr => ?_⟩
      cases hr
      have e : βM Mf β j = .slice none 0 0 := by simp only [βM, hf j none hg]
      have := Rel.own (r := frz (fun i => memN i Zf) r β Φ w) (β := βM Mf β) (id := j) (by rw [e]; rfl)
      rw [e] at this; exact this
    · exact h.elim
  · obtain ⟨rfl, h⟩ := h
    exact ⟨M, Z, h, MStep.refl M Z, fun Mf Zf _ _ r β w v m hr => by cases hr; exact .rd .litsE⟩
  · rename_i i τ' l'
    split at h
    · rename_i τ l hg
      obtain ⟨he, h⟩ := h
      refine ⟨M, i :: Z, h, ⟨Ext.refl M, fun z hz => List.mem_cons_of_mem _ hz⟩, fun Mf Zf _ hz r β w v m hr => ?_⟩
      cases hr
      rw [← he]
      exact own_frz m (memN_iff.2 (hz i (by simp))) hg _
    · exact h.elim
  · obtain ⟨⟨rfl, rfl⟩, h⟩ := h
    exact ⟨M, Z, h, MStep.refl M Z, fun Mf Zf _ _ r β w v m hr => .rd ((hr.mono (frz_le m)).pure rfl _)⟩
  · rename_i i off j off'
    cases hb : Nat.beq off off' with
    | false => rw [hb] at h; exact h.elim
    | true =>
      rw [hb] at h
      obtain rfl := beq_of hb
      obtain ⟨M', Z', hk, hs, hb⟩ := map h
      refine ⟨M', Z', hk, hs, fun Mf Zf hf _ r β w v m hr => ?_⟩
      cases hr with
      | loc ho => exact .loc (by rw [hb Mf hf β]; exact ho)
  · obtain ⟨M', Z', hk, hs, hb⟩ := map h
    refine ⟨M', Z', hk, hs, fun Mf Zf hf _ r β w v m hr => ?_⟩
    cases hr with
    | mref ho => exact .mref (by rw [hb Mf hf β]; exact ho)
  · obtain ⟨⟨rfl, rfl, rfl⟩, h⟩ := h
    obtain ⟨M', Z', hk, hs, hb⟩ := map h
    refine ⟨M', Z', hk, hs, fun Mf Zf hf _ r β w v m hr => ?_⟩
    cases hr with
    | oel ho => exact .oel (by rw [hb Mf hf β]; exact ho)
  · exact ⟨M, Z, h, MStep.refl M Z, fun Mf Zf _ _ r β w v m hr => .und⟩
  · cases ho : SV.okIds (fun _ => false) b with
    | false => rw [ho] at h; exact h.elim
    | true =>
      rw [ho] at h
      obtain ⟨rfl, h⟩ := h
      exact ⟨M, Z, h, MStep.refl M Z, fun Mf Zf _ _ r β w v m hr => (hr.mono (frz_le m)).pure ho _⟩

/-- lists, one by one -/
def MatL (Φ : Phi) (M : MM) (Z : List Nat) (l l' : List SV) : Prop := l.length = l'.length ∧ ∀ (i : Nat) a b, l[i]? = some a → l'[i]? = some b → MatP Φ M Z a b
theorem MatL.mono {Φ M Z l l' M' Z'} (h : MatL Φ M Z l l') (hs : MStep M Z M' Z') : MatL Φ M' Z' l l' := ⟨h.1, fun i a b q1 q2 => (h.2 i a b q1 q2).mono hs.1 hs.2⟩
theorem matL_sound {Φ : Phi} {D : SV → SV → MM → List Nat → (MM → List Nat → Prop) → Prop} {DL : List SV → List SV → MM → List Nat → (MM → List Nat → Prop) → Prop}
    (h0 : ∀ M Z K, DL [] [] M Z K → K M Z) (h1 : ∀ a r b s M Z K, DL (a :: r) (b :: s) M Z K → D a b M Z fun M Z => DL r s M Z K) (h2 : ∀ b s M Z K, DL [] (b :: s) M Z K → False) (h3 : ∀ a r M Z K, DL (a :: r) [] M Z K → False)
    (hD : ∀ a b M Z K, D a b M Z K → ∃ M' Z', K M' Z' ∧ MStep M Z M' Z' ∧ MatP Φ M' Z' a b) :
    ∀ (l l' : List SV) (M : MM) (Z : List Nat) (K : MM → List Nat → Prop), DL l l' M Z K → ∃ M' Z', K M' Z' ∧ MStep M Z M' Z' ∧ MatL Φ M' Z' l l' := by
  intro l
  induction l with
  | nil =>
    intro l' M Z K h
    cases l' with
    | nil => exact ⟨M, Z, h0 _ _ _ h, MStep.refl M Z, rfl, fun i a b q => by simp at q⟩
    | cons b s => exact (h2 _ _ _ _ _ h).elim
  | cons a r ih =>
    intro l' M Z K h
    cases l' with
    | nil => exact (h3 _ _ _ _ _ h).elim
    | cons b s =>
      obtain ⟨M1, Z1, h, hs1, hp⟩ := hD _ _ _ _ _ (h1 _ _ _ _ _ _ _ h)
      obtain ⟨M2, Z2, hk, hs2, hl, hh⟩ := ih s M1 Z1 K h
      refine ⟨M2, Z2, hk, hs1.trans hs2, by simp [hl], fun i x y q1 q2 => ?_⟩
      cases i with
      | zero => simp at q1 q2; subst q1; subst q2; exact hp.mono hs2.1 hs2.2
      | succ i => exact hh i x y (by simpa using q1) (by simpa using q2)
theorem MatL.relL {Φ M Z l l'} (h : MatL Φ M Z l l') {Mf Zf} (h1 : Ext M Mf) (h2 : Sub Z Zf) {r β w vs} (m : MemSat r β Φ w) (hv : RelL r β l vs) : RelL (frz (fun i => memN i Zf) r β Φ w) (βM Mf β) l' vs :=
  ⟨by rw [hv.1, h.1], fun i y v q1 q2 => by
    have hi : i < l.length := by have := lt_len q1; rw [h.1]; exact this
    exact h.2 i l[i] y (List.getElem?_eq_getElem hi) q1 Mf Zf h1 h2 r β w v m (hv.2 i _ v (List.getElem?_eq_getElem hi) q2)⟩
theorem mat0L_sound {Φ ΦI l l' M Z} {K : MM → List Nat → Prop} (h : mat0L Φ ΦI l l' M Z K) : ∃ M' Z', K M' Z' ∧ MStep M Z M' Z' ∧ MatL Φ M' Z' l l' :=
  matL_sound (D := mat0 Φ ΦI) (DL := mat0L Φ ΦI) (fun _ _ _ h => h) (fun _ _ _ _ _ _ _ h => h) (fun _ _ _ _ _ h => h) (fun _ _ _ _ _ h => h) (fun _ _ _ _ _ h => mat0_sound h) l l' M Z K h
theorem mat1_sound {Φ ΦI a b M Z} {K : MM → List Nat → Prop} (h : mat1 Φ ΦI a b M Z K) : ∃ M' Z', K M' Z' ∧ MStep M Z M' Z' ∧ MatP Φ M' Z' a b := by
  unfold mat1 at h
  split at h
  · obtain ⟨M', Z', hk, hs, hl⟩ := mat0L_sound h
    refine ⟨M', Z', hk, hs, fun Mf Zf h1 h2 r β w v m hr => ?_⟩
    obtain ⟨cs, rfl, hcs⟩ := hr.aggL_inv
    exact .aggL (hl.relL h1 h2 m hcs)
  · obtain ⟨rfl, h⟩ := h
    obtain ⟨M', Z', hk, hs, hl⟩ := mat0L_sound h
    refine ⟨M', Z', hk, hs, fun Mf Zf h1 h2 r β w v m hr => ?_⟩
    obtain ⟨cs, rfl, hcs⟩ := hr.fnL_inv
    exact .fnL (hl.relL h1 h2 m hcs)
  · exact mat0_sound h
theorem mat1L_sound {Φ ΦI l l' M Z} {K : MM → List Nat → Prop} (h : mat1L Φ ΦI l l' M Z K) : ∃ M' Z', K M' Z' ∧ MStep M Z M' Z' ∧ MatL Φ M' Z' l l' :=
  matL_sound (D := mat1 Φ ΦI) (DL := mat1L Φ ΦI) (fun _ _ _ h => h) (fun _ _ _ _ _ _ _ h => h) (fun _ _ _ _ _ h => h) (fun _ _ _ _ _ h => h) (fun _ _ _ _ _ h => mat1_sound h) l l' M Z K h
theorem mat2_sound {Φ ΦI a b M Z} {K : MM → List Nat → Prop} (h : mat2 Φ ΦI a b M Z K) : ∃ M' Z', K M' Z' ∧ MStep M Z M' Z' ∧ MatP Φ M' Z' a b := by
  unfold mat2 at h
  split at h
  · obtain ⟨M', Z', hk, hs, hl⟩ := mat1L_sound h
    refine ⟨M', Z', hk, hs, fun Mf Zf h1 h2 r β w v m hr => ?_⟩
    obtain ⟨cs, rfl, hcs⟩ := hr.tupL_inv
    exact .tupL (hl.relL h1 h2 m hcs)
  · exact mat1_sound h
theorem matE_sound {σ : Env} {Φ ΦI : Phi} : ∀ {σI : Env} {M Z} {K : MM → List Nat → Prop}, matE σ Φ ΦI σI M Z K → ∃ M' Z', K M' Z' ∧ MStep M Z M' Z' ∧
    ∀ k g svI, Env.get σI k = some (g, svI) → ∃ sv, Env.get σ k = some (none, sv) ∧ MatP Φ M' Z' sv svI := by
  intro σI
  induction σI with
  | nil => intro M Z K h; exact ⟨M, Z, h, MStep.refl M Z, fun k g svI h => by simp [Env.get] at h⟩
  | cons x r ih =>
    obtain ⟨k0, g0, sv0⟩ := x
    intro M Z K h
    simp only [matE] at h
    split at h
    · rename_i sv hg
      obtain ⟨M1, Z1, h, hs1, hp⟩ := mat2_sound h
      obtain ⟨M2, Z2, hk, hs2, hh⟩ := ih h
      refine ⟨M2, Z2, hk, hs1.trans hs2, fun k g svI hi => ?_⟩
      rw [get_cons] at hi
      cases hb : Nat.beq k0 k with
      | true =>
        obtain rfl := beq_of hb
        rw [hb] at hi; simp at hi; obtain ⟨rfl, rfl⟩ := hi
        exact ⟨sv, hg, hp.mono hs2.1 hs2.2⟩
      | false => rw [hb] at hi; exact hh k g svI hi
    · exact h.elim
/-- a chunk there, and what it is here -/
def MatC (Φ : Phi) (M : MM) (Z : List Nat) (j : Nat) (chI : Chunk) : Prop :=
  (MM.get M j = some none ∧ ∃ τ : Ty, chI = .own τ []) ∨
  ∃ i ch, MM.get M j = some (some i) ∧ Phi.get Φ i = some ch ∧ (ch = chI ∧ (∀ cs, ch ≠ .box cs) ∨ ∃ cs csI, ch = .box cs ∧ chI = .box csI ∧ MatL Φ M Z cs csI)
theorem MatC.mono {Φ M Z j chI M' Z'} (h : MatC Φ M Z j chI) (hs : MStep M Z M' Z') : MatC Φ M' Z' j chI := by
  rcases h with ⟨h1, h2⟩ | ⟨i, ch, h1, h2, h3⟩
  · exact .inl ⟨hs.1 _ _ h1, h2⟩
  · refine .inr ⟨i, ch, hs.1 _ _ h1, h2, ?_⟩
    rcases h3 with h3 | ⟨cs, csI, e1, e2, h3⟩
    · exact .inl h3
    · exact .inr ⟨cs, csI, e1, e2, h3.mono hs⟩
theorem matC_sound {Φ ΦI : Phi} : ∀ {L : Phi} {M Z} {K : MM → List Nat → Prop}, matC Φ ΦI L M Z K → ∃ M' Z', K M' Z' ∧ MStep M Z M' Z' ∧ ∀ j chI, Phi.get L j = some chI → MatC Φ M' Z' j chI := by
  intro L
  induction L with
  | nil => intro M Z K h; exact ⟨M, Z, h, MStep.refl M Z, fun j c h => by simp [Phi.get] at h⟩
  | cons x r ih =>
    obtain ⟨j0, c0⟩ := x
    intro M Z K h
    have fin : ∀ {M1 Z1}, MStep M Z M1 Z1 → matC Φ ΦI r M1 Z1 K → MatC Φ M1 Z1 j0 c0 → ∃ M' Z', K M' Z' ∧ MStep M Z M' Z' ∧ ∀ j chI, Phi.get ((j0, c0) :: r) j = some chI → MatC Φ M' Z' j chI := by
      intro M1 Z1 hs h hc
      obtain ⟨M2, Z2, hk, hs2, hh⟩ := ih h
      refine ⟨M2, Z2, hk, hs.trans hs2, fun j chI hj => ?_⟩
      rw [phi_cons] at hj
      cases hb : Nat.beq j0 j with
      | true => obtain rfl := beq_of hb; rw [hb] at hj; simp at hj; subst hj; exact hc.mono hs2
      | false => rw [hb] at hj; exact hh j chI hj
    simp only [matC] at h
    split at h
    · rename_i hg
      split at h
      · rename_i τ l τ' l' hΦ
        cases hu : MM.used M j0 with
        | true => rw [hu] at h; exact h.elim
        | false =>
          rw [hu] at h
          obtain ⟨he, h⟩ := h
          exact fin ⟨Ext.cons hg, fun _ h => h⟩ h (.inr ⟨j0, _, by rw [mm_cons, Nat.beq_refl]; rfl, hΦ, .inl ⟨he, fun cs h => by cases h⟩⟩)
      · rename_i τ' l' hΦ
        obtain ⟨rfl, h⟩ := h
        exact fin ⟨Ext.cons hg, fun _ h => h⟩ h (.inl ⟨by rw [mm_cons, Nat.beq_refl]; rfl, τ', rfl⟩)
      · exact h.elim
    · rename_i hg
      split at h
      · rename_i τ' l'
        obtain ⟨rfl, h⟩ := h
        exact fin (MStep.refl M Z) h (.inl ⟨hg, τ', rfl⟩)
      · exact h.elim
    · rename_i i hg
      split at h
      · rename_i cs csI hΦ
        obtain ⟨M1, Z1, h, hs1, hl⟩ := mat1L_sound h
        exact fin hs1 h (.inr ⟨i, _, hs1.1 _ _ hg, hΦ, .inr ⟨cs, csI, rfl, rfl, hl⟩⟩)
      · rename_i ch hΦ hn
        obtain ⟨rfl, h⟩ := h
        exact fin (MStep.refl M Z) h (.inr ⟨i, ch, hg, hΦ, .inl ⟨rfl, fun cs he => hn cs cs he he⟩⟩)
      · exact h.elim

theorem mm_used {M : MM} {j i : Nat} (h : MM.get M j = some (some i)) : MM.used M i = true := by
  induction M with
  | nil => simp [MM.get] at h
  | cons x r ih =>
    obtain ⟨a, y⟩ := x
    rw [mm_cons] at h
    cases hb : Nat.beq a j with
    | true => rw [hb] at h; simp at h; subst h; simp [MM.used, Nat.beq_refl]
    | false =>
      rw [hb] at h
      have := ih h
      cases y <;> simp [MM.used, this]
theorem okMM_inj {ΦI : Phi} : ∀ {M : MM}, okMM ΦI M = true → ∀ {j j' i : Nat}, MM.get M j = some (some i) → MM.get M j' = some (some i) → j = j' := by
  intro M
  induction M with
  | nil => intro _ j j' i h; simp [MM.get] at h
  | cons x r ih =>
    obtain ⟨a, y⟩ := x
    intro hok j j' i h h'
    simp only [okMM, Bool.and_eq_true] at hok
    obtain ⟨_, _, h3, h4⟩ := hok
    rw [mm_cons] at h h'
    cases hb : Nat.beq a j with
    | true =>
      rw [hb] at h; simp at h; subst h
      cases hb' : Nat.beq a j' with
      | true => rw [← beq_of hb, ← beq_of hb']
      | false =>
        rw [hb'] at h'
        have := mm_used h'
        simp [this] at h3
    | false =>
      rw [hb] at h
      cases hb' : Nat.beq a j' with
      | true =>
        rw [hb'] at h'; simp at h'; subst h'
        have := mm_used h
        simp [this] at h3
      | false => rw [hb'] at h'; exact ih h4 h h'
theorem notUsed_spec {M : MM} : ∀ {Z : List Nat}, notUsed M Z = true → ∀ z ∈ Z, MM.used M z = false := by
  intro Z
  induction Z with
  | nil => intro _ z h; cases h
  | cons x r ih =>
    intro h z hz
    simp only [notUsed, Bool.and_eq_true, Bool.not_eq_true'] at h
    cases hz with
    | head => exact h.1
    | tail _ hz => exact ih h.2 z hz
theorem initM_get : ∀ {Φ0 : Phi} {j : Nat} {c}, Phi.get Φ0 j = some c → c.kind ≠ 0 → MM.get (initM Φ0) j = some (some j) := by
  intro Φ0
  induction Φ0 with
  | nil => intro j c h; simp [Phi.get] at h
  | cons x r ih =>
    obtain ⟨k, ch⟩ := x
    intro j c h hk
    rw [phi_cons] at h
    unfold initM
    cases hb : Nat.beq k j with
    | true =>
      obtain rfl := beq_of hb
      rw [hb] at h; simp at h; subst h
      rw [nbeq_of hk]
      simp only [cond_false]
      rw [mm_cons, Nat.beq_refl]; rfl
    | false =>
      rw [hb] at h
      cases Nat.beq ch.kind 0 with
      | true => exact ih h hk
      | false => simp only [cond_false]; rw [mm_cons, hb]; exact ih h hk
theorem keepB_spec {ΦI : Phi} : ∀ {Φ0 : Phi}, keepB ΦI Φ0 = true → ∀ {j : Nat} {c}, Phi.get Φ0 j = some c → c.kind ≠ 0 → ∃ c', Phi.get ΦI j = some c' ∧ c'.kind = c.kind := by
  intro Φ0
  induction Φ0 with
  | nil => intro _ j c h; simp [Phi.get] at h
  | cons x r ih =>
    obtain ⟨k, ch⟩ := x
    intro h j c hj hk
    simp only [keepB, Bool.and_eq_true, Bool.or_eq_true] at h
    rw [phi_cons] at hj
    cases hb : Nat.beq k j with
    | true =>
      obtain rfl := beq_of hb
      rw [hb] at hj; simp at hj; subst hj
      rcases h.1 with h1 | h1
      · exact (hk (beq_of h1)).elim
      · split at h1
        · exact ⟨_, by assumption, beq_of h1⟩
        · cases h1
    | false => rw [hb] at hj; exact ih h.2 hj hk

/-- the state there holds, whatever its chunks are called here -/
theorem mat_mem {σ : Env} {Φ : Phi} {σI : Env} {ΦI Φ0 : Phi} (h : matK σ Φ σI ΦI Φ0) {r β w} (m : MemSat r β Φ w) :
    ∃ r' β', r.le r' ∧ MemSat r' β' ΦI w ∧ (∀ k g svI, Env.get σI k = some (g, svI) → ∃ sv, Env.get σ k = some (none, sv) ∧ ∀ v, Rel r β sv v → Rel r' β' svI v) ∧
      (∀ b, r b = none → (∀ id ch, Phi.get Φ id = some ch → ch.blk (β id) ≠ some b) → r' b = none ∧ ∀ id ch, Phi.get ΦI id = some ch → ch.blk (β' id) ≠ some b) ∧
      (∀ id ch, Phi.get Φ0 id = some ch → ch.kind ≠ 0 → β' id = β id ∧ ∃ ch', Phi.get ΦI id = some ch' ∧ ch'.kind = ch.kind) := by
  unfold matK at h
  obtain ⟨M1, Z1, h, hs1, hE⟩ := matE_sound h
  obtain ⟨M, Z, h, hs2, hC⟩ := matC_sound h
  cases hok : (okMM ΦI M && (notUsed M Z && keepB ΦI Φ0)) with
  | false => rw [hok] at h; exact h.elim
  | true =>
    simp only [Bool.and_eq_true] at hok
    obtain ⟨hinj, hnu, hkp⟩ := hok
    have hinj := fun {j j' i} => okMM_inj hinj (j := j) (j' := j') (i := i)
    have hnu := notUsed_spec hnu
    have blkI : ∀ {j chI b}, Phi.get ΦI j = some chI → chI.blk (βM M β j) = some b → ∃ i ch, MM.get M j = some (some i) ∧ Phi.get Φ i = some ch ∧ ch.blk (β i) = some b := by
      intro j chI b hj hb
      rcases hC j chI hj with ⟨h1, τ, rfl⟩ | ⟨i, ch, h1, h2, h3⟩
      · simp only [βM, h1] at hb; simp [Chunk.blk] at hb
      · simp only [βM, h1] at hb
        refine ⟨i, ch, h1, h2, ?_⟩
        rcases h3 with ⟨rfl, _⟩ | ⟨cs, csI, rfl, rfl, _⟩
        · exact hb
        · rw [← hb]; cases β i <;> first | rfl | (rename_i a; cases a <;> rfl)
    have nz : ∀ {j i}, MM.get M j = some (some i) → memN i Z = false := by
      intro j i hj
      cases hm : memN i Z with
      | false => rfl
      | true => have := hnu i (memN_iff.1 hm); rw [mm_used hj] at this; cases this
    have out : ∀ {i ch b}, Phi.get Φ i = some ch → ch.blk (β i) = some b → memN i Z = false → frz (fun i => memN i Z) r β Φ w b = none := by
      intro i ch b hi hb hz
      rw [frz_not]
      · exact m.sep _ _ _ hi hb
      · intro j c hq hj _ hb'
        have := m.nod _ _ _ _ _ hj hi hb' hb
        subst this
        rw [hz] at hq; cases hq
    refine ⟨frz (fun i => memN i Z) r β Φ w, βM M β, frz_le m, ⟨fun b o h => frz_vis m b o h, fun j chI hj => ?_, fun j chI b hj hb => ?_, fun j j' c c' b h1 h1' h2 h2' => ?_⟩, fun k g svI hk => ?_, fun b hb hbn => ⟨?_, fun j chI hj hb' => ?_⟩, fun id ch hid hk => ?_⟩
    · rcases hC j chI hj with ⟨h1, τ, rfl⟩ | ⟨i, ch, h1, h2, h3⟩
      · have : βM M β j = .slice none 0 0 := by simp only [βM, h1]
        rw [this]
        exact .own (.inl ⟨none, rfl, rfl⟩)
      · have e : βM M β j = β i := by simp only [βM, h1]
        rw [e]
        rcases h3 with ⟨rfl, hnb⟩ | ⟨cs, csI, rfl, rfl, hl⟩
        · exact (m.chs _ _ h2).keep (frz_le m) (fun b _ => rfl) (fun cells he => (hnb cells he).elim)
        · have := m.chs _ _ h2
          cases this with
          | box hx hw hsz hc =>
            refine .box hx hw (by rw [hsz, hl.1]) fun k sv v q1 q2 => ?_
            have hi : k < cs.length := by rw [hl.1]; exact lt_len q1
            exact hl.2 k _ _ (List.getElem?_eq_getElem hi) q1 M Z (Ext.refl M) (fun z hz => hz) r β w v m (hc k _ v (List.getElem?_eq_getElem hi) q2)
    · obtain ⟨i, ch, h1, h2, h3⟩ := blkI hj hb
      exact out h2 h3 (nz h1)
    · obtain ⟨i, ch, p1, p2, p3⟩ := blkI h1 h2
      obtain ⟨i', ch', p1', p2', p3'⟩ := blkI h1' h2'
      have := m.nod _ _ _ _ _ p2 p2' p3 p3'
      subst this
      exact hinj p1 p1'
    · obtain ⟨sv, q1, q2⟩ := hE k g svI hk
      exact ⟨sv, q1, fun v hr => q2 M Z hs2.1 hs2.2 r β w v m hr⟩
    · rw [frz_not]
      · exact hb
      · intro j c _ hj _ hb'; exact hbn j c hj hb'
    · obtain ⟨i, ch, h1, h2, h3⟩ := blkI hj hb'
      exact hbn i ch h2 h3
    · have hg := hs2.1 _ _ (hs1.1 _ _ (initM_get hid hk))
      exact ⟨by simp only [βM, hg], keepB_spec hkp hid hk⟩

theorem ent_sat {B : Base} {e N r β σ Φ a w σI ΦI Φ0} (s : Sat B e N r β σ Φ a w) (h : matK σ Φ σI ΦI Φ0) (hng : ∀ k g sv, Env.get σI k = some (g, sv) → g = none)
    (hks : ∀ id ch, Phi.get e.Φ id = some ch → ch.kind ≠ 0 → ∃ ch0, Phi.get Φ0 id = some ch0 ∧ ch0.kind = ch.kind) :
    ∃ r' β', Sat B e N r' β' σI ΦI a w := by
  obtain ⟨r', β', hle, m', hE, hH, hK⟩ := mat_mem h s.mem
  refine ⟨r', β', ⟨fun k g svI hk => ?_, m', B.mono _ _ hle s.G, Mem.le_trans s.le hle, ⟨s.hid.os, s.hid.tape, s.hid.output, s.hid.size, fun b hb h1 h2 => ?_, fun id ch hid hk => ?_⟩, ?_, s.size⟩⟩
  · obtain ⟨sv, q1, q2⟩ := hE k g svI hk
    have := hng k g svI hk
    subst this
    obtain ⟨v, p1, p2⟩ := s.agree k none sv q1
    exact ⟨v, p1, q2 v p2⟩
  · obtain ⟨x1, x2, x3⟩ := s.hid.block b hb h1 h2
    exact ⟨x1, hH b x2 x3⟩
  · obtain ⟨q1, _⟩ := s.hid.keep id ch hid hk
    obtain ⟨ch0, p1, p2⟩ := hks id ch hid hk
    obtain ⟨y1, y2⟩ := hK id ch0 p1 (by rw [p2]; exact hk)
    exact ⟨y1.trans q1, by rw [← p2]; exact y2⟩
  · obtain ⟨Ds, h1, h2, h3⟩ := s.defers
    refine ⟨Ds, h1, h2, fun D hD => ?_⟩
    obtain ⟨g1, g2, g3, g4⟩ := h3 D hD
    exact ⟨g1, g2, hH D g3 g4⟩
end Go.Vc

namespace Go.Vc
set_option autoImplicit false
set_option linter.unusedVariables false

def purge : List Nat → Env → Env
  | [], _ => []
  | k :: L, σ =>
    match σ.get k with
    | some (none, sv) => (k, none, sv) :: purge L σ
    | _ => purge L σ
theorem purgeK_eq (L : List Nat) (σ : Env) : ∀ (K : Env → Prop), purgeK L σ K = K (purge L σ) := by
  induction L with
  | nil => intro K; rfl
  | cons k L ih =>
    intro K
    unfold purgeK purge
    cases hq : σ.get k with
    | none => simp only [ih]
    | some p =>
      obtain ⟨g, sv⟩ := p
      cases g <;> simp only [ih]
theorem purge_get {L : List Nat} {σ : Env} {k : Nat} {g sv} (h : Env.get (purge L σ) k = some (g, sv)) : g = none ∧ Env.get σ k = some (none, sv) := by
  induction L with
  | nil => simp [purge, Env.get] at h
  | cons x L ih =>
    unfold purge at h
    split at h
    · rename_i sv' hx
      rw [get_cons] at h
      cases hb : Nat.beq x k with
      | true =>
        obtain rfl := beq_of hb
        rw [hb] at h
        simp only [cond_true, Option.some.injEq, Prod.mk.injEq] at h
        obtain ⟨rfl, rfl⟩ := h
        exact ⟨rfl, hx⟩
      | false => rw [hb] at h; exact ih h
    · exact ih h
theorem purge_noGd (L : List Nat) (σ : Env) : NoGd (purge L σ) := fun k g sv h => (purge_get h).1
theorem Sat.purge {B : Base} {e N r β σ Φ a w} (s : Sat B e N r β σ Φ a w) (L : List Nat) : Sat B e N r β (purge L σ) Φ a w :=
  ⟨fun k g sv h => by obtain ⟨rfl, h2⟩ := purge_get h; exact s.agree k none sv h2, s.mem, s.G, s.le, s.hid, s.defers, s.size⟩
/-! Entailments. -/

def mergeF (F Φ : Phi) : Phi := F ++ Φ.filter fun x => !hasId F x.1
theorem restK_eq (F Φ : Phi) : ∀ (K : Phi → Prop), restK F Φ K = K (Φ.filter fun x => !hasId F x.1) := by
  induction Φ with
  | nil => intro K; rfl
  | cons x r ih =>
    intro K
    obtain ⟨k, c⟩ := x
    unfold restK
    cases hb : hasId F k with
    | true => simp only [cond_true, ih, List.filter_cons, hb]; rfl
    | false => simp only [cond_false, ih, List.filter_cons, hb]; rfl
theorem mergeK_eq (F R : Phi) : ∀ (K : Phi → Prop), mergeK F R K = K (F ++ R) := by
  induction F with
  | nil => intro K; rfl
  | cons x F ih => intro K; unfold mergeK; rw [ih]; rfl
theorem headK_eq (L : List Nat) (U : List (Nat × SV)) (F : Phi) (σ : Env) (Φ : Phi) (K : Env → Phi → Prop) : headK L U F σ Φ K = K (purge L (updE U σ)) (mergeF F Φ) := by
  unfold headK
  rw [purgeK_eq, restK_eq, mergeK_eq]; rfl

theorem phi_filter (F Φ : Phi) (id : Nat) (h : hasId F id = false) : Phi.get (Φ.filter fun x => !hasId F x.1) id = Phi.get Φ id := by
  induction Φ with
  | nil => rfl
  | cons x r ih =>
    obtain ⟨k, c⟩ := x
    simp only [List.filter_cons]
    cases hb : Nat.beq k id with
    | true =>
      obtain rfl := beq_of hb
      simp only [h, Bool.not_false, if_true, Phi.get, Nat.beq_refl, cond_true]
    | false =>
      cases hasId F k with
      | true => simp only [Bool.not_true, Bool.false_eq_true, if_false, Phi.get, hb, cond_false]; exact ih
      | false => simp only [Bool.not_false, if_true, Phi.get, hb, cond_false]; exact ih
theorem mergeF_keep {F Φ : Phi} {id : Nat} {c : Chunk} (h : Phi.get Φ id = some c) : ∃ c', Phi.get (mergeF F Φ) id = some c' := by
  unfold mergeF
  rw [phi_app]
  cases hF : Phi.get F id with
  | some c' => exact ⟨c', rfl⟩
  | none =>
    rw [phi_filter F Φ id (by simp [hasId, hF])]
    exact ⟨c, h⟩


/-! Code. -/

theorem stepR_scope {P : Program} {b : Frame} {a : Act} {k : List Item} {cs : List Frame} {w : World} {c : Code} : step P (lone (b.atR a (.code (.scope c) :: k)) cs w) = .next (lone (b.atR a (.code c :: .inScope c :: k)) cs w) :=
  step_lone_go (by simp [stepG, stepG.exec, Frame.atR])
theorem stepR_inScope {P : Program} {b : Frame} {a : Act} {k : List Item} {cs : List Frame} {w : World} {c : Code} : step P (lone (b.atR a (.inScope c :: k)) cs w) = .next (lone (b.atR a k) cs w) :=
  step_lone_go (by simp [stepG, stepG.exec, Frame.atR])

def Exit.noGoto' (Q : Exit → Act → World → Prop) : Exit → Act → World → Prop
  | .goto _, _, _ => False
  | e, a, w => Q e a w
theorem wpIn_scope_straight {F : Fence} {n : Nat} {P : Program} {Q : Exit → Act → World → Prop} {a : Act} {w : World} {c : Code} (h : c.wpIn F n P (Exit.noGoto' Q) a w) : (Code.scope c).wpIn F n P Q a w := by
  intro b k cs hro hb hr
  have h0 : (lone (b.atR a (.code (.scope c) :: k)) cs w).fenced P F := fenced_calm hb hr rfl
  obtain ⟨e, a₁, w₁, hq, harr⟩ := h b (.inScope c :: k) cs hro hb hr
  cases e with
  | normal => exact ⟨.normal, a₁, w₁, hq, .head h0 stepR_scope (StepsIn.trans harr (.one (fenced_calm hb hr rfl) stepR_inScope))⟩
  | exit id =>
    have hx : exitTo id (.inScope c :: k) = exitTo id k := by simp [exitTo]
    exact ⟨.exit id, a₁, w₁, hq, fun k' hk => .head h0 stepR_scope (harr.1 k' (by rw [hx]; exact hk)),
      fun hr' hk => let ⟨k₁, h1, h2⟩ := harr.2 hr' (by rw [hx]; exact hk); ⟨k₁, h1, .head h0 stepR_scope h2⟩⟩
  | goto l => exact hq.elim
  | ret => exact ⟨_, a₁, w₁, hq, .of_steps (.one h0 stepR_scope) harr⟩
  | panic ch => exact ⟨_, a₁, w₁, hq, .of_steps (.one h0 stepR_scope) harr⟩
  | outgrown => exact ⟨_, a₁, w₁, hq, .of_steps (.one h0 stepR_scope) harr⟩

/-- a loop: a relation that bears a number, which every round lowers -/
theorem wpIn_loop_ghost {F : Fence} {n : Nat} {P : Program} {Q : Exit → Act → World → Prop} {a : Act} {w : World} {c : Code} (I : Nat → Act → World → Prop) (n₀ : Nat) (h₀ : I n₀ a w)
    (round : ∀ j a w, I j a w → c.wpIn F n P (Exit.then (fun a' w' => ∃ j', j' < j ∧ I j' a' w') Q) a w) : (Code.loop c).wpIn F n P Q a w := by
  intro b k cs hro hb hr
  have key : ∀ j a w, I j a w → ∃ e a' w', Q e a' w' ∧ ArrivesIn (Machine.fenced P F) P (lone (b.atR a (.code c :: .inLoop c :: k)) cs w) b k cs e a' w' := by
    intro j
    induction j using Nat.strongRecOn with
    | _ j ih =>
      intro a w hI
      obtain ⟨e, a₁, w₁, hq, harr⟩ := round j a w hI b (.inLoop c :: k) cs hro hb hr
      cases e with
      | normal =>
        obtain ⟨j', hlt, hI₁⟩ := hq
        obtain ⟨e₂, a₂, w₂, hq₂, harr₂⟩ := ih j' hlt a₁ w₁ hI₁
        exact ⟨e₂, a₂, w₂, hq₂, .of_steps (StepsIn.trans harr (.one (fenced_calm hb hr rfl) stepR_inLoop)) harr₂⟩
      | exit id => exact ⟨_, a₁, w₁, hq, .pass (x := .inLoop c) rfl (fun _ _ => .inl (by simp)) harr⟩
      | goto l => exact ⟨_, a₁, w₁, hq, .pass (x := .inLoop c) rfl (fun _ _ => .inl (by simp)) harr⟩
      | ret => exact ⟨_, a₁, w₁, hq, .pass (x := .inLoop c) rfl (fun _ _ => .inl (by simp)) harr⟩
      | panic ch => exact ⟨_, a₁, w₁, hq, .pass (x := .inLoop c) rfl (fun _ _ => .inl (by simp)) harr⟩
      | outgrown => exact ⟨_, a₁, w₁, hq, .pass (x := .inLoop c) rfl (fun _ _ => .inl (by simp)) harr⟩
  obtain ⟨e, a', w', hq, harr⟩ := key _ a w h₀
  exact ⟨e, a', w', hq, .of_steps (.one (fenced_calm hb hr rfl) stepR_loop) harr⟩

def Out (B : Base) (e : Entry) (N : Nat) (K : KT) (ex : Ex) (a : Act) (w : World) : Prop :=
  ∃ r β σ Φ n, K ex σ Φ n ∧ Sat B e N r β σ Φ a w ∧ NoGd σ
def QK (B : Base) (e : Entry) (N : Nat) (K : KT) : Exit → Act → World → Prop
  | .normal, a, w => Out B e N K .normal a w
  | .exit i, a, w => Out B e N K (.exit i) a w
  | .ret, a, w => Out B e N K .ret a w
  | _, _, _ => False

theorem vc_sound {B : Base} {e N ro} {L : List Nat} {pl : List (Nat × List Nat)} : ∀ (c : Code) (K : KT) (r : Mem) (β : Bind) (σ : Env) (Φ : Phi) (n : Nat) (a : Act) (w : World),
    vc B L pl c K σ Φ n → codeOk N pl c = true → Sat B e N r β σ Φ a w → NoGd σ → c.wpIn (fc ro) 0 B.P (QK B e N K) a w := by
  intro c
  induction c with
  | skip => intro K r β σ Φ n a w h _ s hng; exact wpIn_skip ⟨r, β, σ, Φ, n, h, s, hng⟩
  | region id ops draw =>
    intro K r β σ Φ n a w h hok s hng
    obtain ⟨ops⟩ := ops
    simp only [codeOk, Bool.and_eq_true] at hok
    obtain ⟨h1, h2, h3, h4⟩ := hok
    have ok := regOk_of h1 h2 h3
    simp only [vc] at h
    obtain ⟨_, σ1, Φ1, r1, h, s1, _, hD1⟩ := frzK_sound h s (vs := []) ⟨rfl, fun i sv v h => by simp at h⟩
    have hng1 : NoGd σ1 := fun k g sv hg => by
      cases g with
      | none => rfl
      | some p => obtain ⟨s0, w0⟩ := p; exact (List.not_mem_nil (hD1 [] (hng.gdIn _) k s0 w0 sv hg)).elim
    have fin : ∀ r β σ Φ n a w, (purgeK L σ fun σ => K .normal σ Φ n) → Sat B e N r β σ Φ a w → QK B e N K .normal a w := by
      intro r β σ Φ n a w hk s'
      rw [purgeK_eq] at hk
      exact ⟨r, β, _, Φ, n, hk, s'.purge L, purge_noGd L σ⟩
    cases draw with
    | false => exact region_seq ok (K := fun σ Φ n => purgeK L σ fun σ => K .normal σ Φ n) fin h s1 (hng1.gdIn _)
    | true =>
      simp only [Bool.not_true, Bool.false_or, Bool.and_eq_true] at h4
      exact region_draw ok h4.1 h4.2 (K := fun σ Φ n => purgeK L σ fun σ => K .normal σ Φ n) fin h s1 hng1
  | seq x y ihx ihy =>
    intro K r β σ Φ n a w h hok s hng
    simp only [codeOk, Bool.and_eq_true] at hok
    simp only [vc] at h
    refine wpIn_seq (wpIn_mono (ihx _ r β σ Φ n a w h hok.1 s hng) fun ex a' w' hq => ?_)
    cases ex with
    | normal => obtain ⟨r', β', σ', Φ', n', hk, s', hng'⟩ := hq; exact ihy K r' β' σ' Φ' n' a' w' hk hok.2 s' hng'
    | exit i => exact hq
    | ret => exact hq
    | goto l => exact hq.elim
    | panic ch => exact hq.elim
    | outgrown => exact hq.elim
  | cond c x y ihx ihy =>
    intro K r β σ Φ n a w h hok s hng
    simp only [codeOk, Bool.and_eq_true] at hok
    simp only [vc] at h
    obtain ⟨sv, hk, hr⟩ := opK_sound h
    cases sv <;> simp only at hk
    rename_i b
    have hv := hr _ r β a _ (hasT _) (Sm.plain s.agree)
    generalize hq : a.eval c = v at hv
    cases hv
    exact wpIn_cond_split hq (fun hb => ihx K r β σ Φ n a w (hk.1 hb) hok.1 s hng) (fun hb => ihy K r β σ Φ n a w (hk.2 hb) hok.2 s hng)
  | block id c ih =>
    intro K r β σ Φ n a w h hok s hng
    simp only [codeOk] at hok
    simp only [vc] at h
    refine wpIn_block (wpIn_mono (ih _ r β σ Φ n a w h hok s hng) fun ex a' w' hq => ?_)
    cases ex with
    | normal => exact hq
    | exit i =>
      obtain ⟨r', β', σ', Φ', n', hk, s', hng'⟩ := hq
      simp only [Exit.inBlock]
      by_cases hi : i = id
      · subst hi
        rw [if_pos rfl]
        simp only [Nat.beq_refl, cond_true] at hk
        exact ⟨r', β', σ', Φ', n', hk, s', hng'⟩
      · rw [if_neg hi]
        simp only [nbeq_of hi, cond_false] at hk
        exact ⟨r', β', σ', Φ', n', hk, s', hng'⟩
    | ret => exact hq
    | goto l => exact hq.elim
    | panic ch => exact hq.elim
    | outgrown => exact hq.elim
  | loop c ih =>
    intro K r β σ Φ n a w h hok s hng
    simp only [codeOk] at hok
    simp only [vc] at h
    cases h with
    | mk U F m C μ a0 h0 he hr =>
      rename_i α
      have head : ∀ x, NoGd (purge L (updE (U x) σ)) := fun x => purge_noGd _ _
      have hks : ∀ id ch, Phi.get e.Φ id = some ch → ch.kind ≠ 0 → ∃ ch0, Phi.get Φ id = some ch0 ∧ ch0.kind = ch.kind := fun id ch h hk => (s.hid.keep id ch h hk).2
      refine wpIn_loop_ghost (fun k a' w' => ∃ x, C x ∧ μ x = k ∧ ∃ r' β', Sat B e N r' β' (purge L (updE (U x) σ)) (mergeF (F x) Φ) a' w') (μ a0) ?_ ?_
      · rw [headK_eq] at he
        exact ⟨a0, h0, rfl, ent_sat s he (head a0) hks⟩
      · rintro k a' w' ⟨x, hx, rfl, r', β', s'⟩
        have hbody := hr x hx
        rw [headK_eq] at hbody
        refine wpIn_mono (ih _ r' β' _ _ m a' w' hbody hok s' (head x)) fun ex a'' w'' hq => ?_
        cases ex with
        | normal =>
          obtain ⟨r2, β2, σ2, Φ2, n2, ⟨⟨x', hx', hlt, hent⟩⟩, s2, hng2⟩ := hq
          rw [headK_eq] at hent
          exact ⟨μ x', hlt, x', hx', rfl, ent_sat s2 hent (head x') hks⟩
        | exit i => exact hq
        | ret => exact hq
        | goto l => exact hq.elim
        | panic ch => exact hq.elim
        | outgrown => exact hq.elim
  | exit id => intro K r β σ Φ n a w h _ s hng; exact wpIn_exit ⟨r, β, σ, Φ, n, h, s, hng⟩
  | ret => intro K r β σ Φ n a w h _ s hng; exact wpIn_ret ⟨r, β, σ, Φ, n, h, s, hng⟩
  | scope c ih =>
    intro K r β σ Φ n a w h hok s hng
    simp only [codeOk] at hok
    simp only [vc] at h
    refine wpIn_scope_straight (wpIn_mono (ih K r β σ Φ n a w h hok s hng) fun ex a' w' hq => ?_)
    cases ex <;> first | exact hq | exact hq.elim
  | rangeFunc f ps x y _ _ => intro K r β σ Φ n a w h; exact h.elim
  | label l => intro K r β σ Φ n a w h; exact h.elim
  | goto l => intro K r β σ Φ n a w h; exact h.elim
  | refuse y => intro K r β σ Φ n a w h; exact h.elim

end Go.Vc

namespace Go.Vc
set_option autoImplicit false
set_option linter.unusedVariables false

theorem getElem_of_len {α β : Type _} {l : List α} {l' : List β} (h : l.length = l'.length) {i : Nat} {b : β} (hb : l'[i]? = some b) : ∃ a, l[i]? = some a := by
  rcases Nat.lt_or_ge i l.length with hi | hi
  · exact ⟨l[i], List.getElem?_eq_getElem hi⟩
  · rw [List.getElem?_eq_none (by omega)] at hb; cases hb

/-- a result variable, read -/
def resF (tmps : Array Value) : ResultVar → Sem Value
  | .tmp t => pure (tmps.getD t undef)
  | .cell ad t => do loadVar t (← asAddr (tmps.getD ad undef))
/-- the result variables, read at the end -/
theorem resK_sound {P : Program} {σ Φ} {rs : List ResultVar} : ∀ {K : List SV → Prop}, resK P σ Φ rs K → ∃ l, K l ∧ ∀ r β (a : Act) w, Agree r β σ a.tmps → MemSat r β Φ w →
    ∃ vs, RelL r β l vs ∧ (rs.mapM (resF a.tmps)).run P w = .ok vs w := by
  induction rs with
  | nil => intro K h; exact ⟨[], h, fun r β a w ha m => ⟨[], ⟨rfl, fun i sv v h => by simp at h⟩, rfl⟩⟩
  | cons x rs ih =>
    intro K h
    cases x with
    | tmp t =>
      simp only [resK] at h
      obtain ⟨sv, h, hr⟩ := opK_sound h
      obtain ⟨l, hk, hl⟩ := ih h
      refine ⟨_, hk, fun r β a w ha m => ?_⟩
      obtain ⟨vs, h1, h2⟩ := hl r β a w ha m
      refine ⟨_, RelL.cons (hr _ r β a _ (hasT _) (Sm.plain ha)) h1, ?_⟩
      simp only [List.mapM_cons, resF, Sem.run_bind, Sem.run_pure, Result.andThen_ok, h2]
      rfl
    | cell ad t =>
      simp only [resK] at h
      obtain ⟨sv, h, hr⟩ := opK_sound h
      cases sv <;> simp only at h
      rename_i id off
      split at h
      · rename_i cs hg
        obtain ⟨sv', h, hp⟩ := partK_sound h
        obtain ⟨l, hk, hl⟩ := ih h
        refine ⟨_, hk, fun r β a w ha m => ?_⟩
        obtain ⟨vs, h1, h2⟩ := hl r β a w ha m
        have hloc := hr _ r β a _ (hasT _) (Sm.plain ha)
        generalize hq : a.eval (.tmp ad) = v at hloc
        cases hloc with
        | loc hβ =>
          rename_i b
          have hs := m.chs _ _ hg
          cases hs with
          | box hxb hw hlen hc =>
            rename_i b' c T
            rw [hβ] at hxb
            obtain rfl : b = b' := by simpa using hxb
            obtain ⟨v, hrel, _, hload⟩ := hp r β c.toList (toList_rel hlen hc)
            refine ⟨_, RelL.cons hrel h1, ?_⟩
            have hl2 := hload w b 0 (fun j u hj => by rw [cell_of_block hw]; simpa using hj)
            simp only [Nat.zero_add] at hl2
            have hq' : a.tmps.getD ad undef = .pointer (some ⟨b, off, none⟩) := hq
            simp only [List.mapM_cons, resF, Sem.run_bind, hq', asAddr, Sem.run_pure, Result.andThen_ok, hl2, h2]
      · exact h.elim

theorem tup_rel {r β l vs} (h : RelL r β l vs) : Rel r β (tupSV l) (if h : vs.toArray.size = 1 then vs.toArray[0] else .tuple vs.toArray) := by
  obtain ⟨h1, h2⟩ := h
  match l, vs, h1 with
  | [], [], _ => exact .tup (cs := []) rfl (fun i sv v h => by simp at h)
  | [x], [v], _ => exact h2 0 x v rfl rfl
  | x :: y :: l, v :: u :: vs, h1 =>
    rw [dif_neg (by simp)]
    exact .tup h1 h2

theorem results_run {P : Program} {fn : Func} {tmps : Array Value} {vs : List Value} {w : World}
    (h : (fn.results.toList.mapM (resF tmps)).run P w = .ok vs w) :
    (results fn tmps).run P w = .ok (if h : vs.toArray.size = 1 then vs.toArray[0] else .tuple vs.toArray) w := by
  have e : results fn tmps = (do let vs ← fn.results.mapM (resF tmps); pure (if h : vs.size = 1 then vs[0] else .tuple vs)) := by
    unfold results
    congr 2
  rw [e, Sem.run_bind]
  have : (fn.results.mapM (resF tmps)).run P w = .ok vs.toArray w := by
    rw [← Array.toArray_toList (xs := fn.results), List.mapM_toArray, Sem.run_map]
    rw [h]
    rfl
  rw [this]
  rfl

theorem argE_get {args : List SV} : ∀ {i k : Nat} {g sv}, Env.get (argE i args) k = some (g, sv) → g = none ∧ i ≤ k ∧ args[k - i]? = some sv := by
  induction args with
  | nil => intro i k g sv h; simp [argE, Env.get] at h
  | cons x l ih =>
    intro i k g sv h
    simp only [argE] at h
    rw [get_cons] at h
    cases hb : Nat.beq i k with
    | true =>
      obtain rfl := beq_of hb
      rw [hb] at h
      simp only [cond_true, Option.some.injEq, Prod.mk.injEq] at h
      obtain ⟨rfl, rfl⟩ := h
      exact ⟨rfl, Nat.le_refl _, by simp⟩
    | false =>
      rw [hb] at h
      obtain ⟨h1, h2, h3⟩ := ih h
      refine ⟨h1, by omega, ?_⟩
      rw [show k - i = (k - (i + 1)) + 1 by omega]
      simpa using h3


theorem setObj_get {w : World} {D : Nat} {o : Obj} {b : Nat} (h : b ≠ D) : ({ w with heap := w.heap.setIfInBounds D o } : World).heap[b]? = w.heap[b]? := by
  show (w.heap.setIfInBounds D o)[b]? = _
  exact Array.getElem?_setIfInBounds_ne (Ne.symm h)

/-- a frame with nothing but marks among its deferred calls, on its way out -/
theorem leaves_marks {F : Fence} {n : Nat} {P : Program} {fn : Func} {tmps : Array Value} {R : Ending → World → Prop} {r : Mem} {β : Bind} {Φ : Phi} {lo : Nat} :
    ∀ (Ds : List Nat) (w : World), Ds.Nodup → (∀ D ∈ Ds, lo ≤ D ∧ w.heap[D]? = some (.deferred (some [])) ∧ r D = none ∧ ∀ id ch, Phi.get Φ id = some ch → ch.blk (β id) ≠ some D) → MemSat r β Φ w →
    (∀ w', MemSat r β Φ w' → w'.os = w.os → w'.tape = w.tape → w'.output = w.output → w'.heap.size = w.heap.size → (∀ b, b < lo → w'.heap[b]? = w.heap[b]?) → ∃ v, (results fn tmps).run P w' = .ok v w' ∧ R (.returned v) w') →
    LeavesInM F n P fn tmps R (Ds.map (fun D => { target := .collected D, args := #[] })) .returning w := by
  intro Ds
  induction Ds with
  | nil => intro w _ _ m h; exact h w m rfl rfl rfl rfl (fun _ _ => rfl)
  | cons D Ds ih =>
    intro w hnd hD m h
    obtain ⟨g1, g2, g3, g4⟩ := hD D (by simp)
    have hnd' := List.nodup_cons.1 hnd
    refine ⟨by simp, .inl ⟨D, _, rfl, run_takeDeferred g2, ?_⟩⟩
    have get : ∀ b, b ≠ D → (w.putObj D (.deferred none)).heap[b]? = w.heap[b]? := fun b hb => setObj_get hb
    refine ih _ hnd'.2 (fun D' hD' => ?_) ⟨fun b o hb => ?_, fun id ch hi => ?_, m.sep, m.nod⟩ (fun w' m' e1 e2 e3 e4 e5 => h w' m' e1 e2 e3 (e4.trans (by simp [World.putObj])) (fun b hb => (e5 b hb).trans (get b (by omega))))
    · obtain ⟨k1, k2, k3, k4⟩ := hD D' (by simp [hD'])
      exact ⟨k1, (get D' (fun he => hnd'.1 (he ▸ hD'))).trans k2, k3, k4⟩
    · rw [get b (fun he => by rw [he, g3] at hb; cases hb)]; exact m.vis b o hb
    · exact (m.chs _ _ hi).keep (Mem.le_refl r) (fun b hb => get b (fun he => g4 id ch hi (he ▸ hb))) (fun _ _ _ _ _ _ h => h)

theorem body_ct {B : Base} {f : FuncId} {fn : Func} {c : Code} {args : List SV} {Φ0 Φ' : Phi} {res : SV} {N : Nat} (L : List Nat) (pl : List (Nat × List Nat)) (n : Nat)
    (hf : B.P.funcs[f]? = some fn) (hb : fn.body = some c) (hN : fn.ntmps = N) (hok : (Nat.ble args.length N && codeOk N pl c) = true)
    (h : vc B L pl c (retKT B.P fn.results.toList res Φ0 Φ') (argE 0 args) Φ0 n) : Ct B f args Φ0 fun sv Φ1 => sv = res ∧ Φ1 = Φ' := by
  simp only [Bool.and_eq_true] at hok
  obtain ⟨hlen, hok⟩ := hok
  have hlen := Nat.le_of_ble_eq_true hlen
  intro r β w vs hG m hl
  refine callsIn_fc (ro := none) (n := 0) |>.1 ?_
  refine callsIn_of_wp_marks hf hb trivial ?_ rfl
  have hvl : vs.length = args.length := hl.1
  have hsz : vs.toArray.size = args.length := by simpa using hvl
  rw [hN]
  have hget : ∀ (k : Nat) (v : Value), vs[k]? = some v → (vs.toArray ++ Array.replicate (N - vs.toArray.size) undef)[k]? = some v := by
    intro k v hk
    have : k < vs.length := lt_len hk
    rw [Array.getElem?_append_left (by simpa using this)]
    simpa using hk
  have s : Sat B ⟨r, β, Φ0, w⟩ N r β (argE 0 args) Φ0 { tmps := vs.toArray ++ Array.replicate (N - vs.toArray.size) undef, defers := [] } w := by
    refine ⟨fun k g sv hg => ?_, m, hG, Mem.le_refl r, Hid.refl .., ⟨[], rfl, List.nodup_nil, fun D hD => (List.not_mem_nil hD).elim⟩, by simp; omega⟩
    obtain ⟨rfl, _, hk⟩ := argE_get hg
    have hk : args[k]? = some sv := by simpa using hk
    obtain ⟨v, hv⟩ := getElem_of_len hvl hk
    exact ⟨v, hget k v hv, hl.2 k sv v hk hv⟩
  have hng : NoGd (argE 0 args) := fun k g sv hg => (argE_get hg).1
  refine wpIn_mono (vc_sound (ro := none) c _ r β (argE 0 args) Φ0 n _ w h hok s hng) fun ex a' w' hq => ?_
  have fin : ∀ {ex}, (∀ i, ex ≠ Ex.exit i) → Out B ⟨r, β, Φ0, w⟩ N (retKT B.P fn.results.toList res Φ0 Φ') ex a' w' →
      LeavesInM (fc none) 0 B.P fn a'.tmps (fun e w' => ∃ v sv r' β' Φ1, e = .returned v ∧ (sv = res ∧ Φ1 = Φ') ∧ Rel r' β' sv v ∧ MemSat r' β' Φ1 w' ∧ r.le r' ∧ Hid r β Φ0 w r' β' Φ1 w') a'.defers .returning w' := by
    intro ex hex ⟨r', β', σ', Φ1, n', hk, s', _⟩
    have hk : resK B.P σ' Φ1 fn.results.toList fun l => Fin (matK [(0, none, tupSV l)] Φ1 [(0, none, res)] Φ' Φ0) := by
      cases ex with
      | exit i => exact (hex i rfl).elim
      | normal => exact hk
      | ret => exact hk
    obtain ⟨l, hfin, hl'⟩ := resK_sound hk
    obtain ⟨Ds, hds, hnd, hD⟩ := s'.defers
    rw [hds]
    refine leaves_marks (r := r') (β := β') (Φ := Φ1) (lo := w.heap.size) Ds w' hnd hD s'.mem fun w2 m2 e1 e2 e3 e4 e5 => ?_
    obtain ⟨us, hus, hrun⟩ := hl' r' β' a' w2 s'.agree m2
    obtain ⟨r2, β2, hle, m3, hE, hH, hK⟩ := mat_mem hfin.h m2
    refine ⟨_, results_run hrun, _, res, r2, β2, Φ', rfl, ⟨rfl, rfl⟩, ?_, m3, Mem.le_trans s'.le hle, ?_⟩
    · obtain ⟨sv, q1, q2⟩ := hE 0 none res rfl
      cases q1
      exact q2 _ (tup_rel hus)
    · refine ⟨e1.trans s'.hid.os, e2.trans s'.hid.tape, e3.trans s'.hid.output, by rw [e4]; exact s'.hid.size, fun b hb' h1 h2 => ?_, fun id ch hi hk => ?_⟩
      · obtain ⟨q1, q2, q3⟩ := s'.hid.block b hb' h1 h2
        exact ⟨(e5 b hb').trans q1, hH b q2 q3⟩
      · obtain ⟨q1, _⟩ := s'.hid.keep id ch hi hk
        obtain ⟨p1, p2⟩ := hK id ch hi hk
        exact ⟨p1.trans q1, p2⟩
  cases ex with
  | normal => exact fin (by intro i h; cases h) hq
  | ret => exact fin (by intro i h; cases h) hq
  | exit i =>
    obtain ⟨r', β', σ', Φ1, n', hk, _⟩ := hq
    exact hk.elim
  | goto l => exact hq.elim
  | panic ch => exact hq.elim
  | outgrown => exact hq.elim

/-- A FUNCTION OF PLAIN DATA. -/
theorem Fn.intro {B : Base} {f : FuncId} {fn : Func} {c : Code} {args : List SV} {pre : Prop} {res : SV} {N : Nat} (L : List Nat) (pl : List (Nat × List Nat))
    (call : ∀ (vs : Array Value) (w : World), (callFunc f vs).run B.P w = .ok (.enter f vs) w)
    (hf : B.P.funcs[f]? = some fn) (hb : fn.body = some c) (hN : fn.ntmps = N) (hok : (Nat.ble args.length N && codeOk N pl c) = true)
    (h : pre → vc B L pl c (retKT B.P fn.results.toList res [] []) (argE 0 args) [] 0) : Fn B f args pre res :=
  ⟨call, fun hp => body_ct L pl 0 hf hb hN hok (h hp)⟩
/-- A FUNCTION THAT IS HANDED CHUNKS, OR MAKES SOME. -/
theorem FnM.intro {B : Base} {f : FuncId} {fn : Func} {c : Code} {args : List SV} {Φ : Phi} {pre : Prop} {res : SV} {Φ' : Phi} {N : Nat} (L : List Nat) (pl : List (Nat × List Nat)) (n : Nat)
    (call : ∀ (vs : Array Value) (w : World), (callFunc f vs).run B.P w = .ok (.enter f vs) w)
    (hf : B.P.funcs[f]? = some fn) (hb : fn.body = some c) (hN : fn.ntmps = N) (hok : (Nat.ble args.length N && codeOk N pl c) = true)
    (h : pre → vc B L pl c (retKT B.P fn.results.toList res Φ Φ') (argE 0 args) Φ n) : FnM B f args Φ pre res Φ' :=
  ⟨call, fun hp => body_ct L pl n hf hb hN hok (h hp)⟩

theorem absTF {p : Prop} (h : true = false) : p := nomatch h
theorem absFT {p : Prop} (h : false = true) : p := nomatch h
/-- A contract of the kit's that leaves the world as it is. -/
theorem Fn.lift {B : Base} {f : FuncId} {args : List SV} {pre : Prop} {res : SV}
    (call : ∀ (vs : Array Value) (w : World), (callFunc f vs).run B.P w = .ok (.enter f vs) w)
    (h : pre → ∀ (r : Mem) (β : Bind) (w : World) (vs : List Value), B.G r → MemSat r β [] w → RelL r β args vs →
      ∃ v, Calls B.P f vs.toArray w (fun e w' => e = .returned v ∧ w' = w) ∧ Rel r β res v) : Fn B f args pre res := by
  refine ⟨call, fun hp r β w vs hG m hl => ?_⟩
  obtain ⟨v, hc, hr⟩ := h hp r β w vs hG m hl
  refine hc.mono fun e w' hh => ?_
  obtain ⟨rfl, rfl⟩ := hh
  exact ⟨v, res, r, β, [], rfl, ⟨rfl, rfl⟩, hr, m, Mem.le_refl r, Hid.refl ..⟩
theorem RelL.str1 {r : Mem} {β : Bind} {s : List UInt8} {vs : List Value} (h : RelL r β [.str s] vs) : vs = [.string ⟨s.toArray⟩] ∧ s.length ≤ 9223372036854775807 := by
  obtain ⟨hl, h⟩ := h
  match vs, hl with
  | [a], _ =>
    have h0 := h 0 _ a rfl rfl
    cases h0 with
    | str k => exact ⟨rfl, k⟩
theorem RelL.str2 {r : Mem} {β : Bind} {s t : List UInt8} {vs : List Value} (h : RelL r β [.str s, .str t] vs) :
    vs = [.string ⟨s.toArray⟩, .string ⟨t.toArray⟩] ∧ s.length ≤ 9223372036854775807 ∧ t.length ≤ 9223372036854775807 := by
  obtain ⟨hl, h⟩ := h
  match vs, hl with
  | [a, b], _ =>
    have h0 := h 0 _ a rfl rfl
    have h1 := h 1 _ b rfl rfl
    cases h0 with
    | str k => cases h1 with
      | str k1 => exact ⟨rfl, k, k1⟩
end Go.Vc
