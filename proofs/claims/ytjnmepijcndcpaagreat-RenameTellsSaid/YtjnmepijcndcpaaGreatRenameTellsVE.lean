/- A part of the proof: lemmas and walks that the last text of the claim joins; no condition. -/
import Derived.Test.YtjnmepijcndcpaaGreatRenameTellsVD
import Derived.ControlIn
import Derived.RangeFuncIn
import Derived.RangeFuncRecord
set_option linter.unusedVariables false
set_option linter.unusedSimpArgs false
set_option maxHeartbeats 8000000
namespace Go.Vc
set_option autoImplicit false
def jN0 (σ : Env) : Prop := ∀ k g sv,Env.get σ k = some (g,sv) → g = none
theorem jN0.gdIn {σ : Env} (h : jN0 σ) (D : List Nat) : jML D σ := fun k s w sv hg => by cases h _ _ _ hg
theorem jN0.put {σ : Env} (h : jN0 σ) (d : Nat) (sv : SV) : jN0 ((d,none,sv) :: σ) := by
 intro k g sv' hk
 rw [jKO] at hk
 cases hb : Nat.beq d k with
 | true => rw [hb] at hk;simp at hk;exact hk.1.symm
 | false => rw [hb] at hk;exact h k g sv' hk
theorem jN9 {a : Act} {d t : Nat} {v : Value} (h : t ≠ d) : (a.put (some d) v).tmps[t]? = a.tmps[t]? := by
 rw [jP4];exact Array.getElem?_setIfInBounds_ne (Ne.symm h)
theorem put_eq {a : Act} {d : Nat} {v : Value} (h : d < a.tmps.size) : (a.put (some d) v).tmps[d]? = some v := by
 rw [jP4];exact Array.getElem?_setIfInBounds_self_of_lt h
theorem jYO {op : Op} (h : floats op = true) : ∀ cs b,op ≠ .select cs b := fun cs b hc => by subst hc;cases h
theorem jPA {op : Op} (h : floats op = true) : ∀ c,op ≠ .defer c := fun c hc => by subst hc;cases h
def jw2 (P : Program) (all : List Oper) (plan : List Nat) (k : Nat) (b : Act) : Prop :=
 ∀ (i : Nat) (o : Oper) (d : Nat),i < k → plan[i]? = some 0 → all[i]? = some o → o.dst = some d → ∃ v,b.tmps[d]? = some v ∧ ∀ w,(execOp b.eval o).run P w = .ok (.value v) w
theorem jU0 {B : Base} {N : Nat} {all : List Oper} {plan : List Nat} (ok : RegOk N all) (hlen : plan.length = all.length) (hpl : ∀ (i : Nat) (o : Oper),all[i]? = some o → plan[i]? = some 0 → PlanAt all plan i o) {r : Mem} {β : jKW} {Φ : Phi} {K : Env → Prop} :
    ∀ (l : List Oper) (k : Nat) (σ : Env) (b : Act),k + l.length = all.length → l = all.drop k → vcT B (plan.drop k) l σ Φ K → Agree r β σ b.tmps → jN0 σ → b.tmps.size = N → jw2 B.P all plan k b →
      ∃ σT bT,K σT ∧ Agree r β σT bT.tmps ∧ jN0 σT ∧ bT.tmps.size = N ∧ bT.defers = b.defers ∧ jw2 B.P all plan all.length bT ∧
        ∀ t,(∀ (j : Nat) (oj : Oper),k ≤ j → plan[j]? = some 0 → all[j]? = some oj → oj.dst ≠ some t) → bT.tmps[t]? = b.tmps[t]? ∧ Env.get σT t = Env.get σ t := by
  intro l
  induction l with
  | nil =>
    intro k σ b hk he h ha hng hsz hT
    have : vcT B (plan.drop k) [] σ Φ K = K σ := by
      cases plan.drop k with
      | nil => rfl
      | cons x r => cases x <;> rfl
    rw [this] at h
    exact ⟨σ,b,h,ha,hng,hsz,rfl,by rw [← hk];simpa using hT,fun t _ => ⟨rfl,rfl⟩⟩
  | cons o l ih =>
    intro k σ b hk he h ha hng hsz hT
    have hkl : k < all.length := by simp at hk;omega
    have ho : all[k]? = some o := by
      have : (all.drop k)[0]? = some o := by rw [← he];rfl
      simpa using this
    have hl : l = all.drop (k + 1) := by
      have := congrArg List.tail he
      simpa using this
    have hkp : k < plan.length := by omega
    have hp : plan[k]? = some plan[k] := List.getElem?_eq_getElem hkp
    have hpd : plan.drop k = plan[k] :: plan.drop (k + 1) := List.drop_eq_getElem_cons hkp
    rw [hpd] at h
    by_cases h0 : plan[k] = 0
    · rw [h0] at h hp
      obtain ⟨dst,op,ty,pos,after,guard⟩ := o
      have h : evK B Φ σ [] (fun p => p) false op fun sv => vcT B (plan.drop (k + 1)) l (jS3 dst none sv σ) Φ K := h
      cases hpl k _ ho hp with
      | q hq => rw [hp] at hq;cases hq
      | f _ hq => rw [hp] at hq;cases hq
      | s hq => rw [hp] at hq;cases hq
      | t d _ hf hg hd hr hw =>
        have hd : dst = some d := hd
        subst hd
        obtain ⟨sv,h,hv⟩ := jUP hf h
        obtain ⟨v,hrel,hrun⟩ := hv _ r β b (fun _ _ => jSN _) (Sm.plain ha) (some d) ty pos after guard
        have hdN : d < N := ok.lt _ (List.mem_of_getElem? ho) d rfl
        have ha' : Agree r β ((d,none,sv) :: σ) (b.put (some d) v).tmps := ha.put (hng.gdIn []) (by simp) (by rw [hsz];exact hdN) hrel
        have hT' : jw2 B.P all plan (k + 1) (b.put (some d) v) := by
          intro i oi di hi hpi hoi hdi
          have hns : ∀ cs bb,oi.op ≠ .select cs bb := by
            cases hpl i oi hoi hpi with
            | t _ _ hf' => exact jYO hf'
            | q hq => rw [hpi] at hq;cases hq
            | f _ hq => rw [hpi] at hq;cases hq
            | s hq => rw [hpi] at hq;cases hq
          have hex : execOp (b.put (some d) v).eval oi = execOp b.eval oi := execOp_put (ops := all.toArray) oi hns b (some d) v (fun d' hd' => by cases hd';exact hr i oi (by omega) hoi)
          by_cases hik : i = k
          · subst hik
            rw [ho] at hoi;cases hoi;cases hdi
            exact ⟨v,put_eq (by rw [hsz];exact hdN),fun w => by rw [hex];exact hrun w⟩
          · obtain ⟨v',q1,q2⟩ := hT i oi di (by omega) hpi hoi hdi
            have hne : di ≠ d := by
              rintro rfl
              exact hik (ok.uniq hoi ho hdi rfl)
            exact ⟨v',by rw [jN9 hne];exact q1,fun w => by rw [hex];exact q2 w⟩
        obtain ⟨σT,bT,g1,g2,g3,g4,g5,g6,g7⟩ := ih (k + 1) _ _ (by simp at hk ⊢;omega) hl h ha' (hng.put d sv) (by rw [jK0];exact hsz) hT'
        refine ⟨σT,bT,g1,g2,g3,g4,by rw [g5,put_defers],g6,fun t ht => ?_⟩
        obtain ⟨q1,q2⟩ := g7 t (fun j oj hj => ht j oj (by omega))
        have hne : t ≠ d := by
          rintro rfl
          exact ht k _ (Nat.le_refl k) hp ho rfl
        refine ⟨by rw [q1,jN9 hne],?_⟩
        rw [q2]
        show Env.get ((d,none,sv) :: σ) t = _
        rw [jKO,jKL (fun hh => hne hh.symm)];rfl
    · have h : vcT B (plan.drop (k + 1)) l σ Φ K := by
        match hq : plan[k],h0,h with
        | n + 1,_,h => exact h
      obtain ⟨σT,bT,g1,g2,g3,g4,g5,g6,g7⟩ := ih (k + 1) _ _ (by simp at hk ⊢;omega) hl h ha hng hsz (fun i oi di hi hpi hoi hdi => by
        by_cases hik : i = k
        · subst hik;rw [hp] at hpi;exact absurd (Option.some.inj hpi) h0
        · exact hT i oi di (by omega) hpi hoi hdi)
      exact ⟨σT,bT,g1,g2,g3,g4,g5,g6,fun t ht => g7 t (fun j oj hj => ht j oj (by omega))⟩
structure OFact (B : Base) (all : List Oper) (Φ : Phi) (o : Oper) (σ : Env) (gd : Option (Nat × Bool)) (sv : SV) : Prop where
 nd : ∀ c,o.op ≠ .defer c
 ns : ∀ cs b,o.op ≠ .select cs b
 run : ∀ (p : Nat → Prop) r β a w,(∀ x ∈ o.op.operands.toList,Has p x) → GdP p σ → (∀ s w',gd = some (s,w') → p s ∧ (Act.tmps a)[s]? = some (.bool w')) → jSY p r β σ a.tmps → B.G r → MemSat r β Φ w → OpTo B.P a w o (Quiet r β Φ w sv)
 gd : (o.guard = none ∧ gd = none) ∨ ∃ j wv s,o.guard = some (j,wv) ∧ jVF all j = some s ∧ gd = some (s,wv)
def jnQ (r : Mem) (β : jKW) (Φ : Phi) (w : World) (res : SV) (Φ' : Phi) (v : Value) (w' : World) : Prop :=
 ∃ r2 βf,r.le r2 ∧ MemSat r2 β Φ w' ∧ Hid r β Φ w r2 β Φ w' ∧ Rel r2 βf res v ∧ MemSat r2 βf Φ' w' ∧ ∀ j ch b,Phi.get Φ' j = some ch → ch.hb (βf j) b → w.heap.size ≤ b
structure FFact (B : Base) (Φ : Phi) (o : Oper) (σ : Env) (res : SV) (Φ' : Phi) : Prop where
 nd : ∀ c,o.op ≠ .defer c
 ns : ∀ cs b,o.op ≠ .select cs b
 run : ∀ (p : Nat → Prop) r β a w,(∀ x ∈ o.op.operands.toList,Has p x) → jSY p r β σ (Act.tmps a) → B.G r → MemSat r β Φ w → OpTo B.P a w o (jnQ r β Φ w res Φ')
theorem jZ0 {B : Base} {Φ σ ctx g ung op} {K : SV → Prop} (h : evK B Φ σ ctx g ung op K) : ∀ cs b,op ≠ .select cs b := by
 rintro cs b rfl;exact h
theorem jUF {B : Base} {Φ f args largs} {K : SV → Phi → Prop} (h : CallF B f args largs K) (hl : ∀ r β w vs,MemSat r β Φ w → jKS r β args vs → jKS (frz (fun _ => true) r β Φ w) β largs vs) :
  ∃ res Φ',K res Φ' ∧ ∀ r β w0 vs a o,B.G r → MemSat r β Φ w0 → jKS r β args vs → (∀ w,(execOp a.eval o).run B.P w = (callFunc f vs.toArray).run B.P w) → OpTo B.P a w0 o (jnQ r β Φ w0 res Φ') := by
 cases h with
 | nwl pl hp k =>
  rename_i pre res Φ' fn
  simp only [Bool.and_eq_true] at pl
  refine ⟨res, Φ',k,fun r β w0 vs a o hG m hrel hrun => .call f vs.toArray (by rw [hrun];exact fn.call _ _) ?_⟩
  refine (fn.ok hp.h (frz (fun _ => true) r β Φ w0) β w0 vs (B.mono _ _ (jLM m) hG) (jXG m β) (hl r β w0 vs m hrel)).mono ?_
  rintro e w' ⟨v,sv1,r', β', Φ1,he,⟨rfl,rfl⟩,hr,m',hle,hid⟩
  obtain ⟨r2,hr2⟩ : ∃ r2 : Mem,r2 = fun b => if b < w0.heap.size then r b else r' b := ⟨_,rfl⟩
  have h1 : r.le r2 := by
   intro b o hb
   rw [hr2]
   have := jMR (m.vis _ _ hb)
   simp only [this,if_true];exact hb
  have h2 : r2.le r' := by
   intro b o hb
   rw [hr2] at hb
   simp only at hb
   split at hb
   ·exact hle _ _ (jLM m _ _ hb)
   ·exact hb
  have hnew : ∀ j ch b,Phi.get Φ1 j = some ch → ch.hb (β' j) b → w0.heap.size ≤ b := fun j ch b p1 p2 => jUB hle m' hid p1 p2
  obtain ⟨g1,g2,g3⟩ := back (I := fun _ => False) m (fun j ch b h => by simp [Phi.get] at h) (fun _ h => h.elim) hle m' hid r2 h2 (fun id ch b _ p1 _ p3 => by
   rw [hr2]
   simp only [jNR m p1 p3,if_true]
   exact m.sep _ _ _ p1 p3)
  refine ⟨v,he,r2, β',h1,⟨g2,fun id ch h => (m.chs _ _ h).keep h1 (fun b hb => (g1 id ch b (fun h => h) h hb).1) (fun _ _ _ _ _ _ _ h => h),fun id ch b a1 a2 => (g1 id ch b (fun h => h) a1 a2).2.1,m.nod⟩,
   ⟨hid.os,hid.tape,hid.output,hid.size,fun b hb q1 q2 => ⟨(g3 b hb q1 q2).1,(g3 b hb q1 q2).2.1,q2⟩,fun _ ch h _ => ⟨rfl,ch,h,rfl⟩⟩,jUG hr pl.1,⟨g2,fun j ch hj => ?_,fun j ch b hj hb => ?_,m'.nod⟩,hnew⟩
  ·obtain ⟨τ,l,rfl,hτ⟩ := jSE pl.2 hj
   exact jM7 (m'.chs _ _ hj) hτ
  ·have := m'.sep _ _ _ hj hb
   cases hq : r2 b with
   | none => rfl
   | some o => rw [h2 b o hq] at this;cases this
 | nw hp k =>
  rename_i pre res Φ' fn
  refine ⟨res, Φ',k,fun r β w0 vs a o hG m hrel hrun => .call f vs.toArray (by rw [hrun];exact fn.call _ _) ?_⟩
  refine (fn.ok hp.h r β w0 vs hG (jYW m β) hrel).mono ?_
  rintro e w' ⟨v,sv1,r', β', Φ1,he,⟨rfl,rfl⟩,hr,m',hle,hid⟩
  have hnew : ∀ j ch b,Phi.get Φ1 j = some ch → ch.hb (β' j) b → w0.heap.size ≤ b := fun j ch b p1 p2 => jUB hle m' hid p1 p2
  obtain ⟨g1,g2,g3⟩ := back (q := fun _ => false) (I := fun _ => False) (Φc := []) m (fun j ch b h => by simp [Phi.get] at h) (fun _ h => h.elim) (by rw [jMP];exact hle) m' (by rw [jMP];exact hid) r' (Mem.le_refl _) (fun _ _ _ h => by cases h)
  exact ⟨v,he,r', β',hle,⟨g2,fun id ch h => (m.chs _ _ h).keep hle (fun b hb => (g1 id ch b (fun h => h) h hb).1) (fun _ _ _ _ _ _ _ h => h),fun id ch b a1 a2 => (g1 id ch b (fun h => h) a1 a2).2.1,m.nod⟩,
   ⟨hid.os,hid.tape,hid.output,hid.size,fun b hb q1 q2 => ⟨(g3 b hb q1 q2).1,(g3 b hb q1 q2).2.1,q2⟩,fun _ ch h _ => ⟨rfl,ch,h,rfl⟩⟩,hr,m',hnew⟩
theorem jeX {P : Program} {el : TypeId} {τ : Ty} {ln : Nat} {rows : List (List SV)} {l : List τ.T} {us : Array Value} {r : Mem} {w : World} (h5 : τ.isB = true → el = 5) (hts : jKN P el = τ.size) (h1 : rows.length = ln) (h3 : jKN P el ≠ 0) (h4 : ln * jKN P el ≤ 16777216)
  (hl : l.length = rows.length ∧ ∀ (i : Nat) row a,rows[i]? = some row → l[i]? = some a → jPE row (τ.enc a)) (hus : us.size = ln * jKN P el)
  (hrel : ∀ (i : Nat) row (j : Nat) sv v,rows[i]? = some row → row[j]? = some sv → us[i * jKN P el + j]? = some v → Rel r β0 sv v) :
  jKQ r { w with heap := w.heap.push (.cells us el) } (.slice (some ⟨w.heap.size,0,none⟩) ln ln) τ.isB τ.size (l.map τ.enc) := by
 have hlen : (l.map τ.enc).length = ln := by rw [List.length_map,hl.1,h1]
 by_cases hz : ln = 0
 ·left
  exact ⟨_,by rw [hz],List.length_eq_zero_iff.1 (by rw [hlen,hz])⟩
 ·right
  have key : ∀ (i : Nat) (row : List SV),(l.map τ.enc)[i]? = some row → ∃ row0 a,rows[i]? = some row0 ∧ jPE row0 row ∧ row = τ.enc a := by
   intro i row hi
   rw [List.getElem?_map] at hi
   cases hq : l[i]? with
   | none => rw [hq] at hi;cases hi
   | some a =>
    rw [hq] at hi
    simp at hi
    subst hi
    have hlt : i < rows.length := by have := jKM hq;rw [← hl.1];exact this
    exact ⟨rows[i],a,List.getElem?_eq_getElem hlt,hl.2 i _ a (List.getElem?_eq_getElem hlt) hq,rfl⟩
  have hle : ln ≤ ln * jKN P el := Nat.le_mul_of_pos_right ln (by omega)
  refine ⟨w.heap.size,0,ln,us,el,(0,0),by rw [hlen],hz,jK7,⟨fun h => ⟨h5 h,rfl⟩,.inl rfl⟩,by omega,by rw [hlen];exact Nat.le_refl _,by rw [← hts,hus];omega,?_,?_,?_⟩
  ·intro k row hk;obtain ⟨_,a',_,_,rfl⟩ := key k row hk;exact enc_len _ _
  ·intro k row j sv hk hj;obtain ⟨_,a',_,_,rfl⟩ := key k row hk;exact enc_one _ _ _ _ hj
  ·intro k row j sv v hk hj hv
   obtain ⟨row0,a',g1,g2,rfl⟩ := key k row hk
   have hjl : j < row0.length := by have := jKM hj;rw [← g2.1];exact this
   exact (g2.2 j _ sv (List.getElem?_eq_getElem hjl) hj).1 _ _ _ (hrel k row0 j _ v g1 (List.getElem?_eq_getElem hjl) (by rw [hts];rw [Nat.zero_add] at hv;exact hv))
theorem jUT {r β Φ w w'} (m : MemSat r β Φ w) (hg : Grows w w') : MemSat r β Φ w' ∧ Hid r β Φ w r β Φ w' :=
 ⟨⟨fun b o h => by have := m.vis b o h;rw [hg.old b (lt_of_heap this)];exact this,fun id ch h => (m.chs _ _ h).keep (Mem.le_refl r) (fun b hb => hg.old b ((m.chs _ _ h).alive hb)) (fun _ _ _ _ _ _ _ h => h),m.sep,m.nod⟩,
  hg.os,hg.tape,hg.output,hg.size,fun b hb h1 h2 => ⟨hg.old b hb,h1,h2⟩,fun _ ch h _ => ⟨rfl,ch,h,rfl⟩⟩
theorem jS7 {B : Base} {Φ σ op} {K : SV → Phi → Prop} (h : jPW B Φ σ op K) {dst ty pos after guard} :
  ∃ res Φ',K res Φ' ∧ FFact B Φ ⟨dst,op,ty,pos,after,guard⟩ σ res Φ' := by
 unfold jPW at h
 split at h
 ·rename_i t ln parts
  split at h
  ·rename_i el ht
   split at h
   ·rename_i τ hty
    cases hz : jNL B.P el τ.size with
    | false => rw [hz] at h;exact h.elim
    | true =>
    rw [hz] at h
    have hts := (jLP hz).1
    obtain ⟨rows,h,h1,h2,h3,h4,h5,h6⟩ := jOR h
    obtain ⟨l,h,hl⟩ := jK8 (fun _ _ h => jMK h) h
    refine ⟨_,_,h,(fun c hc => by cases hc),(fun cs b hc => by cases hc),fun p r β a w hP ha hG m => ?_⟩
    have sm : Sm p r β σ a.tmps [] (fun p => p) := ⟨ha,fun s w hm => by simp [jOX] at hm,fun p hp => hp⟩
    obtain ⟨us,hus,hrun,hrel⟩ := h6 p r β a _ (fun y hy => hP _ (by simp [Op.operands];exact ⟨_,hy⟩)) sm
    have hrows := jeX (w := w) (jW4 hty) hts h1 h3 h4 hl hus hrel
    obtain ⟨g1,g2⟩ := jUT m (Grows.alloc w (.cells us el))
    have hblk : ∀ b,(Chunk.own τ l).hb (.slice (some ⟨w.heap.size,0,none⟩) ln ln) b → w.heap.size ≤ b := fun b hb => by
     simp only [Chunk.hb,Chunk.blk] at hb
     cases hq : Nat.beq ln 0 with
     | true => rw [hq] at hb;cases hb
     | false => rw [hq] at hb;simp at hb;omega
    obtain ⟨k1,k2⟩ := ji3 (n := 0) (ch := .own τ l) (v := .slice (some ⟨w.heap.size,0,none⟩) ln ln) (jYW m β) rfl (Grows.alloc w (.cells us el)) hblk (.own hrows)
    refine .val (.slice (some ⟨w.heap.size,0,none⟩) ln ln) { w with heap := w.heap.push (.cells us el) } ?_ ⟨r,_,Mem.le_refl r,g1,g2,jO4 rfl,k1,fun j ch b hj hb => ?_⟩
    ·have e : (Array.map (fun (x : Nat × Operand) => (x.1,a.eval x.2)) ⟨parts⟩) = (parts.map fun (i,x) => (i,a.eval x)).toArray := by simp
     simp only [execOp,Sem.run_bind]
     rw [e,hrun t w ht];rfl
    ·rw [jKJ] at hj
     cases hq : Nat.beq 0 j with
     | true =>
      obtain rfl := jKF hq
      rw [hq] at hj;cases hj
      rw [jKZ] at hb
      exact hblk b hb
     | false => rw [hq] at hj;cases hj
   ·exact h.elim
  ·exact h.elim
 ·rename_i f xs ts
  have hops : ∀ x,x ∈ xs → x ∈ (Op.operands (.call ⟨.value f,⟨xs⟩,ts⟩)).toList := fun x hx => by simp [Op.operands,Call.operands,hx]
  have hopf : f ∈ (Op.operands (.call ⟨.value f,⟨xs⟩,ts⟩)).toList := by simp [Op.operands,Call.operands]
  obtain ⟨fv,h,hf⟩ := jKC h
  cases fv <;> simp only at h
  rename_i fid caps
  obtain ⟨l,h,h1,h2⟩ := jL6 h
  have h := jR7 h
  have fin : ∀ {res Φ'},(∀ r β w0 vs a o,B.G r → MemSat r β Φ w0 → jKS r β (l ++ caps) vs → (∀ w,(execOp a.eval o).run B.P w = (callFunc fid vs.toArray).run B.P w) → OpTo B.P a w0 o (jnQ r β Φ w0 res Φ')) → FFact B Φ ⟨dst,.call ⟨.value f,⟨xs⟩,ts⟩,ty,pos,after,guard⟩ σ res Φ' := by
   intro res Φ' hr
   refine ⟨(fun c hc => by cases hc),(fun cs b hc => by cases hc),fun p r β a w hP ha hG m => ?_⟩
   have sm : Sm p r β σ a.tmps [] (fun p => p) := ⟨ha,fun s w hm => by simp [jOX] at hm,fun p hp => hp⟩
   have hfv := hf p r β a _ (hP _ hopf) sm
   generalize hq : a.eval f = v at hfv
   cases hfv with
   | fn hl hc =>
    rename_i cs
    refine hr r β w (xs.map a.eval ++ cs) a _ hG m ((jWO h1 (h2 p r β a _ (fun x hx => hP _ (hops x hx)) sm)).append ⟨hl,hc⟩) fun w => ?_
    simp only [execOp,resolve,hq,Deferred.ofValue,Sem.run_bind,Sem.run_pure,Result.andThen_ok,invoke]
    congr 2
    simp
  cases ho : SV.okIdsL (fun _ => false) (l ++ caps) with
  | true =>
   rw [ho] at h
   obtain ⟨res, Φ',hk,hr⟩ := jUF h (fun r β w vs m hv => hv.mono (jLM m))
   exact ⟨res, Φ',hk,fin hr⟩
  | false =>
   rw [ho] at h
   obtain ⟨ys,h,hl⟩ := jQG h
   obtain ⟨res, Φ',hk,hr⟩ := jUF h hl
   exact ⟨res, Φ',hk,fin hr⟩
 ·exact h.elim
end Go.Vc

namespace Go.Vc
set_option autoImplicit false
structure PreFacts (B : Base) (all : List Oper) (plan : List Nat) (Φ : Phi) (k p : Nat) (sig : Nat → Env) (frl : Nat → Frs) (gd : Nat → Option (Nat × Bool)) (sv : Nat → SV) (fr : Nat → SV × Phi) : Prop where
 kp : k ≤ p
 pl : p ≤ all.length
 stepT : ∀ (i : Nat),k ≤ i → i < p → plan[i]? = some 0 → sig (i + 1) = sig i ∧ frl (i + 1) = frl i
 step1 : ∀ (i : Nat) (o : Oper),k ≤ i → i < p → plan[i]? = some 1 → all[i]? = some o → sig (i + 1) = jS3 o.dst (gd i) (sv i) (sig i) ∧ frl (i + 1) = frl i ∧ OFact B all Φ o (sig i) (gd i) (sv i)
 step2 : ∀ (i : Nat) (o : Oper) (d : Nat),k ≤ i → i < p → plan[i]? = some 2 → all[i]? = some o → o.dst = some d → sig (i + 1) = (d,none,.und) :: sig i ∧ frl (i + 1) = (d,(fr i).1,(fr i).2) :: frl i ∧ FFact B Φ o (sig i) (fr i).1 (fr i).2
 no3 : ∀ (i : Nat),k ≤ i → i < p → plan[i]? ≠ some 3
 rest : ∀ (i : Nat),p ≤ i → i < all.length → plan[i]? = some 0 ∨ plan[i]? = some 3
theorem jZV : ∀ {f : Nat} {σ : Env} {s : Nat} {w : Bool} {p : Nat → Prop} {r : Mem} {β : jKW} {t : Array Value},jeP f σ s w = true → jSY p r β σ t → GdP p σ → p s → t[s]? ≠ some (.bool w)
 | 0,_,_,_,_,_,_,_,h,_,_,_ => by cases h
 | f + 1, σ,s,w,p,r, β,t,h,ha,hg,hp => by
  have ne : ∀ b : Bool,(match b with | true => !w | false => w) = true → Value.bool b ≠ .bool w := by
   intro b hb
   cases b <;> cases w <;> simp_all
  unfold jeP at h
  split at h
  ·rename_i b hs
   obtain ⟨v,hv,hr⟩ := ha _ _ _ hp hs
   cases hr
   rw [hv]
   exact fun q => ne b h (Option.some.inj q)
  ·rename_i c hs
   obtain ⟨v,hv,hr⟩ := ha _ _ _ hp hs
   cases hr
   rw [hv]
   intro q
   have := Option.some.inj q
   cases c <;> cases w <;> first | (cases h;done) | (cases this;done)
  ·rename_i s' w' b hs
   obtain ⟨h1,h2⟩ := ha _ _ _ hp hs
   by_cases q : t[s']? = some (.bool w')
   ·obtain ⟨v,hv,hr⟩ := h1 q
    cases hr
    rw [hv]
    exact fun q => ne b h (Option.some.inj q)
   ·rw [h2 q]
    intro q
    cases q
  ·rename_i s' w' x _ hs
   obtain ⟨h1,h2⟩ := ha _ _ _ hp hs
   have := jZV h ha hg (hg _ _ _ _ hp hs)
   rw [h2 this]
   intro q
   cases q
  ·cases h
theorem jcP {B : Base} {all : List Oper} {plan : List Nat} {Φ : Phi} (hlen : plan.length = all.length) (hpl : ∀ (i : Nat) (o : Oper),all[i]? = some o → PlanAt all plan i o) {K : Env → Frs → List Nat → List Oper → Prop} :
    ∀ (l : List Oper) (k : Nat) (σ : Env) (F : Frs),k + l.length = all.length → l = all.drop k → jR0 B all Φ (plan.drop k) l σ F K →
      ∃ p sig frl gd sv fr,PreFacts B all plan Φ k p sig frl gd sv fr ∧ sig k = σ ∧ frl k = F ∧ K (sig p) (frl p) (plan.drop p) (all.drop p) := by
  intro l
  induction l with
  | nil =>
    intro k σ F hk he h
    have hkl : k = all.length := by simpa using hk
    have hd : plan.drop k = [] := List.drop_eq_nil_of_le (by omega)
    rw [hd] at h
    have h : K σ F [] [] := h
    refine ⟨k,fun _ => σ,fun _ => F,fun _ => none,fun _ => .und,fun _ => (.und,[]),⟨Nat.le_refl _,by omega,fun i h1 h2 => by omega,fun i o h1 h2 => by omega,fun i o d h1 h2 => by omega,fun i h1 h2 => by omega,fun i h1 h2 => by omega⟩,rfl,rfl,?_⟩
    rw [hd, ← he];exact h
  | cons o l ih =>
    intro k σ F hk he h
    have hkl : k < all.length := by simp at hk;omega
    have ho : all[k]? = some o := by
      have : (all.drop k)[0]? = some o := by rw [← he];rfl
      simpa using this
    have hl : l = all.drop (k + 1) := by
      have := congrArg List.tail he
      simpa using this
    have hkp : k < plan.length := by omega
    have hp : plan[k]? = some plan[k] := List.getElem?_eq_getElem hkp
    have hpd : plan.drop k = plan[k] :: plan.drop (k + 1) := List.drop_eq_getElem_cons hkp
    have hk' : k + 1 + l.length = all.length := by simp at hk;omega
    rw [hpd] at h
    have glue : ∀ {σ1 : Env} {F1 : Frs} {gd0 : Option (Nat × Bool)} {sv0 : SV} {fr0 : SV × Phi},(plan[k]? = some 0 → σ1 = σ ∧ F1 = F) → (plan[k]? = some 1 → σ1 = jS3 o.dst gd0 sv0 σ ∧ F1 = F ∧ OFact B all Φ o σ gd0 sv0) →
        (∀ d,plan[k]? = some 2 → o.dst = some d → σ1 = (d,none,.und) :: σ ∧ F1 = (d,fr0.1,fr0.2) :: F ∧ FFact B Φ o σ fr0.1 fr0.2) → plan[k]? ≠ some 3 →
        (jR0 B all Φ (plan.drop (k + 1)) l σ1 F1 K) →
        ∃ p sig frl gd sv fr,PreFacts B all plan Φ k p sig frl gd sv fr ∧ sig k = σ ∧ frl k = F ∧ K (sig p) (frl p) (plan.drop p) (all.drop p) := by
      intro σ1 F1 gd0 sv0 fr0 h0 h1 h2 h3 h
      obtain ⟨p,sig,frl,gd,sv,fr,pf,e1,e2,hK⟩ := ih (k + 1) σ1 F1 hk' hl h
      have ne : ∀ {i},k + 1 ≤ i → i ≠ k := fun h => by omega
      have hkp1 := pf.kp
      refine ⟨p,fun i => if i = k then σ else sig i,fun i => if i = k then F else frl i,fun i => if i = k then gd0 else gd i,fun i => if i = k then sv0 else sv i,fun i => if i = k then fr0 else fr i,
        ⟨by omega,pf.pl,fun i q1 q2 q3 => ?_,fun i oi q1 q2 q3 q4 => ?_,fun i oi d q1 q2 q3 q4 q5 => ?_,fun i q1 q2 => ?_,pf.rest⟩,by simp,by simp,?_⟩
      · by_cases hi : i = k
        · subst hi
          obtain ⟨a1,a2⟩ := h0 q3
          simp only [show ¬ i + 1 = i by omega,if_false,if_true,e1,e2]
          exact ⟨a1,a2⟩
        · simp only [hi,show ¬ i + 1 = k by omega,if_false]
          exact pf.stepT i (by omega) q2 q3
      · by_cases hi : i = k
        · subst hi
          rw [ho] at q4;cases q4
          obtain ⟨a1,a2,a3⟩ := h1 q3
          simp only [show ¬ i + 1 = i by omega,if_false,if_true,e1,e2]
          exact ⟨a1,a2,a3⟩
        · simp only [hi,show ¬ i + 1 = k by omega,if_false]
          exact pf.step1 i oi (by omega) q2 q3 q4
      · by_cases hi : i = k
        · subst hi
          rw [ho] at q4;cases q4
          obtain ⟨a1,a2,a3⟩ := h2 d q3 q5
          simp only [show ¬ i + 1 = i by omega,if_false,if_true,e1,e2]
          exact ⟨a1,a2,a3⟩
        · simp only [hi,show ¬ i + 1 = k by omega,if_false]
          exact pf.step2 i oi d (by omega) q2 q3 q4 q5
      · by_cases hi : i = k
        · subst hi;exact h3
        · exact pf.no3 i (by omega) q2
      · simp only [show ¬ p = k by omega,if_false];exact hK
    cases hpl k o ho with
    | t d hq hf hg hd _ _ =>
      rw [hp] at hq
      have hq0 := Option.some.inj hq
      rw [hq0] at h hp
      have h : jR0 B all Φ (plan.drop (k + 1)) l σ F K := h
      exact glue (gd0 := none) (sv0 := .und) (fr0 := (.und,[])) (fun _ => ⟨rfl,rfl⟩) (fun hh => by rw [hp] at hh;cases hh) (fun d hh => by rw [hp] at hh;cases hh) (fun hh => by rw [hp] at hh;cases hh) h
    | q hq h3 =>
      rw [hp] at hq
      have hq0 := Option.some.inj hq
      rw [hq0] at h hp
      obtain ⟨dst,op,ty,pos,after,guard⟩ := o
      cases guard with
      | none =>
        have h : evK B Φ σ [] (fun p => p) false op fun sv => jR0 B all Φ (plan.drop (k + 1)) l (jS3 dst none sv σ) F K := h
        have hns := jZ0 h
        obtain ⟨sv,h,hnd,hop⟩ := jMD h (fun hq => by cases hq)
        refine glue (gd0 := none) (sv0 := sv) (fr0 := (.und,[])) (fun hh => by rw [hp] at hh;cases hh) (fun _ => ⟨rfl,rfl,hnd,hns,fun p r β a w hP hgp hgd ha hG m => ?_,.inl ⟨rfl,rfl⟩⟩) (fun d hh => by rw [hp] at hh;cases hh) (fun hh => by rw [hp] at hh;cases hh) h
        exact hop p r β a w hP ⟨ha,fun s w hm => by simp [jOX] at hm,fun p hp => hp⟩ hG m _ _ _ _ _
      | some jw =>
        obtain ⟨j,wv⟩ := jw
        have h : (match jVF all j with
          | some s =>
            bif B.al && jeP 40 σ s wv then (bif jMQ op || jgH op then False else jR0 B all Φ (plan.drop (k + 1)) l (jS3 dst (some (s,wv)) .und σ) F K)
            else joT σ 40 s wv fun ctx g => evK B Φ σ ctx g false op fun sv => jR0 B all Φ (plan.drop (k + 1)) l (jS3 dst (some (s,wv)) sv σ) F K
          | none => False) := h
        split at h
        · rename_i sl hs
          cases hkg : (B.al && jeP 40 σ sl wv) with
          | true =>
            rw [hkg] at h
            simp only [cond_true] at h
            simp only [Bool.and_eq_true] at hkg
            cases hds : (jMQ op || jgH op) with
            | true => rw [hds] at h;exact h.elim
            | false =>
            rw [hds] at h
            simp only [cond_false] at h
            simp only [Bool.or_eq_false_iff] at hds
            refine glue (gd0 := some (sl,wv)) (sv0 := .und) (fr0 := (.und,[])) (fun hh => by rw [hp] at hh;cases hh) (fun _ => ⟨rfl,rfl,fun c hc => ?_,fun cs b hc => ?_,fun p r β a w hP hgp hgd ha hG m => ?_,.inr ⟨j,wv,sl,rfl,hs,rfl⟩⟩) (fun d hh => by rw [hp] at hh;cases hh) (fun hh => by rw [hp] at hh;cases hh) h
            · have hc : op = .defer c := hc
              subst hc;cases hds.1
            · have hc : op = .select cs b := hc
              subst hc;cases hds.2
            · obtain ⟨g1,g2⟩ := hgd sl wv rfl
              exact absurd g2 (jZV hkg.2 ha hgp g1)
          | false =>
          rw [hkg] at h
          simp only [cond_false] at h
          obtain ⟨ctx,g,h,hsm⟩ := jSI h
          have hns := jZ0 h
          obtain ⟨sv,h,hnd,hop⟩ := jMD h (fun hq => by cases hq)
          refine glue (gd0 := some (sl,wv)) (sv0 := sv) (fr0 := (.und,[])) (fun hh => by rw [hp] at hh;cases hh) (fun _ => ⟨rfl,rfl,hnd,hns,fun p r β a w hP hgp hgd ha hG m => ?_,.inr ⟨j,wv,sl,rfl,hs,rfl⟩⟩) (fun d hh => by rw [hp] at hh;cases hh) (fun hh => by rw [hp] at hh;cases hh) h
          obtain ⟨g1,g2⟩ := hgd sl wv rfl
          exact hop p r β a w hP (hsm p r β a.tmps hgp g1 ha g2) hG m _ _ _ _ _
        · exact h.elim
    | f d hq h3 hg hd _ =>
      rw [hp] at hq
      have hq0 := Option.some.inj hq
      rw [hq0] at h hp
      obtain ⟨dst,op,ty,pos,after,guard⟩ := o
      have hg : guard = none := hg
      have hd : dst = some d := hd
      subst hg;subst hd
      have h : jPW B Φ σ op fun res Φ' => jR0 B all Φ (plan.drop (k + 1)) l ((d,none,.und) :: σ) ((d,res, Φ') :: F) K := h
      obtain ⟨res, Φ',h,hf⟩ := jS7 (dst := some d) (ty := ty) (pos := pos) (after := after) (guard := none) h
      exact glue (gd0 := none) (sv0 := .und) (fr0 := (res, Φ')) (fun hh => by rw [hp] at hh;cases hh) (fun hh => by rw [hp] at hh;cases hh) (fun d' _ hd' => by cases hd';exact ⟨rfl,rfl,hf⟩) (fun hh => by rw [hp] at hh;cases hh) h
    | s hq hc =>
      rw [hp] at hq
      have hq0 := Option.some.inj hq
      rw [hq0] at h hp hpd
      have h : K σ F (3 :: plan.drop (k + 1)) (o :: l) := h
      refine ⟨k,fun _ => σ,fun _ => F,fun _ => none,fun _ => .und,fun _ => (.und,[]),⟨Nat.le_refl _,by omega,fun i h1 h2 => by omega,fun i o h1 h2 => by omega,fun i o d h1 h2 => by omega,fun i h1 h2 => by omega,fun i h1 h2 => ?_⟩,rfl,rfl,?_⟩
      · by_cases hi : i = k
        · subst hi;exact .inr hp
        · cases hpl i _ (List.getElem?_eq_getElem h2) with
          | t d hq => exact .inl hq
          | q _ h3 => exact absurd hp (h3 k (by omega))
          | f _ _ h3 => exact absurd hp (h3 k (by omega))
          | s hq => exact .inr hq
      · rw [hpd, ← he];exact h
theorem joK {B : Base} {all : List Oper} {plan : List Nat} {Φ : Phi} {p : Nat} {sig : Nat → Env} {frl : Nat → Frs} {gd : Nat → Option (Nat × Bool)} {sv : Nat → SV} {fr : Nat → SV × Phi} (pf : PreFacts B all plan Φ 0 p sig frl gd sv fr)
    {N : Nat} (ok : RegOk N all) (hlen : plan.length = all.length) (hpl : ∀ (i : Nat) (o : Oper),all[i]? = some o → PlanAt all plan i o) : ∀ (i : Nat),i ≤ p → ∀ t,
      (∀ (j : Nat) (oj : Oper),j < i → all[j]? = some oj → oj.dst = some t → (plan[j]? = some 1 → Env.get (sig i) t = some (gd j,sv j)) ∧ (plan[j]? = some 2 → Env.get (sig i) t = some (none,.und))) ∧
      ((∀ (j : Nat) (oj : Oper),j < i → plan[j]? ≠ some 0 → all[j]? = some oj → oj.dst ≠ some t) → Env.get (sig i) t = Env.get (sig 0) t) := by
  intro i
  induction i with
  | zero => intro _ t;exact ⟨fun j oj hj => by omega,fun _ => rfl⟩
  | succ i ih =>
    intro hi t
    obtain ⟨ih1,ih2⟩ := ih (by omega) t
    have hil : i < all.length := by have := pf.pl;omega
    have ho : all[i]? = some all[i] := List.getElem?_eq_getElem hil
    have lift : ∀ {x : Option (Nat × Bool)} {y : SV} {dst : Option Nat},all[i].dst = dst → (sig (i + 1) = jS3 dst x y (sig i)) →
        (∀ (j : Nat) (oj : Oper),j < i → all[j]? = some oj → oj.dst = some t → Env.get (sig (i + 1)) t = Env.get (sig i) t) ∧ (dst = some t → Env.get (sig (i + 1)) t = some (x,y)) ∧ (dst ≠ some t → Env.get (sig (i + 1)) t = Env.get (sig i) t) := by
      intro x y dst hd he
      have h3 : dst ≠ some t → Env.get (sig (i + 1)) t = Env.get (sig i) t := by
        intro hne
        rw [he]
        cases dst with
        | none => rfl
        | some d =>
          show Env.get ((d,x,y) :: sig i) t = _
          rw [jKO,jKL (fun h => hne (by rw [h]))];rfl
      refine ⟨fun j oj hj hoj hdj => h3 fun hdt => ?_,fun hdt => ?_,h3⟩
      · have := ok.uniq hoj ho hdj (by rw [hd,hdt])
        omega
      · rw [he,hdt]
        show Env.get ((t,x,y) :: sig i) t = _
        rw [jKO,Nat.beq_refl];rfl
    cases hpl i _ ho with
    | t d hq =>
      obtain ⟨e1,_⟩ := pf.stepT i (by omega) (by omega) hq
      rw [e1]
      refine ⟨fun j oj hj hoj hdj => ?_,fun hn => ih2 fun j oj hj => hn j oj (by omega)⟩
      by_cases hji : j = i
      · subst hji;exact ⟨fun h => (by rw [hq] at h;cases h),fun h => (by rw [hq] at h;cases h)⟩
      · exact ih1 j oj (by omega) hoj hdj
    | q hq =>
      obtain ⟨e1,_,_⟩ := pf.step1 i _ (by omega) (by omega) hq ho
      obtain ⟨l1,l2,l3⟩ := lift rfl e1
      refine ⟨fun j oj hj hoj hdj => ?_,fun hn => ?_⟩
      · by_cases hji : j = i
        · subst hji
          rw [ho] at hoj;cases hoj
          exact ⟨fun _ => l2 hdj,fun h => (by rw [hq] at h;cases h)⟩
        · rw [l1 j oj (by omega) hoj hdj];exact ih1 j oj (by omega) hoj hdj
      · rw [l3 (hn i _ (by omega) (by rw [hq];simp) ho)]
        exact ih2 fun j oj hj => hn j oj (by omega)
    | f d hq _ _ hd =>
      obtain ⟨e1,_,_⟩ := pf.step2 i _ d (by omega) (by omega) hq ho hd
      obtain ⟨l1,l2,l3⟩ := lift hd (x := none) (y := .und) e1
      refine ⟨fun j oj hj hoj hdj => ?_,fun hn => ?_⟩
      · by_cases hji : j = i
        · subst hji
          rw [ho] at hoj;cases hoj
          refine ⟨fun h => (by rw [hq] at h;cases h),fun _ => l2 ?_⟩
          rw [hd] at hdj;exact hdj
        · rw [l1 j oj (by omega) hoj hdj];exact ih1 j oj (by omega) hoj hdj
      · rw [l3 (by rw [← hd];exact hn i _ (by omega) (by rw [hq];simp) ho)]
        exact ih2 fun j oj hj => hn j oj (by omega)
    | s hq => exact absurd hq (pf.no3 i (by omega) (by omega))
end Go.Vc

namespace Go.Vc
set_option autoImplicit false
theorem jSM {res : SV} {Φ' : Phi} {σ : Env} {Φ : Phi} {n : Nat} {K : EK} (h : jUM [] res Φ' σ Φ n K) :
  ∃ res' Φ2 n',K res' σ Φ2 n' ∧ ∀ r β βf w v,MemSat r β Φ w → MemSat r βf Φ' w →
   (∀ id ch j ch' b,Phi.get Φ id = some ch → ch.hb (β id) b → Phi.get Φ' j = some ch' → ¬ ch'.hb (βf j) b) → Rel r βf res v →
   ∃ β2,Rel r β2 res' v ∧ MemSat r β2 Φ2 w ∧ Keep β Φ β2 Φ2 ∧ (∀ k g sv,Env.get σ k = some (g,sv) → ∀ u,Rel r β sv u → Rel r β2 sv u) ∧
    (∀ i ch b,Phi.get Φ2 i = some ch → ch.hb (β2 i) b → (∃ id c,Phi.get Φ id = some c ∧ c.hb (β id) b) ∨ ∃ j c,Phi.get Φ' j = some c ∧ c.hb (βf j) b) := by
 have h : jfB σ Φ Φ' [] n fun M n' =>
  bif jL0 M && jL1 M then
   rn2 M res fun res => jc9 M Φ' fun Φb => jV5 [] Φ fun Φr => jiK Φb Φr fun Φ2 => K res σ Φ2 n'
  else False := h
 obtain ⟨P,M,n',hM,h,hP,hall⟩ := jUR h
 rw [List.append_nil] at hM
 subst hM
 cases hnd : (jL0 M && jL1 M) with
 | false => rw [hnd] at h;exact h.elim
 | true =>
 rw [hnd] at h
 simp only [cond_true] at h
 simp only [Bool.and_eq_true] at hnd
 obtain ⟨hn1,hn2⟩ := hnd
 obtain ⟨res',h,hres⟩ := jYK h
 obtain ⟨Φb,h,hb1,hb2⟩ := jST hn1 hn2 h
 obtain ⟨Φr,h,hr1⟩ := jS1 h
 rw [jdG] at h
 have hr1 : ∀ i,Phi.get Φr i = Phi.get Φ i := hr1
 refine ⟨res',_,n',h,fun r β βf w v m mf hdis hv => ?_⟩
 obtain ⟨β2,hβ2⟩ : ∃ β2 : jKW, β2 = fun i => match jQN M i with | some j => βf j | none => β i := ⟨_,rfl⟩
 have F1 : ∀ {i j},jP7 M j = some i → β2 i = βf j := by
  intro i j hij
  have := jNO hn2 (jNC hij)
  rw [hβ2];simp only [this]
 have Fo : ∀ {i ch},Phi.get Φ i = some ch → β2 i = β i ∧ jQN M i = none := by
  intro i ch hg
  have hl : jQN M i = none := by
   cases hl : jQN M i with
   | none => rfl
   | some j => exact absurd rfl (jL5 (hP j i (jPH hl)).2 i ch hg).1
  refine ⟨?_,hl⟩
  rw [hβ2];simp only [hl]
 have F4 : ∀ {sv v},(∀ j i,(j,i) ∈ M → sv.okIds (fun k => !Nat.beq k i) = true) → Rel r β sv v → Rel r β2 sv v := by
  intro sv v hn hr
  have hno : jZQ (M.map (·.2)) sv := by
   intro i hi
   obtain ⟨⟨j,i'⟩,hji,rfl⟩ := List.mem_map.1 hi
   exact hn j i' hji
  refine hr.bind (p := fun k => !jMV k (M.map (·.2))) (fun k hk => ?_) hno.ok
  simp only [Bool.not_eq_true'] at hk
  cases hl : jQN M k with
  | none => rw [hβ2];simp only [hl]
  | some j =>
   have : jMV k (M.map (·.2)) = true := jLL.2 (List.mem_map.2 ⟨(j,k),jPH hl,rfl⟩)
   rw [this] at hk;cases hk
 have get : ∀ i ch,Phi.get (Φb ++ Φr) i = some ch → (∃ j ch',jP7 M j = some i ∧ Phi.get Φ' j = some ch' ∧ RnC M ch' ch ∧ β2 i = βf j) ∨ (β2 i = β i ∧ Phi.get Φ i = some ch) := by
  intro i ch hi
  rw [jUE] at hi
  cases hq : Phi.get Φb i with
  | some c =>
   rw [hq] at hi;cases hi
   obtain ⟨j,ch',q1,q2,q3⟩ := hb1 i ch hq
   exact .inl ⟨j,ch',q1,q2,q3,F1 q1⟩
  | none =>
   rw [hq] at hi
   rw [hr1] at hi
   exact .inr ⟨(Fo hi).1,hi⟩
 have hrn : Rn M βf β2 := fun j i hji => F1 hji
 refine ⟨β2,hres _ _ _ _ hrn hv,⟨m.vis,fun i ch hi => ?_,fun i ch b hi hb => ?_,fun i i' ch ch' b hi hi' hb hb' => ?_⟩,fun i ch hi hk => ?_,fun k g sv hk u hr => F4 (fun j i hji => jPV (hP j i hji).1 k g sv hk) hr,fun i ch b hi hb => ?_⟩
 ·rcases get i ch hi with ⟨j,ch',q1,q2,q3,q4⟩ | ⟨q1,q2⟩
  ·rw [q4];exact q3.sat (Mem.le_refl r) hrn (mf.chs _ _ q2) (fun _ _ => rfl)
  ·rw [q1]
   refine (m.chs _ _ q2).keep (Mem.le_refl r) (fun _ _ => rfl) (fun _ cells he k sv u hk hr => F4 (fun j i' hji => ?_) hr)
   have := (jL5 (hP j i' hji).2 i ch q2).2
   subst he
   exact SV.okIdsL_get this k sv hk
 ·rcases get i ch hi with ⟨j,ch',q1,q2,q3,q4⟩ | ⟨q1,q2⟩
  ·rw [q4,q3.blk] at hb;exact mf.sep _ _ _ q2 hb
  ·rw [q1] at hb;exact m.sep _ _ _ q2 hb
 ·rcases get i ch hi with ⟨j,cj,q1,q2,q3,q4⟩ | ⟨q1,q2⟩ <;> rcases get i' ch' hi' with ⟨j',cj',q1',q2',q3',q4'⟩ | ⟨q1',q2'⟩
  ·rw [q4,q3.blk] at hb;rw [q4',q3'.blk] at hb'
   have := mf.nod _ _ _ _ _ q2 q2' hb hb'
   subst this
   rw [q1] at q1';cases q1';rfl
  ·rw [q4,q3.blk] at hb;rw [q1'] at hb'
   exact (hdis _ _ _ _ _ q2' hb' q2 hb).elim
  ·rw [q1] at hb;rw [q4',q3'.blk] at hb'
   exact (hdis _ _ _ _ _ q2 hb q2' hb').elim
  ·rw [q1] at hb;rw [q1'] at hb'
   exact m.nod _ _ _ _ _ q2 q2' hb hb'
 ·obtain ⟨k1,k2⟩ := Fo hi
  have hnb : Phi.get Φb i = none := by
   cases hq : Phi.get Φb i with
   | none => rfl
   | some c =>
    obtain ⟨j,ch',q1,_,_⟩ := hb1 i c hq
    have := jNO hn2 (jNC q1)
    rw [k2] at this;cases this
  exact ⟨k1,ch,by rw [jUE,hnb];show Phi.get Φr i = some ch;rw [hr1];exact hi,rfl⟩
 ·rcases get i ch hi with ⟨j,ch',q1,q2,q3,q4⟩ | ⟨q1,q2⟩
  ·rw [q4,q3.blk] at hb;exact .inr ⟨j,ch',q2,hb⟩
  ·rw [q1] at hb;exact .inl ⟨i,ch,q2,hb⟩
theorem jnX {r β Φ w r' w' βf Φf} (mf : MemSat r βf Φf w) (hle : r.le r') (m' : MemSat r' β Φ w') (hid : Hid r β Φ w r' β Φ w')
  (hn : ∀ j ch b,Phi.get Φf j = some ch → ch.hb (βf j) b → ∀ id c,Phi.get Φ id = some c → ¬ c.hb (β id) b) : MemSat r' βf Φf w' := by
 have key : ∀ j ch b,Phi.get Φf j = some ch → ch.hb (βf j) b → w'.heap[b]? = w.heap[b]? ∧ r' b = none := by
  intro j ch b h1 h2
  obtain ⟨g1,g2,_⟩ := hid.block b ((mf.chs _ _ h1).alive h2) (mf.sep _ _ _ h1 h2) (fun id c hc => hn j ch b h1 h2 id c hc)
  exact ⟨g1,g2⟩
 exact ⟨m'.vis,fun j ch hj => (mf.chs _ _ hj).keep hle (fun b hb => (key j ch b hj hb).1) (fun _ _ _ _ _ _ _ h => h),fun j ch b hj hb => (key j ch b hj hb).2,mf.nod⟩
theorem jXN {A : Array Oper} {o : Oper} {t : Nat} (h : Operand.tmp t ∈ o.op.operands) : t ∈ o.looksAt A :=
 List.mem_append_left _ (List.mem_filterMap.2 ⟨.tmp t,by simpa using h,rfl⟩)
theorem jMO {all : List Oper} {o : Oper} {j s : Nat} {w : Bool} (hg : o.guard = some (j,w)) (hs : jVF all j = some s) : s ∈ o.looksAt all.toArray := by
 obtain ⟨o',h1,h2⟩ := jLS hs
 refine List.mem_append_right _ ?_
 simp [hg,h1,h2]
theorem jMB {A : Array Oper} {o : Oper} (hs : ∀ cs b,o.op ≠ .select cs b) {a b : Act} (h : ∀ t ∈ o.looksAt A,a.tmps[t]? = b.tmps[t]?) : execOp a.eval o = execOp b.eval o := by
 refine execOp_congr o hs fun x hx => ?_
 cases x with
 | tmp t =>
  show a.tmps.getD t undef = b.tmps.getD t undef
  rw [Array.getD_eq_getD_getElem?,Array.getD_eq_getD_getElem?,h t (jXN hx)]
 | _ => rfl
theorem jOQ {A : Array Oper} {o : Oper} {a b : Act} (h : ∀ t ∈ o.looksAt A,a.tmps[t]? = b.tmps[t]?) : Region.wanted o (yielded A a.tmps) = Region.wanted o (yielded A b.tmps) := by
 unfold Region.wanted
 cases hg : o.guard with
 | none => rfl
 | some gw =>
  obtain ⟨g,want⟩ := gw
  have hy : yielded A a.tmps g = yielded A b.tmps g := by
   unfold yielded
   cases ht : (A[g]?).bind (·.dst) with
   | none => rfl
   | some t =>
    have : a.tmps[t]? = b.tmps[t]? := h t (by simp [Oper.looksAt,hg,ht])
    simp only [Option.bind_some,this]
  simp only [hy]
theorem OpTo.same {P a b w o R} (he : execOp a.eval o = execOp b.eval o) (h : OpTo P b w o R) : OpTo P a w o R := by
 cases h with
 | val v w' h hr => exact .val v w' (by rw [he];exact h) hr
 | skip w' h hr => exact .skip w' (by rw [he];exact h) hr
 | call f args h hc => exact .call f args (by rw [he];exact h) hc
 | round l f tmps assign body h hc => exact .round l f tmps assign body (by rw [he];exact h) hc
end Go.Vc

namespace Go.Vc
set_option autoImplicit false
set_option maxHeartbeats 1000000
section
variable {B : Base} {F : Entry → Prop} {N : Nat} {all : List Oper} {plan : List Nat} {r : Mem} {β : jKW} {Φ : Phi} {n : Nat} {w0 : World} {p : Nat} {sig : Nat → Env} {frl : Nat → Frs} {gd : Nat → Option (Nat × Bool)} {sv : Nat → SV} {fr : Nat → SV × Phi} {aT : Act}
structure TR (all : List Oper) (plan : List Nat) (S : Nat → Prop) (aT a b : Act) : Prop where
 defers : a.defers = b.defers
 size : a.tmps.size = b.tmps.size
 szT : b.tmps.size = aT.tmps.size
 dfT : b.defers = aT.defers
 slotT : ∀ (i : Nat) (o : Oper) (d : Nat),plan[i]? = some 0 → all[i]? = some o → o.dst = some d → S i → a.tmps[d]? = b.tmps[d]?
 slotN : ∀ t,(∀ (i : Nat) (o : Oper),plan[i]? = some 0 → all[i]? = some o → o.dst ≠ some t) → a.tmps[t]? = b.tmps[t]?
 base : ∀ t,(∀ (i : Nat) (o : Oper),S i → plan[i]? ≠ some 0 → all[i]? = some o → o.dst ≠ some t) → b.tmps[t]? = aT.tmps[t]?
structure PI (r : Mem) (β : jKW) (Φ : Phi) (w0 : World) (all : List Oper) (plan : List Nat) (p : Nat) (gd : Nat → Option (Nat × Bool)) (sv : Nat → SV) (fr : Nat → SV × Phi) (S : Nat → Prop) (b : Act) (w : World) (r' : Mem) (x : Nat → Value) (βf : Nat → jKW) : Prop where
 le : r.le r'
 mem : MemSat r' β Φ w
 hid : Hid r β Φ w0 r' β Φ w
 lt : ∀ (i : Nat),S i → plan[i]? ≠ some 0 → i < p
 ent : ∀ (i : Nat) (o : Oper) (d : Nat),S i → plan[i]? = some 1 → all[i]? = some o → o.dst = some d → jQB r' β b.tmps d (gd i) (sv i)
 frs : ∀ (i : Nat) (o : Oper) (d : Nat),S i → plan[i]? = some 2 → all[i]? = some o → o.dst = some d → b.tmps[d]? = some (x i) ∧ Rel r' (βf i) (fr i).1 (x i) ∧ MemSat r' (βf i) (fr i).2 w ∧
  ∀ j ch bb,Phi.get (fr i).2 j = some ch → ch.hb (βf i j) bb → w0.heap.size ≤ bb
 dis : ∀ (i i' : Nat) j ch j' ch' bb,S i → S i' → plan[i]? = some 2 → plan[i']? = some 2 → i ≠ i' → Phi.get (fr i).2 j = some ch → ch.hb (βf i j) bb → Phi.get (fr i').2 j' = some ch' → ¬ ch'.hb (βf i' j') bb
def DI (B : Base) (F : Entry → Prop) (N : Nat) (r : Mem) (β : jKW) (Φ : Phi) (w0 : World) (all : List Oper) (plan : List Nat) (p : Nat) (gd : Nat → Option (Nat × Bool)) (sv : Nat → SV) (fr : Nat → SV × Phi) (aT : Act) (K : Env → Phi → Nat → Prop) (S : Nat → Prop) (a : Act) (w : World) : Prop :=
 ∃ b,TR all plan S aT a b ∧ ((∃ r' x βf,PI r β Φ w0 all plan p gd sv fr S b w r' x βf) ∨
  ∃ m,p ≤ m ∧ (∀ (i : Nat),i < all.length → plan[i]? ≠ some 0 → (S i ↔ i < m)) ∧ jOY B F N all m (jK5 (plan.drop m) (all.drop m)) K b w)
theorem jSU {all : List Oper} {plan : List Nat} (hlen : plan.length = all.length) : ∀ (d m : Nat),m + d ≤ all.length → (∀ (i : Nat),m ≤ i → i < m + d → plan[i]? = some 0) → jK5 (plan.drop m) (all.drop m) = jK5 (plan.drop (m + d)) (all.drop (m + d)) := by
 intro d
 induction d with
 | zero => intro m _ _;rfl
 | succ d ih =>
  intro m hm h
  have h1 : m < plan.length := by omega
  have h2 : m < all.length := by omega
  have h0 := h m (Nat.le_refl m) (by omega)
  rw [List.getElem?_eq_getElem h1] at h0
  rw [List.drop_eq_getElem_cons h1,List.drop_eq_getElem_cons h2,Option.some.inj h0]
  have := ih (m + 1) (by omega) (fun i q1 q2 => h i (by omega) (by omega))
  rw [show m + (d + 1) = m + 1 + d by omega, ← this]
  rfl
theorem jZ7 {all : List Oper} {plan : List Nat} {k : Nat} {o : Oper} (ho : all[k]? = some o) (hp : plan[k]? = some 3) : jK5 (plan.drop k) (all.drop k) = o :: jK5 (plan.drop (k + 1)) (all.drop (k + 1)) := by
 have h1 := jKM ho
 have h2 := jKM hp
 rw [List.getElem?_eq_getElem h1] at ho
 rw [List.getElem?_eq_getElem h2] at hp
 rw [List.drop_eq_getElem_cons h1,List.drop_eq_getElem_cons h2,Option.some.inj hp,Option.some.inj ho]
 rfl
theorem jaW {all : List Oper} {plan : List Nat} {m : Nat} (hlen : plan.length = all.length) (hm : m ≤ all.length) (h : ∀ (i : Nat),m ≤ i → i < all.length → plan[i]? = some 0) : jK5 (plan.drop m) (all.drop m) = [] := by
 rw [jSU hlen (all.length - m) m (by omega) (fun i q1 q2 => h i q1 (by omega))]
 rw [List.drop_eq_nil_of_le (by omega),List.drop_eq_nil_of_le (by omega)]
 rfl
theorem jbI (pf : PreFacts B all plan Φ 0 p sig frl gd sv fr) (h0 : frl 0 = []) (hpl : ∀ (i : Nat) (o : Oper),all[i]? = some o → PlanAt all plan i o) (hlen : plan.length = all.length) :
  ∀ (i : Nat),i ≤ p → ∀ {K : Env → Phi → Nat → Prop} {σp : Env},jjK (frl i) σp Φ n K → ∃ σ1 Φ1 n1,K σ1 Φ1 n1 ∧ (∀ D,jML D σp → jML D σ1) ∧
   ∀ {S : Nat → Prop} {b : Act} {w : World} {r' x βf},PI r β Φ w0 all plan p gd sv fr S b w r' x βf → (∀ (j : Nat),j < p → plan[j]? ≠ some 0 → S j) → Agree r' β σp b.tmps →
    (∀ id ch bb,Phi.get Φ id = some ch → ch.hb (β id) bb → bb < w0.heap.size) →
    ∃ β1,Agree r' β1 σ1 b.tmps ∧ MemSat r' β1 Φ1 w ∧ Keep β Φ β1 Φ1 ∧
     ∀ id ch bb,Phi.get Φ1 id = some ch → ch.hb (β1 id) bb → (∃ id' c,Phi.get Φ id' = some c ∧ c.hb (β id') bb) ∨ ∃ i' j c,i' < i ∧ plan[i']? = some 2 ∧ Phi.get (fr i').2 j = some c ∧ c.hb (βf i' j) bb := by
 intro i
 induction i with
 | zero =>
  intro _ K σp h
  rw [h0] at h
  exact ⟨σp, Φ,n,h,fun D hD => hD,fun {S b w r' x βf} hPI hS ha hb => ⟨β,ha,hPI.mem,Keep.refl _ _,fun id ch bb q1 q2 => .inl ⟨id,ch,q1,q2⟩⟩⟩
 | succ i ih =>
  intro hi K σp h
  have hil : i < all.length := by have := pf.pl;omega
  have ho : all[i]? = some all[i] := List.getElem?_eq_getElem hil
  have same : frl (i + 1) = frl i → ∃ σ1 Φ1 n1,K σ1 Φ1 n1 ∧ (∀ D,jML D σp → jML D σ1) ∧
   ∀ {S : Nat → Prop} {b : Act} {w : World} {r' x βf},PI r β Φ w0 all plan p gd sv fr S b w r' x βf → (∀ (j : Nat),j < p → plan[j]? ≠ some 0 → S j) → Agree r' β σp b.tmps →
    (∀ id ch bb,Phi.get Φ id = some ch → ch.hb (β id) bb → bb < w0.heap.size) →
    ∃ β1,Agree r' β1 σ1 b.tmps ∧ MemSat r' β1 Φ1 w ∧ Keep β Φ β1 Φ1 ∧
     ∀ id ch bb,Phi.get Φ1 id = some ch → ch.hb (β1 id) bb → (∃ id' c,Phi.get Φ id' = some c ∧ c.hb (β id') bb) ∨ ∃ i' j c,i' < i + 1 ∧ plan[i']? = some 2 ∧ Phi.get (fr i').2 j = some c ∧ c.hb (βf i' j) bb := by
   intro he
   rw [he] at h
   obtain ⟨σ1, Φ1,n1,hk,hD,hsem⟩ := ih (by omega) h
   refine ⟨σ1, Φ1,n1,hk,hD,fun {S b w r' x βf} hPI hS ha hb => ?_⟩
   obtain ⟨β1,g1,g2,g3,g4⟩ := hsem hPI hS ha hb
   refine ⟨β1,g1,g2,g3,fun id ch bb q1 q2 => ?_⟩
   rcases g4 id ch bb q1 q2 with h | ⟨i',j,c,a1,a2⟩
   ·exact .inl h
   ·exact .inr ⟨i',j,c,by omega,a2⟩
  cases hpl i _ ho with
  | t d hq => exact same (pf.stepT i (by omega) (by omega) hq).2
  | q hq => exact same (pf.step1 i _ (by omega) (by omega) hq ho).2.1
  | s hq => exact absurd hq (pf.no3 i (by omega) (by omega))
  | f d hq _ _ hd =>
   obtain ⟨_,he,_⟩ := pf.step2 i _ d (by omega) (by omega) hq ho hd
   rw [he] at h
   have h : jjK (frl i) σp Φ n fun σ Φ n => jUM [] (fr i).1 (fr i).2 σ Φ n fun sv σ Φ n => K ((d,none,sv) :: σ) Φ n := h
   obtain ⟨σ1, Φ1,n1,h,hD,hsem⟩ := ih (by omega) h
   obtain ⟨res', Φ2,n2,hk,haft⟩ := jSM h
   refine ⟨_, Φ2,n2,hk,fun D h0 k s wv sv' hg => ?_,fun {S b w r' x βf} hPI hS ha hb => ?_⟩
   ·rw [jKO] at hg
    cases hbq : Nat.beq d k with
    | true => rw [hbq] at hg;simp at hg
    | false => rw [hbq] at hg;exact hD D h0 k s wv sv' hg
   ·obtain ⟨β1,g1,g2,g3,g4⟩ := hsem hPI hS ha hb
    have hSi : S i := hS i (by omega) (by rw [hq];simp)
    obtain ⟨f1,f2,f3,f4⟩ := hPI.frs i _ d hSi hq ho hd
    obtain ⟨β2,q1,q2,q3,q4,q5⟩ := haft r' β1 (βf i) w (x i) g2 f3 (fun id ch j ch' bb a1 a2 a3 a4 => by
     rcases g4 id ch bb a1 a2 with ⟨id',c,c1,c2⟩ | ⟨i',j',c,c0,c1,c2,c3⟩
     ·have := hb id' c bb c1 c2
      have := f4 j ch' bb a3 a4
      omega
     ·exact hPI.dis i' i j' c j ch' bb (hS i' (by omega) (by rw [c1];simp)) hSi c1 hq (by omega) c2 c3 a3 a4) f2
    refine ⟨β2,fun k g sv' hg => ?_,q2,g3.trans q3,fun id ch bb a1 a2 => ?_⟩
    ·rw [jKO] at hg
     cases hbq : Nat.beq d k with
     | true =>
      obtain rfl := jKF hbq
      rw [hbq] at hg
      simp only [cond_true,Option.some.injEq,Prod.mk.injEq] at hg
      obtain ⟨rfl,rfl⟩ := hg
      exact ⟨x i,f1,q1⟩
     | false =>
      rw [hbq] at hg
      have hg : Env.get σ1 k = some (g,sv') := hg
      have := g1 k g sv' hg
      cases g with
      | none => obtain ⟨u,p1,p2⟩ := this;exact ⟨u,p1,q4 k none sv' hg u p2⟩
      | some pr => obtain ⟨s',w''⟩ := pr;exact ⟨fun hs => by obtain ⟨u,p1,p2⟩ := this.1 hs;exact ⟨u,p1,q4 k _ sv' hg u p2⟩,this.2⟩
    ·rcases q5 id ch bb a1 a2 with ⟨id',c,c1,c2⟩ | ⟨j,c,c1,c2⟩
     ·rcases g4 id' c bb c1 c2 with hh | ⟨i',j',c',z0,z1,z2⟩
      ·exact .inl hh
      ·exact .inr ⟨i',j',c',by omega,z1,z2⟩
     ·exact .inr ⟨i,j,c,by omega,hq,c1,c2⟩
end
end Go.Vc

namespace Go.Vc
set_option autoImplicit false
set_option maxHeartbeats 2000000
theorem jQB.keep {r r' β t t' k g sv} (h : jQB r β t k g sv) (hle : r.le r') (hk : t'[k]? = t[k]?) (hs : ∀ s w,g = some (s,w) → t'[s]? = t[s]?) : jQB r' β t' k g sv := by
 cases g with
 | none => obtain ⟨u,p1,p2⟩ := h;exact ⟨u,by rw [hk];exact p1,p2.mono hle⟩
 | some p =>
  obtain ⟨s,w⟩ := p
  have := hs s w rfl
  simp only [jQB,hk,this] at h ⊢
  exact ⟨fun hq => by obtain ⟨u,p1,p2⟩ := h.1 hq;exact ⟨u,p1,p2.mono hle⟩,h.2⟩
theorem jbM {B : Base} {F : Entry → Prop} {e : Entry} (hF : F e) {N : Nat} {all : List Oper} {plan : List Nat} {ro : Option Nat} {K : Env → Phi → Nat → Prop} {Q : Exit → Act → World → Prop} {id : Nat} (hY : YOk B F N) (ok : RegOk N all) (hlex : Region.lexB .any all.toArray = true) (hpk : jiX all plan = true)
    (hQ : ∀ e r β σ Φ n a w,F e → K σ Φ n → Sat B e N r β σ Φ a w → Q .normal a w) {r β σ Φ n a0 w00} (h : jgP B all plan σ Φ n K) (s00 : Sat B e N r β σ Φ a0 w00) (hng : jN0 σ) :
    (Code.region id all.toArray true).wpIn (fc ro) 0 B.P Q a0 w00 := by
  obtain ⟨hlen,hpl⟩ := ja9 hpk
  have lx : LexOk .any all.toArray := jTK hlex
  have nosel : ∀ (i : Nat) (o : Oper),all[i]? = some o → ∀ cs b,o.op ≠ .select cs b := by
    intro i o ho cs b
    simp only [Region.lexB,Bool.and_eq_true] at hlex
    exact Region.noSelect_spec hlex.1 i o cs b (by simpa using ho)
  obtain ⟨w0,hw0⟩ : ∃ w0 : World,w0 = { w00 with drawn := w00.drawn + 1 } := ⟨_,rfl⟩
  have hheap : w0.heap = w00.heap := by rw [hw0]
  have s0 : Sat B e N r β σ Φ a0 w0 := by
    refine s00.step s00.agree ⟨fun b o h => by rw [hheap];exact s00.mem.vis b o h,fun id ch h => (s00.mem.chs _ _ h).keep (Mem.le_refl r) (fun b _ => by rw [hheap]) (fun _ _ _ _ _ _ _ h => h),s00.mem.sep,s00.mem.nod⟩ (Mem.le_refl r) ?_
    exact ⟨by rw [hw0],by rw [hw0],by rw [hw0],by rw [hheap];exact Nat.le_refl _,fun b _ h1 h2 => ⟨by rw [hheap],h1,h2⟩,fun _ ch h _ => ⟨rfl,ch,h,rfl⟩⟩
  unfold jgP at h
  obtain ⟨σT,aT,h,hagT,hngT,hszT,hdfT,hTI,hbaseT⟩ := jU0 (r := r) (β := β) ok hlen (fun i o h _ => hpl i o h) all 0 σ a0 (by simp) (by simp) (by simpa using h) s0.agree hng s0.size (fun i o d hi => by omega)
  obtain ⟨p,sig,frl,gd,sv,fr,pf,hsig0,hfrl0,h⟩ := jcP hlen hpl all 0 σT [] (by simp) (by simp) (by simpa using h)
  have sg := joK pf ok hlen hpl
  obtain ⟨σ1, Φ1,n1,hk1,hD1,hown⟩ := jbI (n := n) (w0 := w0) (r := r) (β := β) pf hfrl0 hpl hlen p (Nat.le_refl p) h
  have hblt : ∀ id ch bb,Phi.get Φ id = some ch → ch.hb (β id) bb → bb < w0.heap.size := fun id ch bb h1 h2 => jNR s0.mem h1 h2
  have nonTlt : ∀ {i : Nat} {o : Oper},all[i]? = some o → (plan[i]? = some 1 ∨ plan[i]? = some 2) → i < p := by
    intro i o ho hp
    rcases Nat.lt_or_ge i p with h | h
    · exact h
    · rcases pf.rest i h (jKM ho) with h0 | h0 <;> rcases hp with hp | hp <;> rw [hp] at h0 <;> cases h0
  have getA : ∀ {i : Nat} {o : Oper},all.toArray[i]? = some o → all[i]? = some o := fun h => by simpa using h
  have conv : ∀ {S : Nat → Prop} {b : Act} {w : World} {r' x βf},PI r β Φ w0 all plan p gd sv fr S b w r' x βf → (∀ (j : Nat),j < p → plan[j]? ≠ some 0 → S j) →
      (∀ (t : Nat),(∀ (i : Nat) (o : Oper),S i → plan[i]? ≠ some 0 → all[i]? = some o → o.dst ≠ some t) → b.tmps[t]? = aT.tmps[t]?) → b.tmps.size = N → b.defers = a0.defers →
      jOY B F N all p (jK5 (plan.drop p) (all.drop p)) K b w := by
    intro S b w r' x βf hPI hall hbase hsz hdf
    have hag : Agree r' β (sig p) b.tmps := by
      intro t g sv' hg
      by_cases hex : ∃ (j : Nat) (oj : Oper),j < p ∧ plan[j]? ≠ some 0 ∧ all[j]? = some oj ∧ oj.dst = some t
      · obtain ⟨j,oj,hj,hnT,hoj,hdj⟩ := hex
        obtain ⟨g1,g2⟩ := (sg p (Nat.le_refl p) t).1 j oj hj hoj hdj
        have hSj := hall j hj hnT
        cases hpl j oj hoj with
        | t _ hq => exact absurd hq hnT
        | q hq => rw [g1 hq] at hg;cases hg;exact hPI.ent j oj t hSj hq hoj hdj
        | f _ hq => rw [g2 hq] at hg;cases hg;exact ⟨x j,(hPI.frs j oj t hSj hq hoj hdj).1,.und⟩
        | s hq => exact absurd hq (pf.no3 j (by omega) hj)
      · have hno : ∀ (j : Nat) (oj : Oper),j < p → plan[j]? ≠ some 0 → all[j]? = some oj → oj.dst ≠ some t := fun j oj h1 h2 h3 h4 => hex ⟨j,oj,h1,h2,h3,h4⟩
        rw [(sg p (Nat.le_refl p) t).2 hno,hsig0] at hg
        have hb := hbase t (fun i o h1 h2 h3 => hno i o (hPI.lt i h1 h2) h2 h3)
        exact (hagT t g sv' hg).keep hPI.le hb (fun s w hgs => by have := hngT t g sv' hg;rw [this] at hgs;cases hgs)
    have hgd : jML (jTE (all.take p)) (sig p) := by
      intro t s wv sv' hg
      by_cases hex : ∃ (j : Nat) (oj : Oper),j < p ∧ plan[j]? ≠ some 0 ∧ all[j]? = some oj ∧ oj.dst = some t
      · obtain ⟨j,oj,hj,hnT,hoj,hdj⟩ := hex
        obtain ⟨g1,g2⟩ := (sg p (Nat.le_refl p) t).1 j oj hj hoj hdj
        cases hpl j oj hoj with
        | t _ hq => exact absurd hq hnT
        | q hq =>
          rw [g1 hq] at hg
          obtain ⟨_,_,hf⟩ := pf.step1 j oj (by omega) hj hq hoj
          rcases hf.gd with ⟨_,h2⟩ | ⟨jg,wv',s',h1,h2,h3⟩
          · rw [h2] at hg;cases hg
          · rw [h3] at hg;cases hg
            exact jTX (by omega) _ (ok.guardIn hoj h1 h2)
        | f _ hq => rw [g2 hq] at hg;cases hg
        | s hq => exact absurd hq (pf.no3 j (by omega) hj)
      · have hno : ∀ (j : Nat) (oj : Oper),j < p → plan[j]? ≠ some 0 → all[j]? = some oj → oj.dst ≠ some t := fun j oj h1 h2 h3 h4 => hex ⟨j,oj,h1,h2,h3,h4⟩
        rw [(sg p (Nat.le_refl p) t).2 hno,hsig0] at hg
        have := hngT t _ sv' hg
        cases this
    obtain ⟨β1,q1,q2,q3,q4⟩ := hown hPI hall hag hblt
    refine ⟨e,r', β1, σ1, Φ1,n1,hF,hk1,?_,hD1 _ hgd⟩
    have hid : Hid r β Φ w0 r' β1 Φ1 w := by
      refine ⟨hPI.hid.os,hPI.hid.tape,hPI.hid.output,hPI.hid.size,fun bb hb h1 h2 => ?_,q3⟩
      obtain ⟨a1,a2,a3⟩ := hPI.hid.block bb hb h1 h2
      refine ⟨a1,a2,fun id ch hg hc => ?_⟩
      rcases q4 id ch bb hg hc with ⟨id',c,c1,c2⟩ | ⟨i',j,c,c0,c1,c2,c3⟩
      · exact a3 id' c c1 c2
      · obtain ⟨oi,hoi⟩ : ∃ oi,all[i']? = some oi := ⟨_,List.getElem?_eq_getElem (by have := pf.pl;omega)⟩
        cases hpl i' oi hoi with
        | f d hq _ _ hd =>
          have := (hPI.frs i' oi d (hall i' c0 (by rw [c1];simp)) hq hoi hd).2.2.2 j c bb c2 c3
          omega
        | t _ hq => rw [c1] at hq;cases hq
        | q hq => rw [c1] at hq;cases hq
        | s hq => rw [c1] at hq;cases hq
    have hmk : Marks r' β1 Φ1 w e.lo b.defers := by
      rw [hdf];exact s0.defers.step hid
    exact ⟨q1,q2,B.mono _ _ hPI.le s0.G,s0.kept.step hPI.le hid,hmk,hsz⟩
  refine jME (I := DI B F N r β Φ w0 all plan p gd sv fr aT K) (ops := all.toArray) lx B.mixed ?_ ?_ ?_
  · -- one operation
    intro S i o a w hSlt hcl ho hnS hdep hI
    have ho : all[i]? = some o := getA ho
    have hil := jKM ho
    obtain ⟨b,tr,hph⟩ := hI
    have ahead : ∀ (j : Nat) (oj : Oper) (t : Nat),all[j]? = some oj → oj.dst = some t → t ∈ o.looksAt all.toArray → (j < i → S j) ∧ (i < j → ¬ S j) := by
      intro j oj t hoj hdj hm
      refine ⟨fun hji => ?_,fun hij hSj => ?_⟩
      · rcases lx.apart j i oj o (by simpa using hoj) (by simpa using ho) hji with ⟨ed,he,hb,heq⟩ | hap
        · have := hdep ed he hb;rw [heq] at this;exact this
        · exact absurd hm ((Oper.apart_spec hap).1 t hdj)
      · rcases lx.apart i j o oj (by simpa using ho) (by simpa using hoj) hij with ⟨ed,he,hb,heq⟩ | hap
        · have := hcl j oj hSj (by simpa using hoj) ed he hb
          rw [heq] at this;exact hnS this
        · exact (Oper.apart_spec hap).2.2 t hdj hm
    have heq : ∀ t ∈ o.looksAt all.toArray,a.tmps[t]? = b.tmps[t]? := by
      intro t ht
      by_cases hex : ∃ (j : Nat) (oj : Oper),plan[j]? = some 0 ∧ all[j]? = some oj ∧ oj.dst = some t
      · obtain ⟨j,oj,hpj,hoj,hdj⟩ := hex
        obtain ⟨h1,h2⟩ := ahead j oj t hoj hdj ht
        refine tr.slotT j oj t hpj hoj hdj ?_
        rcases Nat.lt_trichotomy j i with hji | hji | hji
        · exact h1 hji
        · subst hji
          rw [ho] at hoj;cases hoj
          cases hpl j o ho with
          | t d _ _ _ hd hr =>
            rw [hd] at hdj;cases hdj
            exact absurd ht (hr j o (Nat.le_refl j) ho)
          | q hq => rw [hpj] at hq;cases hq
          | f _ hq => rw [hpj] at hq;cases hq
          | s hq => rw [hpj] at hq;cases hq
        · cases hpl j oj hoj with
          | t d _ _ _ hd hr =>
            rw [hd] at hdj;cases hdj
            exact absurd ht (hr i o (by omega) ho)
          | q hq => rw [hpj] at hq;cases hq
          | f _ hq => rw [hpj] at hq;cases hq
          | s hq => rw [hpj] at hq;cases hq
      · exact tr.slotN t fun j oj h1 h2 h3 => hex ⟨j,oj,h1,h2,h3⟩
    have hexec : execOp a.eval o = execOp b.eval o := jMB (nosel i o ho) heq
    have hwant : Region.wanted o (yielded all.toArray a.tmps) = Region.wanted o (yielded all.toArray b.tmps) := jOQ heq
    have hszb : b.tmps.size = N → a.tmps.size = N := fun h => by rw [tr.size];exact h
    have hNlt : ∀ d,o.dst = some d → d < N := fun d hd => ok.lt o (List.mem_of_getElem? ho) d hd
    have tr_put : ∀ (v : Value),plan[i]? ≠ some 0 → TR all plan (fun j => S j ∨ j = i) aT (a.put o.dst v) (b.put o.dst v) := by
      intro v hnT
      have other : ∀ {x : Act} {t : Nat},o.dst ≠ some t → (x.put o.dst v).tmps[t]? = x.tmps[t]? := by
        intro x t hne
        cases hd : o.dst with
        | none => rfl
        | some d => exact jN9 (fun h => hne (by rw [hd,h]))
      refine ⟨by rw [put_defers,put_defers];exact tr.defers,by rw [jK0,jK0];exact tr.size,by rw [jK0];exact tr.szT,by rw [put_defers];exact tr.dfT,fun j oj d hpj hoj hdj hSj => ?_,fun t ht => ?_,fun t ht => ?_⟩
      · have hji : j ≠ i := by rintro rfl;exact hnT hpj
        have hne : o.dst ≠ some d := fun h => hji (ok.uniq hoj ho hdj h)
        rw [other hne,other hne]
        exact tr.slotT j oj d hpj hoj hdj (hSj.resolve_right hji)
      · by_cases hd : o.dst = some t
        · have hl : ∀ {x : Act},x.tmps.size = a.tmps.size → (x.put o.dst v).tmps[t]? = if t < a.tmps.size then some v else none := by
            intro x hx
            rw [hd,jP4]
            rw [Array.getElem?_setIfInBounds]
            simp [hx]
          rw [hl rfl,hl tr.size.symm]
        · rw [other hd,other hd];exact tr.slotN t ht
      · have hne : o.dst ≠ some t := ht i o (.inr rfl) hnT ho
        rw [other hne]
        exact tr.base t fun j oj hj => ht j oj (.inl hj)
    have nowhere : plan[i]? = some 1 ∨ plan[i]? = some 2 → ∃ r' x βf,PI r β Φ w0 all plan p gd sv fr S b w r' x βf := by
      intro hp12
      rcases hph with h | ⟨m,hpm,hiff,_⟩
      · exact h
      · have hip := nonTlt ho hp12
        have hne : plan[i]? ≠ some 0 := by rcases hp12 with h | h <;> rw [h] <;> simp
        exact absurd ((hiff i hil hne).2 (by omega)) hnS
    have hsz0 : b.tmps.size = N := by rw [tr.szT,hszT]
    have hdf0 : b.defers = a0.defers := by rw [tr.dfT,hdfT]
    have jQR : ∀ {x : Act} {d : Nat} {v : Value},x.tmps.size = N → o.dst = some d → (x.put o.dst v).tmps[d]? = some v := by
      intro x d v hx hd
      rw [hd];exact put_eq (by rw [hx];exact hNlt d hd)
    have other : ∀ {x : Act} {t : Nat} {v : Value},o.dst ≠ some t → (x.put o.dst v).tmps[t]? = x.tmps[t]? := by
      intro x t v hne
      cases hd : o.dst with
      | none => rfl
      | some d => exact jN9 (fun h => hne (by rw [hd,h]))
    unfold wpOpIn
    simp only [List.getElem?_toArray,ho]
    have prf : ∀ {r' x βf},PI r β Φ w0 all plan p gd sv fr S b w r' x βf → i < p →
        ∃ pr : Nat → Prop,(∀ t ∈ o.looksAt all.toArray,pr t) ∧ GdP pr (sig i) ∧ jSY pr r' β (sig i) b.tmps := by
      intro r' x βf hPI hip
      refine ⟨fun t => ∀ (j : Nat) (oj : Oper),plan[j]? ≠ some 0 → all[j]? = some oj → oj.dst = some t → (j < i → S j) ∧ (i ≤ j → ¬ S j),fun t ht j oj hnT hoj hdj => ?_,fun t s wv sv' hpt hg => ?_,fun t g sv' hpt hg => ?_⟩
      · obtain ⟨h1,h2⟩ := ahead j oj t hoj hdj ht
        refine ⟨h1,fun hij => ?_⟩
        rcases Nat.lt_or_eq_of_le hij with h | h
        · exact h2 h
        · rw [← h];exact hnS
      · -- the guard's own slot
        intro jg' og hnT hog hdg
        by_cases hex : ∃ (j : Nat) (oj : Oper),j < i ∧ plan[j]? ≠ some 0 ∧ all[j]? = some oj ∧ oj.dst = some t
        · obtain ⟨j,oj,hj,hnTj,hoj,hdj⟩ := hex
          obtain ⟨g1,g2⟩ := (sg i (by omega) t).1 j oj hj hoj hdj
          have hSj := (hpt j oj hnTj hoj hdj).1 hj
          cases hpl j oj hoj with
          | t _ hq => exact absurd hq hnTj
          | q hq =>
            rw [g1 hq] at hg
            obtain ⟨_,_,hf⟩ := pf.step1 j oj (by omega) (by omega) hq hoj
            rcases hf.gd with ⟨_,h2⟩ | ⟨jg,wv',s',h1,h2,h3⟩
            · rw [h2] at hg;cases hg
            · rw [h3] at hg;cases hg
              obtain ⟨o',k1,k2⟩ := jLS h2
              have hjj := ok.uniq hog k1 hdg k2
              subst hjj
              have hlt := ok.before j oj hoj _ _ h1
              refine ⟨fun _ => ?_,fun h => by omega⟩
              rcases lx.apart jg' j o' oj (by simpa using k1) (by simpa using hoj) hlt with ⟨ed,he,hb,heq⟩ | hap
              · have := hcl j oj hSj (by simpa using hoj) ed he hb
                rw [heq] at this;exact this
              · exact absurd (jMO h1 h2) ((Oper.apart_spec hap).1 s k2)
          | f _ hq => rw [g2 hq] at hg;cases hg
          | s hq => exact absurd hq (pf.no3 j (by omega) (by omega))
        · have hno : ∀ (j : Nat) (oj : Oper),j < i → plan[j]? ≠ some 0 → all[j]? = some oj → oj.dst ≠ some t := fun j oj h1 h2 h3 h4 => hex ⟨j,oj,h1,h2,h3,h4⟩
          rw [(sg i (by omega) t).2 hno,hsig0] at hg
          have := hngT t _ sv' hg
          cases this
      · by_cases hex : ∃ (j : Nat) (oj : Oper),j < i ∧ plan[j]? ≠ some 0 ∧ all[j]? = some oj ∧ oj.dst = some t
        · obtain ⟨j,oj,hj,hnTj,hoj,hdj⟩ := hex
          obtain ⟨g1,g2⟩ := (sg i (by omega) t).1 j oj hj hoj hdj
          have hSj := (hpt j oj hnTj hoj hdj).1 hj
          cases hpl j oj hoj with
          | t _ hq => exact absurd hq hnTj
          | q hq => rw [g1 hq] at hg;cases hg;exact hPI.ent j oj t hSj hq hoj hdj
          | f _ hq => rw [g2 hq] at hg;cases hg;exact ⟨x j,(hPI.frs j oj t hSj hq hoj hdj).1,.und⟩
          | s hq => exact absurd hq (pf.no3 j (by omega) (by omega))
        · have hno : ∀ (j : Nat) (oj : Oper),j < i → plan[j]? ≠ some 0 → all[j]? = some oj → oj.dst ≠ some t := fun j oj h1 h2 h3 h4 => hex ⟨j,oj,h1,h2,h3,h4⟩
          rw [(sg i (by omega) t).2 hno,hsig0] at hg
          have hb := tr.base t (fun j oj h1 h2 h3 h4 => by
            rcases Nat.lt_or_ge j i with hji | hji
            · exact hno j oj hji h2 h3 h4
            · exact (hpt j oj h2 h3 h4).2 hji h1)
          exact (hagT t g sv' hg).keep hPI.le hb (fun s w hgs => by have := hngT t g sv' hg;rw [this] at hgs;cases hgs)
    have stay : ∀ {r' x βf r2 w'} (v : Value),PI r β Φ w0 all plan p gd sv fr S b w r' x βf → r'.le r2 → MemSat r2 β Φ w' → Hid r' β Φ w r2 β Φ w' →
        (∀ (j : Nat) (oj : Oper) (d : Nat),S j → plan[j]? = some 1 → all[j]? = some oj → oj.dst = some d → jQB r2 β (b.put o.dst v).tmps d (gd j) (sv j)) ∧
        (∀ (j : Nat) (oj : Oper) (d : Nat),S j → plan[j]? = some 2 → all[j]? = some oj → oj.dst = some d → (b.put o.dst v).tmps[d]? = some (x j) ∧ Rel r2 (βf j) (fr j).1 (x j) ∧ MemSat r2 (βf j) (fr j).2 w' ∧
          ∀ k ch bb,Phi.get (fr j).2 k = some ch → ch.hb (βf j k) bb → w0.heap.size ≤ bb) := by
      intro r' x βf r2 w' v hPI hle m' hid
      refine ⟨fun j oj d hSj hpj hoj hdj => ?_,fun j oj d hSj hpj hoj hdj => ?_⟩
      · have hji : j ≠ i := by rintro rfl;exact hnS hSj
        have hne : o.dst ≠ some d := fun h => hji (ok.uniq hoj ho hdj h)
        have hjp := hPI.lt j hSj (by rw [hpj];simp)
        obtain ⟨_,_,hf⟩ := pf.step1 j oj (by omega) hjp hpj hoj
        refine (hPI.ent j oj d hSj hpj hoj hdj).keep hle (other hne) fun s wv hgs => other fun hos => ?_
        rcases hf.gd with ⟨_,h2⟩ | ⟨jg,wv',s',h1,h2,h3⟩
        · rw [h2] at hgs;cases hgs
        · rw [h3] at hgs;cases hgs
          obtain ⟨o',k1,k2⟩ := jLS h2
          have hjj := ok.uniq ho k1 hos k2
          subst hjj
          rw [ho] at k1;cases k1
          have hlt := ok.before j oj hoj _ _ h1
          rcases lx.apart i j o oj (by simpa using ho) (by simpa using hoj) hlt with ⟨ed,he,hb,heq⟩ | hap
          · have := hcl j oj hSj (by simpa using hoj) ed he hb
            rw [heq] at this;exact hnS this
          · exact absurd (jMO h1 h2) ((Oper.apart_spec hap).1 s hos)
      · have hji : j ≠ i := by rintro rfl;exact hnS hSj
        have hne : o.dst ≠ some d := fun h => hji (ok.uniq hoj ho hdj h)
        obtain ⟨f1,f2,f3,f4⟩ := hPI.frs j oj d hSj hpj hoj hdj
        exact ⟨by rw [other hne];exact f1,f2.mono hle,jnX f3 hle m' hid (fun k ch bb h1 h2 id c h3 h4 => by
          have := f4 k ch bb h1 h2
          have := hblt id c bb h3 h4
          omega),f4⟩
    cases hpl i o ho with
    | t d hq hfl hg hd hr hw =>
      have hw1 : Region.wanted o (yielded all.toArray a.tmps) = true := by simp [Region.wanted,hg]
      rw [if_pos hw1]
      have hbT : ∀ t ∈ o.looksAt all.toArray,b.tmps[t]? = aT.tmps[t]? := by
        intro t ht
        refine tr.base t fun j oj hSj hnT hoj hdj => ?_
        obtain ⟨_,h2⟩ := ahead j oj t hoj hdj ht
        rcases Nat.lt_trichotomy j i with hji | hji | hji
        · have hop : Operand.tmp t ∈ o.op.operands.toList := by
            unfold Oper.looksAt at ht
            rw [hg,List.append_nil,List.mem_filterMap] at ht
            obtain ⟨y,hy,hyt⟩ := ht
            cases y <;> simp at hyt
            subst hyt;exact hy
          exact hw j oj t hji hnT hoj hdj hop
        · subst hji;exact hnS hSj
        · exact h2 hji hSj
      have hexT : execOp b.eval o = execOp aT.eval o := jMB (nosel i o ho) hbT
      obtain ⟨v,hv,hrun⟩ := hTI i o d hil hq ho hd
      refine (OpTo.val v w (R := fun v' w' => v' = v ∧ w' = w) (by rw [hexec,hexT];exact hrun w) ⟨rfl,rfl⟩).wpIn (jPA hfl) ?_
      rintro v' w' ⟨rfl,rfl⟩
      have hnTd : ∀ (j : Nat) (oj : Oper),plan[j]? ≠ some 0 → all[j]? = some oj → oj.dst ≠ some d := fun j oj h1 h2 h3 => by
        have := ok.uniq h2 ho h3 hd
        subst this;exact h1 hq
      refine ⟨b,⟨by rw [put_defers];exact tr.defers,by rw [jK0];exact tr.size,tr.szT,tr.dfT,fun j oj d' hpj hoj hdj hSj => ?_,fun t ht => ?_,fun t ht => ?_⟩,?_⟩
      · by_cases hji : j = i
        · subst hji
          rw [ho] at hoj;cases hoj
          rw [jQR (hszb hsz0) hdj]
          rw [hd] at hdj;cases hdj
          rw [tr.base d (fun j oj _ h1 h2 => hnTd j oj h1 h2)]
          exact hv.symm
        · have hne : o.dst ≠ some d' := fun h => hji (ok.uniq hoj ho hdj h)
          rw [other hne]
          exact tr.slotT j oj d' hpj hoj hdj (hSj.resolve_right hji)
      · rw [other (ht i o hq ho)];exact tr.slotN t ht
      · exact tr.base t fun j oj hj => ht j oj (.inl hj)
      · have hS' : ∀ {j},plan[j]? ≠ some 0 → (S j ∨ j = i) → S j := fun h1 h2 => h2.resolve_right (by rintro rfl;exact h1 hq)
        rcases hph with ⟨r',x, βf,hPI⟩ | ⟨m,h1,h2,h3⟩
        · refine .inl ⟨r',x, βf,hPI.le,hPI.mem,hPI.hid,fun j hj hn => hPI.lt j (hS' hn hj) hn,fun j oj d' hj hp => hPI.ent j oj d' (hS' (by rw [hp];simp) hj) hp,fun j oj d' hj hp => hPI.frs j oj d' (hS' (by rw [hp];simp) hj) hp,
            fun j j' k ch k' ch' bb hj hj' hp hp' => hPI.dis j j' k ch k' ch' bb (hS' (by rw [hp];simp) hj) (hS' (by rw [hp'];simp) hj') hp hp'⟩
        · exact .inr ⟨m,h1,fun j hj hn => ⟨fun hh => (h2 j hj hn).1 (hS' hn hh),fun hh => .inl ((h2 j hj hn).2 hh)⟩,h3⟩
    | q hq h3 =>
      have hnT : plan[i]? ≠ some 0 := by rw [hq];simp
      obtain ⟨r',x, βf,hPI⟩ := nowhere (.inl hq)
      have hip := nonTlt ho (.inl hq)
      obtain ⟨pr,hp1,hp2,hp3⟩ := prf hPI hip
      obtain ⟨_,_,hf⟩ := pf.step1 i o (by omega) hip hq ho
      have next : ∀ {r2 w'} (v : Value),r'.le r2 → MemSat r2 β Φ w' → Hid r' β Φ w r2 β Φ w' → (∀ d,o.dst = some d → jQB r2 β (b.put o.dst v).tmps d (gd i) (sv i)) →
          DI B F N r β Φ w0 all plan p gd sv fr aT K (fun j => S j ∨ j = i) (a.put o.dst v) w' := by
        intro r2 w' v hle m' hid hent
        obtain ⟨k1,k2⟩ := stay v hPI hle m' hid
        refine ⟨_,tr_put v hnT,.inl ⟨r2,x, βf,Mem.le_trans hPI.le hle,m',hPI.hid.trans hid,fun j hj hn => ?_,fun j oj d hj hpj hoj hdj => ?_,fun j oj d hj hpj hoj hdj => ?_,fun j j' k ch k' ch' bb hj hj' hpj hpj' => ?_⟩⟩
        · rcases hj with hj | rfl
          · exact hPI.lt j hj hn
          · exact hip
        · rcases hj with hj | rfl
          · exact k1 j oj d hj hpj hoj hdj
          · rw [ho] at hoj;cases hoj;exact hent d hdj
        · rcases hj with hj | rfl
          · exact k2 j oj d hj hpj hoj hdj
          · rw [hq] at hpj;cases hpj
        · rcases hj with hj | rfl
          · rcases hj' with hj' | rfl
            · exact hPI.dis j j' k ch k' ch' bb hj hj' hpj hpj'
            · rw [hq] at hpj';cases hpj'
          · rw [hq] at hpj;cases hpj
      have hG : B.G r' := B.mono _ _ hPI.le s0.G
      have hops : ∀ x ∈ o.op.operands.toList,Has pr x := fun x hx t hxt => hp1 t (jXN (by subst hxt;simpa using hx))
      rcases hf.gd with ⟨hg1,hg2⟩ | ⟨jg,wv,s,hg1,hg2,hg3⟩
      · have hw1 : Region.wanted o (yielded all.toArray a.tmps) = true := by simp [Region.wanted,hg1]
        rw [if_pos hw1]
        refine (OpTo.same hexec (hf.run pr r' β b w hops hp2 (fun s w' h => by rw [hg2] at h;cases h) hp3 hG hPI.mem)).wpIn hf.nd ?_
        rintro v w' ⟨r2,hr,hle,m',hid⟩
        refine next v hle m' hid fun d hd => ?_
        rw [hg2]
        exact ⟨v,jQR hsz0 hd,hr⟩
      · have hps : pr s := hp1 s (jMO hg1 hg2)
        have hsd : ∀ d,o.dst = some d → o.dst ≠ some s := by
          intro d hd hds
          obtain ⟨o',k1,k2⟩ := jLS hg2
          have := ok.uniq ho k1 hds k2
          have := ok.before i o ho _ _ hg1
          omega
        rw [hwant,jL9 hg1]
        by_cases ht : b.tmps[s]? = some (.bool wv)
        · rw [if_pos ((jLU hg2 b.tmps wv).2 ht)]
          refine (OpTo.same hexec (hf.run pr r' β b w hops hp2 (fun s' w' h => by rw [hg3] at h;cases h;exact ⟨hps,ht⟩) hp3 hG hPI.mem)).wpIn hf.nd ?_
          rintro v w' ⟨r2,hr,hle,m',hid⟩
          refine next v hle m' hid fun d hd => ?_
          rw [hg3]
          refine ⟨fun _ => ⟨v,jQR hsz0 hd,hr⟩,fun h => ?_⟩
          rw [other (hsd d hd)] at h
          exact absurd ht h
        · rw [if_neg (fun hc => ht ((jLU hg2 b.tmps wv).1 hc))]
          refine ⟨fun _ _ => trivial,next undef (Mem.le_refl r') hPI.mem (Hid.refl ..) fun d hd => ?_⟩
          rw [hg3]
          refine ⟨fun h => ?_,fun _ => jQR hsz0 hd⟩
          rw [other (hsd d hd)] at h
          exact absurd h ht
    | f d hq h3 hg hd hr =>
      have hnT : plan[i]? ≠ some 0 := by rw [hq];simp
      obtain ⟨r',x, βf,hPI⟩ := nowhere (.inr hq)
      have hip := nonTlt ho (.inr hq)
      obtain ⟨pr,hp1,hp2,hp3⟩ := prf hPI hip
      obtain ⟨_,_,hf⟩ := pf.step2 i o d (by omega) hip hq ho hd
      have hG : B.G r' := B.mono _ _ hPI.le s0.G
      have hops : ∀ x ∈ o.op.operands.toList,Has pr x := fun x hx t hxt => hp1 t (jXN (by subst hxt;simpa using hx))
      have hw1 : Region.wanted o (yielded all.toArray a.tmps) = true := by simp [Region.wanted,hg]
      rw [if_pos hw1]
      refine (OpTo.same hexec (hf.run pr r' β b w hops hp3 hG hPI.mem)).wpIn hf.nd ?_
      rintro v w' ⟨r2, βn,hle,m',hid,hrel,mf,hnew⟩
      obtain ⟨k1,k2⟩ := stay v hPI hle m' hid
      have hws : w0.heap.size ≤ w.heap.size := hPI.hid.size
      refine ⟨_,tr_put v hnT,.inl ⟨r2,fun j => if j = i then v else x j,fun j => if j = i then βn else βf j,Mem.le_trans hPI.le hle,m',hPI.hid.trans hid,fun j hj hn => ?_,fun j oj d' hj hpj hoj hdj => ?_,fun j oj d' hj hpj hoj hdj => ?_,fun j j' k ch k' ch' bb hj hj' hpj hpj' hne q1 q2 q3 q4 => ?_⟩⟩
      · rcases hj with hj | rfl
        · exact hPI.lt j hj hn
        · exact hip
      · rcases hj with hj | rfl
        · exact k1 j oj d' hj hpj hoj hdj
        · rw [hq] at hpj;cases hpj
      · rcases hj with hj | rfl
        · have hji : j ≠ i := by rintro rfl;exact hnS hj
          simp only [hji,if_false]
          exact k2 j oj d' hj hpj hoj hdj
        · rw [ho] at hoj;cases hoj
          simp only [if_true]
          exact ⟨jQR hsz0 hdj,hrel,mf,fun k ch bb a1 a2 => Nat.le_trans hws (hnew k ch bb a1 a2)⟩
      · have old : ∀ {j k ch bb},S j → plan[j]? = some 2 → Phi.get (fr j).2 k = some ch → ch.hb (βf j k) bb → bb < w.heap.size := by
          intro j k ch bb hSj hpj a1 a2
          obtain ⟨oj,hoj⟩ : ∃ oj,all[j]? = some oj := ⟨_,List.getElem?_eq_getElem (by have := jKM hpj;omega)⟩
          cases hpl j oj hoj with
          | f d' _ _ _ hdj => exact ((hPI.frs j oj d' hSj hpj hoj hdj).2.2.1.chs _ _ a1).alive a2
          | t _ h' => rw [hpj] at h';cases h'
          | q h' => rw [hpj] at h';cases h'
          | s h' => rw [hpj] at h';cases h'
        rcases hj with hj | rfl <;> rcases hj' with hj' | rfl
        · have h1 : j ≠ i := by rintro rfl;exact hnS hj
          have h2 : j' ≠ i := by rintro rfl;exact hnS hj'
          simp only [h1,h2,if_false] at q2 q4
          exact hPI.dis j j' k ch k' ch' bb hj hj' hpj hpj' hne q1 q2 q3 q4
        · have h1 : j ≠ j' := hne
          simp only [h1,if_false,if_true] at q2 q4
          have := old hj hpj q1 q2
          have := hnew k' ch' bb q3 q4
          omega
        · have h2 : j' ≠ j := fun h => hne h.symm
          simp only [h2,if_false,if_true] at q2 q4
          have := old hj' hpj' q3 q4
          have := hnew k ch bb q1 q2
          omega
        · exact hne rfl
    | s hq hc =>
      have hnT : plan[i]? ≠ some 0 := by rw [hq];simp
      have hallb : ∀ (j : Nat),j < i → plan[j]? ≠ some 0 → S j := by
        intro j hj hn
        have := hc (fun y => y = i ∨ S y) (fun y oy hy hoy ed he hb => by
          rcases hy with rfl | hy
          · rw [ho] at hoy;cases hoy;exact .inr (hdep ed he hb)
          · exact .inr (hcl y oy hy (by simpa using hoy) ed he hb)) (.inl rfl) j hj hn
        rcases this with h | h
        · omega
        · exact h
      have hpi : p ≤ i := by
        rcases Nat.lt_or_ge i p with h | h
        · exact absurd hq (pf.no3 i (by omega) h)
        · exact h
      have hseq : ∃ m,m ≤ i ∧ (∀ (j : Nat),j < all.length → plan[j]? ≠ some 0 → (S j → j < m)) ∧ jOY B F N all m (jK5 (plan.drop m) (all.drop m)) K b w := by
        rcases hph with ⟨r',x, βf,hPI⟩ | ⟨m,h1,h2,h3⟩
        · exact ⟨p,hpi,fun j _ hn hS => hPI.lt j hS hn,conv hPI (fun j hj hn => hallb j (by omega) hn) tr.base hsz0 hdf0⟩
        · refine ⟨m,?_,fun j hj hn hS => (h2 j hj hn).1 hS,h3⟩
          rcases Nat.lt_or_ge i m with h | h
          · exact absurd ((h2 i hil hnT).2 h) hnS
          · exact h
      obtain ⟨m,hmi,hSm,hseq⟩ := hseq
      have hskip : jK5 (plan.drop m) (all.drop m) = o :: jK5 (plan.drop (i + 1)) (all.drop (i + 1)) := by
        have := jSU hlen (i - m) m (by omega) (fun j q1 q2 => by
          by_cases hn : plan[j]? = some 0
          · exact hn
          · have := hSm j (by omega) hn (hallb j (by omega) hn)
            omega)
        rw [show m + (i - m) = i by omega] at this
        rw [this,jZ7 ho hq]
      rw [hskip] at hseq
      have hseq' : jOY B F N all i (o :: jK5 (plan.drop (i + 1)) (all.drop (i + 1))) K b w := by
        obtain ⟨e1,r1, β1, σ1, Φ1,n1,g0,g1,g2,g3⟩ := hseq
        exact ⟨e1,r1, β1, σ1, Φ1,n1,g0,g1,g2,g3.mono (jTX hmi)⟩
      obtain ⟨hnd,hop1,hop2⟩ := jZI hY ok ho hseq'
      have next : ∀ {v w'},jOY B F N all (i + 1) (jK5 (plan.drop (i + 1)) (all.drop (i + 1))) K (b.put o.dst v) w' → DI B F N r β Φ w0 all plan p gd sv fr aT K (fun j => S j ∨ j = i) (a.put o.dst v) w' := by
        intro v w' h
        refine ⟨_,tr_put v hnT,.inr ⟨i + 1,by omega,fun j hj hn => ⟨fun hS => ?_,fun hlt => ?_⟩,h⟩⟩
        · rcases hS with hS | rfl
          · have := hSm j hj hn hS;omega
          · omega
        · by_cases hji : j = i
          · exact .inr hji
          · exact .inl (hallb j (by omega) hn)
      cases hw : Region.wanted o (yielded all.toArray b.tmps) with
      | true =>
        rw [hwant,hw,if_pos rfl]
        exact (OpTo.same hexec (hop1 hw)).wpIn hnd fun v w' h => next h
      | false =>
        rw [hwant,hw,if_neg (by simp)]
        exact ⟨fun _ _ => trivial,next (hop2 hw)⟩
  · -- the end
    intro S a w hall hI
    obtain ⟨b,tr,hph⟩ := hI
    have hall' : ∀ (i : Nat),i < all.length → S i := fun i hi => hall i (by simpa using hi)
    have hab : a = b := by
      have ht : a.tmps = b.tmps := by
        apply Array.ext_getElem?
        intro t
        by_cases hex : ∃ (j : Nat) (oj : Oper),plan[j]? = some 0 ∧ all[j]? = some oj ∧ oj.dst = some t
        · obtain ⟨j,oj,h1,h2,h3⟩ := hex
          exact tr.slotT j oj t h1 h2 h3 (hall' j (jKM h2))
        · exact tr.slotN t fun j oj h1 h2 h3 => hex ⟨j,oj,h1,h2,h3⟩
      cases a;cases b
      have hd := tr.defers
      simp only at ht hd
      subst ht;subst hd;rfl
    subst hab
    have fin : ∀ {m},m ≤ all.length → (∀ (i : Nat),m ≤ i → i < all.length → plan[i]? = some 0) → jOY B F N all m (jK5 (plan.drop m) (all.drop m)) K a w → Q .normal a w := by
      intro m hm h0 h
      rw [jaW hlen hm h0] at h
      obtain ⟨e1,r1, β1, σ1, Φ1,n1,g0,g1,g2,g3⟩ := h
      exact hQ _ _ _ _ _ _ _ _ g0 g1 g2
    rcases hph with ⟨r',x, βf,hPI⟩ | ⟨m,h1,h2,h3⟩
    · refine fin pf.pl (fun i hi hil => ?_) (conv hPI (fun j hj hn => hall' j (by have := pf.pl;omega)) tr.base (by rw [tr.szT,hszT]) (by rw [tr.dfT,hdfT]))
      by_cases hn : plan[i]? = some 0
      · exact hn
      · have := hPI.lt i (hall' i hil) hn;omega
    · rcases Nat.lt_or_ge all.length m with hm | hm
      · -- beyond the end
        have e1 : jK5 (plan.drop m) (all.drop m) = [] := by
          rw [List.drop_eq_nil_of_le (by omega),List.drop_eq_nil_of_le (by omega)];rfl
        rw [e1] at h3
        obtain ⟨e1,r1, β1, σ1, Φ1,n1,g0,g1,g2,g3⟩ := h3
        exact hQ _ _ _ _ _ _ _ _ g0 g1 g2
      · refine fin hm (fun i hi hil => ?_) h3
        by_cases hn : plan[i]? = some 0
        · exact hn
        · have := (h2 i hil hn).1 (hall' i hil);omega
  · -- the beginning
    intro S hS
    have hw : ({ w00 with drawn := w00.drawn + 1 } : World) = w0 := hw0.symm
    rw [hw]
    refine ⟨aT,⟨hdfT.symm,by rw [hszT,s0.size],rfl,rfl,fun i o d _ _ _ h => absurd h (hS i),fun t ht => ?_,fun t _ => rfl⟩,.inl ⟨r,fun _ => undef,fun _ => β0,Mem.le_refl r,s0.mem,Hid.refl ..,fun i h => absurd h (hS i),fun i o d h => absurd h (hS i),fun i o d h => absurd h (hS i),fun i i' j ch j' ch' bb h => absurd h (hS i)⟩⟩
    exact ((hbaseT t fun j oj _ h1 h2 => ht j oj h1 h2).1).symm
end Go.Vc

namespace Go.Vc
set_option autoImplicit false
theorem jeU {all : List Oper} {plan : List Nat} (h : jj9 all plan = true) : plan.length = all.length ∧ (∀ (i : Nat) (o : Oper),all[i]? = some o → plan[i]? = some 0 → PlanAt all plan i o) ∧
    ∀ (i : Nat),i < all.length → plan[i]? = some 0 ∨ plan[i]? = some 4 := by
  have key : ∀ (ps : List Nat) (ops : List Oper) (k : Nat),jQ8 all plan k ps ops = true → ps.length = ops.length ∧ ∀ (i : Nat) (o : Oper) (p : Nat),ops[i]? = some o → ps[i]? = some p →
      (match p with
       | 0 => floats o.op && ((match o.guard with | none => true | some _ => false) && ((match o.dst with | some d => jK4 all.toArray d (all.take (k + i + 1)) | none => false) && jK2 (jL3 o.op.operands.toList) (plan.take (k + i)) (all.take (k + i))))
       | 4 => true
       | _ => false) = true := by
    intro ps
    induction ps with
    | nil =>
      intro ops k h
      cases ops with
      | nil => exact ⟨rfl,fun i o p h => by simp at h⟩
      | cons => cases h
    | cons p0 ps ih =>
      intro ops k h
      cases ops with
      | nil => cases h
      | cons o0 ops =>
        simp only [jQ8,Bool.and_eq_true] at h
        obtain ⟨h1,h2⟩ := h
        obtain ⟨g1,g2⟩ := ih ops (k + 1) h2
        refine ⟨by simp [g1],fun i o p ho hp => ?_⟩
        cases i with
        | zero => simp at ho hp;subst ho;subst hp;exact h1
        | succ i =>
          have := g2 i o p (by simpa using ho) (by simpa using hp)
          rw [show k + (i + 1) = k + 1 + i by omega];exact this
  obtain ⟨hl,hk⟩ := key plan all 0 h
  refine ⟨hl,fun i o ho hp => ?_,fun i hi => ?_⟩
  · have := hk i o _ ho hp
    simp only [Nat.zero_add,Bool.and_eq_true] at this
    obtain ⟨h1,h2,h3,h4⟩ := this
    cases hd : o.dst with
    | none => rw [hd] at h3;cases h3
    | some d =>
      rw [hd] at h3
      refine .t d hp h1 ?_ hd (fun j oj hj hoj => ?_) (fun j oj d' hj hpj hoj hdj hm => ?_)
      · cases hg : o.guard with
        | none => rfl
        | some _ => rw [hg] at h2;cases h2
      · exact jLI h3 oj (List.mem_of_getElem? (i := j) (by rw [List.getElem?_take,if_pos (by omega)];exact hoj))
      · have hjl : j < plan.length := by have := jKM hp;omega
        refine hpj ?_
        have := jLO h4 j plan[j] oj d' (by rw [List.getElem?_take,if_pos hj];exact List.getElem?_eq_getElem hjl) (by rw [List.getElem?_take,if_pos hj];exact hoj) hdj (jNH.2 hm)
        rw [List.getElem?_eq_getElem hjl,this]
  · have hi' : i < plan.length := by omega
    have hp : plan[i]? = some plan[i] := List.getElem?_eq_getElem hi'
    have := hk i all[i] _ (List.getElem?_eq_getElem hi) hp
    split at this
    · rename_i he;rw [hp,he];exact .inl rfl
    · rename_i he;rw [hp,he];exact .inr rfl
    · cases this
theorem jXH {i : Nat} {l : List Nat} {j : Nat} : j ∈ jWJ i l ↔ j ∈ l ∧ j ≠ i := by
 induction l with
 | nil => simp [jWJ]
 | cons x r ih =>
  unfold jWJ
  cases hb : Nat.beq x i with
  | true =>
   obtain rfl := jKF hb
   simp only [cond_true,ih,List.mem_cons]
   constructor
   ·rintro ⟨h1,h2⟩;exact ⟨.inr h1,h2⟩
   ·rintro ⟨h1 | h1,h2⟩
    ·exact absurd h1 h2
    ·exact ⟨h1,h2⟩
  | false =>
   have hx : x ≠ i := fun h => by rw [h,Nat.beq_refl] at hb;cases hb
   simp only [cond_false,List.mem_cons,ih]
   constructor
   ·rintro (rfl | ⟨h1,h2⟩)
    ·exact ⟨.inl rfl,hx⟩
    ·exact ⟨.inr h1,h2⟩
   ·rintro ⟨rfl | h1,h2⟩
    ·exact .inl rfl
    ·exact .inr ⟨h1,h2⟩
theorem jRB {clo : List Nat} {i : Nat} : ∀ {l : List Nat},(∀ j ∈ l,j ≠ i → j ∉ clo) → jeG clo i l = true := by
 intro l
 induction l with
 | nil => intro _;rfl
 | cons x r ih =>
  intro h
  simp only [jeG,Bool.and_eq_true,Bool.or_eq_true,Bool.not_eq_true']
  refine ⟨?_,ih fun j hj => h j (by simp [hj])⟩
  by_cases hx : x = i
  ·subst hx;exact .inl (Nat.beq_refl x)
  ·refine .inr ?_
   cases hm : jMV x clo with
   | false => rfl
   | true => exact absurd (jLL.1 hm) (h x (by simp) hx)
theorem jXV {rem : List Nat} {rdy : Nat → Bool} {D : Nat → Prop} : ∀ {l : List Nat},jk9 rem rdy D l → ∀ i ∈ l,rdy i = true → D i := by
 intro l
 induction l with
 | nil => intro _ i hi;cases hi
 | cons x r ih =>
  intro h i hi hr
  cases hi with
  | head => have := h.1;rw [hr] at this;exact this
  | tail _ hi => exact ih h.2 i hi hr
theorem jaK {plan : List Nat} : ∀ {k i : Nat},i ∈ jU5 k plan ↔ ∃ j,i = k + j ∧ plan[j]? = some 4 := by
 induction plan with
 | nil => intro k i;simp [jU5]
 | cons p r ih =>
  intro k i
  have step : i ∈ jU5 (Nat.succ k) r ↔ ∃ j,i = k + (j + 1) ∧ (p :: r)[j + 1]? = some 4 := by
   rw [ih]
   constructor
   ·rintro ⟨j,h1,h2⟩;exact ⟨j,by omega,by simpa using h2⟩
   ·rintro ⟨j,h1,h2⟩;exact ⟨j,by omega,by simpa using h2⟩
  unfold jU5
  cases hb : Nat.beq p 4 with
  | true =>
   obtain rfl := jKF hb
   simp only [cond_true,List.mem_cons,step]
   constructor
   ·rintro (rfl | ⟨j,h1,h2⟩)
    ·exact ⟨0,by omega,by simp⟩
    ·exact ⟨j + 1,h1,h2⟩
   ·rintro ⟨j,h1,h2⟩
    cases j with
    | zero => exact .inl (by omega)
    | succ j => exact .inr ⟨j,h1,h2⟩
  | false =>
   simp only [cond_false,step]
   constructor
   ·rintro ⟨j,h1,h2⟩;exact ⟨j + 1,h1,h2⟩
   ·rintro ⟨j,h1,h2⟩
    cases j with
    | zero => simp at h2;subst h2;simp at hb
    | succ j => exact ⟨j,h1,h2⟩
theorem je5 {all : List Oper} {tab : List Nat} (h : jZ6 all tab = true) {i j : Nat} (hj : j < 64) (hm : jMV (Nat.add (Nat.mul i 64) j) tab = true) : jMV j (jQ9 all (all.length * all.length + all.length + 2) [i] []) = true := by
 induction tab with
 | nil => cases hm
 | cons c r ih =>
  simp only [jZ6,Bool.and_eq_true] at h
  simp only [jMV,Bool.or_eq_true] at hm
  rcases hm with hm | hm
  ·have hc := jKF hm
   have e1 : c % 64 = j := by rw [hc];show (i * 64 + j) % 64 = j;omega
   have e2 : c / 64 = i := by rw [hc];show (i * 64 + j) / 64 = i;omega
   rw [← e1, ← e2];exact h.1
  ·exact ih h.2 hm
theorem jaT {all : List Oper} {tab rem : List Nat} {i : Nat} (ht : jZ6 all tab = true) (h64 : ∀ j ∈ rem,j < 64) (h : ∀ j ∈ rem,j ≠ i → j ∉ jQ9 all (all.length * all.length + all.length + 2) [i] []) : jT0 all tab rem i = true := by
 have hT : jW2 tab i rem = true := by
  induction rem with
  | nil => rfl
  | cons x r ih =>
   simp only [jW2,Bool.and_eq_true,Bool.or_eq_true,Bool.not_eq_true']
   refine ⟨?_,ih (fun j hj => h64 j (by simp [hj])) (fun j hj => h j (by simp [hj]))⟩
   by_cases hx : x = i
   ·subst hx;exact .inl (Nat.beq_refl x)
   ·refine .inr ?_
    cases hm : jMV (Nat.add (Nat.mul i 64) x) tab with
    | false => rfl
    | true => exact absurd (jLL.1 (je5 ht (h64 x (by simp)) hm)) (h x (by simp) hx)
 unfold jT0
 split
 ·exact jRB h
 ·exact hT
def DE (B : Base) (F : Entry → Prop) (N : Nat) (all : List Oper) (plan tab : List Nat) (aT : Act) (K : Env → Phi → Nat → Prop) (S : Nat → Prop) (a : Act) (w : World) : Prop :=
 ∃ b,TR all plan S aT a b ∧ ∃ (rem : List Nat) (f : Nat) (e : Entry) (r : Mem) (β : jKW) (σ : Env) (Φ : Phi) (n : Nat) (D : List Nat),
  (∀ i,i ∈ rem ↔ plan[i]? = some 4 ∧ ¬ S i) ∧ (∀ d ∈ D,∃ (j : Nat) (oj : Oper),S j ∧ all[j]? = some oj ∧ oj.dst = some d) ∧ (∀ (j : Nat) (oj : Oper) d,S j → all[j]? = some oj → oj.dst = some d → d ∈ D) ∧
  F e ∧ vcE B all tab K f rem σ Φ n ∧ Sat B e N r β σ Φ b w ∧ jML D σ
theorem jb2 {B : Base} {F : Entry → Prop} {e : Entry} (hF : F e) {N : Nat} {all : List Oper} {plan tab : List Nat} {ro : Option Nat} {K : Env → Phi → Nat → Prop} {Q : Exit → Act → World → Prop} {id : Nat} (hY : YOk B F N) (ok : RegOk N all) (hlex : Region.lexB .any all.toArray = true) (hpk : jj9 all plan = true) (htab : jZ6 all tab = true) (h64 : tab = [] ∨ all.length ≤ 64)
    (hQ : ∀ e r β σ Φ n a w,F e → K σ Φ n → Sat B e N r β σ Φ a w → Q .normal a w) {r β σ Φ n a0 w00} (h : jcL B all plan tab σ Φ n K) (s00 : Sat B e N r β σ Φ a0 w00) (hng : jN0 σ) :
    (Code.region id all.toArray true).wpIn (fc ro) 0 B.P Q a0 w00 := by
  obtain ⟨hlen,hpl,h04⟩ := jeU hpk
  have lx : LexOk .any all.toArray := jTK hlex
  have nosel : ∀ (i : Nat) (o : Oper),all[i]? = some o → ∀ cs b,o.op ≠ .select cs b := by
    intro i o ho cs b
    simp only [Region.lexB,Bool.and_eq_true] at hlex
    exact Region.noSelect_spec hlex.1 i o cs b (by simpa using ho)
  obtain ⟨w0,hw0⟩ : ∃ w0 : World,w0 = { w00 with drawn := w00.drawn + 1 } := ⟨_,rfl⟩
  have hheap : w0.heap = w00.heap := by rw [hw0]
  have s0 : Sat B e N r β σ Φ a0 w0 := by
    refine s00.step s00.agree ⟨fun b o h => by rw [hheap];exact s00.mem.vis b o h,fun id ch h => (s00.mem.chs _ _ h).keep (Mem.le_refl r) (fun b _ => by rw [hheap]) (fun _ _ _ _ _ _ _ h => h),s00.mem.sep,s00.mem.nod⟩ (Mem.le_refl r) ?_
    exact ⟨by rw [hw0],by rw [hw0],by rw [hw0],by rw [hheap];exact Nat.le_refl _,fun b _ h1 h2 => ⟨by rw [hheap],h1,h2⟩,fun _ ch h _ => ⟨rfl,ch,h,rfl⟩⟩
  unfold jcL at h
  obtain ⟨σT,aT,h,hagT,hngT,hszT,hdfT,hTI,hbaseT⟩ := jU0 (r := r) (β := β) ok hlen hpl all 0 σ a0 (by simp) (by simp) (by simpa using h) s0.agree hng s0.size (fun i o d hi => by omega)
  have getA : ∀ {i : Nat} {o : Oper},all.toArray[i]? = some o → all[i]? = some o := fun h => by simpa using h
  refine jME (I := DE B F N all plan tab aT K) (ops := all.toArray) lx B.mixed ?_ ?_ ?_
  · -- one operation
    intro S i o a w hSlt hcl ho hnS hdep hI
    have ho : all[i]? = some o := getA ho
    have hil := jKM ho
    obtain ⟨b,tr,hph⟩ := hI
    have ahead : ∀ (j : Nat) (oj : Oper) (t : Nat),all[j]? = some oj → oj.dst = some t → t ∈ o.looksAt all.toArray → (j < i → S j) ∧ (i < j → ¬ S j) := by
      intro j oj t hoj hdj hm
      refine ⟨fun hji => ?_,fun hij hSj => ?_⟩
      · rcases lx.apart j i oj o (by simpa using hoj) (by simpa using ho) hji with ⟨ed,he,hb,heq⟩ | hap
        · have := hdep ed he hb;rw [heq] at this;exact this
        · exact absurd hm ((Oper.apart_spec hap).1 t hdj)
      · rcases lx.apart i j o oj (by simpa using ho) (by simpa using hoj) hij with ⟨ed,he,hb,heq⟩ | hap
        · have := hcl j oj hSj (by simpa using hoj) ed he hb
          rw [heq] at this;exact hnS this
        · exact (Oper.apart_spec hap).2.2 t hdj hm
    have heq : ∀ t ∈ o.looksAt all.toArray,a.tmps[t]? = b.tmps[t]? := by
      intro t ht
      by_cases hex : ∃ (j : Nat) (oj : Oper),plan[j]? = some 0 ∧ all[j]? = some oj ∧ oj.dst = some t
      · obtain ⟨j,oj,hpj,hoj,hdj⟩ := hex
        obtain ⟨h1,h2⟩ := ahead j oj t hoj hdj ht
        refine tr.slotT j oj t hpj hoj hdj ?_
        rcases Nat.lt_trichotomy j i with hji | hji | hji
        · exact h1 hji
        · subst hji
          rw [ho] at hoj;cases hoj
          cases hpl j o ho hpj with
          | t d _ _ _ hd hr =>
            rw [hd] at hdj;cases hdj
            exact absurd ht (hr j o (Nat.le_refl j) ho)
          | q hq => rw [hpj] at hq;cases hq
          | f _ hq => rw [hpj] at hq;cases hq
          | s hq => rw [hpj] at hq;cases hq
        · cases hpl j oj hoj hpj with
          | t d _ _ _ hd hr =>
            rw [hd] at hdj;cases hdj
            exact absurd ht (hr i o (by omega) ho)
          | q hq => rw [hpj] at hq;cases hq
          | f _ hq => rw [hpj] at hq;cases hq
          | s hq => rw [hpj] at hq;cases hq
      · exact tr.slotN t fun j oj h1 h2 h3 => hex ⟨j,oj,h1,h2,h3⟩
    have hexec : execOp a.eval o = execOp b.eval o := jMB (nosel i o ho) heq
    have hwant : Region.wanted o (yielded all.toArray a.tmps) = Region.wanted o (yielded all.toArray b.tmps) := jOQ heq
    have hszb : b.tmps.size = N → a.tmps.size = N := fun h => by rw [tr.size];exact h
    have hNlt : ∀ d,o.dst = some d → d < N := fun d hd => ok.lt o (List.mem_of_getElem? ho) d hd
    have tr_put : ∀ (v : Value),plan[i]? ≠ some 0 → TR all plan (fun j => S j ∨ j = i) aT (a.put o.dst v) (b.put o.dst v) := by
      intro v hnT
      have other : ∀ {x : Act} {t : Nat},o.dst ≠ some t → (x.put o.dst v).tmps[t]? = x.tmps[t]? := by
        intro x t hne
        cases hd : o.dst with
        | none => rfl
        | some d => exact jN9 (fun h => hne (by rw [hd,h]))
      refine ⟨by rw [put_defers,put_defers];exact tr.defers,by rw [jK0,jK0];exact tr.size,by rw [jK0];exact tr.szT,by rw [put_defers];exact tr.dfT,fun j oj d hpj hoj hdj hSj => ?_,fun t ht => ?_,fun t ht => ?_⟩
      · have hji : j ≠ i := by rintro rfl;exact hnT hpj
        have hne : o.dst ≠ some d := fun h => hji (ok.uniq hoj ho hdj h)
        rw [other hne,other hne]
        exact tr.slotT j oj d hpj hoj hdj (hSj.resolve_right hji)
      · by_cases hd : o.dst = some t
        · have hl : ∀ {x : Act},x.tmps.size = a.tmps.size → (x.put o.dst v).tmps[t]? = if t < a.tmps.size then some v else none := by
            intro x hx
            rw [hd,jP4]
            rw [Array.getElem?_setIfInBounds]
            simp [hx]
          rw [hl rfl,hl tr.size.symm]
        · rw [other hd,other hd];exact tr.slotN t ht
      · have hne : o.dst ≠ some t := ht i o (.inr rfl) hnT ho
        rw [other hne]
        exact tr.base t fun j oj hj => ht j oj (.inl hj)
    have hsz0 : b.tmps.size = N := by rw [tr.szT,hszT]
    have jQR : ∀ {x : Act} {d : Nat} {v : Value},x.tmps.size = N → o.dst = some d → (x.put o.dst v).tmps[d]? = some v := by
      intro x d v hx hd
      rw [hd];exact put_eq (by rw [hx];exact hNlt d hd)
    have other : ∀ {x : Act} {t : Nat} {v : Value},o.dst ≠ some t → (x.put o.dst v).tmps[t]? = x.tmps[t]? := by
      intro x t v hne
      cases hd : o.dst with
      | none => rfl
      | some d => exact jN9 (fun h => hne (by rw [hd,h]))
    unfold wpOpIn
    simp only [List.getElem?_toArray,ho]
    obtain ⟨rem,f,e1,r1, β1, σ1, Φ1,n1,D,hrem,hDs,hDa,hF1,hv1,s1,hgd1⟩ := hph
    rcases h04 i hil with hq | hq
    · -- it touches no memory
      cases hpl i o ho hq with
      | q hq' => rw [hq] at hq';cases hq'
      | f _ hq' => rw [hq] at hq';cases hq'
      | s hq' => rw [hq] at hq';cases hq'
      | t d hq hfl hg hd hr hw =>
        have hw1 : Region.wanted o (yielded all.toArray a.tmps) = true := by simp [Region.wanted,hg]
        rw [if_pos hw1]
        have hbT : ∀ t ∈ o.looksAt all.toArray,b.tmps[t]? = aT.tmps[t]? := by
          intro t ht
          refine tr.base t fun j oj hSj hnT hoj hdj => ?_
          obtain ⟨_,h2⟩ := ahead j oj t hoj hdj ht
          rcases Nat.lt_trichotomy j i with hji | hji | hji
          · have hop : Operand.tmp t ∈ o.op.operands.toList := by
              unfold Oper.looksAt at ht
              rw [hg,List.append_nil,List.mem_filterMap] at ht
              obtain ⟨y,hy,hyt⟩ := ht
              cases y <;> simp at hyt
              subst hyt;exact hy
            exact hw j oj t hji hnT hoj hdj hop
          · subst hji;exact hnS hSj
          · exact h2 hji hSj
        have hexT : execOp b.eval o = execOp aT.eval o := jMB (nosel i o ho) hbT
        obtain ⟨v,hv,hrun⟩ := hTI i o d hil hq ho hd
        refine (OpTo.val v w (R := fun v' w' => v' = v ∧ w' = w) (by rw [hexec,hexT];exact hrun w) ⟨rfl,rfl⟩).wpIn (jPA hfl) ?_
        rintro v' w' ⟨rfl,rfl⟩
        have hnTd : ∀ (j : Nat) (oj : Oper),plan[j]? ≠ some 0 → all[j]? = some oj → oj.dst ≠ some d := fun j oj h1 h2 h3 => by
          have := ok.uniq h2 ho h3 hd
          subst this;exact h1 hq
        refine ⟨b,⟨by rw [put_defers];exact tr.defers,by rw [jK0];exact tr.size,tr.szT,tr.dfT,fun j oj d' hpj hoj hdj hSj => ?_,fun t ht => ?_,fun t ht => ?_⟩,rem,f,e1,r1, β1, σ1, Φ1,n1,d :: D,fun j => ?_,fun d' hd' => ?_,fun j oj d' hSj hoj hdj => ?_,hF1,hv1,s1,hgd1.mono (fun x hx => List.mem_cons_of_mem _ hx)⟩
        · by_cases hji : j = i
          · subst hji
            rw [ho] at hoj;cases hoj
            rw [jQR (hszb hsz0) hdj]
            rw [hd] at hdj;cases hdj
            rw [tr.base d (fun j oj _ h1 h2 => hnTd j oj h1 h2)]
            exact hv.symm
          · have hne : o.dst ≠ some d' := fun h => hji (ok.uniq hoj ho hdj h)
            rw [other hne]
            exact tr.slotT j oj d' hpj hoj hdj (hSj.resolve_right hji)
        · rw [other (ht i o hq ho)];exact tr.slotN t ht
        · exact tr.base t fun j oj hj => ht j oj (.inl hj)
        · rw [hrem j]
          constructor
          · rintro ⟨g1,g2⟩
            refine ⟨g1,fun h => ?_⟩
            rcases h with h | rfl
            · exact g2 h
            · rw [hq] at g1;cases g1
          · rintro ⟨g1,g2⟩;exact ⟨g1,fun h => g2 (.inl h)⟩
        · cases hd' with
          | head => exact ⟨i,o,.inr rfl,ho,hd⟩
          | tail _ hd' => obtain ⟨j,oj,g1,g2⟩ := hDs d' hd';exact ⟨j,oj,.inl g1,g2⟩
        · rcases hSj with h | rfl
          · exact List.mem_cons_of_mem _ (hDa j oj d' h hoj hdj)
          · rw [ho] at hoj;cases hoj
            rw [hd] at hdj;cases hdj
            simp
    · -- one of those whose order is drawn
      have hnT : plan[i]? ≠ some 0 := by rw [hq];simp
      have him : i ∈ rem := (hrem i).2 ⟨hq,hnS⟩
      have hrdy : jT0 all tab rem i = true := by
        have hn : ∀ j ∈ rem,j ≠ i → j ∉ jQ9 all (all.length * all.length + all.length + 2) [i] [] := ?_
        · rcases h64 with h64 | h64
          · rw [h64];exact jRB hn
          · refine jaT htab (fun j hj => ?_) hn
            obtain ⟨g1,_⟩ := (hrem j).1 hj
            have := jKM g1
            omega
        intro j hj hji hm
        have := jO2 (all := all) (Q := fun x => S x ∨ x = i) (fun x ox hx hox ed hed hb => by
          rcases hx with hx | rfl
          · exact .inl (hcl x ox hx (by simpa using hox) ed hed hb)
          · rw [ho] at hox;cases hox
            exact .inl (hdep ed hed hb)) _ [i] [] (fun x hx => by simp at hx;exact .inr hx) (fun x hx => by cases hx) j hm
        rcases this with h | h
        · exact ((hrem j).1 hj).2 h
        · exact hji h
      obtain ⟨f',hv⟩ : ∃ f',jOK B all [o] σ1 Φ1 n1 fun σ Φ n => vcE B all tab K f' (jWJ i rem) σ Φ n := by
        cases f with
        | zero => exact hv1.elim
        | succ f =>
          cases rem with
          | nil => cases him
          | cons x rr =>
            have := jXV hv1 i him hrdy
            rw [jNN,ho] at this
            exact ⟨f,this⟩
      obtain ⟨hnd,hop1,hop2⟩ := jRJ (all := all) (N := N) (o := o) (rest := []) (D := D) (D' := (match o.dst with | some d => [d] | none => []) ++ D) (K := fun σ Φ n => vcE B all tab K f' (jWJ i rem) σ Φ n) hY (fun d hd => ⟨fun hm => by
          obtain ⟨j,oj,g1,g2,g3⟩ := hDs d hm
          have := ok.uniq g2 ho g3 hd
          subst this;exact hnS g1,hNlt d hd⟩) (fun d hd => List.mem_append_right _ hd) (fun j wv s h1 h2 => by
          obtain ⟨o',k1,k2⟩ := jLS h2
          have hlt := ok.before i o ho _ _ h1
          have hSj : S j := (ahead j o' s k1 k2 (jMO h1 h2)).1 hlt
          exact hDa j o' s hSj k1 k2) ⟨e1,r1, β1, σ1, Φ1,n1,hF1,hv,s1,hgd1⟩
      have next : ∀ {v w'},jQL B F N all ((match o.dst with | some d => [d] | none => []) ++ D) [] (fun σ Φ n => vcE B all tab K f' (jWJ i rem) σ Φ n) (b.put o.dst v) w' → DE B F N all plan tab aT K (fun j => S j ∨ j = i) (a.put o.dst v) w' := by
        rintro v w' ⟨e2,r2, β2, σ2, Φ2,n2,q1,q2,q3,q4⟩
        refine ⟨_,tr_put v hnT,jWJ i rem,f',e2,r2, β2, σ2, Φ2,n2,_,fun j => ?_,fun d hd => ?_,fun j oj d hSj hoj hdj => ?_,q1,q2,q3,q4⟩
        · rw [jXH,hrem j]
          constructor
          · rintro ⟨⟨g1,g2⟩,g3⟩;exact ⟨g1,fun h => h.elim g2 g3⟩
          · rintro ⟨g1,g2⟩;exact ⟨⟨g1,fun h => g2 (.inl h)⟩,fun h => g2 (.inr h)⟩
        · rcases List.mem_append.1 hd with hd | hd
          · cases hod : o.dst with
            | none => rw [hod] at hd;cases hd
            | some d' =>
              rw [hod] at hd
              simp at hd;subst hd
              exact ⟨i,o,.inr rfl,ho,hod⟩
          · obtain ⟨j,oj,g1,g2⟩ := hDs d hd;exact ⟨j,oj,.inl g1,g2⟩
        · rcases hSj with h | rfl
          · exact List.mem_append_right _ (hDa j oj d h hoj hdj)
          · rw [ho] at hoj;cases hoj
            rw [hdj];simp
      cases hw : Region.wanted o (yielded all.toArray b.tmps) with
      | true =>
        rw [hwant,hw,if_pos rfl]
        exact (OpTo.same hexec (hop1 hw)).wpIn hnd fun v w' h => next h
      | false =>
        rw [hwant,hw,if_neg (by simp)]
        exact ⟨fun _ _ => trivial,next (hop2 hw)⟩
  · -- the end
    intro S a w hall hI
    obtain ⟨b,tr,rem,f,e1,r1, β1, σ1, Φ1,n1,D,hrem,hDs,hDa,hF1,hv1,s1,hgd1⟩ := hI
    have hall' : ∀ (i : Nat),i < all.length → S i := fun i hi => hall i (by simpa using hi)
    have hab : a = b := by
      have ht : a.tmps = b.tmps := by
        apply Array.ext_getElem?
        intro t
        by_cases hex : ∃ (j : Nat) (oj : Oper),plan[j]? = some 0 ∧ all[j]? = some oj ∧ oj.dst = some t
        · obtain ⟨j,oj,h1,h2,h3⟩ := hex
          exact tr.slotT j oj t h1 h2 h3 (hall' j (jKM h2))
        · exact tr.slotN t fun j oj h1 h2 h3 => hex ⟨j,oj,h1,h2,h3⟩
      cases a;cases b
      have hd := tr.defers
      simp only at ht hd
      subst ht;subst hd;rfl
    subst hab
    have hr0 : rem = [] := by
      cases hr : rem with
      | nil => rfl
      | cons x rr =>
        obtain ⟨g1,g2⟩ := (hrem x).1 (by rw [hr];simp)
        exact absurd (hall' x (by have := jKM g1;omega)) g2
    subst hr0
    cases f with
    | zero => exact hv1.elim
    | succ f => exact hQ _ _ _ _ _ _ _ _ hF1 hv1 s1
  · -- the beginning
    intro S hS
    have hw : ({ w00 with drawn := w00.drawn + 1 } : World) = w0 := hw0.symm
    rw [hw]
    refine ⟨aT,⟨hdfT.symm,by rw [hszT,s0.size],rfl,rfl,fun i o d _ _ _ h => absurd h (hS i),fun t ht => ?_,fun t _ => rfl⟩,jU5 0 plan,_,e,r, β, σT, Φ,n,[],fun i => ?_,fun d hd => (by cases hd),fun j oj d h => absurd h (hS j),hF,h,?_,hngT.gdIn _⟩
    · exact ((hbaseT t fun j oj _ h1 h2 => ht j oj h1 h2).1).symm
    · rw [jaK]
      constructor
      · rintro ⟨j,rfl,h2⟩;exact ⟨by simpa using h2,hS _⟩
      · rintro ⟨h1,_⟩;exact ⟨i,by omega,h1⟩
    · obtain ⟨q1,q2,q3,q4,q5,q6⟩ := s0
      exact ⟨hagT,q2,q3,q4,by rw [hdfT];exact q5,hszT⟩
end Go.Vc

namespace Go.Vc
set_option autoImplicit false
def unL (plan : List Nat) : List Nat := plan.map fun p => if p = 7 then 0 else p
theorem jOM {plan : List Nat} {i : Nat} : (unL plan)[i]? = some 0 ↔ plan[i]? = some 0 ∨ plan[i]? = some 7 := by
 unfold unL
 rw [List.getElem?_map]
 cases plan[i]? with
 | none => simp
 | some p =>
  simp only [Option.map_some,Option.some.injEq]
  split <;> omega
theorem jd9 {plan : List Nat} {i : Nat} : (unL plan)[i]? = some 4 ↔ plan[i]? = some 4 := by
 unfold unL
 rw [List.getElem?_map]
 cases plan[i]? with
 | none => simp
 | some p =>
  simp only [Option.map_some,Option.some.injEq]
  split <;> omega
structure LateAt (all : List Oper) (plan : List Nat) (i : Nat) (o : Oper) : Prop where
 ld : ∃ t x,o.op = .load t x
 g : o.guard = none
 d : ∃ d,o.dst = some d ∧ ∀ (j : Nat) (oj : Oper),j ≤ i → all[j]? = some oj → d ∉ oj.looksAt all.toArray
 hw : ∀ (j : Nat) (oj : Oper) (d' : Nat),plan[j]? ≠ some 0 → all[j]? = some oj → oj.dst = some d' → Operand.tmp d' ∉ o.op.operands.toList
 cl : ∃ j,plan[j]? = some 4 ∧ ∀ Q : Nat → Prop,(∀ (x : Nat) (o : Oper),Q x → all[x]? = some o → ∀ e ∈ o.after,Region.binds .any e = true → Q e.on) → Q j → Q i
theorem jZE {all : List Oper} {k : Nat} : ∀ {ps : List Nat} {j : Nat},jUY all k j ps = true → ∃ m,ps[m]? = some 4 ∧ jMV k (jQ9 all (all.length * all.length + all.length + 2) [j + m] []) = true := by
 intro ps
 induction ps with
 | nil => intro j h;cases h
 | cons p ps ih =>
  intro j h
  simp only [jUY,Bool.or_eq_true,Bool.and_eq_true] at h
  rcases h with ⟨h1,h2⟩ | h
  ·exact ⟨0,by simp;exact jKF h1,by simpa using h2⟩
  ·obtain ⟨m,h1,h2⟩ := ih h
   exact ⟨m + 1,by simpa using h1,by rw [show j + (m + 1) = j + 1 + m by omega];exact h2⟩
theorem je2 {all : List Oper} {plan : List Nat} (h : jkB all plan = true) : plan.length = all.length ∧ (∀ (i : Nat) (o : Oper),all[i]? = some o → plan[i]? = some 0 → PlanAt all plan i o) ∧
    (∀ (i : Nat) (o : Oper),all[i]? = some o → plan[i]? = some 7 → LateAt all plan i o) ∧ ∀ (i : Nat),i < all.length → plan[i]? = some 0 ∨ plan[i]? = some 4 ∨ plan[i]? = some 7 := by
  have key : ∀ (ps : List Nat) (ops : List Oper) (k : Nat),jRE all plan k ps ops = true → ps.length = ops.length ∧ ∀ (i : Nat) (o : Oper) (p : Nat),ops[i]? = some o → ps[i]? = some p →
      (match p with
       | 0 => floats o.op && ((match o.guard with | none => true | some _ => false) && ((match o.dst with | some d => jK4 all.toArray d (all.take (k + i + 1)) | none => false) && jK2 (jL3 o.op.operands.toList) (plan.take (k + i)) (all.take (k + i))))
       | 4 => true
       | 7 => isLoad o.op && ((match o.guard with | none => true | some _ => false) && ((match o.dst with | some d => jK4 all.toArray d (all.take (k + i + 1)) | none => false) && (jK2 (jL3 o.op.operands.toList) plan all && jUY all (k + i) 0 plan)))
       | _ => false) = true := by
    intro ps
    induction ps with
    | nil =>
      intro ops k h
      cases ops with
      | nil => exact ⟨rfl,fun i o p h => by simp at h⟩
      | cons => cases h
    | cons p0 ps ih =>
      intro ops k h
      cases ops with
      | nil => cases h
      | cons o0 ops =>
        simp only [jRE,Bool.and_eq_true] at h
        obtain ⟨h1,h2⟩ := h
        obtain ⟨g1,g2⟩ := ih ops (k + 1) h2
        refine ⟨by simp [g1],fun i o p ho hp => ?_⟩
        cases i with
        | zero => simp at ho hp;subst ho;subst hp;exact h1
        | succ i =>
          have := g2 i o p (by simpa using ho) (by simpa using hp)
          rw [show k + (i + 1) = k + 1 + i by omega];exact this
  obtain ⟨hl,hk⟩ := key plan all 0 h
  refine ⟨hl,fun i o ho hp => ?_,fun i o ho hp => ?_,fun i hi => ?_⟩
  · have := hk i o _ ho hp
    simp only [Nat.zero_add,Bool.and_eq_true] at this
    obtain ⟨h1,h2,h3,h4⟩ := this
    cases hd : o.dst with
    | none => rw [hd] at h3;cases h3
    | some d =>
      rw [hd] at h3
      refine .t d hp h1 ?_ hd (fun j oj hj hoj => ?_) (fun j oj d' hj hpj hoj hdj hm => ?_)
      · cases hg : o.guard with
        | none => rfl
        | some _ => rw [hg] at h2;cases h2
      · exact jLI h3 oj (List.mem_of_getElem? (i := j) (by rw [List.getElem?_take,if_pos (by omega)];exact hoj))
      · have hjl : j < plan.length := by have := jKM hp;omega
        refine hpj ?_
        have := jLO h4 j plan[j] oj d' (by rw [List.getElem?_take,if_pos hj];exact List.getElem?_eq_getElem hjl) (by rw [List.getElem?_take,if_pos hj];exact hoj) hdj (jNH.2 hm)
        rw [List.getElem?_eq_getElem hjl,this]
  · have := hk i o _ ho hp
    simp only [Nat.zero_add,Bool.and_eq_true] at this
    obtain ⟨h1,h2,h3,h4,h5⟩ := this
    cases hd : o.dst with
    | none => rw [hd] at h3;cases h3
    | some d =>
      rw [hd] at h3
      refine ⟨?_,?_,⟨d,hd,fun j oj hj hoj => jLI h3 oj (List.mem_of_getElem? (i := j) (by rw [List.getElem?_take,if_pos (by omega)];exact hoj))⟩,fun j oj d' hpj hoj hdj hm => ?_,?_⟩
      · unfold isLoad at h1
        split at h1
        · exact ⟨_,_,by assumption⟩
        · cases h1
      · cases hg : o.guard with
        | none => rfl
        | some _ => rw [hg] at h2;cases h2
      · have hjl : j < plan.length := by have := jKM hoj;omega
        refine hpj ?_
        have := jLO h4 j plan[j] oj d' (List.getElem?_eq_getElem hjl) hoj hdj (jNH.2 hm)
        rw [List.getElem?_eq_getElem hjl,this]
      · obtain ⟨m,q1,q2⟩ := jZE h5
        rw [Nat.zero_add] at q2
        exact ⟨m,q1,fun Q hQ hm => jO2 hQ _ [m] [] (fun x hx => by simp at hx;subst hx;exact hm) (fun x hx => by cases hx) i (jLL.1 q2)⟩
  · have hi' : i < plan.length := by omega
    have hp : plan[i]? = some plan[i] := List.getElem?_eq_getElem hi'
    have := hk i all[i] _ (List.getElem?_eq_getElem hi) hp
    split at this
    · rename_i he;rw [hp,he];exact .inl rfl
    · rename_i he;rw [hp,he];exact .inr (.inl rfl)
    · rename_i he;rw [hp,he];exact .inr (.inr rfl)
    · cases this
theorem jUN {P : Program} {Φ : Phi} {t x} {K : SV → Prop} (h : jf8 P Φ t x K) :
  ∃ sv,K sv ∧ jj0 sv = true ∧ ∀ r β vx w,Rel r β x vx → MemSat r β Φ w → ∃ v,Rel r β sv v ∧ (Instr.loadAt t vx).run P w = .ok v w := by
 obtain ⟨sv,hk,hr⟩ := jO9 h
 cases hd : jj0 sv with
 | false => rw [hd] at hk;exact hk.elim
 | true =>
  rw [hd] at hk
  refine ⟨sv,hk,hd,fun r β vx w hx m => ?_⟩
  obtain ⟨v,h1,h2⟩ := hr (fun _ h => h) r β vx hx w m
  exact ⟨v,h1,h2 w (Near.refl m)⟩
theorem ji6 {r β sv sv' v v'} (he : jd4 sv sv') (h : Rel r β sv v) (h' : Rel r β sv' v') : v = v' := by
 unfold jd4 at he
 split at he
 ·subst he;cases h;cases h';rfl
 ·obtain ⟨rfl,rfl⟩ := he
  cases h with
  | loc h =>
   cases h' with
   | loc h' => rw [h] at h';cases h';rfl
 ·obtain ⟨rfl,rfl⟩ := he;cases h;cases h';rfl
 ·subst he;cases h;cases h';rfl
 ·subst he;cases h;cases h';rfl
 ·cases h;cases h';rfl
 ·exact he.elim
theorem jgV {r β} : ∀ {l l' : List SV} {vs vs' : List Value},jgR l l' → jKS r β l vs → jKS r β l' vs' → vs = vs'
 | [],[],vs,vs',_,h,h' => by rw [h.nil_inv,h'.nil_inv]
 | x :: l,y :: l',vs,vs',he,h,h' => by
  obtain ⟨v,us,rfl,hv,hus⟩ := h.uncons
  obtain ⟨v',us',rfl,hv',hus'⟩ := h'.uncons
  rw [ji6 he.1 hv hv',jgV he.2 hus hus']
 | [],_ :: _,_,_,he,_,_ => he.elim
 | _ :: _,[],_,_,he,_,_ => he.elim
theorem jpC {r β sv sv' v v'} (hd : jj0 sv = true) (he : jjS sv sv') (h : Rel r β sv v) (h' : Rel r β sv' v') : v = v' := by
 unfold jjS at he
 split at he
 ·obtain ⟨cs,rfl,hc⟩ := h.aggL_inv
  obtain ⟨cs',rfl,hc'⟩ := h'.aggL_inv
  rw [jgV he hc hc']
 ·exact ji6 he h h'
theorem ji5 {P : Program} {a : Act} {dst t x ty pos after guard} {v : Value} {w : World} (h : (Instr.loadAt t (a.eval x)).run P w = .ok v w) :
  (execOp a.eval ⟨dst,.load t x,ty,pos,after,guard⟩).run P w = .ok (.value v) w := by
 simp only [execOp,Sem.run_bind,h,Result.andThen_ok,Sem.run_pure]
theorem jf0 {P : Program} : ∀ {plan : List Nat} {ops : List Oper} {σ : Env} {Φ : Phi},jR6 P plan ops σ Φ → ∀ (i : Nat) (o : Oper) (d : Nat) t x,plan[i]? = some 7 → ops[i]? = some o → o.dst = some d → o.op = .load t x →
  opK σ [] x fun x => jf8 P Φ t x fun sv => match σ.get d with | some (none,sv') => jjS sv sv' | _ => False := by
 intro plan
 induction plan with
 | nil => intro ops σ Φ _ i o d t x h;simp at h
 | cons p ps ih =>
  intro ops σ Φ h i o d t x hp ho hd hop
  cases ops with
  | nil => simp at ho
  | cons o0 ops =>
   have hrest : jR6 P ps ops σ Φ := by
    by_cases h7 : p = 7
    ·subst h7
     obtain ⟨dst,op,ty,pos,after,guard⟩ := o0
     cases dst with
     | none => exact h.elim
     | some d0 => cases op <;> first | exact h.2 | exact h.elim
    ·match p,h7,h with
     | 0,_,h => exact h
     | 1,_,h => exact h
     | 2,_,h => exact h
     | 3,_,h => exact h
     | 4,_,h => exact h
     | 5,_,h => exact h
     | 6,_,h => exact h
     | 7,h7,_ => exact absurd rfl h7
     | n + 8,_,h => exact h
   cases i with
   | succ i => exact ih hrest i o d t x (by simpa using hp) (by simpa using ho) hd hop
   | zero =>
    simp at hp ho
    subst hp;subst ho
    obtain ⟨dst,op,ty,pos,after,guard⟩ := o0
    have hd : dst = some d := hd
    have hop : op = .load t x := hop
    subst hd;subst hop
    exact h.1
theorem jfP {B : Base} {ps : List Nat} {σ : Env} {Φ : Phi} {K : Env → Prop} : jUH B ps [] σ Φ K = K σ := by
 cases ps with
 | nil => rfl
 | cons p ps =>
  match p with
  | 0 => rfl
  | 1 => rfl
  | 2 => rfl
  | 3 => rfl
  | 4 => rfl
  | 5 => rfl
  | 6 => rfl
  | 7 => rfl
  | n + 8 => rfl
theorem jX5 {B : Base} {N : Nat} {all : List Oper} {plan : List Nat} (ok : RegOk N all) {r : Mem} {β : jKW} {Φ : Phi} {w : World} (m : MemSat r β Φ w) {K : Env → Prop} :
    ∀ (l : List Oper) (k : Nat) (σ : Env) (b : Act),k + l.length = all.length → plan.length = all.length → l = all.drop k → jUH B (plan.drop k) l σ Φ K → Agree r β σ b.tmps → jN0 σ → b.tmps.size = N →
      ∃ (σL : Env) (bL : Act),K σL ∧ Agree r β σL bL.tmps ∧ jN0 σL ∧ bL.tmps.size = N ∧ bL.defers = b.defers ∧
        ∀ t,(∀ (j : Nat) (oj : Oper),k ≤ j → plan[j]? = some 7 → all[j]? = some oj → oj.dst ≠ some t) → bL.tmps[t]? = b.tmps[t]? := by
  intro l
  induction l with
  | nil =>
    intro k σ b hk hlen he h ha hng hsz
    rw [jfP] at h
    exact ⟨σ,b,h,ha,hng,hsz,rfl,fun t _ => rfl⟩
  | cons o l ih =>
    intro k σ b hk hlen he h ha hng hsz
    have hkl : k < all.length := by simp at hk;omega
    have ho : all[k]? = some o := by
      have : (all.drop k)[0]? = some o := by rw [← he];rfl
      simpa using this
    have hl : l = all.drop (k + 1) := by
      have := congrArg List.tail he
      simpa using this
    have hkp : k < plan.length := by omega
    have hp : plan[k]? = some plan[k] := List.getElem?_eq_getElem hkp
    have hpd : plan.drop k = plan[k] :: plan.drop (k + 1) := List.drop_eq_getElem_cons hkp
    rw [hpd] at h
    by_cases h7 : plan[k] = 7
    · rw [h7] at h hp
      obtain ⟨dst,op,ty,pos,after,guard⟩ := o
      have h' : ∃ t x,op = .load t x ∧ opK σ [] x fun x => jf8 B.P Φ t x fun sv => jUH B (plan.drop (k + 1)) l (jS3 dst none sv σ) Φ K := by
        cases op <;> first | exact h.elim | exact ⟨_,_,rfl,h⟩
      obtain ⟨t,x,rfl,h⟩ := h'
      obtain ⟨sx,h,hx⟩ := jKC h
      obtain ⟨sv,h,hd,hr⟩ := jUN h
      obtain ⟨v,hv,_⟩ := hr r β _ w (hx _ r β b _ (jSN _) (Sm.plain ha)) m
      have ha' : Agree r β (jS3 dst none sv σ) (b.put dst v).tmps := by
        cases dst with
        | none => exact ha
        | some d => exact ha.put (hng.gdIn []) (by simp) (by rw [hsz];exact ok.lt _ (List.mem_of_getElem? ho) d rfl) hv
      have hng' : jN0 (jS3 dst none sv σ) := by
        cases dst with
        | none => exact hng
        | some d => exact hng.put d sv
      obtain ⟨σL,bL,g1,g2,g3,g4,g5,g6⟩ := ih (k + 1) _ _ (by simp at hk ⊢;omega) hlen hl h ha' hng' (by rw [jK0];exact hsz)
      refine ⟨σL,bL,g1,g2,g3,g4,by rw [g5,put_defers],fun t ht => ?_⟩
      rw [g6 t (fun j oj hj => ht j oj (by omega))]
      cases dst with
      | none => rfl
      | some d => exact jN9 (fun he => ht k _ (Nat.le_refl k) hp ho (by rw [he]))
    · have h : jUH B (plan.drop (k + 1)) l σ Φ K := by
        generalize plan[k] = p at h h7
        match p,h7,h with
        | 0,_,h => exact h
        | 1,_,h => exact h
        | 2,_,h => exact h
        | 3,_,h => exact h
        | 4,_,h => exact h
        | 5,_,h => exact h
        | 6,_,h => exact h
        | 7,h7,_ => exact absurd rfl h7
        | n + 8,_,h => exact h
      obtain ⟨σL,bL,g1,g2,g3,g4,g5,g6⟩ := ih (k + 1) _ _ (by simp at hk ⊢;omega) hlen hl h ha hng hsz
      exact ⟨σL,bL,g1,g2,g3,g4,g5,fun t ht => g6 t (fun j oj hj => ht j oj (by omega))⟩
def DL (B : Base) (F : Entry → Prop) (N : Nat) (all : List Oper) (plan tab : List Nat) (aT : Act) (K : Env → Phi → Nat → Prop) (S : Nat → Prop) (a : Act) (w : World) : Prop :=
 ∃ b,TR all (unL plan) S aT a b ∧ ∃ (rem : List Nat) (f : Nat) (e : Entry) (r : Mem) (β : jKW) (σ : Env) (Φ : Phi) (n : Nat) (D : List Nat),
  (∀ i,i ∈ rem ↔ plan[i]? = some 4 ∧ ¬ S i) ∧ (∀ d ∈ D,∃ (j : Nat) (oj : Oper),S j ∧ all[j]? = some oj ∧ oj.dst = some d) ∧ (∀ (j : Nat) (oj : Oper) d,S j → all[j]? = some oj → oj.dst = some d → d ∈ D) ∧
  F e ∧ joU B all plan tab K f rem σ Φ n ∧ Sat B e N r β σ Φ b w ∧ jML D σ
theorem jUJ {B : Base} {F : Entry → Prop} {e : Entry} (hF : F e) {N : Nat} {all : List Oper} {plan tab : List Nat} {ro : Option Nat} {K : Env → Phi → Nat → Prop} {Q : Exit → Act → World → Prop} {id : Nat} (hY : YOk B F N) (ok : RegOk N all) (hlex : Region.lexB .any all.toArray = true) (hpk : jkB all plan = true) (htab : jZ6 all tab = true) (h64 : tab = [] ∨ all.length ≤ 64)
    (hQ : ∀ e r β σ Φ n a w,F e → K σ Φ n → Sat B e N r β σ Φ a w → Q .normal a w) {r β σ Φ n a0 w00} (h : jcC B all plan tab σ Φ n K) (s00 : Sat B e N r β σ Φ a0 w00) (hng : jN0 σ) :
    (Code.region id all.toArray true).wpIn (fc ro) 0 B.P Q a0 w00 := by
  obtain ⟨hlen,hpl,hlt,h047⟩ := je2 hpk
  have lx : LexOk .any all.toArray := jTK hlex
  have nosel : ∀ (i : Nat) (o : Oper),all[i]? = some o → ∀ cs b,o.op ≠ .select cs b := by
    intro i o ho cs b
    simp only [Region.lexB,Bool.and_eq_true] at hlex
    exact Region.noSelect_spec hlex.1 i o cs b (by simpa using ho)
  obtain ⟨w0,hw0⟩ : ∃ w0 : World,w0 = { w00 with drawn := w00.drawn + 1 } := ⟨_,rfl⟩
  have hheap : w0.heap = w00.heap := by rw [hw0]
  have s0 : Sat B e N r β σ Φ a0 w0 := by
    refine s00.step s00.agree ⟨fun b o h => by rw [hheap];exact s00.mem.vis b o h,fun id ch h => (s00.mem.chs _ _ h).keep (Mem.le_refl r) (fun b _ => by rw [hheap]) (fun _ _ _ _ _ _ _ h => h),s00.mem.sep,s00.mem.nod⟩ (Mem.le_refl r) ?_
    exact ⟨by rw [hw0],by rw [hw0],by rw [hw0],by rw [hheap];exact Nat.le_refl _,fun b _ h1 h2 => ⟨by rw [hheap],h1,h2⟩,fun _ ch h _ => ⟨rfl,ch,h,rfl⟩⟩
  unfold jcC at h
  obtain ⟨σT,aT,h,hagT,hngT,hszT,hdfT,hTI,hbaseT⟩ := jU0 (r := r) (β := β) ok hlen hpl all 0 σ a0 (by simp) (by simp) (by simpa using h) s0.agree hng s0.size (fun i o d hi => by omega)
  have getA : ∀ {i : Nat} {o : Oper},all.toArray[i]? = some o → all[i]? = some o := fun h => by simpa using h
  obtain ⟨σL,aL,h,hagL,hngL,hszL,hdfL,hbaseL⟩ := jX5 (B := B) ok (plan := plan) s0.mem all 0 σT aT (by simp) hlen (by simp) (by simpa using h) hagT hngT hszT
  have tAt : ∀ {i : Nat} {o : Oper},all[i]? = some o → (unL plan)[i]? = some 0 → o.guard = none ∧ ∃ d,o.dst = some d ∧ ∀ (j : Nat) (oj : Oper),j ≤ i → all[j]? = some oj → d ∉ oj.looksAt all.toArray := by
    intro i o ho hp
    rcases jOM.1 hp with hp | hp
    · cases hpl i o ho hp with
      | t d _ _ hg hd hr => exact ⟨hg,d,hd,hr⟩
      | q hq => rw [hp] at hq;cases hq
      | f _ hq => rw [hp] at hq;cases hq
      | s hq => rw [hp] at hq;cases hq
    · have := hlt i o ho hp
      exact ⟨this.g,this.d⟩
  have hTL : jw2 B.P all plan all.length aL := by
    intro i o d hi hp ho hd
    obtain ⟨v,hv,hrun⟩ := hTI i o d hi hp ho hd
    have hne : ∀ (j : Nat) (oj : Oper),plan[j]? = some 7 → all[j]? = some oj → oj.dst ≠ some d := fun j oj h1 h2 h3 => by
      have := ok.uniq h2 ho h3 hd
      subst this;rw [hp] at h1;cases h1
    refine ⟨v,by rw [hbaseL d fun j oj _ => hne j oj];exact hv,fun w => ?_⟩
    have hex : execOp aL.eval o = execOp aT.eval o := by
      refine jMB (A := all.toArray) (nosel i o ho) fun t ht => hbaseL t fun j oj _ hpj hoj hdj => ?_
      rcases Nat.lt_or_ge j i with hji | hji
      · cases hpl i o ho hp with
        | t d' _ _ hg _ _ hw =>
          have hop : Operand.tmp t ∈ o.op.operands.toList := by
            unfold Oper.looksAt at ht
            rw [hg,List.append_nil,List.mem_filterMap] at ht
            obtain ⟨y,hy,hyt⟩ := ht
            cases y <;> simp at hyt
            subst hyt;exact hy
          exact hw j oj t hji (by rw [hpj];simp) hoj hdj hop
        | q hq => rw [hp] at hq;cases hq
        | f _ hq => rw [hp] at hq;cases hq
        | s hq => rw [hp] at hq;cases hq
      · obtain ⟨d2,hd2,hr2⟩ := (hlt j oj hoj hpj).d
        rw [hd2] at hdj;cases hdj
        exact hr2 i o hji ho ht
    rw [hex];exact hrun w
  refine jME (I := DL B F N all plan tab aL K) (ops := all.toArray) lx B.mixed ?_ ?_ ?_
  · -- one operation
    intro S i o a w hSlt hcl ho hnS hdep hI
    have ho : all[i]? = some o := getA ho
    have hil := jKM ho
    obtain ⟨b,tr,hph⟩ := hI
    have ahead : ∀ (j : Nat) (oj : Oper) (t : Nat),all[j]? = some oj → oj.dst = some t → t ∈ o.looksAt all.toArray → (j < i → S j) ∧ (i < j → ¬ S j) := by
      intro j oj t hoj hdj hm
      refine ⟨fun hji => ?_,fun hij hSj => ?_⟩
      · rcases lx.apart j i oj o (by simpa using hoj) (by simpa using ho) hji with ⟨ed,he,hb,heq⟩ | hap
        · have := hdep ed he hb;rw [heq] at this;exact this
        · exact absurd hm ((Oper.apart_spec hap).1 t hdj)
      · rcases lx.apart i j o oj (by simpa using ho) (by simpa using hoj) hij with ⟨ed,he,hb,heq⟩ | hap
        · have := hcl j oj hSj (by simpa using hoj) ed he hb
          rw [heq] at this;exact hnS this
        · exact (Oper.apart_spec hap).2.2 t hdj hm
    have heq : ∀ t ∈ o.looksAt all.toArray,a.tmps[t]? = b.tmps[t]? := by
      intro t ht
      by_cases hex : ∃ (j : Nat) (oj : Oper),(unL plan)[j]? = some 0 ∧ all[j]? = some oj ∧ oj.dst = some t
      · obtain ⟨j,oj,hpj,hoj,hdj⟩ := hex
        obtain ⟨h1,h2⟩ := ahead j oj t hoj hdj ht
        refine tr.slotT j oj t hpj hoj hdj ?_
        obtain ⟨_,d,hd,hr⟩ := tAt hoj hpj
        rw [hd] at hdj;cases hdj
        rcases Nat.lt_trichotomy j i with hji | hji | hji
        · exact h1 hji
        · subst hji
          rw [ho] at hoj;cases hoj
          exact absurd ht (hr j o (Nat.le_refl j) ho)
        · exact absurd ht (hr i o (by omega) ho)
      · exact tr.slotN t fun j oj h1 h2 h3 => hex ⟨j,oj,h1,h2,h3⟩
    have hexec : execOp a.eval o = execOp b.eval o := jMB (nosel i o ho) heq
    have hwant : Region.wanted o (yielded all.toArray a.tmps) = Region.wanted o (yielded all.toArray b.tmps) := jOQ heq
    have hszb : b.tmps.size = N → a.tmps.size = N := fun h => by rw [tr.size];exact h
    have hNlt : ∀ d,o.dst = some d → d < N := fun d hd => ok.lt o (List.mem_of_getElem? ho) d hd
    have tr_put : ∀ (v : Value),(unL plan)[i]? ≠ some 0 → TR all (unL plan) (fun j => S j ∨ j = i) aL (a.put o.dst v) (b.put o.dst v) := by
      intro v hnT
      have other : ∀ {x : Act} {t : Nat},o.dst ≠ some t → (x.put o.dst v).tmps[t]? = x.tmps[t]? := by
        intro x t hne
        cases hd : o.dst with
        | none => rfl
        | some d => exact jN9 (fun h => hne (by rw [hd,h]))
      refine ⟨by rw [put_defers,put_defers];exact tr.defers,by rw [jK0,jK0];exact tr.size,by rw [jK0];exact tr.szT,by rw [put_defers];exact tr.dfT,fun j oj d hpj hoj hdj hSj => ?_,fun t ht => ?_,fun t ht => ?_⟩
      · have hji : j ≠ i := by rintro rfl;exact hnT hpj
        have hne : o.dst ≠ some d := fun h => hji (ok.uniq hoj ho hdj h)
        rw [other hne,other hne]
        exact tr.slotT j oj d hpj hoj hdj (hSj.resolve_right hji)
      · by_cases hd : o.dst = some t
        · have hl : ∀ {x : Act},x.tmps.size = a.tmps.size → (x.put o.dst v).tmps[t]? = if t < a.tmps.size then some v else none := by
            intro x hx
            rw [hd,jP4]
            rw [Array.getElem?_setIfInBounds]
            simp [hx]
          rw [hl rfl,hl tr.size.symm]
        · rw [other hd,other hd];exact tr.slotN t ht
      · have hne : o.dst ≠ some t := ht i o (.inr rfl) hnT ho
        rw [other hne]
        exact tr.base t fun j oj hj => ht j oj (.inl hj)
    have hsz0 : b.tmps.size = N := by rw [tr.szT,hszL]
    have jQR : ∀ {x : Act} {d : Nat} {v : Value},x.tmps.size = N → o.dst = some d → (x.put o.dst v).tmps[d]? = some v := by
      intro x d v hx hd
      rw [hd];exact put_eq (by rw [hx];exact hNlt d hd)
    have other : ∀ {x : Act} {t : Nat} {v : Value},o.dst ≠ some t → (x.put o.dst v).tmps[t]? = x.tmps[t]? := by
      intro x t v hne
      cases hd : o.dst with
      | none => rfl
      | some d => exact jN9 (fun h => hne (by rw [hd,h]))
    unfold wpOpIn
    simp only [List.getElem?_toArray,ho]
    obtain ⟨rem,f,e1,r1, β1, σ1, Φ1,n1,D,hrem,hDs,hDa,hF1,hv1,s1,hgd1⟩ := hph
    have h04 : (unL plan)[i]? = some 0 ∨ plan[i]? = some 4 := by
      rcases h047 i hil with h | h | h
      · exact .inl (jOM.2 (.inl h))
      · exact .inr h
      · exact .inl (jOM.2 (.inr h))
    rcases h04 with hq | hq
    · -- its slot is filled
      obtain ⟨hg,d,hd,hr⟩ := tAt ho hq
      have hw1 : Region.wanted o (yielded all.toArray a.tmps) = true := by simp [Region.wanted,hg]
      rw [if_pos hw1]
      have hnTd : ∀ (j : Nat) (oj : Oper),(unL plan)[j]? ≠ some 0 → all[j]? = some oj → oj.dst ≠ some d := fun j oj h1 h2 h3 => by
        have := ok.uniq h2 ho h3 hd
        subst this;exact h1 hq
      have hrunv : (∀ c,o.op ≠ .defer c) ∧ ∃ v,b.tmps[d]? = some v ∧ (execOp a.eval o).run B.P w = .ok (.value v) w := by
        rcases jOM.1 hq with hq0 | hq7
        · cases hpl i o ho hq0 with
          | q hq' => rw [hq0] at hq';cases hq'
          | f _ hq' => rw [hq0] at hq';cases hq'
          | s hq' => rw [hq0] at hq';cases hq'
          | t d' _ hfl _ hd' _ hw =>
            refine ⟨jPA hfl,?_⟩
            have hbT : ∀ t ∈ o.looksAt all.toArray,b.tmps[t]? = aL.tmps[t]? := by
              intro t ht
              refine tr.base t fun j oj hSj hnT hoj hdj => ?_
              obtain ⟨_,h2⟩ := ahead j oj t hoj hdj ht
              rcases Nat.lt_trichotomy j i with hji | hji | hji
              · have hop : Operand.tmp t ∈ o.op.operands.toList := by
                  unfold Oper.looksAt at ht
                  rw [hg,List.append_nil,List.mem_filterMap] at ht
                  obtain ⟨y,hy,hyt⟩ := ht
                  cases y <;> simp at hyt
                  subst hyt;exact hy
                exact hw j oj t hji (fun h => hnT (jOM.2 (.inl h))) hoj hdj hop
              · subst hji;exact hnS hSj
              · exact h2 hji hSj
            have hexT : execOp b.eval o = execOp aL.eval o := jMB (nosel i o ho) hbT
            obtain ⟨v,hv,hrun⟩ := hTL i o d hil hq0 ho hd
            exact ⟨v,by rw [tr.base d (fun j oj _ h1 h2 => hnTd j oj h1 h2)];exact hv,by rw [hexec,hexT];exact hrun w⟩
        · have la := hlt i o ho hq7
          obtain ⟨t,x,hop⟩ := la.ld
          refine ⟨(fun c hc => by rw [hop] at hc;cases hc),?_⟩
          obtain ⟨j4,hj4,hcj⟩ := la.cl
          have hnj : ¬ S j4 := fun hSj => hnS (hcj S (fun y oy hy hoy ed hed hb => hcl y oy hy (by simpa using hoy) ed hed hb) hSj)
          have hjr : j4 ∈ rem := (hrem j4).2 ⟨hj4,hnj⟩
          have hchk : jR6 B.P plan all σ1 Φ1 := by
            cases f with
            | zero => exact hv1.elim
            | succ f =>
              cases rem with
              | nil => cases hjr
              | cons y rr => exact hv1.1
          have hc := jf0 hchk i o d t x hq7 ho hd hop
          obtain ⟨sx,hc,hx⟩ := jKC hc
          obtain ⟨sv,hc,hdet,hl⟩ := jUN hc
          obtain ⟨v,hv,hrun⟩ := hl r1 β1 _ w (hx _ r1 β1 b _ (jSN _) (Sm.plain s1.agree)) s1.mem
          split at hc
          · rename_i sv' hgd
            obtain ⟨u,hu,hru⟩ := s1.agree d none sv' hgd
            have huv := jpC hdet hc hv hru
            subst huv
            refine ⟨v,hu,?_⟩
            rw [hexec]
            obtain ⟨dst,op,ty,pos,after,guard⟩ := o
            have hop : op = .load t x := hop
            subst hop
            exact ji5 hrun
          · exact hc.elim
      obtain ⟨hndf,v,hv,hrun⟩ := hrunv
      refine (OpTo.val v w (R := fun v' w' => v' = v ∧ w' = w) hrun ⟨rfl,rfl⟩).wpIn hndf ?_
      rintro v' w' ⟨rfl,rfl⟩
      refine ⟨b,⟨by rw [put_defers];exact tr.defers,by rw [jK0];exact tr.size,tr.szT,tr.dfT,fun j oj d' hpj hoj hdj hSj => ?_,fun t ht => ?_,fun t ht => ?_⟩,rem,f,e1,r1, β1, σ1, Φ1,n1,d :: D,fun j => ?_,fun d' hd' => ?_,fun j oj d' hSj hoj hdj => ?_,hF1,hv1,s1,hgd1.mono (fun x hx => List.mem_cons_of_mem _ hx)⟩
      · by_cases hji : j = i
        · subst hji
          rw [ho] at hoj;cases hoj
          rw [jQR (hszb hsz0) hdj]
          rw [hd] at hdj;cases hdj
          exact hv.symm
        · have hne : o.dst ≠ some d' := fun h => hji (ok.uniq hoj ho hdj h)
          rw [other hne]
          exact tr.slotT j oj d' hpj hoj hdj (hSj.resolve_right hji)
      · rw [other (ht i o hq ho)];exact tr.slotN t ht
      · exact tr.base t fun j oj hj => ht j oj (.inl hj)
      · rw [hrem j]
        constructor
        · rintro ⟨g1,g2⟩
          refine ⟨g1,fun h => ?_⟩
          rcases h with h | rfl
          · exact g2 h
          · rw [jd9.2 g1] at hq;cases hq
        · rintro ⟨g1,g2⟩;exact ⟨g1,fun h => g2 (.inl h)⟩
      · cases hd' with
        | head => exact ⟨i,o,.inr rfl,ho,hd⟩
        | tail _ hd' => obtain ⟨j,oj,g1,g2⟩ := hDs d' hd';exact ⟨j,oj,.inl g1,g2⟩
      · rcases hSj with h | rfl
        · exact List.mem_cons_of_mem _ (hDa j oj d' h hoj hdj)
        · rw [ho] at hoj;cases hoj
          rw [hd] at hdj;cases hdj
          simp
    · -- one of those whose order is drawn
      have hnT : (unL plan)[i]? ≠ some 0 := by rw [jd9.2 hq];simp
      have him : i ∈ rem := (hrem i).2 ⟨hq,hnS⟩
      have hrdy : jT0 all tab rem i = true := by
        have hn : ∀ j ∈ rem,j ≠ i → j ∉ jQ9 all (all.length * all.length + all.length + 2) [i] [] := ?_
        · rcases h64 with h64 | h64
          · rw [h64];exact jRB hn
          · refine jaT htab (fun j hj => ?_) hn
            obtain ⟨g1,_⟩ := (hrem j).1 hj
            have := jKM g1
            omega
        intro j hj hji hm
        have := jO2 (all := all) (Q := fun x => S x ∨ x = i) (fun x ox hx hox ed hed hb => by
          rcases hx with hx | rfl
          · exact .inl (hcl x ox hx (by simpa using hox) ed hed hb)
          · rw [ho] at hox;cases hox
            exact .inl (hdep ed hed hb)) _ [i] [] (fun x hx => by simp at hx;exact .inr hx) (fun x hx => by cases hx) j hm
        rcases this with h | h
        · exact ((hrem j).1 hj).2 h
        · exact hji h
      obtain ⟨f',hv⟩ : ∃ f',jOK B all [o] σ1 Φ1 n1 fun σ Φ n => joU B all plan tab K f' (jWJ i rem) σ Φ n := by
        cases f with
        | zero => exact hv1.elim
        | succ f =>
          cases rem with
          | nil => cases him
          | cons x rr =>
            have := jXV hv1.2 i him hrdy
            rw [jNN,ho] at this
            exact ⟨f,this⟩
      obtain ⟨hnd,hop1,hop2⟩ := jRJ (all := all) (N := N) (o := o) (rest := []) (D := D) (D' := (match o.dst with | some d => [d] | none => []) ++ D) (K := fun σ Φ n => joU B all plan tab K f' (jWJ i rem) σ Φ n) hY (fun d hd => ⟨fun hm => by
          obtain ⟨j,oj,g1,g2,g3⟩ := hDs d hm
          have := ok.uniq g2 ho g3 hd
          subst this;exact hnS g1,hNlt d hd⟩) (fun d hd => List.mem_append_right _ hd) (fun j wv s h1 h2 => by
          obtain ⟨o',k1,k2⟩ := jLS h2
          have hlt := ok.before i o ho _ _ h1
          have hSj : S j := (ahead j o' s k1 k2 (jMO h1 h2)).1 hlt
          exact hDa j o' s hSj k1 k2) ⟨e1,r1, β1, σ1, Φ1,n1,hF1,hv,s1,hgd1⟩
      have next : ∀ {v w'},jQL B F N all ((match o.dst with | some d => [d] | none => []) ++ D) [] (fun σ Φ n => joU B all plan tab K f' (jWJ i rem) σ Φ n) (b.put o.dst v) w' → DL B F N all plan tab aL K (fun j => S j ∨ j = i) (a.put o.dst v) w' := by
        rintro v w' ⟨e2,r2, β2, σ2, Φ2,n2,q1,q2,q3,q4⟩
        refine ⟨_,tr_put v hnT,jWJ i rem,f',e2,r2, β2, σ2, Φ2,n2,_,fun j => ?_,fun d hd => ?_,fun j oj d hSj hoj hdj => ?_,q1,q2,q3,q4⟩
        · rw [jXH,hrem j]
          constructor
          · rintro ⟨⟨g1,g2⟩,g3⟩;exact ⟨g1,fun h => h.elim g2 g3⟩
          · rintro ⟨g1,g2⟩;exact ⟨⟨g1,fun h => g2 (.inl h)⟩,fun h => g2 (.inr h)⟩
        · rcases List.mem_append.1 hd with hd | hd
          · cases hod : o.dst with
            | none => rw [hod] at hd;cases hd
            | some d' =>
              rw [hod] at hd
              simp at hd;subst hd
              exact ⟨i,o,.inr rfl,ho,hod⟩
          · obtain ⟨j,oj,g1,g2⟩ := hDs d hd;exact ⟨j,oj,.inl g1,g2⟩
        · rcases hSj with h | rfl
          · exact List.mem_append_right _ (hDa j oj d h hoj hdj)
          · rw [ho] at hoj;cases hoj
            rw [hdj];simp
      cases hw : Region.wanted o (yielded all.toArray b.tmps) with
      | true =>
        rw [hwant,hw,if_pos rfl]
        exact (OpTo.same hexec (hop1 hw)).wpIn hnd fun v w' h => next h
      | false =>
        rw [hwant,hw,if_neg (by simp)]
        exact ⟨fun _ _ => trivial,next (hop2 hw)⟩
  · -- the end
    intro S a w hall hI
    obtain ⟨b,tr,rem,f,e1,r1, β1, σ1, Φ1,n1,D,hrem,hDs,hDa,hF1,hv1,s1,hgd1⟩ := hI
    have hall' : ∀ (i : Nat),i < all.length → S i := fun i hi => hall i (by simpa using hi)
    have hab : a = b := by
      have ht : a.tmps = b.tmps := by
        apply Array.ext_getElem?
        intro t
        by_cases hex : ∃ (j : Nat) (oj : Oper),(unL plan)[j]? = some 0 ∧ all[j]? = some oj ∧ oj.dst = some t
        · obtain ⟨j,oj,h1,h2,h3⟩ := hex
          exact tr.slotT j oj t h1 h2 h3 (hall' j (jKM h2))
        · exact tr.slotN t fun j oj h1 h2 h3 => hex ⟨j,oj,h1,h2,h3⟩
      cases a;cases b
      have hd := tr.defers
      simp only at ht hd
      subst ht;subst hd;rfl
    subst hab
    have hr0 : rem = [] := by
      cases hr : rem with
      | nil => rfl
      | cons x rr =>
        obtain ⟨g1,g2⟩ := (hrem x).1 (by rw [hr];simp)
        exact absurd (hall' x (by have := jKM g1;omega)) g2
    subst hr0
    cases f with
    | zero => exact hv1.elim
    | succ f => exact hQ _ _ _ _ _ _ _ _ hF1 hv1 s1
  · -- the beginning
    intro S hS
    have hw : ({ w00 with drawn := w00.drawn + 1 } : World) = w0 := hw0.symm
    rw [hw]
    refine ⟨aL,⟨by rw [hdfL];exact hdfT.symm,by rw [hszL,s0.size],rfl,rfl,fun i o d _ _ _ h => absurd h (hS i),fun t ht => ?_,fun t _ => rfl⟩,jU5 0 plan,_,e,r, β, σL, Φ,n,[],fun i => ?_,fun d hd => (by cases hd),fun j oj d h => absurd h (hS j),hF,h,?_,hngL.gdIn _⟩
    · rw [hbaseL t fun j oj _ h1 h2 => ht j oj (jOM.2 (.inr h1)) h2]
      exact ((hbaseT t fun j oj _ h1 h2 => ht j oj (jOM.2 (.inl h1)) h2).1).symm
    · rw [jaK]
      constructor
      · rintro ⟨j,rfl,h2⟩;exact ⟨by simpa using h2,hS _⟩
      · rintro ⟨h1,_⟩;exact ⟨i,by omega,h1⟩
    · obtain ⟨q1,q2,q3,q4,q5,q6⟩ := s0
      exact ⟨hagL,q2,q3,q4,by rw [hdfL,hdfT];exact q5,hszL⟩
end Go.Vc

namespace Go.Vc
set_option autoImplicit false
open Classical in
noncomputable def frx (q : Nat → Bool) (r : Mem) (β : jKW) (Φ : Phi) (w : World) : Mem := fun b =>
 if ∃ id ch,q id = true ∧ Phi.get Φ id = some ch ∧ (ch.kind = 0 ∨ ch.kind = 1 ∨ ch.kind = 6) ∧ ch.hb (β id) b then w.heap[b]? else r b
theorem jSP {q r β Φ w} (m : MemSat r β Φ w) : Mem.le r (frx q r β Φ w) := by
 intro b o h
 unfold frx
 rw [if_neg]
 ·exact h
 ·rintro ⟨id,ch,_,h1,_,h3⟩
  rw [m.sep _ _ _ h1 h3] at h
  cases h
theorem jd3 {q r β Φ w id ch b} (hq : q id = true) (h1 : Phi.get Φ id = some ch) (h2 : ch.kind = 0 ∨ ch.kind = 1 ∨ ch.kind = 6) (h3 : ch.hb (β id) b) : frx q r β Φ w b = w.heap[b]? := by
 unfold frx
 rw [if_pos ⟨id,ch,hq,h1,h2,h3⟩]
theorem jhX {q r β Φ w b} (h : ∀ id ch,q id = true → Phi.get Φ id = some ch → (ch.kind = 0 ∨ ch.kind = 1 ∨ ch.kind = 6) → ¬ ch.hb (β id) b) : frx q r β Φ w b = r b := by
 unfold frx
 rw [if_neg]
 rintro ⟨id,ch,h0,h1,h2,h3⟩
 exact h id ch h0 h1 h2 h3
theorem jm0 {q r β Φ w} (m : MemSat r β Φ w) (b o) (h : frx q r β Φ w b = some o) : w.heap[b]? = some o := by
 unfold frx at h
 split at h
 ·exact h
 ·exact m.vis b o h
theorem jnV {q r β Φ w id} {τ : Ty} {l : List τ.T} (m : MemSat r β Φ w) (hq : q id = true) (hg : Phi.get Φ id = some (.own τ l)) (β' : jKW) : Rel (frx q r β Φ w) β' (.rd τ l) (hd (β id)) := by
 have hs := m.rows hg
 cases hs with
 | own hs => rw [hs.hd];exact .rd (jO5 (jSP m) hs (fun b off n cap he hc => jd3 hq hg (.inl rfl) (jO6 he hc)) β')
theorem jtX {q r β Φ w id} {τ : Ty} {l : List τ.T} (m : MemSat r β Φ w) (hq : q id = true) (hg : Phi.get Φ id = some (.ow τ l)) (β' : jKW) : Rel (frx q r β Φ w) β' (.rd τ l) (hd (β id)) := by
 have hs := m.rows hg
 cases hs with
 | ow hs => rw [hs.hd];exact .rd (jO5 (jSP m) hs (fun b off n cap he hc => jd3 hq hg (.inr (.inr rfl)) (jd8 he hc)) β')
theorem jjU {r r' : Mem} (hle : r.le r') {β w x} {τ : Ty} {p : Nat} {l : List τ.T} (h : (Chunk.nst τ p l none).Sat r β w x) (hb : ∀ b,kGT x b → r' b = w.heap[b]?) (β' : jKW) : Rel r' β' (.rd τ l) (hd x) := by
 cases h with
 | nst hx hl gl hm hg ho hk h0 h1 =>
  rename_i m hs gs
  subst hx
  rw [jNJ]
  have hrl := jLZ (τ := τ) (p := p) gl
  rcases hm with ⟨a,rfl,he⟩ | ⟨b,off,cap,c,T,fr,he,hc0,hw,_,k1,k2,k3,k4,k5,k6⟩
  ·rw [he] at hrl
   have : l = [] := List.length_eq_zero_iff.1 (by simpa using hrl.symm)
   subst this
   exact .rd .litsE
  ·rw [hrl] at he k2
   rw [he]
   have hbm : r' b = w.heap[b]? := hb b ⟨_,_,rfl,.inl (by rw [he];simp only [jKR,jKL hc0];rfl)⟩
   refine .rd ?_
   have key : Rel r' β' (.lits τ.size (l.map τ.enc)) (.slice (some ⟨b,off,none⟩) (l.map τ.enc).length cap) := by
    refine .lits (by rw [hbm];exact hw) (by simp;omega) (by simpa using k2) (fun i row hi => ?_) (fun i row j sv hi hj => ?_) ?_ (fun i row j sv v hi hj hv => ?_)
    ·rw [List.getElem?_map] at hi
     cases hq : l[i]? with
     | none => rw [hq] at hi;cases hi
     | some a => rw [hq] at hi;cases hi;exact enc_len _ _
    ·rw [List.getElem?_map] at hi
     cases hq : l[i]? with
     | none => rw [hq] at hi;cases hi
     | some a => rw [hq] at hi;cases hi;exact enc_one _ _ _ _ hj
    ·have := Nat.mul_le_mul_right τ.size k2
     simp;omega
    ·rw [List.getElem?_map] at hi
     cases hq : l[i]? with
     | none => rw [hq] at hi;cases hi
     | some a =>
      rw [hq] at hi;cases hi
      have hil := jLF hq
      have hgi : gs[i]? = some gs[i] := List.getElem?_eq_getElem (by omega)
      have hra := jQX (p := p) i _ _ hq hgi
      by_cases hpj : p = j
      ·subst hpj
       have hpl := jLF hj
       have hv' := k6 i _ p (.v gs[i]) v hra (by unfold jP5;rw [List.getElem?_set,if_pos rfl,if_pos hpl]) hv
       cases hv'
       have hhi : hs[i]? = some gs[i] := by rw [← hg i (by simp)];exact hgi
       obtain ⟨ks,p1,p2⟩ := hk i a _ hq hhi
       unfold jOW at p1
       rw [hj] at p1
       cases p1
       exact .rd (jO5 hle p2 (fun b' off' n' cap' he' hc' => hb b' ⟨_,_,rfl,.inr ⟨_,List.mem_of_getElem? hhi,by rw [he'];simp only [jKR,jKL hc'];rfl⟩⟩) β0)
      ·exact (k6 i _ j sv v hra (by unfold jP5;rw [List.getElem?_set,if_neg hpj];exact hj) hv).mono hle
   simpa using key
theorem jn4 {q r β Φ w id} {τ : Ty} {p : Nat} {l : List τ.T} (m : MemSat r β Φ w) (hq : q id = true) (hg : Phi.get Φ id = some (.nst τ p l none)) (β' : jKW) : Rel (frx q r β Φ w) β' (.rd τ l) (hd (β id)) :=
 jjU (jSP m) (m.rows hg) (fun b hb => jd3 hq hg (.inl rfl) hb) β'
theorem jm2 {q r β Φ w id off v} {τ : Ty} {x : τ.T} (m : MemSat r β Φ w) (hq : q id = true) {T0 : Option Nat} (hg : Phi.get Φ id = some (.bx T0 (τ.enc x))) (h : Rel r β (.loc id off) v) (β' : jKW) : Rel (frx q r β Φ w) β' (.el τ [x] 0 off) v := by
 have hs := m.chs _ _ hg
 cases h with
 | loc hb =>
  rename_i b
  cases hs with
  | box hx hw hl hc hT =>
   rename_i b' c T
   rw [hb] at hx
   obtain rfl : b = b' := by simpa using hx
   have hf : frx q r β Φ w b = some (.cells c T (0,0)) := by rw [jd3 hq hg (.inr (.inl rfl)) (by rw [hb];rfl)];exact hw
   have hsz : c.size = τ.size := by rw [hl,enc_len]
   have key : Rel (frx q r β Φ w) β' (.lits τ.size ([x].map τ.enc)) (.slice (some ⟨b,0,none⟩) 1 1) := by
    refine Rel.lits hf (by simp) (by simp) (fun i row hi => ?_) (fun i row j sv hi hj => ?_) (by simp [hsz]) (fun i row j sv v hi hj hv => ?_)
    ·cases i with
     | zero => simp at hi;subst hi;exact enc_len τ x
     | succ i => simp at hi
    ·cases i with
     | zero => simp at hi;subst hi;exact enc_one τ x j sv hj
     | succ i => simp at hi
    ·cases i with
     | zero => simp at hi;subst hi;exact ((hc j sv v hj (by simpa using hv)).mono (jSP m)).pure (jOS τ x j sv hj) _
     | succ i => simp at hi
   have := Rel.el (off := off) key (i := 0) (by simp)
   simpa using this
def Ext (M M' : MM) : Prop := ∀ j x,MM.get M j = some x → MM.get M' j = some x
theorem Ext.refl (M : MM) : Ext M M := fun _ _ h => h
theorem Ext.trans {A B C : MM} (h : Ext A B) (k : Ext B C) : Ext A C := fun j x hx => k j x (h j x hx)
theorem jMW (a : Nat) (x : Option Nat) (M : MM) (j : Nat) : MM.get ((a,x) :: M) j = bif Nat.beq a j then some x else MM.get M j := rfl
theorem Ext.cons {M : MM} {j : Nat} {x : Option Nat} (h : MM.get M j = none) : Ext M ((j,x) :: M) := by
 intro k y hk
 rw [jMW]
 cases hb : Nat.beq j k with
 | true => obtain rfl := jKF hb;rw [h] at hk;cases hk
 | false => exact hk
def Sub (Z Z' : List Nat) : Prop := ∀ z ∈ Z,z ∈ Z'
def βM (M : MM) (β : jKW) : jKW := fun j => match MM.get M j with | some (some i) => β i | some none => .slice none 0 0 | none => β j
def jjM (Φ : Phi) (M : MM) (Z : List Nat) (a b : SV) : Prop :=
 ∀ Mf Zf,Ext M Mf → Sub Z Zf → ∀ r β w v,MemSat r β Φ w → Rel r β a v → Rel (frx (fun i => jMV i Zf) r β Φ w) (βM Mf β) b v
theorem jjM.mono {Φ M Z a b M' Z'} (h : jjM Φ M Z a b) (hM : Ext M M') (hZ : Sub Z Z') : jjM Φ M' Z' a b :=
 fun Mf Zf h1 h2 => h Mf Zf (hM.trans h1) (fun z hz => h2 z (hZ z hz))
def jLN (M : MM) (Z : List Nat) (M' : MM) (Z' : List Nat) : Prop := Ext M M' ∧ Sub Z Z'
theorem jLN.refl (M Z) : jLN M Z M Z := ⟨Ext.refl M,fun _ h => h⟩
theorem jLN.trans {M Z M' Z' M2 Z2} (h : jLN M Z M' Z') (k : jLN M' Z' M2 Z2) : jLN M Z M2 Z2 := ⟨h.1.trans k.1,fun z hz => k.2 z (h.2 z hz)⟩
theorem jbQ {M : MM} {j i : Nat} {K : MM → Prop} (h : jcR M j i K) : ∃ M',K M' ∧ Ext M M' ∧ MM.get M' j = some (some i) := by
 unfold jcR at h
 split at h
 ·rename_i i' hg
  cases hb : Nat.beq i i' with
  | false => rw [hb] at h;exact h.elim
  | true => rw [hb] at h;obtain rfl := jKF hb;exact ⟨M,h,Ext.refl M,hg⟩
 ·exact h.elim
 ·rename_i hg
  cases hu : MM.used M i with
  | true => rw [hu] at h;exact h.elim
  | false => rw [hu] at h;exact ⟨_,h,Ext.cons hg,by rw [jMW,Nat.beq_refl];rfl⟩
theorem jVX {Φ ΦI a b M Z} {K : MM → List Nat → Prop} (h : jqZ Φ ΦI a b M Z K) : ∃ M' Z',K M' Z' ∧ jLN M Z M' Z' ∧ jjM Φ M' Z' a b := by
 have map : ∀ {j i : Nat} {K : MM → List Nat → Prop},jcR M j i (fun M => K M Z) → ∃ M' Z',K M' Z' ∧ jLN M Z M' Z' ∧ ∀ Mf,Ext M' Mf → ∀ β, βM Mf β j = β i := by
  intro j i K h
  obtain ⟨M',hk,h1,h2⟩ := jbQ h
  exact ⟨M',Z,hk,⟨h1,fun _ h => h⟩,fun Mf hf β => by simp only [βM,hf j _ h2]⟩
 unfold jqZ at h
 split at h
 ·obtain ⟨⟨rfl,rfl⟩,h⟩ := h
  exact ⟨M,Z,h,jLN.refl M Z,fun Mf Zf _ _ r β w v m hr => by cases hr;exact .int⟩
 ·obtain ⟨rfl,h⟩ := h
  exact ⟨M,Z,h,jLN.refl M Z,fun Mf Zf _ _ r β w v m hr => by cases hr;exact .bool⟩
 ·obtain ⟨rfl,h⟩ := h
  exact ⟨M,Z,h,jLN.refl M Z,fun Mf Zf _ _ r β w v m hr => by cases hr;rename_i hl;exact .str hl⟩
 ·obtain ⟨rfl,h⟩ := h
  exact ⟨M,Z,h,jLN.refl M Z,fun Mf Zf _ _ r β w v m hr => by cases hr;exact .flt⟩
 ·obtain ⟨⟨rfl,rfl⟩,h⟩ := h
  exact ⟨M,Z,h,jLN.refl M Z,fun Mf Zf _ _ r β w v m hr => by cases hr;exact .cpx⟩
 ·obtain ⟨M',Z',hk,hs,hb⟩ := map h
  refine ⟨M',Z',hk,hs,fun Mf Zf hf _ r β w v m hr => ?_⟩
  cases hr with
  | own ho => rw [← hb Mf hf β] at ho ⊢;exact .own ho
 ·rename_i j
  split at h
  ·rename_i hg
   refine ⟨_,Z,h,⟨Ext.cons hg,fun _ h => h⟩,fun Mf Zf hf _ r β w v m hr => ?_⟩
   cases hr
   have e : βM Mf β j = .slice none 0 0 := by simp only [βM,hf j none (by rw [jMW,Nat.beq_refl];rfl)]
   have := Rel.own (r := frx (fun i => jMV i Zf) r β Φ w) (β := βM Mf β) (id := j) (by rw [e];rfl)
   rw [e] at this;exact this
  ·rename_i hg
   refine ⟨_,Z,h,jLN.refl M Z,fun Mf Zf hf _ r β w v m hr => ?_⟩
   cases hr
   have e : βM Mf β j = .slice none 0 0 := by simp only [βM,hf j none hg]
   have := Rel.own (r := frx (fun i => jMV i Zf) r β Φ w) (β := βM Mf β) (id := j) (by rw [e];rfl)
   rw [e] at this;exact this
  ·exact h.elim
 ·obtain ⟨rfl,h⟩ := h
  exact ⟨M,Z,h,jLN.refl M Z,fun Mf Zf _ _ r β w v m hr => by cases hr;exact .rd .litsE⟩
 ·rename_i i τ' l'
  split at h
  ·rename_i τ l hg
   obtain ⟨he,h⟩ := h
   refine ⟨M,i :: Z,h,⟨Ext.refl M,fun z hz => List.mem_cons_of_mem _ hz⟩,fun Mf Zf _ hz r β w v m hr => ?_⟩
   cases hr
   rw [← he]
   exact jnV m (jLL.2 (hz i (by simp))) hg _
  ·rename_i τ l hg
   obtain ⟨he,h⟩ := h
   refine ⟨M,i :: Z,h,⟨Ext.refl M,fun z hz => List.mem_cons_of_mem _ hz⟩,fun Mf Zf _ hz r β w v m hr => ?_⟩
   cases hr
   rw [← he]
   exact jtX m (jLL.2 (hz i (by simp))) hg _
  ·rename_i τ p l hg
   obtain ⟨he,h⟩ := h
   refine ⟨M,i :: Z,h,⟨Ext.refl M,fun z hz => List.mem_cons_of_mem _ hz⟩,fun Mf Zf _ hz r β w v m hr => ?_⟩
   cases hr
   rw [← he]
   exact jn4 m (jLL.2 (hz i (by simp))) hg _
  ·exact h.elim
 ·rename_i i off τ l k off'
  split at h
  ·rename_i cells x hg
   obtain ⟨⟨⟨rfl,rfl⟩,rfl⟩,h⟩ := h
   refine ⟨M,i :: Z,h,⟨Ext.refl M,fun z hz => List.mem_cons_of_mem _ hz⟩,fun Mf Zf _ hz r β w v m hr => ?_⟩
   exact jm2 m (jLL.2 (hz i (by simp))) hg hr _
  ·exact h.elim
 ·obtain ⟨⟨rfl,rfl⟩,h⟩ := h
  exact ⟨M,Z,h,jLN.refl M Z,fun Mf Zf _ _ r β w v m hr => .rd ((hr.mono (jSP m)).pure rfl _)⟩
 ·rename_i i off j off'
  cases hb : Nat.beq off off' with
  | false => rw [hb] at h;exact h.elim
  | true =>
   rw [hb] at h
   obtain rfl := jKF hb
   obtain ⟨M',Z',hk,hs,hb⟩ := map h
   refine ⟨M',Z',hk,hs,fun Mf Zf hf _ r β w v m hr => ?_⟩
   cases hr with
   | loc ho => exact .loc (by rw [hb Mf hf β];exact ho)
 ·obtain ⟨M',Z',hk,hs,hb⟩ := map h
  refine ⟨M',Z',hk,hs,fun Mf Zf hf _ r β w v m hr => ?_⟩
  cases hr with
  | mref ho => exact .mref (by rw [hb Mf hf β];exact ho)
 ·obtain ⟨⟨rfl,rfl,rfl⟩,h⟩ := h
  obtain ⟨M',Z',hk,hs,hb⟩ := map h
  refine ⟨M',Z',hk,hs,fun Mf Zf hf _ r β w v m hr => ?_⟩
  cases hr with
  | oel ho => exact .oel (by rw [hb Mf hf β];exact ho)
 ·exact ⟨M,Z,h,jLN.refl M Z,fun Mf Zf _ _ r β w v m hr => .und⟩
 ·cases ho : SV.okIds (fun _ => false) b with
  | false => rw [ho] at h;exact h.elim
  | true =>
   rw [ho] at h
   obtain ⟨rfl,h⟩ := h
   exact ⟨M,Z,h,jLN.refl M Z,fun Mf Zf _ _ r β w v m hr => (hr.mono (jSP m)).pure ho _⟩
def jlM (Φ : Phi) (M : MM) (Z : List Nat) (l l' : List SV) : Prop := l.length = l'.length ∧ ∀ (i : Nat) a b,l[i]? = some a → l'[i]? = some b → jjM Φ M Z a b
theorem jlM.mono {Φ M Z l l' M' Z'} (h : jlM Φ M Z l l') (hs : jLN M Z M' Z') : jlM Φ M' Z' l l' := ⟨h.1,fun i a b q1 q2 => (h.2 i a b q1 q2).mono hs.1 hs.2⟩
theorem jVT {Φ : Phi} {D : SV → SV → MM → List Nat → (MM → List Nat → Prop) → Prop} {DL : List SV → List SV → MM → List Nat → (MM → List Nat → Prop) → Prop}
  (h0 : ∀ M Z K,DL [] [] M Z K → K M Z) (h1 : ∀ a r b s M Z K,DL (a :: r) (b :: s) M Z K → D a b M Z fun M Z => DL r s M Z K) (h2 : ∀ b s M Z K,DL [] (b :: s) M Z K → False) (h3 : ∀ a r M Z K,DL (a :: r) [] M Z K → False)
  (hD : ∀ a b M Z K,D a b M Z K → ∃ M' Z',K M' Z' ∧ jLN M Z M' Z' ∧ jjM Φ M' Z' a b) :
  ∀ (l l' : List SV) (M : MM) (Z : List Nat) (K : MM → List Nat → Prop),DL l l' M Z K → ∃ M' Z',K M' Z' ∧ jLN M Z M' Z' ∧ jlM Φ M' Z' l l' := by
 intro l
 induction l with
 | nil =>
  intro l' M Z K h
  cases l' with
  | nil => exact ⟨M,Z,h0 _ _ _ h,jLN.refl M Z,rfl,fun i a b q => by simp at q⟩
  | cons b s => exact (h2 _ _ _ _ _ h).elim
 | cons a r ih =>
  intro l' M Z K h
  cases l' with
  | nil => exact (h3 _ _ _ _ _ h).elim
  | cons b s =>
   obtain ⟨M1,Z1,h,hs1,hp⟩ := hD _ _ _ _ _ (h1 _ _ _ _ _ _ _ h)
   obtain ⟨M2,Z2,hk,hs2,hl,hh⟩ := ih s M1 Z1 K h
   refine ⟨M2,Z2,hk,hs1.trans hs2,by simp [hl],fun i x y q1 q2 => ?_⟩
   cases i with
   | zero => simp at q1 q2;subst q1;subst q2;exact hp.mono hs2.1 hs2.2
   | succ i => exact hh i x y (by simpa using q1) (by simpa using q2)
theorem jlM.relL {Φ M Z l l'} (h : jlM Φ M Z l l') {Mf Zf} (h1 : Ext M Mf) (h2 : Sub Z Zf) {r β w vs} (m : MemSat r β Φ w) (hv : jKS r β l vs) : jKS (frx (fun i => jMV i Zf) r β Φ w) (βM Mf β) l' vs :=
 ⟨by rw [hv.1,h.1],fun i y v q1 q2 => by
  have hi : i < l.length := by have := jKM q1;rw [h.1];exact this
  exact h.2 i l[i] y (List.getElem?_eq_getElem hi) q1 Mf Zf h1 h2 r β w v m (hv.2 i _ v (List.getElem?_eq_getElem hi) q2)⟩
theorem jUI {Φ ΦI l l' M Z} {K : MM → List Nat → Prop} (h : jiF Φ ΦI l l' M Z K) : ∃ M' Z',K M' Z' ∧ jLN M Z M' Z' ∧ jlM Φ M' Z' l l' :=
 jVT (D := jqZ Φ ΦI) (DL := jiF Φ ΦI) (fun _ _ _ h => h) (fun _ _ _ _ _ _ _ h => h) (fun _ _ _ _ _ h => h) (fun _ _ _ _ _ h => h) (fun _ _ _ _ _ h => jVX h) l l' M Z K h
theorem jVU {Φ ΦI a b M Z} {K : MM → List Nat → Prop} (h : jrV Φ ΦI a b M Z K) : ∃ M' Z',K M' Z' ∧ jLN M Z M' Z' ∧ jjM Φ M' Z' a b := by
 unfold jrV at h
 split at h
 ·obtain ⟨M',Z',hk,hs,hl⟩ := jUI h
  refine ⟨M',Z',hk,hs,fun Mf Zf h1 h2 r β w v m hr => ?_⟩
  obtain ⟨cs,rfl,hcs⟩ := hr.aggL_inv
  exact .aggL (hl.relL h1 h2 m hcs)
 ·obtain ⟨rfl,h⟩ := h
  obtain ⟨M',Z',hk,hs,hl⟩ := jUI h
  refine ⟨M',Z',hk,hs,fun Mf Zf h1 h2 r β w v m hr => ?_⟩
  obtain ⟨cs,rfl,hcs⟩ := hr.fnL_inv
  exact .fnL (hl.relL h1 h2 m hcs)
 ·exact jVX h
theorem jUO {Φ ΦI l l' M Z} {K : MM → List Nat → Prop} (h : jiJ Φ ΦI l l' M Z K) : ∃ M' Z',K M' Z' ∧ jLN M Z M' Z' ∧ jlM Φ M' Z' l l' :=
 jVT (D := jrV Φ ΦI) (DL := jiJ Φ ΦI) (fun _ _ _ h => h) (fun _ _ _ _ _ _ _ h => h) (fun _ _ _ _ _ h => h) (fun _ _ _ _ _ h => h) (fun _ _ _ _ _ h => jVU h) l l' M Z K h
theorem jfQ {Φ ΦI a b M Z} {K : MM → List Nat → Prop} (h : kFV Φ ΦI a b M Z K) : ∃ M' Z',K M' Z' ∧ jLN M Z M' Z' ∧ jjM Φ M' Z' a b := by
 unfold kFV at h
 split at h
 ·obtain ⟨M',Z',hk,hs,hl⟩ := jUO h
  refine ⟨M',Z',hk,hs,fun Mf Zf h1 h2 r β w v m hr => ?_⟩
  obtain ⟨cs,rfl,hcs⟩ := hr.tupL_inv
  exact .tupL (hl.relL h1 h2 m hcs)
 ·exact jVU h
theorem jfF {σ : Env} {Φ ΦI : Phi} : ∀ {σI : Env} {M Z} {K : MM → List Nat → Prop},jt5 σ Φ ΦI σI M Z K → ∃ M' Z',K M' Z' ∧ jLN M Z M' Z' ∧
  ∀ k g svI,Env.get σI k = some (g,svI) → ∃ sv,Env.get σ k = some (none,sv) ∧ jjM Φ M' Z' sv svI := by
 intro σI
 induction σI with
 | nil => intro M Z K h;exact ⟨M,Z,h,jLN.refl M Z,fun k g svI h => by simp [Env.get] at h⟩
 | cons x r ih =>
  obtain ⟨k0,g0,sv0⟩ := x
  intro M Z K h
  simp only [jt5] at h
  split at h
  ·rename_i sv hg
   obtain ⟨M1,Z1,h,hs1,hp⟩ := jfQ h
   obtain ⟨M2,Z2,hk,hs2,hh⟩ := ih h
   refine ⟨M2,Z2,hk,hs1.trans hs2,fun k g svI hi => ?_⟩
   rw [jKO] at hi
   cases hb : Nat.beq k0 k with
   | true =>
    obtain rfl := jKF hb
    rw [hb] at hi;simp at hi;obtain ⟨rfl,rfl⟩ := hi
    exact ⟨sv,hg,hp.mono hs2.1 hs2.2⟩
   | false => rw [hb] at hi;exact hh k g svI hi
  ·exact h.elim
theorem jk6 {T TI : Option Nat} (h : eqT T TI = true) {t : Nat} (ht : TI = some t) : T = some t := by
 subst ht
 cases T with
 | none => cases h
 | some a => rw [show a = t from jKF h]
def joZ (Φ : Phi) (M : MM) (Z : List Nat) (j : Nat) (chI : Chunk) : Prop :=
 (MM.get M j = some none ∧ ∃ τ : Ty,chI = .own τ []) ∨
 ∃ i ch,MM.get M j = some (some i) ∧ Phi.get Φ i = some ch ∧ (ch = chI ∧ (∀ T cs,ch ≠ .bx T cs) ∨ ∃ T TI cs csI,eqT T TI = true ∧ ch = .bx T cs ∧ chI = .bx TI csI ∧ jlM Φ M Z cs csI)
theorem joZ.mono {Φ M Z j chI M' Z'} (h : joZ Φ M Z j chI) (hs : jLN M Z M' Z') : joZ Φ M' Z' j chI := by
 rcases h with ⟨h1,h2⟩ | ⟨i,ch,h1,h2,h3⟩
 ·exact .inl ⟨hs.1 _ _ h1,h2⟩
 ·refine .inr ⟨i,ch,hs.1 _ _ h1,h2,?_⟩
  rcases h3 with h3 | ⟨T,TI,cs,csI,e0,e1,e2,h3⟩
  ·exact .inl h3
  ·exact .inr ⟨T,TI,cs,csI,e0,e1,e2,h3.mono hs⟩
theorem jfA {Φ ΦI : Phi} : ∀ {L : Phi} {M Z} {K : MM → List Nat → Prop},je4 Φ ΦI L M Z K → ∃ M' Z',K M' Z' ∧ jLN M Z M' Z' ∧ ∀ j chI,Phi.get L j = some chI → joZ Φ M' Z' j chI := by
 intro L
 induction L with
 | nil => intro M Z K h;exact ⟨M,Z,h,jLN.refl M Z,fun j c h => by simp [Phi.get] at h⟩
 | cons x r ih =>
  obtain ⟨j0,c0⟩ := x
  intro M Z K h
  have fin : ∀ {M1 Z1},jLN M Z M1 Z1 → je4 Φ ΦI r M1 Z1 K → joZ Φ M1 Z1 j0 c0 → ∃ M' Z',K M' Z' ∧ jLN M Z M' Z' ∧ ∀ j chI,Phi.get ((j0,c0) :: r) j = some chI → joZ Φ M' Z' j chI := by
   intro M1 Z1 hs h hc
   obtain ⟨M2,Z2,hk,hs2,hh⟩ := ih h
   refine ⟨M2,Z2,hk,hs.trans hs2,fun j chI hj => ?_⟩
   rw [jKJ] at hj
   cases hb : Nat.beq j0 j with
   | true => obtain rfl := jKF hb;rw [hb] at hj;simp at hj;subst hj;exact hc.mono hs2
   | false => rw [hb] at hj;exact hh j chI hj
  simp only [je4] at h
  split at h
  ·rename_i hg
   split at h
   ·rename_i τ l τ' l' hΦ
    cases hu : MM.used M j0 with
    | true => rw [hu] at h;exact h.elim
    | false =>
     rw [hu] at h
     obtain ⟨he,h⟩ := h
     exact fin ⟨Ext.cons hg,fun _ h => h⟩ h (.inr ⟨j0,_,by rw [jMW,Nat.beq_refl];rfl,hΦ,.inl ⟨he,fun T cs h => by cases h⟩⟩)
   ·rename_i hΦ
    cases hu : MM.used M j0 with
    | true => rw [hu] at h;exact h.elim
    | false =>
     rw [hu] at h
     obtain ⟨he,h⟩ := h
     exact fin ⟨Ext.cons hg,fun _ h => h⟩ h (.inr ⟨j0,_,by rw [jMW,Nat.beq_refl];rfl,hΦ,.inl ⟨he,fun T cs h => by cases h⟩⟩)
   ·rename_i hΦ
    cases hu : MM.used M j0 with
    | true => rw [hu] at h;exact h.elim
    | false =>
     rw [hu] at h
     obtain ⟨he,h⟩ := h
     exact fin ⟨Ext.cons hg,fun _ h => h⟩ h (.inr ⟨j0,_,by rw [jMW,Nat.beq_refl];rfl,hΦ,.inl ⟨he,fun T cs h => by cases h⟩⟩)
   ·rename_i hΦ
    cases hu : MM.used M j0 with
    | true => rw [hu] at h;exact h.elim
    | false =>
     rw [hu] at h
     obtain ⟨he,h⟩ := h
     exact fin ⟨Ext.cons hg,fun _ h => h⟩ h (.inr ⟨j0,_,by rw [jMW,Nat.beq_refl];rfl,hΦ,.inl ⟨he,fun T cs h => by cases h⟩⟩)
   ·rename_i τ' l' hΦ
    obtain ⟨rfl,h⟩ := h
    exact fin ⟨Ext.cons hg,fun _ h => h⟩ h (.inl ⟨by rw [jMW,Nat.beq_refl];rfl, τ',rfl⟩)
   ·exact h.elim
  ·rename_i hg
   split at h
   ·rename_i τ' l'
    obtain ⟨rfl,h⟩ := h
    exact fin (jLN.refl M Z) h (.inl ⟨hg, τ',rfl⟩)
   ·exact h.elim
  ·rename_i i hg
   split at h
   ·rename_i T cs TI csI hΦ
    cases hT : eqT T TI with
    | false => rw [hT] at h;exact h.elim
    | true =>
    rw [hT] at h
    obtain ⟨M1,Z1,h,hs1,hl⟩ := jUO h
    exact fin hs1 h (.inr ⟨i,_,hs1.1 _ _ hg,hΦ,.inr ⟨T,TI,cs,csI,hT,rfl,rfl,hl⟩⟩)
   ·rename_i ch hΦ hn
    obtain ⟨rfl,h⟩ := h
    exact fin (jLN.refl M Z) h (.inr ⟨i,ch,hg,hΦ,.inl ⟨rfl,fun T cs he => hn T cs T cs he he⟩⟩)
   ·exact h.elim
theorem jcW {M : MM} {j i : Nat} (h : MM.get M j = some (some i)) : MM.used M i = true := by
 induction M with
 | nil => simp [MM.get] at h
 | cons x r ih =>
  obtain ⟨a,y⟩ := x
  rw [jMW] at h
  cases hb : Nat.beq a j with
  | true => rw [hb] at h;simp at h;subst h;simp [MM.used,Nat.beq_refl]
  | false =>
   rw [hb] at h
   have := ih h
   cases y <;> simp [MM.used,this]
theorem jj7 {ΦI : Phi} : ∀ {M : MM},jo1 ΦI M = true → ∀ {j j' i : Nat},MM.get M j = some (some i) → MM.get M j' = some (some i) → j = j' := by
 intro M
 induction M with
 | nil => intro _ j j' i h;simp [MM.get] at h
 | cons x r ih =>
  obtain ⟨a,y⟩ := x
  intro hok j j' i h h'
  simp only [jo1,Bool.and_eq_true] at hok
  obtain ⟨_,_,h3,h4⟩ := hok
  rw [jMW] at h h'
  cases hb : Nat.beq a j with
  | true =>
   rw [hb] at h;simp at h;subst h
   cases hb' : Nat.beq a j' with
   | true => rw [← jKF hb, ← jKF hb']
   | false =>
    rw [hb'] at h'
    have := jcW h'
    simp [this] at h3
  | false =>
   rw [hb] at h
   cases hb' : Nat.beq a j' with
   | true =>
    rw [hb'] at h';simp at h';subst h'
    have := jcW h
    simp [this] at h3
   | false => rw [hb'] at h';exact ih h4 h h'
theorem jaA {M : MM} : ∀ {Z : List Nat},jRZ M Z = true → ∀ z ∈ Z,MM.used M z = false := by
 intro Z
 induction Z with
 | nil => intro _ z h;cases h
 | cons x r ih =>
  intro h z hz
  simp only [jRZ,Bool.and_eq_true,Bool.not_eq_true'] at h
  cases hz with
  | head => exact h.1
  | tail _ hz => exact ih h.2 z hz
theorem jiV : ∀ {Φ0 : Phi} {j : Nat} {c},Phi.get Φ0 j = some c → c.kind ≠ 0 → MM.get (jfG Φ0) j = some (some j) := by
 intro Φ0
 induction Φ0 with
 | nil => intro j c h;simp [Phi.get] at h
 | cons x r ih =>
  obtain ⟨k,ch⟩ := x
  intro j c h hk
  rw [jKJ] at h
  unfold jfG
  cases hb : Nat.beq k j with
  | true =>
   obtain rfl := jKF hb
   rw [hb] at h;simp at h;subst h
   rw [jKL hk]
   simp only [cond_false]
   rw [jMW,Nat.beq_refl];rfl
  | false =>
   rw [hb] at h
   cases Nat.beq ch.kind 0 with
   | true => exact ih h hk
   | false => simp only [cond_false];rw [jMW,hb];exact ih h hk
theorem jfI {ΦI : Phi} : ∀ {Φ0 : Phi},jeY ΦI Φ0 = true → ∀ {j : Nat} {c},Phi.get Φ0 j = some c → c.kind ≠ 0 → ∃ c',Phi.get ΦI j = some c' ∧ c'.kind = c.kind := by
 intro Φ0
 induction Φ0 with
 | nil => intro _ j c h;simp [Phi.get] at h
 | cons x r ih =>
  obtain ⟨k,ch⟩ := x
  intro h j c hj hk
  simp only [jeY,Bool.and_eq_true,Bool.or_eq_true] at h
  rw [jKJ] at hj
  cases hb : Nat.beq k j with
  | true =>
   obtain rfl := jKF hb
   rw [hb] at hj;simp at hj;subst hj
   rcases h.1 with h1 | h1
   ·exact (hk (jKF h1)).elim
   ·split at h1
    ·exact ⟨_,by assumption,jKF h1⟩
    ·cases h1
  | false => rw [hb] at hj;exact ih h.2 hj hk
theorem je0 {id : Nat} {Φ : Phi} : ∀ {K : Phi → Prop},jp0 id Φ K → ∃ Φ',K Φ' ∧ ∀ j,Phi.get Φ' j = bif Nat.beq id j then none else Phi.get Φ j := by
 induction Φ with
 | nil => intro K h;exact ⟨[],h,fun j => by cases Nat.beq id j <;> rfl⟩
 | cons x r ih =>
  obtain ⟨k,c⟩ := x
  intro K h
  unfold jp0 at h
  cases hb : Nat.beq k id with
  | true =>
   rw [hb] at h
   obtain rfl := jKF hb
   obtain ⟨Φ',hk,hh⟩ := ih h
   refine ⟨Φ',hk,fun j => ?_⟩
   rw [hh j,jKJ]
   cases Nat.beq k j <;> rfl
  | false =>
   rw [hb] at h
   obtain ⟨Φ',hk,hh⟩ := ih h
   refine ⟨_,hk,fun j => ?_⟩
   rw [jKJ,jKJ,hh j]
   cases hq : Nat.beq k j with
   | true =>
    obtain rfl := jKF hq
    have : Nat.beq id k = false := jKL (fun he => by subst he;rw [Nat.beq_refl] at hb;cases hb)
    rw [this];rfl
   | false => cases Nat.beq id j <;> rfl
theorem jmS {r β Φ w j e} {τ τe : Ty} {l : List τ.T} {le : List τe.T} {i p : Nat} {g : Value} {a : τ.T} {Φ1 Φ2 : Phi} (m : MemSat r β Φ w) (hj : Phi.get Φ j = some (.foc τ l i p e g)) (he : Phi.get Φ e = some (.owg τe le g)) (hne : e ≠ j)
  (hent : jPE (jQR (τ.enc (l.getD i τ.dflt)) p (.rd τe le)) (τ.enc a))
  (h1 : ∀ k,Phi.get Φ1 k = bif Nat.beq e k then none else Phi.get Φ k) (h2 : ∀ k,Phi.get Φ2 k = bif Nat.beq j k then some (.own τ (l.set i a)) else Phi.get Φ1 k) :
  ∃ r',r.le r' ∧ MemSat r' β Φ2 w ∧ ∀ b,r b = none → (∀ id ch,Phi.get Φ id = some ch → ¬ ch.hb (β id) b) → r' b = none ∧ ∀ id ch,Phi.get Φ2 id = some ch → ¬ ch.hb (β id) b := by
 have get : ∀ k c,Phi.get Φ2 k = some c → (k = j ∧ c = .own τ (l.set i a)) ∨ (k ≠ j ∧ k ≠ e ∧ Phi.get Φ k = some c) := fun k c h => by
  rw [h2,h1] at h
  cases hq : Nat.beq j k with
  | true => rw [hq] at h;exact .inl ⟨(jKF hq).symm,(Option.some.inj h).symm⟩
  | false =>
   rw [hq] at h
   cases hq2 : Nat.beq e k with
   | true => rw [hq2] at h;cases h
   | false => rw [hq2] at h;exact .inr ⟨fun q => by (rw [q,Nat.beq_refl] at hq;cases hq),fun q => by (rw [q,Nat.beq_refl] at hq2;cases hq2),h⟩
 have hbj : (Chunk.own τ (l.set i a)).hb (β j) = (Chunk.foc τ l i p e g).hb (β j) := by
  funext b';cases β j <;> first | rfl | (rename_i a _ _;cases a <;> rfl)
 have blk : ∀ k c b,Phi.get Φ2 k = some c → c.hb (β k) b → k ≠ e ∧ ∃ c0,Phi.get Φ k = some c0 ∧ c0.hb (β k) b := fun k c b h q => by
  rcases get k c h with ⟨rfl,rfl⟩ | ⟨p1,p2,p3⟩
  ·exact ⟨hne.symm,_,hj,by rw [← hbj];exact q⟩
  ·exact ⟨p2,c,p3,q⟩
 refine ⟨frz (bq e) r β Φ w,jLM m,⟨jWZ m,fun k c h => ?_,fun k c b h q => ?_,fun k k' c c' b q1 q1' q2 q2' => ?_⟩,fun b hb hbn => ⟨?_,fun k c h q => ?_⟩⟩
 ·rcases get k c h with ⟨rfl,rfl⟩ | ⟨p1,p2,p3⟩
  ·have hs := m.chs _ _ hj
   have hk : (Chunk.foc τ l i p e g).Sat (frz (bq e) r β Φ w) β w (β k) := hs.keep (jLM m) (fun _ _ => rfl) (fun T cells he => by cases he)
   cases hk with
   | foc hi hp hg hr =>
    refine .own ?_
    have hbf : τ.isB = false := by
     cases τ <;> first | rfl | (simp [Ty.size] at hp;subst hp;have := hent.2 0 _ _ rfl rfl;exact absurd (this.2.2.2.1 _ _ rfl) (by intro q;cases q))
    have hrd := jnY m (ji4 e) he β0
    have eqv : ∀ (t : List (List SV)),jKQ (frz (bq e) r β Φ w) w (β k) false τ.size (jLR τ l i p g) → (∀ (q : Nat) (row : List SV),t[q]? = some row → ∃ row0 : List SV,(jLR τ l i p g)[q]? = some row0 ∧ row.length = row0.length ∧ (∀ (x : Nat) (y : SV),row[x]? = some y → y.one = true ∧ ∃ y0,row0[x]? = some y0 ∧ ∀ v,Rel (frz (bq e) r β Φ w) β0 y0 v → Rel (frz (bq e) r β Φ w) β0 y v)) → t.length = (jLR τ l i p g).length → jKQ (frz (bq e) r β Φ w) w (β k) false τ.size t := by
     intro t hR hh hl
     rcases hR with ⟨a0,x1,x2⟩ | ⟨b,off,cap,c,T,fr,x1,x2,x3,x4,x5,x6,x7,x8,x9,x10⟩
     ·exact .inl ⟨a0,x1,List.eq_nil_of_length_eq_zero (by rw [hl,x2];rfl)⟩
     ·refine .inr ⟨b,off,cap,c,T,fr,by rw [hl];exact x1,x2,x3,x4,x5,by rw [hl];exact x6,x7,fun q row hq => ?_,fun q row x y hq hx => ?_,fun q row x y v hq hx hv => ?_⟩
      ·obtain ⟨row0,y1,y2,_⟩ := hh q row hq
       rw [y2];exact x8 q row0 y1
      ·obtain ⟨row0,y1,y2,y3⟩ := hh q row hq
       exact (y3 x y hx).1
      ·obtain ⟨row0,y1,y2,y3⟩ := hh q row hq
       obtain ⟨y0,z1,z2⟩ := (y3 x y hx).2
       exact z2 v (x10 q row0 x y0 v y1 z1 hv)
    rw [hbf]
    refine eqv _ hr (fun q row hq => ?_) (by rw [jQH];simp)
    rw [List.getElem?_map,List.getElem?_set] at hq
    by_cases hqi : i = q
    ·subst hqi
     rw [if_pos rfl,if_pos hi] at hq
     cases hq
     refine ⟨_,jR3 hi,by rw [jXA,enc_len],fun x y hx => ⟨enc_one τ a x y hx,?_⟩⟩
     have hxl : x < τ.size := by have := jLF hx;rwa [enc_len] at this
     by_cases hxp : p = x
     ·subst hxp
      refine ⟨_,jT9 hp,fun v hv => ?_⟩
      cases hv
      exact (hent.2 p _ y (by rw [jPJ,List.getElem?_set,if_pos rfl,if_pos (by rw [enc_len];exact hp)]) hx).1 _ _ _ hrd
     ·refine ⟨(τ.enc (l.getD i τ.dflt))[x]'(by rw [enc_len];exact hxl),by rw [jRQ hxp];exact List.getElem?_eq_getElem _,fun v hv => ?_⟩
      exact (hent.2 x _ y (by rw [jPJ,List.getElem?_set,if_neg hxp];exact List.getElem?_eq_getElem _) hx).1 _ _ _ hv
    ·rw [if_neg hqi] at hq
     refine ⟨row,?_,rfl,fun x y hx => ⟨?_,y,hx,fun v hv => hv⟩⟩
     ·unfold jLR
      rw [List.getElem?_set,if_neg hqi,List.getElem?_map];exact hq
     ·cases hlq : l[q]? with
      | none => rw [hlq] at hq;cases hq
      | some z => rw [hlq] at hq;cases hq;exact enc_one τ z x y hx
  ·exact (m.chs _ _ p3).keep (jLM m) (fun _ _ => rfl) (fun _ _ _ _ _ _ _ h => h)
 ·obtain ⟨q1,c0,q2,q3⟩ := blk k c b h q
  rw [jPP,m.sep _ _ _ q2 q3]
  intro x cx z1 z2 _ z4
  rw [jq2 z1] at z2 z4
  exact q1 (m.nod _ _ _ _ _ q2 z2 q3 z4)
 ·obtain ⟨_,c0,z2,z3⟩ := blk _ _ _ q1 q2
  obtain ⟨_,c0',z2',z3'⟩ := blk _ _ _ q1' q2'
  exact m.nod _ _ _ _ _ z2 z2' z3 z3'
 ·rw [jPP (fun x cx _ z2 _ => hbn x cx z2)];exact hb
 ·obtain ⟨_,c0,z2,z3⟩ := blk _ _ _ h q
  exact hbn _ _ z2 z3
theorem je9 {ΦI : Phi} {w β} : ∀ {L Φ : Phi} {K : Phi → Prop} {r},jo0 ΦI L Φ K → MemSat r β Φ w → ∃ Φ' r',K Φ' ∧ r.le r' ∧ MemSat r' β Φ' w ∧
  ∀ b,r b = none → (∀ id ch,Phi.get Φ id = some ch → ¬ ch.hb (β id) b) → r' b = none ∧ ∀ id ch,Phi.get Φ' id = some ch → ¬ ch.hb (β id) b := by
 intro L
 induction L with
 | nil => intro Φ K r h m;exact ⟨Φ,r,h,Mem.le_refl r,m,fun b h1 h2 => ⟨h1,h2⟩⟩
 | cons x L ih =>
  intro Φ K r h m
  obtain ⟨j0,c0⟩ := x
  cases c0 with
  | foc =>
   simp only [jo0] at h
   split at h
   ·rename_i τ l i p e g _ _ hj _
    split at h
    ·rename_i τe le g' he
     cases hne : Nat.beq e j0 with
     | true => rw [hne] at h;exact h.elim
     | false =>
     rw [hne] at h
     obtain ⟨rfl,h⟩ := h
     obtain ⟨a,h,hent⟩ := jK3 h
     obtain ⟨Φ1,h,h1⟩ := je0 h
     obtain ⟨Φ2,h,h2⟩ := jKI h (jKU (by rw [h1,hne];exact hj))
     obtain ⟨r1,hle,m1,hb1⟩ := jmS m hj he (fun q => by (rw [q,Nat.beq_refl] at hne;cases hne)) hent h1 h2
     obtain ⟨Φ',r',hk,hle',m',hb'⟩ := ih h m1
     exact ⟨Φ',r',hk,Mem.le_trans hle hle',m',fun b q1 q2 => by obtain ⟨z1,z2⟩ := hb1 b q1 q2;exact hb' b z1 z2⟩
    ·exact h.elim
   ·exact ih h m
  | _ => exact ih h m
theorem jkR {σ : Env} {Φ : Phi} {σI : Env} {ΦI Φ0 : Phi} (h : jt5 σ Φ ΦI σI (jfG Φ0) [] fun M Z => je4 Φ ΦI ΦI M Z fun M Z => bif jo1 ΦI M && (jRZ M Z && jeY ΦI Φ0) then True else False) {r β w} (m : MemSat r β Φ w) :
  ∃ r' β',r.le r' ∧ MemSat r' β' ΦI w ∧ (∀ k g svI,Env.get σI k = some (g,svI) → ∃ sv,Env.get σ k = some (none,sv) ∧ ∀ v,Rel r β sv v → Rel r' β' svI v) ∧
   (∀ b,r b = none → (∀ id ch,Phi.get Φ id = some ch → ¬ ch.hb (β id) b) → r' b = none ∧ ∀ id ch,Phi.get ΦI id = some ch → ¬ ch.hb (β' id) b) ∧
   (∀ id ch,Phi.get Φ0 id = some ch → ch.kind ≠ 0 → β' id = β id ∧ ∃ ch',Phi.get ΦI id = some ch' ∧ ch'.kind = ch.kind) := by
 obtain ⟨M1,Z1,h,hs1,hE⟩ := jfF h
 obtain ⟨M,Z,h,hs2,hC⟩ := jfA h
 cases hok : (jo1 ΦI M && (jRZ M Z && jeY ΦI Φ0)) with
 | false => rw [hok] at h;exact h.elim
 | true =>
  simp only [Bool.and_eq_true] at hok
  obtain ⟨hinj,hnu,hkp⟩ := hok
  have hinj := fun {j j' i} => jj7 hinj (j := j) (j' := j') (i := i)
  have hnu := jaA hnu
  have blkI : ∀ {j chI b},Phi.get ΦI j = some chI → chI.hb (βM M β j) b → ∃ i ch,MM.get M j = some (some i) ∧ Phi.get Φ i = some ch ∧ ch.hb (β i) b := by
   intro j chI b hj hb
   rcases hC j chI hj with ⟨h1, τ,rfl⟩ | ⟨i,ch,h1,h2,h3⟩
   ·simp only [βM,h1] at hb;simp [Chunk.hb,Chunk.blk] at hb
   ·simp only [βM,h1] at hb
    refine ⟨i,ch,h1,h2,?_⟩
    rcases h3 with ⟨rfl,_⟩ | ⟨T,TI,cs,csI,_,rfl,rfl,_⟩
    ·exact hb
    ·have hb : (Chunk.bx TI csI).blk (β i) = some b := hb
     show (Chunk.bx T cs).blk (β i) = some b
     rw [← hb];cases β i <;> first | rfl | (rename_i a;cases a <;> rfl)
  have nz : ∀ {j i},MM.get M j = some (some i) → jMV i Z = false := by
   intro j i hj
   cases hm : jMV i Z with
   | false => rfl
   | true => have := hnu i (jLL.1 hm);rw [jcW hj] at this;cases this
  have out : ∀ {i ch b},Phi.get Φ i = some ch → ch.hb (β i) b → jMV i Z = false → frx (fun i => jMV i Z) r β Φ w b = none := by
   intro i ch b hi hb hz
   rw [jhX]
   ·exact m.sep _ _ _ hi hb
   ·intro j c hq hj _ hb'
    have := m.nod _ _ _ _ _ hj hi hb' hb
    subst this
    rw [hz] at hq;cases hq
  refine ⟨frx (fun i => jMV i Z) r β Φ w, βM M β,jSP m,⟨fun b o h => jm0 m b o h,fun j chI hj => ?_,fun j chI b hj hb => ?_,fun j j' c c' b h1 h1' h2 h2' => ?_⟩,fun k g svI hk => ?_,fun b hb hbn => ⟨?_,fun j chI hj hb' => ?_⟩,fun id ch hid hk => ?_⟩
  ·rcases hC j chI hj with ⟨h1, τ,rfl⟩ | ⟨i,ch,h1,h2,h3⟩
   ·have : βM M β j = .slice none 0 0 := by simp only [βM,h1]
    rw [this]
    exact .own (.inl ⟨none,rfl,rfl⟩)
   ·have e : βM M β j = β i := by simp only [βM,h1]
    rw [e]
    rcases h3 with ⟨rfl,hnb⟩ | ⟨T,TI,cs,csI,hTT,rfl,rfl,hl⟩
    ·exact (m.chs _ _ h2).keep (jSP m) (fun b _ => rfl) (fun T cells he => (hnb T cells he).elim)
    ·have := m.chs _ _ h2
     cases this with
     | box hx hw hsz hc hT =>
      refine .box hx hw (by rw [hsz,hl.1]) (fun k sv v q1 q2 => ?_) (fun t ht => hT t (jk6 hTT ht))
      have hi : k < cs.length := by rw [hl.1];exact jKM q1
      exact hl.2 k _ _ (List.getElem?_eq_getElem hi) q1 M Z (Ext.refl M) (fun z hz => hz) r β w v m (hc k _ v (List.getElem?_eq_getElem hi) q2)
  ·obtain ⟨i,ch,h1,h2,h3⟩ := blkI hj hb
   exact out h2 h3 (nz h1)
  ·obtain ⟨i,ch,p1,p2,p3⟩ := blkI h1 h2
   obtain ⟨i',ch',p1',p2',p3'⟩ := blkI h1' h2'
   have := m.nod _ _ _ _ _ p2 p2' p3 p3'
   subst this
   exact hinj p1 p1'
  ·obtain ⟨sv,q1,q2⟩ := hE k g svI hk
   exact ⟨sv,q1,fun v hr => q2 M Z hs2.1 hs2.2 r β w v m hr⟩
  ·rw [jhX]
   ·exact hb
   ·intro j c _ hj _ hb';exact hbn j c hj hb'
  ·obtain ⟨i,ch,h1,h2,h3⟩ := blkI hj hb'
   exact hbn i ch h2 h3
  ·have hg := hs2.1 _ _ (hs1.1 _ _ (jiV hid hk))
   exact ⟨by simp only [βM,hg],jfI hkp hid hk⟩
theorem jb0 {σ : Env} {Φ : Phi} {σI : Env} {ΦI Φ0 : Phi} (h : jQ7 σ Φ σI ΦI Φ0) {r β w} (m : MemSat r β Φ w) :
  ∃ r' β',r.le r' ∧ MemSat r' β' ΦI w ∧ (∀ k g svI,Env.get σI k = some (g,svI) → ∃ sv,Env.get σ k = some (none,sv) ∧ ∀ v,Rel r β sv v → Rel r' β' svI v) ∧
   (∀ b,r b = none → (∀ id ch,Phi.get Φ id = some ch → ¬ ch.hb (β id) b) → r' b = none ∧ ∀ id ch,Phi.get ΦI id = some ch → ¬ ch.hb (β' id) b) ∧
   (∀ id ch,Phi.get Φ0 id = some ch → ch.kind ≠ 0 → β' id = β id ∧ ∃ ch',Phi.get ΦI id = some ch' ∧ ch'.kind = ch.kind) := by
 unfold jQ7 at h
 obtain ⟨Φ1,r1,h,hle,m1,hb⟩ := je9 h m
 obtain ⟨r', β',h1,h2,h3,h4,h5⟩ := jkR h m1
 exact ⟨r', β',Mem.le_trans hle h1,h2,fun k g svI hk => by obtain ⟨sv,q1,q2⟩ := h3 k g svI hk;exact ⟨sv,q1,fun v hr => q2 v (hr.mono hle)⟩,fun b q1 q2 => by obtain ⟨z1,z2⟩ := hb b q1 q2;exact h4 b z1 z2,h5⟩
theorem jRY {B : Base} {e N r β σ Φ a w σI ΦI Φ0} (s : Sat B e N r β σ Φ a w) (h : jQ7 σ Φ σI ΦI Φ0) (hng : ∀ k g sv,Env.get σI k = some (g,sv) → g = none)
  (hks : ∀ id ch,Phi.get e.Φ id = some ch → ch.kind ≠ 0 → ∃ ch0,Phi.get Φ0 id = some ch0 ∧ ch0.kind = ch.kind) :
  ∃ r' β',Sat B e N r' β' σI ΦI a w := by
 obtain ⟨r', β',hle,m',hE,hH,hK⟩ := jb0 h s.mem
 refine ⟨r', β',⟨fun k g svI hk => ?_,m',B.mono _ _ hle s.G,⟨Mem.le_trans s.kept.le hle,s.kept.os,s.kept.tape,s.kept.output,s.kept.size,fun b hb => ?_,fun id ch hid hk => ?_,s.kept.slt⟩,?_,s.size⟩⟩
 ·obtain ⟨sv,q1,q2⟩ := hE k g svI hk
  have := hng k g svI hk
  subst this
  obtain ⟨v,p1,p2⟩ := s.agree k none sv q1
  exact ⟨v,p1,q2 v p2⟩
 ·obtain ⟨x1,x2,x3⟩ := s.kept.block b hb
  exact ⟨x1,hH b x2 x3⟩
 ·obtain ⟨q1,_⟩ := s.kept.keep id ch hid hk
  obtain ⟨ch0,p1,p2⟩ := hks id ch hid hk
  obtain ⟨y1,y2⟩ := hK id ch0 p1 (by rw [p2];exact hk)
  exact ⟨y1.trans q1,by rw [← p2];exact y2⟩
 ·obtain ⟨Ds,h1,h2,h3⟩ := s.defers
  refine ⟨Ds,h1,h2,fun D hD => ?_⟩
  obtain ⟨g1,g2,g3,g4⟩ := h3 D hD
  exact ⟨g1,g2,hH D g3 g4⟩
end Go.Vc

namespace Go.Vc
set_option autoImplicit false
def purge : List Nat → Env → Env
 | [],_ => []
 | k :: L, σ =>
  match σ.get k with
  | some (none,sv) => (k,none,sv) :: purge L σ
  | _ => purge L σ
theorem jYA (L : List Nat) (σ : Env) : ∀ (K : Env → Prop),jMZ L σ K = K (purge L σ) := by
 induction L with
 | nil => intro K;rfl
 | cons k L ih =>
  intro K
  unfold jMZ purge
  cases hq : σ.get k with
  | none => simp only [ih]
  | some p =>
   obtain ⟨g,sv⟩ := p
   cases g <;> simp only [ih]
theorem jPR {L : List Nat} {σ : Env} {k : Nat} {g sv} (h : Env.get (purge L σ) k = some (g,sv)) : g = none ∧ Env.get σ k = some (none,sv) := by
 induction L with
 | nil => simp [purge,Env.get] at h
 | cons x L ih =>
  unfold purge at h
  split at h
  ·rename_i sv' hx
   rw [jKO] at h
   cases hb : Nat.beq x k with
   | true =>
    obtain rfl := jKF hb
    rw [hb] at h
    simp only [cond_true,Option.some.injEq,Prod.mk.injEq] at h
    obtain ⟨rfl,rfl⟩ := h
    exact ⟨rfl,hx⟩
   | false => rw [hb] at h;exact ih h
  ·exact ih h
theorem jN1 (L : List Nat) (σ : Env) : jN0 (purge L σ) := fun k g sv h => (jPR h).1
theorem Sat.purge {B : Base} {e N r β σ Φ a w} (s : Sat B e N r β σ Φ a w) (L : List Nat) : Sat B e N r β (purge L σ) Φ a w :=
 ⟨fun k g sv h => by obtain ⟨rfl,h2⟩ := jPR h;exact s.agree k none sv h2,s.mem,s.G,s.kept,s.defers,s.size⟩
def jMI (F Φ : Phi) : Phi := F ++ Φ.filter fun x => !jVE F x.1
theorem jkN (F Φ : Phi) : ∀ (K : Phi → Prop),jh5 F Φ K = K (Φ.filter fun x => !jVE F x.1) := by
 induction Φ with
 | nil => intro K;rfl
 | cons x r ih =>
  intro K
  obtain ⟨k,c⟩ := x
  unfold jh5
  cases hb : jVE F k with
  | true => simp only [cond_true,ih,List.filter_cons,hb];rfl
  | false => simp only [cond_false,ih,List.filter_cons,hb];rfl
theorem jg9 (F R : Phi) : ∀ (K : Phi → Prop),jdL F R K = K (F ++ R) := by
 induction F with
 | nil => intro K;rfl
 | cons x F ih => intro K;unfold jdL;rw [ih];rfl
theorem jLE (L : List Nat) (U : List (Nat × SV)) (F : Phi) (σ : Env) (Φ : Phi) (K : Env → Phi → Prop) : jNE L U F σ Φ K = K (purge L (jjG U σ)) (jMI F Φ) := by
 unfold jNE
 rw [jYA,jkN,jg9];rfl
structure FamOk (F : Entry → Prop) : Prop where
 lo : ∀ e,F e → ∀ D,e.w.heap.size ≤ D → e.lo D
 heads : ∀ e e',F e → F e' → ∀ id ch,Phi.get e'.Φ id = some ch → ch.kind ≠ 0 → ∃ ch',Phi.get e.Φ id = some ch' ∧ ch'.kind = ch.kind
theorem FamOk.one {e : Entry} (h : ∀ D,e.w.heap.size ≤ D → e.lo D) : FamOk (fun x => x = e) := ⟨fun _ h' => by subst h';exact h,fun _ _ h1 h2 id ch hg _ => by subst h1;subst h2;exact ⟨ch,hg,rfl⟩⟩
def Out (B : Base) (F : Entry → Prop) (N : Nat) (K : KT) (ex : Ex) (a : Act) (w : World) : Prop :=
 ∃ e r β σ Φ n,F e ∧ K ex σ Φ n ∧ Sat B e N r β σ Φ a w ∧ jN0 σ
def QK (B : Base) (F : Entry → Prop) (N : Nat) (K : KT) : Exit → Act → World → Prop
 | .normal,a,w => Out B F N K .normal a w
 | .exit i,a,w => Out B F N K (.exit i) a w
 | .ret,a,w => Out B F N K .ret a w
 | _,_,_ => False
def jR8 (β : jKW) (Φ : Phi) (β' : jKW) (Φ' : Phi) : Prop := ∀ id ch,Phi.get Φ id = some ch → ch.kind ≠ 0 → β' id = β id ∧ ∃ ch',Phi.get Φ' id = some ch' ∧ ch'.kind = ch.kind
theorem jR8.trans {β Φ β' Φ' β2 Φ2} (h : jR8 β Φ β' Φ') (k : jR8 β' Φ' β2 Φ2) : jR8 β Φ β2 Φ2 := fun id ch h0 hk => by
 obtain ⟨q1,ch1,q2,q3⟩ := h id ch h0 hk
 obtain ⟨p1,ch2,p2,p3⟩ := k id ch1 q2 (by rw [q3];exact hk)
 exact ⟨p1.trans q1,ch2,p2,p3.trans q3⟩
theorem jTG {B : Base} {e N r β σ Φ a w σI ΦI Φ0} (s : Sat B e N r β σ Φ a w) (h : jQ7 σ Φ σI ΦI Φ0) (hng : ∀ k g sv,Env.get σI k = some (g,sv) → g = none)
  (hks : ∀ id ch,Phi.get e.Φ id = some ch → ch.kind ≠ 0 → ∃ ch0,Phi.get Φ0 id = some ch0 ∧ ch0.kind = ch.kind) :
  ∃ r' β',Sat B e N r' β' σI ΦI a w ∧ r.le r' ∧ jR8 β Φ0 β' ΦI ∧
   (∀ b,r b = none → (∀ id ch,Phi.get Φ id = some ch → ¬ ch.hb (β id) b) → r' b = none ∧ ∀ id ch,Phi.get ΦI id = some ch → ¬ ch.hb (β' id) b) := by
 obtain ⟨r', β',hle,m',hE,hH,hK⟩ := jb0 h s.mem
 refine ⟨r', β',⟨fun k g svI hk => ?_,m',B.mono _ _ hle s.G,⟨Mem.le_trans s.kept.le hle,s.kept.os,s.kept.tape,s.kept.output,s.kept.size,fun b hb => ?_,fun id ch hid hk => ?_,s.kept.slt⟩,?_,s.size⟩,hle,hK,hH⟩
 ·obtain ⟨sv,q1,q2⟩ := hE k g svI hk
  have := hng k g svI hk
  subst this
  obtain ⟨v,p1,p2⟩ := s.agree k none sv q1
  exact ⟨v,p1,q2 v p2⟩
 ·obtain ⟨x1,x2,x3⟩ := s.kept.block b hb
  exact ⟨x1,hH b x2 x3⟩
 ·obtain ⟨q1,_⟩ := s.kept.keep id ch hid hk
  obtain ⟨ch0,p1,p2⟩ := hks id ch hid hk
  obtain ⟨y1,y2⟩ := hK id ch0 p1 (by rw [p2];exact hk)
  exact ⟨y1.trans q1,by rw [← p2];exact y2⟩
 ·obtain ⟨Ds,h1,h2,h3⟩ := s.defers
  refine ⟨Ds,h1,h2,fun D hD => ?_⟩
  obtain ⟨g1,g2,g3,g4⟩ := h3 D hD
  exact ⟨g1,g2,hH D g3 g4⟩
def jf2 (Φ : Phi) (σ : Env) : List Nat → Env
 | [] => []
 | k :: L =>
  match σ.get k with
  | some (none,sv) => bif jXC Φ sv then (k,none,sv) :: jf2 Φ σ L else jf2 Φ σ L
  | _ => jf2 Φ σ L
theorem jPX (Φ : Phi) (σ : Env) : ∀ (L : List Nat) (K : Env → Prop),jRC Φ σ L K = K (jf2 Φ σ L) := by
 intro L
 induction L with
 | nil => intro K;rfl
 | cons k L ih =>
  intro K
  unfold jRC jf2
  cases hq : σ.get k with
  | none => simp only [ih]
  | some p =>
   obtain ⟨g,sv⟩ := p
   cases g with
   | some p => simp only [ih]
   | none =>
    cases hs : jXC Φ sv with
    | true => simp only [hs,cond_true,ih]
    | false => simp only [hs,cond_false,ih]
def Stb (Φ : Phi) (σ : Env) : Prop := ∀ k g sv,Env.get σ k = some (g,sv) → g = none ∧ jXC Φ sv = true
theorem jXT {Φ : Phi} {σ : Env} : ∀ {L : List Nat} {k g sv},Env.get (jf2 Φ σ L) k = some (g,sv) → g = none ∧ jXC Φ sv = true ∧ Env.get σ k = some (none,sv) := by
 intro L
 induction L with
 | nil => intro k g sv h;cases h
 | cons x L ih =>
  intro k g sv h
  unfold jf2 at h
  split at h
  ·rename_i sv' hx
   cases hs : jXC Φ sv' with
   | false => rw [hs] at h;exact ih h
   | true =>
    rw [hs] at h
    simp only [cond_true] at h
    rw [jKO] at h
    cases hb : Nat.beq x k with
    | true =>
     obtain rfl := jKF hb
     rw [hb] at h
     simp only [cond_true,Option.some.injEq,Prod.mk.injEq] at h
     obtain ⟨rfl,rfl⟩ := h
     exact ⟨rfl,hs,hx⟩
    | false => rw [hb] at h;exact ih h
  ·exact ih h
theorem Stb.agree {Φ : Phi} {σ : Env} (hs : Stb Φ σ) {r r' β β' Φ' t} (h : Agree r β σ t) (hle : r.le r') (hk : jR8 β Φ β' Φ') : Agree r' β' σ t := by
 refine h.of fun k g sv hg => ⟨sv,hg,fun v hr => ?_⟩
 refine (hr.mono hle).bind (p := fun id => match Φ.get id with | some ch => !Nat.beq ch.kind 0 | none => false) (fun id hid => ?_) (hs k g sv hg).2
 cases hq : Phi.get Φ id with
 | none => rw [hq] at hid;cases hid
 | some ch =>
  rw [hq] at hid
  refine (hk id ch hq fun h0 => ?_).1
  have hid : (!Nat.beq ch.kind 0) = true := hid
  rw [h0] at hid;cases hid
theorem jVV : ∀ {ps : List Nat} {xs : List SV} {σ : Env} {K : Env → Prop},joO ps xs σ K → ∃ σr,K σr ∧ xs.length = ps.length ∧
  ∀ {r β} {t : Array Value} {vs : List Value},Agree r β σ t → jKS r β xs vs → jN0 σ → (∀ p ∈ ps,p < t.size) →
   Agree r β σr ((ps.zip vs).foldl (fun tmps x => tmps.setIfInBounds x.1 x.2) t) ∧ jN0 σr := by
 intro ps
 induction ps with
 | nil =>
  intro xs σ K h
  cases xs with
  | nil => exact ⟨σ,h,rfl,fun ha _ hn _ => ⟨ha,hn⟩⟩
  | cons x xs => exact h.elim
 | cons p ps ih =>
  intro xs σ K h
  cases xs with
  | nil => exact h.elim
  | cons x xs =>
   obtain ⟨σr,hk,hl,hr⟩ := ih (σ := (p,none,x) :: σ) h
   refine ⟨σr,hk,by simp [hl],fun {r β t vs} ha hv hn hp => ?_⟩
   obtain ⟨v,us,rfl,h1,h2⟩ := hv.uncons
   have hgd : jML [] σ := hn.gdIn _
   have ha' : Agree r β ((p,none,x) :: σ) (t.setIfInBounds p v) := ha.put hgd (by simp) (hp p (by simp)) h1
   have hn' : jN0 ((p,none,x) :: σ) := by
    intro k g sv hg
    rw [jKO] at hg
    cases hb : Nat.beq p k with
    | true => rw [hb] at hg;simp at hg;exact hg.1.symm
    | false => rw [hb] at hg;exact hn k g sv hg
   exact hr ha' h2 hn' fun q hq => by simpa using hp q (by simp [hq])
theorem jSG {B : Base} {e e' : Entry} {N r β σ Φ a w l} {o : Obj} (s : Sat B e N r β σ Φ a w) (hl : l < w.heap.size) (hr : r l = none) (hΦ : ∀ id ch,Phi.get Φ id = some ch → ¬ ch.hb (β id) l)
  (hD : ∀ Ds : List Nat,a.defers = Ds.map (fun D => { target := .collected D,args := #[] }) → l ∉ Ds) {σ' a'} (ha : Agree r β σ' a'.tmps) (hd : a'.defers = a.defers) (hsz : a'.tmps.size = N) (hlo : ∀ D,e.lo D → e'.lo D)
  (hk : Kept e' r β Φ (w.putObj l o)) : Sat B e' N r β σ' Φ a' (w.putObj l o) := by
 have get : ∀ b,b ≠ l → (w.putObj l o).heap[b]? = w.heap[b]? := fun b hb => World.putObj_heap_other hb
 refine ⟨ha,⟨fun b ob hb => ?_,fun id ch hi => ?_,s.mem.sep,s.mem.nod⟩,s.G,hk,?_,hsz⟩
 ·rw [get b (fun he => by rw [he,hr] at hb;cases hb)];exact s.mem.vis b ob hb
 ·exact (s.mem.chs _ _ hi).keep (Mem.le_refl r) (fun b hb => get b (fun he => hΦ id ch hi (he ▸ hb))) (fun _ _ _ _ _ _ _ h => h)
 ·obtain ⟨Ds,h1,h2,h3⟩ := s.defers
  refine ⟨Ds,by rw [hd];exact h1,h2,fun D hDm => ?_⟩
  obtain ⟨g1,g2,g3,g4⟩ := h3 D hDm
  exact ⟨hlo D g1,(get D (fun he => hD Ds h1 (he ▸ hDm))).trans g2,g3,g4⟩
theorem jN4 {w : World} {l : Nat} {o : Obj} (h : l < w.heap.size) : (w.putObj l o).heap[l]? = some o := by
 show (w.heap.setIfInBounds l o)[l]? = _
 rw [Array.getElem?_setIfInBounds_self_of_lt h]
end Go.Vc

namespace Go.Vc
set_option autoImplicit false
def mkD (D : Nat) : Deferred := { target := .collected D,args := #[] }
theorem jXU {a b : List Nat} (h : a.map mkD = b.map mkD) : a = b := by
 induction a generalizing b with
 | nil => cases b with
  | nil => rfl
  | cons y b => simp at h
 | cons x a ih => cases b with
  | nil => simp at h
  | cons y b =>
   simp only [List.map_cons,List.cons.injEq] at h
   have h1 : x = y := by
    have := h.1
    simp only [mkD,Deferred.mk.injEq,Target.collected.injEq,and_true] at this
    exact this
   rw [h1,ih h.2]
def SJ (e : Entry) (r0 r' : Mem) (β' : jKW) (ΦI : Phi) (l : Nat) (ap : Act) (b : Nat) : Prop :=
 (r' b ≠ none ∧ r0 b = none) ∨ (∃ id ch,Phi.get ΦI id = some ch ∧ ch.hb (β' id) b) ∨ e.S b ∨ b = l ∨ ∃ Ds : List Nat,ap.defers = Ds.map mkD ∧ b ∈ Ds
structure JS (B : Base) (e : Entry) (N : Nat) (r0 : Mem) (β0 : jKW) (Φ0 : Phi) (σI : Env) (ΦI : Phi) (rec : Loop) (l : Nat) (ap : Act) (S : Nat → Prop) (W : World) (r' : Mem) (β' : jKW) : Prop where
 sat : Sat B e N r' β' σI ΦI ap W
 le : r0.le r'
 kh : jR8 β0 Φ0 β' ΦI
 rc : W.heap[l]? = some (.loop rec)
 hr : r' l = none
 hΦ : ∀ id ch,Phi.get ΦI id = some ch → ¬ ch.hb (β' id) l
 S : S = SJ e r0 r' β' ΦI l ap
section
variable {B : Base} {e : Entry} {N : Nat} {r0 : Mem} {β0 : jKW} {Φ0 : Phi} {σI : Env} {ΦI : Phi} {rec : Loop} {l : Nat} {ap : Act} {S : Nat → Prop} {W : World} {r' : Mem} {β' : jKW}
theorem jMY {r r' : Mem} (h : r.le r') {b : Nat} (hb : r' b = none) : r b = none := by
 cases hq : r b with
 | none => rfl
 | some o => rw [h b o hq] at hb;cases hb
theorem JS.lt (h : JS B e N r0 β0 Φ0 σI ΦI rec l ap S W r' β') {b : Nat} (hb : S b) : b < W.heap.size ∧ r0 b = none := by
 rw [h.S] at hb
 rcases hb with ⟨h1,h2⟩ | ⟨id,ch,h1,h2⟩ | h1 | rfl | ⟨Ds,h1,h2⟩
 ·cases hq : r' b with
  | none => exact absurd hq h1
  | some o => exact ⟨lt_of_heap (h.sat.mem.vis b o hq),h2⟩
 ·exact ⟨jNR h.sat.mem h1 h2,jMY h.le (h.sat.mem.sep _ _ _ h1 h2)⟩
 ·obtain ⟨k1,k2,k3⟩ := h.sat.kept.block b h1
  exact ⟨Nat.lt_of_lt_of_le (h.sat.kept.slt b h1) h.sat.kept.size,jMY h.le k2⟩
 ·exact ⟨lt_of_heap h.rc,jMY h.le h.hr⟩
 ·obtain ⟨Ds',k1,k2,k3⟩ := h.sat.defers
  obtain rfl : Ds = Ds' := jXU (h1.symm.trans k1)
  obtain ⟨g1,g2,g3,g4⟩ := k3 b h2
  exact ⟨lt_of_heap g2,jMY h.le g3⟩
theorem JS.stable (h : JS B e N r0 β0 Φ0 σI ΦI rec l ap S W r' β') {W' : World} (o : Oth r0 S W W') : JS B e N r0 β0 Φ0 σI ΦI rec l ap S W' r' β' := by
 have hS : ∀ b,SJ e r0 r' β' ΦI l ap b → W'.heap[b]? = W.heap[b]? := fun b hb => o.same b (by rw [h.S];exact hb)
 refine ⟨⟨h.sat.agree,⟨fun b ob hb => ?_,fun id ch hi => ?_,h.sat.mem.sep,h.sat.mem.nod⟩,h.sat.G,⟨h.sat.kept.le,o.os.trans h.sat.kept.os,o.tape.trans h.sat.kept.tape,o.output.trans h.sat.kept.output,Nat.le_trans h.sat.kept.size o.size,fun b hb => ?_,h.sat.kept.keep,h.sat.kept.slt⟩,?_,h.sat.size⟩,h.le,h.kh,?_,h.hr,h.hΦ,h.S⟩
 ·cases hq : r0 b with
  | some o' =>
   have e1 := h.le b o' hq
   rw [hb] at e1;cases e1
   exact o.old b ob hq
  | none =>
   rw [hS b (.inl ⟨by rw [hb];simp,hq⟩)]
   exact h.sat.mem.vis b ob hb
 ·exact (h.sat.mem.chs _ _ hi).keep (Mem.le_refl r') (fun b hb => hS b (.inr (.inl ⟨id,ch,hi,hb⟩))) (fun _ _ _ _ _ _ _ h => h)
 ·obtain ⟨k1,k2,k3⟩ := h.sat.kept.block b hb
  exact ⟨(hS b (.inr (.inr (.inl hb)))).trans k1,k2,k3⟩
 ·obtain ⟨Ds,k1,k2,k3⟩ := h.sat.defers
  refine ⟨Ds,k1,k2,fun D hD => ?_⟩
  obtain ⟨g1,g2,g3,g4⟩ := k3 D hD
  exact ⟨g1,(hS D (.inr (.inr (.inr (.inr ⟨Ds,k1,hD⟩))))).trans g2,g3,g4⟩
 ·rw [hS l (.inr (.inr (.inr (.inl rfl))))];exact h.rc
theorem JS.notD (h : JS B e N r0 β0 Φ0 σI ΦI rec l ap S W r' β') : ∀ Ds : List Nat,ap.defers = Ds.map (fun D => { target := .collected D,args := #[] }) → l ∉ Ds := by
 intro Ds h1 hm
 obtain ⟨Ds',k1,k2,k3⟩ := h.sat.defers
 obtain rfl : Ds = Ds' := jXU (h1.symm.trans k1)
 obtain ⟨g1,g2,g3,g4⟩ := k3 l hm
 rw [h.rc] at g2;cases g2
theorem JS.turn (h : JS B e N r0 β0 Φ0 σI ΦI rec l ap S W r' β') (hl : ¬ e.S l) (o : Obj) : Sat B e N r' β' σI ΦI ap (W.putObj l o) := by
 have get : ∀ b,b ≠ l → (W.putObj l o).heap[b]? = W.heap[b]? := fun b hb => World.putObj_heap_other hb
 refine jSG h.sat (lt_of_heap h.rc) h.hr h.hΦ h.notD h.sat.agree rfl h.sat.size (fun _ h => h) ⟨h.sat.kept.le,h.sat.kept.os,h.sat.kept.tape,h.sat.kept.output,by rw [World.putObj_size];exact h.sat.kept.size,fun b hb => ?_,h.sat.kept.keep,h.sat.kept.slt⟩
 obtain ⟨k1,k2,k3⟩ := h.sat.kept.block b hb
 exact ⟨(get b (fun he => hl (he ▸ hb))).trans k1,k2,k3⟩
end
def IH (B : Base) (N : Nat) (L : List Nat) (pl : List (Nat × List Nat)) (c : Code) : Prop :=
 ∀ (F : Entry → Prop),YOk B F N → FamOk F → ∀ (ro : Option Nat) (K : KT) (e : Entry) (r : Mem) (β : jKW) (σ : Env) (Φ : Phi) (n : Nat) (a : Act) (w : World),
  F e → vc B L pl c K σ Φ n → Sat B e N r β σ Φ a w → jN0 σ → c.wpIn (fc ro) 0 B.P (QK B F N K) a w
theorem jVW {B : Base} {e : Entry} {N : Nat} {r0 : Mem} {β0 : jKW} {Φ0 : Phi} {σI : Env} {ΦI : Phi} {rec : Loop} {l : Nat} {ap : Act} {S : Nat → Prop} {W : World} {r' : Mem} {β' : jKW}
  (j : JS B e N r0 β0 Φ0 σI ΦI rec l ap S W r' β') (hel : ¬ e.S l) (hst : Stb Φ0 σI) (hag0 : Agree r0 β0 σI ap.tmps)
  {r1 : Mem} {β1 : jKW} {Φ1 : Phi} {W1 W2 : World} (k1 : Kept (Entry.of r' β' ΦI W) r1 β1 Φ1 W1) (hW2 : ∀ b,b ≠ l → W2.heap[b]? = W1.heap[b]?) (hsz : W2.heap.size = W1.heap.size) (hos : W2.os = W1.os ∧ W2.tape = W1.tape ∧ W2.output = W1.output)
  {lo : Nat → Prop} {r3 : Mem} {β3 : jKW} {Φ3 : Phi} {W3 : World} (k3 : Kept ⟨r1,hidS r1 β1 Φ1 W1,lo, β1, Φ1,W2⟩ r3 β3 Φ3 W3) (m3 : MemSat r3 β3 Φ3 W3) (G3 : B.G r3) (o : Obj) :
  Sat B e N r3 β3 σI Φ3 ap (W3.putObj l o) ∧ r0.le r3 ∧ jR8 β0 Φ0 β3 Φ3 ∧ r3 l = none ∧ (∀ id ch,Phi.get Φ3 id = some ch → ¬ ch.hb (β3 id) l) ∧
   Own S W (W3.putObj l o) ∧ (∀ b,hidS r' β' ΦI W b → r3 b = none ∧ ∀ id ch,Phi.get Φ3 id = some ch → ¬ ch.hb (β3 id) b) ∧ l < W3.heap.size := by
 have hlW : l < W.heap.size := lt_of_heap j.rc
 have hidl : hidS r' β' ΦI W l := ⟨hlW,j.hr,j.hΦ⟩
 have both : ∀ b,hidS r' β' ΦI W b → (b ≠ l → W3.heap[b]? = W.heap[b]?) ∧ r3 b = none ∧ ∀ id ch,Phi.get Φ3 id = some ch → ¬ ch.hb (β3 id) b := by
  intro b hb
  obtain ⟨x1,x2,x3⟩ := k1.block b hb
  have hb1 : hidS r1 β1 Φ1 W1 b := ⟨Nat.lt_of_lt_of_le hb.1 k1.size,x2,x3⟩
  obtain ⟨y1,y2,y3⟩ := k3.block b hb1
  exact ⟨fun hne => y1.trans ((hW2 b hne).trans x1),y2,y3⟩
 have hle : r0.le r3 := Mem.le_trans j.le (Mem.le_trans k1.le k3.le)
 have hkh : jR8 β0 Φ0 β3 Φ3 := (j.kh.trans k1.keep).trans k3.keep
 have hsize : W.heap.size ≤ W3.heap.size := Nat.le_trans k1.size (by rw [← hsz];exact k3.size)
 have hl3 : l < W3.heap.size := Nat.lt_of_lt_of_le hlW hsize
 have get : ∀ b,b ≠ l → (W3.putObj l o).heap[b]? = W3.heap[b]? := fun b hb => World.putObj_heap_other hb
 have eos : W3.os = W.os ∧ W3.tape = W.tape ∧ W3.output = W.output := ⟨k3.os.trans (hos.1.trans k1.os),k3.tape.trans (hos.2.1.trans k1.tape),k3.output.trans (hos.2.2.trans k1.output)⟩
 obtain ⟨_,hrl,hΦl⟩ := both l hidl
 refine ⟨⟨hst.agree hag0 hle hkh,⟨fun b ob hb => ?_,fun id ch hi => ?_,m3.sep,m3.nod⟩,G3,⟨Mem.le_trans j.sat.kept.le (Mem.le_trans k1.le k3.le),eos.1.trans j.sat.kept.os,eos.2.1.trans j.sat.kept.tape,eos.2.2.trans j.sat.kept.output,by rw [World.putObj_size];exact Nat.le_trans j.sat.kept.size hsize,fun b hb => ?_,fun id ch hid hk => ?_,j.sat.kept.slt⟩,?_,j.sat.size⟩,
  hle,hkh,hrl,hΦl,⟨eos.1,eos.2.1,eos.2.2,by rw [World.putObj_size];exact hsize,fun b hb hnS => ?_⟩,fun b hb => (both b hb).2,hl3⟩
 ·rw [get b (fun he => by rw [he,hrl] at hb;cases hb)];exact m3.vis b ob hb
 ·exact (m3.chs _ _ hi).keep (Mem.le_refl r3) (fun b hb => get b (fun he => hΦl id ch hi (he ▸ hb))) (fun _ _ _ _ _ _ _ h => h)
 ·obtain ⟨x1,x2,x3⟩ := j.sat.kept.block b hb
  have hbW : b < W.heap.size := Nat.lt_of_lt_of_le (j.sat.kept.slt b hb) j.sat.kept.size
  have hne : b ≠ l := fun he => hel (he ▸ hb)
  obtain ⟨y1,y2,y3⟩ := both b ⟨hbW,x2,x3⟩
  exact ⟨(get b hne).trans ((y1 hne).trans x1),y2,y3⟩
 ·obtain ⟨q1,ch',q2,q3⟩ := j.sat.kept.keep id ch hid hk
  obtain ⟨p1,ch1,p2,p3⟩ := k1.keep id ch' q2 (by rw [q3];exact hk)
  obtain ⟨t1,ch3,t2,t3⟩ := k3.keep id ch1 p2 (by rw [p3,q3];exact hk)
  exact ⟨t1.trans (p1.trans q1),ch3,t2,t3.trans (p3.trans q3)⟩
 ·obtain ⟨Ds,h1,h2,h3⟩ := j.sat.defers
  refine ⟨Ds,h1,h2,fun D hD => ?_⟩
  obtain ⟨g1,g2,g3,g4⟩ := h3 D hD
  have hne : D ≠ l := fun he => j.notD Ds h1 (he ▸ hD)
  obtain ⟨y1,y2,y3⟩ := both D ⟨lt_of_heap g2,g3,g4⟩
  exact ⟨g1,(get D hne).trans ((y1 hne).trans g2),y2,y3⟩
 ·-- what is not the loop's has not turned
  have hnl : b ≠ l := fun he => hnS (by rw [j.S];exact .inr (.inr (.inr (.inl he))))
  rw [get b hnl]
  cases hq : r' b with
  | some ob =>
   have h3 : r3 b = some ob := k3.le b ob (k1.le b ob hq)
   rw [m3.vis b ob h3,j.sat.mem.vis b ob hq]
  | none =>
   exact (both b ⟨hb,hq,fun id ch hi hbk => hnS (by rw [j.S];exact .inr (.inl ⟨id,ch,hi,hbk⟩))⟩).1 hnl
end Go.Vc

namespace Go.Vc
set_option autoImplicit false
theorem jbA {r r' : Mem} {β : jKW} {sv : SV} {v : Value} (h : Rel r β sv v) (hp : sv.rf0 = true) : Rel r' β sv v := by
 cases h with
 | int => exact .int
 | bool => exact .bool
 | str h => exact .str h
 | v => exact .v
 | loc h => exact .loc h
 | own h => exact .own h
 | nk h hi ho => exact .nk h hi ho
 | nils => exact .nils
 | oel h => exact .oel h
 | mref h => exact .mref h
 | otl h hk hn => exact .otl h hk hn
 | flt => exact .flt
 | cpx => exact .cpx
 | und => exact .und
 | _ => cases hp
theorem jWN : ∀ {l : List SV},jfJ l = true → ∀ (i : Nat) (sv : SV),l[i]? = some sv → sv.rf0 = true
 | [],_,i,sv,hi => by simp at hi
 | x :: r,h,i,sv,hi => by
  simp only [jfJ,Bool.and_eq_true] at h
  cases i with
  | zero => simp at hi;subst hi;exact h.1
  | succ i => simp at hi;exact jWN h.2 i sv hi
theorem jmJ {r r' : Mem} {β : jKW} {sv : SV} {v : Value} (h : Rel r β sv v) (hp : sv.rf = true) : Rel r' β sv v := by
 cases sv with
 | agg l => cases h with | agg hl h => exact .agg hl fun i sv v q1 q2 => jbA (h i sv v q1 q2) (jWN hp i sv q1)
 | fn f l => cases h with | fn hl h => exact .fn hl fun i sv v q1 q2 => jbA (h i sv v q1 q2) (jWN hp i sv q1)
 | _ => exact jbA h hp
theorem jrI (x : SV) : x.unf.rf = true := by
 unfold SV.unf
 cases h : x.rf with
 | true => exact h
 | false => rfl
theorem jjF {r r' : Mem} {β : jKW} {sv : SV} {v : Value} (h : Rel r β sv v) : Rel r' β sv.unf v := by
 unfold SV.unf
 cases hq : sv.rf with
 | true => exact jmJ h hq
 | false => exact .und
theorem jdT : ∀ {σ : Env} {k : Nat} {g sv},Env.get (jf3 σ) k = some (g,sv) → ∃ sv0,Env.get σ k = some (g,sv0) ∧ sv = sv0.unf
 | [],k,g,sv,h => by cases h
 | (k0,g0,s0) :: r,k,g,sv,h => by
  have h : (bif Nat.beq k0 k then some (g0,s0.unf) else Env.get (jf3 r) k) = some (g,sv) := h
  show ∃ sv0,(bif Nat.beq k0 k then some (g0,s0) else Env.get r k) = some (g,sv0) ∧ _
  cases hb : Nat.beq k0 k with
  | true => rw [hb] at h;simp only [cond_true,Option.some.injEq,Prod.mk.injEq] at h;exact ⟨s0,by simp [h.1],h.2.symm⟩
  | false => rw [hb] at h;simp only [cond_false] at h ⊢;exact jdT h
theorem jNZ : ∀ (Φ : Phi) (k : Nat),Phi.get (jMJ Φ) k = (Phi.get Φ k).map Chunk.unf
 | [],k => rfl
 | (k0,c) :: r,k => by
  show (bif Nat.beq k0 k then some c.unf else Phi.get (jMJ r) k) = (bif Nat.beq k0 k then some c else Phi.get r k).map Chunk.unf
  cases Nat.beq k0 k with
  | true => rfl
  | false => exact jNZ r k
theorem jdU : ∀ {Φ : Phi},jWU Φ = true → ∀ {k : Nat} {c : Chunk},Phi.get Φ k = some c → c.okF = true
 | [],_,k,c,h => by cases h
 | (k0,c0) :: r,h,k,c,hg => by
  simp only [jWU,Bool.and_eq_true] at h
  have hg : (bif Nat.beq k0 k then some c0 else Phi.get r k) = some c := hg
  cases hb : Nat.beq k0 k with
  | true => rw [hb] at hg;simp only [cond_true,Option.some.injEq] at hg;rw [← hg];exact h.1
  | false => rw [hb] at hg;exact jdU h.2 hg
theorem jV4 {c : Chunk} {v : Value} {b : Nat} : c.unf.hb v b ↔ c.hb v b := by
 cases c with
 | bx T cs => cases v with
  | pointer p => cases p <;> exact Iff.rfl
  | _ => exact Iff.rfl
 | _ => exact Iff.rfl
theorem jeF {c : Chunk} : c.unf.kind = c.kind := by cases c <;> rfl
theorem jnL {c : Chunk} {r r' : Mem} {β : jKW} {w : World} {x : Value} (h : c.Sat r β w x) (ok : c.okF = true) : c.unf.Sat r' β w x := by
 cases c with
 | bx T cs =>
  cases h with
  | box hx hw hl h hT =>
   refine .box hx hw (by simpa using hl) (fun i sv v q1 q2 => ?_) hT
   rw [List.getElem?_map] at q1
   obtain ⟨sv0,e1,rfl⟩ := Option.map_eq_some_iff.1 q1
   exact jjF (h i sv0 v e1 q2)
 | own τ l => exact jM7 h ok
 | ow τ l =>
  cases h with
  | ow h =>
   have := jM7 (r2 := r') (β := β) (Chunk.Sat.own h) ok
   cases this with
   | own h => exact .ow h
 | _ => cases ok
theorem Sat.free {B : Base} {e : Entry} {N : Nat} {r1 r : Mem} {β : jKW} {σ : Env} {Φ : Phi} {a : Act} {w : World} (s : Sat B e N r1 β σ Φ a w) (hle : r.le r1) (he : e.r.le r) (hG : B.G r) (hok : jWU Φ = true)
  (hσ : ∀ k g sv,Env.get σ k = some (g,sv) → g = none ∧ sv.rf = true) : Sat B e N r β σ (jMJ Φ) a w := by
 have gt : ∀ {id ch},Phi.get (jMJ Φ) id = some ch → ∃ c0,Phi.get Φ id = some c0 ∧ ch = c0.unf := fun h => by
  rw [jNZ] at h
  obtain ⟨c0,h1,h2⟩ := Option.map_eq_some_iff.1 h
  exact ⟨c0,h1,h2.symm⟩
 refine ⟨fun k g sv hk => ?_,⟨fun b o hb => s.mem.vis b o (hle b o hb),fun id ch hi => ?_,fun id ch b hi hb => ?_,fun id id' ch ch' b h1 h2 h3 h4 => ?_⟩,hG,⟨he,s.kept.os,s.kept.tape,s.kept.output,s.kept.size,fun b hb => ?_,fun id ch hid hk => ?_,s.kept.slt⟩,?_,s.size⟩
 ·obtain ⟨rfl,hr⟩ := hσ k g sv hk
  obtain ⟨v,p1,p2⟩ := s.agree k none sv hk
  exact ⟨v,p1,jmJ p2 hr⟩
 ·obtain ⟨c0,h0,rfl⟩ := gt hi
  exact jnL (s.mem.chs _ _ h0) (jdU hok h0)
 ·obtain ⟨c0,h0,rfl⟩ := gt hi
  exact jMY hle (s.mem.sep id c0 b h0 (jV4.1 hb))
 ·obtain ⟨c0,h0,rfl⟩ := gt h1
  obtain ⟨c1,h5,rfl⟩ := gt h2
  exact s.mem.nod id id' c0 c1 b h0 h5 (jV4.1 h3) (jV4.1 h4)
 ·obtain ⟨x1,x2,x3⟩ := s.kept.block b hb
  exact ⟨x1,jMY hle x2,fun id ch hi hbk => by obtain ⟨c0,h0,rfl⟩ := gt hi;exact x3 id c0 h0 (jV4.1 hbk)⟩
 ·obtain ⟨y1,ch',y2,y3⟩ := s.kept.keep id ch hid hk
  exact ⟨y1,ch'.unf,by rw [jNZ,y2];rfl,by rw [jeF];exact y3⟩
 ·obtain ⟨Ds,h1,h2,h3⟩ := s.defers
  refine ⟨Ds,h1,h2,fun D hD => ?_⟩
  obtain ⟨g1,g2,g3,g4⟩ := h3 D hD
  exact ⟨g1,g2,jMY hle g3,fun id ch hi hbk => by obtain ⟨c0,h0,rfl⟩ := gt hi;exact g4 id c0 h0 (jV4.1 hbk)⟩
theorem Sat.up {B : Base} {e : Entry} {N : Nat} {r r' : Mem} {β : jKW} {σ : Env} {Φ : Phi} {a : Act} {w : World} (s : Sat B e N r β σ Φ a w) (hle : r.le r') (hvis : ∀ b o,r' b = some o → w.heap[b]? = some o)
  (h1 : ∀ b,e.S b → r' b = none) (h2 : ∀ id ch b,Phi.get Φ id = some ch → ch.hb (β id) b → r' b = none) (h3 : ∀ (Ds : List Nat) D,a.defers = Ds.map mkD → D ∈ Ds → r' D = none) : Sat B e N r' β σ Φ a w := by
 refine ⟨s.agree.of fun k g sv hk => ⟨sv,hk,fun v hr => hr.mono hle⟩,⟨hvis,fun id ch hi => (s.mem.chs _ _ hi).keep hle (fun _ _ => rfl) (fun _ _ _ _ _ _ _ h => h),h2,s.mem.nod⟩,B.mono _ _ hle s.G,⟨Mem.le_trans s.kept.le hle,s.kept.os,s.kept.tape,s.kept.output,s.kept.size,fun b hb => ?_,s.kept.keep,s.kept.slt⟩,?_,s.size⟩
 ·obtain ⟨x1,x2,x3⟩ := s.kept.block b hb
  exact ⟨x1,h1 b hb,x3⟩
 ·obtain ⟨Ds,k1,k2,k3⟩ := s.defers
  refine ⟨Ds,k1,k2,fun D hD => ?_⟩
  obtain ⟨g1,g2,g3,g4⟩ := k3 D hD
  exact ⟨g1,g2,h3 Ds D k1 hD,g4⟩
theorem jR8.unf {β : jKW} {Φ : Phi} {β' : jKW} {Φ' : Phi} (h : jR8 β Φ β' Φ') : jR8 β Φ β' (jMJ Φ') := fun id ch hi hk => by
 obtain ⟨h1,ch',h2,h3⟩ := h id ch hi hk
 exact ⟨h1,ch'.unf,by rw [jNZ,h2];rfl,by rw [jeF];exact h3⟩
theorem jRK {Φ : Phi} {id : Nat} {ch : Chunk} {v : Value} {b : Nat} (h : Phi.get (jMJ Φ) id = some ch) (hb : ch.hb v b) : ∃ c0,Phi.get Φ id = some c0 ∧ c0.hb v b := by
 rw [jNZ] at h
 obtain ⟨c0,h1,rfl⟩ := Option.map_eq_some_iff.1 h
 exact ⟨c0,h1,jV4.1 hb⟩
theorem jhU {Φ : Phi} {sv : SV} (h : jXC Φ sv = true) : jXC Φ sv.unf = true := by
 unfold SV.unf
 cases sv.rf with
 | true => exact h
 | false => rfl
theorem jZJ {B : Base} {F : Entry → Prop} {e : Entry} {N : Nat} {L : List Nat} {pl : List (Nat × List Nat)} (hlen : B.Y.len = 0) (hFam : FamOk F) {f : FuncId} {caps : List SV} {ps : List Nat} {x y : Code} {K : KT} {σ : Env} {Φ : Phi} {r : Mem} {β : jKW} {a : Act} {w : World} {g : Operand} {cs : List Value}
    (ihx : IH B N L pl x) (ihy : IH B N L pl y) (hps : ∀ p ∈ ps,p < N)
    {pre : Prop} {len : Nat} {at_ : Nat → List SV} (it : It B f caps pre len at_) (hp : Ob pre) (hpl : SV.okIdsL (fun _ => false) caps = true) {α : Type} (F' : α → Phi) (m : Nat) (C : Nat → α → Prop) (a0 : α) (h0 : C 0 a0)
    (he : jRC Φ σ L fun σP => jNE L [] (F' a0) σP Φ fun σI ΦI => bif jWU ΦI then jQ7 (jf3 σI) Φ (jf3 σI) ΦI Φ else False)
    (hr : ∀ i a,C i a → i < len → jRC Φ σ L fun σP => jNE L [] (F' a) σP Φ fun σI ΦI => bif jWU ΦI && SV.okIdsL (fun _ => false) (at_ i) then joO ps (at_ i) (jf3 σI) fun σr => vc B L pl x (fun ex σ1 Φ1 n1 =>
        match ex with
        | .normal => vc B L pl y (fun ex σ' Φ' n' =>
          match ex with
          | .normal => Rnd (∃ a',C (i + 1) a' ∧ jNE L [] (F' a') σP Φ fun σI ΦI => bif jWU ΦI then jQ7 (jf3 σI) Φ' (jf3 σI) ΦI Φ else False)
          | ex => bif jWU Φ' then K ex (jf3 σI) (jMJ Φ') n' else False) σ1 Φ1 n1
        | _ => False) σr (jMJ ΦI) m else False)
    (hend : ∀ a,C len a → jRC Φ σ L fun σP => jNE L [] (F' a) σP Φ fun σI ΦI => bif jWU ΦI then K .normal (jf3 σI) (jMJ ΦI) m else False)
    (s : Sat B e N r β σ Φ a w) (hF : F e) (hgv : a.eval g = .func (.func f) #[] cs.toArray) (hcs : jKS r β caps cs) :
    (Code.rangeFunc g ⟨ps⟩ x y).wpIn (fc none) 0 B.P (QK B F N K) a w := by
  rw [jPX,jLE] at he
  have hrS := hr
  obtain ⟨σI,hσI⟩ : ∃ σI, σI = jf3 (purge L (jjG [] (jf2 Φ σ L))) := ⟨_,rfl⟩
  rw [← hσI] at he
  have hsub : ∀ k g sv,Env.get σI k = some (g,sv) → ∃ sv0,Env.get σ k = some (none,sv0) ∧ g = none ∧ jXC Φ sv0 = true ∧ sv = sv0.unf := by
    intro k g sv hk
    rw [hσI] at hk
    obtain ⟨sv0,hk1,rfl⟩ := jdT hk
    obtain ⟨hg,hk'⟩ := jPR hk1
    subst hg
    obtain ⟨_,h2,h3⟩ := jXT (show Env.get (jf2 Φ σ L) k = some (none,sv0) from hk')
    exact ⟨sv0,h3,rfl,h2,rfl⟩
  have hst : Stb Φ σI := by
    intro k g sv hk
    obtain ⟨sv0,_,h2,h3,rfl⟩ := hsub k g sv hk
    exact ⟨h2,jhU h3⟩
  have hng : jN0 σI := fun k g sv hk => (hsub k g sv hk).elim fun _ h => h.2.1
  have hrf : ∀ k g sv,Env.get σI k = some (g,sv) → g = none ∧ sv.rf = true := fun k g sv hk => by
    obtain ⟨sv0,_,h2,h3,rfl⟩ := hsub k g sv hk
    exact ⟨h2,jrI sv0⟩
  have hagI : Agree r β σI a.tmps := s.agree.of fun k g sv hk => by
    obtain ⟨sv0,h1,rfl,_,rfl⟩ := hsub k g sv hk
    exact ⟨sv0,h1,fun v hv => jjF hv⟩
  refine wpIn_rangeFunc fun fn hfn => ?_
  obtain ⟨rec,hrec⟩ : ∃ rec : Loop,rec = { state := .ready,pending := none,fn := fn,tmps := a.tmps,params := ⟨ps⟩,assign := x,body := y,defers := w.heap.size } := ⟨_,rfl⟩
  obtain ⟨W0,hW0⟩ : ∃ W0 : World,W0 = (w.alloc (.deferred (some []))).alloc (.loop rec) := ⟨_,rfl⟩
  obtain ⟨l,hl⟩ : ∃ l : Nat,l = w.heap.size + 1 := ⟨_,rfl⟩
  obtain ⟨ap,hap⟩ : ∃ ap : Act,ap = { a with defers := [mkD w.heap.size] ++ a.defers } := ⟨_,rfl⟩
  have hent : (Instr.enterLoop fn a.tmps ⟨ps⟩ x y none).run B.P w = .ok (l,[mkD w.heap.size]) W0 := by
    rw [hl,hW0,hrec];exact run_enterLoop_outer fn a.tmps ⟨ps⟩ x y
  have hheap : W0.heap = (w.heap.push (.deferred (some []))).push (.loop rec) := by rw [hW0];rfl
  have hgrow : Grows w W0 := ⟨by rw [hW0];rfl,by rw [hW0];rfl,by rw [hW0];rfl,by rw [hheap];simp;omega,fun b hb => by
    rw [hheap,Array.getElem?_push,if_neg (by simp;omega),Array.getElem?_push,if_neg (by omega)]⟩
  have hl0 : W0.heap[l]? = some (.loop rec) := by
    rw [hheap,hl,Array.getElem?_push,if_pos (by simp)]
  have hD0 : W0.heap[w.heap.size]? = some (.deferred (some [])) := by
    rw [hheap,Array.getElem?_push,if_neg (by simp),Array.getElem?_push,if_pos rfl]
  have newn : ∀ b,w.heap.size ≤ b → r b = none ∧ ∀ id ch,Phi.get Φ id = some ch → ¬ ch.hb (β id) b := by
    intro b hb
    refine ⟨?_,fun id ch h1 h2 => by have := jNR s.mem h1 h2;omega⟩
    cases hq : r b with
    | none => rfl
    | some o => have := lt_of_heap (s.mem.vis b o hq);omega
  obtain ⟨m0,hid0⟩ := jUT s.mem hgrow
  have s0 : Sat B e N r β σI Φ ap W0 := by
    refine ⟨by rw [hap];exact hagI,m0,s.G,s.kept.step (Mem.le_refl r) hid0,?_,by rw [hap];exact s.size⟩
    obtain ⟨Ds,h1,h2,h3⟩ := s.defers
    refine ⟨w.heap.size :: Ds,by rw [hap];show [mkD w.heap.size] ++ a.defers = _;rw [h1];rfl,List.nodup_cons.2 ⟨fun hm => ?_,h2⟩,fun D hD => ?_⟩
    · obtain ⟨g1,g2,_⟩ := h3 _ hm
      have := lt_of_heap g2;omega
    · rcases List.mem_cons.1 hD with rfl | hD
      · exact ⟨hFam.lo e hF _ s.kept.size,hD0,(newn _ (Nat.le_refl _)).1,(newn _ (Nat.le_refl _)).2⟩
      · obtain ⟨g1,g2,g3,g4⟩ := h3 D hD
        exact ⟨g1,(hgrow.old D (lt_of_heap g2)).trans g2,g3,g4⟩
  have hks : ∀ id ch,Phi.get e.Φ id = some ch → ch.kind ≠ 0 → ∃ ch0,Phi.get Φ id = some ch0 ∧ ch0.kind = ch.kind := fun id ch h hk => (s.kept.keep id ch h hk).2
  have hel : ¬ e.S l := fun hS => by
    have := s.kept.slt l hS
    have := s.kept.size
    omega
  have hagP : Agree r β σI ap.tmps := by rw [hap];exact hagI
  have her : e.r.le r := s.kept.le
  let J : Nat → (Nat → Prop) → World → Prop := fun i S W => ∃ x β',C i x ∧ jWU (jMI (F' x) Φ) = true ∧ JS B e N r β Φ σI (jMJ (jMI (F' x) Φ)) rec l ap S W r β'
  let Jx : (Nat → Prop) → World → Prop := fun S W => ∃ (ex : Ex) (c : Code) (β' : jKW) (Φ' : Phi) (n' : Nat),((ex = .ret ∧ c = .ret) ∨ ∃ id,ex = .exit id ∧ c = .exit id) ∧ K ex σI (jMJ Φ') n' ∧
    JS B e N r β Φ σI (jMJ Φ') { rec with state := .done,pending := some c } l ap S W r β'
  have hJ : ∀ i S W,J i S W → (∀ b,S b → b < W.heap.size ∧ r b = none) ∧ ∀ W',Oth r S W W' → J i S W' := by
    rintro i S W ⟨x, β',hC,hok,hj⟩
    exact ⟨fun b hb => hj.lt hb,fun W' ho => ⟨x, β',hC,hok,hj.stable ho⟩⟩
  have hJx : ∀ S W,Jx S W → (∀ b,S b → b < W.heap.size ∧ r b = none) ∧ ∀ W',Oth r S W W' → Jx S W' := by
    rintro S W ⟨ex,c, β', Φ',n',hc,hK,hj⟩
    exact ⟨fun b hb => hj.lt hb,fun W' ho => ⟨ex,c, β', Φ',n',hc,hK,hj.stable ho⟩⟩
  have hJ0 : ∃ S,J 0 S W0 := by
    cases hok : jWU (jMI (F' a0) Φ) with
    | false => rw [hok] at he;exact he.elim
    | true =>
    rw [hok] at he
    obtain ⟨r1, β1,s1,hle1,hkh1,hH1⟩ := jTG s0 he hng hks
    obtain ⟨q1,q2⟩ := hH1 l (newn l (by omega)).1 (newn l (by omega)).2
    exact ⟨_,a0, β1,h0,hok,s1.free hle1 her s.G hok hrf,Mem.le_refl r,hkh1.unf,hl0,jMY hle1 q1,fun id ch h1 h2 => by obtain ⟨c0,h3,h4⟩ := jRK h1 h2;exact q2 id c0 h3 h4,rfl⟩
  have hY : ∀ i S W r'' β'' vs,J i S W → i < len → r.le r'' → (∀ b o,r'' b = some o → W.heap[b]? = some o) → (∀ b,S b → r'' b = none) → jKS r'' β'' (at_ i) vs → jOT B.P l vs W fun en W' => ∃ b S',en = .returned (.bool b) ∧ Own S W W' ∧ (∀ z,S' z → S z ∨ W.heap.size ≤ z) ∧ (bif b then J (i + 1) S' W' else Jx S' W') := by
    rintro i S W r'' β'' vs ⟨z, β',hC,hok,hj⟩ hi hle'' hvis'' hhid'' hvs
    have hb := hr i z hC hi
    rw [jPX,jLE, ← hσI,hok] at hb
    cases hpl1 : SV.okIdsL (fun _ => false) (at_ i) with
    | false => rw [hpl1] at hb;exact hb.elim
    | true =>
    rw [hpl1] at hb
    have hb : joO ps (at_ i) σI _ := hb
    obtain ⟨σr,hb,hlenp,hpar⟩ := jVV hb
    obtain ⟨ΦI,hΦI⟩ : ∃ ΦI, ΦI = jMJ (jMI (F' z) Φ) := ⟨_,rfl⟩
    rw [← hΦI] at hb hj
    have hSl : S l := by rw [hj.S];exact .inr (.inr (.inr (.inl rfl)))
    have hSc : ∀ id ch b,Phi.get ΦI id = some ch → ch.hb (β' id) b → S b := fun id ch b h1 h2 => by rw [hj.S];exact .inr (.inl ⟨id,ch,h1,h2⟩)
    have j2 : JS B e N r β Φ σI ΦI rec l ap (SJ e r r'' β' ΦI l ap) W r'' β' :=
      ⟨hj.sat.up hle'' hvis'' (fun b hb => hhid'' b (by rw [hj.S];exact .inr (.inr (.inl hb)))) (fun id ch b h1 h2 => hhid'' b (hSc id ch b h1 h2)) (fun Ds D h1 h2 => hhid'' D (by rw [hj.S];exact .inr (.inr (.inr (.inr ⟨Ds,h1,h2⟩))))),hle'',hj.kh,hj.rc,hhid'' l hSl,hj.hΦ,rfl⟩
    have ownS : ∀ {W' : World},Own (SJ e r r'' β' ΦI l ap) W W' → (∀ b o,r'' b = some o → W'.heap[b]? = some o) → Own S W W' := fun q hv => ⟨q.os,q.tape,q.output,q.size,fun b hb hS => by
      cases hq : r'' b with
      | some o => rw [hv b o hq,hvis'' b o hq]
      | none =>
        refine q.same b hb fun h => hS ?_
        rw [hj.S]
        rcases h with ⟨h1,_⟩ | h
        · exact absurd hq h1
        · exact .inr h⟩
    have hvs' : jKS r'' β' (at_ i) vs := ⟨hvs.1,fun k sv v q1 q2 => (hvs.2 k sv v q1 q2).bind (p := fun _ => false) (fun _ h => by cases h) (SV.okIdsL_get hpl1 k sv q1)⟩
    have hsz : vs.toArray.size = rec.params.size := by
      rw [hrec];simp;rw [hvs.1,hlenp]
    refine ⟨rec.fn,_,rec.assign,rec.body,run_yield j2.rc hsz,?_⟩
    have htm : rec.tmps = a.tmps := by rw [hrec]
    have hpm : rec.params = ⟨ps⟩ := by rw [hrec]
    have has : rec.assign = x := by rw [hrec]
    have hbo : rec.body = y := by rw [hrec]
    rw [has,hbo]
    have hfold : (rec.params.zip vs.toArray).foldl (fun tmps (x : Tmp × Value) => tmps.setIfInBounds x.1 x.2) rec.tmps = (ps.zip vs).foldl (fun tmps x => tmps.setIfInBounds x.1 x.2) a.tmps := by
      rw [htm,hpm]
      rw [← Array.foldl_toList]
      simp
    have hagW : Agree r'' β' σI a.tmps := by have := j2.sat.agree;rw [hap] at this;exact this
    have hsza : a.tmps.size = N := s.size
    obtain ⟨hagr,hngr⟩ := hpar hagW hvs' hng (fun p hp => by rw [hsza];exact hps p hp)
    refine roundIn_of_wpIn (F := fc none) trivial ?_
    show x.wpIn (fc (some l)) 0 B.P _ _ W
    have hszr : ∀ (zs : List (Nat × Value)) (t : Array Value),(zs.foldl (fun tmps x => tmps.setIfInBounds x.1 x.2) t).size = t.size := by
      intro zs
      induction zs with
      | nil => intro t;rfl
      | cons q zs ih => intro t;rw [List.foldl_cons,ih];simp
    have sa : Sat B (Entry.of r'' β' ΦI W) N r'' β' σr ΦI { tmps := (rec.params.zip vs.toArray).foldl (fun tmps (x : Tmp × Value) => tmps.setIfInBounds x.1 x.2) rec.tmps,defers := [] } W := by
      refine ⟨by rw [hfold];exact hagr,j2.sat.mem,j2.sat.G,Kept.refl ..,⟨[],rfl,List.nodup_nil,fun D hD => (List.not_mem_nil hD).elim⟩,by rw [hfold,hszr];exact hsza⟩
    refine wpIn_mono (ihx (fun e' => e' = Entry.of r'' β' ΦI W) (YOk.none hlen) (FamOk.one (fun _ h => h)) (some l) _ _ r'' β' σr _ m _ W rfl hb sa hngr) fun ex1 a1 W1 hq => ?_
    cases ex1 with
    | exit i => obtain ⟨_,_,_,_,_,_,_,hk,_⟩ := hq;exact hk.elim
    | ret => obtain ⟨_,_,_,_,_,_,_,hk,_⟩ := hq;exact hk.elim
    | goto l => exact hq.elim
    | panic ch => exact hq.elim
    | outgrown => exact hq.elim
    | normal =>
    obtain ⟨ea,r1, β1, σ1, Φ1,n1,rfl,hbody,s1,hng1⟩ := hq
    have hlW : l < W.heap.size := lt_of_heap j2.rc
    have hidl : hidS r'' β' ΦI W l := ⟨hlW,j2.hr,j2.hΦ⟩
    obtain ⟨hl1,hr1l,hΦ1l⟩ := s1.kept.block l hidl
    have hl1' : W1.heap[l]? = some (.loop rec) := hl1.trans j2.rc
    refine ⟨_,run_beginRound hl1' (by rw [hrec]),?_⟩
    have hW2 : ∀ b,b ≠ l → (W1.putObj l (.loop { rec with state := .busy })).heap[b]? = W1.heap[b]? := fun b hb => World.putObj_heap_other hb
    obtain ⟨W2,hW2e⟩ : ∃ W2,W2 = W1.putObj l (.loop { rec with state := .busy }) := ⟨_,rfl⟩
    rw [← hW2e] at hW2 ⊢
    have hsz2 : W2.heap.size = W1.heap.size := by rw [hW2e];simp
    have hos2 : W2.os = W1.os ∧ W2.tape = W1.tape ∧ W2.output = W1.output := by rw [hW2e];exact ⟨rfl,rfl,rfl⟩
    have sb : Sat B ⟨r1,hidS r1 β1 Φ1 W1,fun D => W.heap.size ≤ D, β1, Φ1,W2⟩ N r1 β1 σ1 Φ1 a1 W2 := by
      rw [hW2e]
      refine jSG s1 (lt_of_heap hl1') hr1l hΦ1l (fun Ds hd hm => ?_) s1.agree rfl s1.size (fun _ h => h) ⟨Mem.le_refl r1,rfl,rfl,rfl,Nat.le_refl _,fun b hb => ⟨rfl,hb.2.1,hb.2.2⟩,fun id ch hi _ => ⟨rfl,ch,hi,rfl⟩,fun b hb => by rw [World.putObj_size];exact hb.1⟩
      obtain ⟨Ds',k1,k2,k3⟩ := s1.defers
      obtain rfl : Ds = Ds' := jXU (hd.symm.trans k1)
      obtain ⟨g1,g2,_⟩ := k3 l hm
      rw [hl1'] at g2;cases g2
    refine wpIn_mono (ihy (fun e' => e' = ⟨r1,hidS r1 β1 Φ1 W1,fun D => W.heap.size ≤ D, β1, Φ1,W2⟩) (YOk.none hlen) (FamOk.one (fun D h => Nat.le_trans (show W.heap.size ≤ W2.heap.size by rw [hsz2];exact s1.kept.size) h)) (some l) _ _ r1 β1 σ1 Φ1 n1 a1 W2 rfl hbody sb hng1) fun ex3 a3 W3 hq => ?_
    have back : ∀ {r3 β3 σ3 Φ3} (s3 : Sat B ⟨r1,hidS r1 β1 Φ1 W1,fun D => W.heap.size ≤ D, β1, Φ1,W2⟩ N r3 β3 σ3 Φ3 a3 W3) (o : Obj),_ := fun s3 o => jVW j2 hel hst hagP s1.kept hW2 hsz2 hos2 s3.kept s3.mem s3.G o
    have recl : ∀ {r3 β3 σ3 Φ3} (s3 : Sat B ⟨r1,hidS r1 β1 Φ1 W1,fun D => W.heap.size ≤ D, β1, Φ1,W2⟩ N r3 β3 σ3 Φ3 a3 W3),W3.heap[l]? = some (.loop { rec with state := .busy }) := by
      intro r3 β3 σ3 Φ3 s3
      obtain ⟨g1,_⟩ := s3.kept.block l ⟨lt_of_heap hl1',hr1l,hΦ1l⟩
      rw [g1,hW2e]
      exact jN4 (lt_of_heap hl1')
    have bounds : ∀ {rn : Mem} {βn : jKW} {Φn : Phi},r''.le rn → (∀ id ch b,Phi.get Φn id = some ch → ch.hb (βn id) b → rn b = none) →
        (∀ b,hidS r'' β' ΦI W b → rn b = none ∧ ∀ id ch,Phi.get Φn id = some ch → ¬ ch.hb (βn id) b) → ∀ b,SJ e r r βn (jMJ Φn) l ap b → S b ∨ W.heap.size ≤ b := by
      intro rn βn Φn hlen hsep hh b hb
      rcases Nat.lt_or_ge b W.heap.size with hlt | hge
      · left
        refine Classical.byContradiction fun hS => ?_
        rcases hb with ⟨h1,h2⟩ | ⟨id,ch,h1,h2⟩ | h1 | h1 | h1
        · exact h1 h2
        · obtain ⟨c0,h3,h4⟩ := jRK h1 h2
          have hn : r'' b = none := jMY hlen (hsep id c0 b h3 h4)
          exact (hh b ⟨hlt,hn,fun id ch hi hbk => hS (hSc id ch b hi hbk)⟩).2 id c0 h3 h4
        · exact hS (by rw [hj.S];exact .inr (.inr (.inl h1)))
        · exact hS (by rw [hj.S];exact .inr (.inr (.inr (.inl h1))))
        · exact hS (by rw [hj.S];exact .inr (.inr (.inr (.inr h1))))
      · exact .inr hge
    have jump : ∀ {r3 β3 σ3 Φ3 n3} (s3 : Sat B ⟨r1,hidS r1 β1 Φ1 W1,fun D => W.heap.size ≤ D, β1, Φ1,W2⟩ N r3 β3 σ3 Φ3 a3 W3) (ex : Ex) (c : Code),((ex = .ret ∧ c = .ret) ∨ ∃ id,ex = .exit id ∧ c = .exit id) → (bif jWU Φ3 then K ex σI (jMJ Φ3) n3 else False) →
        ∃ v w',(Instr.endRound l (some c)).run B.P W3 = .ok v w' ∧ ∃ b S',Ending.returned v = .returned (.bool b) ∧ Own S W w' ∧ (∀ z,S' z → S z ∨ W.heap.size ≤ z) ∧ (bif b then J (i + 1) S' w' else Jx S' w') := by
      intro r3 β3 σ3 Φ3 n3 s3 ex c hc hk
      cases hok3 : jWU Φ3 with
      | false => rw [hok3] at hk;exact hk.elim
      | true =>
      rw [hok3] at hk
      obtain ⟨sB,q1,q2,q3,q4,q5,q6,q7⟩ := back s3 (.loop { rec with state := .done,pending := some c })
      have hl3 : r''.le r3 := Mem.le_trans s1.kept.le s3.kept.le
      exact ⟨_,_,run_endRound (some c) (recl s3),false,_,rfl,ownS q5 (fun b o h => sB.mem.vis b o (hl3 b o h)),bounds hl3 (fun id ch b h1 h2 => s3.mem.sep id ch b h1 h2) q6,ex,c, β3, Φ3,n3,hc,hk,
        sB.free q1 her s.G hok3 hrf,Mem.le_refl r,q2.unf,jN4 q7,jMY q1 q3,fun id ch h1 h2 => by obtain ⟨c0,h3,h4⟩ := jRK h1 h2;exact q4 id c0 h3 h4,rfl⟩
    cases ex3 with
    | normal =>
      obtain ⟨eb,r3, β3, σ3, Φ3,n3,rfl,⟨⟨z',hz',hent⟩⟩,s3,hng3⟩ := hq
      rw [jLE, ← hσI] at hent
      cases hokn : jWU (jMI (F' z') Φ) with
      | false => rw [hokn] at hent;exact hent.elim
      | true =>
      rw [hokn] at hent
      obtain ⟨sB,q1,q2,q3,q4,q5,q6,q7⟩ := back s3 (.loop rec)
      obtain ⟨rn, βn,sn,hlen,hkn,hHn⟩ := jTG sB hent hng hks
      have hrun : (Instr.endRound l none).run B.P W3 = .ok (.bool true) (W3.putObj l (.loop rec)) := by
        rw [run_endRound none (recl s3),hrec];rfl
      have hl3 : r''.le r3 := Mem.le_trans s1.kept.le s3.kept.le
      refine ⟨_,_,hrun,true,SJ e r r βn (jMJ (jMI (F' z') Φ)) l ap,rfl,ownS q5 (fun b o h => sB.mem.vis b o (hl3 b o h)),bounds (Mem.le_trans hl3 hlen) (fun id ch b h1 h2 => sn.mem.sep id ch b h1 h2) (fun b hb => hHn b (q6 b hb).1 (q6 b hb).2),z', βn,hz',hokn,
        sn.free (Mem.le_trans q1 hlen) her s.G hokn hrf,Mem.le_refl r,?_,jN4 q7,jMY q1 q3,fun id ch h1 h2 => by obtain ⟨c0,h3,h4⟩ := jRK h1 h2;exact (hHn l q3 q4).2 id c0 h3 h4,rfl⟩
      refine jR8.unf fun id ch hi hk => ?_
      obtain ⟨y1,y2⟩ := hkn id ch hi hk
      obtain ⟨x1,_⟩ := q2 id ch hi hk
      exact ⟨y1.trans x1,y2⟩
    | ret =>
      obtain ⟨eb,r3, β3, σ3, Φ3,n3,rfl,hk,s3,hng3⟩ := hq
      exact jump s3 .ret .ret (.inl ⟨rfl,rfl⟩) hk
    | exit id =>
      obtain ⟨eb,r3, β3, σ3, Φ3,n3,rfl,hk,s3,hng3⟩ := hq
      exact jump s3 (.exit id) (.exit id) (.inr ⟨id,rfl,rfl⟩) hk
    | goto t => exact hq.elim
    | panic ch => exact hq.elim
    | outgrown => exact hq.elim
  obtain ⟨S0,hJ0⟩ := hJ0
  have hcs0 : jKS r β0 caps cs := ⟨hcs.1,fun k sv v q1 q2 => (hcs.2 k sv v q1 q2).bind (p := fun _ => false) (fun _ h => by cases h) (SV.okIdsL_get hpl k sv q1)⟩
  have mB : MemSat r Go.Vc.β0 [] W0 := ⟨m0.vis,fun id ch h => by simp [Phi.get] at h,fun id ch b h => by simp [Phi.get] at h,fun id id' ch ch' b h => by simp [Phi.get] at h⟩
  have hcall := it.ok hp.h l r J Jx hJ hJx hY Go.Vc.β0 W0 cs S0 s.G mB hcs0 hJ0
  refine ⟨l,[mkD w.heap.size],W0, { target := .fn (.func f) cs.toArray,args := #[jXX l] },W0,f,(jXX l :: cs).toArray,W0,hent,?_,fun _ _ => trivial,?_,fun h => by simp [fc,Fence.wide] at h,jM8.2 (hcall.mono ?_)⟩
  · simp only [rangeCall,resolve,hgv,Deferred.ofValue]
    have e1 : (#[] : Array Value) ++ Array.map a.eval #[Operand.const (Value.func (Fn.yield l) #[] #[])] = #[jXX l] := by simp [jXX,Act.eval]
    rw [e1];rfl
  · have e1 : (#[jXX l] : Array Value) ++ cs.toArray = (jXX l :: cs).toArray := by simp
    simp only [invoke]
    rw [e1]
    exact it.call _ _
  · rintro en W' ⟨⟨v,rfl⟩,S',hj | hj⟩
    · obtain ⟨z, β',hC,hok,hj⟩ := hj
      have hk := hend z hC
      rw [jPX,jLE, ← hσI,hok] at hk
      refine ⟨none,W'.putObj l (.loop { rec with state := .exhausted }),?_,?_⟩
      · have := run_endLoop (P := B.P) hj.rc (by rw [hrec];simp)
        rw [this,hrec]
      · rw [← hap]
        exact ⟨e,r, β', σI,_,m,hF,hk,hj.turn hel _,hng⟩
    · obtain ⟨ex,c, β', Φ',n',hc,hK,hj⟩ := hj
      refine ⟨some c,_,run_endLoop hj.rc (by simp),?_⟩
      rw [← hap]
      rcases hc with ⟨rfl,rfl⟩ | ⟨id,rfl,rfl⟩
      · exact wpIn_ret ⟨e,r, β', σI,_,n',hF,hK,hj.turn hel _,hng⟩
      · exact wpIn_exit ⟨e,r, β', σI,_,n',hF,hK,hj.turn hel _,hng⟩
end Go.Vc
