/- A part of the proof: lemmas and walks that the last text of the claim joins; no condition. -/
import Derived.Test.YtaieeeolaocoaaaShapeTellsTH
import Derived.Test.YtaieeeolaocoaaaShapeTellsTF
set_option linter.unusedVariables false
set_option linter.unusedSimpArgs false
set_option maxHeartbeats 8000000
namespace Go.Vc
open Go.Proofs
set_option maxRecDepth 10000
set_option maxHeartbeats 4000000
def qfC (l : List qAD) : List qAD := l.set 0 (0,0,[],[],[], -1,(l.getD 0 qAB.dflt).kids)
def qY4 (x : List qAD) (k : Nat) : List qAD := qfC (qGT x (qAA x) [] (List.replicate x.length false) k (-1))
def qHO (l : List Int) (i : Int) : Option Nat := (List.range l.length).find? fun k => l.getD k 0 == i
def qSN (t : List qAD) (i : Int) : List qAD := match qHO (qC1 (fin t).L) i with | some k => qY4 (qBB t) k | none => [qGD]
theorem qaN {l : List Int} {i : Int} {k : Nat} (hk : k < l.length) (h : l.getD k 0 = i) (h0 : ∀ j,j < k → l.getD j 0 ≠ i) : qHO l i = some k := by
 unfold qHO
 rw [List.find?_eq_some_iff_append]
 refine ⟨by rw [h];simp,List.range k,(List.range' (k + 1) (l.length - (k + 1))),?_,fun a ha => ?_⟩
 ·rw [List.range_eq_range',List.range_eq_range',show l.length = k + (1 + (l.length - (k + 1))) by omega, ← List.range'_append_1, ← List.range'_append_1]
  simp
  omega
 ·simpa using h0 a (by simpa using ha)
theorem qL9 {l : List Int} {i : Int} (h0 : ∀ j,j < l.length → l.getD j 0 ≠ i) : qHO l i = none := by
 unfold qHO
 rw [List.find?_eq_none]
 intro a ha
 simpa using h0 a (by simpa using ha)
def qKK (t : List qAD) : Prop := qA4 t = true ∧ t.length ≤ 45 ∧ qA4 (qBB t) = true ∧ (fin t).L.length ≤ (qBB t).length ∧ (qBB t).length ≤ 1000
instance hSubN (t : List qAD) (i : Int) : FnM BN 18 [.agg [.rd qAB t],.int .i64 i] [] (qKK t) (.agg [.rd qAB (qSN t i)]) [] := by
 refine FnM.intro (N := 67) [0,1,2,4,5,7,8,9,10,30,39,47] [(10,[0,0,6,0,0,0,6,6,6,6]),(11,[0,1,0,1,1,1,1,1,3,3])] 0 Try.call18 Try.func18 rfl rfl (by kernel_rfl) (fun hpre => ?_)
 obtain ⟨h1,h2,h3,h4,h5⟩ := hpre
 have d := qSZ (qAA t) t.length
 have hlI : (fin t).I.length = t.length := d.lI
 have hll : (qC1 (fin t).L).length = (fin t).L.length := by unfold qC1;rw [List.length_map]
 have hL : (fin t).L.length ≤ 45 := by have := qHE d.nod d.lt;have e : (qRE (qAA t) t.length).L = (fin t).L := rfl;rw [e] at this;omega
 have pp : ∀ k : Nat,k < (fin t).L.length → qd2 (qBB t) [] (List.replicate (qBB t).length false) (k : Int) := fun k hk => by
  have h := qFE ((List.replicate (qBB t).length false).set (k : Int).toNat true)
  rw [List.length_set,List.length_replicate] at h
  exact ⟨h3,List.length_replicate,⟨by omega,by omega⟩,by show 0 + _ + 1 ≤ 5000;omega⟩
 have hin : ∀ j,j < (qC1 (fin t).L).length → (qC1 (fin t).L).getD j 0 = i → 0 ≤ i ∧ i < ((fin t).I.length : Int) ∧ ¬ (fin t).I.getD i.toNat qAJ.dflt < 0 := fun j hj e => by
  rw [hll] at hj
  have hm : (fin t).L.getD j 0 ∈ (fin t).L := by rw [List.getD_eq_getElem?_getD,List.getElem?_eq_getElem hj];exact List.getElem_mem _
  have e2 : (qC1 (fin t).L).getD j 0 = ((fin t).L.getD j 0 : Nat) := by unfold qC1;simp [List.getD,hj]
  have e3 : i.toNat = (fin t).L.getD j 0 := by omega
  have hlt := d.lt _ hm
  have hr := d.rI _ hm
  have e4 : (fin t).I.getD i.toNat qAJ.dflt = (qRE (qAA t) t.length).I.getD ((fin t).L.getD j 0) (-1) := by
   rw [e3]
   show (fin t).I.getD _ _ = (fin t).I.getD _ _
   simp [List.getD,show (fin t).L[j]?.getD 0 < (fin t).I.length by rw [hlI];exact hlt]
  rw [e4,hlI]
  have hlt2 : (fin t).L.getD j 0 < t.length := hlt
  omega
 repeat' ((conv => whnf);first|(with_reducible first|rfl|exact qAH|exact qAG)|exact True.intro|intro _|refine WA ?_ ?_|refine WF ?_|refine W1 rfl ?_ ?_|refine W2 rfl ?_ ?_|refine W3 rfl ?_ ?_|refine W4 ?_ ?_|refine W5 rfl ?_ ?_|refine W6 ?_ ?_|refine WN ?_|refine X1 (W1 rfl ?_ ?_)|refine X1 (W2 rfl ?_ ?_)|refine X2 (W7 rfl ?_ ?_)|refine X3 (W7 rfl ?_ ?_)|refine X4 (W7 rfl ?_ ?_)|refine X5 (W7 rfl ?_ ?_))
 all_goals (try (conv => whnf))
 all_goals (try first|exact obA|refine Ob.mk ?_)
 ·have h := ‹(decide (i < 0) || decide (i ≥ ((fin t).I.length : Int))) = false›
  simp only [Bool.or_eq_false_iff,decide_eq_false_iff_not] at h
  omega
 ·have h := ‹(decide (i < 0) || decide (i ≥ ((fin t).I.length : Int)) || decide ((fin t).I.getD i.toNat qAJ.dflt < 0)) = true›
  simp only [Bool.or_eq_true,decide_eq_true_eq] at h
  unfold qSN
  rw [qL9 (fun j hj e => by have := hin j hj e;omega)]
 refine LoopStop.mk (α := Nat) (fun k => [(9,.int .i64 k)]) (fun _ => []) 20 (fun k => k ≤ (qC1 (fin t).L).length ∧ ∀ j,j < k → (qC1 (fin t).L).getD j 0 ≠ i) (fun k => (qC1 (fin t).L).length - k) 0 ⟨Nat.zero_le _,fun j hj => absurd hj (Nat.not_lt_zero _)⟩ ?_ (fun k hk => ?_)
 ·all_goals exact vcA
 ·obtain ⟨hk,ha⟩ := hk
  repeat' ((conv => whnf);first|(with_reducible first|rfl|exact qAH|exact qAG)|exact True.intro|intro _|refine WA ?_ ?_|refine WF ?_|refine W1 rfl ?_ ?_|refine W2 rfl ?_ ?_|refine W3 rfl ?_ ?_|refine W4 ?_ ?_|refine W5 rfl ?_ ?_|refine W6 ?_ ?_|refine WN ?_|refine X1 (W1 rfl ?_ ?_)|refine X1 (W2 rfl ?_ ?_)|refine X2 (W7 rfl ?_ ?_)|refine X3 (W7 rfl ?_ ?_)|refine X4 (W7 rfl ?_ ?_)|refine X5 (W7 rfl ?_ ?_))
  all_goals (try (conv => whnf))
  all_goals (try first|exact obA|refine Ob.mk ?_)
  all_goals (try simp only [Int.toNat_natCast] at *)
  all_goals (try (have hp : k < (qC1 (fin t).L).length := by have h := of_decide_eq_true ‹decide ((k : Int) < ((qC1 (fin t).L).length : Int)) = true›;omega))
  all_goals (try (exact pp k (by omega)))
  all_goals (try (have hlen := qGA (t := qBB t) (K := qAA (qBB t)) [] (List.replicate (qBB t).length false) k (-1)))
  all_goals (try (have hl1 : 1 ≤ (qGT (qBB t) (qAA (qBB t)) [] (List.replicate (qBB t).length false) k (-1)).length := hlen.1))
  all_goals clear hlen
  all_goals (try (first | omega | (constructor <;> omega)))
  ·unfold qSN
   rw [qaN hp (show (qC1 (fin t).L).getD k qAJ.dflt = i from beq_iff_eq.1 ‹((qC1 (fin t).L).getD k qAJ.dflt == i) = true›) ha]
   rfl
  ·refine Rnd.mk ⟨k + 1,⟨by omega,fun j hj => ?_⟩,by omega,?_⟩
   ·rcases Nat.lt_or_ge j k with q | q
    ·exact ha j q
    ·have e : j = k := by omega
     rw [e];exact fun (q : (qC1 (fin t).L).getD k qAJ.dflt = i) => absurd (beq_iff_eq.2 q) (by rw [‹((qC1 (fin t).L).getD k qAJ.dflt == i) = false›];decide)
   ·all_goals exact vcA
  ·have e : k = (qC1 (fin t).L).length := by have h := of_decide_eq_false ‹decide ((k : Int) < ((qC1 (fin t).L).length : Int)) = false›;omega
   unfold qSN
   rw [qL9 (fun j hj => ha j (by omega))]
instance hSub14 (t : List qAD) (i : Int) : Fn BB 18 [.agg [.rd qAB t],.int .i64 i] (qKK t) (.agg [.rd qAB (qSN t i)]) :=
 have h := hSubN t i
 ⟨h.call,h.ok⟩
end Go.Vc

namespace Go.Vc
open Go.Proofs
set_option autoImplicit false
theorem qX9 {t : List qAD} {f : Fo} {s' : List Bool} {K : Nat → List Int} (d : D K (s0 t.length) 0 0 f s') : ∀ a ∈ f.lab,a < t.length ∧ a ≠ 0 := fun a ha => by
 have := (qe4 d).2.2.1 a ha
 rw [qeY,Bool.or_eq_false_iff,decide_eq_false_iff_not,decide_eq_false_iff_not] at this
 omega
theorem qcK : ∀ (f : Fo) (i c : Nat) (x : St),(x.run (evF i f c)).L = x.L ++ f.lab := by
 intro f
 induction f with
 | nil => intro i c x;simp [evF,St.run,St.step,Fo.lab]
 | cons a g r ig ir =>
  intro i c x
  show ((x.step (a,(i : Int),c,false)).run (evF a g (c + 1) ++ evF i r (c + 2 + 2 * g.size))).L = _
  rw [qGJ,ir,ig]
  simp [St.step,Fo.lab]
theorem qdF {t : List qAD} (hne : t ≠ []) {f : Fo} {s' : List Bool} (d : D (qAA t) (s0 t.length) 0 0 f s') : fin t = ((st0 t.length).step (0, -1,0,false)).run (evF 0 f 1) := by
 have hn : t.length ≠ 0 := fun e => hne (List.length_eq_zero_iff.1 e)
 unfold fin qRE qON
 rw [if_neg hn]
 show ((st0 t.length).step (0, -1,0,false)).run (qH7 (qAA t) [(0,0)] (s0 t.length) 1) = _
 unfold qH7
 rw [qeG d]
 show ((st0 t.length).step (0, -1,0,false)).run (evF 0 f 1 ++ []) = _
 rw [List.append_nil]
theorem qb8 {t : List qAD} (hne : t ≠ []) {f : Fo} {s' : List Bool} (d : D (qAA t) (s0 t.length) 0 0 f s') : (fin t).L = 0 :: f.lab := by
 rw [qdF hne d,qcK];rfl
def mks : Fo → Nat → List (Nat × Nat × Nat)
 | .nil,_ => []
 | .cons a g r,c => (a,c,c + 1 + 2 * g.size) :: (mks g (c + 1) ++ mks r (c + 2 + 2 * g.size))
def sub : Fo → Nat → Option (Nat × Fo)
 | .nil,_ => none
 | .cons a g r,m => if m = 0 then some (a,g) else if m - 1 < g.size then sub g (m - 1) else sub r (m - 1 - g.size)
theorem qfE : ∀ (f : Fo) (m : Nat),m < f.size → ∃ a g,sub f m = some (a,g) := by
 intro f
 induction f with
 | nil => intro m h;exact absurd h (Nat.not_lt_zero _)
 | cons a g r ig ir =>
  intro m h
  simp only [Fo.size] at h
  unfold sub
  by_cases h0 : m = 0
  ·rw [if_pos h0];exact ⟨a,g,rfl⟩
  ·rw [if_neg h0]
   by_cases h1 : m - 1 < g.size
   ·rw [if_pos h1];exact ig _ h1
   ·rw [if_neg h1];exact ir _ (by omega)
theorem qcO : ∀ (f : Fo) (m a : Nat) (g : Fo),sub f m = some (a,g) → f.lab[m]? = some a := by
 intro f
 induction f with
 | nil => intro m a g h;cases h
 | cons b c r ic ir =>
  intro m a g h
  unfold sub at h
  by_cases h0 : m = 0
  ·rw [if_pos h0] at h;cases h;rw [h0];rfl
  ·rw [if_neg h0] at h
   obtain ⟨m,rfl⟩ : ∃ k,m = k + 1 := ⟨m - 1,by omega⟩
   simp only [Fo.lab,List.getElem?_cons_succ,Nat.add_sub_cancel] at h ⊢
   by_cases h1 : m < c.size
   ·rw [if_pos h1] at h
    rw [List.getElem?_append_left (by rw [qGU];exact h1)]
    exact ic _ _ _ h
   ·rw [if_neg h1] at h
    rw [List.getElem?_append_right (by rw [qGU];omega),qGU]
    exact ir _ _ _ h
theorem qXO {t u : List qAD} : ∀ (f : Fo) (m n p a : Nat) (g : Fo),Lay t u f n p → sub f m = some (a,g) → (∃ w : Nat,u.getD (n + m) qAB.dflt = qMU (mkN (t.getD a qAB.dflt) w) (qQ1 (n + m + 1) g)) ∧ Lay t u g (n + m + 1) (n + m) ∧ m + 1 + g.size ≤ f.size := by
 intro f
 induction f with
 | nil => intro m n p a g _ h;cases h
 | cons b c r ic ir =>
  intro m n p a g hl h
  obtain ⟨l1,l2,l3⟩ := hl
  unfold sub at h
  simp only [Fo.size]
  by_cases h0 : m = 0
  ·rw [if_pos h0] at h;cases h;subst h0
   exact ⟨⟨p,l1⟩,l2,by omega⟩
  ·rw [if_neg h0] at h
   by_cases h1 : m - 1 < c.size
   ·rw [if_pos h1] at h
    obtain ⟨q1,q2,q3⟩ := ic _ (n + 1) n a g l2 h
    rw [show n + 1 + (m - 1) = n + m by omega] at q1 q2
    exact ⟨q1,q2,by omega⟩
   ·rw [if_neg h1] at h
    obtain ⟨q1,q2,q3⟩ := ir _ (n + 1 + c.size) p a g l3 h
    rw [show n + 1 + c.size + (m - 1 - c.size) = n + m by omega] at q1 q2
    exact ⟨q1,q2,by omega⟩
end Go.Vc

namespace Go.Vc
open Go.Proofs
set_option autoImplicit false
def F0 (f : Fo) : Fo := .cons 0 f .nil
theorem qbA (f : Fo) : (F0 f).lab = 0 :: f.lab := by simp [F0,Fo.lab]
theorem qdX (f : Fo) : (F0 f).size = 1 + f.size := by simp [F0,Fo.size]
theorem qVM {l : List Int} {i : Int} {k : Nat} (h : qHO l i = some k) : k < l.length ∧ l.getD k 0 = i := by
 unfold qHO at h
 have h1 := List.mem_of_find?_eq_some h
 have h2 := List.find?_some h
 exact ⟨List.mem_range.1 h1,by simpa using h2⟩
theorem qZL {l : List Int} {i : Int} (h : qHO l i = none) : i ∉ l := by
 intro hm
 obtain ⟨k,hk,e⟩ := List.getElem_of_mem hm
 unfold qHO at h
 rw [List.find?_eq_none] at h
 refine h k (List.mem_range.2 hk) ?_
 rw [List.getD_eq_getElem?_getD,List.getElem?_eq_getElem hk]
 simp [e]
theorem qHY {t : List qAD} (h : qA4 t = true) : qA4 (qBB t) = true ∧ (fin t).L.length ≤ (qBB t).length ∧ (qBB t).length ≤ 1000 := by
 by_cases hne : t = []
 ·have e : qBB t = [qGD] := by unfold qBB;rw [if_pos hne]
  rw [e,hne]
  exact ⟨by decide,by decide,by decide⟩
 ·obtain ⟨f,s',d,e⟩ := qWI hne
  obtain ⟨hl,hr⟩ := qYQ t f (mkN (t.getD 0 qAB.dflt) (-1)) rfl rfl
  rw [← e] at hl hr
  have hlen := hl.len
  have hL := qb8 hne d
  have hnd : (F0 f).lab.Nodup := by
   rw [qbA,List.nodup_cons]
   exact ⟨fun q => (qX9 d 0 q).2 rfl,(qe4 d).2.1⟩
  have hle := qHE (n := t.length) hnd (fun v hv => by
   rw [qbA,List.mem_cons] at hv
   rcases hv with rfl | hv
   ·exact List.length_pos_iff.2 hne
   ·exact (qX9 d v hv).1)
  rw [qGU,qdX] at hle
  have hs := qED h
  have hat : ∀ a,a < t.length → (t.getD a qAB.dflt).2.2.2.1.length ≤ 1000 := fun a ha => (qCL h (a : Int) (qA9.2 ⟨by omega,by omega⟩)).1
  refine ⟨?_,by rw [hL,List.length_cons,qGU,hlen];omega,by omega⟩
  unfold qA4
  rw [Bool.and_eq_true,decide_eq_true_eq,List.all_eq_true]
  refine ⟨by omega,fun n hn => ?_⟩
  obtain ⟨q,hq,rfl⟩ := List.getElem_of_mem hn
  have hg : (qBB t).getD q qAB.dflt = (qBB t)[q] := by rw [List.getD_eq_getElem?_getD,List.getElem?_eq_getElem hq];rfl
  rw [Bool.and_eq_true,decide_eq_true_eq,decide_eq_true_eq]
  rw [← hg]
  by_cases h0 : q = 0
  ·subst h0
   rw [hr]
   exact ⟨hat 0 (List.length_pos_iff.2 hne),by show (qQ1 1 f).length ≤ 1000;have := qTB f 1;omega⟩
  ·obtain ⟨a,g,hs2⟩ := qfE f (q - 1) (by omega)
   obtain ⟨⟨w,q1⟩,_,_⟩ := qXO f (q - 1) 1 0 a g hl.lay hs2
   rw [show 1 + (q - 1) = q by omega] at q1
   rw [q1]
   have hgs : g.size ≤ f.size := by have := (qXO f (q - 1) 1 0 a g hl.lay hs2).2.2;omega
   refine ⟨hat a (qX9 d a (List.mem_of_getElem? (qcO f _ _ _ hs2))).1,?_⟩
   show (qQ1 (q + 1) g).length ≤ 1000
   have := qTB g (q + 1);omega
theorem qcW {t : List qAD} (h : qA4 t = true) (h2 : t.length ≤ 45) : qKK t := ⟨h,h2,(qHY h).1,(qHY h).2.1,(qHY h).2.2⟩
end Go.Vc

namespace Go.Vc
open Go.Proofs
set_option maxRecDepth 10000
set_option maxHeartbeats 8000000
theorem qdM {l : List Int} {i : Int} : (qLS l i < 0 → qHO l i = none) ∧ (¬ qLS l i < 0 → (qLS l i).toNat < l.length ∧ qHO l i = some (qLS l i).toNat) := by
 cases hf : qHO l i with
 | none =>
  have hn := qZL hf
  have e : qLS l i = -1 := qOS (by simpa using hn)
  exact ⟨fun _ => rfl,fun h => by rw [e] at h;exact absurd (by decide) h⟩
 | some k =>
  obtain ⟨hk,hki⟩ := qVM hf
  have hno : (l.take k).contains i = false := by
   rw [Bool.eq_false_iff]
   intro hc
   rw [List.contains_iff_mem] at hc
   obtain ⟨j,hj,e⟩ := List.getElem_of_mem hc
   rw [List.length_take] at hj
   unfold qHO at hf
   obtain ⟨_,la,lb,e2,e3⟩ := List.find?_eq_some_iff_append.1 hf
   have hal : la.length = k := by
    have h2 := congrArg (fun l : List Nat => l[la.length]?) e2
    simp only [List.getElem?_append_right (Nat.le_refl _),Nat.sub_self,List.getElem?_cons_zero] at h2
    rw [List.getElem?_range] at h2
    ·exact Option.some.inj h2
    ·have := congrArg List.length e2
     rw [List.length_range,List.length_append,List.length_cons] at this
     omega
   have hjm : j ∈ la := by
    have h2 := congrArg (fun l : List Nat => l[j]?) e2
    simp only [List.getElem?_append_left (by omega : j < la.length)] at h2
    rw [List.getElem?_range (by omega)] at h2
    exact List.mem_of_getElem? h2.symm
   have h4 := e3 j hjm
   rw [List.getElem_take] at e
   rw [List.getD_eq_getElem?_getD,List.getElem?_eq_getElem (by omega)] at h4
   simp [e] at h4
  have e : qLS l i = k := qYI hk hno hki.symm
  exact ⟨fun h => by omega,fun _ => by rw [e];exact ⟨by omega,rfl⟩⟩
instance sSubN (t : List qAD) (i : Int) : FnM BN 17 [.agg [.rd qAB t],.int .i64 i] [] (qKK t) (.agg [.rd qAB (qSN t i)]) [] := by
 refine FnM.intro (N := 28) [0,1,2,4,5,6,12] [(5,[0,1,0,1,1,1,1,1,3,3])] 0 Try.call17 Try.func17 rfl rfl (by kernel_rfl) (fun hpre => ?_)
 obtain ⟨h1,h2,h3,h4,h5⟩ := hpre
 have hll : (qC1 (fin t).L).length = (fin t).L.length := by unfold qC1;rw [List.length_map]
 have hf := @qdM (qC1 (fin t).L) i
 have hlen := fun k => (qGA (t := qBB t) (K := qAA (qBB t)) [] (List.replicate (qBB t).length false) k (-1)).1
 have hs1 : qLS (qC1 (fin t).L) i < 0 → qSN t i = [qGD] := fun h => by unfold qSN;rw [hf.1 h]
 have hs2 : ¬ qLS (qC1 (fin t).L) i < 0 → qSN t i = qY4 (qBB t) (qLS (qC1 (fin t).L) i).toNat := fun h => by unfold qSN;rw [(hf.2 h).2]
 repeat' ((conv => whnf);first|(with_reducible first|rfl|exact qAH|exact qAG)|exact True.intro|intro _|refine WA ?_ ?_|refine WF ?_|refine W1 rfl ?_ ?_|refine W2 rfl ?_ ?_|refine W3 rfl ?_ ?_|refine W4 ?_ ?_|refine W5 rfl ?_ ?_|refine W6 ?_ ?_|refine WN ?_|refine X1 (W1 rfl ?_ ?_)|refine X1 (W2 rfl ?_ ?_)|refine X2 (W7 rfl ?_ ?_)|refine X3 (W7 rfl ?_ ?_)|refine X4 (W7 rfl ?_ ?_)|refine X5 (W7 rfl ?_ ?_))
 all_goals (try (conv => whnf))
 all_goals (try first|exact obA|refine Ob.mk ?_)
 ·rw [hs1 (of_decide_eq_true ‹_›)]
 all_goals (have hn := of_decide_eq_false ‹decide (qLS (qC1 (fin t).L) i < 0) = false›)
 all_goals (have hq := (hf.2 hn).1)
 all_goals (have hlk := hlen (qLS (qC1 (fin t).L) i).toNat;simp only [List.length_nil] at hlk)
 all_goals (first | (rw [hs2 hn];rfl) | exact ⟨h3,by omega,by omega⟩ | exact ⟨Int.le_refl 0,by omega⟩ | (show 0 < _;omega) | trace_state)
instance sSub (t : List qAD) (i : Int) : FnM BB 17 [.agg [.rd qAB t],.int .i64 i] [] (qKK t) (.agg [.rd qAB (qSN t i)]) [] :=
 have h := sSubN t i
 ⟨h.call,h.ok⟩
instance sSize (t : List qAD) : Fn BB 12 [.agg [.rd qAB t]] (t.length ≤ 45) (.int .i64 ((qC1 (fin t).L).length : Nat)) := by
 refine Fn.intro (N := 6) [0,1,2] [] Try.call12 Try.func12 rfl rfl (by kernel_rfl) (fun hpre => ?_)
 repeat' ((conv => whnf);first|(with_reducible first|rfl|exact qAH|exact qAG)|exact True.intro|intro _|refine WA ?_ ?_|refine WF ?_|refine W1 rfl ?_ ?_|refine W2 rfl ?_ ?_|refine W3 rfl ?_ ?_|refine W4 ?_ ?_|refine W5 rfl ?_ ?_|refine W6 ?_ ?_|refine WN ?_|refine X1 (W1 rfl ?_ ?_)|refine X1 (W2 rfl ?_ ?_)|refine X2 (W7 rfl ?_ ?_)|refine X3 (W7 rfl ?_ ?_)|refine X4 (W7 rfl ?_ ?_)|refine X5 (W7 rfl ?_ ?_))
 all_goals (try (conv => whnf))
 all_goals (try first|exact obA|refine Ob.mk ?_)
 all_goals (try rfl)
 all_goals trace_state
end Go.Vc

namespace Go.Vc
open Go.Proofs
set_option maxRecDepth 10000
instance decN1 : DecidableEq (List UInt8) := inferInstance
instance decN2 : DecidableEq (List UInt8 × List UInt8) := instDecidableEqProd
instance decN3 : DecidableEq (Int × List Int) := instDecidableEqProd
instance decN4 : DecidableEq (List (List UInt8 × List UInt8)) := instDecidableEqList
instance decN5 : DecidableEq (List UInt8 × Int × List Int) := instDecidableEqProd
instance decNode : DecidableEq qAD := (instDecidableEqProd : DecidableEq (Int × Int × List UInt8 × List (List UInt8 × List UInt8) × List UInt8 × Int × List Int))
def qcI (K : Nat → List Int) : Nat → List Bool → Nat → Nat → Nat → Option (List Ev × List Bool × Nat)
 | 0,_,_,_,_ => none
 | f + 1,s,i,j,c =>
  if j < (K i).length then
   if okK s ((K i).getD j 0) = true then
    match qcI K f (s.set ((K i).getD j 0).toNat true) ((K i).getD j 0).toNat 0 (c + 1) with
    | none => none
    | some r1 =>
     match qcI K f r1.2.1 i (j + 1) r1.2.2 with
     | none => none
     | some r2 => some ((((K i).getD j 0).toNat,(i : Int),c,false) :: (r1.1 ++ r2.1),r2.2.1,r2.2.2)
   else qcI K f s i (j + 1) c
  else some ([(i,0,c,true)],s,c + 1)
theorem qW5 {K : Nat → List Int} : ∀ (f : Nat) (s : List Bool) (i j c : Nat) (r : List Ev × List Bool × Nat),qcI K f s i j c = some r → dfs K s i j c = r := by
 intro f
 induction f with
 | zero => intro s i j c r h;cases h
 | succ f ih =>
  intro s i j c r h
  rw [qcI] at h
  split at h
  ·rename_i hj
   split at h
   ·rename_i hk
    split at h
    ·cases h
    ·rename_i r1 h1
     split at h
     ·cases h
     ·rename_i r2 h2
      cases h
      rw [qFA hj hk,ih _ _ _ _ _ h1,ih _ _ _ _ _ h2]
   ·rename_i hk
    rw [qCT hj (by simpa using hk)]
    exact ih _ _ _ _ _ h
  ·rename_i hj
   cases h
   exact qCV hj
def qfO (t : List qAD) (f : Nat) : Option St :=
 if t.length = 0 then none else
 match qcI (qAA t) f ((List.replicate t.length false).set 0 true) 0 0 1 with
 | some r => some ((st0 t.length).run ((0, -1,0,false) :: r.1))
 | none => none
theorem qWG {t : List qAD} {f : Nat} {y : St} (h : qfO t f = some y) : fin t = y := by
 unfold qfO at h
 split at h
 ·cases h
 ·rename_i h0
  split at h
  ·rename_i r hr
   cases h
   unfold fin qRE qON
   rw [if_neg h0,qH7,qH7,List.append_nil,qW5 _ _ _ _ _ _ hr]
  ·cases h
def qiG (t : List qAD) (k f : Nat) : Option (List qAD) :=
 match qcI (qAA t) f ((List.replicate t.length false).set k true) k 0 0 with
 | some r => some (({ out := [mkN (t.getD k qAB.dflt) (-1)],P := [0] } : PSt).run t r.1).out
 | none => none
theorem qR9 {t : List qAD} {k f : Nat} {x : List qAD} (h : qiG t k f = some x) : qGT t (qAA t) [] (List.replicate t.length false) k (-1) = x := by
 unfold qiG at h
 split at h
 ·rename_i r hr
  cases h
  unfold qGT pS
  rw [qW5 _ _ _ _ _ _ hr]
  rfl
 ·cases h
def qlX (t : List qAD) (i : Int) (f : Nat) : Option (List qAD) :=
 match qfO t f,qiG t 0 f with
 | some y,some x =>
  if qA4 t && decide (t.length ≤ 45) && qA4 x && decide (y.L.length ≤ x.length) && decide (x.length ≤ 1000) && decide (0 < t.length) then
   match qHO (qC1 y.L) i with
   | none => some [qGD]
   | some k => match qiG x k f with | some z => some (qfC z) | none => none
  else none
 | _,_ => none
theorem qdO {t : List qAD} {i : Int} {f : Nat} {T : List qAD} (h : qlX t i f = some T) : qKK t ∧ qSN t i = T := by
 unfold qlX at h
 split at h
 ·rename_i y x hy hx
  split at h
  ·rename_i hc
   simp only [Bool.and_eq_true,decide_eq_true_eq] at hc
   have e1 := qWG hy
   have e0 : ¬ t = [] := fun e => by rw [e] at hc;exact absurd hc.2 (by decide)
   have e2 : qBB t = x := by unfold qBB;rw [if_neg e0];exact qR9 hx
   refine ⟨⟨hc.1.1.1.1.1,hc.1.1.1.1.2,by rw [e2];exact hc.1.1.1.2,by rw [e1,e2];exact hc.1.1.2,by rw [e2];exact hc.1.2⟩,?_⟩
   unfold qSN
   rw [e1,e2]
   split at h
   ·rename_i hk;rw [hk];exact Option.some.inj h
   ·rename_i k hk
    rw [hk]
    split at h
    ·rename_i z hz
     show qY4 x k = T
     unfold qY4
     rw [qR9 hz]
     exact Option.some.inj h
    ·cases h
  ·cases h
 ·cases h
end Go.Vc

namespace Go.Vc
open Go.Proofs
set_option maxRecDepth 100000
set_option maxHeartbeats 8000000
theorem Fn.wk {B : Base} {f : FuncId} {args args' : List SV} {pre : Prop} {res : SV} (F : Fn B f args pre res) (h : ∀ r β vs,qAR r β args' vs → qAR r β args vs) : Fn B f args' pre res :=
 ⟨F.call,fun hp r β w vs hG m hl => F.ok hp r β w vs hG m (h r β vs hl)⟩
theorem qlN {r : Mem} {β : qAV} (vs : List Value) (q : qAR r β [.agg [.nils]] vs) : qAR r β [.agg [.rd qAB []]] vs := by
 refine ⟨q.1,fun i sv v h1 h2 => ?_⟩
 match i,h1 with
 | 0,h1 =>
  cases h1
  have := q.2 0 _ v rfl h2
  cases this with
  | agg hl h =>
   refine .agg hl fun j sv w h3 h4 => ?_
   match j,h3 with
   | 0,h3 => cases h3;have := h 0 _ w rfl h4;cases this;exact .rd .litsE
instance sRightNil : Fn BB 8 [.agg [.nils]] ((([] : List qAD)).length ≤ 1000 ∧ ∀ i,(nd ([] : List qAD) i).kids.length ≤ 1000) (.bool (qE6 [])) :=
 Fn.wk (sRight []) fun _ _ => qlN
instance sTidyNil : FnM BB 15 [.agg [.nils]] [] (qA4 ([] : List qAD) = true) (.agg [.rd qAB (qBB [])]) [] :=
 FnM.wk (sTidy []) fun _ _ => qlN
abbrev awA : qAD := ((1 : Int),(0 : Int),([97] : List UInt8),([] : List qDN),([] : List UInt8),(0 : Int),([] : List Int))
abbrev awB : qAD := ((2 : Int),(0 : Int),([] : List UInt8),([] : List qDN),([98] : List UInt8),(0 : Int),([] : List Int))
abbrev awT : List qAD := [((0 : Int),(0 : Int),([] : List UInt8),([] : List qDN),([] : List UInt8),(-1 : Int),([1,2] : List Int)),((1 : Int),(0 : Int),([97] : List UInt8),([] : List qDN),([] : List UInt8),(0 : Int),([] : List Int)),((2 : Int),(0 : Int),([] : List UInt8),([] : List qDN),([98] : List UInt8),(0 : Int),([] : List Int))]
theorem aw_T : qd4 (qd4 (qY0 (qY0 [qGD] awA) awB) 0 0 ((qY0 [qGD] awA).length : Nat)) 0 0 (([qGD] : List qAD).length : Nat) = awT := by decide +kernel
theorem qTZ : qA4 (qY0 (qY0 [qGD] awA) awB) = true ∧ qA4 (qd4 (qY0 (qY0 [qGD] awA) awB) 0 0 ((qY0 [qGD] awA).length : Nat)) = true := by decide +kernel
theorem qKM : qA4 awT = true := by decide +kernel
theorem qZ4 : awT.length ≤ 1000 ∧ ∀ i : Int,(nd awT i).kids.length ≤ 1000 := by
 refine ⟨by decide,fun i => ?_⟩
 unfold nd
 rw [List.getD_eq_getElem?_getD]
 cases e : awT[i.toNat]? with
 | none => decide
 | some n =>
  have : ∀ n ∈ awT,n.kids.length ≤ 1000 := by decide +kernel
  exact this n (List.mem_of_getElem? e)
theorem qfB : qC1 (fin awT).L = [0,1,2] := by
 have h : (qfO awT 30).map (fun y => qC1 y.L) = some [0,1,2] := by decide +kernel
 cases e : qfO awT 30 with
 | none => rw [e] at h;cases h
 | some y => rw [e] at h;rw [qWG e];exact Option.some.inj h
theorem qSK : qBB awT = awT := by
 unfold qBB
 rw [if_neg (by decide)]
 exact qR9 (f := 30) (by decide +kernel)
theorem qZB : qE6 awT = true := by decide +kernel
theorem qbI : qKK awT ∧ qSN awT 1 = [((0 : Int),(0 : Int),([] : List UInt8),([] : List qDN),([] : List UInt8),(-1 : Int),([] : List Int))] := qdO (f := 30) (by decide +kernel)
instance sAwake : Fn BB 7 [] True (.bool true) := by
 refine Fn.intro (N := 62) [0,1,2,3,4] [] Try.call7 Try.func7 rfl rfl (by kernel_rfl) (fun hpre => ?_)
 repeat' ((conv => whnf);first|(with_reducible first|rfl|exact qAH|exact qAG)|exact True.intro|intro _|refine WA ?_ ?_|refine WF ?_|refine W1 rfl ?_ ?_|refine W2 rfl ?_ ?_|refine W3 rfl ?_ ?_|refine W4 ?_ ?_|refine W5 rfl ?_ ?_|refine W6 ?_ ?_|refine WN ?_|refine X1 (W1 rfl ?_ ?_)|refine X1 (W2 rfl ?_ ?_)|refine X2 (W7 rfl ?_ ?_)|refine X3 (W7 rfl ?_ ?_)|refine X4 (W7 rfl ?_ ?_)|refine X5 (W7 rfl ?_ ?_))
 all_goals (try (conv => whnf))
 all_goals (try first|exact obA|refine Ob.mk ?_)
 all_goals (try rw [aw_T])
 all_goals (try (first | exact qTZ.1 | exact qTZ.2 | exact qKM | exact qZ4 | exact ⟨by decide,fun i => by unfold nd;simp;decide⟩ | exact ⟨qKM,by rw [qSK];exact qKM⟩ | exact qbI.1))
 all_goals (try (first | exact ⟨by decide,by decide⟩ | exact (by decide : awT.length ≤ 45)))
 all_goals
  have e : qSN awT (([qGD] : List qAD).length : Nat) = [((0 : Int),(0 : Int),([] : List UInt8),([] : List qDN),([] : List UInt8),(-1 : Int),([] : List Int))] := qbI.2
  have e2 : qBB ([] : List qAD) = [qGD] := rfl
  rw [e,e2,qZB,qSK,qSK,qfB,qMI.2 (rfl : awT = awT)]
  decide +kernel
end Go.Vc

namespace Go.Vc
open Go.Proofs
set_option maxRecDepth 10000
set_option maxHeartbeats 8000000
theorem qLX {t : List qAD} {m : Int} (h : qIZ t m = true) (hm : m ≤ 45) : qA4 t = true ∧ t.length ≤ 45 ∧ ∀ i,(nd t i).kids.length ≤ 1000 := by
 unfold qIZ at h
 rw [Bool.and_eq_true,decide_eq_true_eq,List.all_eq_true] at h
 have hn : ∀ n ∈ t,n.2.2.2.1.length ≤ 1000 ∧ n.kids.length ≤ 1000 := fun n hn => by
  have := h.2 n hn
  unfold qTQ qHX at this
  simp only [Bool.and_eq_true,decide_eq_true_eq] at this
  exact ⟨by have := this.2.1;omega,by have := this.1.2;omega⟩
 refine ⟨?_,by omega,fun i => ?_⟩
 ·unfold qA4
  rw [Bool.and_eq_true,decide_eq_true_eq,List.all_eq_true]
  refine ⟨by omega,fun n hn' => ?_⟩
  rw [Bool.and_eq_true,decide_eq_true_eq,decide_eq_true_eq]
  exact hn n hn'
 ·unfold nd
  rw [List.getD_eq_getElem?_getD]
  cases e : t[i.toNat]? with
  | none => decide
  | some n => exact (hn n (List.mem_of_getElem? e)).2
theorem qeJ {a b : Bool} (h : (!a || !b) = false) : a = true ∧ b = true := by
 cases a <;> cases b <;> simp_all
theorem qZG {α : Type} (a : α) : eqB a a = true := qMI.2 rfl
instance sTells (t u : List qAD) (i : Int) : Fn BB 3 [.agg [.rd qAB t],.agg [.rd qAB u],.int .i64 i] True (.bool true) := by
 refine Fn.intro (N := 59) [0,1,2,3,4,6,7,15] [(3,[1,1,1,1,1,1,1,1,1,1,1,1,1,1,1,1,1,1,3,3,3,3,3]),(4,[0,0,1,1,1,1,1,1,1,1,1,1,1,1,3,3,3,3,3,3,3])] Try.call3 Try.func3 rfl rfl (by kernel_rfl) (fun hpre => ?_)
 repeat' ((conv => whnf);first|(with_reducible first|rfl|exact qAH|exact qAG)|exact True.intro|intro _|refine WA ?_ ?_|refine WF ?_|refine W1 rfl ?_ ?_|refine W2 rfl ?_ ?_|refine W3 rfl ?_ ?_|refine W4 ?_ ?_|refine W5 rfl ?_ ?_|refine W6 ?_ ?_|refine WN ?_|refine X1 (W1 rfl ?_ ?_)|refine X1 (W2 rfl ?_ ?_)|refine X2 (W7 rfl ?_ ?_)|refine X3 (W7 rfl ?_ ?_)|refine X4 (W7 rfl ?_ ?_)|refine X5 (W7 rfl ?_ ?_))
 all_goals (try (conv => whnf))
 all_goals (try first|exact obA|refine Ob.mk ?_)
 all_goals (have hh := qeJ ‹(!qIZ t 25 || !qIZ u 25) = false›)
 all_goals (have h1 := qLX hh.1 (by decide);have h2 := qLX hh.2 (by decide))
 all_goals (first | exact ⟨by omega,h1.2.2⟩ | exact ⟨h1.1,h2.1⟩ | exact h1.1 | exact h1.2.1 | exact qcW h1.1 h1.2.1 | (simp only [beq_self_eq_true,qZG,Bool.and_true]))
end Go.Vc

namespace Go.Vc
open Go.Proofs
theorem qbS (W : World) (hsh : W.ShapedOpen Try.prog) : BB.G fun b => W.heap[b]? := True.intro
end Go.Vc
