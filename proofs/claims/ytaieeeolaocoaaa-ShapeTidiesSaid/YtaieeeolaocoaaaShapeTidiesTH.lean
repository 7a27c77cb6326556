/- A part of the proof: lemmas and walks that the last text of the claim joins; no condition. -/
import Derived.Test.YtaieeeolaocoaaaShapeTidiesTF
import Derived.Test.YtaieeeolaocoaaaShapeTidiesVG
import Derived.Shelf.Spec.SlicesGrow
import Derived.Laws.AppendOwn
import Derived.Test.YtaieeeolaocoaaaShapeTidiesVE
set_option linter.unusedVariables false
set_option linter.unusedSimpArgs false
set_option maxHeartbeats 8000000
namespace Go.Vc
open Go.Proofs
set_option maxRecDepth 10000
instance f39 (l : List Int) (i j : Int) : FnM BB 54 [.own 0,.int .i64 i,.int .i64 j] [(0,.own qm1 l)] (0 ≤ i ∧ i ≤ j ∧ j ≤ l.length) (.own 0) [(0,.own qm1 (l.take i.toNat ++ l.drop j.toNat))] :=
 zF4 (B := BB) Try.laysNm223 rfl Try.call54 l i j
instance f38 (l : List Int) (i x : Int) : FnM BB 44 [.own 0,.int .i64 i,.own 1] [(0,.own qm1 l),(1,.own qm1 [x])] (0 ≤ i ∧ i ≤ l.length ∧ l.length ≤ 100000) (.own 0) [(0,.own qm1 (l.take i.toNat ++ x :: l.drop i.toNat)),(1,.own qm1 [x])] :=
 zG9 (B := BB) Try.laysNm221 rfl Try.call44 l i x
def zKL (l : List ql4) (n : ql4) : List ql4 := l ++ [(n.1,n.2.1,n.2.2.1,n.2.2.2.1,n.2.2.2.2.1, -1,[])]
instance f12 (l : List ql4) (k s : Int) (nm : List UInt8) (at_ : List qpC) (d : List UInt8) (up : Int) (kids : List Int) :
  FnM BB 24 [.loc 0 0,.agg [.int .i64 k,.int .i64 s,.str nm,.rd qm9 at_,.str d,.int .i64 up,.rd qm1 kids]] [(0,.box [.own 1]),(1,.own ql2 l)] (l.length ≤ 100000 ∧ at_.length ≤ 100000)
   (.int .i64 l.length) [(0,.box [.own 1]),(1,.own ql2 (zKL l (k,s,nm,at_,d,up,kids)))] := by
 refine FnM.intro (N := 32) [0,1,3,4] [(1,[0,0,0,0,1,0,1,0,1,0,1,0,1,1,0,1,1,1,3,0,0,3])] 2 Try.call24 Try.func24 rfl rfl (by kernel_rfl) (fun hpre => ?_)
 obtain ⟨hp1,hp2⟩ := hpre
 repeat' ((conv => whnf);first|(with_reducible first|rfl|exact qmF|exact qmE)|exact True.intro|intro _|refine WA ?_ ?_|refine WF ?_|refine W1 rfl ?_ ?_|refine W2 rfl ?_ ?_|refine W3 rfl ?_ ?_|refine W4 ?_ ?_|refine W5 rfl ?_ ?_|refine W6 ?_ ?_|refine WN ?_|refine X1 (W1 rfl ?_ ?_)|refine X1 (W2 rfl ?_ ?_)|refine X2 (W7 rfl ?_ ?_)|refine X3 (W7 rfl ?_ ?_)|refine X4 (W7 rfl ?_ ?_)|refine X5 (W7 rfl ?_ ?_))
 all_goals (try (conv => whnf))
 all_goals (try first|exact obA|refine Ob.mk ?_)
 ·simp
 ·rfl
def zC6 (n : ql4) (k : List Int) : ql4 := (n.1,n.2.1,n.2.2.1,n.2.2.2.1,n.2.2.2.2.1,n.2.2.2.2.2.1,k)
def zP5 (n : ql4) (u : Int) : ql4 := (n.1,n.2.1,n.2.2.1,n.2.2.2.1,n.2.2.2.2.1,u,n.2.2.2.2.2.2)
def zGF (l : List ql4) (kid : Int) : List ql4 :=
 if qnU l kid ≥ 0 then l.set (nd l kid).up.toNat (zC6 (nd l (nd l kid).up) ((nd l (nd l kid).up).kids.take (qnU l kid).toNat ++ (nd l (nd l kid).up).kids.drop (qnU l kid + 1).toNat)) else l
def zGV (l : List ql4) (kid : Int) : List ql4 :=
 if kid ≠ 0 ∧ isT l kid = true then (zGF l kid).set kid.toNat (zP5 (nd (zGF l kid) kid) (-1)) else zGF l kid
theorem zJ7 {l : List ql4} {i : Nat} {n : ql4} {k : Int} : isT (l.set i n) k = isT l k := by simp [isT]
theorem zTZ {l : List Int} {w : Int} (h : qw7 l w ≥ 0) : qw7 l w < l.length := by
 unfold qw7 at h ⊢
 split at h
 ·rename_i hc
  rw [if_pos hc]
  have := List.idxOf_lt_length_of_mem (a := w) (l := l) (by simpa using hc)
  omega
 ·omega
theorem zBO {l : List ql4} {kid : Int} (h : qnU l kid ≥ 0) : isT l kid = true ∧ isT l (nd l kid).up = true ∧ qnU l kid < (nd l (nd l kid).up).kids.length := by
 unfold qnU at h ⊢
 split at h
 ·rename_i hc
  rw [if_pos hc]
  simp only [Bool.and_eq_true] at hc
  exact ⟨hc.1,hc.2,zTZ h⟩
 ·omega
theorem qqR {l : List ql4} (h : qmZ l = true) (i : Int) (hi : isT l i = true) : (nd l i).2.2.2.1.length ≤ 1000 ∧ (nd l i).kids.length ≤ 1000 := by
 simp only [qmZ,Bool.and_eq_true,List.all_eq_true,decide_eq_true_eq] at h
 obtain ⟨h1,h2⟩ := qnD.1 hi
 refine h.2 (nd l i) ?_
 have : i.toNat < l.length := by omega
 simp [nd,List.getD,List.getElem?_eq_getElem this]
theorem qsY {l : List ql4} (h : qmZ l = true) : l.length ≤ 1000 := by
 simp only [qmZ,Bool.and_eq_true,decide_eq_true_eq] at h
 exact h.1
instance f15 (l : List ql4) (kid : Int) : FnM BB 43 [.loc 0 0,.int .i64 kid] [(0,.box [.own 1]),(1,.own ql2 l)] (qmZ l = true)
      (.tup []) [(0,.box [.own 1]),(1,.own ql2 (zGV l kid))] := by
  refine FnM.intro (N := 54) [0,1,4,5,12,46] [(2,[0,0,0,1,0,0,0,1,0,1,1,1,3,3])] 2 Try.call43 Try.func43 rfl rfl (by kernel_rfl) (fun hpre => ?_)
  have H : qnU l kid ≥ 0 → (0 ≤ kid ∧ kid < l.length) ∧ (0 ≤ (nd l kid).up ∧ (nd l kid).up < l.length) ∧ qnU l kid < (nd l (nd l kid).up).kids.length ∧ (nd l (nd l kid).up).kids.length ≤ 1000 := by
    intro h
    obtain ⟨h1,h2,h3⟩ := zBO h
    exact ⟨qnD.1 h1,qnD.1 h2,h3,(qqR hpre _ h2).2⟩
  by_cases h0 : qnU l kid ≥ 0
  · obtain ⟨f1,f2,f3,f4⟩ := H h0
    clear H
    repeat' ((conv => whnf);first|(with_reducible first|rfl|exact qmF|exact qmE)|exact True.intro|intro _|refine WA ?_ ?_|refine WF ?_|refine W1 rfl ?_ ?_|refine W2 rfl ?_ ?_|refine W3 rfl ?_ ?_|refine W4 ?_ ?_|refine W5 rfl ?_ ?_|refine W6 ?_ ?_|refine WN ?_|refine X1 (W1 rfl ?_ ?_)|refine X1 (W2 rfl ?_ ?_)|refine X2 (W7 rfl ?_ ?_)|refine X3 (W7 rfl ?_ ?_)|refine X4 (W7 rfl ?_ ?_)|refine X5 (W7 rfl ?_ ?_))
    all_goals (try (conv => whnf))
    all_goals (try first|exact obA|refine Ob.mk ?_)
    all_goals (first
      | (show (nd l kid).up.toNat < _;omega)
      | exact Nat.le_trans f4 (by omega)
      | (show 0 ≤ qnU l kid ∧ _;refine ⟨h0,by omega,?_⟩;show qnU l kid + 1 ≤ ((nd l (nd l kid).up).kids.length : Int);omega)
      | exact qnD.1 ((Bool.and_eq_true_iff.1 ‹(_ && _) = true›).2)
      | skip)
    · rename_i h
      have h := Bool.and_eq_true_iff.1 h
      have h2 : isT (zGF l kid) kid = true := by rw [zGF,if_pos h0];exact h.2
      have h3 : isT l kid = true := by have := h.2;rw [zJ7] at this;exact this
      rw [zGV,if_pos ⟨by simpa using h.1,h3⟩,zGF,if_pos h0]
      rfl
    · rename_i h
      have h1 : ¬ (kid ≠ 0 ∧ isT l kid = true) := fun hc => by
        rw [zJ7] at h
        simp [hc.1,hc.2] at h
      rw [zGV,if_neg h1,zGF,if_pos h0]
      rfl
    all_goals (exfalso;have := of_decide_eq_false ‹decide (qnU l kid ≥ 0) = false›;exact this h0)
  · have h1 : decide (qnU l kid ≥ 0) = false := decide_eq_false h0
    clear H
    repeat' ((conv => whnf);first|(with_reducible first|rfl|exact qmF|exact qmE)|exact True.intro|intro _|refine WA ?_ ?_|refine WF ?_|refine W1 rfl ?_ ?_|refine W2 rfl ?_ ?_|refine W3 rfl ?_ ?_|refine W4 ?_ ?_|refine W5 rfl ?_ ?_|refine W6 ?_ ?_|refine WN ?_|refine X1 (W1 rfl ?_ ?_)|refine X1 (W2 rfl ?_ ?_)|refine X2 (W7 rfl ?_ ?_)|refine X3 (W7 rfl ?_ ?_)|refine X4 (W7 rfl ?_ ?_)|refine X5 (W7 rfl ?_ ?_))
    all_goals (try (conv => whnf))
    all_goals (try first|exact obA|refine Ob.mk ?_)
    all_goals (first
      | (exfalso;exact h0 (of_decide_eq_true ‹decide (qnU l kid ≥ 0) = true›))
      | exact qnD.1 ((Bool.and_eq_true_iff.1 ‹(_ && _) = true›).2)
      | (have hh := qnD.1 ((Bool.and_eq_true_iff.1 ‹(kid != 0 && isT l kid) = true›).2);omega)
      | skip)
    · rename_i h
      have h := Bool.and_eq_true_iff.1 h
      rw [zGV,if_pos ⟨by simpa using h.1,h.2⟩,zGF,if_neg h0]
      rfl
    · rename_i h
      have h1 : ¬ (kid ≠ 0 ∧ isT l kid = true) := fun hc => by
        simp [hc.1,hc.2] at h
      rw [zGV,if_neg h1,zGF,if_neg h0]
def zPJ (l : List ql4) (up at_ kid : Int) : List ql4 :=
 if (!isT l up || !isT l kid || kid == 0 || qxZ l kid up) = true then l else
 let c := zGV l kid
 let ks := (nd c up).kids
 let i := min (max at_ 0) (ks.length : Int)
 let c2 := c.set up.toNat (zC6 (nd c up) (ks.take i.toNat ++ kid :: ks.drop i.toNat))
 c2.set kid.toNat (zP5 (nd c2 kid) up)
theorem zLN {l : List ql4} {k i : Nat} {n : ql4} : (l.set k n).getD i ql2.dflt = if k = i ∧ k < l.length then n else l.getD i ql2.dflt := by
 simp only [List.getD,List.getElem?_set]
 by_cases h : k = i
 ·subst h
  by_cases h2 : k < l.length
  ·simp [h2]
  ·simp [h2]
 ·simp [h]
def smB (m : Nat) (l : List ql4) : Prop := l.length ≤ m ∧ ∀ i,i < l.length → (l.getD i ql2.dflt).2.2.2.1.length ≤ m ∧ (l.getD i ql2.dflt).kids.length ≤ m
theorem zQM {l : List ql4} (h : qmZ l = true) : smB 1000 l := by
 refine ⟨qsY h,fun i hi => ?_⟩
 have := qqR h i (qnD.2 ⟨by omega,by omega⟩)
 simpa [nd] using this
theorem zJ6 {l : List ql4} {m : Nat} (h : smB m l) {k : Nat} {n : ql4} (hn : k < l.length → n.2.2.2.1.length ≤ m ∧ n.kids.length ≤ m) : smB m (l.set k n) := by
 refine ⟨by simpa using h.1,fun i hi => ?_⟩
 rw [zLN]
 split
 ·rename_i hc;exact hn hc.2
 ·exact h.2 i (by simpa using hi)
theorem zFQ {l : List ql4} {kid : Int} : (zGF l kid).length = l.length := by unfold zGF;split <;> simp
theorem zEP {l : List ql4} {kid : Int} : (zGV l kid).length = l.length := by
 unfold zGV;split
 ·rw [List.length_set,zFQ]
 ·exact zFQ
theorem zCQ {l : List ql4} {m : Nat} {kid : Int} (h : smB m l) : smB m (zGF l kid) := by
 unfold zGF
 split
 ·refine zJ6 h fun hk => ?_
  have := h.2 _ hk
  refine ⟨this.1,?_⟩
  have e : (zC6 (nd l (nd l kid).up) ((nd l (nd l kid).up).kids.take (qnU l kid).toNat ++ (nd l (nd l kid).up).kids.drop (qnU l kid + 1).toNat)).kids.length ≤ (nd l (nd l kid).up).kids.length := by
   show ((nd l (nd l kid).up).kids.take (qnU l kid).toNat ++ (nd l (nd l kid).up).kids.drop (qnU l kid + 1).toNat).length ≤ _
   simp only [List.length_append,List.length_take,List.length_drop]
   omega
  exact Nat.le_trans e this.2
 ·exact h
theorem zN7 {l : List ql4} {m : Nat} {kid : Int} (h : smB m l) : smB m (zGV l kid) := by
 unfold zGV
 split
 ·refine zJ6 (zCQ h) fun hk => ?_
  exact (zCQ h (kid := kid)).2 _ hk
 ·exact zCQ h
theorem zQW (a b : Int) : (bif false then max (bif true then max a 0 else min a 0) b else min (bif true then max a 0 else min a 0) b) = min (max a 0) b := rfl
instance f13 (l : List ql4) (up at_ kid : Int) : FnM BB 25 [.loc 0 0,.int .i64 up,.int .i64 at_,.int .i64 kid] [(0,.box [.own 1]),(1,.own ql2 l)] (qmZ l = true)
      (.tup []) [(0,.box [.own 1]),(1,.own ql2 (zPJ l up at_ kid))] := by
  refine FnM.intro (N := 71) [0,1,2,3,8,34] [(3,[0,0,0,0,1,2,0,1,0,0,0,1,1,1,0,2,3,0,0,3])] 2 Try.call25 Try.func25 rfl rfl (by kernel_rfl) (fun hpre => ?_)
  have hsm := zN7 (kid := kid) (zQM hpre)
  have hll := qsY hpre
  have hu : (!isT l up || !isT l kid || kid == 0 || qxZ l kid up) = false → (0 ≤ up ∧ up < (zGV l kid).length) ∧ (0 ≤ kid ∧ kid < (zGV l kid).length) ∧ ((zGV l kid).getD up.toNat ql2.dflt).2.2.2.2.2.2.length ≤ 1000 := by
    intro h
    simp only [Bool.or_eq_false_iff,Bool.not_eq_false'] at h
    have h1 := qnD.1 h.1.1.1
    have h2 := qnD.1 h.1.1.2
    rw [zEP]
    exact ⟨h1,h2,(hsm.2 up.toNat (by rw [zEP];omega)).2⟩
  repeat' ((conv => whnf);first|(with_reducible first|rfl|exact qmF|exact qmE)|exact True.intro|intro _|refine WA ?_ ?_|refine WF ?_|refine W1 rfl ?_ ?_|refine W2 rfl ?_ ?_|refine W3 rfl ?_ ?_|refine W4 ?_ ?_|refine W5 rfl ?_ ?_|refine W6 ?_ ?_|refine WN ?_|refine X1 (W1 rfl ?_ ?_)|refine X1 (W2 rfl ?_ ?_)|refine X2 (W7 rfl ?_ ?_)|refine X3 (W7 rfl ?_ ?_)|refine X4 (W7 rfl ?_ ?_)|refine X5 (W7 rfl ?_ ?_))
  all_goals (try (conv => whnf))
  all_goals (try first|exact obA|refine Ob.mk ?_)
  all_goals (first
    | omega
    | (rename_i h;obtain ⟨g1,g2,g3⟩ := hu h;first
        | exact g1
        | exact g2
        | omega
        | exact Nat.le_trans g3 (by omega)
        | (rw [List.length_set];first | exact g2 | omega)
        | (refine ⟨?_,?_,Nat.le_trans g3 (by omega)⟩ <;> rw [zQW] <;> omega))
    | skip)
  · rename_i h;rw [zPJ,if_pos h]
  · rename_i h
    rw [zPJ,if_neg (by rw [h];exact Bool.false_ne_true)]
    rfl
end Go.Vc

namespace Go.Vc
open Go.Proofs
set_option maxRecDepth 10000
def qqZ : ql4 := ((0 : Int),(0 : Int),([] : List UInt8),([] : List qpC),([] : List UInt8),(-1 : Int),([] : List Int))
instance f18 : FnM BB 23 [] [] True (.agg [.own 0]) [(0,.own ql2 [qqZ])] := by
 refine FnM.intro (N := 4) [0] [] 1 Try.call23 Try.func23 rfl rfl (by kernel_rfl) (fun hpre => ?_)
 all_goals exact vcA
theorem FnM.wk {B : Base} {f : FuncId} {args args' : List SV} {Φ : Phi} {pre : Prop} {res : SV} {Φ' : Phi} (F : FnM B f args Φ pre res Φ') (h : ∀ r β vs,qmI r β args' vs → qmI r β args vs) : FnM B f args' Φ pre res Φ' :=
 ⟨F.call,fun hp r β w vs hG m hl => F.ok hp r β w vs hG m (h r β vs hl)⟩
theorem zJ5 {r β v} {τ : Ty} (h : Rel r β .nils v) : Rel r β (.rd τ []) v := by cases h;exact .rd .litsE
instance f12n (l : List ql4) (k s : Int) (nm : List UInt8) (d : List UInt8) (up : Int) :
  FnM BB 24 [.loc 0 0,.agg [.int .i64 k,.int .i64 s,.str nm,.nils,.str d,.int .i64 up,.nils]] [(0,.box [.own 1]),(1,.own ql2 l)] (l.length ≤ 100000 ∧ ([] : List qpC).length ≤ 100000)
   (.int .i64 l.length) [(0,.box [.own 1]),(1,.own ql2 (zKL l (k,s,nm,[],d,up,[])))] :=
 FnM.wk (f12 l k s nm [] d up []) fun r β vs h => by
  refine ⟨h.1,fun i sv v h1 h2 => ?_⟩
  match i,h1 with
  | 0,h1 => cases h1;exact h.2 0 _ v rfl h2
  | 1,h1 =>
   cases h1
   obtain ⟨cs,rfl,hc⟩ := (h.2 1 _ v rfl h2).aggL_inv
   refine .aggL ⟨hc.1,fun j sv u q1 q2 => ?_⟩
   match j,q1 with
   | 0,q1 => cases q1;exact hc.2 0 _ u rfl q2
   | 1,q1 => cases q1;exact hc.2 1 _ u rfl q2
   | 2,q1 => cases q1;exact hc.2 2 _ u rfl q2
   | 3,q1 => cases q1;exact zJ5 (hc.2 3 _ u rfl q2)
   | 4,q1 => cases q1;exact hc.2 4 _ u rfl q2
   | 5,q1 => cases q1;exact hc.2 5 _ u rfl q2
   | 6,q1 => cases q1;exact zJ5 (hc.2 6 _ u rfl q2)
end Go.Vc

namespace Go.Vc
set_option autoImplicit false
structure St where
 L : List Nat
 P : List Nat
 I : List Int
 O : List Int
 m : Nat
def St.step (x : St) (e : Ev) : St :=
 if e.2.2.2 = true then { x with P := x.P.dropLast,O := x.O.set e.1 (x.m : Int),m := x.m + 1 }
 else { x with L := x.L ++ [e.1],P := x.P ++ [e.1],I := x.I.set e.1 (x.m : Int),m := x.m + 1 }
structure Good (n : Nat) (x : St) : Prop where
 lI : x.I.length = n
 lO : x.O.length = n
 lt : ∀ u ∈ x.L,u < n
 nod : x.L.Nodup
 out : ∀ u,u ∉ x.L → x.I.getD u (-1) = -1 ∧ x.O.getD u (-1) = -1
 rI : ∀ u ∈ x.L,0 ≤ x.I.getD u (-1) ∧ x.I.getD u (-1) < x.m
 rO : ∀ u ∈ x.L,x.O.getD u (-1) = -1 ∨ (x.I.getD u (-1) < x.O.getD u (-1) ∧ x.O.getD u (-1) < x.m)
 srt : x.L.Pairwise fun a b => x.I.getD a (-1) < x.I.getD b (-1)
 stk : x.P = x.L.filter fun u => x.O.getD u (-1) == -1
 nest : ∀ u ∈ x.L,∀ v ∈ x.L,x.I.getD u (-1) < x.I.getD v (-1) → x.O.getD u (-1) = -1 ∨ x.O.getD u (-1) < x.I.getD v (-1) ∨ (x.O.getD v (-1) ≠ -1 ∧ x.O.getD v (-1) < x.O.getD u (-1))
 dis : ∀ u ∈ x.L,∀ v ∈ x.L,x.O.getD u (-1) ≠ -1 → x.O.getD u (-1) ≠ x.I.getD v (-1) ∧ (x.O.getD v (-1) = x.O.getD u (-1) → u = v)
 cnt : x.m + x.P.length = 2 * x.L.length
def zUZ (n : Nat) (x : St) (e : Ev) : Prop :=
 e.2.2.1 = x.m ∧ (if e.2.2.2 = true then x.P.getLast? = some e.1 else e.1 < n ∧ e.1 ∉ x.L)
theorem qpK {α : Type} (l : List α) (i j : Nat) (a d : α) : (l.set i a).getD j d = if i = j ∧ i < l.length then a else l.getD j d := by
 rw [List.getD_eq_getElem?_getD,List.getElem?_set]
 by_cases h : i = j
 ·subst h
  by_cases hl : i < l.length
  ·simp [hl]
  ·simp [hl,List.getD_eq_getElem?_getD,List.getElem?_eq_none (Nat.le_of_not_lt hl)]
 ·simp [h,List.getD_eq_getElem?_getD]
theorem Good.into {n : Nat} {x : St} (g : Good n x) {v : Nat} (hv : v < n) (hn : v ∉ x.L) :
  Good n { x with L := x.L ++ [v],P := x.P ++ [v],I := x.I.set v (x.m : Int),m := x.m + 1 } := by
 have hI : ∀ u,(x.I.set v (x.m : Int)).getD u (-1) = if v = u then (x.m : Int) else x.I.getD u (-1) := by
  intro u
  rw [qpK]
  by_cases h : v = u
  ·rw [if_pos h,if_pos ⟨h,by rw [g.lI];exact hv⟩]
  ·rw [if_neg h,if_neg (fun q => h q.1)]
 have ho := g.out v hn
 have hne : ∀ u ∈ x.L,v ≠ u := fun u hu e => hn (e ▸ hu)
 refine ⟨by simp [g.lI],g.lO,?_,?_,?_,?_,?_,?_,?_,?_,?_,?_⟩ <;> dsimp only
 ·intro u hu
  rcases List.mem_append.1 hu with h | h
  ·exact g.lt u h
  ·simp at h;subst h;exact hv
 ·rw [List.nodup_append]
  refine ⟨g.nod,by simp,?_⟩
  intro a ha b hb e
  simp at hb
  subst hb;subst e
  exact hn ha
 ·intro u hu
  simp only [List.mem_append,List.mem_singleton,not_or] at hu
  rw [hI,if_neg (fun e => hu.2 e.symm)]
  exact g.out u hu.1
 ·intro u hu
  rw [hI]
  rcases List.mem_append.1 hu with h | h
  ·rw [if_neg (hne u h)]
   have := g.rI u h
   omega
  ·simp at h;subst h;rw [if_pos rfl];omega
 ·intro u hu
  rw [hI]
  rcases List.mem_append.1 hu with h | h
  ·rw [if_neg (hne u h)]
   have := g.rO u h
   omega
  ·simp at h;subst h;exact .inl ho.2
 ·rw [List.pairwise_append]
  refine ⟨?_,by simp,?_⟩
  ·refine g.srt.imp_of_mem ?_
   intro a b ha hb h
   rw [hI,hI,if_neg (hne a ha),if_neg (hne b hb)]
   exact h
  ·intro a ha b hb
   simp at hb;subst hb
   rw [hI,hI,if_neg (hne a ha),if_pos rfl]
   exact (g.rI a ha).2
 ·rw [List.filter_append, ← g.stk]
  simp only [List.filter_cons,List.filter_nil,ho.2]
  rfl
 ·intro u hu w hw
  rw [hI,hI]
  rcases List.mem_append.1 hu with h | h
  ·rw [if_neg (hne u h)]
   rcases List.mem_append.1 hw with k | k
   ·rw [if_neg (hne w k)];exact g.nest u h w k
   ·simp at k;subst k
    rw [if_pos rfl]
    intro _
    have := g.rO u h
    omega
  ·simp at h;subst h
   rw [if_pos rfl]
   exact fun _ => .inl ho.2
 ·intro u hu w hw hq
  rw [hI]
  rcases List.mem_append.1 hu with h | h
  ·rcases List.mem_append.1 hw with k | k
   ·rw [if_neg (hne w k)];exact g.dis u h w k hq
   ·simp at k;subst k
    rw [if_pos rfl]
    have := g.rO u h
    refine ⟨by omega,fun e => ?_⟩
    rw [ho.2] at e
    exact absurd e.symm hq
  ·simp at h;subst h
   exact absurd ho.2 hq
 ·have := g.cnt
  simp only [List.length_append,List.length_cons,List.length_nil]
  omega
theorem zDA {α : Type} [BEq α] [LawfulBEq α] {l : List α} (hn : l.Nodup) {p q : α → Bool} {v : α} (hv : (l.filter p).getLast? = some v)
  (hq : ∀ u,q u = (p u && !(u == v))) : l.filter q = (l.filter p).dropLast := by
 have e : l.filter q = (l.filter p).filter fun u => !(u == v) := by
  rw [List.filter_filter]
  exact List.filter_congr fun u _ => by rw [hq u,Bool.and_comm]
 rw [e]
 have hnp := hn.filter p
 generalize l.filter p = m at *
 rcases List.eq_nil_or_concat m with rfl | ⟨r,a,rfl⟩
 ·simp at hv
 ·rw [List.concat_eq_append] at *
  simp at hv
  subst hv
  rw [List.pairwise_append] at hnp
  simp only [List.filter_append,List.filter_cons,List.filter_nil,beq_self_eq_true,Bool.not_true,Bool.false_eq_true,if_false,List.append_nil,List.dropLast_concat]
  rw [List.filter_eq_self]
  intro u hu
  have := hnp.2.2 u hu a (by simp)
  simpa using this
theorem Good.leave {n : Nat} {x : St} (g : Good n x) {v : Nat} (hl : x.P.getLast? = some v) :
  Good n { x with P := x.P.dropLast,O := x.O.set v (x.m : Int),m := x.m + 1 } := by
 have hvP : v ∈ x.P := List.mem_of_getLast? hl
 have hvP' := hvP
 rw [g.stk,List.mem_filter] at hvP'
 have hvL := hvP'.1
 have hvO : x.O.getD v (-1) = -1 := by simpa using hvP'.2
 have hvn := g.lt v hvL
 have hO : ∀ u,(x.O.set v (x.m : Int)).getD u (-1) = if v = u then (x.m : Int) else x.O.getD u (-1) := by
  intro u
  rw [qpK]
  by_cases h : v = u
  ·rw [if_pos h,if_pos ⟨h,by rw [g.lO];exact hvn⟩]
  ·rw [if_neg h,if_neg (fun q => h q.1)]
 have hlast : ∀ w ∈ x.L,x.I.getD v (-1) < x.I.getD w (-1) → x.O.getD w (-1) ≠ -1 := by
  intro w hw hlt ho
  have hwP : w ∈ x.P := by rw [g.stk,List.mem_filter];exact ⟨hw,by simpa using ho⟩
  have hs : x.P.Pairwise fun a b => x.I.getD a (-1) < x.I.getD b (-1) := by rw [g.stk];exact g.srt.filter _
  rcases List.eq_nil_or_concat x.P with he | ⟨r,a,he⟩
  ·rw [he] at hl;cases hl
  ·rw [List.concat_eq_append] at he
   rw [he] at hl hwP hs
   simp at hl
   subst hl
   rw [List.pairwise_append] at hs
   rcases List.mem_append.1 hwP with h | h
   ·have := hs.2.2 w h a (by simp);omega
   ·simp at h;subst h;omega
 refine ⟨g.lI,by simp [g.lO],g.lt,g.nod,?_,?_,?_,g.srt,?_,?_,?_,?_⟩ <;> dsimp only
 ·intro u hu
  rw [hO,if_neg (fun e : v = u => hu (e ▸ hvL))]
  exact g.out u hu
 ·intro u hu
  have := g.rI u hu
  omega
 ·intro u hu
  rw [hO]
  have h1 := g.rI u hu
  have h2 := g.rO u hu
  split <;> omega
 ·rw [g.stk] at hl
  rw [g.stk]
  refine (zDA g.nod hl fun u => ?_).symm
  rw [hO]
  by_cases h : v = u
  ·subst h;rw [if_pos rfl]
   have : ((x.m : Int) == -1) = false := beq_eq_false_iff_ne.mpr (by omega)
   rw [this];simp
  ·rw [if_neg h,show (u == v) = false from beq_eq_false_iff_ne.mpr (fun e => h e.symm)];simp
 ·intro u hu w hw hlt
  rw [hO,hO]
  have h0 := g.nest u hu w hw hlt
  have hru := g.rO u hu
  by_cases h : v = u
  ·subst h
   rw [if_pos rfl]
   have hwo := hlast w hw hlt
   have hrw := g.rO w hw
   rw [if_neg (by rintro rfl;omega)]
   omega
  ·rw [if_neg h]
   by_cases h' : v = w
   ·subst h'
    rw [if_pos rfl]
    omega
   ·rw [if_neg h'];exact h0
 ·intro u hu w hw hq
  rw [hO] at hq ⊢
  rw [hO]
  have hru := g.rO u hu
  have hrw := g.rO w hw
  have hiw := g.rI w hw
  by_cases h : v = u
  ·subst h
   rw [if_pos rfl] at hq ⊢
   refine ⟨by omega,fun e => ?_⟩
   by_cases h' : v = w
   ·exact h'
   ·rw [if_neg h'] at e;omega
  ·rw [if_neg h] at hq ⊢
   have h0 := g.dis u hu w hw hq
   refine ⟨h0.1,fun e => ?_⟩
   by_cases h' : v = w
   ·rw [if_pos h'] at e;omega
   ·rw [if_neg h'] at e;exact h0.2 e
 ·have := g.cnt
  have hp : 0 < x.P.length := List.length_pos_of_mem hvP
  simp only [List.length_dropLast]
  omega
theorem Good.step {n : Nat} {x : St} (g : Good n x) {e : Ev} (h : zUZ n x e) : Good n (x.step e) := by
 obtain ⟨h1,h2⟩ := h
 unfold St.step
 split
 ·rename_i hl
  rw [if_pos hl] at h2
  exact g.leave h2
 ·rename_i hl
  rw [if_neg hl] at h2
  exact g.into h2.1 h2.2
def qwS (n : Nat) : St → List Ev → Prop
 | _,[] => True
 | x,e :: r => zUZ n x e ∧ qwS n (x.step e) r
def St.run (x : St) (l : List Ev) : St := l.foldl St.step x
theorem zJ1 {n : Nat} : ∀ {x : St} {a b : List Ev},qwS n x a → qwS n (x.run a) b → qwS n x (a ++ b) := by
 intro x a
 induction a generalizing x with
 | nil => intro b _ h;exact h
 | cons e a ih => intro b h1 h2;exact ⟨h1.1,ih h1.2 h2⟩
theorem qvL (x : St) (a b : List Ev) : x.run (a ++ b) = (x.run a).run b := by unfold St.run;rw [List.foldl_append]
theorem Good.run {n : Nat} : ∀ {l : List Ev} {x : St},Good n x → qwS n x l → Good n (x.run l) := by
 intro l
 induction l with
 | nil => intro x g _;exact g
 | cons e l ih => intro x g h;exact ih (g.step h.1) h.2
def Seen (s : List Bool) (x : St) : Prop := ∀ u,u < s.length → (s.getD u true = true ↔ u ∈ x.L)
theorem zNX {K : Nat → List Int} : ∀ (s : List Bool) (i j c : Nat),(dfs K s i j c).2.1.length = s.length := by
 refine qtP (K := K) ?_ ?_ ?_
 ·intro s i j c h;rw [qpD h]
 ·intro s i j c h hk ih;rw [qpG h hk];exact ih
 ·intro s i j c h hk i1 i2;rw [qr0 h hk];dsimp only;rw [i2,i1,List.length_set]
theorem zLR {K : Nat → List Int} (n : Nat) : ∀ (s : List Bool) (i j c : Nat) (x : St) (P0 : List Nat),s.length = n → Seen s x → x.P = P0 ++ [i] → x.m = c →
  qwS n x (dfs K s i j c).1 ∧ (x.run (dfs K s i j c).1).P = P0 ∧ (x.run (dfs K s i j c).1).m = (dfs K s i j c).2.2 ∧ Seen (dfs K s i j c).2.1 (x.run (dfs K s i j c).1) := by
 refine qtP (K := K) ?_ ?_ ?_
 ·intro s i j c h x P0 hs hx hP hm
  rw [qpD h]
  have e : x.run [(i,0,c,true)] = { x with P := x.P.dropLast,O := x.O.set i (x.m : Int),m := x.m + 1 } := rfl
  refine ⟨⟨⟨hm.symm,?_⟩,trivial⟩,?_,?_,?_⟩
  ·rw [if_pos rfl,hP];simp
  ·rw [e];dsimp only;rw [hP];simp
  ·rw [e];dsimp only;rw [hm]
  ·rw [e];exact hx
 ·intro s i j c h hk ih
  rw [qpG h hk];exact ih
 ·intro s i j c h hk i1 i2 x P0 hs hx hP hm
  have hok := qnL hk
  rw [qr0 h hk]
  dsimp only
  generalize hkk : ((K i).getD j 0).toNat = k at *
  have hkn : k < n := by rw [← hs];exact hok.2.1
  have hkL : k ∉ x.L := by
   intro q
   have := (hx k (by omega)).2 q
   rw [List.getD_eq_getElem?_getD,hok.2.2] at this
   cases this
  have e0 : x.step (k,(i : Int),c,false) = { x with L := x.L ++ [k],P := x.P ++ [k],I := x.I.set k (x.m : Int),m := x.m + 1 } := rfl
  have hx1 : Seen (s.set k true) (x.step (k,(i : Int),c,false)) := by
   intro u hu
   rw [List.length_set] at hu
   rw [qpK,e0]
   dsimp only
   rw [List.mem_append,List.mem_singleton]
   by_cases q : k = u
   ·rw [if_pos ⟨q,by omega⟩];simp [q]
   ·rw [if_neg (fun z => q z.1),hx u hu]
    constructor
    ·exact .inl
    ·rintro (z | z)
     ·exact z
     ·exact absurd z.symm q
  obtain ⟨a1,a2,a3,a4⟩ := i1 (x.step (k,(i : Int),c,false)) x.P (by rw [List.length_set];exact hs) hx1 (by rw [e0]) (by rw [e0];dsimp only;rw [hm])
  generalize hr1 : dfs K (s.set k true) k 0 (c + 1) = r1 at *
  have hl1 : r1.2.1.length = n := by rw [← hr1,zNX,List.length_set,hs]
  obtain ⟨b1,b2,b3,b4⟩ := i2 ((x.step (k,(i : Int),c,false)).run r1.1) P0 hl1 a4 (by rw [a2,hP]) a3
  refine ⟨⟨⟨hm.symm,?_⟩,zJ1 a1 b1⟩,?_,?_,?_⟩
  ·rw [if_neg (by simp)];exact ⟨hkn,hkL⟩
  ·show ((x.step _).run (r1.1 ++ _)).P = P0;rw [qvL];exact b2
  ·show ((x.step _).run (r1.1 ++ _)).m = _;rw [qvL];exact b3
  ·show Seen _ ((x.step _).run (r1.1 ++ _));rw [qvL];exact b4
def st0 (n : Nat) : St := { L := [],P := [],I := List.replicate n (-1),O := List.replicate n (-1),m := 0 }
theorem zBI {α : Type} (n : Nat) (a : α) (u : Nat) : (List.replicate n a).getD u a = a := by
 rw [List.getD_eq_getElem?_getD,List.getElem?_replicate]
 split <;> rfl
theorem zP0 (n : Nat) : Good n (st0 n) := by
 refine ⟨by simp [st0],by simp [st0],by simp [st0],by simp [st0],?_,by simp [st0],by simp [st0],by simp [st0],by simp [st0],by simp [st0],by simp [st0],by simp [st0]⟩
 intro u _
 exact ⟨zBI n _ u,zBI n _ u⟩
theorem zIZ (K : Nat → List Int) (n : Nat) : qwS n (st0 n) (zCW K n) ∧ ((st0 n).run (zCW K n)).P = [] := by
 unfold zCW
 split
 ·exact ⟨trivial,rfl⟩
 ·rename_i hn
  have hn : 0 < n := by omega
  have hseen : Seen ((List.replicate n false).set 0 true) ((st0 n).step (0, -1,0,false)) := by
   intro u hu
   rw [List.length_set,List.length_replicate] at hu
   rw [qpK]
   show _ ↔ u ∈ [0]
   rw [List.mem_singleton,List.length_replicate]
   by_cases q : 0 = u
   ·rw [if_pos ⟨q,hn⟩];simp [q]
   ·rw [if_neg (fun z => q z.1),List.getD_eq_getElem?_getD,List.getElem?_replicate,if_pos hu]
    constructor
    ·intro z;cases z
    ·intro z;exact absurd z.symm q
  obtain ⟨a1,a2,a3,a4⟩ := zLR (K := K) n ((List.replicate n false).set 0 true) 0 0 1 ((st0 n).step (0, -1,0,false)) [] (by simp) hseen rfl rfl
  have e : qu0 K [(0,0)] ((List.replicate n false).set 0 true) 1 = (dfs K ((List.replicate n false).set 0 true) 0 0 1).1 := by
   rw [qu0,qu0,List.append_nil]
  rw [e]
  exact ⟨⟨⟨rfl,by rw [if_neg (by decide)];exact ⟨hn,by simp [st0]⟩⟩,a1⟩,a2⟩
end Go.Vc

namespace Go.Vc
set_option autoImplicit false
structure Mono (x y : St) : Prop where
 L : ∃ l,y.L = x.L ++ l ∧ ∀ u ∈ l,(x.m : Int) ≤ y.I.getD u (-1)
 I : ∀ u ∈ x.L,y.I.getD u (-1) = x.I.getD u (-1)
 O : ∀ u ∈ x.L,x.O.getD u (-1) ≠ -1 → y.O.getD u (-1) = x.O.getD u (-1)
 O' : ∀ u ∈ x.L,x.O.getD u (-1) = -1 → y.O.getD u (-1) = -1 ∨ (x.m : Int) ≤ y.O.getD u (-1)
 m : x.m ≤ y.m
theorem Mono.refl (x : St) : Mono x x := ⟨⟨[],by simp,by simp⟩,fun _ _ => rfl,fun _ _ _ => rfl,fun _ _ h => .inl h,Nat.le_refl _⟩
theorem Mono.step {n : Nat} {x : St} (g : Good n x) {e : Ev} (h : zUZ n x e) : Mono x (x.step e) := by
 obtain ⟨h1,h2⟩ := h
 unfold St.step
 split
 ·rename_i hl
  rw [if_pos hl] at h2
  have hP : e.1 ∈ x.P := List.mem_of_getLast? h2
  rw [g.stk,List.mem_filter] at hP
  have hO : x.O.getD e.1 (-1) = -1 := by simpa using hP.2
  have hn := g.lt _ hP.1
  refine ⟨⟨[],by simp,by simp⟩,fun _ _ => rfl,?_,?_,Nat.le_succ _⟩ <;> dsimp only
  ·intro u hu hq
   rw [qpK]
   by_cases q : e.1 = u
   ·subst q;exact absurd hO hq
   ·rw [if_neg (fun z => q z.1)]
  ·intro u hu hq
   rw [qpK]
   by_cases q : e.1 = u
   ·rw [if_pos ⟨q,by rw [g.lO];exact hn⟩];right;omega
   ·rw [if_neg (fun z => q z.1)];exact .inl hq
 ·rename_i hl
  rw [if_neg hl] at h2
  have hI : ∀ u,(x.I.set e.1 (x.m : Int)).getD u (-1) = if e.1 = u then (x.m : Int) else x.I.getD u (-1) := by
   intro u
   rw [qpK]
   by_cases q : e.1 = u
   ·rw [if_pos q,if_pos ⟨q,by rw [g.lI];exact h2.1⟩]
   ·rw [if_neg q,if_neg (fun z => q z.1)]
  refine ⟨⟨[e.1],rfl,?_⟩,?_,fun _ _ _ => rfl,fun _ _ h => .inl h,Nat.le_succ _⟩ <;> dsimp only
  ·intro u hu
   simp at hu
   rw [hI,if_pos hu.symm];omega
  ·intro u hu
   rw [hI,if_neg (fun q : e.1 = u => h2.2 (q ▸ hu))]
theorem Mono.trans {x y z : St} (a : Mono x y) (b : Mono y z) : Mono x z := by
 obtain ⟨l,e1,h1⟩ := a.L
 obtain ⟨l',e2,h2⟩ := b.L
 have sub : ∀ u ∈ x.L,u ∈ y.L := fun u hu => by rw [e1];exact List.mem_append_left _ hu
 have hm := a.m
 refine ⟨⟨l ++ l',by rw [e2,e1,List.append_assoc],?_⟩,?_,?_,?_,Nat.le_trans a.m b.m⟩
 ·intro u hu
  rcases List.mem_append.1 hu with h | h
  ·rw [b.I u (by rw [e1];exact List.mem_append_right _ h)];exact h1 u h
  ·have := h2 u h;omega
 ·intro u hu;rw [b.I u (sub u hu),a.I u hu]
 ·intro u hu h
  have := a.O u hu h
  rw [b.O u (sub u hu) (by rw [this];exact h),this]
 ·intro u hu h
  rcases a.O' u hu h with q | q
  ·rcases b.O' u (sub u hu) q with r | r
   ·exact .inl r
   ·right;omega
  ·by_cases r : y.O.getD u (-1) = -1
   ·omega
   ·rw [b.O u (sub u hu) r];exact .inr q
theorem Mono.run {n : Nat} : ∀ {l : List Ev} {x : St},Good n x → qwS n x l → Mono x (x.run l) := by
 intro l
 induction l with
 | nil => intro x _ _;exact Mono.refl x
 | cons e l ih => intro x g h;exact (Mono.step g h.1).trans (ih (g.step h.1) h.2)
structure Done (n : Nat) (y : St) : Prop extends Good n y where
 P0 : y.P = []
theorem Done.o {n : Nat} {y : St} (g : Done n y) {u : Nat} (hu : u ∈ y.L) : y.O.getD u (-1) ≠ -1 := by
 intro h
 have : u ∈ y.P := by rw [g.stk,List.mem_filter];exact ⟨hu,by simpa using h⟩
 rw [g.P0] at this;cases this
def zN1 (D : Int) (S : Nat → Prop) (f : Nat → Int) : Prop := 0 ≤ D ∧ (∀ v,S v → f v ≤ D) ∧ (D = 0 ∨ ∃ v,S v ∧ D = f v)
theorem zN1.uniq {D D' : Int} {S : Nat → Prop} {f : Nat → Int} (h : zN1 D S f) (h' : zN1 D' S f) (hf : ∀ v,S v → 0 ≤ f v) : D = D' := by
 obtain ⟨a0,a1,a2⟩ := h
 obtain ⟨b0,b1,b2⟩ := h'
 rcases a2 with rfl | ⟨v,hv,rfl⟩
 ·rcases b2 with rfl | ⟨w,hw,rfl⟩
  ·rfl
  ·have := a1 w hw;omega
 ·have := b1 v hv
  rcases b2 with rfl | ⟨w,hw,rfl⟩
  ·have := hf v hv;omega
  ·have := a1 w hw;omega
def zL1 (K : Nat → List Int) (n : Nat) : St := (st0 n).run (zCW K n)
theorem zLC (K : Nat → List Int) (n : Nat) : Done n (zL1 K n) := ⟨(zP0 n).run (zIZ K n).1,(zIZ K n).2⟩
theorem zT2 : ∀ (l : List Ev) (x : St),(x.run l).m = x.m + l.length := by
 intro l
 induction l with
 | nil => intro x;rfl
 | cons e l ih =>
  intro x
  show ((x.step e).run l).m = _
  rw [ih]
  have : (x.step e).m = x.m + 1 := by unfold St.step;split <;> rfl
  rw [this,List.length_cons];omega
theorem zIH {α : Type} (p : α → Bool) (l : List α) : l.length = (l.filter p).length + (l.filter fun u => !p u).length := by
 induction l with
 | nil => rfl
 | cons a l ih =>
  rw [List.filter_cons,List.filter_cons]
  cases p a <;> simp <;> omega
theorem qu8 {n : Nat} : ∀ {l : List Nat},l.Nodup → (∀ u ∈ l,u < n) → l.length ≤ n := by
 induction n with
 | zero =>
  intro l _ h
  cases l with
  | nil => exact Nat.le_refl _
  | cons a l => exact absurd (h a List.mem_cons_self) (by omega)
 | succ n ih =>
  intro l hn h
  have h1 := ih (l := l.filter fun u => !(u == n)) (hn.filter _) (fun u hu => by
   rw [List.mem_filter] at hu
   have := h u hu.1
   have h2 : ¬ u = n := by simpa using hu.2
   omega)
  have h2 : l.length ≤ (l.filter fun u => !(u == n)).length + 1 := by
   have e := zIH (fun u => u == n) l
   have h3 : (l.filter fun u => u == n).length ≤ 1 := by
    rw [← List.countP_eq_length_filter]
    exact List.nodup_iff_count.1 hn n
   omega
  omega
theorem zJG (K : Nat → List Int) (n : Nat) : (zCW K n).length = 2 * (zL1 K n).L.length ∧ (zL1 K n).L.length ≤ n ∧ (zL1 K n).m = (zCW K n).length := by
 have g := zLC K n
 have h1 := zT2 (zCW K n) (st0 n)
 have h1 : (zL1 K n).m = 0 + (zCW K n).length := h1
 have h2 := g.cnt
 have h3 := g.P0
 rw [h3] at h2
 simp at h2
 exact ⟨by omega,qu8 g.nod g.lt,by omega⟩
end Go.Vc

namespace Go.Vc
open Go.Proofs
set_option maxRecDepth 10000
set_option maxHeartbeats 4000000
def ql6 (l : List ql4) (i : Nat) : List Int := (l.getD i ql2.dflt).2.2.2.2.2.2
def evs (l : List ql4) : List Ev := zCW (ql6 l) l.length
def zQ4 (e : Ev) : SV := .agg [.int .i64 e.1,.int .i64 e.2.1,.flt e.2.2.1,.bool e.2.2.2]
def frm (p : Nat × Nat) : Int × Int := ((p.1 : Int),(p.2 : Int))
def qqD (p : List (Nat × Nat)) : List (Int × Int) := (p.map frm).reverse
def zXI (l : List ql4) : List (Nat × Nat) → Nat
 | [] => 0
 | (i,j) :: _ => (ql6 l i).length - j
def bigT (l : List ql4) : Nat := ((List.range l.length).map fun i => (ql6 l i).length).sum + 2
instance oWalk (l : List ql4) : Fn BB 49 [.agg [.rd ql2 l]] True (.fn 57 [.el (.sl ql2) [l] 0 0]) := by
 refine Fn.intro (N := 4) [0,1,2] [] Try.call49 Try.func49 rfl rfl (by kernel_rfl) (fun hpre => ?_)
 all_goals exact vcA
structure WI (l : List ql4) (p : List (Nat × Nat)) (s : List Bool) (m : Nat) : Prop where
 e : (evs l).drop m = qu0 (ql6 l) p s m
 s : s.length = l.length
 pn : ∀ q ∈ p,q.1 < l.length
 mle : m ≤ (evs l).length
 m1 : 1 ≤ m
 pl : p.length ≤ m
theorem zNR {l : List ql4} (h : 0 < l.length) : evs l = (0, -1,0,false) :: qu0 (ql6 l) [(0,0)] ((List.replicate l.length false).set 0 true) 1 := by
 unfold evs zCW;rw [if_neg (by omega)]
theorem qp6 (q : Nat × Nat) (r : List (Nat × Nat)) : qqD (q :: r) = qqD r ++ [frm q] := by unfold qqD;rw [List.map_cons,List.reverse_cons]
theorem qn9 (p : List (Nat × Nat)) : (qqD p).length = p.length := by unfold qqD;simp
theorem zHS (q : Nat × Nat) (r : List (Nat × Nat)) (d : Int × Int) : (qqD (q :: r)).getD r.length d = frm q := by
 rw [qp6,List.getD_eq_getElem?_getD,List.getElem?_append_right (by rw [qn9];omega)]
 simp [qn9]
theorem zLU (l : List ql4) (i : Nat) : (List.getD l i ql2.dflt).2.2.2.2.2.2 = ql6 l i := rfl
theorem zVS (i j : Nat) (rest : List (Nat × Nat)) : (((qqD ((i,j) :: rest)).length : Int) - 1).toNat = rest.length := by rw [qn9,List.length_cons];omega
theorem topD (i j : Nat) (rest : List (Nat × Nat)) (d : Int × Int) : (qqD ((i,j) :: rest)).getD (((qqD ((i,j) :: rest)).length : Int) - 1).toNat d = ((i : Int),(j : Int)) := by
 rw [zVS];exact zHS _ _ _
theorem setD (i j : Nat) (rest : List (Nat × Nat)) : (qqD ((i,j) :: rest)).set (((qqD ((i,j) :: rest)).length : Int) - 1).toNat ((i : Int),(j : Int) + 1) = qqD ((i,j + 1) :: rest) := by
 rw [zVS,qp6,qp6,List.set_append_right _ _ (by rw [qn9];omega),qn9]
 simp [frm]
theorem cutD (i j : Nat) (rest : List (Nat × Nat)) : (qqD ((i,j) :: rest)).take (((qqD ((i,j) :: rest)).length : Int) - 1).toNat = qqD rest := by
 rw [zVS,qp6,List.take_append_of_le_length (by rw [qn9];omega), ← qn9,List.take_length]
theorem appD (k : Int) (hk : 0 ≤ k) (rest : List (Nat × Nat)) : qqD rest ++ [(k,0)] = qqD ((k.toNat,0) :: rest) := by
 rw [qp6];unfold frm
 rw [show ((k.toNat : Nat) : Int) = k by omega];rfl
theorem drop_cons {α : Type} {l r : List α} {m : Nat} {a : α} (h : l.drop m = a :: r) : m < l.length ∧ (∀ d,l.getD m d = a) ∧ l.drop (m + 1) = r := by
 have hm : m < l.length := by
  rcases Nat.lt_or_ge m l.length with q | q
  ·exact q
  ·rw [List.drop_eq_nil_of_le q] at h;cases h
 rw [List.drop_eq_getElem_cons hm] at h
 injection h with h1 h2
 exact ⟨hm,fun d => by rw [List.getD_eq_getElem?_getD,List.getElem?_eq_getElem hm,h1];rfl,h2⟩
theorem zPF : ∀ (m : List Nat) (x : Nat),x ∈ m → x ≤ m.sum := by
 intro m
 induction m with
 | nil => intro x hx;cases hx
 | cons a m ih =>
  intro x hx
  rw [List.sum_cons]
  rcases List.mem_cons.1 hx with e | e
  ·omega
  ·have := ih x e;omega
theorem zV5 {s : List Bool} {n : Nat} {k : Int} (hs : s.length = n) (h : (decide (k < 0) || decide (k ≥ (n : Int)) || s.getD k.toNat false) = true) : okK s k = false := by
 unfold okK
 by_cases h1 : k < 0
 ·rw [decide_eq_false (by omega : ¬ 0 ≤ k)];rfl
 ·by_cases h2 : k ≥ (n : Int)
  ·have : s.getD k.toNat true = true := by rw [List.getD_eq_getElem?_getD,List.getElem?_eq_none (by omega)];rfl
   rw [this];simp
  ·rw [decide_eq_false h1,decide_eq_false h2] at h
   have hl : k.toNat < s.length := by omega
   have h3 : s.getD k.toNat false = true := by simpa using h
   have : s.getD k.toNat true = true := by
    rw [List.getD_eq_getElem?_getD,List.getElem?_eq_getElem hl] at h3 ⊢;exact h3
   rw [this];simp
theorem zW3 {s : List Bool} {n : Nat} {k : Int} (hs : s.length = n) (h : (decide (k < 0) || decide (k ≥ (n : Int)) || s.getD k.toNat false) = false) : okK s k = true := by
 rw [Bool.or_eq_false_iff,Bool.or_eq_false_iff] at h
 have h1 := of_decide_eq_false h.1.1
 have h2 := of_decide_eq_false h.1.2
 have hl : k.toNat < s.length := by omega
 unfold okK
 rw [decide_eq_true (by omega : 0 ≤ k)]
 have h3 := h.2
 have : s.getD k.toNat true = false := by
  rw [List.getD_eq_getElem?_getD,List.getElem?_eq_getElem hl] at h3 ⊢;exact h3
 rw [this];rfl
theorem zOT (l : List ql4) (i : Nat) : (ql6 l i).length + 2 ≤ bigT l := by
 unfold bigT
 rcases Nat.lt_or_ge i l.length with h | h
 ·have := zPF ((List.range l.length).map fun i => (ql6 l i).length) (ql6 l i).length (List.mem_map.2 ⟨i,List.mem_range.2 h,rfl⟩)
  omega
 ·have : ql6 l i = [] := by unfold ql6;rw [List.getD_eq_getElem?_getD,List.getElem?_eq_none h];rfl
  rw [this];simp
theorem zJQ (l : List ql4) (p : List (Nat × Nat)) : zXI l p + 2 ≤ bigT l := by
 cases p with
 | nil => show 0 + 2 ≤ _;unfold bigT;omega
 | cons q r => obtain ⟨i,j⟩ := q;have := zOT l i;show (ql6 l i).length - j + 2 ≤ _;omega
theorem zM4 {l : List ql4} {a b x y : Nat} (h : a + 1 ≤ b) (hx : x + 2 ≤ bigT l) : a * bigT l + x < b * bigT l + y := by
 have : (a + 1) * bigT l ≤ b * bigT l := Nat.mul_le_mul_right _ h
 rw [Nat.add_mul] at this
 omega
instance oIt (l : List ql4) : It BB 57 [.el (.sl ql2) [l] 0 0] (l.length ≤ 45) (evs l).length (fun i => [zQ4 ((evs l).getD i (0,0,0,false))]) := by
  refine It.intro (N := 118) [0,1,3,4,5,6,7,8,9,19,30,51,60,100,110] [(7,[0,1,0,0,0,1,3,3,3,3]),(12,[0,0,0,1,0,0,0,0,1,1,1,1,3])] 0 Try.call57 Try.func57 rfl rfl (by kernel_rfl) (fun hpre yl => ?_)
  repeat' ((conv => whnf);first|(with_reducible first|rfl|exact qmF|exact qmE)|exact True.intro|intro _|refine WA ?_ ?_|refine WF ?_|refine W1 rfl ?_ ?_|refine W2 rfl ?_ ?_|refine W3 rfl ?_ ?_|refine W4 ?_ ?_|refine W5 rfl ?_ ?_|refine W6 ?_ ?_|refine WN ?_|refine X1 (W1 rfl ?_ ?_)|refine X1 (W2 rfl ?_ ?_)|refine X2 (W7 rfl ?_ ?_)|refine X3 (W7 rfl ?_ ?_)|refine X4 (W7 rfl ?_ ?_)|refine X5 (W7 rfl ?_ ?_))
  all_goals (try (conv => whnf))
  all_goals (try simp only [List.getD_cons_zero] at *)
  all_goals (try first|exact obA|refine Ob.mk ?_)
  all_goals (try (have hz : l.length = 0 := by have h := ‹((l.length : Int) == 0) = true›;rw [beq_iff_eq] at h;omega))
  all_goals (try (have hz : 0 < l.length := by have h := ‹((l.length : Int) == 0) = false›;rw [beq_eq_false_iff_ne] at h;omega))
  all_goals (try (have he := zNR hz))
  all_goals (try (exfalso;have h := ‹(false || !true) = true›;cases h;done))
  all_goals (try (exfalso;have h := ‹(false || !false) = false›;cases h;done))
  · rw [he,List.length_cons];omega
  · rw [he];rfl
  · rw [he];rfl
  · rw [he];rfl
  · rw [he];rfl
  · rw [List.length_replicate];constructor <;> omega
  · rw [List.length_replicate];show 0 < _;omega
  have hE : (evs l).length ≤ 90 := by
    have := zJG (ql6 l) l.length
    show (zCW (ql6 l) l.length).length ≤ 90
    omega
  refine LoopStop.mk (α := List (Nat × Nat) × List Bool × Nat) (fun a => [(3,.own 0),(4,.flt a.2.2),(5,.own 1)]) (fun a => [(GID,.gh (some a.2.2)),(0,.own .bool a.2.1),(1,.own zR7 (qqD a.1))]) 40
    (fun a => WI l a.1 a.2.1 a.2.2) (fun a => (qu0 (ql6 l) a.1 a.2.1 a.2.2).length * bigT l + zXI l a.1) ([(0,0)],(List.replicate l.length false).set 0 true,1) ⟨by rw [he];rfl,by simp,(fun q hq => by simp at hq;subst hq;exact hz),(by show 1 ≤ _;rw [he,List.length_cons];omega),Nat.le_refl _,Nat.le_refl _⟩ ?_ (fun a ha => ?_)
  · repeat' ((conv => whnf);first|(with_reducible first|rfl|exact qmF|exact qmE)|exact True.intro|intro _|refine WA ?_ ?_|refine WF ?_|refine W1 rfl ?_ ?_|refine W2 rfl ?_ ?_|refine W3 rfl ?_ ?_|refine W4 ?_ ?_|refine W5 rfl ?_ ?_|refine W6 ?_ ?_|refine WN ?_|refine X1 (W1 rfl ?_ ?_)|refine X1 (W2 rfl ?_ ?_)|refine X2 (W7 rfl ?_ ?_)|refine X3 (W7 rfl ?_ ?_)|refine X4 (W7 rfl ?_ ?_)|refine X5 (W7 rfl ?_ ?_))
    all_goals (try (conv => whnf))
    all_goals (try first|exact obA|refine Ob.mk ?_)
    all_goals (try rfl)
    all_goals trace_state
  · obtain ⟨p,s,m⟩ := a
    dsimp only at ha ⊢
    cases p with
    | nil =>
      have hm : m = (evs l).length := by
        have h := congrArg List.length ha.e
        have h2 := ha.mle
        rw [List.length_drop] at h
        simp [qu0] at h
        omega
      repeat' ((conv => whnf);first|(with_reducible first|rfl|exact qmF|exact qmE)|exact True.intro|intro _|refine WA ?_ ?_|refine WF ?_|refine W1 rfl ?_ ?_|refine W2 rfl ?_ ?_|refine W3 rfl ?_ ?_|refine W4 ?_ ?_|refine W5 rfl ?_ ?_|refine W6 ?_ ?_|refine WN ?_|refine X1 (W1 rfl ?_ ?_)|refine X1 (W2 rfl ?_ ?_)|refine X2 (W7 rfl ?_ ?_)|refine X3 (W7 rfl ?_ ?_)|refine X4 (W7 rfl ?_ ?_)|refine X5 (W7 rfl ?_ ?_))
      all_goals (try (conv => whnf))
      all_goals (try first|exact obA|refine Ob.mk ?_)
      all_goals (try (exfalso;have h := of_decide_eq_true ‹decide (((qqD []).length : Int) > 0) = true›;revert h;decide))
      all_goals (first | exact hm | skip)
    | cons q rest =>
      obtain ⟨i,j⟩ := q
      have hin : i < l.length := ha.pn (i,j) List.mem_cons_self
      have hml := ha.mle
      have hm1 := ha.m1
      have hpl : rest.length + 1 ≤ m := ha.pl
      have hek := ha.e
      have hsl := ha.s
      repeat' ((conv => whnf);first|(with_reducible first|rfl|exact qmF|exact qmE)|exact True.intro|intro _|refine WA ?_ ?_|refine WF ?_|refine W1 rfl ?_ ?_|refine W2 rfl ?_ ?_|refine W3 rfl ?_ ?_|refine W4 ?_ ?_|refine W5 rfl ?_ ?_|refine W6 ?_ ?_|refine WN ?_|refine X1 (W1 rfl ?_ ?_)|refine X1 (W2 rfl ?_ ?_)|refine X2 (W7 rfl ?_ ?_)|refine X3 (W7 rfl ?_ ?_)|refine X4 (W7 rfl ?_ ?_)|refine X5 (W7 rfl ?_ ?_))
      all_goals (try (conv => whnf))
      all_goals (try first|exact obA|refine Ob.mk ?_)
      all_goals (try simp only [List.getD_cons_zero] at *)
      all_goals (try simp only [topD] at *)
      all_goals (try simp only [Int.toNat_natCast,zLU,setD,cutD] at *)
      all_goals (try (exfalso;have h := of_decide_eq_false ‹decide (((qqD ((i,j) :: rest)).length : Int) > 0) = false›;rw [qn9,List.length_cons] at h;omega))
      all_goals (try (exfalso;have h := ‹(!true) = true›;cases h;done))
      all_goals (try (exfalso;have h := ‹(!false) = false›;cases h;done))
      all_goals (try (have hj : ¬ j < (ql6 l i).length := by have h := of_decide_eq_true ‹decide ((j : Int) ≥ ((ql6 l i).length : Int)) = true›;omega))
      all_goals (try (have hj : j < (ql6 l i).length := by have h := of_decide_eq_false ‹decide ((j : Int) ≥ ((ql6 l i).length : Int)) = false›;omega))
      all_goals (try (rw [zFD hj] at hek;obtain ⟨d1,d2,d3⟩ := drop_cons hek))
      · exact ⟨by omega,by omega⟩
      · exact d1
      · rw [d2]
      · rw [d2]
      · rw [d2]
      · rw [d2]
      · have hr := zJQ l rest
        refine Rnd.mk ⟨(rest,s,m + 1),⟨by rw [d3],hsl,fun q hq => ha.pn q (List.mem_cons_of_mem _ hq),(by show m + 1 ≤ _;omega),(by show 1 ≤ m + 1;omega),(by show rest.length ≤ m + 1;omega)⟩,?_,?_⟩
        · dsimp only
          rw [zFD hj,List.length_cons]
          exact zM4 (Nat.le_refl _) hr
        · repeat' ((conv => whnf);first|(with_reducible first|rfl|exact qmF|exact qmE)|exact True.intro|intro _|refine WA ?_ ?_|refine WF ?_|refine W1 rfl ?_ ?_|refine W2 rfl ?_ ?_|refine W3 rfl ?_ ?_|refine W4 ?_ ?_|refine W5 rfl ?_ ?_|refine W6 ?_ ?_|refine WN ?_|refine X1 (W1 rfl ?_ ?_)|refine X1 (W2 rfl ?_ ?_)|refine X2 (W7 rfl ?_ ?_)|refine X3 (W7 rfl ?_ ?_)|refine X4 (W7 rfl ?_ ?_)|refine X5 (W7 rfl ?_ ?_))
          all_goals (try (conv => whnf))
          all_goals (try first|exact obA|refine Ob.mk ?_)
          all_goals (try rfl)
          all_goals trace_state
      · have hj : j < (ql6 l i).length := by
          have h := of_decide_eq_false ‹decide ((j : Int) ≥ ((ql6 l i).length : Int)) = false›
          omega
        exact ⟨by omega,by show (j : Int) < ((ql6 l i).length : Int);omega⟩
      · have hk : (ql6 l i).length ≤ 9223372036854775807 := by assumption
        constructor <;> omega
      · have h : (decide ((ql6 l i).getD j 0 < 0) || decide ((ql6 l i).getD j 0 ≥ (l.length : Int))) = false := by assumption
        rw [Bool.or_eq_false_iff] at h
        have h1 := of_decide_eq_false h.1
        have h2 := of_decide_eq_false h.2
        show 0 ≤ (ql6 l i).getD j 0 ∧ (ql6 l i).getD j 0 < (s.length : Int)
        omega
      · have h : (decide ((ql6 l i).getD j 0 < 0) || decide ((ql6 l i).getD j 0 ≥ (l.length : Int))) = false := by assumption
        rw [Bool.or_eq_false_iff] at h
        have h1 := of_decide_eq_false h.1
        have h2 := of_decide_eq_false h.2
        show ((ql6 l i).getD j 0).toNat < s.length
        omega
      · have hc : (decide ((ql6 l i).getD j 0 < 0) || decide ((ql6 l i).getD j 0 ≥ (l.length : Int)) || s.getD ((ql6 l i).getD j 0).toNat false) = true := by assumption
        have hk := zV5 hsl hc
        rw [zEU hj hk] at hek
        refine Rnd.mk ⟨((i,j + 1) :: rest,s,m),⟨hek,hsl,(fun q hq => (by rcases List.mem_cons.1 hq with e | e;(subst e;exact hin);exact ha.pn q (List.mem_cons_of_mem _ e))),hml,hm1,ha.pl⟩,?_,?_⟩
        · dsimp only
          rw [zEU hj hk]
          show _ + ((ql6 l i).length - (j + 1)) < _ + ((ql6 l i).length - j)
          omega
        · all_goals exact vcA
      all_goals (try (have hc : (decide ((ql6 l i).getD j 0 < 0) || decide ((ql6 l i).getD j 0 ≥ (l.length : Int)) || s.getD ((ql6 l i).getD j 0).toNat false) = false := by assumption))
      all_goals (have hk := zW3 hsl hc)
      all_goals (have hks := qnL hk)
      all_goals (rw [zH3 hj hk] at hek;obtain ⟨d1,d2,d3⟩ := drop_cons hek)
      · exact ⟨hks.1,by show (ql6 l i).getD j 0 < (s.length : Int);omega⟩
      · exact hks.2.1
      · exact d1
      · rw [d2];show (ql6 l i).getD j 0 = _;dsimp only;omega
      · rw [d2]
      · rw [d2]
      · rw [d2]
      · simp only [cast_eq]
        have := qn9 ((i,j + 1) :: rest)
        rw [this]
        simp
        omega
      · refine Rnd.mk ⟨((((ql6 l i).getD j 0).toNat,0) :: (i,j + 1) :: rest,s.set ((ql6 l i).getD j 0).toNat true,m + 1),⟨d3,by rw [List.length_set];exact hsl,(fun q hq => ?_),(by show m + 1 ≤ _;omega),(by show 1 ≤ m + 1;omega),(by show rest.length + 1 + 1 ≤ m + 1;omega)⟩,?_,?_⟩
        · rcases List.mem_cons.1 hq with e | e
          · subst e;show _ < l.length;have := hks.2.1;omega
          · rcases List.mem_cons.1 e with e | e
            · subst e;exact hin
            · exact ha.pn q (List.mem_cons_of_mem _ e)
        · dsimp only
          rw [zH3 hj hk,List.length_cons]
          exact zM4 (Nat.le_refl _) (zJQ l _)
        · repeat' ((conv => whnf);first|(with_reducible first|rfl|exact qmF|exact qmE)|exact True.intro|intro _|refine WA ?_ ?_|refine WF ?_|refine W1 rfl ?_ ?_|refine W2 rfl ?_ ?_|refine W3 rfl ?_ ?_|refine W4 ?_ ?_|refine W5 rfl ?_ ?_|refine W6 ?_ ?_|refine WN ?_|refine X1 (W1 rfl ?_ ?_)|refine X1 (W2 rfl ?_ ?_)|refine X2 (W7 rfl ?_ ?_)|refine X3 (W7 rfl ?_ ?_)|refine X4 (W7 rfl ?_ ?_)|refine X5 (W7 rfl ?_ ?_))
          all_goals (try (conv => whnf))
          all_goals (try first|exact obA|refine Ob.mk ?_)
          all_goals (try rfl)
          · show Chunk.own zR7 _ = Chunk.own zR7 _
            rw [← appD _ hks.1]
            rfl
  · have : evs l = [] := by unfold evs zCW;rw [if_pos hz]
    rw [this];rfl
end Go.Vc

namespace Go.Vc
open Go.Proofs
set_option maxRecDepth 10000
set_option maxHeartbeats 4000000
noncomputable abbrev BN : Base := { BB with np := fun t => bif Nat.beq t 40 then some 6 else none }
instance toN_fn {f : FuncId} {args : List SV} {pre : Prop} {res : SV} [h : Fn BB f args pre res] : Fn BN f args pre res := ⟨h.call,h.ok⟩
instance toN_fnM {f : FuncId} {args : List SV} {Φ : Phi} {pre : Prop} {res : SV} {Φ' : Phi} [h : FnM BB f args Φ pre res Φ'] : FnM BN f args Φ pre res Φ' := ⟨h.call,h.ok⟩
def pPre (t out : List ql4) (s : List Bool) (k : Int) : Prop := qmZ t = true ∧ s.length = t.length ∧ (0 ≤ k ∧ k < t.length) ∧ out.length + unseen (s.set k.toNat true) + 1 ≤ 5000
theorem zVW {q : List Bool} {n : Nat} (hq : q.length = n) (k : Int) : (decide (k ≥ 0) && decide (k < (n : Int)) && !q.getD k.toNat false) = okK q k := by
  unfold okK
  by_cases h1 : k < 0
  · rw [decide_eq_false (by omega : ¬ k ≥ 0)];rfl
  · rw [decide_eq_true (by omega : k ≥ 0)]
    by_cases h2 : k < (n : Int)
    · rw [decide_eq_true h2]
      have hl : k.toNat < q.length := by omega
      simp [List.getD,hl]
    · have : q.getD k.toNat true = true := by
        rw [List.getD_eq_getElem?_getD,List.getElem?_eq_none (by omega)];rfl
      rw [decide_eq_false h2,this];rfl
theorem qxJ (o : List ql4) (p : Nat) (k : Int) (h : p < o.length) : ((qmM o p k).getD p ql2.dflt).kids = (o.getD p ql2.dflt).kids ++ [k] := by
 unfold qmM
 rw [List.getD_eq_getElem?_getD,List.getElem?_set,if_pos rfl,if_pos h];rfl
theorem zJT (o : List ql4) (n : Nat) (k : Int) (h : n < o.length) :
  (o.set n ((o.getD n ql2.dflt).1,(o.getD n ql2.dflt).2.1,(o.getD n ql2.dflt).2.2.1,(o.getD n ql2.dflt).2.2.2.1,(o.getD n ql2.dflt).2.2.2.2.1,(o.getD n ql2.dflt).2.2.2.2.2.1,(o.getD n ql2.dflt).2.2.2.2.2.2 ++ [k])).set n
   ((o.set n ((o.getD n ql2.dflt).1,(o.getD n ql2.dflt).2.1,(o.getD n ql2.dflt).2.2.1,(o.getD n ql2.dflt).2.2.2.1,(o.getD n ql2.dflt).2.2.2.2.1,(o.getD n ql2.dflt).2.2.2.2.2.1,(o.getD n ql2.dflt).2.2.2.2.2.2 ++ [k])).getD n ql2.dflt) = qmM o n k := by
 rw [List.set_set]
 unfold qmM
 congr 1
 rw [List.getD_eq_getElem?_getD,List.getElem?_set,if_pos rfl,if_pos h]
 rfl
end Go.Vc

namespace Go.Vc
open Go.Proofs
set_option maxRecDepth 10000
def okI (n : Nat) (i : Int) : Prop := 0 ≤ i ∧ i < n
structure Ti (n : Nat) (U : Int → Int) (K : Int → List Int) : Prop where
 pos : 0 < n
 root : U 0 = -1
 kid : ∀ i,okI n i → ∀ k ∈ K i,okI n k ∧ U k = i
 up : ∀ i,okI n i → U i = -1 ∨ (okI n (U i) ∧ (K (U i)).count i = 1)
 dep : ∃ d : Int → Nat,∀ i,okI n i → U i ≠ -1 → d (U i) < d i
inductive Ds (U : Int → Int) (r : Int) : Int → Prop
 | here : Ds U r r
 | up {x : Int} : U x ≠ -1 → Ds U r (U x) → Ds U r x
theorem qzS {l : List Int} {p q : Int → Bool} (h : ∀ x ∈ l,p x = true → q x = true) (y : Int) (hy : y ∈ l) (hp : p y = false) (hq : q y = true) : l.countP p < l.countP q := by
 induction l with
 | nil => cases hy
 | cons a l ih =>
  have hle : l.countP p ≤ l.countP q := List.countP_mono_left fun x hx => h x (List.mem_cons_of_mem _ hx)
  rw [List.countP_cons,List.countP_cons]
  rcases List.mem_cons.1 hy with rfl | hy
  ·rw [hp,hq];simp;omega
  ·have := ih (fun x hx => h x (List.mem_cons_of_mem _ hx)) hy
   have ha := h a List.mem_cons_self
   cases hpa : p a
   ·simp;omega
   ·rw [ha hpa];simp;omega
theorem Ti.rank {n : Nat} {U : Int → Int} {K : Int → List Int} (h : Ti n U K) : ∃ d : Int → Nat,(∀ i,okI n i → d i < n) ∧ ∀ i,okI n i → U i ≠ -1 → d (U i) < d i := by
 obtain ⟨d,hd⟩ := h.dep
 let L : List Int := (List.range n).map fun (k : Nat) => (k : Int)
 have hL : ∀ i,okI n i → i ∈ L := fun i hi => List.mem_map.2 ⟨i.toNat,List.mem_range.2 (by have := hi.2;have := hi.1;omega),by have := hi.1;omega⟩
 refine ⟨fun i => L.countP fun y => decide (d y < d i),fun i hi => ?_,fun i hi hu => ?_⟩
 ·have h1 : L.countP (fun y => decide (d y < d i)) < L.countP (fun _ => true) := qzS (fun _ _ _ => rfl) i (hL i hi) (decide_eq_false (Nat.lt_irrefl _)) rfl
  have h2 : L.countP (fun _ => true) = n := by simp [L]
  show L.countP (fun y => decide (d y < d i)) < n
  omega
 ·have hd := hd i hi hu
  rcases h.up i hi with q | q
  ·exact absurd q hu
  ·exact qzS (fun x _ hx => decide_eq_true (Nat.lt_trans (of_decide_eq_true hx) hd)) (U i) (hL _ q.1) (decide_eq_false (Nat.lt_irrefl _)) (decide_eq_true hd)
theorem Ds.le {n : Nat} {U : Int → Int} {K : Int → List Int} (h : Ti n U K) {d : Int → Nat} (hd : ∀ i,okI n i → U i ≠ -1 → d (U i) < d i) {r x : Int} (s : Ds U r x) : okI n x → d r ≤ d x := by
 induction s with
 | here => intro _;exact Nat.le_refl _
 | @up x hu _ ih =>
  intro hx
  rcases h.up x hx with q | q
  ·exact absurd q hu
  ·exact Nat.le_trans (ih q.1) (Nat.le_of_lt (hd x hx hu))
theorem Ds.self {n : Nat} {U : Int → Int} {K : Int → List Int} (h : Ti n U K) {r : Int} (hr : okI n r) (hu : U r ≠ -1) : ¬ Ds U r (U r) := by
 obtain ⟨d,hd⟩ := h.dep
 intro s
 rcases h.up r hr with q | q
 ·exact hu q
 ·have h1 := s.le h hd q.1
  have h2 := hd r hr hu
  omega
theorem zFA {n : Nat} {U : Int → Int} {K : Int → List Int} (h : Ti n U K) {i k : Int} (hi : okI n i) : k ∈ K i ↔ okI n k ∧ U k = i := by
 refine ⟨h.kid i hi k,fun ⟨hk,e⟩ => ?_⟩
 rcases h.up k hk with q | q
 ·have := hi.1;omega
 ·have h2 := q.2
  rw [e] at h2
  exact List.count_pos_iff.1 (by omega)
theorem zMW {n : Nat} {U : Int → Int} {K : Int → List Int} (h : Ti n U K) {i : Int} (hi : okI n i) (k : Int) : (K i).count k ≤ 1 := by
 by_cases hk : k ∈ K i
 ·have hk' := (zFA h hi).1 hk
  rcases h.up k hk'.1 with q | q
  ·have := hi.1;omega
  ·have h2 := q.2;rw [hk'.2] at h2;omega
 ·rw [List.count_eq_zero_of_not_mem hk];omega
theorem qxU : ∀ (n : Nat) (l : List Int),(∀ x ∈ l,0 ≤ x ∧ x < (n : Int)) → (∀ x,l.count x ≤ 1) → l.length ≤ n
 | 0,l,h,_ => by
  cases l with
  | nil => exact Nat.le_refl _
  | cons a l => have := h a List.mem_cons_self;omega
 | n + 1,l,h,h1 => by
  have h2 := qxU n (l.erase (n : Int)) (fun x hx => by
   have hm := h x (List.mem_of_mem_erase hx)
   have : x ≠ (n : Int) := fun e => by
    subst e
    have := List.count_pos_iff.2 hx
    rw [List.count_erase_self] at this
    have := h1 (n : Int);omega
   omega) (fun x => Nat.le_trans (List.Sublist.count_le _ List.erase_sublist) (h1 x))
  have h3 := List.length_erase (a := (n : Int)) (l := l)
  split at h3 <;> omega
theorem Ti.len {n : Nat} {U : Int → Int} {K : Int → List Int} (h : Ti n U K) {i : Int} (hi : okI n i) : (K i).length ≤ n :=
 qxU n (K i) (fun x hx => (h.kid i hi x hx).1) (zMW h hi)
theorem Ti.add {n : Nat} {U U' : Int → Int} {K K' : Int → List Int} (h : Ti n U K) (hU : ∀ i,okI n i → U' i = U i) (hK : ∀ i,okI n i → K' i = K i) (hn : U' n = -1) (hk : K' n = []) : Ti (n + 1) U' K' := by
 have hs : ∀ i,okI (n + 1) i → okI n i ∨ i = n := fun i hi => by have := hi.1;have := hi.2;rcases Int.lt_or_le i n with q | q;exact .inl ⟨by omega,by omega⟩;exact .inr (by omega)
 have ho : ∀ i,okI n i → okI (n + 1) i := fun i hi => ⟨hi.1,by have := hi.2;omega⟩
 have h0 : okI n 0 := ⟨by omega,by have := h.pos;omega⟩
 obtain ⟨d,hd⟩ := h.dep
 refine ⟨by omega,by rw [hU 0 h0];exact h.root,fun i hi k hk' => ?_,fun i hi => ?_,d,fun i hi hu => ?_⟩
 ·rcases hs i hi with q | rfl
  ·rw [hK i q] at hk'
   have := h.kid i q k hk'
   exact ⟨ho _ this.1,by rw [hU _ this.1];exact this.2⟩
  ·rw [hk] at hk';cases hk'
 ·rcases hs i hi with q | rfl
  ·rw [hU i q]
   rcases h.up i q with q' | q'
   ·exact .inl q'
   ·exact .inr ⟨ho _ q'.1,by rw [hK _ q'.1];exact q'.2⟩
  ·exact .inl hn
 ·rcases hs i hi with q | rfl
  ·rw [hU i q] at hu ⊢;exact hd i q hu
  ·exact absurd hn hu
theorem Ti.congr {n : Nat} {U U' : Int → Int} {K K' : Int → List Int} (h : Ti n U K) (hU : ∀ i,okI n i → U' i = U i) (hK : ∀ i,okI n i → K' i = K i) : Ti n U' K' := by
 have h0 : okI n 0 := ⟨by omega,by have := h.pos;omega⟩
 obtain ⟨d,hd⟩ := h.dep
 refine ⟨h.pos,by rw [hU 0 h0];exact h.root,fun i hi k hk' => ?_,fun i hi => ?_,d,fun i hi hu => ?_⟩
 ·rw [hK i hi] at hk'
  have := h.kid i hi k hk'
  exact ⟨this.1,by rw [hU k this.1];exact this.2⟩
 ·rw [hU i hi]
  rcases h.up i hi with q | q
  ·exact .inl q
  ·exact .inr ⟨q.1,by rw [hK _ q.1];exact q.2⟩
 ·rw [hU i hi] at hu ⊢;exact hd i hi hu
theorem Ti.cut {n : Nat} {U U' : Int → Int} {K K' : Int → List Int} (h : Ti n U K) {kid : Int} (hk : okI n kid) (hu : U kid ≠ -1) (hU : ∀ i,okI n i → U' i = if i = kid then -1 else U i) (hK : ∀ i,okI n i → i ≠ U kid → K' i = K i)
  (hKp : ∀ k,(K' (U kid)).count k + (if k = kid then 1 else 0) = (K (U kid)).count k) : Ti n U' K' := by
 have h0 : okI n 0 := ⟨by omega,by have := h.pos;omega⟩
 have hp : okI n (U kid) ∧ (K (U kid)).count kid = 1 := (h.up kid hk).resolve_left hu
 obtain ⟨d,hd⟩ := h.dep
 have hne : ∀ i,okI n i → ∀ k,k ∈ K' i → k ∈ K i ∧ k ≠ kid := fun i hi k hk' => by
  by_cases e : i = U kid
  ·subst e
   have h1 := List.count_pos_iff.2 hk'
   have h2 := hKp k
   by_cases e' : k = kid
   ·subst e';rw [if_pos rfl,hp.2] at h2;omega
   ·rw [if_neg e'] at h2
    exact ⟨List.count_pos_iff.1 (by omega),e'⟩
  ·rw [hK i hi e] at hk'
   refine ⟨hk',fun e' => ?_⟩
   subst e'
   exact e (h.kid i hi _ hk').2.symm
 refine ⟨h.pos,?_,fun i hi k hk' => ?_,fun i hi => ?_,d,fun i hi hu' => ?_⟩
 ·rw [hU 0 h0];split
  ·rfl
  ·exact h.root
 ·obtain ⟨a,b⟩ := hne i hi k hk'
  have := h.kid i hi k a
  exact ⟨this.1,by rw [hU k this.1,if_neg b];exact this.2⟩
 ·rw [hU i hi]
  split
  ·exact .inl rfl
  ·rename_i e
   rcases h.up i hi with q | q
   ·exact .inl q
   ·refine .inr ⟨q.1,?_⟩
    by_cases e2 : U i = U kid
    ·have h2 := hKp i
     rw [if_neg e,Nat.add_zero] at h2
     rw [e2,h2, ← e2];exact q.2
    ·rw [hK _ q.1 e2];exact q.2
 ·rw [hU i hi] at hu' ⊢
  split at hu'
  ·exact absurd rfl hu'
  ·rename_i e;rw [if_neg e];exact hd i hi hu'
open Classical in
theorem Ti.put {n : Nat} {U U' : Int → Int} {K K' : Int → List Int} (h : Ti n U K) {kid p : Int} (hk : okI n kid) (hk0 : kid ≠ 0) (hp : okI n p) (hu : U kid = -1) (hd' : ¬ Ds U kid p) (hU : ∀ i,okI n i → U' i = if i = kid then p else U i)
  (hK : ∀ i,okI n i → i ≠ p → K' i = K i) (hKp : ∀ k,(K' p).count k = (K p).count k + if k = kid then 1 else 0) : Ti n U' K' := by
 have h0 : okI n 0 := ⟨by omega,by have := h.pos;omega⟩
 obtain ⟨d,hd⟩ := h.dep
 have hno : kid ∉ K p := fun q => by have := (h.kid p hp _ q).2;have := hp.1;omega
 refine ⟨h.pos,by rw [hU 0 h0,if_neg (Ne.symm hk0)];exact h.root,fun i hi k hk' => ?_,fun i hi => ?_,fun x => if Ds U kid x then d x + d p + 1 else d x,fun i hi hu' => ?_⟩
 ·by_cases e : i = p
  ·subst e
   have hc := List.count_pos_iff.2 hk'
   rw [hKp] at hc
   by_cases ek : k = kid
   ·subst ek;exact ⟨hk,by rw [hU k hk,if_pos rfl]⟩
   ·rw [if_neg ek] at hc
    have := h.kid i hi k (List.count_pos_iff.1 (by omega))
    exact ⟨this.1,by rw [hU k this.1,if_neg ek];exact this.2⟩
  ·rw [hK i hi e] at hk'
   have := h.kid i hi k hk'
   exact ⟨this.1,by rw [hU k this.1,if_neg (fun ek => by subst ek;have := hi.1;omega)];exact this.2⟩
 ·rw [hU i hi]
  split
  ·rename_i e
   subst e
   exact .inr ⟨hp,by rw [hKp,if_pos rfl,List.count_eq_zero_of_not_mem hno]⟩
  ·rename_i e
   rcases h.up i hi with q | q
   ·exact .inl q
   ·refine .inr ⟨q.1,?_⟩
    by_cases eq : U i = p
    ·rw [eq,hKp,if_neg e,Nat.add_zero, ← eq];exact q.2
    ·rw [hK _ q.1 eq];exact q.2
 ·rw [hU i hi] at hu' ⊢
  by_cases e : i = kid
  ·subst e
   simp only [if_true]
   rw [if_neg hd',if_pos Ds.here];omega
  ·rw [if_neg e] at hu' ⊢
   have hlt := hd i hi hu'
   have hiff : Ds U kid i ↔ Ds U kid (U i) := ⟨fun s => by cases s with | here => exact absurd rfl e | up _ s => exact s,fun s => .up hu' s⟩
   simp only
   by_cases hs : Ds U kid i
   ·rw [if_pos hs,if_pos (hiff.1 hs)];omega
   ·rw [if_neg hs,if_neg (fun q => hs (hiff.2 q))];exact hlt
open Classical in
theorem Ti.move {n : Nat} {U U' : Int → Int} {K K' : Int → List Int} (h : Ti n U K) {a b : Int} (ha : okI n a) (hb : okI n b) (hd' : ¬ Ds U a b) (hU : ∀ i,okI n i → U' i = if i ∈ K a then b else U i)
    (hKa : K' a = []) (hKb : K' b = K b ++ K a) (hK : ∀ i,okI n i → i ≠ a → i ≠ b → K' i = K i) : Ti n U' K' := by
  have h0 : okI n 0 := ⟨by omega,by have := h.pos;omega⟩
  have hab : b ≠ a := fun e => hd' (by rw [e];exact .here)
  obtain ⟨d,hd⟩ := h.dep
  have hm : ∀ i,okI n i → (i ∈ K a ↔ U i = a) := fun i hi => by rw [zFA h ha];exact ⟨fun q => q.2,fun q => ⟨hi,q⟩⟩
  have hU2 : ∀ i,okI n i → U' i = if U i = a then b else U i := fun i hi => by
    rw [hU i hi]
    by_cases q : i ∈ K a
    · rw [if_pos q,if_pos ((hm i hi).1 q)]
    · rw [if_neg q,if_neg (fun e => q ((hm i hi).2 e))]
  refine ⟨h.pos,by rw [hU2 0 h0,h.root,if_neg (by have := ha.1;omega)],fun i hi k hk' => ?_,fun i hi => ?_,fun x => if Ds U a x ∧ x ≠ a then d x + d b + 1 else d x,fun i hi hu' => ?_⟩
  · by_cases ea : i = a
    · subst ea;rw [hKa] at hk';cases hk'
    · by_cases eb : i = b
      · subst eb
        rw [hKb] at hk'
        rcases List.mem_append.1 hk' with q | q
        · have := h.kid i hi k q
          exact ⟨this.1,by rw [hU2 k this.1,this.2,if_neg hab]⟩
        · have := h.kid a ha k q
          exact ⟨this.1,by rw [hU2 k this.1,if_pos this.2]⟩
      · rw [hK i hi ea eb] at hk'
        have := h.kid i hi k hk'
        exact ⟨this.1,by rw [hU2 k this.1,this.2,if_neg ea]⟩
  · rw [hU2 i hi]
    by_cases e : U i = a
    · rw [if_pos e]
      refine .inr ⟨hb,?_⟩
      rw [hKb,List.count_append,List.count_eq_zero_of_not_mem (fun q => hab ((h.kid b hb i q).2.symm.trans e))]
      rcases h.up i hi with q | q
      · have := ha.1;omega
      · have h2 := q.2;rw [e] at h2;omega
    · rw [if_neg e]
      rcases h.up i hi with q | q
      · exact .inl q
      · refine .inr ⟨q.1,?_⟩
        by_cases eb : U i = b
        · rw [eb,hKb,List.count_append,List.count_eq_zero_of_not_mem (l := K a) (fun q' => e ((hm i hi).1 q'))]
          have h2 := q.2;rw [eb] at h2;omega
        · rw [hK _ q.1 e eb];exact q.2
  · rw [hU2 i hi] at hu' ⊢
    by_cases e : U i = a
    · rw [if_pos e]
      have hi2 : i ≠ a := fun q => by
        have hlt := hd i hi (by rw [e];have := ha.1;omega)
        rw [e,q] at hlt;omega
      simp only
      rw [if_neg (fun q => hd' q.1),if_pos ⟨.up (by rw [e];have := ha.1;omega) (by rw [e];exact .here),hi2⟩]
      omega
    · rw [if_neg e] at hu' ⊢
      have hlt := hd i hi hu'
      simp only
      by_cases hs : Ds U a i ∧ i ≠ a
      · have hs2 : Ds U a (U i) := by
          cases hs.1 with
          | here => exact absurd rfl hs.2
          | up _ s => exact s
        rw [if_pos hs,if_pos ⟨hs2,e⟩];omega
      · rw [if_neg hs]
        split
        · rename_i q
          by_cases hi2 : i = a
          · subst hi2
            exact absurd q.1 (Ds.self h hi hu')
          · exact absurd ⟨.up hu' q.1,hi2⟩ hs
        · exact hlt
end Go.Vc

namespace Go.Vc
open Go.Proofs
set_option maxRecDepth 10000
set_option maxHeartbeats 4000000
def qm5 (t : List ql4) : List ql4 := if t = [] then [qqZ] else qwO t (ql6 t) [] (List.replicate t.length false) 0 (-1)
theorem qz0 (s : List Bool) : unseen s ≤ s.length := List.count_le_length
theorem zLH {t : List ql4} (h0 : ((t.length : Int) == 0) = true) : qm5 t = [qqZ] := by
 have h1 : t.length = 0 := by have := eq_of_beq h0;omega
 unfold qm5;rw [if_pos (List.length_eq_zero_iff.1 h1)]
theorem zPA {t : List ql4} (h0 : ¬ ((t.length : Int) == 0) = true) : qm5 t = qwO t (ql6 t) [] (List.replicate t.length false) 0 (-1) := by
 unfold qm5;rw [if_neg (fun h => h0 (by rw [h];rfl))]
end Go.Vc

namespace Go.Vc
open Go.Proofs
set_option maxRecDepth 10000
set_option maxHeartbeats 8000000
def zVO (t out : List ql4) (s : List Bool) (k : Int) (p : Nat) : Prop := qmZ t = true ∧ s.length = t.length ∧ (0 ≤ k ∧ k < t.length) ∧ out.length + unseen (s.set k.toNat true) + 1 ≤ 5000 ∧ p < out.length ∧ (out.getD p ql2.dflt).kids.length ≤ 1000
theorem zJZ (out : List ql4) (p : Nat) (h : p < out.length) (x : ql4) (k : Int) : qmM (out ++ [x]) p k = qmM out p k ++ [x] := by
 unfold qmM
 rw [List.set_append,if_pos h,List.getD_eq_getElem?_getD,List.getElem?_append_left h, ← List.getD_eq_getElem?_getD]
theorem qxN {q : List Bool} {n : Nat} (hq : q.length = n) (k : Int) : (decide (0 ≤ k) && decide (k < (n : Int)) && !q.getD k.toNat false) = okK q k := zVW hq k
theorem zUV (N : Nat) : ∀ (t out : List ql4) (s : List Bool) (k : Int) (p : Nat),
  FnM BN 52 [.int .i64 k,.int .i64 (p : Int),.loc 0 0,.loc 2 0,.loc 4 0,.loc 5 0]
   [(0,.box [.own 1]),(1,.ow .bool s),(2,.box [.own 3]),(3,.nst ql2 6 out none),(4,.box [.rd ql2 t]),(5,.box [.fn 52 [.loc 0 0,.loc 2 0,.loc 4 0,.loc 5 0]])]
   (zVO t out s k p ∧ unseen (s.set k.toNat true) < N) (.tup [])
   [(0,.box [.own 1]),(1,.ow .bool (zFN (ql6 t) s k.toNat)),(2,.box [.own 3]),(3,.nst ql2 6 (qwO t (ql6 t) (qmM out p out.length) s k.toNat p) none),(4,.box [.rd ql2 t]),(5,.box [.fn 52 [.loc 0 0,.loc 2 0,.loc 4 0,.loc 5 0]])] := by
 induction N with
 | zero => intro t out s k p;exact ⟨Try.call52,fun h => absurd h.2 (Nat.not_lt_zero _)⟩
 | succ N ih =>
  intro t out s k p
  refine FnM.intro (N := 84) [0,1,2,3,4,5,8,9,11,37,57,58,59,60,78] [(6,[0,7,0,0,7,0,4,4,4,0,4,4,4,4,4]),(3000006,[454,519,712,714,844,907,909])] 6 Try.call52 Try.func52 rfl rfl (by kernel_rfl) (fun hpre => ?_)
  obtain ⟨⟨hsm,hsl,hk,hlen,hp,hpk⟩,hN⟩ := hpre
  repeat' ((conv => whnf);first|(with_reducible first|rfl|exact qmF|exact qmE)|exact True.intro|intro _|refine WA ?_ ?_|refine WF ?_|refine W1 rfl ?_ ?_|refine W2 rfl ?_ ?_|refine W3 rfl ?_ ?_|refine W4 ?_ ?_|refine W5 rfl ?_ ?_|refine W6 ?_ ?_|refine WN ?_|refine X1 (W1 rfl ?_ ?_)|refine X1 (W2 rfl ?_ ?_)|refine X2 (W7 rfl ?_ ?_)|refine X3 (W7 rfl ?_ ?_)|refine X4 (W7 rfl ?_ ?_)|refine X5 (W7 rfl ?_ ?_))
  all_goals (try (conv => whnf))
  all_goals (try first|exact obA|refine Ob.mk ?_)
  all_goals (try simp only [zHY,zE9,zJB,zE5,List.length_singleton] at *)
  ·exact Nat.le_trans (qqR hsm k (qnD.2 hk)).1 (by decide)
  ·have hl1 : (out ++ [mkN (t.getD k.toNat ql2.dflt) (p : Int)]).length = out.length + 1 := by rw [List.length_append];rfl
   have hpl : p < (out ++ [mkN (t.getD k.toNat ql2.dflt) (p : Int)]).length := by omega
   have hgp : (out ++ [mkN (t.getD k.toNat ql2.dflt) (p : Int)]).getD p ql2.dflt = out.getD p ql2.dflt := by
    rw [List.getD_eq_getElem?_getD,List.getElem?_append_left hp, ← List.getD_eq_getElem?_getD]
   refine ZStop.mk [] [(3,.nst ql2 6 (qmM (out ++ [mkN (t.getD k.toNat ql2.dflt) (p : Int)]) p out.length) none)] 60 ?_
   have o1 : Ob (0 ≤ (p : Int) ∧ (p : Int) < ((out ++ [mkN (t.getD k.toNat ql2.dflt) (p : Int)]).length : Int)) := Ob.mk ⟨by omega,by omega⟩
   have o2 : Ob ((p : Int).toNat < (out ++ [mkN (t.getD k.toNat ql2.dflt) (p : Int)]).length) := Ob.mk (by omega)
   have o3 : Ob ((p : Int).toNat < (out ++ [mkN (t.getD k.toNat ql2.dflt) (p : Int)]).length ∧ (((out ++ [mkN (t.getD k.toNat ql2.dflt) (p : Int)]).getD (p : Int).toNat ql2.dflt).kids.length + 1) * 8 ≤ 70368744177664 ∧ ((out ++ [mkN (t.getD k.toNat ql2.dflt) (p : Int)]).getD (p : Int).toNat ql2.dflt).kids.length + 1 ≤ 70368744177664) := Ob.mk (by rw [Int.toNat_natCast,hgp];exact ⟨by omega,by omega,by omega⟩)
   repeat' ((conv => whnf);first|(with_reducible first|rfl|exact qmF|exact qmE)|exact True.intro|intro _|refine WA ?_ ?_|refine WF ?_|refine W1 rfl ?_ ?_|refine W2 rfl ?_ ?_|refine W3 rfl ?_ ?_|refine W4 ?_ ?_|refine W5 rfl ?_ ?_|refine W6 ?_ ?_|refine WN ?_|refine X1 (W1 rfl ?_ ?_)|refine X1 (W2 rfl ?_ ?_)|refine X2 (W7 rfl ?_ ?_)|refine X3 (W7 rfl ?_ ?_)|refine X4 (W7 rfl ?_ ?_)|refine X5 (W7 rfl ?_ ?_))
   all_goals (try (conv => whnf))
   all_goals (first | exact o1 | exact o2 | exact o3 | exact Ob.mk rfl | (refine Ob.mk ?_;rw [List.length_set];first | exact o1.h | exact o2.h) | skip)
   any_goals (refine Rnd.mk (p := qtD _ _ _ _ _) ?_)
   repeat' ((conv => whnf);first|(with_reducible first|rfl|exact qmF|exact qmE)|exact True.intro|intro _|refine WA ?_ ?_|refine WF ?_|refine W1 rfl ?_ ?_|refine W2 rfl ?_ ?_|refine W3 rfl ?_ ?_|refine W4 ?_ ?_|refine W5 rfl ?_ ?_|refine W6 ?_ ?_|refine WN ?_|refine X1 (W1 rfl ?_ ?_)|refine X1 (W2 rfl ?_ ?_)|refine X2 (W7 rfl ?_ ?_)|refine X3 (W7 rfl ?_ ?_)|refine X4 (W7 rfl ?_ ?_)|refine X5 (W7 rfl ?_ ?_))
   all_goals (try (conv => whnf))
   all_goals (try exact congrArg (fun l => Chunk.nst ql2 6 l none) (zJT (out ++ [mkN (t.getD k.toNat ql2.dflt) (p : Int)]) p out.length hpl))
   ·exact Ob.mk hk
   have hoa := zJZ out p hp (mkN (t.getD k.toNat ql2.dflt) (p : Int)) out.length
   have hpO : qwO t (ql6 t) (qmM out p out.length) s k.toNat p = pS t (ql6 t) (qmM out p out.length ++ [mkN (t.getD k.toNat ql2.dflt) (p : Int)]) (s.set k.toNat true) out.length k.toNat 0 := by unfold qwO;rw [qmV]
   have hpS : zFN (ql6 t) s k.toNat = sS (ql6 t) (s.set k.toNat true) k.toNat 0 := rfl
   rw [hpO,hpS]
   refine LoopStop.mk (α := List ql4 × List Bool × Nat) (fun a => [(59,.int .i64 a.2.2)]) (fun a => [(3,.nst ql2 6 a.1 none),(1,.ow .bool a.2.1)]) 20
    (fun a => pS t (ql6 t) a.1 a.2.1 out.length k.toNat a.2.2 = pS t (ql6 t) (qmM out p out.length ++ [mkN (t.getD k.toNat ql2.dflt) (p : Int)]) (s.set k.toNat true) out.length k.toNat 0 ∧ sS (ql6 t) a.2.1 k.toNat a.2.2 = sS (ql6 t) (s.set k.toNat true) k.toNat 0 ∧ a.2.1.length = t.length ∧ a.1.length + unseen a.2.1 ≤ 5000 ∧
     out.length < a.1.length ∧ (a.1.getD out.length ql2.dflt).kids.length ≤ a.2.2 ∧ a.2.2 ≤ (ql6 t k.toNat).length ∧ unseen a.2.1 ≤ N)
    (fun a => (ql6 t k.toNat).length - a.2.2) (qmM (out ++ [mkN (t.getD k.toNat ql2.dflt) (p : Int)]) p out.length,s.set k.toNat true,0)
    ⟨by rw [hoa],rfl,by simpa using hsl,by show (qmM _ p _).length + unseen (s.set k.toNat true) ≤ 5000;rw [qmV];omega,by rw [qmV];omega,by
     rw [hoa,List.getD_eq_getElem?_getD,List.getElem?_append_right (by rw [qmV];omega),qmV,Nat.sub_self]
     simp [mkN,ql4.kids],Nat.zero_le _,by show unseen (s.set k.toNat true) ≤ N;omega⟩ ?_ (fun a ha => ?_)
   ·all_goals exact vcA
   ·obtain ⟨o,q,j⟩ := a
    dsimp only at ha ⊢
    obtain ⟨h1,h2,h3,h4,h5,h6,h7,h8⟩ := ha
    have hkl : (ql6 t k.toNat).length ≤ 1000 := (qqR hsm k (qnD.2 hk)).2
    repeat' ((conv => whnf);first|(with_reducible first|rfl|exact qmF|exact qmE)|exact True.intro|intro _|refine WA ?_ ?_|refine WF ?_|refine W1 rfl ?_ ?_|refine W2 rfl ?_ ?_|refine W3 rfl ?_ ?_|refine W4 ?_ ?_|refine W5 rfl ?_ ?_|refine W6 ?_ ?_|refine WN ?_|refine X1 (W1 rfl ?_ ?_)|refine X1 (W2 rfl ?_ ?_)|refine X2 (W7 rfl ?_ ?_)|refine X3 (W7 rfl ?_ ?_)|refine X4 (W7 rfl ?_ ?_)|refine X5 (W7 rfl ?_ ?_))
    all_goals (try (conv => whnf))
    all_goals (try first|exact obA|refine Ob.mk ?_)
    all_goals (try simp only [Int.toNat_natCast] at *)
    ·rename_i c1 c2 c3
     have hj : j < (ql6 t k.toNat).length := by have h := of_decide_eq_true c2;exact Int.ofNat_lt.mp h
     have hc : okK q ((ql6 t k.toNat).getD j 0) = true := by rw [← qxN h3];exact c3
     have hok := qnL hc
     have hu := qn5 hok.2.2
     exact ⟨⟨hsm,h3,⟨hok.1,by have h := hok.2.1;rw [h3] at h;exact (by omega : (ql6 t k.toNat).getD j 0 < (t.length : Int))⟩,by change o.length + unseen (q.set ((ql6 t k.toNat).getD j 0).toNat true) + 1 ≤ _;omega,h5,by omega⟩,by change unseen (q.set ((ql6 t k.toNat).getD j 0).toNat true) < N;omega⟩
    ·rename_i c1 c2 c3
     have hj : j < (ql6 t k.toNat).length := by have h := of_decide_eq_true c2;exact Int.ofNat_lt.mp h
     have hc : okK q ((ql6 t k.toNat).getD j 0) = true := by rw [← qxN h3];exact c3
     have hok := qnL hc
     have hu := qn5 hok.2.2
     obtain ⟨e1,e2⟩ := zNP (t := t) (out := o) (p := out.length) hj hc
     rw [e1] at h1;rw [e2] at h2
     obtain ⟨l1,l2,l3,l4⟩ := qy3 (t := t) (K := ql6 t) (qmM o out.length o.length) q ((ql6 t k.toNat).getD j 0).toNat out.length
     rw [qmV] at l1 l2 l3
     refine Rnd.mk ⟨(qwO t (ql6 t) (qmM o out.length o.length) q ((ql6 t k.toNat).getD j 0).toNat out.length,zFN (ql6 t) q ((ql6 t k.toNat).getD j 0).toNat,j + 1),⟨h1,h2,l4.trans h3,by dsimp only;omega,by dsimp only;omega,?_,by show j + 1 ≤ _;omega,by dsimp only;omega⟩,by show _ - (j + 1) < _;omega,?_⟩
     ·dsimp only
      rw [l3 _ h5,qxJ _ _ _ h5,List.length_append,List.length_singleton]
      exact Nat.succ_le_succ h6
     ·all_goals exact vcA
    ·rename_i c1 c2 c3
     have hj : j < (ql6 t k.toNat).length := by have h := of_decide_eq_true c2;exact Int.ofNat_lt.mp h
     have hc : okK q ((ql6 t k.toNat).getD j 0) = false := by rw [← qxN h3];exact c3
     obtain ⟨e1,e2⟩ := zHZ (t := t) (out := o) (p := out.length) hj hc
     rw [e1] at h1;rw [e2] at h2
     refine Rnd.mk ⟨(o,q,j + 1),⟨h1,h2,h3,h4,h5,Nat.le_succ_of_le h6,by show j + 1 ≤ _;omega,h8⟩,by show _ - (j + 1) < _;omega,?_⟩
     all_goals exact vcA
    all_goals (rename_i c1 c2)
    all_goals (have hj : ¬ j < (ql6 t k.toNat).length := by have h := of_decide_eq_false c2;exact fun q => h (Int.ofNat_lt.mpr q))
    all_goals (obtain ⟨e1,e2⟩ := zH5 (t := t) (out := o) (p := out.length) (s := q) hj;rw [e1] at h1;rw [e2] at h2)
    ·rw [h2]
    ·rw [h1]
  ·exact absurd (by omega : (p : Int) ≥ 0) (of_decide_eq_false ‹decide ((p : Int) ≥ 0) = false›)
end Go.Vc

namespace Go.Vc
open Go.Proofs
set_option maxRecDepth 10000
set_option maxHeartbeats 8000000
instance hCop (t out : List ql4) (s : List Bool) (k : Int) (p : Nat) :
  FnM BN 52 [.int .i64 k,.int .i64 (p : Int),.loc 0 0,.loc 2 0,.loc 4 0,.loc 5 0]
   [(0,.box [.own 1]),(1,.ow .bool s),(2,.box [.own 3]),(3,.nst ql2 6 out none),(4,.box [.rd ql2 t]),(5,.box [.fn 52 [.loc 0 0,.loc 2 0,.loc 4 0,.loc 5 0]])]
   (zVO t out s k p) (.tup [])
   [(0,.box [.own 1]),(1,.ow .bool (zFN (ql6 t) s k.toNat)),(2,.box [.own 3]),(3,.nst ql2 6 (qwO t (ql6 t) (qmM out p out.length) s k.toNat p) none),(4,.box [.rd ql2 t]),(5,.box [.fn 52 [.loc 0 0,.loc 2 0,.loc 4 0,.loc 5 0]])] :=
 have h := zUV (unseen (s.set k.toNat true) + 1) t out s k p
 ⟨h.call,fun hp => h.ok ⟨hp,Nat.lt_succ_self _⟩⟩
instance hCopZ (t out : List ql4) (s : List Bool) (k : Int) :
  FnM BN 52 [.int .i64 k,.int .i64 0,.loc 0 0,.loc 2 0,.loc 4 0,.loc 5 0]
   [(0,.box [.own 1]),(1,.ow .bool s),(2,.box [.own 3]),(3,.nst ql2 6 out none),(4,.box [.rd ql2 t]),(5,.box [.fn 52 [.loc 0 0,.loc 2 0,.loc 4 0,.loc 5 0]])]
   (zVO t out s k 0) (.tup [])
   [(0,.box [.own 1]),(1,.ow .bool (zFN (ql6 t) s k.toNat)),(2,.box [.own 3]),(3,.nst ql2 6 (qwO t (ql6 t) (qmM out 0 out.length) s k.toNat 0) none),(4,.box [.rd ql2 t]),(5,.box [.fn 52 [.loc 0 0,.loc 2 0,.loc 4 0,.loc 5 0]])] :=
 have h := hCop t out s k 0
 ⟨h.call,fun hp => h.ok hp⟩
instance hCop0 (t : List ql4) (s : List Bool) (k : Int) :
  FnM BN 52 [.int .i64 k,.int .i64 (-1),.loc 0 0,.loc 2 0,.loc 3 0,.loc 4 0]
   [(0,.box [.own 1]),(1,.own .bool s),(2,.box [.nils]),(3,.box [.rd ql2 t]),(4,.box [.fn 52 [.loc 0 0,.loc 2 0,.loc 3 0,.loc 4 0]])]
   (pPre t [] s k) (.tup [])
   [(0,.box [.own 1]),(1,.ow .bool (zFN (ql6 t) s k.toNat)),(2,.box [.own 5]),(5,.nst ql2 6 (qwO t (ql6 t) [] s k.toNat (-1)) none),(3,.box [.rd ql2 t]),(4,.box [.fn 52 [.loc 0 0,.loc 2 0,.loc 3 0,.loc 4 0]])] := by
 refine FnM.intro (N := 84) [0,1,2,3,4,5,8,9,11,37,57,58,59,60,78] [(6,[0,7,0,0,7,0,4,4,4,0,4,4,4,4,4]),(3000006,[454,519,712,714,844,907,909]),(2000000,[1])] 5 Try.call52 Try.func52 rfl rfl (by kernel_rfl) (fun hpre => ?_)
 obtain ⟨hsm,hsl,hk,hlen⟩ := hpre
 simp only [List.length_nil,Nat.zero_add] at hlen
 repeat' ((conv => whnf);first|(with_reducible first|rfl|exact qmF|exact qmE)|exact True.intro|intro _|refine WA ?_ ?_|refine WF ?_|refine W1 rfl ?_ ?_|refine W2 rfl ?_ ?_|refine W3 rfl ?_ ?_|refine W4 ?_ ?_|refine W5 rfl ?_ ?_|refine W6 ?_ ?_|refine AppN.ns ?_|refine X1 (W1 rfl ?_ ?_)|refine X1 (W2 rfl ?_ ?_)|refine X2 (W7 rfl ?_ ?_)|refine X3 (W7 rfl ?_ ?_)|refine X4 (W7 rfl ?_ ?_)|refine X5 (W7 rfl ?_ ?_))
 all_goals (try (conv => whnf))
 all_goals (try first|exact obA|refine Ob.mk ?_)
 all_goals (try simp only [zHY,zE9,zJB,zE5,List.length_singleton] at *)
 ·exact Nat.le_trans (qqR hsm k (qnD.2 hk)).1 (by decide)
 ·exact absurd ‹decide ((-1 : Int) ≥ 0) = true› (by decide)
 have hpO : qwO t (ql6 t) [] s k.toNat (-1) = pS t (ql6 t) ([] ++ [mkN (t.getD k.toNat ql2.dflt) (-1)]) (s.set k.toNat true) 0 k.toNat 0 := rfl
 have hpS : zFN (ql6 t) s k.toNat = sS (ql6 t) (s.set k.toNat true) k.toNat 0 := rfl
 rw [hpO,hpS]
 refine LoopStop.mk (α := List ql4 × List Bool × Nat) (fun a => [(59,.int .i64 a.2.2)]) (fun a => [(7,.nst ql2 6 a.1 none),(1,.ow .bool a.2.1)]) 20
  (fun a => pS t (ql6 t) a.1 a.2.1 0 k.toNat a.2.2 = pS t (ql6 t) ([] ++ [mkN (t.getD k.toNat ql2.dflt) (-1)]) (s.set k.toNat true) 0 k.toNat 0 ∧ sS (ql6 t) a.2.1 k.toNat a.2.2 = sS (ql6 t) (s.set k.toNat true) k.toNat 0 ∧ a.2.1.length = t.length ∧ a.1.length + unseen a.2.1 ≤ 5000 ∧
   0 < a.1.length ∧ (a.1.getD 0 ql2.dflt).kids.length ≤ a.2.2 ∧ a.2.2 ≤ (ql6 t k.toNat).length)
  (fun a => (ql6 t k.toNat).length - a.2.2) ([] ++ [mkN (t.getD k.toNat ql2.dflt) (-1)],s.set k.toNat true,0)
  ⟨rfl,rfl,by simpa using hsl,by simp only [List.length_append,List.length_singleton,List.length_nil];omega,by simp,by simp [mkN,ql4.kids],Nat.zero_le _⟩ ?_ (fun a ha => ?_)
 ·all_goals exact vcA
 ·obtain ⟨o,q,j⟩ := a
  dsimp only at ha ⊢
  obtain ⟨h1,h2,h3,h4,h5,h6,h7⟩ := ha
  have hkl : (ql6 t k.toNat).length ≤ 1000 := (qqR hsm k (qnD.2 hk)).2
  repeat' ((conv => whnf);first|(with_reducible first|rfl|exact qmF|exact qmE)|exact True.intro|intro _|refine WA ?_ ?_|refine WF ?_|refine W1 rfl ?_ ?_|refine W2 rfl ?_ ?_|refine W3 rfl ?_ ?_|refine W4 ?_ ?_|refine W5 rfl ?_ ?_|refine W6 ?_ ?_|refine WN ?_|refine X1 (W1 rfl ?_ ?_)|refine X1 (W2 rfl ?_ ?_)|refine X2 (W7 rfl ?_ ?_)|refine X3 (W7 rfl ?_ ?_)|refine X4 (W7 rfl ?_ ?_)|refine X5 (W7 rfl ?_ ?_))
  all_goals (try (conv => whnf))
  all_goals (try first|exact obA|refine Ob.mk ?_)
  all_goals (try simp only [Int.toNat_natCast] at *)
  ·rename_i c1 c2 c3
   have hj : j < (ql6 t k.toNat).length := by have h := of_decide_eq_true c2;exact Int.ofNat_lt.mp h
   have hc : okK q ((ql6 t k.toNat).getD j 0) = true := by rw [← qxN h3];exact c3
   have hok := qnL hc
   have hu := qn5 hok.2.2
   exact ⟨hsm,h3,⟨hok.1,by have h := hok.2.1;rw [h3] at h;exact (by omega : (ql6 t k.toNat).getD j 0 < (t.length : Int))⟩,by change o.length + unseen (q.set ((ql6 t k.toNat).getD j 0).toNat true) + 1 ≤ _;omega,h5,by omega⟩
  ·rename_i c1 c2 c3
   have hj : j < (ql6 t k.toNat).length := by have h := of_decide_eq_true c2;exact Int.ofNat_lt.mp h
   have hc : okK q ((ql6 t k.toNat).getD j 0) = true := by rw [← qxN h3];exact c3
   have hok := qnL hc
   have hu := qn5 hok.2.2
   obtain ⟨e1,e2⟩ := zNP (t := t) (out := o) (p := 0) hj hc
   rw [e1] at h1;rw [e2] at h2
   obtain ⟨l1,l2,l3,l4⟩ := qy3 (t := t) (K := ql6 t) (qmM o 0 o.length) q ((ql6 t k.toNat).getD j 0).toNat 0
   rw [qmV] at l1 l2 l3
   refine Rnd.mk ⟨(qwO t (ql6 t) (qmM o 0 o.length) q ((ql6 t k.toNat).getD j 0).toNat 0,zFN (ql6 t) q ((ql6 t k.toNat).getD j 0).toNat,j + 1),⟨h1,h2,l4.trans h3,by dsimp only;omega,by dsimp only;omega,?_,by show j + 1 ≤ _;omega⟩,by show _ - (j + 1) < _;omega,?_⟩
   ·dsimp only
    rw [l3 _ h5,qxJ _ _ _ h5,List.length_append,List.length_singleton]
    exact Nat.succ_le_succ h6
   ·all_goals exact vcA
  ·rename_i c1 c2 c3
   have hj : j < (ql6 t k.toNat).length := by have h := of_decide_eq_true c2;exact Int.ofNat_lt.mp h
   have hc : okK q ((ql6 t k.toNat).getD j 0) = false := by rw [← qxN h3];exact c3
   obtain ⟨e1,e2⟩ := zHZ (t := t) (out := o) (p := 0) hj hc
   rw [e1] at h1;rw [e2] at h2
   refine Rnd.mk ⟨(o,q,j + 1),⟨h1,h2,h3,h4,h5,Nat.le_succ_of_le h6,by show j + 1 ≤ _;omega⟩,by show _ - (j + 1) < _;omega,?_⟩
   all_goals exact vcA
  all_goals (rename_i c1 c2)
  all_goals (have hj : ¬ j < (ql6 t k.toNat).length := by have h := of_decide_eq_false c2;exact fun q => h (Int.ofNat_lt.mpr q))
  all_goals (obtain ⟨e1,e2⟩ := zH5 (t := t) (out := o) (p := 0) (s := q) hj;rw [e1] at h1;rw [e2] at h2)
  all_goals (first | (rw [h2];done) | (rw [h1];done) | trace_state)
instance hCopied (t : List ql4) (k : Int) : FnM BN 35 [.agg [.rd ql2 t],.int .i64 k] [] (qmZ t = true ∧ 0 ≤ k ∧ k < t.length) (.agg [.own 0]) [(0,.nst ql2 6 (qwO t (ql6 t) [] (List.replicate t.length false) k.toNat (-1)) none)] := by
 refine FnM.intro (N := 17) [0,1,2,4,5,6,7] [] 0 Try.call35 Try.func35 rfl rfl (by kernel_rfl) (fun hpre => ?_)
 obtain ⟨hsm,hk⟩ := hpre
 have hl := qsY hsm
 have hu := qz0 ((List.replicate t.length false).set k.toNat true)
 rw [List.length_set,List.length_replicate] at hu
 repeat' ((conv => whnf);first|(with_reducible first|rfl|exact qmF|exact qmE)|exact True.intro|intro _|refine WA ?_ ?_|refine WF ?_|refine W1 rfl ?_ ?_|refine W2 rfl ?_ ?_|refine W3 rfl ?_ ?_|refine W4 ?_ ?_|refine W5 rfl ?_ ?_|refine W6 ?_ ?_|refine WN ?_|refine X1 (W1 rfl ?_ ?_)|refine X1 (W2 rfl ?_ ?_)|refine X2 (W7 rfl ?_ ?_)|refine X3 (W7 rfl ?_ ?_)|refine X4 (W7 rfl ?_ ?_)|refine X5 (W7 rfl ?_ ?_))
 all_goals (try (conv => whnf))
 all_goals (try first|exact obA|refine Ob.mk ?_)
 all_goals (try (refine ⟨by omega,Int.le_refl _,?_,by omega⟩;show (t.length : Int) * ((1 : Nat) : Int) ≤ _;omega))
 ·rw [Int.toNat_natCast]
  exact ⟨hsm,List.length_replicate,hk,by show 0 + unseen ((List.replicate t.length false).set k.toNat true) + 1 ≤ 5000;omega⟩
 all_goals (rw [Int.toNat_natCast])
end Go.Vc

namespace Go.Vc
open Go.Proofs
set_option maxRecDepth 10000
instance f40 (k s : Int) (nm : List UInt8) (at_ : List qpC) (d : List UInt8) (up : Int) (kids : List Int) (k' s' : Int) (nm' : List UInt8) (at_' : List qpC) (d' : List UInt8) (up' : Int) (kids' : List Int) :
  Fn BB 34 [.agg [.int .i64 k,.int .i64 s,.str nm,.rd qm9 at_,.str d,.int .i64 up,.rd qm1 kids],.agg [.int .i64 k',.int .i64 s',.str nm',.rd qm9 at_',.str d',.int .i64 up',.rd qm1 kids']]
   True (.bool (eqB (α := ql4) (k,s,nm,at_,d,up,kids) (k',s',nm',at_',d',up',kids'))) := by
 refine Fn.intro (N := 71) [0,1,2,3,4,5,47,52,65] [(6,[0,1,0,1,1,0,1,0,1,1,3])] Try.call34 Try.func34 rfl rfl (by kernel_rfl) (fun hpre => ?_)
 repeat' ((conv => whnf);first|(with_reducible first|rfl|exact qmF|exact qmE)|exact True.intro|intro _|refine WA ?_ ?_|refine WF ?_|refine W1 rfl ?_ ?_|refine W2 rfl ?_ ?_|refine W3 rfl ?_ ?_|refine W4 ?_ ?_|refine W5 rfl ?_ ?_|refine W6 ?_ ?_|refine WN ?_|refine X1 (W1 rfl ?_ ?_)|refine X1 (W2 rfl ?_ ?_)|refine X2 (W7 rfl ?_ ?_)|refine X3 (W7 rfl ?_ ?_)|refine X4 (W7 rfl ?_ ?_)|refine X5 (W7 rfl ?_ ?_))
 all_goals (try (conv => whnf))
 all_goals (try first|exact obA|refine Ob.mk ?_)
 ·rename_i h
  refine qoB fun e => ?_
  simp only [Prod.mk.injEq] at e
  obtain ⟨rfl,rfl,rfl,rfl,rfl,rfl,rfl⟩ := e
  simp at h
 ·rename_i h
  simp only [Bool.or_eq_false_iff,bne_eq_false_iff_eq,Bool.not_eq_false',beq_iff_eq] at h
  obtain ⟨⟨⟨⟨⟨rfl,rfl⟩,rfl⟩,rfl⟩,rfl⟩,hl⟩ := h
  refine LoopStop.mk (α := Nat) (fun i => [(5,.int .i64 i)]) (fun _ => []) 20 (fun i => i ≤ kids.length ∧ kids.take i = kids'.take i) (fun i => kids.length - i) 0 (by simp) ?_ (fun i hi => ?_)
  ·repeat' ((conv => whnf);first|(with_reducible first|rfl|exact qmF|exact qmE)|exact True.intro|intro _|refine WA ?_ ?_|refine WF ?_|refine W1 rfl ?_ ?_|refine W2 rfl ?_ ?_|refine W3 rfl ?_ ?_|refine W4 ?_ ?_|refine W5 rfl ?_ ?_|refine W6 ?_ ?_|refine WN ?_|refine X1 (W1 rfl ?_ ?_)|refine X1 (W2 rfl ?_ ?_)|refine X2 (W7 rfl ?_ ?_)|refine X3 (W7 rfl ?_ ?_)|refine X4 (W7 rfl ?_ ?_)|refine X5 (W7 rfl ?_ ?_))
   all_goals (try (conv => whnf))
   all_goals (try rfl)
  ·obtain ⟨hi,ha⟩ := hi
   repeat' ((conv => whnf);first|(with_reducible first|rfl|exact qmF|exact qmE)|exact True.intro|intro _|refine WA ?_ ?_|refine WF ?_|refine W1 rfl ?_ ?_|refine W2 rfl ?_ ?_|refine W3 rfl ?_ ?_|refine W4 ?_ ?_|refine W5 rfl ?_ ?_|refine W6 ?_ ?_|refine WN ?_|refine X1 (W1 rfl ?_ ?_)|refine X1 (W2 rfl ?_ ?_)|refine X2 (W7 rfl ?_ ?_)|refine X3 (W7 rfl ?_ ?_)|refine X4 (W7 rfl ?_ ?_)|refine X5 (W7 rfl ?_ ?_))
   all_goals (try (conv => whnf))
   all_goals (try first|exact obA|refine Ob.mk ?_)
   all_goals (simp only [decide_eq_true_eq,decide_eq_false_iff_not,bne_eq_false_iff_eq,bne_iff_ne,ne_eq,Bool.not_eq_true',Bool.not_eq_false',Bool.and_true] at *)
   ·rename_i h
    refine qoB fun e => h ?_
    simp only [Prod.mk.injEq] at e
    rw [e.2.2.2.2.2.2]
   ·rename_i h
    have hil : i < kids.length := by omega
    refine Rnd.mk ⟨i + 1,?_,?_,?_⟩
    ·exact ⟨by omega,qrA (d := qm1.dflt) hil (by omega) ha h⟩
    ·omega
    ·all_goals exact vcA
   ·have hk : i = kids.length := by omega
    subst hk
    rw [List.take_length,List.take_of_length_le (by omega)] at ha
    subst ha
    by_cases he : at_ = at_'
    ·subst he;rw [decide_eq_true rfl];exact qu7 rfl
    ·rw [decide_eq_false he];refine qoB fun e => he ?_
     simp only [Prod.mk.injEq] at e
     exact e.2.2.2.1
instance f16 (a b : List ql4) : Fn BB 14 [.agg [.rd ql2 a],.agg [.rd ql2 b]] True (.bool (eqB a b)) := by
 refine Fn.intro (N := 32) [0,1,2,3,4,5,12,17,31] [(6,[0,1,0,1,1,0,1,0,1,1,3,3])] Try.call14 Try.func14 rfl rfl (by kernel_rfl) (fun hpre => ?_)
 repeat' ((conv => whnf);first|(with_reducible first|rfl|exact qmF|exact qmE)|exact True.intro|intro _|refine WA ?_ ?_|refine WF ?_|refine W1 rfl ?_ ?_|refine W2 rfl ?_ ?_|refine W3 rfl ?_ ?_|refine W4 ?_ ?_|refine W5 rfl ?_ ?_|refine W6 ?_ ?_|refine WN ?_|refine X1 (W1 rfl ?_ ?_)|refine X1 (W2 rfl ?_ ?_)|refine X2 (W7 rfl ?_ ?_)|refine X3 (W7 rfl ?_ ?_)|refine X4 (W7 rfl ?_ ?_)|refine X5 (W7 rfl ?_ ?_))
 all_goals (try (conv => whnf))
 ·refine qoB fun e => ?_
  subst e;simp_all
 ·refine LoopStop.mk (α := Nat) (fun i => [(5,.int .i64 i)]) (fun _ => []) 20 (fun i => i ≤ a.length ∧ a.take i = b.take i) (fun i => a.length - i) 0 (by simp) ?_ (fun i hi => ?_)
  ·repeat' ((conv => whnf);first|(with_reducible first|rfl|exact qmF|exact qmE)|exact True.intro|intro _|refine WA ?_ ?_|refine WF ?_|refine W1 rfl ?_ ?_|refine W2 rfl ?_ ?_|refine W3 rfl ?_ ?_|refine W4 ?_ ?_|refine W5 rfl ?_ ?_|refine W6 ?_ ?_|refine WN ?_|refine X1 (W1 rfl ?_ ?_)|refine X1 (W2 rfl ?_ ?_)|refine X2 (W7 rfl ?_ ?_)|refine X3 (W7 rfl ?_ ?_)|refine X4 (W7 rfl ?_ ?_)|refine X5 (W7 rfl ?_ ?_))
   all_goals (try (conv => whnf))
   all_goals (try rfl)
  ·obtain ⟨hi,ha⟩ := hi
   repeat' ((conv => whnf);first|(with_reducible first|rfl|exact qmF|exact qmE)|exact True.intro|intro _|refine WA ?_ ?_|refine WF ?_|refine W1 rfl ?_ ?_|refine W2 rfl ?_ ?_|refine W3 rfl ?_ ?_|refine W4 ?_ ?_|refine W5 rfl ?_ ?_|refine W6 ?_ ?_|refine WN ?_|refine X1 (W1 rfl ?_ ?_)|refine X1 (W2 rfl ?_ ?_)|refine X2 (W7 rfl ?_ ?_)|refine X3 (W7 rfl ?_ ?_)|refine X4 (W7 rfl ?_ ?_)|refine X5 (W7 rfl ?_ ?_))
   all_goals (try (conv => whnf))
   all_goals (try first|exact obA|refine Ob.mk ?_)
   all_goals (simp only [decide_eq_true_eq,decide_eq_false_iff_not,bne_eq_false_iff_eq,bne_iff_ne,ne_eq,Bool.not_eq_true',Bool.not_eq_false',Bool.and_true] at *)
   ·rename_i h
    have h := zNE.1 h
    refine qoB fun e => h ?_
    rw [e]
   ·rename_i h
    have h := qyC.1 h
    have hil : i < a.length := by omega
    refine Rnd.mk ⟨i + 1,?_,?_,?_⟩
    ·exact ⟨by omega,qrA (d := ql2.dflt) hil (by omega) ha h⟩
    ·omega
    ·all_goals exact vcA
   ·have hk : i = a.length := by omega
    subst hk
    rw [List.take_length,List.take_of_length_le (by omega)] at ha
    exact qu7 ha
end Go.Vc

namespace Go.Vc
open Go.Proofs
set_option maxRecDepth 10000
set_option maxHeartbeats 4000000
def fin (l : List ql4) : St := zL1 (ql6 l) l.length
def qzJ (l : List Nat) : List Int := List.map (fun u : Nat => (u : Int)) l
theorem zJS (l : List Nat) (v : Nat) : qzJ (l ++ [v]) = qzJ l ++ [(v : Int)] := by unfold qzJ;rw [List.map_append];rfl
def stA (l : List ql4) (i : Nat) : St := (st0 l.length).run ((evs l).take i)
theorem zOD (l : List ql4) : stA l (evs l).length = fin l := by unfold stA fin zL1 evs;rw [List.take_length]
theorem zML (l : List ql4) (i : Nat) (h : i < (evs l).length) : stA l (i + 1) = (stA l i).step ((evs l).getD i (0,0,0,false)) := by
 unfold stA
 rw [List.take_succ_eq_append_getElem h,qvL]
 have : (evs l).getD i (0,0,0,false) = (evs l)[i] := by simp [List.getD,List.getElem?_eq_getElem h]
 rw [this];rfl
theorem zG6 {n : Nat} : ∀ {l : List Ev} {x : St} (i : Nat),qwS n x l → qwS n x (l.take i) := by
 intro l
 induction l with
 | nil => intro x i h;simp;exact h
 | cons e l ih =>
  intro x i h
  cases i with
  | zero => exact trivial
  | succ i => exact ⟨h.1,ih i h.2⟩
theorem zLY (l : List ql4) (i : Nat) : Good l.length (stA l i) := (zP0 _).run (zG6 i (zIZ (ql6 l) l.length).1)
theorem zNC (x : St) (e : Ev) : (x.step e).L = if e.2.2.2 = true then x.L else x.L ++ [e.1] := by unfold St.step;split <;> rfl
instance oList (l : List ql4) : Fn BB 32 [.agg [.rd ql2 l]] (l.length ≤ 45) (.rd qm1 (qzJ (fin l).L)) := by
 refine Fn.intro (N := 17) [0,1,2,3,4,6,7,10] [] Try.call32 Try.func32 rfl rfl (by kernel_rfl) (fun hpre => ?_)
 repeat' ((conv => whnf);first|(with_reducible first|rfl|exact qmF|exact qmE)|exact True.intro|intro _|refine WA ?_ ?_|refine WF ?_|refine W1 rfl ?_ ?_|refine W2 rfl ?_ ?_|refine W3 rfl ?_ ?_|refine W4 ?_ ?_|refine W5 rfl ?_ ?_|refine W6 ?_ ?_|refine WN ?_|refine X1 (W1 rfl ?_ ?_)|refine X1 (W2 rfl ?_ ?_)|refine X2 (W7 rfl ?_ ?_)|refine X3 (W7 rfl ?_ ?_)|refine X4 (W7 rfl ?_ ?_)|refine X5 (W7 rfl ?_ ?_))
 all_goals (try (conv => whnf))
 all_goals (try first|exact obA|refine Ob.mk ?_)
 have hEl : (evs l).length ≤ 90 := by
  have := zJG (ql6 l) l.length
  show (zCW (ql6 l) l.length).length ≤ 90
  omega
 have hlen : ∀ i,(stA l i).L.length ≤ 45 := fun i => by
  have g := zLY l i
  have := qu8 g.nod g.lt
  omega
 refine RangeStop.mk (α := Nat) ⟨hpre⟩ rfl (fun i => [(1,.box [.own 20]),(20,.own qm1 (qzJ (stA l i).L))]) 30 (fun i k => k = i) 0 rfl ?_ (fun i k hC hi => ?_) (fun k hC => ?_)
 ·all_goals exact vcA
 ·subst hC
  have hs := zML l k hi
  have hl := hlen k
  generalize he : (evs l).getD k (0,0,0,false) = e at *
  obtain ⟨v,up,c,lf⟩ := e
  cases lf
  ·repeat' ((conv => whnf);first|(with_reducible first|rfl|exact qmF|exact qmE)|exact True.intro|intro _|refine WA ?_ ?_|refine WF ?_|refine W1 rfl ?_ ?_|refine W2 rfl ?_ ?_|refine W3 rfl ?_ ?_|refine W4 ?_ ?_|refine W5 rfl ?_ ?_|refine W6 ?_ ?_|refine WN ?_|refine X1 (W1 rfl ?_ ?_)|refine X1 (W2 rfl ?_ ?_)|refine X2 (W7 rfl ?_ ?_)|refine X3 (W7 rfl ?_ ?_)|refine X4 (W7 rfl ?_ ?_)|refine X5 (W7 rfl ?_ ?_))
   all_goals (try (conv => whnf))
   all_goals (try first|exact obA|refine Ob.mk ?_)
   all_goals (try (exfalso;have h := ‹(!false) = false›;cases h;done))
   ·simp only [cast_eq];unfold qzJ;simp;omega
   ·refine Rnd.mk ⟨k + 1,rfl,?_⟩
    repeat' ((conv => whnf);first|(with_reducible first|rfl|exact qmF|exact qmE)|exact True.intro|intro _|refine WA ?_ ?_|refine WF ?_|refine W1 rfl ?_ ?_|refine W2 rfl ?_ ?_|refine W3 rfl ?_ ?_|refine W4 ?_ ?_|refine W5 rfl ?_ ?_|refine W6 ?_ ?_|refine WN ?_|refine X1 (W1 rfl ?_ ?_)|refine X1 (W2 rfl ?_ ?_)|refine X2 (W7 rfl ?_ ?_)|refine X3 (W7 rfl ?_ ?_)|refine X4 (W7 rfl ?_ ?_)|refine X5 (W7 rfl ?_ ?_))
    all_goals (try (conv => whnf))
    all_goals (try first|exact obA|refine Ob.mk ?_)
    rw [hs,zNC,if_neg (by simp),zJS]
    try simp only [cast_eq]
  ·repeat' ((conv => whnf);first|(with_reducible first|rfl|exact qmF|exact qmE)|exact True.intro|intro _|refine WA ?_ ?_|refine WF ?_|refine W1 rfl ?_ ?_|refine W2 rfl ?_ ?_|refine W3 rfl ?_ ?_|refine W4 ?_ ?_|refine W5 rfl ?_ ?_|refine W6 ?_ ?_|refine WN ?_|refine X1 (W1 rfl ?_ ?_)|refine X1 (W2 rfl ?_ ?_)|refine X2 (W7 rfl ?_ ?_)|refine X3 (W7 rfl ?_ ?_)|refine X4 (W7 rfl ?_ ?_)|refine X5 (W7 rfl ?_ ?_))
   all_goals (try (conv => whnf))
   all_goals (try first|exact obA|refine Ob.mk ?_)
   all_goals (try (exfalso;have h := ‹(!true) = true›;cases h;done))
   refine Rnd.mk ⟨k + 1,rfl,?_⟩
   repeat' ((conv => whnf);first|(with_reducible first|rfl|exact qmF|exact qmE)|exact True.intro|intro _|refine WA ?_ ?_|refine WF ?_|refine W1 rfl ?_ ?_|refine W2 rfl ?_ ?_|refine W3 rfl ?_ ?_|refine W4 ?_ ?_|refine W5 rfl ?_ ?_|refine W6 ?_ ?_|refine WN ?_|refine X1 (W1 rfl ?_ ?_)|refine X1 (W2 rfl ?_ ?_)|refine X2 (W7 rfl ?_ ?_)|refine X3 (W7 rfl ?_ ?_)|refine X4 (W7 rfl ?_ ?_)|refine X5 (W7 rfl ?_ ?_))
   all_goals (try (conv => whnf))
   all_goals (try first|exact obA|refine Ob.mk ?_)
   rw [hs,zNC,if_pos rfl]
 ·subst hC
  rw [zOD]
  all_goals exact vcA
def flat (x : St) : List (Int × Int) := (List.range x.I.length).map fun u => (x.I.getD u (-1),x.O.getD u (-1))
end Go.Vc

namespace Go.Vc
open Go.Proofs
set_option maxRecDepth 10000
set_option maxHeartbeats 4000000
theorem qyR {a b : List Int} {i : Nat} (ha : i < a.length) (hb : i < b.length) (h : a.take i = b.take i) (h2 : a.getD i 0 = b.getD i 0) : a.take (i+1) = b.take (i+1) := by
 rw [take_snoc a i 0 ha,take_snoc b i 0 hb,h,h2]
instance aEq (a b : List Int) : Fn BB 47 [.rd qm1 a,.rd qm1 b] True (.bool (a == b)) := by
 refine Fn.intro (N := 26) [0,1,4,5,10,12,13,14,24] [(6,[0,0,1,1,0,0,1,1,3])] Try.call47 Try.func47 rfl rfl (by kernel_rfl) (fun hpre => ?_)
 repeat' ((conv => whnf);first|(with_reducible first|rfl|exact qmF|exact qmE)|exact True.intro|intro _|refine WA ?_ ?_|refine WF ?_|refine W1 rfl ?_ ?_|refine W2 rfl ?_ ?_|refine W3 rfl ?_ ?_|refine W4 ?_ ?_|refine W5 rfl ?_ ?_|refine W6 ?_ ?_|refine WN ?_|refine X1 (W1 rfl ?_ ?_)|refine X1 (W2 rfl ?_ ?_)|refine X2 (W7 rfl ?_ ?_)|refine X3 (W7 rfl ?_ ?_)|refine X4 (W7 rfl ?_ ?_)|refine X5 (W7 rfl ?_ ?_))
 all_goals (try (conv => whnf))
 all_goals (try first|exact obA|refine Ob.mk ?_)
 ·rename_i h
  have : ¬ a = b := by rintro rfl;simp at h
  simp [this]
 ·refine LoopStop.mk (α := Nat) (fun i => [(13,.int .i64 i)]) (fun i => []) 0 (fun i => i ≤ a.length ∧ a.take i = b.take i) (fun i => a.length - i) 0 (by simp) ?_ (fun i hi => ?_)
  ·repeat' ((conv => whnf);first|(with_reducible first|rfl|exact qmF|exact qmE)|exact True.intro|intro _|refine WA ?_ ?_|refine WF ?_|refine W1 rfl ?_ ?_|refine W2 rfl ?_ ?_|refine W3 rfl ?_ ?_|refine W4 ?_ ?_|refine W5 rfl ?_ ?_|refine W6 ?_ ?_|refine WN ?_|refine X1 (W1 rfl ?_ ?_)|refine X1 (W2 rfl ?_ ?_)|refine X2 (W7 rfl ?_ ?_)|refine X3 (W7 rfl ?_ ?_)|refine X4 (W7 rfl ?_ ?_)|refine X5 (W7 rfl ?_ ?_))
   all_goals (try (conv => whnf))
   all_goals (try rfl)
  ·repeat' ((conv => whnf);first|(with_reducible first|rfl|exact qmF|exact qmE)|exact True.intro|intro _|refine WA ?_ ?_|refine WF ?_|refine W1 rfl ?_ ?_|refine W2 rfl ?_ ?_|refine W3 rfl ?_ ?_|refine W4 ?_ ?_|refine W5 rfl ?_ ?_|refine W6 ?_ ?_|refine WN ?_|refine X1 (W1 rfl ?_ ?_)|refine X1 (W2 rfl ?_ ?_)|refine X2 (W7 rfl ?_ ?_)|refine X3 (W7 rfl ?_ ?_)|refine X4 (W7 rfl ?_ ?_)|refine X5 (W7 rfl ?_ ?_))
   all_goals (try (conv => whnf))
   all_goals (try first|exact obA|refine Ob.mk ?_)
   all_goals (try simp only [ZA,ZB,ZC,ZD,ZE,ZF,ZG,ZH,ZI,ZJ,ZK,ZL,ZM,ZN,ZO,Int.toNat_natCast,UInt8.ofNat_toNat,cast_eq] at *)
   all_goals (try omega)
   ·rename_i h
    have : ¬ a = b := by rintro rfl;exact h rfl
    simp [this]
   ·have h : i < a.length := by omega
    have h' : i < b.length := by omega
    refine Rnd.mk ⟨i + 1,?_,?_,?_⟩
    ·exact ⟨h,qyR h h' hi.2 ‹_›⟩
    ·omega
    ·all_goals exact vcA
   ·have e : i = a.length := by omega
    subst e
    have h2 := hi.2
    have h3 : b.length ≤ a.length := by omega
    rw [List.take_of_length_le (Nat.le_refl _),List.take_of_length_le h3] at h2
    rw [h2];simp
end Go.Vc

namespace Go.Vc
open Go.Proofs
set_option maxRecDepth 10000
set_option maxHeartbeats 8000000
instance sTidyN (t : List ql4) : FnM BN 15 [.agg [.rd ql2 t]] [] (qmZ t = true) (.agg [.rd ql2 (qm5 t)]) [] := by
 refine FnM.intro (N := 10) [0,1,2,6] [] 0 Try.call15 Try.func15 rfl rfl (by kernel_rfl) (fun hpre => ?_)
 repeat' ((conv => whnf);first|(with_reducible first|rfl|exact qmF|exact qmE)|exact True.intro|intro _|refine WA ?_ ?_|refine WF ?_|refine W1 rfl ?_ ?_|refine W2 rfl ?_ ?_|refine W3 rfl ?_ ?_|refine W4 ?_ ?_|refine W5 rfl ?_ ?_|refine W6 ?_ ?_|refine WN ?_|refine X1 (W1 rfl ?_ ?_)|refine X1 (W2 rfl ?_ ?_)|refine X2 (W7 rfl ?_ ?_)|refine X3 (W7 rfl ?_ ?_)|refine X4 (W7 rfl ?_ ?_)|refine X5 (W7 rfl ?_ ?_))
 all_goals (try (conv => whnf))
 all_goals (try first|exact obA|refine Ob.mk ?_)
 ·rw [zLH ‹_›]
 all_goals (have h0 : ¬ ((t.length : Int) == 0) = true := by rw [show ((t.length : Int) == 0) = false from by assumption];decide)
 ·exact ⟨hpre,Int.le_refl 0,by have : ¬ (t.length : Int) = 0 := fun e => h0 (beq_iff_eq.2 e);omega⟩
 ·rw [zPA h0];rfl
instance sTidy (t : List ql4) : FnM BB 15 [.agg [.rd ql2 t]] [] (qmZ t = true) (.agg [.rd ql2 (qm5 t)]) [] :=
 have h := sTidyN t
 ⟨h.call,h.ok⟩
theorem qy1 {a b : List qpC} {i : Nat} (ha : i < a.length) (hb : i < b.length) (h : a.take i = b.take i) (h2 : a.getD i qm9.dflt = b.getD i qm9.dflt) : a.take (i+1) = b.take (i+1) := by
 rw [take_snoc a i qm9.dflt ha,take_snoc b i qm9.dflt hb,h,h2]
instance sEqA (a b : List qpC) : Fn BB 48 [.rd qm9 a,.rd qm9 b] True (.bool (eqB a b)) := by
 refine Fn.intro (N := 26) [0,1,4,5,10,12,13,14,24] [(6,[0,0,1,1,0,0,1,1,3])] Try.call48 Try.func48 rfl rfl (by kernel_rfl) (fun hpre => ?_)
 repeat' ((conv => whnf);first|(with_reducible first|rfl|exact qmF|exact qmE)|exact True.intro|intro _|refine WA ?_ ?_|refine WF ?_|refine W1 rfl ?_ ?_|refine W2 rfl ?_ ?_|refine W3 rfl ?_ ?_|refine W4 ?_ ?_|refine W5 rfl ?_ ?_|refine W6 ?_ ?_|refine WN ?_|refine X1 (W1 rfl ?_ ?_)|refine X1 (W2 rfl ?_ ?_)|refine X2 (W7 rfl ?_ ?_)|refine X3 (W7 rfl ?_ ?_)|refine X4 (W7 rfl ?_ ?_)|refine X5 (W7 rfl ?_ ?_))
 all_goals (try (conv => whnf))
 all_goals (try first|exact obA|refine Ob.mk ?_)
 ·rename_i h
  refine qoB fun e => ?_
  subst e
  simp at h
 ·refine LoopStop.mk (α := Nat) (fun i => [(13,.int .i64 i)]) (fun i => []) 0 (fun i => i ≤ a.length ∧ a.take i = b.take i) (fun i => a.length - i) 0 (by simp) ?_ (fun i hi => ?_)
  ·repeat' ((conv => whnf);first|(with_reducible first|rfl|exact qmF|exact qmE)|exact True.intro|intro _|refine WA ?_ ?_|refine WF ?_|refine W1 rfl ?_ ?_|refine W2 rfl ?_ ?_|refine W3 rfl ?_ ?_|refine W4 ?_ ?_|refine W5 rfl ?_ ?_|refine W6 ?_ ?_|refine WN ?_|refine X1 (W1 rfl ?_ ?_)|refine X1 (W2 rfl ?_ ?_)|refine X2 (W7 rfl ?_ ?_)|refine X3 (W7 rfl ?_ ?_)|refine X4 (W7 rfl ?_ ?_)|refine X5 (W7 rfl ?_ ?_))
   all_goals (try (conv => whnf))
   all_goals (try rfl)
  ·repeat' ((conv => whnf);first|(with_reducible first|rfl|exact qmF|exact qmE)|exact True.intro|intro _|refine WA ?_ ?_|refine WF ?_|refine W1 rfl ?_ ?_|refine W2 rfl ?_ ?_|refine W3 rfl ?_ ?_|refine W4 ?_ ?_|refine W5 rfl ?_ ?_|refine W6 ?_ ?_|refine WN ?_|refine X1 (W1 rfl ?_ ?_)|refine X1 (W2 rfl ?_ ?_)|refine X2 (W7 rfl ?_ ?_)|refine X3 (W7 rfl ?_ ?_)|refine X4 (W7 rfl ?_ ?_)|refine X5 (W7 rfl ?_ ?_))
   all_goals (try (conv => whnf))
   all_goals (try first|exact obA|refine Ob.mk ?_)
   all_goals (simp only [decide_eq_true_eq,decide_eq_false_iff_not,bne_eq_false_iff_eq,bne_iff_ne,ne_eq,Bool.not_eq_true',Bool.not_eq_false',Bool.and_true,Int.toNat_natCast] at *)
   ·rename_i h
    refine qoB fun e => ?_
    subst e
    simp at h
   ·rename_i h
    simp only [Bool.and_eq_true,beq_iff_eq] at h
    have hil : i < a.length := by omega
    refine Rnd.mk ⟨i + 1,?_,?_,?_⟩
    ·exact ⟨by omega,qy1 hil (by omega) hi.2 (Prod.ext h.1 h.2)⟩
    ·omega
    ·all_goals exact vcA
   ·have hk : i = a.length := by omega
    subst hk
    have ha := hi.2
    rw [List.take_length,List.take_of_length_le (by omega)] at ha
    exact qu7 ha
instance sAlike (k s : Int) (nm : List UInt8) (at_ : List qpC) (d : List UInt8) (up : Int) (kids : List Int) (k' s' : Int) (nm' : List UInt8) (at_' : List qpC) (d' : List UInt8) (up' : Int) (kids' : List Int) :
  Fn BB 31 [.agg [.int .i64 k,.int .i64 s,.str nm,.rd qm9 at_,.str d,.int .i64 up,.rd qm1 kids],.agg [.int .i64 k',.int .i64 s',.str nm',.rd qm9 at_',.str d',.int .i64 up',.rd qm1 kids']]
   True (.bool (eqB (α := ql4) (k,s,nm,at_,d,up,kids) (k',s',nm',at_',d',up',kids'))) := by
 refine Fn.intro (N := 52) [0,1,2,3,4] [] Try.call31 Try.func31 rfl rfl (by kernel_rfl) (fun hpre => ?_)
 repeat' ((conv => whnf);first|(with_reducible first|rfl|exact qmF|exact qmE)|exact True.intro|intro _|refine WA ?_ ?_|refine WF ?_|refine W1 rfl ?_ ?_|refine W2 rfl ?_ ?_|refine W3 rfl ?_ ?_|refine W4 ?_ ?_|refine W5 rfl ?_ ?_|refine W6 ?_ ?_|refine WN ?_|refine X1 (W1 rfl ?_ ?_)|refine X1 (W2 rfl ?_ ?_)|refine X2 (W7 rfl ?_ ?_)|refine X3 (W7 rfl ?_ ?_)|refine X4 (W7 rfl ?_ ?_)|refine X5 (W7 rfl ?_ ?_))
 all_goals (try (conv => whnf))
 all_goals (try first|exact obA|refine Ob.mk ?_)
 all_goals (
  unfold eqB
  rw [Bool.eq_iff_iff]
  simp only [Bool.and_eq_true,beq_iff_eq,decide_eq_true_eq,Prod.mk.injEq]
  constructor
  ·rintro ⟨⟨⟨⟨⟨⟨h1,h2⟩,h3⟩,h4⟩,h5⟩,h6⟩,h7⟩;exact ⟨h1,h2,h3,h7,h4,h5,h6⟩
  ·rintro ⟨h1,h2,h3,h7,h4,h5,h6⟩;exact ⟨⟨⟨⟨⟨⟨h1,h2⟩,h3⟩,h4⟩,h5⟩,h6⟩,h7⟩)
theorem qx8 {a b : List ql4} {i : Nat} (ha : i < a.length) (hb : i < b.length) (h : a.take i = b.take i) (h2 : a.getD i ql2.dflt = b.getD i ql2.dflt) : a.take (i+1) = b.take (i+1) := by
 rw [take_snoc a i ql2.dflt ha,take_snoc b i ql2.dflt hb,h,h2]
instance sEqF (a b : List ql4) : Fn BB 30 [.rd ql2 a,.rd ql2 b,.fn 31 []] True (.bool (eqB a b)) := by
 refine Fn.intro (N := 32) [0,1,2,6,7,8,9,14,15,16,17,18,30] [] Try.call30 Try.func30 rfl rfl (by kernel_rfl) (fun hpre => ?_)
 repeat' ((conv => whnf);first|(with_reducible first|rfl|exact qmF|exact qmE)|exact True.intro|intro _|refine WA ?_ ?_|refine WF ?_|refine W1 rfl ?_ ?_|refine W2 rfl ?_ ?_|refine W3 rfl ?_ ?_|refine W4 ?_ ?_|refine W5 rfl ?_ ?_|refine W6 ?_ ?_|refine WN ?_|refine X1 (W1 rfl ?_ ?_)|refine X1 (W2 rfl ?_ ?_)|refine X2 (W7 rfl ?_ ?_)|refine X3 (W7 rfl ?_ ?_)|refine X4 (W7 rfl ?_ ?_)|refine X5 (W7 rfl ?_ ?_))
 all_goals (try (conv => whnf))
 all_goals (try first|exact obA|refine Ob.mk ?_)
 ·rename_i h
  refine qoB fun e => ?_
  subst e
  simp at h
 ·refine LoopStop.mk (α := Nat) (fun i => [(17,.int .i64 i)]) (fun i => []) 20 (fun i => i ≤ a.length ∧ a.take i = b.take i) (fun i => a.length - i) 0 (by simp) ?_ (fun i hi => ?_)
  ·repeat' ((conv => whnf);first|(with_reducible first|rfl|exact qmF|exact qmE)|exact True.intro|intro _|refine WA ?_ ?_|refine WF ?_|refine W1 rfl ?_ ?_|refine W2 rfl ?_ ?_|refine W3 rfl ?_ ?_|refine W4 ?_ ?_|refine W5 rfl ?_ ?_|refine W6 ?_ ?_|refine WN ?_|refine X1 (W1 rfl ?_ ?_)|refine X1 (W2 rfl ?_ ?_)|refine X2 (W7 rfl ?_ ?_)|refine X3 (W7 rfl ?_ ?_)|refine X4 (W7 rfl ?_ ?_)|refine X5 (W7 rfl ?_ ?_))
   all_goals (try (conv => whnf))
   all_goals (try rfl)
  ·repeat' ((conv => whnf);first|(with_reducible first|rfl|exact qmF|exact qmE)|exact True.intro|intro _|refine WA ?_ ?_|refine WF ?_|refine W1 rfl ?_ ?_|refine W2 rfl ?_ ?_|refine W3 rfl ?_ ?_|refine W4 ?_ ?_|refine W5 rfl ?_ ?_|refine W6 ?_ ?_|refine WN ?_|refine X1 (W1 rfl ?_ ?_)|refine X1 (W2 rfl ?_ ?_)|refine X2 (W7 rfl ?_ ?_)|refine X3 (W7 rfl ?_ ?_)|refine X4 (W7 rfl ?_ ?_)|refine X5 (W7 rfl ?_ ?_))
   all_goals (try (conv => whnf))
   all_goals (try first|exact obA|refine Ob.mk ?_)
   all_goals (simp only [decide_eq_true_eq,decide_eq_false_iff_not,bne_eq_false_iff_eq,bne_iff_ne,ne_eq,Bool.not_eq_true',Bool.not_eq_false',Bool.and_true,Int.toNat_natCast] at *)
   all_goals (try omega)
   ·rename_i h
    have h := zNE.1 h
    refine qoB fun e => h ?_
    rw [e]
   ·rename_i h
    have h := qyC.1 h
    have hil : i < a.length := by omega
    refine Rnd.mk ⟨i + 1,?_,?_,?_⟩
    ·exact ⟨by omega,qx8 hil (by omega) hi.2 h⟩
    ·omega
    ·all_goals exact vcA
   ·have hk : i = a.length := by omega
    subst hk
    have ha := hi.2
    rw [List.take_length,List.take_of_length_le (by omega)] at ha
    exact qu7 ha
instance sSame (a b : List ql4) : Fn BB 10 [.agg [.rd ql2 a],.agg [.rd ql2 b]] (qmZ a = true ∧ qmZ b = true) (.bool (eqB (qm5 a) (qm5 b))) := by
 refine Fn.intro (N := 12) [0,1,2,3,4] [(1,[1,1,1,1,1,1,3,3])] Try.call10 Try.func10 rfl rfl (by kernel_rfl) (fun hpre => ?_)
 obtain ⟨h1,h2⟩ := hpre
 repeat' ((conv => whnf);first|(with_reducible first|rfl|exact qmF|exact qmE)|exact True.intro|intro _|refine WA ?_ ?_|refine WF ?_|refine W1 rfl ?_ ?_|refine W2 rfl ?_ ?_|refine W3 rfl ?_ ?_|refine W4 ?_ ?_|refine W5 rfl ?_ ?_|refine W6 ?_ ?_|refine WN ?_|refine X1 (W1 rfl ?_ ?_)|refine X1 (W2 rfl ?_ ?_)|refine X2 (W7 rfl ?_ ?_)|refine X3 (W7 rfl ?_ ?_)|refine X4 (W7 rfl ?_ ?_)|refine X5 (W7 rfl ?_ ?_))
 all_goals (try (conv => whnf))
 all_goals (try first|exact obA|refine Ob.mk ?_)
 all_goals (first | exact h1 | exact h2 | rfl | trace_state)
end Go.Vc

namespace Go.Vc
set_option autoImplicit false
abbrev KI : KTy := .i .i64
theorem qs0 {α : Type} (m : List (Int × α)) (k k' : Int) (v : α) : qm8 KI (qrZ KI m k v) k' = if k' = k then some v else qm8 KI m k' := by
 induction m with
 | nil =>
  show qm8 KI [(k,v)] k' = _
  unfold qm8
  show (bif (k' == k) then some v else qm8 KI [] k') = _
  by_cases h : k' = k
  ·rw [if_pos h,beq_iff_eq.2 h];rfl
  ·rw [if_neg h,beq_eq_false_iff_ne.2 h];rfl
 | cons x m ih =>
  obtain ⟨a,b⟩ := x
  unfold qrZ
  show qm8 KI (bif (k == a) then (k,v) :: m else (a,b) :: qrZ KI m k v) k' = _
  by_cases h : k = a
  ·rw [beq_iff_eq.2 h]
   show qm8 KI ((k,v) :: m) k' = _
   unfold qm8
   show (bif (k' == k) then some v else qm8 KI m k') = if k' = k then some v else (bif (k' == a) then some b else qm8 KI m k')
   by_cases h2 : k' = k
   ·rw [if_pos h2,beq_iff_eq.2 h2];rfl
   ·rw [if_neg h2,beq_eq_false_iff_ne.2 h2,beq_eq_false_iff_ne.2 (h ▸ h2)];rfl
  ·rw [beq_eq_false_iff_ne.2 h]
   show qm8 KI ((a,b) :: qrZ KI m k v) k' = _
   unfold qm8
   show (bif (k' == a) then some b else qm8 KI (qrZ KI m k v) k') = if k' = k then some v else (bif (k' == a) then some b else qm8 KI m k')
   by_cases h2 : k' = a
   ·rw [beq_iff_eq.2 h2,if_neg (fun e => h (e.symm.trans h2))];rfl
   ·rw [beq_eq_false_iff_ne.2 h2];exact ih
theorem zH0 {α : Type} (m : List (Int × α)) (k : Int) (v : α) (k' : Int) : (∃ u,(k',u) ∈ qrZ KI m k v) ↔ k' = k ∨ ∃ u,(k',u) ∈ m := by
 induction m with
 | nil =>
  show (∃ u,(k',u) ∈ [(k,v)]) ↔ _
  simp
 | cons x m ih =>
  obtain ⟨a,b⟩ := x
  unfold qrZ
  show (∃ u,(k',u) ∈ (bif (k == a) then (k,v) :: m else (a,b) :: qrZ KI m k v)) ↔ _
  by_cases h : k = a
  ·rw [beq_iff_eq.2 h]
   subst h
   show (∃ u,(k',u) ∈ (k,v) :: m) ↔ _
   constructor
   ·rintro ⟨u,hu⟩
    rcases List.mem_cons.1 hu with e | hu
    ·exact .inl (Prod.mk.inj e).1
    ·exact .inr ⟨u,List.mem_cons_of_mem _ hu⟩
   ·rintro (e | ⟨u,hu⟩)
    ·exact ⟨v,by rw [e];exact List.mem_cons_self⟩
    ·rcases List.mem_cons.1 hu with e | hu
     ·exact ⟨v,by rw [(Prod.mk.inj e).1];exact List.mem_cons_self⟩
     ·exact ⟨u,List.mem_cons_of_mem _ hu⟩
  ·rw [beq_eq_false_iff_ne.2 h]
   show (∃ u,(k',u) ∈ (a,b) :: qrZ KI m k v) ↔ _
   constructor
   ·rintro ⟨u,hu⟩
    rcases List.mem_cons.1 hu with e | hu
    ·exact .inr ⟨u,by rw [e];exact List.mem_cons_self⟩
    ·rcases ih.1 ⟨u,hu⟩ with e | ⟨u',hu'⟩
     ·exact .inl e
     ·exact .inr ⟨u',List.mem_cons_of_mem _ hu'⟩
   ·rintro (e | ⟨u,hu⟩)
    ·obtain ⟨u,hu⟩ := ih.2 (.inl e)
     exact ⟨u,List.mem_cons_of_mem _ hu⟩
    ·rcases List.mem_cons.1 hu with e | hu
     ·exact ⟨u,by rw [e];exact List.mem_cons_self⟩
     ·obtain ⟨u',hu'⟩ := ih.2 (.inr ⟨u,hu⟩)
      exact ⟨u',List.mem_cons_of_mem _ hu'⟩
theorem qzY {α : Type} (m : List (Int × α)) (k : Int) : qm8 KI m k = none ↔ ¬ ∃ u,(k,u) ∈ m := by
 induction m with
 | nil => simp [qm8]
 | cons x m ih =>
  obtain ⟨a,b⟩ := x
  unfold qm8
  show (bif (k == a) then some b else qm8 KI m k) = none ↔ _
  by_cases h : k = a
  ·rw [beq_iff_eq.2 h,h]
   constructor
   ·intro e;cases e
   ·intro e;exact absurd ⟨b,List.mem_cons_self⟩ e
  ·rw [beq_eq_false_iff_ne.2 h]
   show qm8 KI m k = none ↔ _
   rw [ih]
   constructor
   ·rintro h1 ⟨u,hu⟩
    rcases List.mem_cons.1 hu with e | hu
    ·exact h (Prod.mk.inj e).1
    ·exact h1 ⟨u,hu⟩
   ·rintro h1 ⟨u,hu⟩
    exact h1 ⟨u,List.mem_cons_of_mem _ hu⟩
def zHA (m : List (Int × Int)) (n : Int) : List (Int × Int) := qrZ KI m n (((qm8 KI m n).getD 0) + 1)
def qp0 (l : List Int) : List (Int × Int) := l.foldl zHA []
theorem qzT (l : List Int) (n : Int) : qp0 (l ++ [n]) = zHA (qp0 l) n := by unfold qp0;rw [List.foldl_append];rfl
theorem zCV (l : List Int) : ∀ (m : List (Int × Int)) (n : Int),(qm8 KI (l.foldl zHA m) n).getD 0 = (qm8 KI m n).getD 0 + (l.count n : Nat) := by
 induction l with
 | nil => intro m n;simp
 | cons a l ih =>
  intro m n
  rw [List.foldl_cons,ih,List.count_cons]
  unfold zHA
  rw [qs0]
  by_cases h : n = a
  ·rw [if_pos h,h,if_pos (by simp)];simp;omega
  ·rw [if_neg h,if_neg (by simpa using fun e => h e.symm)];simp
theorem qxE (l : List Int) (n : Int) : (qm8 KI (qp0 l) n).getD 0 = (l.count n : Nat) := by
 unfold qp0;rw [zCV];simp [qm8]
theorem zI7 (l : List Int) : ∀ (m : List (Int × Int)) (k : Int),(∃ u,(k,u) ∈ l.foldl zHA m) ↔ k ∈ l ∨ ∃ u,(k,u) ∈ m := by
 induction l with
 | nil => intro m k;simp
 | cons a l ih =>
  intro m k
  rw [List.foldl_cons,ih]
  unfold zHA
  rw [zH0,List.mem_cons]
  constructor
  ·rintro (h | h | h)
   ·exact .inl (.inr h)
   ·exact .inl (.inl h)
   ·exact .inr h
  ·rintro ((h | h) | h)
   ·exact .inr (.inl h)
   ·exact .inl h
   ·exact .inr (.inr h)
theorem qwF (l : List Int) (k : Int) : (∃ u,(k,u) ∈ qp0 l) ↔ k ∈ l := by
 unfold qp0;rw [zI7];simp
theorem qzU {α : Type} {l : List α} {j : Nat} {x y : α} (hj : l[j]? = some x) (hy : y ∈ l) : y = x ∨ y ∈ l.eraseIdx j := by
  obtain ⟨i,hi,rfl⟩ := List.getElem_of_mem hy
  by_cases e : i = j
  · subst e;rw [List.getElem?_eq_getElem hi] at hj;exact .inl (Option.some.inj hj)
  · exact .inr (List.mem_iff_getElem?.2 (by
      rcases Nat.lt_or_ge i j with q | q
      · exact ⟨i,by rw [List.getElem?_eraseIdx,if_pos q,List.getElem?_eq_getElem hi]⟩
      · exact ⟨i - 1,by rw [List.getElem?_eraseIdx,if_neg (by omega),show i - 1 + 1 = i by omega,List.getElem?_eq_getElem hi]⟩))
end Go.Vc

namespace Go.Vc
open Go.Proofs
set_option maxRecDepth 10000
set_option maxHeartbeats 4000000
def qsC (t : List ql4) : Nat → Int → Bool
 | 0,_ => false
 | f + 1,i => bif (nd t i).up == -1 then true else qsC t f (nd t i).up
def zQ0 (t : List ql4) : Prop := ∀ i : Int,0 ≤ i ∧ i < t.length → (nd t i).up = -1 ∨ (0 ≤ (nd t i).up ∧ (nd t i).up < t.length)
end Go.Vc

namespace Go.Vc
open Go.Proofs
set_option maxRecDepth 10000
set_option maxHeartbeats 8000000
def ndR (t : List ql4) (i : Nat) : ql4 := t.getD i ql2.dflt
def zMG (t : List ql4) (i : Nat) : Bool := decide ((i : Int) > 0) && (decide ((ndR t i).1 < 1) || decide ((ndR t i).1 > 4) || decide ((ndR t i).up < -1) || decide ((ndR t i).up ≥ (t.length : Int)))
def zNT (t : List ql4) (i : Nat) : Bool := decide ((ndR t i).up ≥ 0) && (decide ((nd t (ndR t i).up).1 > 1) || ((nd t (ndR t i).up).kids.count (i : Int) : Int) != 1)
def zHD (t : List ql4) (i : Nat) (k : Int) : Bool := decide (k < 0) || decide (k ≥ (t.length : Int)) || (nd t k).up != (i : Int)
def okN (t : List ql4) (i : Nat) : Bool := !zMG t i && !zNT t i && (ndR t i).kids.all fun k => !zHD t i k
def badR (t : List ql4) : Bool := (t.length : Int) == 0 || (nd t 0).1 != 0 || (nd t 0).up != -1
def qo1 (t : List ql4) : Bool := !badR t && ((List.range t.length).all (okN t) && (List.range t.length).all fun i => qsC t (t.length + 1) i)
theorem qr1 (p : Nat → Bool) (n i : Nat) (hi : i < n) (h : p i = false) : (List.range n).all p = false := by
 rw [List.all_eq_false]
 exact ⟨i,List.mem_range.2 hi,by rw [h];decide⟩
theorem qo6 (p : Nat → Bool) (n : Nat) (h : ∀ k,k < n → p k = true) : (List.range n).all p = true := by
 rw [List.all_eq_true]
 exact fun k hk => h k (List.mem_range.1 hk)
end Go.Vc

namespace Go.Vc
open Go.Proofs
set_option maxRecDepth 10000
set_option maxHeartbeats 4000000
instance hCounts (l : List Int) : FnM BB 46 [.rd qm1 l] [] (l.length ≤ 1000) (.mref 0) [(0,.mp KI qm1 (qp0 l))] := by
 refine FnM.intro (N := 19) [0,2,3,5,7,8,9,10] [] 0 Try.call46 Try.func46 rfl rfl (by kernel_rfl) (fun hpre => ?_)
 repeat' ((conv => whnf);first|(with_reducible first|rfl|exact qmF|exact qmE)|exact True.intro|intro _|refine WA ?_ ?_|refine WF ?_|refine W1 rfl ?_ ?_|refine W2 rfl ?_ ?_|refine W3 rfl ?_ ?_|refine W4 ?_ ?_|refine W5 rfl ?_ ?_|refine W6 ?_ ?_|refine WN ?_|refine X1 (W1 rfl ?_ ?_)|refine X1 (W2 rfl ?_ ?_)|refine X2 (W7 rfl ?_ ?_)|refine X3 (W7 rfl ?_ ?_)|refine X4 (W7 rfl ?_ ?_)|refine X5 (W7 rfl ?_ ?_))
 all_goals (try (conv => whnf))
 all_goals (try first|exact obA|refine Ob.mk ?_)
 refine LoopStop.mk (α := Nat) (fun k => [(9,.int .i64 k)]) (fun k => [(0,.mp KI qm1 (qp0 (l.take k)))]) 10 (fun k => k ≤ l.length) (fun k => l.length - k) 0 (Nat.zero_le _) ?_ (fun k hk => ?_)
 ·all_goals exact vcA
 ·have hb := qxE (l.take k) (l.getD k qm1.dflt)
  have hc : (l.take k).count (l.getD k qm1.dflt) ≤ 1000 := Nat.le_trans List.count_le_length (by rw [List.length_take];omega)
  repeat' ((conv => whnf);first|(with_reducible first|rfl|exact qmF|exact qmE)|exact True.intro|intro _|refine WA ?_ ?_|refine WF ?_|refine W1 rfl ?_ ?_|refine W2 rfl ?_ ?_|refine W3 rfl ?_ ?_|refine W4 ?_ ?_|refine W5 rfl ?_ ?_|refine W6 ?_ ?_|refine WN ?_|refine X1 (W1 rfl ?_ ?_)|refine X1 (W2 rfl ?_ ?_)|refine X2 (W7 rfl ?_ ?_)|refine X3 (W7 rfl ?_ ?_)|refine X4 (W7 rfl ?_ ?_)|refine X5 (W7 rfl ?_ ?_))
  all_goals (try (conv => whnf))
  all_goals (try first|exact obA|refine Ob.mk ?_)
  all_goals (try simp only [ZA,ZB,ZC,ZD,ZE,ZF,ZG,ZH,ZI,ZJ,ZK,ZL,ZM,ZN,ZO,Int.toNat_natCast,UInt8.ofNat_toNat,cast_eq] at *)
  all_goals (try (constructor <;> omega))
  ·refine Rnd.mk ⟨k + 1,by omega,by omega,?_⟩
   repeat' ((conv => whnf);first|(with_reducible first|rfl|exact qmF|exact qmE)|exact True.intro|intro _|refine WA ?_ ?_|refine WF ?_|refine W1 rfl ?_ ?_|refine W2 rfl ?_ ?_|refine W3 rfl ?_ ?_|refine W4 ?_ ?_|refine W5 rfl ?_ ?_|refine W6 ?_ ?_|refine WN ?_|refine X1 (W1 rfl ?_ ?_)|refine X1 (W2 rfl ?_ ?_)|refine X2 (W7 rfl ?_ ?_)|refine X3 (W7 rfl ?_ ?_)|refine X4 (W7 rfl ?_ ?_)|refine X5 (W7 rfl ?_ ?_))
   all_goals (try (conv => whnf))
   all_goals (try first|exact obA|refine Ob.mk ?_)
   all_goals (first | rfl | (rw [take_snoc l k qm1.dflt (by omega),qzT];rfl) | trace_state)
  all_goals (rw [List.take_of_length_le (by omega)])
def qwQ (t : List ql4) (i : Nat) (kids : List Int) : Bool := kids.all fun k => !zHD t i k
def upB (t : List ql4) (i : Nat) (up : Int) : Bool := if up < 0 then up == -1 else decide (up < (t.length : Int)) && decide ((nd t up).1 ≤ 1) && ((nd t up).kids.count (i : Int) : Int) == 1
noncomputable abbrev BA : Base := { BB with sp := fun f => Nat.beq f 46 }
instance (priority := 100) fnmA {f : FuncId} {args : List SV} {Φ : Phi} {pre : Prop} {res : SV} {Φ' : Phi} [h : FnM BB f args Φ pre res Φ'] : FnM BA f args Φ pre res Φ' := ⟨h.call,h.ok⟩
@[simp] theorem zW5 (t : TypeId) : ql3 BA.P t = ql3 BB.P t := rfl
theorem zO8 {t : List ql4} {i : Nat} {kids : List Int} {k : Int} (h : k ∈ kids) (hb : zHD t i k = true) : qwQ t i kids = false := by
 unfold qwQ
 rw [List.all_eq_false]
 exact ⟨k,h,by rw [hb];decide⟩
theorem zLE {t : List ql4} {i : Nat} {kids : List Int} (h : ∀ x ∈ kids,zHD t i x = true → False) : qwQ t i kids = true := by
 unfold qwQ
 rw [List.all_eq_true]
 intro x hx
 cases e : zHD t i x with
 | false => rfl
 | true => exact (h x hx e).elim
theorem zLO (t : List ql4) (i : Nat) (k s : Int) (nn : List UInt8) (at_ : List qpC) (dt : List UInt8) (up : Int) (kids : List Int) :
  Fn BA 26 [.agg [.rd ql2 t],.int .i64 (i : Int),.agg [.int .i64 k,.int .i64 s,.str nn,.rd qm9 at_,.str dt,.int .i64 up,.rd qm1 kids]] (kids.length ≤ 1000 ∧ ∀ i,(nd t i).kids.length ≤ 1000) (.bool (qwQ t i kids && upB t i up)) := by
 refine Fn.intro (N := 70) [0,1,2,3,5,6,7,11,13,34,37] [] Try.call26 Try.func26 rfl rfl (by kernel_rfl) (fun hpre => ?_)
 obtain ⟨hk,hkk⟩ := hpre
 repeat' ((conv => whnf);first|(with_reducible first|rfl|exact qmF|exact qmE)|exact True.intro|intro _|refine WA ?_ ?_|refine WF ?_|refine W1 rfl ?_ ?_|refine W2 rfl ?_ ?_|refine W3 rfl ?_ ?_|refine W4 ?_ ?_|refine W5 rfl ?_ ?_|refine W6 ?_ ?_|refine WN ?_|refine X1 (W1 rfl ?_ ?_)|refine X1 (W2 rfl ?_ ?_)|refine X2 (W7 rfl ?_ ?_)|refine X3 (W7 rfl ?_ ?_)|refine X4 (W7 rfl ?_ ?_)|refine X5 (W7 rfl ?_ ?_))
 all_goals (try (conv => whnf))
 all_goals (try first|exact obA|refine Ob.mk ?_)
 refine LoopStop.mk (α := List (Int × Int) × Option (Int × Int)) (fun _ => []) (fun a => [(3,.mi KI qm1 a.1 a.2)]) 20 (fun a => (∀ x ∈ a.1,x.1 ∈ kids) ∧ ∀ x ∈ kids,zHD t i x = true → ∃ u,(x,u) ∈ a.1) (fun a => a.1.length) (qp0 kids,none) ⟨fun x hx => (qwF kids x.1).1 ⟨x.2,hx⟩,fun x hx _ => (qwF kids x).2 hx⟩ ?_ (fun a ha => ?_)
 ·repeat' ((conv => whnf);first|(with_reducible first|rfl|exact qmF|exact qmE)|exact True.intro|intro _|refine WA ?_ ?_|refine WF ?_|refine W1 rfl ?_ ?_|refine W2 rfl ?_ ?_|refine W3 rfl ?_ ?_|refine W4 ?_ ?_|refine W5 rfl ?_ ?_|refine W6 ?_ ?_|refine WN ?_|refine X1 (W1 rfl ?_ ?_)|refine X1 (W2 rfl ?_ ?_)|refine X2 (W7 rfl ?_ ?_)|refine X3 (W7 rfl ?_ ?_)|refine X4 (W7 rfl ?_ ?_)|refine X5 (W7 rfl ?_ ?_))
  all_goals (try (conv => whnf))
  all_goals (try first|exact obA|refine Ob.mk ?_)
  all_goals (try rfl)
  all_goals trace_state
 ·obtain ⟨left,cur⟩ := a
  obtain ⟨h1,h2⟩ := ha
  dsimp only at h1 h2
  have hin : ∀ {x n : Int},(decide (x < 0) || decide (x ≥ n)) = false → 0 ≤ x ∧ x < n := fun {x n} h => by
   simp only [Bool.or_eq_false_iff,decide_eq_false_iff_not] at h;omega
  have hnil : left = [] → qwQ t i kids = true := fun e => zLE fun x hx hb => by
   obtain ⟨u,hu⟩ := h2 x hx hb
   rw [e] at hu
   cases hu
  have hno : ∀ {j : Nat} {x v : Int},left[j]? = some (x,v) → zHD t i x = true → qwQ t i kids = false := fun {j x v} hj hb => zO8 (h1 _ (List.mem_of_getElem? hj)) hb
  repeat' ((conv => whnf);first|(with_reducible first|rfl|exact qmF|exact qmE)|exact True.intro|intro _|refine WA ?_ ?_|refine WF ?_|refine W1 rfl ?_ ?_|refine W2 rfl ?_ ?_|refine W3 rfl ?_ ?_|refine W4 ?_ ?_|refine W5 rfl ?_ ?_|refine W6 ?_ ?_|refine WN ?_|refine X1 (W1 rfl ?_ ?_)|refine X1 (W2 rfl ?_ ?_)|refine X2 (W7 rfl ?_ ?_)|refine X3 (W7 rfl ?_ ?_)|refine X4 (W7 rfl ?_ ?_)|refine X5 (W7 rfl ?_ ?_))
  all_goals (try (conv => whnf))
  all_goals (try first|exact obA|refine Ob.mk ?_)
  all_goals (try (exact hin ‹_›))
  all_goals (try (exact hkk _))
  ·have hu := of_decide_eq_true ‹decide (up < 0) = true›
   rw [hnil ‹_›,upB,if_pos hu];rfl
  ·have hu := of_decide_eq_false ‹decide (up < 0) = false›
   rw [hnil ‹_›,upB,if_neg hu,qxE,show (decide (up < (t.length : Int)) && decide ((nd t up).1 ≤ 1)) = true by assumption];rfl
  ·have hu := of_decide_eq_false ‹decide (up < 0) = false›
   rw [hnil ‹_›,upB,if_neg hu,show (decide (up < (t.length : Int)) && decide ((nd t up).1 ≤ 1)) = false by assumption];rfl
  ·rw [hno (by assumption) (by assumption)];rfl
  ·rename_i jj kk vv hj ht hb
   have hj : left[jj]? = some (kk,vv) := hj
   have hjl : jj < left.length := by
    rcases Nat.lt_or_ge jj left.length with q | q
    ·exact q
    ·rw [List.getElem?_eq_none q] at hj;cases hj
   refine Rnd.mk ⟨(left.eraseIdx jj,some (kk,vv)),⟨fun x hx => h1 x (List.mem_of_mem_eraseIdx hx),fun x hx hbx => ?_⟩,?_,?_⟩
   ·obtain ⟨u,hu⟩ := h2 x hx hbx
    rcases qzU hj hu with e | e
    ·rw [(Prod.mk.inj e).1] at hbx
     exact Bool.noConfusion (hbx.symm.trans hb)
    ·exact ⟨u,e⟩
   ·show (left.eraseIdx jj).length < left.length
    rw [List.length_eraseIdx,if_pos hjl];omega
   ·all_goals exact vcA
instance hLinked (t : List ql4) (i : Nat) (k s : Int) (nn : List UInt8) (at_ : List qpC) (dt : List UInt8) (up : Int) (kids : List Int) :
  Fn BB 26 [.agg [.rd ql2 t],.int .i64 (i : Int),.agg [.int .i64 k,.int .i64 s,.str nn,.rd qm9 at_,.str dt,.int .i64 up,.rd qm1 kids]] (kids.length ≤ 1000 ∧ ∀ i,(nd t i).kids.length ≤ 1000) (.bool (qwQ t i kids && upB t i up)) :=
 have h := zLO t i k s nn at_ dt up kids
 ⟨h.call,h.ok⟩
end Go.Vc

namespace Go.Vc
open Go.Proofs
set_option maxRecDepth 10000
theorem qp4 {t : List ql4} : ∀ {f : Nat} {i : Int},qsC t f i = true → ∀ g,f ≤ g → qsC t g i = true := by
 intro f
 induction f with
 | zero => intro i h;cases h
 | succ f ih =>
  intro i h g hg
  obtain ⟨g,rfl⟩ : ∃ g',g = g' + 1 := ⟨g - 1,by omega⟩
  rw [qsC] at h ⊢
  cases hb : (nd t i).up == -1 with
  | true => rfl
  | false =>
   rw [hb] at h
   exact ih h g (by omega)
structure EndsOk (t : List ql4) (e : List (Int × Int)) (E : List Nat) : Prop where
 nod : E.Nodup
 lt : ∀ x ∈ E,x < t.length
 get : ∀ k : Int,qm8 KI e k = if k = -1 ∨ (0 ≤ k ∧ k.toNat ∈ E) then some 1 else none
 held : ∀ x ∈ E,qsC t E.length (x : Int) = true
structure PathOk (t : List ql4) (E : List Nat) (i : Nat) (cur : Int) (p : List (Int × Int)) (P : List Nat) : Prop where
 nod : P.Nodup
 off : ∀ x ∈ P,x ∉ E
 lt : ∀ x ∈ P,x < t.length
 get : ∀ k : Int,qm8 KI p k = if 0 ≤ k ∧ k.toNat ∈ P then some 1 else none
 chain : ∀ j,j < P.length → (nd t (P.getD j 0 : Nat)).up = if j + 1 < P.length then ((P.getD (j + 1) 0 : Nat) : Int) else cur
 ones : ∀ x ∈ p,x.2 = 1
 start : P.getD 0 i = i ∧ (P = [] → cur = (i : Int))
 cur : cur = -1 ∨ (0 ≤ cur ∧ cur < t.length)
theorem zK7 {α : Type} {m : List (Int × α)} {k : Int} {v : α} {x : Int × α} (h : x ∈ qrZ KI m k v) : x = (k,v) ∨ x ∈ m := by
 induction m with
 | nil => exact .inl (List.mem_singleton.1 h)
 | cons y m ih =>
  obtain ⟨a,b⟩ := y
  unfold qrZ at h
  have h : x ∈ (bif (k == a) then (k,v) :: m else (a,b) :: qrZ KI m k v) := h
  cases hb : k == a with
  | true =>
   rw [hb] at h
   rcases List.mem_cons.1 h with q | q
   ·exact .inl q
   ·exact .inr (List.mem_cons_of_mem _ q)
  | false =>
   rw [hb] at h
   rcases List.mem_cons.1 h with q | q
   ·exact .inr (by rw [q];exact List.mem_cons_self)
   ·exact (ih q).imp id (List.mem_cons_of_mem _)
def qxW (e p d left : List (Int × Int)) : Prop := (∀ x ∈ left,x ∈ p) ∧ ∀ k : Int,(qm8 KI p k = none → qm8 KI d k = qm8 KI e k) ∧ (qm8 KI p k ≠ none → (∃ u,(k,u) ∈ left) ∨ qm8 KI d k = some 1)
theorem zQI (e p : List (Int × Int)) : qxW e p e p := ⟨fun x hx => hx,fun k => ⟨fun _ => rfl,fun h => .inl (Classical.byContradiction fun q => h ((qzY p k).2 q))⟩⟩
theorem zJA {e p d left : List (Int × Int)} (h : qxW e p d left) (h1 : ∀ x ∈ p,x.2 = 1) {j : Nat} {k v : Int} (hj : left[j]? = some (k,v)) : qxW e p (qrZ KI d k v) (left.eraseIdx j) := by
 have hm := h.1 _ (List.mem_of_getElem? hj)
 have hv : v = 1 := h1 _ hm
 refine ⟨fun x hx => h.1 x (List.mem_of_mem_eraseIdx hx),fun k' => ?_⟩
 rw [qs0]
 by_cases e1 : k' = k
 ·rw [if_pos e1,hv]
  exact ⟨fun q => absurd ⟨v,by rw [e1];exact hm⟩ ((qzY p k').1 q),fun _ => .inr rfl⟩
 ·rw [if_neg e1]
  refine ⟨(h.2 k').1,fun q => ?_⟩
  rcases (h.2 k').2 q with ⟨u,hu⟩ | q
  ·rcases qzU hj hu with q | q
   ·exact absurd (Prod.mk.inj q).1 e1
   ·exact .inl ⟨u,q⟩
  ·exact .inr q
theorem zK2 {e p d : List (Int × Int)} (h : qxW e p d []) (k : Int) : qm8 KI d k = if (qm8 KI p k).isSome = true then some 1 else qm8 KI e k := by
 cases hp : qm8 KI p k with
 | none => rw [(h.2 k).1 hp];rfl
 | some x =>
  rcases (h.2 k).2 (by rw [hp];exact fun q => by cases q) with ⟨u,hu⟩ | q
  ·cases hu
  ·rw [q];rfl
theorem qvI {P : List Nat} {n : Nat} (h : P.Nodup) (hl : ∀ x ∈ P,x < n) : P.length ≤ n := qu8 h hl
theorem zP7 (t : List ql4) : EndsOk t (qrZ KI [] (-1) 1) [] :=
 ⟨List.nodup_nil,fun x hx => (by cases hx),fun k => by
  rw [qs0]
  by_cases h : k = -1
  ·rw [if_pos h,if_pos (.inl h)]
  ·rw [if_neg h,if_neg (fun q => q.elim h fun q => (by cases q.2))];rfl,fun x hx => (by cases hx)⟩
theorem zP2 (t : List ql4) (E : List Nat) {i : Nat} (hi : i < t.length) : PathOk t E i i [] [] :=
 ⟨List.nodup_nil,fun x hx => (by cases hx),fun x hx => (by cases hx),fun k => by rw [if_neg (fun q => (by cases q.2))];rfl,fun j hj => absurd hj (Nat.not_lt_zero _),fun x hx => (by cases hx),⟨rfl,fun _ => rfl⟩,.inr ⟨by omega,by omega⟩⟩
theorem zQ8 {t e E i cur p P} (he : EndsOk t e E) (hp : PathOk t E i cur p P) : ((qm8 KI e cur).getD 0 + (qm8 KI p cur).getD 0 == 0) = true ↔ (¬ (cur = -1 ∨ (0 ≤ cur ∧ cur.toNat ∈ E)) ∧ ¬ (0 ≤ cur ∧ cur.toNat ∈ P)) := by
 rw [he.get,hp.get]
 by_cases h1 : cur = -1 ∨ (0 ≤ cur ∧ cur.toNat ∈ E)
 ·rw [if_pos h1]
  by_cases h2 : 0 ≤ cur ∧ cur.toNat ∈ P
  ·rw [if_pos h2];exact ⟨fun h => absurd h (by decide),fun h => absurd h1 h.1⟩
  ·rw [if_neg h2];exact ⟨fun h => absurd h (by decide),fun h => absurd h1 h.1⟩
 ·rw [if_neg h1]
  by_cases h2 : 0 ≤ cur ∧ cur.toNat ∈ P
  ·rw [if_pos h2];exact ⟨fun h => absurd h (by decide),fun h => absurd h2 h.2⟩
  ·rw [if_neg h2];exact ⟨fun _ => ⟨h1,h2⟩,fun _ => by decide⟩
theorem zPX {t e E} (he : EndsOk t e E) (cur : Int) : ((qm8 KI e cur).getD 0 == 0) = true ↔ ¬ (cur = -1 ∨ (0 ≤ cur ∧ cur.toNat ∈ E)) := by
 rw [he.get]
 by_cases h1 : cur = -1 ∨ (0 ≤ cur ∧ cur.toNat ∈ E)
 ·rw [if_pos h1];exact ⟨fun h => absurd h (by decide),fun h => absurd h1 h⟩
 ·rw [if_neg h1];exact ⟨fun _ => h1,fun _ => by decide⟩
theorem qv7 (P : List Nat) (x j d : Nat) : (P ++ [x]).getD j d = if j = P.length then x else P.getD j d := by
 by_cases h : j = P.length
 ·rw [if_pos h,h,List.getD_eq_getElem?_getD,List.getElem?_append_right (Nat.le_refl _),Nat.sub_self];rfl
 ·rw [if_neg h,List.getD_eq_getElem?_getD,List.getD_eq_getElem?_getD]
  rcases Nat.lt_or_ge j P.length with q | q
  ·rw [List.getElem?_append_left q]
  ·rw [List.getElem?_eq_none (by rw [List.length_append,List.length_singleton];omega),List.getElem?_eq_none q]
theorem zI1 {t e E i cur p P} (hups : zQ0 t) (he : EndsOk t e E) (hp : PathOk t E i cur p P) (h : ((qm8 KI e cur).getD 0 + (qm8 KI p cur).getD 0 == 0) = true) :
  (0 ≤ cur ∧ cur < t.length) ∧ PathOk t E i (nd t cur).up (qrZ KI p cur 1) (P ++ [cur.toNat]) := by
 obtain ⟨h1,h2⟩ := (zQ8 he hp).1 h
 have hc : 0 ≤ cur ∧ cur < t.length := hp.cur.resolve_left fun e => h1 (.inl e)
 have hcE : cur.toNat ∉ E := fun q => h1 (.inr ⟨hc.1,q⟩)
 have hcP : cur.toNat ∉ P := fun q => h2 ⟨hc.1,q⟩
 refine ⟨hc,?_,?_,?_,?_,?_,?_,?_,hups cur hc⟩
 ·rw [List.nodup_append]
  exact ⟨hp.nod,by simp,fun a ha b hb => by rw [List.mem_singleton] at hb;rw [hb];exact fun q => hcP (q ▸ ha)⟩
 ·intro x hx
  rcases List.mem_append.1 hx with q | q
  ·exact hp.off x q
  ·rw [List.mem_singleton] at q;rw [q];exact hcE
 ·intro x hx
  rcases List.mem_append.1 hx with q | q
  ·exact hp.lt x q
  ·rw [List.mem_singleton] at q;rw [q];omega
 ·intro k
  rw [qs0,hp.get]
  by_cases hk : k = cur
  ·rw [if_pos hk,if_pos ⟨by omega,by rw [hk];simp⟩]
  ·rw [if_neg hk]
   by_cases h3 : 0 ≤ k ∧ k.toNat ∈ P
   ·rw [if_pos h3,if_pos ⟨h3.1,List.mem_append_left _ h3.2⟩]
   ·rw [if_neg h3,if_neg]
    rintro ⟨q1,q2⟩
    rcases List.mem_append.1 q2 with q | q
    ·exact h3 ⟨q1,q⟩
    ·rw [List.mem_singleton] at q;omega
 ·intro j hj
  rw [List.length_append,List.length_singleton] at hj ⊢
  rw [qv7]
  by_cases hjl : j = P.length
  ·rw [if_pos hjl,if_neg (by omega),show ((cur.toNat : Nat) : Int) = cur by omega]
  ·rw [if_neg hjl,hp.chain j (by omega),qv7,if_pos (show j + 1 < P.length + 1 by omega)]
   by_cases h3 : j + 1 < P.length
   ·rw [if_pos h3,if_neg (by omega)]
   ·rw [if_neg h3,if_pos (by omega)];omega
 ·intro x hx
  rcases zK7 hx with q | q
  ·rw [q]
  ·exact hp.ones x q
 ·constructor
  ·rw [qv7]
   by_cases h3 : 0 = P.length
   ·have hn : P = [] := List.length_eq_zero_iff.1 h3.symm
    rw [if_pos h3,hp.start.2 hn];omega
   ·rw [if_neg h3]
    exact hp.start.1
  ·intro q;simp at q
theorem zLL {t e E i cur p P} (he : EndsOk t e E) (hp : PathOk t E i cur p P) (h1 : ((qm8 KI e cur).getD 0 + (qm8 KI p cur).getD 0 == 0) = false) (h2 : ((qm8 KI e cur).getD 0 == 0) = true) : ∀ f,qsC t f (i : Int) = false := by
 have h3 := (zPX he cur).1 h2
 have hc : 0 ≤ cur ∧ cur.toNat ∈ P := Classical.byContradiction fun q => by
  have := (zQ8 he hp).2 ⟨h3,q⟩
  rw [this] at h1;cases h1
 have key : ∀ (f : Nat) (x : Nat),x ∈ P → qsC t f (x : Int) = false := by
  intro f
  induction f with
  | zero => intro x _;rfl
  | succ f ih =>
   intro x hx
   obtain ⟨j,hj,rfl⟩ := List.getElem_of_mem hx
   have hg : P.getD j 0 = P[j] := by rw [List.getD_eq_getElem?_getD,List.getElem?_eq_getElem hj];rfl
   have hch := hp.chain j hj
   rw [hg] at hch
   rw [qsC,hch]
   by_cases h4 : j + 1 < P.length
   ·rw [if_pos h4,beq_eq_false_iff_ne.2 (by omega)]
    refine ih _ ?_
    rw [List.getD_eq_getElem?_getD,List.getElem?_eq_getElem h4];exact List.getElem_mem _
   ·rw [if_neg h4,beq_eq_false_iff_ne.2 (by omega)]
    have := ih _ hc.2
    rw [show ((cur.toNat : Nat) : Int) = cur by omega] at this
    exact this
 intro f
 have hne : P ≠ [] := fun e => by rw [e] at hc;cases hc.2
 have h0 : 0 < P.length := List.length_pos_iff.2 hne
 have : P.getD 0 i = P[0] := by rw [List.getD_eq_getElem?_getD,List.getElem?_eq_getElem h0];rfl
 rw [hp.start.1] at this
 refine key f i ?_
 rw [this];exact List.getElem_mem _
theorem zH4 {t e E i cur p P} (he : EndsOk t e E) (hp : PathOk t E i cur p P) (h2 : ((qm8 KI e cur).getD 0 == 0) = false) {e' : List (Int × Int)} (hm : ∀ k : Int,qm8 KI e' k = if (qm8 KI p k).isSome = true then some 1 else qm8 KI e k) :
  EndsOk t e' (P ++ E) ∧ i ∈ P ++ E := by
 have h3 : cur = -1 ∨ (0 ≤ cur ∧ cur.toNat ∈ E) := Classical.byContradiction fun q => by
  rw [(zPX he cur).2 q] at h2;cases h2
 have key : ∀ (m : Nat) (j : Nat),j < P.length → P.length - j = m → qsC t (E.length + m) ((P.getD j 0 : Nat) : Int) = true := by
  intro m
  induction m with
  | zero => intro j hj h;omega
  | succ m ih =>
   intro j hj hm
   rw [show E.length + (m + 1) = (E.length + m) + 1 by omega,qsC,hp.chain j hj]
   by_cases h4 : j + 1 < P.length
   ·rw [if_pos h4,beq_eq_false_iff_ne.2 (by omega)]
    exact ih (j + 1) h4 (by omega)
   ·rw [if_neg h4]
    rcases h3 with h3 | h3
    ·rw [h3];rfl
    ·rw [beq_eq_false_iff_ne.2 (by omega)]
     have := he.held _ h3.2
     rw [show ((cur.toNat : Nat) : Int) = cur by omega] at this
     exact qp4 this _ (by omega)
 refine ⟨⟨?_,?_,?_,?_⟩,?_⟩
 ·rw [List.nodup_append]
  exact ⟨hp.nod,he.nod,fun a ha b hb q => hp.off a ha (q ▸ hb)⟩
 ·intro x hx
  rcases List.mem_append.1 hx with q | q
  ·exact hp.lt x q
  ·exact he.lt x q
 ·intro k
  rw [hm,hp.get,he.get]
  by_cases h4 : 0 ≤ k ∧ k.toNat ∈ P
  ·rw [if_pos h4,if_pos (show (some (1 : Int)).isSome = true from rfl),if_pos (.inr ⟨h4.1,List.mem_append_left _ h4.2⟩)]
  ·rw [if_neg h4,if_neg (by decide)]
   by_cases h5 : k = -1 ∨ (0 ≤ k ∧ k.toNat ∈ E)
   ·rw [if_pos h5,if_pos (h5.imp id fun q => ⟨q.1,List.mem_append_right _ q.2⟩)]
   ·rw [if_neg h5,if_neg]
    rintro (q | ⟨q1,q2⟩)
    ·exact h5 (.inl q)
    ·rcases List.mem_append.1 q2 with q | q
     ·exact h4 ⟨q1,q⟩
     ·exact h5 (.inr ⟨q1,q⟩)
 ·intro x hx
  rw [List.length_append]
  rcases List.mem_append.1 hx with q | q
  ·obtain ⟨j,hj,rfl⟩ := List.getElem_of_mem q
   have hg : P.getD j 0 = P[j] := by rw [List.getD_eq_getElem?_getD,List.getElem?_eq_getElem hj];rfl
   have := key _ j hj rfl
   rw [hg] at this
   exact qp4 this _ (by omega)
  ·exact qp4 (he.held x q) _ (by omega)
 ·by_cases hne : P = []
  ·have hci := hp.start.2 hne
   rcases h3 with h3 | h3
   ·omega
   ·refine List.mem_append_right _ ?_
    rw [hci] at h3
    exact h3.2
  ·have h0 : 0 < P.length := List.length_pos_iff.2 hne
   have : P.getD 0 i = P[0] := by rw [List.getD_eq_getElem?_getD,List.getElem?_eq_getElem h0];rfl
   rw [hp.start.1] at this
   refine List.mem_append_left _ ?_
   rw [this];exact List.getElem_mem _
theorem zMI {t e E} (he : EndsOk t e E) {i : Nat} (hi : i ∈ E) : qsC t (t.length + 1) (i : Int) = true := qp4 (he.held i hi) _ (by have := qvI he.nod he.lt;omega)
end Go.Vc

namespace Go.Vc
open Go.Proofs
set_option maxRecDepth 10000
set_option maxHeartbeats 8000000
def zL3 (t : List ql4) (i : Nat) : Bool := decide ((i : Int) > 0) && (decide ((ndR t i).1 < 1) || decide ((ndR t i).1 > 4))
def okP (t : List ql4) (i : Nat) : Bool := !zL3 t i && (qwQ t i (ndR t i).kids && upB t i (ndR t i).up)
theorem zOJ {t : List ql4} (h0 : (nd t 0).up = -1) (i : Nat) : okP t i = okN t i := by
 unfold okP okN
 have hu : i = 0 → (ndR t i).up = -1 := fun e => by subst e;exact h0
 have hk : qwQ t i (ndR t i).kids = (ndR t i).kids.all fun k => !zHD t i k := rfl
 rw [hk]
 cases hkb : (ndR t i).kids.all fun k => !zHD t i k with
 | false => simp
 | true =>
  rw [Bool.true_and,Bool.and_true]
  unfold zMG zNT zL3 upB
  by_cases hi : i = 0
  ·have := hu hi
   subst hi
   rw [this];rfl
  ·rw [decide_eq_true (by omega : (i : Int) > 0),Bool.true_and,Bool.true_and]
   by_cases hup : (ndR t i).up < 0
   ·rw [if_pos hup,decide_eq_false (by omega : ¬ (ndR t i).up ≥ 0),decide_eq_false (by omega : ¬ (ndR t i).up ≥ (t.length : Int)),Bool.false_and,Bool.or_false,Bool.not_false,Bool.and_true]
    by_cases h1 : (ndR t i).up = -1
    ·rw [h1];cases (decide ((ndR t i).1 < 1) || decide ((ndR t i).1 > 4)) <;> rfl
    ·rw [beq_eq_false_iff_ne.2 h1,decide_eq_true (by omega : (ndR t i).up < -1)];simp
   ·rw [if_neg hup,decide_eq_true (by omega : (ndR t i).up ≥ 0),decide_eq_false (by omega : ¬ (ndR t i).up < -1),Bool.or_false,Bool.true_and]
    by_cases h1 : (ndR t i).up < (t.length : Int)
    ·rw [decide_eq_true h1,decide_eq_false (by omega : ¬ (ndR t i).up ≥ (t.length : Int)),Bool.or_false,Bool.true_and]
     by_cases h2 : (nd t (ndR t i).up).1 ≤ 1
     ·rw [decide_eq_true h2,decide_eq_false (Int.not_lt.2 h2),Bool.true_and,Bool.false_or,bne,Bool.not_not]
     ·rw [decide_eq_false h2,decide_eq_true (Int.not_le.1 h2)];simp
    ·rw [decide_eq_false h1,decide_eq_true (by omega : (ndR t i).up ≥ (t.length : Int))];simp
noncomputable instance : Inl BB 27 := Inl.make (N := 16) [0,1,4,5,7,9] [] Try.call27 Try.func27 rfl rfl (by kernel_rfl)
instance sRight (t : List ql4) : Fn BB 8 [.agg [.rd ql2 t]] (t.length ≤ 1000 ∧ ∀ i,(nd t i).kids.length ≤ 1000) (.bool (qo1 t)) := by
 refine Fn.intro (N := 89) [0,1,2,3,4,5,6,7,27,29,30,31,32,54,60,61,62,72,84] [] Try.call8 Try.func8 rfl rfl (by kernel_rfl) (fun hpre => ?_)
 obtain ⟨h1,h2⟩ := hpre
 have bt : badR t = true → qo1 t = false := fun h => by unfold qo1;rw [h];rfl
 have bf : badR t = false → 0 < t.length ∧ (nd t 0).up = -1 := fun h => by
  unfold badR at h
  simp only [Bool.or_eq_false_iff,beq_eq_false_iff_ne,bne_eq_false_iff_eq] at h
  exact ⟨by have := h.1.1;omega,h.2⟩
 repeat' ((conv => whnf);first|(with_reducible first|rfl|exact qmF|exact qmE)|exact True.intro|intro _|refine WA ?_ ?_|refine WF ?_|refine W1 rfl ?_ ?_|refine W2 rfl ?_ ?_|refine W3 rfl ?_ ?_|refine W4 ?_ ?_|refine W5 rfl ?_ ?_|refine W6 ?_ ?_|refine WN ?_|refine X1 (W1 rfl ?_ ?_)|refine X1 (W2 rfl ?_ ?_)|refine X2 (W7 rfl ?_ ?_)|refine X3 (W7 rfl ?_ ?_)|refine X4 (W7 rfl ?_ ?_)|refine X5 (W7 rfl ?_ ?_))
 all_goals (try (conv => whnf))
 all_goals (try first|exact obA|refine Ob.mk ?_)
 all_goals (try (have hz : ¬ t.length = 0 := fun e => by (have h := ‹((t.length : Int) == 0 || _) = false›;rw [Bool.or_eq_false_iff] at h;have := beq_eq_false_iff_ne.1 h.1;omega)))
 all_goals (try omega)
 ·exact (bt ‹_›).symm
 have hbad : badR t = false := ‹_›
 obtain ⟨hpos,hup0⟩ := bf hbad
 have red : qo1 t = ((List.range t.length).all (okN t) && (List.range t.length).all fun i => qsC t (t.length + 1) i) := by unfold qo1;rw [hbad];rfl
 rw [red]
 refine LoopStop.mk (α := Nat) (fun i => [(31,.int .i64 i)]) (fun _ => []) 20 (fun i => i ≤ t.length ∧ ∀ k,k < i → okN t k = true) (fun i => t.length - i) 0 ⟨Nat.zero_le _,fun k hk => absurd hk (Nat.not_lt_zero _)⟩ ?_ (fun i hi => ?_)
 ·all_goals exact vcA
 ·obtain ⟨hi,hall⟩ := hi
  have hd : ∀ {i : Nat},i < t.length → (decide ((i : Int) > 0) && (decide ((ndR t i).1 < 1) || decide ((ndR t i).1 > 4)) || !(qwQ t i (ndR t i).kids && upB t i (ndR t i).up)) = !okN t i := fun {i} h => by
   rw [← zOJ hup0 i]
   unfold okP
   show (zL3 t i || _) = _
   cases zL3 t i <;> simp
  repeat' ((conv => whnf);first|(with_reducible first|rfl|exact qmF|exact qmE)|exact True.intro|intro _|refine WA ?_ ?_|refine WF ?_|refine W1 rfl ?_ ?_|refine W2 rfl ?_ ?_|refine W3 rfl ?_ ?_|refine W4 ?_ ?_|refine W5 rfl ?_ ?_|refine W6 ?_ ?_|refine WN ?_|refine X1 (W1 rfl ?_ ?_)|refine X1 (W2 rfl ?_ ?_)|refine X2 (W7 rfl ?_ ?_)|refine X3 (W7 rfl ?_ ?_)|refine X4 (W7 rfl ?_ ?_)|refine X5 (W7 rfl ?_ ?_))
  all_goals (try (conv => whnf))
  all_goals (try first|exact obA|refine Ob.mk ?_)
  all_goals (try simp only [Int.toNat_natCast] at *)
  all_goals (try (have hlt : i < t.length := by have := of_decide_eq_true ‹decide ((i : Int) < (t.length : Int)) = true›;omega))
  ·exact ⟨by have := h2 (i : Int);unfold nd at this;rw [Int.toNat_natCast] at this;exact this,h2⟩
  ·have h := (hd hlt).symm.trans (by assumption)
   rw [qr1 _ _ i hlt (by revert h;cases okN t i <;> simp)];rfl
  ·have h := (hd hlt).symm.trans (by assumption)
   have hok : okN t i = true := by revert h;cases okN t i <;> simp
   refine Rnd.mk ⟨i + 1,⟨by omega,fun k hk' => by (rcases Nat.lt_or_ge k i with q | q);exact hall k q;(have : k = i := by omega);subst this;exact hok⟩,by omega,?_,?_,?_⟩
   all_goals exact vcA
  have hie : i = t.length := by have := of_decide_eq_false ‹decide ((i : Int) < (t.length : Int)) = false›;omega
  have e1 : (List.range t.length).all (okN t) = true := qo6 _ _ (fun k hk => hall k (by omega))
  have hups : zQ0 t := fun x hx => by
   have hx2 : x.toNat < t.length := by omega
   have h := hall x.toNat (by omega)
   have hA : zMG t x.toNat = false := by unfold okN at h;cases e : zMG t x.toNat <;> rw [e] at h <;> simp_all
   have hn : ndR t x.toNat = nd t x := rfl
   by_cases e : x.toNat = 0
   ·left
    have : x = 0 := by omega
    rw [this];exact hup0
   ·unfold zMG at hA
    rw [decide_eq_true (by omega),Bool.true_and] at hA
    simp only [Bool.or_eq_false_iff] at hA
    have a1 := of_decide_eq_false hA.1.2
    have a2 := of_decide_eq_false hA.2
    rw [hn] at a1 a2
    omega
  clear hall
  rw [e1,Bool.true_and]
  refine LoopStop.mk (α := Nat × List (Int × Int) × List Nat) (fun a => [(61,.int .i64 (a.1 : Nat))]) (fun a => [(20,.mp KI qm1 a.2.1)]) 40 (fun a => a.1 ≤ t.length ∧ EndsOk t a.2.1 a.2.2 ∧ ∀ k,k < a.1 → k ∈ a.2.2) (fun a => t.length - a.1) (0,qrZ KI [] (-1) 1,[]) ⟨Nat.zero_le _,zP7 t,fun k hk => absurd hk (Nat.not_lt_zero _)⟩ ?_ (fun a ha => ?_)
  ·all_goals exact vcA
  ·obtain ⟨u,e,E⟩ := a
   obtain ⟨hu,he,hE⟩ := ha
   dsimp only at hu he hE
   repeat' ((conv => whnf);first|(with_reducible first|rfl|exact qmF|exact qmE)|exact True.intro|intro _|refine WA ?_ ?_|refine WF ?_|refine W1 rfl ?_ ?_|refine W2 rfl ?_ ?_|refine W3 rfl ?_ ?_|refine W4 ?_ ?_|refine W5 rfl ?_ ?_|refine W6 ?_ ?_|refine WN ?_|refine X1 (W1 rfl ?_ ?_)|refine X1 (W2 rfl ?_ ?_)|refine X2 (W7 rfl ?_ ?_)|refine X3 (W7 rfl ?_ ?_)|refine X4 (W7 rfl ?_ ?_)|refine X5 (W7 rfl ?_ ?_))
   all_goals (try (conv => whnf))
   all_goals (try first|exact obA|refine Ob.mk ?_)
   all_goals (try simp only [Int.toNat_natCast] at *)
   ·have hut : u < t.length := by have := of_decide_eq_true ‹decide ((u : Int) < (t.length : Int)) = true›;omega
    refine LoopStop.mk (α := Int × List (Int × Int) × List Nat) (fun a => [(6,.int .i64 a.1)]) (fun a => [(40,.mp KI qm1 a.2.1)]) 60 (fun a => PathOk t E u a.1 a.2.1 a.2.2) (fun a => t.length + 1 - a.2.2.length) ((u : Int),[],[]) (zP2 t E hut) ?_ (fun a ha => ?_)
    ·all_goals exact vcA
    ·obtain ⟨cur,p,P⟩ := a
     have hp : PathOk t E u cur p P := ha
     have hst := fun h => zI1 hups he hp h
     have hbad := zLL he hp
     have hgood := @zH4 t e E u cur p P he hp
     have hPl := qvI hp.nod hp.lt
     have hbnd : ∀ k : Int,0 ≤ (qm8 KI e k).getD 0 ∧ (qm8 KI e k).getD 0 ≤ 1 ∧ 0 ≤ (qm8 KI p k).getD 0 ∧ (qm8 KI p k).getD 0 ≤ 1 := fun k => by
      rw [he.get,hp.get]
      constructor
      ·split <;> decide
      ·constructor
       ·split <;> decide
       ·constructor <;> (split <;> decide)
     have hin : ∀ {x : Int},(0 ≤ x ∧ x < t.length) → 0 ≤ x ∧ x < (t.length : Int) := fun h => h
     repeat' ((conv => whnf);first|(with_reducible first|rfl|exact qmF|exact qmE)|exact True.intro|intro _|refine WA ?_ ?_|refine WF ?_|refine W1 rfl ?_ ?_|refine W2 rfl ?_ ?_|refine W3 rfl ?_ ?_|refine W4 ?_ ?_|refine W5 rfl ?_ ?_|refine W6 ?_ ?_|refine WN ?_|refine X1 (W1 rfl ?_ ?_)|refine X1 (W2 rfl ?_ ?_)|refine X2 (W7 rfl ?_ ?_)|refine X3 (W7 rfl ?_ ?_)|refine X4 (W7 rfl ?_ ?_)|refine X5 (W7 rfl ?_ ?_)|refine X6 rfl ?_)
     all_goals (try (conv => whnf))
     all_goals (try first|exact obA|refine Ob.mk ?_)
     ·have := hbnd cur
      exact ⟨by show _ ≤ (qm8 KI e cur).getD 0 + (qm8 KI p cur).getD 0;omega,by show (qm8 KI e cur).getD 0 + (qm8 KI p cur).getD 0 ≤ _;omega⟩
     ·have h3 := (hst (by assumption)).2
      refine Rnd.mk ⟨((nd t cur).up,qrZ KI p cur 1,P ++ [cur.toNat]),h3,?_,?_⟩
      ·have := qvI h3.nod h3.lt
       show t.length + 1 - (P ++ [cur.toNat]).length < t.length + 1 - P.length
       rw [List.length_append,List.length_singleton] at this ⊢
       omega
      ·all_goals exact vcA
     ·rw [qr1 _ _ u hut (hbad (by assumption) (by assumption) _)]
     ·have hg2 := fun e2 => @hgood (by assumption) e2
      clear hst hbad hgood
      refine LoopStop.mk (α := List (Int × Int) × Option (Int × Int) × List (Int × Int)) (fun _ => []) (fun a => [(20,.mp KI qm1 a.2.2),(60,.mi KI qm1 a.1 a.2.1)]) 80 (fun a => qxW e p a.2.2 a.1) (fun a => a.1.length) (p,none,e) (zQI e p) ?_ (fun a ha => ?_)
      ·all_goals exact vcA
      ·obtain ⟨left,cr,d⟩ := a
       have hc : qxW e p d left := ha
       repeat' ((conv => whnf);first|(with_reducible first|rfl|exact qmF|exact qmE)|exact True.intro|intro _|refine WA ?_ ?_|refine WF ?_|refine W1 rfl ?_ ?_|refine W2 rfl ?_ ?_|refine W3 rfl ?_ ?_|refine W4 ?_ ?_|refine W5 rfl ?_ ?_|refine W6 ?_ ?_|refine WN ?_|refine X1 (W1 rfl ?_ ?_)|refine X1 (W2 rfl ?_ ?_)|refine X2 (W7 rfl ?_ ?_)|refine X3 (W7 rfl ?_ ?_)|refine X4 (W7 rfl ?_ ?_)|refine X5 (W7 rfl ?_ ?_))
       all_goals (try (conv => whnf))
       all_goals (try first|exact obA|refine Ob.mk ?_)
       ·have hl : left = [] := by assumption
        subst hl
        have he2 := hg2 d (zK2 hc)
        refine Rnd.mk ⟨(u + 1,d,P ++ E),⟨by show u + 1 ≤ _;omega,he2.1,fun k hk => ?_⟩,by show _ - (u + 1) < _ - u;omega,?_⟩
        ·rcases Nat.lt_or_ge k u with q | q
         ·exact List.mem_append_right _ (hE k q)
         ·have : k = u := by have : k < u + 1 := hk;omega
          rw [this];exact he2.2
        ·all_goals exact vcA
       ·rename_i jj kk vv hj _
        have hj : left[jj]? = some (kk,vv) := hj
        have hjl : jj < left.length := by
         rcases Nat.lt_or_ge jj left.length with q | q
         ·exact q
         ·rw [List.getElem?_eq_none q] at hj;cases hj
        refine Rnd.mk ⟨(left.eraseIdx jj,some (kk,vv),qrZ KI d kk vv),zJA hc hp.ones hj,?_,?_⟩
        ·show (left.eraseIdx jj).length < left.length
         rw [List.length_eraseIdx,if_pos hjl];omega
        ·all_goals exact vcA
       all_goals trace_state
   ·have hut : u = t.length := by have := of_decide_eq_false ‹decide ((u : Int) < (t.length : Int)) = false›;omega
    rw [qo6 _ _ (fun k hk => zMI he (hE k (by omega)))]
end Go.Vc

namespace Go.Vc
open Go.Proofs
set_option autoImplicit false
inductive Fo where
 | nil
 | cons (a : Nat) (c r : Fo)
def Fo.size : Fo → Nat
 | .nil => 0
 | .cons _ c r => 1 + c.size + r.size
def Fo.lab : Fo → List Nat
 | .nil => []
 | .cons a c r => a :: (c.lab ++ r.lab)
theorem qr7 : ∀ f : Fo,f.lab.length = f.size
 | .nil => rfl
 | .cons a c r => by simp only [Fo.lab,Fo.size,List.length_cons,List.length_append,qr7 c,qr7 r];omega
def qq5 : Nat → Fo → List Int
 | _,.nil => []
 | n,.cons _ c r => (n : Int) :: qq5 (n + 1 + c.size) r
def re : Nat → Fo → Fo
 | _,.nil => .nil
 | n,.cons _ c r => .cons n (re (n + 1) c) (re (n + 1 + c.size) r)
inductive D (K : Nat → List Int) : List Bool → Nat → Nat → Fo → List Bool → Prop
  | done {s i j} (h : ¬ j < (K i).length) : D K s i j .nil s
  | bad {s i j f s'} (h : j < (K i).length) (hk : okK s ((K i).getD j 0) = false) (d : D K s i (j + 1) f s') : D K s i j f s'
  | ok {s i j f r s1 s'} (h : j < (K i).length) (hk : okK s ((K i).getD j 0) = true) (d1 : D K (s.set ((K i).getD j 0).toNat true) ((K i).getD j 0).toNat 0 f s1) (d2 : D K s1 i (j + 1) r s') :
      D K s i j (.cons ((K i).getD j 0).toNat f r) s'
def evF : Nat → Fo → Nat → List Ev
 | i,.nil,c => [(i,0,c,true)]
 | i,.cons a f r,c => (a,(i : Int),c,false) :: (evF a f (c + 1) ++ evF i r (c + 2 + 2 * f.size))
variable {K : Nat → List Int}
theorem zRA {s i j f s'} (d : D K s i j f s') : ∀ c,dfs K s i j c = (evF i f c,s',c + 1 + 2 * f.size) := by
 induction d with
 | done h => intro c;rw [qpD h];rfl
 | bad h hk d ih => intro c;rw [qpG h hk];exact ih c
 | @ok s i j f r s1 s' h hk d1 d2 ih1 ih2 =>
  intro c
  rw [qr0 h hk,ih1]
  dsimp only
  rw [ih2,show c + 1 + 1 + 2 * f.size = c + 2 + 2 * f.size by omega]
  simp only [evF,Fo.size]
  rw [show c + 2 + 2 * f.size + 1 + 2 * r.size = c + 1 + 2 * (1 + f.size + r.size) by omega]
theorem D_ex : ∀ (s : List Bool) (i j : Nat),∃ f s',D K s i j f s' := by
 intro s i j
 refine qtP (K := K) (P := fun s i j _ => ∃ f s',D K s i j f s') ?_ ?_ ?_ s i j 0
 ·intro s i j c h;exact ⟨_,_,.done h⟩
 ·rintro s i j c h hk ⟨f,s',d⟩;exact ⟨_,_,.bad h hk d⟩
 ·rintro s i j c h hk ⟨f,s1,d1⟩ ⟨r,s',d2⟩
  rw [zRA d1] at d2
  exact ⟨_,_,.ok h hk d1 d2⟩
theorem qoQ (s : List Bool) (k q : Nat) : (s.set k true).getD q true = (s.getD q true || decide (q = k)) := by
 rw [List.getD_eq_getElem?_getD,List.getElem?_set,List.getD_eq_getElem?_getD]
 by_cases h : k = q
 ·subst h
  rw [if_pos rfl,decide_eq_true rfl,Bool.or_true]
  split <;> rfl
 ·rw [if_neg h,decide_eq_false (fun e => h e.symm),Bool.or_false]
theorem zQU {s i j f s'} (d : D K s i j f s') : s'.length = s.length ∧ f.lab.Nodup ∧ (∀ a ∈ f.lab,s.getD a true = false) ∧ ∀ q,s'.getD q true = (s.getD q true || decide (q ∈ f.lab)) := by
 induction d with
 | done h => exact ⟨rfl,List.nodup_nil,fun a ha => (by cases ha),fun q => by simp [Fo.lab]⟩
 | bad h hk d ih => exact ih
 | @ok s i j f r s1 s' h hk d1 d2 ih1 ih2 =>
  obtain ⟨l1,n1,u1,q1⟩ := ih1
  obtain ⟨l2,n2,u2,q2⟩ := ih2
  have hk2 := qnL hk
  have hks : s.getD ((K i).getD j 0).toNat true = false := by rw [List.getD_eq_getElem?_getD,hk2.2.2];rfl
  generalize ((K i).getD j 0).toNat = k at *
  have a1 : ∀ a ∈ f.lab,s.getD a true = false ∧ a ≠ k := fun a ha => by
   have := u1 a ha
   rw [qoQ,Bool.or_eq_false_iff,decide_eq_false_iff_not] at this
   exact this
  have a2 : ∀ a ∈ r.lab,s.getD a true = false ∧ a ≠ k ∧ a ∉ f.lab := fun a ha => by
   have := u2 a ha
   rw [q1,qoQ] at this
   simp only [Bool.or_eq_false_iff,decide_eq_false_iff_not] at this
   exact ⟨this.1.1,this.1.2,this.2⟩
  refine ⟨by rw [l2,l1,List.length_set],?_,?_,fun q => ?_⟩
  ·simp only [Fo.lab,List.nodup_cons,List.mem_append,List.nodup_append]
   exact ⟨fun h => h.elim (fun h => (a1 k h).2 rfl) (fun h => (a2 k h).2.1 rfl),n1,n2,fun a ha b hb e => (a2 b hb).2.2 (e ▸ ha)⟩
  ·intro a ha
   simp only [Fo.lab,List.mem_cons,List.mem_append] at ha
   rcases ha with rfl | ha | ha
   ·exact hks
   ·exact (a1 a ha).1
   ·exact (a2 a ha).1
  ·rw [q2,q1,qoQ]
   simp only [Fo.lab,List.mem_cons,List.mem_append,Bool.decide_or,Bool.or_assoc]
def Kin (K : Nat → List Int) : Nat → Fo → Prop
 | _,.nil => True
 | i,.cons a c r => (a : Int) ∈ K i ∧ Kin K a c ∧ Kin K i r
theorem zW1 {s i j f s'} (d : D K s i j f s') : Kin K i f := by
 induction d with
 | done h => exact True.intro
 | bad h hk d ih => exact ih
 | @ok s i j f r s1 s' h hk d1 d2 ih1 ih2 =>
  refine ⟨?_,ih1,ih2⟩
  rw [Int.toNat_of_nonneg (qnL hk).1,List.getD_eq_getElem?_getD,List.getElem?_eq_getElem h]
  exact List.getElem_mem _
def qn6 (t : List ql4) : Fo → List ql4 → Nat → List ql4
 | .nil,out,_ => out
 | .cons a c r,out,p => qn6 t r (qn6 t c (qmM out p out.length ++ [mkN (t.getD a ql2.dflt) p]) out.length) p
theorem D_pS {s i j f s'} (d : D K s i j f s') (t : List ql4) : ∀ (out : List ql4) (p : Nat),pS t K out s p i j = qn6 t f out p ∧ sS K s i j = s' := by
 induction d with
 | done h => intro out p;exact zH5 h
 | bad h hk d ih => intro out p;obtain ⟨e1,e2⟩ := zHZ (t := t) (out := out) (p := p) h hk;rw [e1,e2];exact ih out p
 | @ok s i j f r s1 s' h hk d1 d2 ih1 ih2 =>
  intro out p
  obtain ⟨e1,e2⟩ := zNP (t := t) (out := out) (p := p) h hk
  rw [e1,e2]
  have hS : zFN K s ((K i).getD j 0).toNat = s1 := (ih1 [] 0).2
  have hO : qwO t K (qmM out p out.length) s ((K i).getD j 0).toNat p = qn6 t f (qmM out p out.length ++ [mkN (t.getD ((K i).getD j 0).toNat ql2.dflt) p]) out.length := by
   unfold qwO
   rw [qmV]
   exact (ih1 _ _).1
  rw [hS,hO]
  exact ih2 _ _
def qwV (n : ql4) (ks : List Int) : ql4 := (n.1,n.2.1,n.2.2.1,n.2.2.2.1,n.2.2.2.2.1,n.2.2.2.2.2.1,ks)
def Lay (t u : List ql4) : Fo → Nat → Nat → Prop
 | .nil,_,_ => True
 | .cons a c r,n,p => u.getD n ql2.dflt = qwV (mkN (t.getD a ql2.dflt) p) (qq5 (n + 1) c) ∧ Lay t u c (n + 1) n ∧ Lay t u r (n + 1 + c.size) p
theorem zIA {t u u' : List ql4} : ∀ (f : Fo) (n p : Nat),(∀ q,n ≤ q → q < n + f.size → u'.getD q ql2.dflt = u.getD q ql2.dflt) → Lay t u f n p → Lay t u' f n p := by
 intro f
 induction f with
 | nil => intro n p _ _;exact True.intro
 | cons a c r ic ir =>
  intro n p h hl
  simp only [Fo.size] at h
  obtain ⟨h1,h2,h3⟩ := hl
  refine ⟨?_,ic _ _ (fun q q1 q2 => h q (by omega) (by omega)) h2,ir _ _ (fun q q1 q2 => h q (by omega) (by omega)) h3⟩
  rw [h n (Nat.le_refl _) (by omega),h1]
theorem qv5 (t : List ql4) : ∀ (f : Fo) (out : List ql4) (p : Nat),(qn6 t f out p).length = out.length + f.size := by
 intro f
 induction f with
 | nil => intro out p;rfl
 | cons a c r ic ir =>
  intro out p
  simp only [qn6,Fo.size]
  rw [ir,ic,List.length_append,qmV,List.length_singleton];omega
theorem zLG (o : List ql4) (p : Nat) (k : Int) (h : p < o.length) : (qmM o p k).getD p ql2.dflt = zM1 (o.getD p ql2.dflt) k := by
 unfold qmM
 rw [List.getD_eq_getElem?_getD,List.getElem?_set,if_pos rfl,if_pos h];rfl
theorem zKV (o : List ql4) (p q : Nat) (k : Int) (h : q ≠ p) : (qmM o p k).getD q ql2.dflt = o.getD q ql2.dflt := by
 unfold qmM
 rw [List.getD_eq_getElem?_getD,List.getElem?_set,if_neg (fun e => h e.symm),List.getD_eq_getElem?_getD]
theorem zMN (o : List ql4) (x : ql4) (q : Nat) (h : q < o.length) : (o ++ [x]).getD q ql2.dflt = o.getD q ql2.dflt := by
 rw [List.getD_eq_getElem?_getD,List.getElem?_append_left h, ← List.getD_eq_getElem?_getD]
theorem zKB (o : List ql4) (x : ql4) : (o ++ [x]).getD o.length ql2.dflt = x := by
 rw [List.getD_eq_getElem?_getD,List.getElem?_append_right (Nat.le_refl _),Nat.sub_self];rfl
theorem zFW (t : List ql4) : ∀ (f : Fo) (out : List ql4) (p : Nat),p < out.length →
  (∀ q,q < out.length → q ≠ p → (qn6 t f out p).getD q ql2.dflt = out.getD q ql2.dflt) ∧
  (qn6 t f out p).getD p ql2.dflt = qwV (out.getD p ql2.dflt) ((out.getD p ql2.dflt).kids ++ qq5 out.length f) ∧
  Lay t (qn6 t f out p) f out.length p := by
 intro f
 induction f with
 | nil =>
  intro out p hp
  refine ⟨fun q _ _ => rfl,?_,True.intro⟩
  show out.getD p ql2.dflt = _
  rw [qq5,List.append_nil];rfl
 | cons a c r ic ir =>
  intro out p hp
  have hl1 : (qmM out p out.length ++ [mkN (t.getD a ql2.dflt) p]).length = out.length + 1 := by rw [List.length_append,qmV];rfl
  obtain ⟨b1,b2,b3⟩ := ic (qmM out p out.length ++ [mkN (t.getD a ql2.dflt) p]) out.length (by omega)
  have hl2 := qv5 t c (qmM out p out.length ++ [mkN (t.getD a ql2.dflt) p]) out.length
  rw [hl1] at b1 b2 b3 hl2
  have hL : (qmM out p out.length ++ [mkN (t.getD a ql2.dflt) p]).getD out.length ql2.dflt = mkN (t.getD a ql2.dflt) p := by
   have := zKB (qmM out p out.length) (mkN (t.getD a ql2.dflt) p)
   rw [qmV] at this;exact this
  rw [hL] at b2
  have b2' : (qn6 t c (qmM out p out.length ++ [mkN (t.getD a ql2.dflt) p]) out.length).getD out.length ql2.dflt = qwV (mkN (t.getD a ql2.dflt) p) (qq5 (out.length + 1) c) := b2
  have hq : ∀ q,q < out.length → (qn6 t c (qmM out p out.length ++ [mkN (t.getD a ql2.dflt) p]) out.length).getD q ql2.dflt = (qmM out p out.length).getD q ql2.dflt := fun q hq => by
   rw [b1 q (by omega) (by omega),zMN _ _ _ (by rw [qmV];exact hq)]
  obtain ⟨c1,c2,c3⟩ := ir (qn6 t c (qmM out p out.length ++ [mkN (t.getD a ql2.dflt) p]) out.length) p (by omega)
  rw [hl2] at c1 c2 c3
  show (∀ q,_ → _ → (qn6 t r (qn6 t c (qmM out p out.length ++ [mkN (t.getD a ql2.dflt) p]) out.length) p).getD q _ = _) ∧ (qn6 t r (qn6 t c (qmM out p out.length ++ [mkN (t.getD a ql2.dflt) p]) out.length) p).getD p _ = _ ∧ Lay t (qn6 t r (qn6 t c (qmM out p out.length ++ [mkN (t.getD a ql2.dflt) p]) out.length) p) _ _ _
  refine ⟨fun q h1 h2 => ?_,?_,?_,?_,c3⟩
  ·rw [c1 q (by omega) h2,hq q h1,zKV _ _ _ _ h2]
  ·rw [c2,hq p hp,zLG _ _ _ hp]
   simp only [qq5]
   show qwV _ ((_ ++ [(out.length : Int)]) ++ _) = qwV _ _
   rw [List.append_assoc];rfl
  ·rw [c1 _ (by omega) (by omega),b2']
  ·exact zIA c _ _ (fun q q1 q2 => c1 q (by omega) (by omega)) b3
theorem zU2 {t u : List ql4} : ∀ (f : Fo) (n p j : Nat) (s : List Bool),Lay t u f n p → s.length = u.length → n + f.size ≤ u.length → ((u.getD p ql2.dflt).kids).drop j = qq5 n f → (∀ q,n ≤ q → q < n + f.size → s.getD q true = false) →
  ∃ s',D (fun i => (u.getD i ql2.dflt).kids) s p j (re n f) s' ∧ s'.length = s.length ∧ ∀ q,(q < n ∨ n + f.size ≤ q) → s'.getD q true = s.getD q true := by
 intro f
 induction f with
 | nil =>
  intro n p j s _ hs hn hd hu
  refine ⟨s,.done ?_,rfl,fun q _ => rfl⟩
  show ¬ j < ((u.getD p ql2.dflt).kids).length
  have := congrArg List.length hd
  rw [List.length_drop] at this
  simp only [qq5,List.length_nil] at this
  omega
 | cons a c r ic ir =>
  intro n p j s hl hs hn hd hu
  obtain ⟨h1,h2,h3⟩ := hl
  simp only [Fo.size] at hn hu
  have hj : j < ((u.getD p ql2.dflt).kids).length := by
   have := congrArg List.length hd
   rw [List.length_drop] at this
   simp only [qq5,List.length_cons] at this
   omega
  have hdc := List.drop_eq_getElem_cons hj
  rw [hd] at hdc
  simp only [qq5,List.cons.injEq] at hdc
  have hg : ((u.getD p ql2.dflt).kids).getD j 0 = (n : Int) := by rw [List.getD_eq_getElem?_getD,List.getElem?_eq_getElem hj];exact hdc.1.symm
  have hok : okK s (((u.getD p ql2.dflt).kids).getD j 0) = true := by
   rw [hg];unfold okK
   rw [decide_eq_true (by omega),Int.toNat_natCast,hu n (Nat.le_refl _) (by omega)];rfl
  have hkn : (u.getD n ql2.dflt).kids = qq5 (n + 1) c := by rw [h1];rfl
  obtain ⟨s1,d1,l1,q1⟩ := ic (n + 1) n 0 (s.set n true) h2 (by rw [List.length_set];exact hs) (by omega) (by rw [hkn];rfl) (fun q a1 a2 => by
   rw [qoQ,hu q (by omega) (by omega),decide_eq_false (by omega)];rfl)
  have hs1 : ∀ q,n + 1 + c.size ≤ q → s1.getD q true = s.getD q true := fun q hq => by
   rw [q1 q (.inr hq),qoQ,decide_eq_false (by omega),Bool.or_false]
  obtain ⟨s',d2,l2,q2⟩ := ir (n + 1 + c.size) p (j + 1) s1 h3 (by rw [l1,List.length_set];exact hs) (by omega) hdc.2.symm (fun q a1 a2 => by
   rw [hs1 q a1];exact hu q (by omega) (by omega))
  refine ⟨s',?_,by rw [l2,l1,List.length_set],fun q hq => ?_⟩
  ·have d := D.ok (K := fun i => (u.getD i ql2.dflt).kids) (i := p) (j := j) hj hok (by rw [hg,Int.toNat_natCast];exact d1) d2
   have he : (((u.getD p ql2.dflt).kids).getD j 0).toNat = n := by rw [hg];rfl
   have e2 : re n (Fo.cons a c r) = Fo.cons ((((fun i => (u.getD i ql2.dflt).kids) p).getD j 0).toNat) (re (n + 1) c) (re (n + 1 + c.size) r) := by rw [show (((fun i => (u.getD i ql2.dflt).kids) p).getD j 0).toNat = n from he];rfl
   rw [e2]
   exact d
  ·simp only [Fo.size] at hq
   rw [q2 q (by omega)]
   rcases hq with hq | hq
   ·rw [q1 q (.inl (by omega)),qoQ,decide_eq_false (by omega),Bool.or_false]
   ·exact hs1 q (by omega)
theorem zON {t u : List ql4} : ∀ (f : Fo) (n p0 : Nat) (out : List ql4) (p : Nat),Lay t u f n p0 → out.length = n → qn6 u (re n f) out p = qn6 t f out p := by
 intro f
 induction f with
 | nil => intro n p0 out p _ _;rfl
 | cons a c r ic ir =>
  intro n p0 out p hl hn
  obtain ⟨h1,h2,h3⟩ := hl
  have e1 : mkN (u.getD n ql2.dflt) p = mkN (t.getD a ql2.dflt) p := by rw [h1];rfl
  have hl1 : (qmM out p out.length ++ [mkN (t.getD a ql2.dflt) p]).length = n + 1 := by rw [List.length_append,qmV,hn];rfl
  show qn6 u (re (n + 1 + c.size) r) (qn6 u (re (n + 1) c) (qmM out p out.length ++ [mkN (u.getD n ql2.dflt) p]) out.length) p = qn6 t r (qn6 t c (qmM out p out.length ++ [mkN (t.getD a ql2.dflt) p]) out.length) p
  rw [e1,ic (n + 1) n _ _ h2 hl1]
  exact ir _ p0 _ _ h3 (by rw [qv5,hl1])
end Go.Vc

namespace Go.Vc
open Go.Proofs
set_option autoImplicit false
structure Laid (t u : List ql4) (f : Fo) : Prop where
 len : u.length = 1 + f.size
 kids : (u.getD 0 ql2.dflt).kids = qq5 1 f
 up : (u.getD 0 ql2.dflt).up = -1
 lay : Lay t u f 1 0
theorem qvO (t : List ql4) (f : Fo) (x : ql4) (hk : x.kids = []) (hu : x.up = -1) : Laid t (qn6 t f [x] 0) f ∧ (qn6 t f [x] 0).getD 0 ql2.dflt = qwV x (qq5 1 f) := by
 obtain ⟨h1,h2,h3⟩ := zFW t f [x] 0 (by simp)
 have h2' : (qn6 t f [x] 0).getD 0 ql2.dflt = qwV x (qq5 1 f) := by
  rw [h2]
  show qwV x (x.kids ++ qq5 1 f) = _
  rw [hk];rfl
 refine ⟨⟨by rw [qv5];rfl,by rw [h2'];rfl,by rw [h2'];exact hu,h3⟩,h2'⟩
def s0 (n : Nat) : List Bool := (List.replicate n false).set 0 true
theorem zNA {K : Nat → List Int} {s s' : List Bool} {k : Nat} {f : Fo} (t : List ql4) (d : D K (s.set k true) k 0 f s') (up : Int) : qwO t K [] s k up = qn6 t f [mkN (t.getD k ql2.dflt) up] 0 := (D_pS d t _ _).1
theorem qvV {t : List ql4} (h : t ≠ []) : ∃ f s',D (ql6 t) (s0 t.length) 0 0 f s' ∧ qm5 t = qn6 t f [mkN (t.getD 0 ql2.dflt) (-1)] 0 := by
 obtain ⟨f,s',d⟩ := D_ex (K := ql6 t) (s0 t.length) 0 0
 refine ⟨f,s',d,?_⟩
 unfold qm5
 rw [if_neg h]
 exact zNA t d (-1)
theorem zIR (n q : Nat) : (List.replicate n false).getD q true = decide (n ≤ q) := by
 rw [List.getD_eq_getElem?_getD,List.getElem?_replicate]
 by_cases h : q < n
 ·rw [if_pos h,decide_eq_false (by omega)];rfl
 ·rw [if_neg h,decide_eq_true (by omega)];rfl
theorem zP4 (n q : Nat) : (s0 n).getD q true = (decide (n ≤ q) || decide (q = 0)) := by
 unfold s0;rw [qoQ,zIR]
theorem zLM {t u : List ql4} {g : Fo} {k : Nat} (hl : Lay t u g (k + 1) k) (hk : (u.getD k ql2.dflt).kids = qq5 (k + 1) g) (hn : k + 1 + g.size ≤ u.length) :
  ∃ s',D (ql6 u) ((List.replicate u.length false).set k true) k 0 (re (k + 1) g) s' := by
 obtain ⟨s',d,_⟩ := zU2 g (k + 1) k 0 ((List.replicate u.length false).set k true) hl (by simp) hn (by rw [hk];rfl) (fun q h1 h2 => by
  rw [qoQ,zIR,decide_eq_false (by omega),decide_eq_false (by omega)];rfl)
 exact ⟨s',d⟩
theorem zQN {t u : List ql4} {f : Fo} (h : Laid t u f) : ∃ s',D (ql6 u) (s0 u.length) 0 0 (re 1 f) s' := zLM (k := 0) h.lay h.kids (by rw [h.len];omega)
theorem zN6 {t u : List ql4} {f : Fo} (h : Laid t u f) : u ≠ [] := fun e => by have := h.len;rw [e] at this;simp at this;omega
theorem zBT {t u : List ql4} {f : Fo} (h : Laid t u f) : qm5 u = qn6 t f [mkN (u.getD 0 ql2.dflt) (-1)] 0 := by
 obtain ⟨s',d⟩ := zQN h
 unfold qm5
 rw [if_neg (zN6 h)]
 rw [zNA u d (-1)]
 exact zON f 1 0 _ 0 h.lay rfl
theorem zIN (t : List ql4) : qm5 (qm5 t) = qm5 t := by
 by_cases h : t = []
 ·have e : qm5 t = [qqZ] := by unfold qm5;rw [if_pos h]
  rw [e]
  have hl : Laid [] [qqZ] .nil := ⟨rfl,rfl,rfl,True.intro⟩
  rw [zBT hl];rfl
 ·obtain ⟨f,s',d,e⟩ := qvV h
  obtain ⟨hl,h0⟩ := qvO t f (mkN (t.getD 0 ql2.dflt) (-1)) rfl rfl
  rw [e,zBT hl,h0];rfl
theorem zLA {t u : List ql4} : ∀ (f : Fo) (n p : Nat),Lay t u f n p → ∀ k ∈ qq5 n f,∃ q : Nat,k = (q : Int) ∧ n ≤ q ∧ q < n + f.size ∧ (u.getD q ql2.dflt).up = (p : Int) := by
 intro f
 induction f with
 | nil => intro n p _ k hk;cases hk
 | cons a c r ic ir =>
  intro n p hl k hk
  obtain ⟨h1,h2,h3⟩ := hl
  simp only [qq5,List.mem_cons] at hk
  simp only [Fo.size]
  rcases hk with rfl | hk
  ·exact ⟨n,rfl,Nat.le_refl _,by omega,by rw [h1];rfl⟩
  ·obtain ⟨q,e,a1,a2,a3⟩ := ir _ _ h3 k hk
   exact ⟨q,e,by omega,by omega,a3⟩
theorem zOI : ∀ (f : Fo) (n : Nat),∀ k ∈ qq5 n f,(n : Int) ≤ k := by
 intro f
 induction f with
 | nil => intro n k hk;cases hk
 | cons a c r ic ir =>
  intro n k hk
  simp only [qq5,List.mem_cons] at hk
  rcases hk with rfl | hk
  ·omega
  ·have := ir _ k hk;omega
theorem qxB : ∀ (f : Fo) (n : Nat),(qq5 n f).Nodup := by
 intro f
 induction f with
 | nil => intro n;exact List.nodup_nil
 | cons a c r ic ir =>
  intro n
  simp only [qq5,List.nodup_cons]
  exact ⟨fun h => by have := zOI r _ _ h;omega,ir _⟩
theorem zIE {l : List Int} (h : l.Nodup) (a : Int) : l.count a ≤ 1 := by
 induction l with
 | nil => simp
 | cons x l ih =>
  obtain ⟨h1,h2⟩ := List.nodup_cons.1 h
  rw [List.count_cons]
  by_cases e : x = a
  ·subst e
   rw [List.count_eq_zero.2 h1];simp
  ·have := ih h2
   rw [if_neg (by simpa using e)];omega
theorem zE1 : ∀ (f : Fo) (n : Nat),(qq5 n f).length ≤ f.size := by
 intro f
 induction f with
 | nil => intro n;exact Nat.le_refl _
 | cons a c r ic ir =>
  intro n
  have := ir (n + 1 + c.size)
  simp only [qq5,List.length_cons,Fo.size];omega
def Kd (t : List ql4) : Fo → Prop
 | .nil => True
 | .cons a c r => (1 ≤ (t.getD a ql2.dflt).1 ∧ (t.getD a ql2.dflt).1 ≤ 4) ∧ (c ≠ .nil → (t.getD a ql2.dflt).1 ≤ 1) ∧ Kd t c ∧ Kd t r
theorem zMF {n : Nat} {f : Fo} : qq5 n f ≠ [] → f ≠ .nil := fun h e => h (by rw [e];rfl)
theorem zMC {t u : List ql4} : ∀ (f : Fo) (n p : Nat),Lay t u f n p → Kd t f → p < n → ∀ q,n ≤ q → q < n + f.size →
  ∃ a w c,u.getD q ql2.dflt = qwV (mkN (t.getD a ql2.dflt) (w : Nat)) (qq5 (q + 1) c) ∧ a ∈ f.lab ∧ Lay t u c (q + 1) q ∧ q + 1 + c.size ≤ n + f.size ∧ w < q ∧ (1 ≤ (t.getD a ql2.dflt).1 ∧ (t.getD a ql2.dflt).1 ≤ 4) ∧
   ((w = p ∧ (q : Int) ∈ qq5 n f) ∨ (n ≤ w ∧ (u.getD w ql2.dflt).1 ≤ 1 ∧ (q : Int) ∈ (u.getD w ql2.dflt).kids ∧ (u.getD w ql2.dflt).kids.Nodup)) := by
 intro f
 induction f with
 | nil => intro n p _ _ _ q h1 h2;simp only [Fo.size] at h2;omega
 | cons a c r ic ir =>
  intro n p hl hk hp q h1 h2
  obtain ⟨l1,l2,l3⟩ := hl
  obtain ⟨k1,k2,k3,k4⟩ := hk
  simp only [Fo.size] at h2
  by_cases e : q = n
  ·subst e
   exact ⟨a,p,c,l1,by simp [Fo.lab],l2,by simp only [Fo.size];omega,hp,k1,.inl ⟨rfl,by simp [qq5]⟩⟩
  ·by_cases h3 : q < n + 1 + c.size
   ·obtain ⟨a',w,c',e1,e2,e3,e4,e5,e6,e7⟩ := ic (n + 1) n l2 k3 (by omega) q (by omega) (by omega)
    refine ⟨a',w,c',e1,by simp [Fo.lab,e2],e3,by simp only [Fo.size];omega,e5,e6,?_⟩
    rcases e7 with ⟨rfl,e7⟩ | ⟨e7,e8⟩
    ·refine .inr ⟨Nat.le_refl _,?_,?_,?_⟩
     ·rw [l1]
      exact k2 (zMF (n := w + 1) (List.ne_nil_of_mem e7))
     ·rw [l1];exact e7
     ·rw [l1];exact qxB _ _
    ·exact .inr ⟨by omega,e8⟩
   ·obtain ⟨a',w,c',e1,e2,e3,e4,e5,e6,e7⟩ := ir (n + 1 + c.size) p l3 k4 (by omega) q (by omega) (by omega)
    refine ⟨a',w,c',e1,by simp [Fo.lab,e2],e3,by simp only [Fo.size];omega,e5,e6,?_⟩
    rcases e7 with ⟨rfl,e7⟩ | ⟨e7,e8⟩
    ·exact .inl ⟨rfl,by simp [qq5,e7]⟩
    ·exact .inr ⟨by omega,e8⟩
theorem zGZ {t u : List ql4} {f : Fo} (h : Laid t u f) (h0 : (u.getD 0 ql2.dflt).1 = 0) (hk : Kd t f) : qo1 u = true := by
 have hlen := h.len
 have node := zMC f 1 0 h.lay hk (by omega)
 have kidsOk : ∀ {c : Fo} {q : Nat},Lay t u c (q + 1) q → q + 1 + c.size ≤ u.length → (qq5 (q + 1) c).all (fun k => !zHD u q k) = true := fun {c q} hl hs => by
  rw [List.all_eq_true]
  intro k hk'
  obtain ⟨q',e1,e2,e3,e4⟩ := zLA c _ _ hl k hk'
  unfold zHD
  have e5 : (nd u k).up = (q : Int) := by rw [e1];exact e4
  rw [decide_eq_false (by omega),decide_eq_false (by omega),e5]
  simp
 have hok : ∀ q,q < u.length → okN u q = true ∧ ((u.getD q ql2.dflt).up = -1 ∨ ∃ w : Nat,w < q ∧ (u.getD q ql2.dflt).up = (w : Int)) := fun q hq => by
  by_cases e : q = 0
  ·subst e
   refine ⟨?_,.inl h.up⟩
   unfold okN
   have hA : zMG u 0 = false := rfl
   have hB : zNT u 0 = false := by
    unfold zNT
    rw [decide_eq_false (show ¬ (ndR u 0).up ≥ 0 by show ¬ (u.getD 0 ql2.dflt).up ≥ 0;rw [h.up];omega)];rfl
   have hK : (ndR u 0).kids = qq5 1 f := h.kids
   rw [hA,hB,hK,kidsOk (q := 0) h.lay (by omega)];rfl
  ·obtain ⟨a,w,c,e1,e2,e3,e4,e5,e6,e7⟩ := node q (by omega) (by omega)
   have hup : (u.getD q ql2.dflt).up = (w : Int) := by rw [e1];rfl
   have hkind : (u.getD q ql2.dflt).1 = (t.getD a ql2.dflt).1 := by rw [e1];rfl
   refine ⟨?_,.inr ⟨w,e5,hup⟩⟩
   unfold okN
   have hA : zMG u q = false := by
    unfold zMG
    show (decide ((q : Int) > 0) && (decide ((u.getD q ql2.dflt).1 < 1) || decide ((u.getD q ql2.dflt).1 > 4) || decide ((u.getD q ql2.dflt).up < -1) || decide ((u.getD q ql2.dflt).up ≥ (u.length : Int)))) = false
    have a3 : decide ((w : Int) < -1) = false := decide_eq_false (by omega)
    have a4 : decide ((w : Int) ≥ (u.length : Int)) = false := decide_eq_false (by omega)
    rw [hup,hkind,decide_eq_false (Int.not_lt.2 e6.1),decide_eq_false (Int.not_lt.2 e6.2),a3,a4]
    simp
   have hw : (nd u (ndR u q).up) = u.getD w ql2.dflt := by
    show u.getD ((u.getD q ql2.dflt).up).toNat ql2.dflt = _
    rw [hup,Int.toNat_natCast]
   have hB : zNT u q = false := by
    unfold zNT
    rw [hw]
    have hc : ∀ {l : List Int},(q : Int) ∈ l → l.Nodup → ((l.count (q : Int) : Nat) : Int) = 1 := fun {l} h1 h2 => by
     have c1 := zIE h2 (q : Int);have c2 := List.count_pos_iff.2 h1;omega
    rcases e7 with ⟨rfl,e7⟩ | ⟨e7,e8,e9,e10⟩
    ·rw [h0,h.kids,hc e7 (qxB _ _)];simp
    ·rw [hc e9 e10,decide_eq_false (Int.not_lt.2 e8)];simp
   have hK : (ndR u q).kids = qq5 (q + 1) c := by show (u.getD q ql2.dflt).kids = _;rw [e1];rfl
   rw [hA,hB,hK,kidsOk e3 (by omega)];rfl
 have hheld : ∀ m q,q < m → q < u.length → qsC u (q + 1) (q : Int) = true := by
  intro m
  induction m with
  | zero => intro q hq;omega
  | succ m ih =>
   intro q hq hql
   rw [qsC]
   have hn : nd u (q : Int) = u.getD q ql2.dflt := rfl
   rw [hn]
   rcases (hok q hql).2 with e | ⟨w,hw,e⟩
   ·rw [e];rfl
   ·rw [e,beq_eq_false_iff_ne.2 (by omega)]
    exact qp4 (ih w (by omega) (by omega)) _ (by omega)
 have hb : badR u = false := by
  unfold badR
  have e1 : (nd u 0).1 = 0 := h0
  have e2 : (nd u 0).up = -1 := h.up
  rw [e1,e2,beq_eq_false_iff_ne.2 (show (u.length : Int) ≠ 0 by omega)];rfl
 unfold qo1
 rw [hb,qo6 _ _ (fun k hk => (hok k hk).1),qo6 _ _ (fun k hk => qp4 (hheld (k + 1) k (by omega) hk) _ (by omega))]
 rfl
end Go.Vc

namespace Go.Vc
set_option autoImplicit false
def sI (I : List Int) : List Bool := I.map fun v => decide (0 ≤ v)
def dR (K : Nat → List Int) (x : St) (i j : Nat) : St := x.run (dfs K (sI x.I) i j x.m).1
variable {K : Nat → List Int}
def StE (x y : St) : Prop := x.L = y.L ∧ x.I = y.I ∧ x.O = y.O ∧ x.m = y.m
theorem StE.step {x y : St} (h : StE x y) {e e' : Ev} (h1 : e.1 = e'.1) (h2 : e.2.2.2 = e'.2.2.2) : StE (x.step e) (y.step e') := by
 obtain ⟨a,b,c,d⟩ := h
 unfold St.step
 rw [← h2]
 split
 ·exact ⟨a,b,by dsimp only;rw [c,d,h1],by dsimp only;rw [d]⟩
 ·exact ⟨by dsimp only;rw [a,h1],by dsimp only;rw [b,d,h1],c,by dsimp only;rw [d]⟩
theorem StE.run : ∀ {l : List Ev} {x y : St},StE x y → StE (x.run l) (y.run l) := by
 intro l
 induction l with
 | nil => intro x y h;exact h
 | cons e l ih => intro x y h;exact ih (h.step rfl rfl)
theorem StE.dR {x y : St} (h : StE x y) (i j : Nat) : StE (dR K x i j) (dR K y i j) := by
 unfold Go.Vc.dR
 rw [← h.2.1, ← h.2.2.2]
 exact h.run
end Go.Vc

namespace Go.Vc
open Go.Proofs
set_option maxRecDepth 10000
set_option maxHeartbeats 4000000
def zQ5 (l : List ql4) : List ql4 := l.set 0 (0,0,[],[],[], -1,(l.getD 0 ql2.dflt).kids)
def zLD (x : List ql4) (k : Nat) : List ql4 := zQ5 (qwO x (ql6 x) [] (List.replicate x.length false) k (-1))
def qwZ (l : List Int) (i : Int) : Option Nat := (List.range l.length).find? fun k => l.getD k 0 == i
def zKN (t : List ql4) (i : Int) : List ql4 := match qwZ (qzJ (fin t).L) i with | some k => zLD (qm5 t) k | none => [qqZ]
def zE2 (t : List ql4) : Prop := qmZ t = true ∧ t.length ≤ 45 ∧ qmZ (qm5 t) = true ∧ (fin t).L.length ≤ (qm5 t).length ∧ (qm5 t).length ≤ 1000
end Go.Vc

namespace Go.Vc
open Go.Proofs
set_option autoImplicit false
theorem qx5 {t : List ql4} (h : qo1 t = true) : 0 < t.length ∧ (nd t 0).1 = 0 ∧ (nd t 0).up = -1 ∧ ∀ i,i < t.length → okN t i = true := by
 unfold qo1 at h
 simp only [Bool.and_eq_true,Bool.not_eq_true',List.all_eq_true,List.mem_range] at h
 have hb := h.1
 unfold badR at hb
 simp only [Bool.or_eq_false_iff,bne_eq_false_iff_eq,beq_eq_false_iff_ne] at hb
 exact ⟨by have := hb.1.1;omega,hb.1.2,hb.2,h.2.1⟩
theorem zHN {t : List ql4} (h : qo1 t = true) {i a : Nat} (hi : i < t.length) (ha : (a : Int) ∈ ql6 t i) : a < t.length ∧ (t.getD a ql2.dflt).up = (i : Int) := by
 have ho := (qx5 h).2.2.2 i hi
 unfold okN at ho
 simp only [Bool.and_eq_true,List.all_eq_true] at ho
 have := ho.2 a ha
 unfold zHD at this
 simp only [Bool.not_eq_true',Bool.or_eq_false_iff,decide_eq_false_iff_not,bne_eq_false_iff_eq] at this
 exact ⟨by have := this.1.2;omega,this.2⟩
theorem zDV {t : List ql4} (h : qo1 t = true) {a : Nat} (ha : a < t.length) (h0 : a ≠ 0) : (1 ≤ (t.getD a ql2.dflt).1 ∧ (t.getD a ql2.dflt).1 ≤ 4) ∧ ∀ i : Nat,(t.getD a ql2.dflt).up = (i : Int) → (t.getD i ql2.dflt).1 ≤ 1 := by
 have ho := (qx5 h).2.2.2 a ha
 unfold okN at ho
 simp only [Bool.and_eq_true,Bool.not_eq_true'] at ho
 have hA := ho.1.1
 have hB := ho.1.2
 unfold zMG at hA
 unfold zNT at hB
 rw [decide_eq_true (show (a : Int) > 0 by omega),Bool.true_and] at hA
 simp only [Bool.or_eq_false_iff,decide_eq_false_iff_not] at hA
 refine ⟨⟨Int.not_lt.1 hA.1.1.1,Int.not_lt.1 hA.1.1.2⟩,fun i hi => ?_⟩
 have e : (ndR t a).up = (i : Int) := hi
 rw [e,decide_eq_true (show (i : Int) ≥ 0 by omega),Bool.true_and] at hB
 simp only [Bool.or_eq_false_iff,decide_eq_false_iff_not] at hB
 exact Int.not_lt.1 hB.1
theorem zK6 {t : List ql4} (h : qo1 t = true) : ∀ (f : Fo) (i : Nat),Kin (ql6 t) i f → (∀ a ∈ f.lab,a < t.length ∧ a ≠ 0) → i < t.length → (f ≠ .nil → (t.getD i ql2.dflt).1 ≤ 1) ∧ Kd t f := by
 intro f
 induction f with
 | nil => intro i _ _ _;exact ⟨fun e => absurd rfl e,True.intro⟩
 | cons a c r ic ir =>
  intro i hk hl hi
  obtain ⟨k1,k2,k3⟩ := hk
  have ha := hl a (by simp [Fo.lab])
  have hup := (zHN h hi k1).2
  have hkd := zDV h ha.1 ha.2
  have b1 := ic a k2 (fun b hb => hl b (by simp [Fo.lab,hb])) ha.1
  have b2 := ir i k3 (fun b hb => hl b (by simp [Fo.lab,hb])) hi
  exact ⟨fun _ => hkd.2 i hup,hkd.1,b1.1,b1.2,b2.2⟩
theorem zFE {t : List ql4} {f : Fo} {s' : List Bool} {K : Nat → List Int} (d : D K (s0 t.length) 0 0 f s') : ∀ a ∈ f.lab,a < t.length ∧ a ≠ 0 := fun a ha => by
 have := (zQU d).2.2.1 a ha
 rw [zP4,Bool.or_eq_false_iff,decide_eq_false_iff_not,decide_eq_false_iff_not] at this
 omega
theorem zFU {t : List ql4} (h : qo1 t = true) : qo1 (qm5 t) = true := by
 have h0 := qx5 h
 have hne : t ≠ [] := fun e => by rw [e] at h0;exact absurd h0.1 (by decide)
 obtain ⟨f,s',d,e⟩ := qvV hne
 obtain ⟨hl,hr⟩ := qvO t f (mkN (t.getD 0 ql2.dflt) (-1)) rfl rfl
 rw [e]
 exact zGZ hl (by rw [hr];exact h0.2.1) (zK6 h f 0 (zW1 d) (zFE d) h0.1).2
theorem zOH : ∀ (f : Fo) (i c : Nat) (x : St),(x.run (evF i f c)).L = x.L ++ f.lab := by
 intro f
 induction f with
 | nil => intro i c x;simp [evF,St.run,St.step,Fo.lab]
 | cons a g r ig ir =>
  intro i c x
  show ((x.step (a,(i : Int),c,false)).run (evF a g (c + 1) ++ evF i r (c + 2 + 2 * g.size))).L = _
  rw [qvL,ir,ig]
  simp [St.step,Fo.lab]
theorem zOF {t : List ql4} (hne : t ≠ []) {f : Fo} {s' : List Bool} (d : D (ql6 t) (s0 t.length) 0 0 f s') : fin t = ((st0 t.length).step (0, -1,0,false)).run (evF 0 f 1) := by
 have hn : t.length ≠ 0 := fun e => hne (List.length_eq_zero_iff.1 e)
 unfold fin zL1 zCW
 rw [if_neg hn]
 show ((st0 t.length).step (0, -1,0,false)).run (qu0 (ql6 t) [(0,0)] (s0 t.length) 1) = _
 unfold qu0
 rw [zRA d]
 show ((st0 t.length).step (0, -1,0,false)).run (evF 0 f 1 ++ []) = _
 rw [List.append_nil]
theorem zOM {t : List ql4} (hne : t ≠ []) {f : Fo} {s' : List Bool} (d : D (ql6 t) (s0 t.length) 0 0 f s') : (fin t).L = 0 :: f.lab := by
 rw [zOF hne d,zOH];rfl
def mks : Fo → Nat → List (Nat × Nat × Nat)
 | .nil,_ => []
 | .cons a g r,c => (a,c,c + 1 + 2 * g.size) :: (mks g (c + 1) ++ mks r (c + 2 + 2 * g.size))
def sub : Fo → Nat → Option (Nat × Fo)
 | .nil,_ => none
 | .cons a g r,m => if m = 0 then some (a,g) else if m - 1 < g.size then sub g (m - 1) else sub r (m - 1 - g.size)
theorem zQR : ∀ (f : Fo) (m : Nat),m < f.size → ∃ a g,sub f m = some (a,g) := by
 intro f
 induction f with
 | nil => intro m h;exact absurd h (Nat.not_lt_zero _)
 | cons a g r ig ir =>
  intro m h
  simp only [Fo.size] at h
  unfold sub
  by_cases h0 : m = 0
  ·rw [if_pos h0];exact ⟨a,g,rfl⟩
  ·rw [if_neg h0]
   by_cases h1 : m - 1 < g.size
   ·rw [if_pos h1];exact ig _ h1
   ·rw [if_neg h1];exact ir _ (by omega)
theorem zO7 : ∀ (f : Fo) (m a : Nat) (g : Fo),sub f m = some (a,g) → f.lab[m]? = some a := by
 intro f
 induction f with
 | nil => intro m a g h;cases h
 | cons b c r ic ir =>
  intro m a g h
  unfold sub at h
  by_cases h0 : m = 0
  ·rw [if_pos h0] at h;cases h;rw [h0];rfl
  ·rw [if_neg h0] at h
   obtain ⟨m,rfl⟩ : ∃ k,m = k + 1 := ⟨m - 1,by omega⟩
   simp only [Fo.lab,List.getElem?_cons_succ,Nat.add_sub_cancel] at h ⊢
   by_cases h1 : m < c.size
   ·rw [if_pos h1] at h
    rw [List.getElem?_append_left (by rw [qr7];exact h1)]
    exact ic _ _ _ h
   ·rw [if_neg h1] at h
    rw [List.getElem?_append_right (by rw [qr7];omega),qr7]
    exact ir _ _ _ h
theorem zIL {t u : List ql4} : ∀ (f : Fo) (m n p a : Nat) (g : Fo),Lay t u f n p → sub f m = some (a,g) → (∃ w : Nat,u.getD (n + m) ql2.dflt = qwV (mkN (t.getD a ql2.dflt) w) (qq5 (n + m + 1) g)) ∧ Lay t u g (n + m + 1) (n + m) ∧ m + 1 + g.size ≤ f.size := by
 intro f
 induction f with
 | nil => intro m n p a g _ h;cases h
 | cons b c r ic ir =>
  intro m n p a g hl h
  obtain ⟨l1,l2,l3⟩ := hl
  unfold sub at h
  simp only [Fo.size]
  by_cases h0 : m = 0
  ·rw [if_pos h0] at h;cases h;subst h0
   exact ⟨⟨p,l1⟩,l2,by omega⟩
  ·rw [if_neg h0] at h
   by_cases h1 : m - 1 < c.size
   ·rw [if_pos h1] at h
    obtain ⟨q1,q2,q3⟩ := ic _ (n + 1) n a g l2 h
    rw [show n + 1 + (m - 1) = n + m by omega] at q1 q2
    exact ⟨q1,q2,by omega⟩
   ·rw [if_neg h1] at h
    obtain ⟨q1,q2,q3⟩ := ir _ (n + 1 + c.size) p a g l3 h
    rw [show n + 1 + c.size + (m - 1 - c.size) = n + m by omega] at q1 q2
    exact ⟨q1,q2,by omega⟩
end Go.Vc

namespace Go.Vc
open Go.Proofs
set_option autoImplicit false
def F0 (f : Fo) : Fo := .cons 0 f .nil
theorem zM8 (f : Fo) : (F0 f).lab = 0 :: f.lab := by simp [F0,Fo.lab]
theorem zNI (f : Fo) : (F0 f).size = 1 + f.size := by simp [F0,Fo.size]
theorem zF9 {l : List Int} {i : Int} {k : Nat} (h : qwZ l i = some k) : k < l.length ∧ l.getD k 0 = i := by
 unfold qwZ at h
 have h1 := List.mem_of_find?_eq_some h
 have h2 := List.find?_some h
 exact ⟨List.mem_range.1 h1,by simpa using h2⟩
theorem zKZ {l : List Int} {i : Int} (h : qwZ l i = none) : i ∉ l := by
 intro hm
 obtain ⟨k,hk,e⟩ := List.getElem_of_mem hm
 unfold qwZ at h
 rw [List.find?_eq_none] at h
 refine h k (List.mem_range.2 hk) ?_
 rw [List.getD_eq_getElem?_getD,List.getElem?_eq_getElem hk]
 simp [e]
theorem zGQ {t : List ql4} (h : qmZ t = true) : qmZ (qm5 t) = true ∧ (fin t).L.length ≤ (qm5 t).length ∧ (qm5 t).length ≤ 1000 := by
 by_cases hne : t = []
 ·have e : qm5 t = [qqZ] := by unfold qm5;rw [if_pos hne]
  rw [e,hne]
  exact ⟨by decide,by decide,by decide⟩
 ·obtain ⟨f,s',d,e⟩ := qvV hne
  obtain ⟨hl,hr⟩ := qvO t f (mkN (t.getD 0 ql2.dflt) (-1)) rfl rfl
  rw [← e] at hl hr
  have hlen := hl.len
  have hL := zOM hne d
  have hnd : (F0 f).lab.Nodup := by
   rw [zM8,List.nodup_cons]
   exact ⟨fun q => (zFE d 0 q).2 rfl,(zQU d).2.1⟩
  have hle := qu8 (n := t.length) hnd (fun v hv => by
   rw [zM8,List.mem_cons] at hv
   rcases hv with rfl | hv
   ·exact List.length_pos_iff.2 hne
   ·exact (zFE d v hv).1)
  rw [qr7,zNI] at hle
  have hs := qsY h
  have hat : ∀ a,a < t.length → (t.getD a ql2.dflt).2.2.2.1.length ≤ 1000 := fun a ha => (qqR h (a : Int) (qnD.2 ⟨by omega,by omega⟩)).1
  refine ⟨?_,by rw [hL,List.length_cons,qr7,hlen];omega,by omega⟩
  unfold qmZ
  rw [Bool.and_eq_true,decide_eq_true_eq,List.all_eq_true]
  refine ⟨by omega,fun n hn => ?_⟩
  obtain ⟨q,hq,rfl⟩ := List.getElem_of_mem hn
  have hg : (qm5 t).getD q ql2.dflt = (qm5 t)[q] := by rw [List.getD_eq_getElem?_getD,List.getElem?_eq_getElem hq];rfl
  rw [Bool.and_eq_true,decide_eq_true_eq,decide_eq_true_eq]
  rw [← hg]
  by_cases h0 : q = 0
  ·subst h0
   rw [hr]
   exact ⟨hat 0 (List.length_pos_iff.2 hne),by show (qq5 1 f).length ≤ 1000;have := zE1 f 1;omega⟩
  ·obtain ⟨a,g,hs2⟩ := zQR f (q - 1) (by omega)
   obtain ⟨⟨w,q1⟩,_,_⟩ := zIL f (q - 1) 1 0 a g hl.lay hs2
   rw [show 1 + (q - 1) = q by omega] at q1
   rw [q1]
   have hgs : g.size ≤ f.size := by have := (zIL f (q - 1) 1 0 a g hl.lay hs2).2.2;omega
   refine ⟨hat a (zFE d a (List.mem_of_getElem? (zO7 f _ _ _ hs2))).1,?_⟩
   show (qq5 (q + 1) g).length ≤ 1000
   have := zE1 g (q + 1);omega
end Go.Vc

namespace Go.Vc
open Go.Proofs
set_option maxRecDepth 10000
set_option maxHeartbeats 8000000
theorem zNU {l : List Int} {i : Int} : (qw7 l i < 0 → qwZ l i = none) ∧ (¬ qw7 l i < 0 → (qw7 l i).toNat < l.length ∧ qwZ l i = some (qw7 l i).toNat) := by
 cases hf : qwZ l i with
 | none =>
  have hn := zKZ hf
  have e : qw7 l i = -1 := qz1 (by simpa using hn)
  exact ⟨fun _ => rfl,fun h => by rw [e] at h;exact absurd (by decide) h⟩
 | some k =>
  obtain ⟨hk,hki⟩ := zF9 hf
  have hno : (l.take k).contains i = false := by
   rw [Bool.eq_false_iff]
   intro hc
   rw [List.contains_iff_mem] at hc
   obtain ⟨j,hj,e⟩ := List.getElem_of_mem hc
   rw [List.length_take] at hj
   unfold qwZ at hf
   obtain ⟨_,la,lb,e2,e3⟩ := List.find?_eq_some_iff_append.1 hf
   have hal : la.length = k := by
    have h2 := congrArg (fun l : List Nat => l[la.length]?) e2
    simp only [List.getElem?_append_right (Nat.le_refl _),Nat.sub_self,List.getElem?_cons_zero] at h2
    rw [List.getElem?_range] at h2
    ·exact Option.some.inj h2
    ·have := congrArg List.length e2
     rw [List.length_range,List.length_append,List.length_cons] at this
     omega
   have hjm : j ∈ la := by
    have h2 := congrArg (fun l : List Nat => l[j]?) e2
    simp only [List.getElem?_append_left (by omega : j < la.length)] at h2
    rw [List.getElem?_range (by omega)] at h2
    exact List.mem_of_getElem? h2.symm
   have h4 := e3 j hjm
   rw [List.getElem_take] at e
   rw [List.getD_eq_getElem?_getD,List.getElem?_eq_getElem (by omega)] at h4
   simp [e] at h4
  have e : qw7 l i = k := zH9 hk hno hki.symm
  exact ⟨fun h => by omega,fun _ => by rw [e];exact ⟨by omega,rfl⟩⟩
instance sSubN (t : List ql4) (i : Int) : FnM BN 17 [.agg [.rd ql2 t],.int .i64 i] [] (zE2 t) (.agg [.rd ql2 (zKN t i)]) [] := by
 refine FnM.intro (N := 28) [0,1,2,4,5,6,12] [(5,[0,1,0,1,1,1,1,1,3,3])] 0 Try.call17 Try.func17 rfl rfl (by kernel_rfl) (fun hpre => ?_)
 obtain ⟨h1,h2,h3,h4,h5⟩ := hpre
 have hll : (qzJ (fin t).L).length = (fin t).L.length := by unfold qzJ;rw [List.length_map]
 have hf := @zNU (qzJ (fin t).L) i
 have hlen := fun k => (qy3 (t := qm5 t) (K := ql6 (qm5 t)) [] (List.replicate (qm5 t).length false) k (-1)).1
 have hs1 : qw7 (qzJ (fin t).L) i < 0 → zKN t i = [qqZ] := fun h => by unfold zKN;rw [hf.1 h]
 have hs2 : ¬ qw7 (qzJ (fin t).L) i < 0 → zKN t i = zLD (qm5 t) (qw7 (qzJ (fin t).L) i).toNat := fun h => by unfold zKN;rw [(hf.2 h).2]
 repeat' ((conv => whnf);first|(with_reducible first|rfl|exact qmF|exact qmE)|exact True.intro|intro _|refine WA ?_ ?_|refine WF ?_|refine W1 rfl ?_ ?_|refine W2 rfl ?_ ?_|refine W3 rfl ?_ ?_|refine W4 ?_ ?_|refine W5 rfl ?_ ?_|refine W6 ?_ ?_|refine WN ?_|refine X1 (W1 rfl ?_ ?_)|refine X1 (W2 rfl ?_ ?_)|refine X2 (W7 rfl ?_ ?_)|refine X3 (W7 rfl ?_ ?_)|refine X4 (W7 rfl ?_ ?_)|refine X5 (W7 rfl ?_ ?_))
 all_goals (try (conv => whnf))
 all_goals (try first|exact obA|refine Ob.mk ?_)
 ·rw [hs1 (of_decide_eq_true ‹_›)]
 all_goals (have hn := of_decide_eq_false ‹decide (qw7 (qzJ (fin t).L) i < 0) = false›)
 all_goals (have hq := (hf.2 hn).1)
 all_goals (have hlk := hlen (qw7 (qzJ (fin t).L) i).toNat;simp only [List.length_nil] at hlk)
 all_goals (first | (rw [hs2 hn];rfl) | exact ⟨h3,by omega,by omega⟩ | exact ⟨Int.le_refl 0,by omega⟩ | (show 0 < _;omega) | trace_state)
instance sSub (t : List ql4) (i : Int) : FnM BB 17 [.agg [.rd ql2 t],.int .i64 i] [] (zE2 t) (.agg [.rd ql2 (zKN t i)]) [] :=
 have h := sSubN t i
 ⟨h.call,h.ok⟩
instance sSize (t : List ql4) : Fn BB 12 [.agg [.rd ql2 t]] (t.length ≤ 45) (.int .i64 ((qzJ (fin t).L).length : Nat)) := by
 refine Fn.intro (N := 6) [0,1,2] [] Try.call12 Try.func12 rfl rfl (by kernel_rfl) (fun hpre => ?_)
 repeat' ((conv => whnf);first|(with_reducible first|rfl|exact qmF|exact qmE)|exact True.intro|intro _|refine WA ?_ ?_|refine WF ?_|refine W1 rfl ?_ ?_|refine W2 rfl ?_ ?_|refine W3 rfl ?_ ?_|refine W4 ?_ ?_|refine W5 rfl ?_ ?_|refine W6 ?_ ?_|refine WN ?_|refine X1 (W1 rfl ?_ ?_)|refine X1 (W2 rfl ?_ ?_)|refine X2 (W7 rfl ?_ ?_)|refine X3 (W7 rfl ?_ ?_)|refine X4 (W7 rfl ?_ ?_)|refine X5 (W7 rfl ?_ ?_))
 all_goals (try (conv => whnf))
 all_goals (try first|exact obA|refine Ob.mk ?_)
 all_goals (try rfl)
 all_goals trace_state
end Go.Vc

namespace Go.Vc
open Go.Proofs
set_option maxRecDepth 10000
instance decN1 : DecidableEq (List UInt8) := inferInstance
instance decN2 : DecidableEq (List UInt8 × List UInt8) := instDecidableEqProd
instance decN3 : DecidableEq (Int × List Int) := instDecidableEqProd
instance decN4 : DecidableEq (List (List UInt8 × List UInt8)) := instDecidableEqList
instance decN5 : DecidableEq (List UInt8 × Int × List Int) := instDecidableEqProd
instance decNode : DecidableEq ql4 := (instDecidableEqProd : DecidableEq (Int × Int × List UInt8 × List (List UInt8 × List UInt8) × List UInt8 × Int × List Int))
def zOG (K : Nat → List Int) : Nat → List Bool → Nat → Nat → Nat → Option (List Ev × List Bool × Nat)
 | 0,_,_,_,_ => none
 | f + 1,s,i,j,c =>
  if j < (K i).length then
   if okK s ((K i).getD j 0) = true then
    match zOG K f (s.set ((K i).getD j 0).toNat true) ((K i).getD j 0).toNat 0 (c + 1) with
    | none => none
    | some r1 =>
     match zOG K f r1.2.1 i (j + 1) r1.2.2 with
     | none => none
     | some r2 => some ((((K i).getD j 0).toNat,(i : Int),c,false) :: (r1.1 ++ r2.1),r2.2.1,r2.2.2)
   else zOG K f s i (j + 1) c
  else some ([(i,0,c,true)],s,c + 1)
theorem zIW {K : Nat → List Int} : ∀ (f : Nat) (s : List Bool) (i j c : Nat) (r : List Ev × List Bool × Nat),zOG K f s i j c = some r → dfs K s i j c = r := by
 intro f
 induction f with
 | zero => intro s i j c r h;cases h
 | succ f ih =>
  intro s i j c r h
  rw [zOG] at h
  split at h
  ·rename_i hj
   split at h
   ·rename_i hk
    split at h
    ·cases h
    ·rename_i r1 h1
     split at h
     ·cases h
     ·rename_i r2 h2
      cases h
      rw [qr0 hj hk,ih _ _ _ _ _ h1,ih _ _ _ _ _ h2]
   ·rename_i hk
    rw [qpG hj (by simpa using hk)]
    exact ih _ _ _ _ _ h
  ·rename_i hj
   cases h
   exact qpD hj
def zQL (t : List ql4) (f : Nat) : Option St :=
 if t.length = 0 then none else
 match zOG (ql6 t) f ((List.replicate t.length false).set 0 true) 0 0 1 with
 | some r => some ((st0 t.length).run ((0, -1,0,false) :: r.1))
 | none => none
theorem zIT {t : List ql4} {f : Nat} {y : St} (h : zQL t f = some y) : fin t = y := by
 unfold zQL at h
 split at h
 ·cases h
 ·rename_i h0
  split at h
  ·rename_i r hr
   cases h
   unfold fin zL1 zCW
   rw [if_neg h0,qu0,qu0,List.append_nil,zIW _ _ _ _ _ _ hr]
  ·cases h
def zRB (t : List ql4) (k f : Nat) : Option (List ql4) :=
 match zOG (ql6 t) f ((List.replicate t.length false).set k true) k 0 0 with
 | some r => some (({ out := [mkN (t.getD k ql2.dflt) (-1)],P := [0] } : PSt).run t r.1).out
 | none => none
theorem zCJ {t : List ql4} {k f : Nat} {x : List ql4} (h : zRB t k f = some x) : qwO t (ql6 t) [] (List.replicate t.length false) k (-1) = x := by
 unfold zRB at h
 split at h
 ·rename_i r hr
  cases h
  unfold qwO pS
  rw [zIW _ _ _ _ _ _ hr]
  rfl
 ·cases h
def zXE (t : List ql4) (i : Int) (f : Nat) : Option (List ql4) :=
 match zQL t f,zRB t 0 f with
 | some y,some x =>
  if qmZ t && decide (t.length ≤ 45) && qmZ x && decide (y.L.length ≤ x.length) && decide (x.length ≤ 1000) && decide (0 < t.length) then
   match qwZ (qzJ y.L) i with
   | none => some [qqZ]
   | some k => match zRB x k f with | some z => some (zQ5 z) | none => none
  else none
 | _,_ => none
theorem zN3 {t : List ql4} {i : Int} {f : Nat} {T : List ql4} (h : zXE t i f = some T) : zE2 t ∧ zKN t i = T := by
 unfold zXE at h
 split at h
 ·rename_i y x hy hx
  split at h
  ·rename_i hc
   simp only [Bool.and_eq_true,decide_eq_true_eq] at hc
   have e1 := zIT hy
   have e0 : ¬ t = [] := fun e => by rw [e] at hc;exact absurd hc.2 (by decide)
   have e2 : qm5 t = x := by unfold qm5;rw [if_neg e0];exact zCJ hx
   refine ⟨⟨hc.1.1.1.1.1,hc.1.1.1.1.2,by rw [e2];exact hc.1.1.1.2,by rw [e1,e2];exact hc.1.1.2,by rw [e2];exact hc.1.2⟩,?_⟩
   unfold zKN
   rw [e1,e2]
   split at h
   ·rename_i hk;rw [hk];exact Option.some.inj h
   ·rename_i k hk
    rw [hk]
    split at h
    ·rename_i z hz
     show zLD x k = T
     unfold zLD
     rw [zCJ hz]
     exact Option.some.inj h
    ·cases h
  ·cases h
 ·cases h
end Go.Vc

namespace Go.Vc
open Go.Proofs
set_option maxRecDepth 100000
set_option maxHeartbeats 8000000
theorem Fn.wk {B : Base} {f : FuncId} {args args' : List SV} {pre : Prop} {res : SV} (F : Fn B f args pre res) (h : ∀ r β vs,qmI r β args' vs → qmI r β args vs) : Fn B f args' pre res :=
 ⟨F.call,fun hp r β w vs hG m hl => F.ok hp r β w vs hG m (h r β vs hl)⟩
theorem zW8 {r : Mem} {β : qmL} (vs : List Value) (q : qmI r β [.agg [.nils]] vs) : qmI r β [.agg [.rd ql2 []]] vs := by
 refine ⟨q.1,fun i sv v h1 h2 => ?_⟩
 match i,h1 with
 | 0,h1 =>
  cases h1
  have := q.2 0 _ v rfl h2
  cases this with
  | agg hl h =>
   refine .agg hl fun j sv w h3 h4 => ?_
   match j,h3 with
   | 0,h3 => cases h3;have := h 0 _ w rfl h4;cases this;exact .rd .litsE
instance sRightNil : Fn BB 8 [.agg [.nils]] ((([] : List ql4)).length ≤ 1000 ∧ ∀ i,(nd ([] : List ql4) i).kids.length ≤ 1000) (.bool (qo1 [])) :=
 Fn.wk (sRight []) fun _ _ => zW8
instance sTidyNil : FnM BB 15 [.agg [.nils]] [] (qmZ ([] : List ql4) = true) (.agg [.rd ql2 (qm5 [])]) [] :=
 FnM.wk (sTidy []) fun _ _ => zW8
abbrev awA : ql4 := ((1 : Int),(0 : Int),([97] : List UInt8),([] : List qpC),([] : List UInt8),(0 : Int),([] : List Int))
abbrev awB : ql4 := ((2 : Int),(0 : Int),([] : List UInt8),([] : List qpC),([98] : List UInt8),(0 : Int),([] : List Int))
abbrev awT : List ql4 := [((0 : Int),(0 : Int),([] : List UInt8),([] : List qpC),([] : List UInt8),(-1 : Int),([1,2] : List Int)),((1 : Int),(0 : Int),([97] : List UInt8),([] : List qpC),([] : List UInt8),(0 : Int),([] : List Int)),((2 : Int),(0 : Int),([] : List UInt8),([] : List qpC),([98] : List UInt8),(0 : Int),([] : List Int))]
theorem aw_T : zPJ (zPJ (zKL (zKL [qqZ] awA) awB) 0 0 ((zKL [qqZ] awA).length : Nat)) 0 0 (([qqZ] : List ql4).length : Nat) = awT := by decide +kernel
theorem zFP : qmZ (zKL (zKL [qqZ] awA) awB) = true ∧ qmZ (zPJ (zKL (zKL [qqZ] awA) awB) 0 0 ((zKL [qqZ] awA).length : Nat)) = true := by decide +kernel
theorem qvN : qmZ awT = true := by decide +kernel
theorem zKQ : awT.length ≤ 1000 ∧ ∀ i : Int,(nd awT i).kids.length ≤ 1000 := by
 refine ⟨by decide,fun i => ?_⟩
 unfold nd
 rw [List.getD_eq_getElem?_getD]
 cases e : awT[i.toNat]? with
 | none => decide
 | some n =>
  have : ∀ n ∈ awT,n.kids.length ≤ 1000 := by decide +kernel
  exact this n (List.mem_of_getElem? e)
theorem zQ9 : qzJ (fin awT).L = [0,1,2] := by
 have h : (zQL awT 30).map (fun y => qzJ y.L) = some [0,1,2] := by decide +kernel
 cases e : zQL awT 30 with
 | none => rw [e] at h;cases h
 | some y => rw [e] at h;rw [zIT e];exact Option.some.inj h
theorem zD6 : qm5 awT = awT := by
 unfold qm5
 rw [if_neg (by decide)]
 exact zCJ (f := 30) (by decide +kernel)
theorem zLF : qo1 awT = true := by decide +kernel
theorem zM9 : zE2 awT ∧ zKN awT 1 = [((0 : Int),(0 : Int),([] : List UInt8),([] : List qpC),([] : List UInt8),(-1 : Int),([] : List Int))] := zN3 (f := 30) (by decide +kernel)
instance sAwake : Fn BB 7 [] True (.bool true) := by
 refine Fn.intro (N := 62) [0,1,2,3,4] [] Try.call7 Try.func7 rfl rfl (by kernel_rfl) (fun hpre => ?_)
 repeat' ((conv => whnf);first|(with_reducible first|rfl|exact qmF|exact qmE)|exact True.intro|intro _|refine WA ?_ ?_|refine WF ?_|refine W1 rfl ?_ ?_|refine W2 rfl ?_ ?_|refine W3 rfl ?_ ?_|refine W4 ?_ ?_|refine W5 rfl ?_ ?_|refine W6 ?_ ?_|refine WN ?_|refine X1 (W1 rfl ?_ ?_)|refine X1 (W2 rfl ?_ ?_)|refine X2 (W7 rfl ?_ ?_)|refine X3 (W7 rfl ?_ ?_)|refine X4 (W7 rfl ?_ ?_)|refine X5 (W7 rfl ?_ ?_))
 all_goals (try (conv => whnf))
 all_goals (try first|exact obA|refine Ob.mk ?_)
 all_goals (try rw [aw_T])
 all_goals (try (first | exact zFP.1 | exact zFP.2 | exact qvN | exact zKQ | exact ⟨by decide,fun i => by unfold nd;simp;decide⟩ | exact ⟨qvN,by rw [zD6];exact qvN⟩ | exact zM9.1))
 all_goals (try (first | exact ⟨by decide,by decide⟩ | exact (by decide : awT.length ≤ 45)))
 all_goals
  have e : zKN awT (([qqZ] : List ql4).length : Nat) = [((0 : Int),(0 : Int),([] : List UInt8),([] : List qpC),([] : List UInt8),(-1 : Int),([] : List Int))] := zM9.2
  have e2 : qm5 ([] : List ql4) = [qqZ] := rfl
  rw [e,e2,zLF,zD6,zD6,zQ9,qyC.2 (rfl : awT = awT)]
  decide +kernel
end Go.Vc

namespace Go.Vc
open Go.Proofs
set_option maxRecDepth 10000
set_option maxHeartbeats 8000000
theorem zGK {t : List ql4} {m : Int} (h : qv4 t m = true) (hm : m ≤ 45) : qmZ t = true ∧ t.length ≤ 45 ∧ ∀ i,(nd t i).kids.length ≤ 1000 := by
 unfold qv4 at h
 rw [Bool.and_eq_true,decide_eq_true_eq,List.all_eq_true] at h
 have hn : ∀ n ∈ t,n.2.2.2.1.length ≤ 1000 ∧ n.kids.length ≤ 1000 := fun n hn => by
  have := h.2 n hn
  unfold zFF qtK at this
  simp only [Bool.and_eq_true,decide_eq_true_eq] at this
  exact ⟨by have := this.2.1;omega,by have := this.1.2;omega⟩
 refine ⟨?_,by omega,fun i => ?_⟩
 ·unfold qmZ
  rw [Bool.and_eq_true,decide_eq_true_eq,List.all_eq_true]
  refine ⟨by omega,fun n hn' => ?_⟩
  rw [Bool.and_eq_true,decide_eq_true_eq,decide_eq_true_eq]
  exact hn n hn'
 ·unfold nd
  rw [List.getD_eq_getElem?_getD]
  cases e : t[i.toNat]? with
  | none => decide
  | some n => exact (hn n (List.mem_of_getElem? e)).2
theorem zQ3 {a : Bool} (h : (!a) = false) : a = true := by cases a <;> simp_all
theorem zK8 {α : Type} (a : α) : eqB a a = true := qyC.2 rfl
theorem zOO (a b : Bool) (h : a = true → b = true) : (!a || b) = true := by cases a <;> simp_all
theorem zGL {t : List ql4} (h : qmZ t = true) : t.length ≤ 1000 ∧ ∀ i,(nd t i).kids.length ≤ 1000 := by
 unfold qmZ at h
 rw [Bool.and_eq_true,decide_eq_true_eq,List.all_eq_true] at h
 refine ⟨h.1,fun i => ?_⟩
 unfold nd
 rw [List.getD_eq_getElem?_getD]
 cases e : t[i.toNat]? with
 | none => decide
 | some n =>
  have := h.2 n (List.mem_of_getElem? e)
  rw [Bool.and_eq_true,decide_eq_true_eq,decide_eq_true_eq] at this
  exact this.2
instance sTidies (t : List ql4) : Fn BB 4 [.agg [.rd ql2 t]] True (.bool true) := by
 refine Fn.intro (N := 36) [0,1,2,3,6] [(4,[1,1,1,1,1,1,1,1,1,1,1,1,1,1,1,1,1,1,1,1,1,3,3,3,3,3,3])] Try.call4 Try.func4 rfl rfl (by kernel_rfl) (fun hpre => ?_)
 repeat' ((conv => whnf);first|(with_reducible first|rfl|exact qmF|exact qmE)|exact True.intro|intro _|refine WA ?_ ?_|refine WF ?_|refine W1 rfl ?_ ?_|refine W2 rfl ?_ ?_|refine W3 rfl ?_ ?_|refine W4 ?_ ?_|refine W5 rfl ?_ ?_|refine W6 ?_ ?_|refine WN ?_|refine X1 (W1 rfl ?_ ?_)|refine X1 (W2 rfl ?_ ?_)|refine X2 (W7 rfl ?_ ?_)|refine X3 (W7 rfl ?_ ?_)|refine X4 (W7 rfl ?_ ?_)|refine X5 (W7 rfl ?_ ?_))
 all_goals (try (conv => whnf))
 all_goals (try first|exact obA|refine Ob.mk ?_)
 all_goals (have h1 := zGK (zQ3 ‹(!qv4 t 30) = false›) (by decide))
 all_goals (have h2 := (zGQ h1.1).1)
 all_goals (first | exact ⟨by omega,h1.2.2⟩ | exact ⟨h1.1,h2⟩ | exact ⟨h2,h1.1⟩ | exact h1.1 | exact h2 | exact zGL h2 | skip)
 all_goals (rw [zIN,zK8,zOO _ _ fun h => zFU h];rfl)
end Go.Vc

namespace Go.Vc
open Go.Proofs
theorem zO4 (W : World) (hsh : W.ShapedOpen Try.prog) : BB.G fun b => W.heap[b]? := True.intro
end Go.Vc
