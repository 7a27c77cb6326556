/- A part of the proof: lemmas and walks that the last text of the claim joins; no condition. -/
import Derived.Test.YtaieeeolaocoaaaShapeSubsTF
import Derived.Test.YtaieeeolaocoaaaShapeSubsVG
import Derived.Shelf.Spec.SlicesGrow
import Derived.Laws.AppendOwn
import Derived.Test.YtaieeeolaocoaaaShapeSubsVE
set_option linter.unusedVariables false
set_option linter.unusedSimpArgs false
set_option maxHeartbeats 8000000
namespace Go.Vc
open Go.Proofs
set_option maxRecDepth 10000
instance f39 (l : List Int) (i j : Int) : FnM BB 54 [.own 0,.int .i64 i,.int .i64 j] [(0,.own zXR l)] (0 ≤ i ∧ i ≤ j ∧ j ≤ l.length) (.own 0) [(0,.own zXR (l.take i.toNat ++ l.drop j.toNat))] :=
 zsB (B := BB) Try.laysNm223 rfl Try.call54 l i j
instance f38 (l : List Int) (i x : Int) : FnM BB 44 [.own 0,.int .i64 i,.own 1] [(0,.own zXR l),(1,.own zXR [x])] (0 ≤ i ∧ i ≤ l.length ∧ l.length ≤ 100000) (.own 0) [(0,.own zXR (l.take i.toNat ++ x :: l.drop i.toNat)),(1,.own zXR [x])] :=
 zsY (B := BB) Try.laysNm221 rfl Try.call44 l i x
def zw5 (l : List zXN) (n : zXN) : List zXN := l ++ [(n.1,n.2.1,n.2.2.1,n.2.2.2.1,n.2.2.2.2.1, -1,[])]
instance f12 (l : List zXN) (k s : Int) (nm : List UInt8) (at_ : List zbZ) (d : List UInt8) (up : Int) (kids : List Int) :
  FnM BB 24 [.loc 0 0,.agg [.int .i64 k,.int .i64 s,.str nm,.rd zZL at_,.str d,.int .i64 up,.rd zXR kids]] [(0,.box [.own 1]),(1,.own zXK l)] (l.length ≤ 100000 ∧ at_.length ≤ 100000)
   (.int .i64 l.length) [(0,.box [.own 1]),(1,.own zXK (zw5 l (k,s,nm,at_,d,up,kids)))] := by
 refine FnM.intro (N := 32) [0,1,3,4] [(1,[0,0,0,0,1,0,1,0,1,0,1,0,1,1,0,1,1,1,3,0,0,3])] 2 Try.call24 Try.func24 rfl rfl (by kernel_rfl) (fun hpre => ?_)
 obtain ⟨hp1,hp2⟩ := hpre
 repeat' ((conv => whnf);first|(with_reducible first|rfl|exact zXT|exact zXS)|exact True.intro|intro _|refine WA ?_ ?_|refine WF ?_|refine W1 rfl ?_ ?_|refine W2 rfl ?_ ?_|refine W3 rfl ?_ ?_|refine W4 ?_ ?_|refine W5 rfl ?_ ?_|refine W6 ?_ ?_|refine WN ?_|refine X1 (W1 rfl ?_ ?_)|refine X1 (W2 rfl ?_ ?_)|refine X2 (W7 rfl ?_ ?_)|refine X3 (W7 rfl ?_ ?_)|refine X4 (W7 rfl ?_ ?_)|refine X5 (W7 rfl ?_ ?_))
 all_goals (try (conv => whnf))
 all_goals (try first|exact obA|refine Ob.mk ?_)
 ·simp
 ·rfl
def zp2 (n : zXN) (k : List Int) : zXN := (n.1,n.2.1,n.2.2.1,n.2.2.2.1,n.2.2.2.2.1,n.2.2.2.2.2.1,k)
def jCO (n : zXN) (u : Int) : zXN := (n.1,n.2.1,n.2.2.1,n.2.2.2.1,n.2.2.2.2.1,u,n.2.2.2.2.2.2)
def ztL (l : List zXN) (kid : Int) : List zXN :=
 if zZD l kid ≥ 0 then l.set (nd l kid).up.toNat (zp2 (nd l (nd l kid).up) ((nd l (nd l kid).up).kids.take (zZD l kid).toNat ++ (nd l (nd l kid).up).kids.drop (zZD l kid + 1).toNat)) else l
def zsJ (l : List zXN) (kid : Int) : List zXN :=
 if kid ≠ 0 ∧ isT l kid = true then (ztL l kid).set kid.toNat (jCO (nd (ztL l kid) kid) (-1)) else ztL l kid
theorem zwX {l : List zXN} {i : Nat} {n : zXN} {k : Int} : isT (l.set i n) k = isT l k := by simp [isT]
theorem jIP {l : List Int} {w : Int} (h : zjA l w ≥ 0) : zjA l w < l.length := by
 unfold zjA at h ⊢
 split at h
 ·rename_i hc
  rw [if_pos hc]
  have := List.idxOf_lt_length_of_mem (a := w) (l := l) (by simpa using hc)
  omega
 ·omega
theorem znV {l : List zXN} {kid : Int} (h : zZD l kid ≥ 0) : isT l kid = true ∧ isT l (nd l kid).up = true ∧ zZD l kid < (nd l (nd l kid).up).kids.length := by
 unfold zZD at h ⊢
 split at h
 ·rename_i hc
  rw [if_pos hc]
  simp only [Bool.and_eq_true] at hc
  exact ⟨hc.1,hc.2,jIP h⟩
 ·omega
theorem zb4 {l : List zXN} (h : zYL l = true) (i : Int) (hi : isT l i = true) : (nd l i).2.2.2.1.length ≤ 1000 ∧ (nd l i).kids.length ≤ 1000 := by
 simp only [zYL,Bool.and_eq_true,List.all_eq_true,decide_eq_true_eq] at h
 obtain ⟨h1,h2⟩ := zYW.1 hi
 refine h.2 (nd l i) ?_
 have : i.toNat < l.length := by omega
 simp [nd,List.getD,List.getElem?_eq_getElem this]
theorem zeW {l : List zXN} (h : zYL l = true) : l.length ≤ 1000 := by
 simp only [zYL,Bool.and_eq_true,decide_eq_true_eq] at h
 exact h.1
instance f15 (l : List zXN) (kid : Int) : FnM BB 43 [.loc 0 0,.int .i64 kid] [(0,.box [.own 1]),(1,.own zXK l)] (zYL l = true)
      (.tup []) [(0,.box [.own 1]),(1,.own zXK (zsJ l kid))] := by
  refine FnM.intro (N := 54) [0,1,4,5,12,46] [(2,[0,0,0,1,0,0,0,1,0,1,1,1,3,3])] 2 Try.call43 Try.func43 rfl rfl (by kernel_rfl) (fun hpre => ?_)
  have H : zZD l kid ≥ 0 → (0 ≤ kid ∧ kid < l.length) ∧ (0 ≤ (nd l kid).up ∧ (nd l kid).up < l.length) ∧ zZD l kid < (nd l (nd l kid).up).kids.length ∧ (nd l (nd l kid).up).kids.length ≤ 1000 := by
    intro h
    obtain ⟨h1,h2,h3⟩ := znV h
    exact ⟨zYW.1 h1,zYW.1 h2,h3,(zb4 hpre _ h2).2⟩
  by_cases h0 : zZD l kid ≥ 0
  · obtain ⟨f1,f2,f3,f4⟩ := H h0
    clear H
    repeat' ((conv => whnf);first|(with_reducible first|rfl|exact zXT|exact zXS)|exact True.intro|intro _|refine WA ?_ ?_|refine WF ?_|refine W1 rfl ?_ ?_|refine W2 rfl ?_ ?_|refine W3 rfl ?_ ?_|refine W4 ?_ ?_|refine W5 rfl ?_ ?_|refine W6 ?_ ?_|refine WN ?_|refine X1 (W1 rfl ?_ ?_)|refine X1 (W2 rfl ?_ ?_)|refine X2 (W7 rfl ?_ ?_)|refine X3 (W7 rfl ?_ ?_)|refine X4 (W7 rfl ?_ ?_)|refine X5 (W7 rfl ?_ ?_))
    all_goals (try (conv => whnf))
    all_goals (try first|exact obA|refine Ob.mk ?_)
    all_goals (first
      | (show (nd l kid).up.toNat < _;omega)
      | exact Nat.le_trans f4 (by omega)
      | (show 0 ≤ zZD l kid ∧ _;refine ⟨h0,by omega,?_⟩;show zZD l kid + 1 ≤ ((nd l (nd l kid).up).kids.length : Int);omega)
      | exact zYW.1 ((Bool.and_eq_true_iff.1 ‹(_ && _) = true›).2)
      | skip)
    · rename_i h
      have h := Bool.and_eq_true_iff.1 h
      have h2 : isT (ztL l kid) kid = true := by rw [ztL,if_pos h0];exact h.2
      have h3 : isT l kid = true := by have := h.2;rw [zwX] at this;exact this
      rw [zsJ,if_pos ⟨by simpa using h.1,h3⟩,ztL,if_pos h0]
      rfl
    · rename_i h
      have h1 : ¬ (kid ≠ 0 ∧ isT l kid = true) := fun hc => by
        rw [zwX] at h
        simp [hc.1,hc.2] at h
      rw [zsJ,if_neg h1,ztL,if_pos h0]
      rfl
    all_goals (exfalso;have := of_decide_eq_false ‹decide (zZD l kid ≥ 0) = false›;exact this h0)
  · have h1 : decide (zZD l kid ≥ 0) = false := decide_eq_false h0
    clear H
    repeat' ((conv => whnf);first|(with_reducible first|rfl|exact zXT|exact zXS)|exact True.intro|intro _|refine WA ?_ ?_|refine WF ?_|refine W1 rfl ?_ ?_|refine W2 rfl ?_ ?_|refine W3 rfl ?_ ?_|refine W4 ?_ ?_|refine W5 rfl ?_ ?_|refine W6 ?_ ?_|refine WN ?_|refine X1 (W1 rfl ?_ ?_)|refine X1 (W2 rfl ?_ ?_)|refine X2 (W7 rfl ?_ ?_)|refine X3 (W7 rfl ?_ ?_)|refine X4 (W7 rfl ?_ ?_)|refine X5 (W7 rfl ?_ ?_))
    all_goals (try (conv => whnf))
    all_goals (try first|exact obA|refine Ob.mk ?_)
    all_goals (first
      | (exfalso;exact h0 (of_decide_eq_true ‹decide (zZD l kid ≥ 0) = true›))
      | exact zYW.1 ((Bool.and_eq_true_iff.1 ‹(_ && _) = true›).2)
      | (have hh := zYW.1 ((Bool.and_eq_true_iff.1 ‹(kid != 0 && isT l kid) = true›).2);omega)
      | skip)
    · rename_i h
      have h := Bool.and_eq_true_iff.1 h
      rw [zsJ,if_pos ⟨by simpa using h.1,h.2⟩,ztL,if_neg h0]
      rfl
    · rename_i h
      have h1 : ¬ (kid ≠ 0 ∧ isT l kid = true) := fun hc => by
        simp [hc.1,hc.2] at h
      rw [zsJ,if_neg h1,ztL,if_neg h0]
def jCD (l : List zXN) (up at_ kid : Int) : List zXN :=
 if (!isT l up || !isT l kid || kid == 0 || zi9 l kid up) = true then l else
 let c := zsJ l kid
 let ks := (nd c up).kids
 let i := min (max at_ 0) (ks.length : Int)
 let c2 := c.set up.toNat (zp2 (nd c up) (ks.take i.toNat ++ kid :: ks.drop i.toNat))
 c2.set kid.toNat (jCO (nd c2 kid) up)
theorem zy2 {l : List zXN} {k i : Nat} {n : zXN} : (l.set k n).getD i zXK.dflt = if k = i ∧ k < l.length then n else l.getD i zXK.dflt := by
 simp only [List.getD,List.getElem?_set]
 by_cases h : k = i
 ·subst h
  by_cases h2 : k < l.length
  ·simp [h2]
  ·simp [h2]
 ·simp [h]
def smB (m : Nat) (l : List zXN) : Prop := l.length ≤ m ∧ ∀ i,i < l.length → (l.getD i zXK.dflt).2.2.2.1.length ≤ m ∧ (l.getD i zXK.dflt).kids.length ≤ m
theorem jDD {l : List zXN} (h : zYL l = true) : smB 1000 l := by
 refine ⟨zeW h,fun i hi => ?_⟩
 have := zb4 h i (zYW.2 ⟨by omega,by omega⟩)
 simpa [nd] using this
theorem zwT {l : List zXN} {m : Nat} (h : smB m l) {k : Nat} {n : zXN} (hn : k < l.length → n.2.2.2.1.length ≤ m ∧ n.kids.length ≤ m) : smB m (l.set k n) := by
 refine ⟨by simpa using h.1,fun i hi => ?_⟩
 rw [zy2]
 split
 ·rename_i hc;exact hn hc.2
 ·exact h.2 i (by simpa using hi)
theorem zq2 {l : List zXN} {kid : Int} : (ztL l kid).length = l.length := by unfold ztL;split <;> simp
theorem zqX {l : List zXN} {kid : Int} : (zsJ l kid).length = l.length := by
 unfold zsJ;split
 ·rw [List.length_set,zq2]
 ·exact zq2
theorem zqI {l : List zXN} {m : Nat} {kid : Int} (h : smB m l) : smB m (ztL l kid) := by
 unfold ztL
 split
 ·refine zwT h fun hk => ?_
  have := h.2 _ hk
  refine ⟨this.1,?_⟩
  have e : (zp2 (nd l (nd l kid).up) ((nd l (nd l kid).up).kids.take (zZD l kid).toNat ++ (nd l (nd l kid).up).kids.drop (zZD l kid + 1).toNat)).kids.length ≤ (nd l (nd l kid).up).kids.length := by
   show ((nd l (nd l kid).up).kids.take (zZD l kid).toNat ++ (nd l (nd l kid).up).kids.drop (zZD l kid + 1).toNat).length ≤ _
   simp only [List.length_append,List.length_take,List.length_drop]
   omega
  exact Nat.le_trans e this.2
 ·exact h
theorem jAJ {l : List zXN} {m : Nat} {kid : Int} (h : smB m l) : smB m (zsJ l kid) := by
 unfold zsJ
 split
 ·refine zwT (zqI h) fun hk => ?_
  exact (zqI h (kid := kid)).2 _ hk
 ·exact zqI h
theorem jDZ (a b : Int) : (bif false then max (bif true then max a 0 else min a 0) b else min (bif true then max a 0 else min a 0) b) = min (max a 0) b := rfl
instance f13 (l : List zXN) (up at_ kid : Int) : FnM BB 25 [.loc 0 0,.int .i64 up,.int .i64 at_,.int .i64 kid] [(0,.box [.own 1]),(1,.own zXK l)] (zYL l = true)
      (.tup []) [(0,.box [.own 1]),(1,.own zXK (jCD l up at_ kid))] := by
  refine FnM.intro (N := 71) [0,1,2,3,8,34] [(3,[0,0,0,0,1,2,0,1,0,0,0,1,1,1,0,2,3,0,0,3])] 2 Try.call25 Try.func25 rfl rfl (by kernel_rfl) (fun hpre => ?_)
  have hsm := jAJ (kid := kid) (jDD hpre)
  have hll := zeW hpre
  have hu : (!isT l up || !isT l kid || kid == 0 || zi9 l kid up) = false → (0 ≤ up ∧ up < (zsJ l kid).length) ∧ (0 ≤ kid ∧ kid < (zsJ l kid).length) ∧ ((zsJ l kid).getD up.toNat zXK.dflt).2.2.2.2.2.2.length ≤ 1000 := by
    intro h
    simp only [Bool.or_eq_false_iff,Bool.not_eq_false'] at h
    have h1 := zYW.1 h.1.1.1
    have h2 := zYW.1 h.1.1.2
    rw [zqX]
    exact ⟨h1,h2,(hsm.2 up.toNat (by rw [zqX];omega)).2⟩
  repeat' ((conv => whnf);first|(with_reducible first|rfl|exact zXT|exact zXS)|exact True.intro|intro _|refine WA ?_ ?_|refine WF ?_|refine W1 rfl ?_ ?_|refine W2 rfl ?_ ?_|refine W3 rfl ?_ ?_|refine W4 ?_ ?_|refine W5 rfl ?_ ?_|refine W6 ?_ ?_|refine WN ?_|refine X1 (W1 rfl ?_ ?_)|refine X1 (W2 rfl ?_ ?_)|refine X2 (W7 rfl ?_ ?_)|refine X3 (W7 rfl ?_ ?_)|refine X4 (W7 rfl ?_ ?_)|refine X5 (W7 rfl ?_ ?_))
  all_goals (try (conv => whnf))
  all_goals (try first|exact obA|refine Ob.mk ?_)
  all_goals (first
    | omega
    | (rename_i h;obtain ⟨g1,g2,g3⟩ := hu h;first
        | exact g1
        | exact g2
        | omega
        | exact Nat.le_trans g3 (by omega)
        | (rw [List.length_set];first | exact g2 | omega)
        | (refine ⟨?_,?_,Nat.le_trans g3 (by omega)⟩ <;> rw [jDZ] <;> omega))
    | skip)
  · rename_i h;rw [jCD,if_pos h]
  · rename_i h
    rw [jCD,if_neg (by rw [h];exact Bool.false_ne_true)]
    rfl
end Go.Vc

namespace Go.Vc
open Go.Proofs
set_option maxRecDepth 10000
def zcM : zXN := ((0 : Int),(0 : Int),([] : List UInt8),([] : List zbZ),([] : List UInt8),(-1 : Int),([] : List Int))
instance f18 : FnM BB 23 [] [] True (.agg [.own 0]) [(0,.own zXK [zcM])] := by
 refine FnM.intro (N := 4) [0] [] 1 Try.call23 Try.func23 rfl rfl (by kernel_rfl) (fun hpre => ?_)
 all_goals exact vcA
theorem FnM.wk {B : Base} {f : FuncId} {args args' : List SV} {Φ : Phi} {pre : Prop} {res : SV} {Φ' : Phi} (F : FnM B f args Φ pre res Φ') (h : ∀ r β vs,zX1 r β args' vs → zX1 r β args vs) : FnM B f args' Φ pre res Φ' :=
 ⟨F.call,fun hp r β w vs hG m hl => F.ok hp r β w vs hG m (h r β vs hl)⟩
theorem zwW {r β v} {τ : Ty} (h : Rel r β .nils v) : Rel r β (.rd τ []) v := by cases h;exact .rd .litsE
instance f12n (l : List zXN) (k s : Int) (nm : List UInt8) (d : List UInt8) (up : Int) :
  FnM BB 24 [.loc 0 0,.agg [.int .i64 k,.int .i64 s,.str nm,.nils,.str d,.int .i64 up,.nils]] [(0,.box [.own 1]),(1,.own zXK l)] (l.length ≤ 100000 ∧ ([] : List zbZ).length ≤ 100000)
   (.int .i64 l.length) [(0,.box [.own 1]),(1,.own zXK (zw5 l (k,s,nm,[],d,up,[])))] :=
 FnM.wk (f12 l k s nm [] d up []) fun r β vs h => by
  refine ⟨h.1,fun i sv v h1 h2 => ?_⟩
  match i,h1 with
  | 0,h1 => cases h1;exact h.2 0 _ v rfl h2
  | 1,h1 =>
   cases h1
   obtain ⟨cs,rfl,hc⟩ := (h.2 1 _ v rfl h2).aggL_inv
   refine .aggL ⟨hc.1,fun j sv u q1 q2 => ?_⟩
   match j,q1 with
   | 0,q1 => cases q1;exact hc.2 0 _ u rfl q2
   | 1,q1 => cases q1;exact hc.2 1 _ u rfl q2
   | 2,q1 => cases q1;exact hc.2 2 _ u rfl q2
   | 3,q1 => cases q1;exact zwW (hc.2 3 _ u rfl q2)
   | 4,q1 => cases q1;exact hc.2 4 _ u rfl q2
   | 5,q1 => cases q1;exact hc.2 5 _ u rfl q2
   | 6,q1 => cases q1;exact zwW (hc.2 6 _ u rfl q2)
end Go.Vc

namespace Go.Vc
set_option autoImplicit false
structure St where
 L : List Nat
 P : List Nat
 I : List Int
 O : List Int
 m : Nat
def St.step (x : St) (e : Ev) : St :=
 if e.2.2.2 = true then { x with P := x.P.dropLast,O := x.O.set e.1 (x.m : Int),m := x.m + 1 }
 else { x with L := x.L ++ [e.1],P := x.P ++ [e.1],I := x.I.set e.1 (x.m : Int),m := x.m + 1 }
structure Good (n : Nat) (x : St) : Prop where
 lI : x.I.length = n
 lO : x.O.length = n
 lt : ∀ u ∈ x.L,u < n
 nod : x.L.Nodup
 out : ∀ u,u ∉ x.L → x.I.getD u (-1) = -1 ∧ x.O.getD u (-1) = -1
 rI : ∀ u ∈ x.L,0 ≤ x.I.getD u (-1) ∧ x.I.getD u (-1) < x.m
 rO : ∀ u ∈ x.L,x.O.getD u (-1) = -1 ∨ (x.I.getD u (-1) < x.O.getD u (-1) ∧ x.O.getD u (-1) < x.m)
 srt : x.L.Pairwise fun a b => x.I.getD a (-1) < x.I.getD b (-1)
 stk : x.P = x.L.filter fun u => x.O.getD u (-1) == -1
 nest : ∀ u ∈ x.L,∀ v ∈ x.L,x.I.getD u (-1) < x.I.getD v (-1) → x.O.getD u (-1) = -1 ∨ x.O.getD u (-1) < x.I.getD v (-1) ∨ (x.O.getD v (-1) ≠ -1 ∧ x.O.getD v (-1) < x.O.getD u (-1))
 dis : ∀ u ∈ x.L,∀ v ∈ x.L,x.O.getD u (-1) ≠ -1 → x.O.getD u (-1) ≠ x.I.getD v (-1) ∧ (x.O.getD v (-1) = x.O.getD u (-1) → u = v)
 cnt : x.m + x.P.length = 2 * x.L.length
def jG1 (n : Nat) (x : St) (e : Ev) : Prop :=
 e.2.2.1 = x.m ∧ (if e.2.2.2 = true then x.P.getLast? = some e.1 else e.1 < n ∧ e.1 ∉ x.L)
theorem za5 {α : Type} (l : List α) (i j : Nat) (a d : α) : (l.set i a).getD j d = if i = j ∧ i < l.length then a else l.getD j d := by
 rw [List.getD_eq_getElem?_getD,List.getElem?_set]
 by_cases h : i = j
 ·subst h
  by_cases hl : i < l.length
  ·simp [hl]
  ·simp [hl,List.getD_eq_getElem?_getD,List.getElem?_eq_none (Nat.le_of_not_lt hl)]
 ·simp [h,List.getD_eq_getElem?_getD]
theorem Good.into {n : Nat} {x : St} (g : Good n x) {v : Nat} (hv : v < n) (hn : v ∉ x.L) :
  Good n { x with L := x.L ++ [v],P := x.P ++ [v],I := x.I.set v (x.m : Int),m := x.m + 1 } := by
 have hI : ∀ u,(x.I.set v (x.m : Int)).getD u (-1) = if v = u then (x.m : Int) else x.I.getD u (-1) := by
  intro u
  rw [za5]
  by_cases h : v = u
  ·rw [if_pos h,if_pos ⟨h,by rw [g.lI];exact hv⟩]
  ·rw [if_neg h,if_neg (fun q => h q.1)]
 have ho := g.out v hn
 have hne : ∀ u ∈ x.L,v ≠ u := fun u hu e => hn (e ▸ hu)
 refine ⟨by simp [g.lI],g.lO,?_,?_,?_,?_,?_,?_,?_,?_,?_,?_⟩ <;> dsimp only
 ·intro u hu
  rcases List.mem_append.1 hu with h | h
  ·exact g.lt u h
  ·simp at h;subst h;exact hv
 ·rw [List.nodup_append]
  refine ⟨g.nod,by simp,?_⟩
  intro a ha b hb e
  simp at hb
  subst hb;subst e
  exact hn ha
 ·intro u hu
  simp only [List.mem_append,List.mem_singleton,not_or] at hu
  rw [hI,if_neg (fun e => hu.2 e.symm)]
  exact g.out u hu.1
 ·intro u hu
  rw [hI]
  rcases List.mem_append.1 hu with h | h
  ·rw [if_neg (hne u h)]
   have := g.rI u h
   omega
  ·simp at h;subst h;rw [if_pos rfl];omega
 ·intro u hu
  rw [hI]
  rcases List.mem_append.1 hu with h | h
  ·rw [if_neg (hne u h)]
   have := g.rO u h
   omega
  ·simp at h;subst h;exact .inl ho.2
 ·rw [List.pairwise_append]
  refine ⟨?_,by simp,?_⟩
  ·refine g.srt.imp_of_mem ?_
   intro a b ha hb h
   rw [hI,hI,if_neg (hne a ha),if_neg (hne b hb)]
   exact h
  ·intro a ha b hb
   simp at hb;subst hb
   rw [hI,hI,if_neg (hne a ha),if_pos rfl]
   exact (g.rI a ha).2
 ·rw [List.filter_append, ← g.stk]
  simp only [List.filter_cons,List.filter_nil,ho.2]
  rfl
 ·intro u hu w hw
  rw [hI,hI]
  rcases List.mem_append.1 hu with h | h
  ·rw [if_neg (hne u h)]
   rcases List.mem_append.1 hw with k | k
   ·rw [if_neg (hne w k)];exact g.nest u h w k
   ·simp at k;subst k
    rw [if_pos rfl]
    intro _
    have := g.rO u h
    omega
  ·simp at h;subst h
   rw [if_pos rfl]
   exact fun _ => .inl ho.2
 ·intro u hu w hw hq
  rw [hI]
  rcases List.mem_append.1 hu with h | h
  ·rcases List.mem_append.1 hw with k | k
   ·rw [if_neg (hne w k)];exact g.dis u h w k hq
   ·simp at k;subst k
    rw [if_pos rfl]
    have := g.rO u h
    refine ⟨by omega,fun e => ?_⟩
    rw [ho.2] at e
    exact absurd e.symm hq
  ·simp at h;subst h
   exact absurd ho.2 hq
 ·have := g.cnt
  simp only [List.length_append,List.length_cons,List.length_nil]
  omega
theorem zpS {α : Type} [BEq α] [LawfulBEq α] {l : List α} (hn : l.Nodup) {p q : α → Bool} {v : α} (hv : (l.filter p).getLast? = some v)
  (hq : ∀ u,q u = (p u && !(u == v))) : l.filter q = (l.filter p).dropLast := by
 have e : l.filter q = (l.filter p).filter fun u => !(u == v) := by
  rw [List.filter_filter]
  exact List.filter_congr fun u _ => by rw [hq u,Bool.and_comm]
 rw [e]
 have hnp := hn.filter p
 generalize l.filter p = m at *
 rcases List.eq_nil_or_concat m with rfl | ⟨r,a,rfl⟩
 ·simp at hv
 ·rw [List.concat_eq_append] at *
  simp at hv
  subst hv
  rw [List.pairwise_append] at hnp
  simp only [List.filter_append,List.filter_cons,List.filter_nil,beq_self_eq_true,Bool.not_true,Bool.false_eq_true,if_false,List.append_nil,List.dropLast_concat]
  rw [List.filter_eq_self]
  intro u hu
  have := hnp.2.2 u hu a (by simp)
  simpa using this
theorem Good.leave {n : Nat} {x : St} (g : Good n x) {v : Nat} (hl : x.P.getLast? = some v) :
  Good n { x with P := x.P.dropLast,O := x.O.set v (x.m : Int),m := x.m + 1 } := by
 have hvP : v ∈ x.P := List.mem_of_getLast? hl
 have hvP' := hvP
 rw [g.stk,List.mem_filter] at hvP'
 have hvL := hvP'.1
 have hvO : x.O.getD v (-1) = -1 := by simpa using hvP'.2
 have hvn := g.lt v hvL
 have hO : ∀ u,(x.O.set v (x.m : Int)).getD u (-1) = if v = u then (x.m : Int) else x.O.getD u (-1) := by
  intro u
  rw [za5]
  by_cases h : v = u
  ·rw [if_pos h,if_pos ⟨h,by rw [g.lO];exact hvn⟩]
  ·rw [if_neg h,if_neg (fun q => h q.1)]
 have hlast : ∀ w ∈ x.L,x.I.getD v (-1) < x.I.getD w (-1) → x.O.getD w (-1) ≠ -1 := by
  intro w hw hlt ho
  have hwP : w ∈ x.P := by rw [g.stk,List.mem_filter];exact ⟨hw,by simpa using ho⟩
  have hs : x.P.Pairwise fun a b => x.I.getD a (-1) < x.I.getD b (-1) := by rw [g.stk];exact g.srt.filter _
  rcases List.eq_nil_or_concat x.P with he | ⟨r,a,he⟩
  ·rw [he] at hl;cases hl
  ·rw [List.concat_eq_append] at he
   rw [he] at hl hwP hs
   simp at hl
   subst hl
   rw [List.pairwise_append] at hs
   rcases List.mem_append.1 hwP with h | h
   ·have := hs.2.2 w h a (by simp);omega
   ·simp at h;subst h;omega
 refine ⟨g.lI,by simp [g.lO],g.lt,g.nod,?_,?_,?_,g.srt,?_,?_,?_,?_⟩ <;> dsimp only
 ·intro u hu
  rw [hO,if_neg (fun e : v = u => hu (e ▸ hvL))]
  exact g.out u hu
 ·intro u hu
  have := g.rI u hu
  omega
 ·intro u hu
  rw [hO]
  have h1 := g.rI u hu
  have h2 := g.rO u hu
  split <;> omega
 ·rw [g.stk] at hl
  rw [g.stk]
  refine (zpS g.nod hl fun u => ?_).symm
  rw [hO]
  by_cases h : v = u
  ·subst h;rw [if_pos rfl]
   have : ((x.m : Int) == -1) = false := beq_eq_false_iff_ne.mpr (by omega)
   rw [this];simp
  ·rw [if_neg h,show (u == v) = false from beq_eq_false_iff_ne.mpr (fun e => h e.symm)];simp
 ·intro u hu w hw hlt
  rw [hO,hO]
  have h0 := g.nest u hu w hw hlt
  have hru := g.rO u hu
  by_cases h : v = u
  ·subst h
   rw [if_pos rfl]
   have hwo := hlast w hw hlt
   have hrw := g.rO w hw
   rw [if_neg (by rintro rfl;omega)]
   omega
  ·rw [if_neg h]
   by_cases h' : v = w
   ·subst h'
    rw [if_pos rfl]
    omega
   ·rw [if_neg h'];exact h0
 ·intro u hu w hw hq
  rw [hO] at hq ⊢
  rw [hO]
  have hru := g.rO u hu
  have hrw := g.rO w hw
  have hiw := g.rI w hw
  by_cases h : v = u
  ·subst h
   rw [if_pos rfl] at hq ⊢
   refine ⟨by omega,fun e => ?_⟩
   by_cases h' : v = w
   ·exact h'
   ·rw [if_neg h'] at e;omega
  ·rw [if_neg h] at hq ⊢
   have h0 := g.dis u hu w hw hq
   refine ⟨h0.1,fun e => ?_⟩
   by_cases h' : v = w
   ·rw [if_pos h'] at e;omega
   ·rw [if_neg h'] at e;exact h0.2 e
 ·have := g.cnt
  have hp : 0 < x.P.length := List.length_pos_of_mem hvP
  simp only [List.length_dropLast]
  omega
theorem Good.step {n : Nat} {x : St} (g : Good n x) {e : Ev} (h : jG1 n x e) : Good n (x.step e) := by
 obtain ⟨h1,h2⟩ := h
 unfold St.step
 split
 ·rename_i hl
  rw [if_pos hl] at h2
  exact g.leave h2
 ·rename_i hl
  rw [if_neg hl] at h2
  exact g.into h2.1 h2.2
def ziK (n : Nat) : St → List Ev → Prop
 | _,[] => True
 | x,e :: r => jG1 n x e ∧ ziK n (x.step e) r
def St.run (x : St) (l : List Ev) : St := l.foldl St.step x
theorem zw2 {n : Nat} : ∀ {x : St} {a b : List Ev},ziK n x a → ziK n (x.run a) b → ziK n x (a ++ b) := by
 intro x a
 induction a generalizing x with
 | nil => intro b _ h;exact h
 | cons e a ih => intro b h1 h2;exact ⟨h1.1,ih h1.2 h2⟩
theorem zcS (x : St) (a b : List Ev) : x.run (a ++ b) = (x.run a).run b := by unfold St.run;rw [List.foldl_append]
theorem Good.run {n : Nat} : ∀ {l : List Ev} {x : St},Good n x → ziK n x l → Good n (x.run l) := by
 intro l
 induction l with
 | nil => intro x g _;exact g
 | cons e l ih => intro x g h;exact ih (g.step h.1) h.2
def Seen (s : List Bool) (x : St) : Prop := ∀ u,u < s.length → (s.getD u true = true ↔ u ∈ x.L)
theorem jBU {K : Nat → List Int} : ∀ (s : List Bool) (i j c : Nat),(dfs K s i j c).2.1.length = s.length := by
 refine zc3 (K := K) ?_ ?_ ?_
 ·intro s i j c h;rw [zZ5 h]
 ·intro s i j c h hk ih;rw [zZ7 h hk];exact ih
 ·intro s i j c h hk i1 i2;rw [zcK h hk];dsimp only;rw [i2,i1,List.length_set]
theorem zyZ {K : Nat → List Int} (n : Nat) : ∀ (s : List Bool) (i j c : Nat) (x : St) (P0 : List Nat),s.length = n → Seen s x → x.P = P0 ++ [i] → x.m = c →
  ziK n x (dfs K s i j c).1 ∧ (x.run (dfs K s i j c).1).P = P0 ∧ (x.run (dfs K s i j c).1).m = (dfs K s i j c).2.2 ∧ Seen (dfs K s i j c).2.1 (x.run (dfs K s i j c).1) := by
 refine zc3 (K := K) ?_ ?_ ?_
 ·intro s i j c h x P0 hs hx hP hm
  rw [zZ5 h]
  have e : x.run [(i,0,c,true)] = { x with P := x.P.dropLast,O := x.O.set i (x.m : Int),m := x.m + 1 } := rfl
  refine ⟨⟨⟨hm.symm,?_⟩,trivial⟩,?_,?_,?_⟩
  ·rw [if_pos rfl,hP];simp
  ·rw [e];dsimp only;rw [hP];simp
  ·rw [e];dsimp only;rw [hm]
  ·rw [e];exact hx
 ·intro s i j c h hk ih
  rw [zZ7 h hk];exact ih
 ·intro s i j c h hk i1 i2 x P0 hs hx hP hm
  have hok := zYG hk
  rw [zcK h hk]
  dsimp only
  generalize hkk : ((K i).getD j 0).toNat = k at *
  have hkn : k < n := by rw [← hs];exact hok.2.1
  have hkL : k ∉ x.L := by
   intro q
   have := (hx k (by omega)).2 q
   rw [List.getD_eq_getElem?_getD,hok.2.2] at this
   cases this
  have e0 : x.step (k,(i : Int),c,false) = { x with L := x.L ++ [k],P := x.P ++ [k],I := x.I.set k (x.m : Int),m := x.m + 1 } := rfl
  have hx1 : Seen (s.set k true) (x.step (k,(i : Int),c,false)) := by
   intro u hu
   rw [List.length_set] at hu
   rw [za5,e0]
   dsimp only
   rw [List.mem_append,List.mem_singleton]
   by_cases q : k = u
   ·rw [if_pos ⟨q,by omega⟩];simp [q]
   ·rw [if_neg (fun z => q z.1),hx u hu]
    constructor
    ·exact .inl
    ·rintro (z | z)
     ·exact z
     ·exact absurd z.symm q
  obtain ⟨a1,a2,a3,a4⟩ := i1 (x.step (k,(i : Int),c,false)) x.P (by rw [List.length_set];exact hs) hx1 (by rw [e0]) (by rw [e0];dsimp only;rw [hm])
  generalize hr1 : dfs K (s.set k true) k 0 (c + 1) = r1 at *
  have hl1 : r1.2.1.length = n := by rw [← hr1,jBU,List.length_set,hs]
  obtain ⟨b1,b2,b3,b4⟩ := i2 ((x.step (k,(i : Int),c,false)).run r1.1) P0 hl1 a4 (by rw [a2,hP]) a3
  refine ⟨⟨⟨hm.symm,?_⟩,zw2 a1 b1⟩,?_,?_,?_⟩
  ·rw [if_neg (by simp)];exact ⟨hkn,hkL⟩
  ·show ((x.step _).run (r1.1 ++ _)).P = P0;rw [zcS];exact b2
  ·show ((x.step _).run (r1.1 ++ _)).m = _;rw [zcS];exact b3
  ·show Seen _ ((x.step _).run (r1.1 ++ _));rw [zcS];exact b4
def st0 (n : Nat) : St := { L := [],P := [],I := List.replicate n (-1),O := List.replicate n (-1),m := 0 }
theorem zm0 {α : Type} (n : Nat) (a : α) (u : Nat) : (List.replicate n a).getD u a = a := by
 rw [List.getD_eq_getElem?_getD,List.getElem?_replicate]
 split <;> rfl
theorem jC2 (n : Nat) : Good n (st0 n) := by
 refine ⟨by simp [st0],by simp [st0],by simp [st0],by simp [st0],?_,by simp [st0],by simp [st0],by simp [st0],by simp [st0],by simp [st0],by simp [st0],by simp [st0]⟩
 intro u _
 exact ⟨zm0 n _ u,zm0 n _ u⟩
theorem zwZ (K : Nat → List Int) (n : Nat) : ziK n (st0 n) (zlI K n) ∧ ((st0 n).run (zlI K n)).P = [] := by
 unfold zlI
 split
 ·exact ⟨trivial,rfl⟩
 ·rename_i hn
  have hn : 0 < n := by omega
  have hseen : Seen ((List.replicate n false).set 0 true) ((st0 n).step (0, -1,0,false)) := by
   intro u hu
   rw [List.length_set,List.length_replicate] at hu
   rw [za5]
   show _ ↔ u ∈ [0]
   rw [List.mem_singleton,List.length_replicate]
   by_cases q : 0 = u
   ·rw [if_pos ⟨q,hn⟩];simp [q]
   ·rw [if_neg (fun z => q z.1),List.getD_eq_getElem?_getD,List.getElem?_replicate,if_pos hu]
    constructor
    ·intro z;cases z
    ·intro z;exact absurd z.symm q
  obtain ⟨a1,a2,a3,a4⟩ := zyZ (K := K) n ((List.replicate n false).set 0 true) 0 0 1 ((st0 n).step (0, -1,0,false)) [] (by simp) hseen rfl rfl
  have e : zfL K [(0,0)] ((List.replicate n false).set 0 true) 1 = (dfs K ((List.replicate n false).set 0 true) 0 0 1).1 := by
   rw [zfL,zfL,List.append_nil]
  rw [e]
  exact ⟨⟨⟨rfl,by rw [if_neg (by decide)];exact ⟨hn,by simp [st0]⟩⟩,a1⟩,a2⟩
end Go.Vc

namespace Go.Vc
set_option autoImplicit false
structure Mono (x y : St) : Prop where
 L : ∃ l,y.L = x.L ++ l ∧ ∀ u ∈ l,(x.m : Int) ≤ y.I.getD u (-1)
 I : ∀ u ∈ x.L,y.I.getD u (-1) = x.I.getD u (-1)
 O : ∀ u ∈ x.L,x.O.getD u (-1) ≠ -1 → y.O.getD u (-1) = x.O.getD u (-1)
 O' : ∀ u ∈ x.L,x.O.getD u (-1) = -1 → y.O.getD u (-1) = -1 ∨ (x.m : Int) ≤ y.O.getD u (-1)
 m : x.m ≤ y.m
theorem Mono.refl (x : St) : Mono x x := ⟨⟨[],by simp,by simp⟩,fun _ _ => rfl,fun _ _ _ => rfl,fun _ _ h => .inl h,Nat.le_refl _⟩
theorem Mono.step {n : Nat} {x : St} (g : Good n x) {e : Ev} (h : jG1 n x e) : Mono x (x.step e) := by
 obtain ⟨h1,h2⟩ := h
 unfold St.step
 split
 ·rename_i hl
  rw [if_pos hl] at h2
  have hP : e.1 ∈ x.P := List.mem_of_getLast? h2
  rw [g.stk,List.mem_filter] at hP
  have hO : x.O.getD e.1 (-1) = -1 := by simpa using hP.2
  have hn := g.lt _ hP.1
  refine ⟨⟨[],by simp,by simp⟩,fun _ _ => rfl,?_,?_,Nat.le_succ _⟩ <;> dsimp only
  ·intro u hu hq
   rw [za5]
   by_cases q : e.1 = u
   ·subst q;exact absurd hO hq
   ·rw [if_neg (fun z => q z.1)]
  ·intro u hu hq
   rw [za5]
   by_cases q : e.1 = u
   ·rw [if_pos ⟨q,by rw [g.lO];exact hn⟩];right;omega
   ·rw [if_neg (fun z => q z.1)];exact .inl hq
 ·rename_i hl
  rw [if_neg hl] at h2
  have hI : ∀ u,(x.I.set e.1 (x.m : Int)).getD u (-1) = if e.1 = u then (x.m : Int) else x.I.getD u (-1) := by
   intro u
   rw [za5]
   by_cases q : e.1 = u
   ·rw [if_pos q,if_pos ⟨q,by rw [g.lI];exact h2.1⟩]
   ·rw [if_neg q,if_neg (fun z => q z.1)]
  refine ⟨⟨[e.1],rfl,?_⟩,?_,fun _ _ _ => rfl,fun _ _ h => .inl h,Nat.le_succ _⟩ <;> dsimp only
  ·intro u hu
   simp at hu
   rw [hI,if_pos hu.symm];omega
  ·intro u hu
   rw [hI,if_neg (fun q : e.1 = u => h2.2 (q ▸ hu))]
theorem Mono.trans {x y z : St} (a : Mono x y) (b : Mono y z) : Mono x z := by
 obtain ⟨l,e1,h1⟩ := a.L
 obtain ⟨l',e2,h2⟩ := b.L
 have sub : ∀ u ∈ x.L,u ∈ y.L := fun u hu => by rw [e1];exact List.mem_append_left _ hu
 have hm := a.m
 refine ⟨⟨l ++ l',by rw [e2,e1,List.append_assoc],?_⟩,?_,?_,?_,Nat.le_trans a.m b.m⟩
 ·intro u hu
  rcases List.mem_append.1 hu with h | h
  ·rw [b.I u (by rw [e1];exact List.mem_append_right _ h)];exact h1 u h
  ·have := h2 u h;omega
 ·intro u hu;rw [b.I u (sub u hu),a.I u hu]
 ·intro u hu h
  have := a.O u hu h
  rw [b.O u (sub u hu) (by rw [this];exact h),this]
 ·intro u hu h
  rcases a.O' u hu h with q | q
  ·rcases b.O' u (sub u hu) q with r | r
   ·exact .inl r
   ·right;omega
  ·by_cases r : y.O.getD u (-1) = -1
   ·omega
   ·rw [b.O u (sub u hu) r];exact .inr q
theorem Mono.run {n : Nat} : ∀ {l : List Ev} {x : St},Good n x → ziK n x l → Mono x (x.run l) := by
 intro l
 induction l with
 | nil => intro x _ _;exact Mono.refl x
 | cons e l ih => intro x g h;exact (Mono.step g h.1).trans (ih (g.step h.1) h.2)
structure Done (n : Nat) (y : St) : Prop extends Good n y where
 P0 : y.P = []
theorem Done.o {n : Nat} {y : St} (g : Done n y) {u : Nat} (hu : u ∈ y.L) : y.O.getD u (-1) ≠ -1 := by
 intro h
 have : u ∈ y.P := by rw [g.stk,List.mem_filter];exact ⟨hu,by simpa using h⟩
 rw [g.P0] at this;cases this
def jAP (D : Int) (S : Nat → Prop) (f : Nat → Int) : Prop := 0 ≤ D ∧ (∀ v,S v → f v ≤ D) ∧ (D = 0 ∨ ∃ v,S v ∧ D = f v)
theorem jAP.uniq {D D' : Int} {S : Nat → Prop} {f : Nat → Int} (h : jAP D S f) (h' : jAP D' S f) (hf : ∀ v,S v → 0 ≤ f v) : D = D' := by
 obtain ⟨a0,a1,a2⟩ := h
 obtain ⟨b0,b1,b2⟩ := h'
 rcases a2 with rfl | ⟨v,hv,rfl⟩
 ·rcases b2 with rfl | ⟨w,hw,rfl⟩
  ·rfl
  ·have := a1 w hw;omega
 ·have := b1 v hv
  rcases b2 with rfl | ⟨w,hw,rfl⟩
  ·have := hf v hv;omega
  ·have := a1 w hw;omega
def zs6 (K : Nat → List Int) (n : Nat) : St := (st0 n).run (zlI K n)
theorem zr0 (K : Nat → List Int) (n : Nat) : Done n (zs6 K n) := ⟨(jC2 n).run (zwZ K n).1,(zwZ K n).2⟩
theorem jI5 : ∀ (l : List Ev) (x : St),(x.run l).m = x.m + l.length := by
 intro l
 induction l with
 | nil => intro x;rfl
 | cons e l ih =>
  intro x
  show ((x.step e).run l).m = _
  rw [ih]
  have : (x.step e).m = x.m + 1 := by unfold St.step;split <;> rfl
  rw [this,List.length_cons];omega
theorem ztR {α : Type} (p : α → Bool) (l : List α) : l.length = (l.filter p).length + (l.filter fun u => !p u).length := by
 induction l with
 | nil => rfl
 | cons a l ih =>
  rw [List.filter_cons,List.filter_cons]
  cases p a <;> simp <;> omega
theorem zg8 {n : Nat} : ∀ {l : List Nat},l.Nodup → (∀ u ∈ l,u < n) → l.length ≤ n := by
 induction n with
 | zero =>
  intro l _ h
  cases l with
  | nil => exact Nat.le_refl _
  | cons a l => exact absurd (h a List.mem_cons_self) (by omega)
 | succ n ih =>
  intro l hn h
  have h1 := ih (l := l.filter fun u => !(u == n)) (hn.filter _) (fun u hu => by
   rw [List.mem_filter] at hu
   have := h u hu.1
   have h2 : ¬ u = n := by simpa using hu.2
   omega)
  have h2 : l.length ≤ (l.filter fun u => !(u == n)).length + 1 := by
   have e := ztR (fun u => u == n) l
   have h3 : (l.filter fun u => u == n).length ≤ 1 := by
    rw [← List.countP_eq_length_filter]
    exact List.nodup_iff_count.1 hn n
   omega
  omega
theorem zu8 (K : Nat → List Int) (n : Nat) : (zlI K n).length = 2 * (zs6 K n).L.length ∧ (zs6 K n).L.length ≤ n ∧ (zs6 K n).m = (zlI K n).length := by
 have g := zr0 K n
 have h1 := jI5 (zlI K n) (st0 n)
 have h1 : (zs6 K n).m = 0 + (zlI K n).length := h1
 have h2 := g.cnt
 have h3 := g.P0
 rw [h3] at h2
 simp at h2
 exact ⟨by omega,zg8 g.nod g.lt,by omega⟩
end Go.Vc

namespace Go.Vc
open Go.Proofs
set_option maxRecDepth 10000
set_option maxHeartbeats 4000000
def zXL (l : List zXN) (i : Nat) : List Int := (l.getD i zXK.dflt).2.2.2.2.2.2
def evs (l : List zXN) : List Ev := zlI (zXL l) l.length
def jDA (e : Ev) : SV := .agg [.int .i64 e.1,.int .i64 e.2.1,.flt e.2.2.1,.bool e.2.2.2]
def frm (p : Nat × Nat) : Int × Int := ((p.1 : Int),(p.2 : Int))
def zbX (p : List (Nat × Nat)) : List (Int × Int) := (p.map frm).reverse
def jJ8 (l : List zXN) : List (Nat × Nat) → Nat
 | [] => 0
 | (i,j) :: _ => (zXL l i).length - j
def bigT (l : List zXN) : Nat := ((List.range l.length).map fun i => (zXL l i).length).sum + 2
instance oWalk (l : List zXN) : Fn BB 49 [.agg [.rd zXK l]] True (.fn 57 [.el (.sl zXK) [l] 0 0]) := by
 refine Fn.intro (N := 4) [0,1,2] [] Try.call49 Try.func49 rfl rfl (by kernel_rfl) (fun hpre => ?_)
 all_goals exact vcA
structure WI (l : List zXN) (p : List (Nat × Nat)) (s : List Bool) (m : Nat) : Prop where
 e : (evs l).drop m = zfL (zXL l) p s m
 s : s.length = l.length
 pn : ∀ q ∈ p,q.1 < l.length
 mle : m ≤ (evs l).length
 m1 : 1 ≤ m
 pl : p.length ≤ m
theorem jAZ {l : List zXN} (h : 0 < l.length) : evs l = (0, -1,0,false) :: zfL (zXL l) [(0,0)] ((List.replicate l.length false).set 0 true) 1 := by
 unfold evs zlI;rw [if_neg (by omega)]
theorem zbY (q : Nat × Nat) (r : List (Nat × Nat)) : zbX (q :: r) = zbX r ++ [frm q] := by unfold zbX;rw [List.map_cons,List.reverse_cons]
theorem zZY (p : List (Nat × Nat)) : (zbX p).length = p.length := by unfold zbX;simp
theorem zvT (q : Nat × Nat) (r : List (Nat × Nat)) (d : Int × Int) : (zbX (q :: r)).getD r.length d = frm q := by
 rw [zbY,List.getD_eq_getElem?_getD,List.getElem?_append_right (by rw [zZY];omega)]
 simp [zZY]
theorem zy7 (l : List zXN) (i : Nat) : (List.getD l i zXK.dflt).2.2.2.2.2.2 = zXL l i := rfl
theorem jHC (i j : Nat) (rest : List (Nat × Nat)) : (((zbX ((i,j) :: rest)).length : Int) - 1).toNat = rest.length := by rw [zZY,List.length_cons];omega
theorem topD (i j : Nat) (rest : List (Nat × Nat)) (d : Int × Int) : (zbX ((i,j) :: rest)).getD (((zbX ((i,j) :: rest)).length : Int) - 1).toNat d = ((i : Int),(j : Int)) := by
 rw [jHC];exact zvT _ _ _
theorem setD (i j : Nat) (rest : List (Nat × Nat)) : (zbX ((i,j) :: rest)).set (((zbX ((i,j) :: rest)).length : Int) - 1).toNat ((i : Int),(j : Int) + 1) = zbX ((i,j + 1) :: rest) := by
 rw [jHC,zbY,zbY,List.set_append_right _ _ (by rw [zZY];omega),zZY]
 simp [frm]
theorem cutD (i j : Nat) (rest : List (Nat × Nat)) : (zbX ((i,j) :: rest)).take (((zbX ((i,j) :: rest)).length : Int) - 1).toNat = zbX rest := by
 rw [jHC,zbY,List.take_append_of_le_length (by rw [zZY];omega), ← zZY,List.take_length]
theorem appD (k : Int) (hk : 0 ≤ k) (rest : List (Nat × Nat)) : zbX rest ++ [(k,0)] = zbX ((k.toNat,0) :: rest) := by
 rw [zbY];unfold frm
 rw [show ((k.toNat : Nat) : Int) = k by omega];rfl
theorem drop_cons {α : Type} {l r : List α} {m : Nat} {a : α} (h : l.drop m = a :: r) : m < l.length ∧ (∀ d,l.getD m d = a) ∧ l.drop (m + 1) = r := by
 have hm : m < l.length := by
  rcases Nat.lt_or_ge m l.length with q | q
  ·exact q
  ·rw [List.drop_eq_nil_of_le q] at h;cases h
 rw [List.drop_eq_getElem_cons hm] at h
 injection h with h1 h2
 exact ⟨hm,fun d => by rw [List.getD_eq_getElem?_getD,List.getElem?_eq_getElem hm,h1];rfl,h2⟩
theorem jB2 : ∀ (m : List Nat) (x : Nat),x ∈ m → x ≤ m.sum := by
 intro m
 induction m with
 | nil => intro x hx;cases hx
 | cons a m ih =>
  intro x hx
  rw [List.sum_cons]
  rcases List.mem_cons.1 hx with e | e
  ·omega
  ·have := ih x e;omega
theorem jHT {s : List Bool} {n : Nat} {k : Int} (hs : s.length = n) (h : (decide (k < 0) || decide (k ≥ (n : Int)) || s.getD k.toNat false) = true) : okK s k = false := by
 unfold okK
 by_cases h1 : k < 0
 ·rw [decide_eq_false (by omega : ¬ 0 ≤ k)];rfl
 ·by_cases h2 : k ≥ (n : Int)
  ·have : s.getD k.toNat true = true := by rw [List.getD_eq_getElem?_getD,List.getElem?_eq_none (by omega)];rfl
   rw [this];simp
  ·rw [decide_eq_false h1,decide_eq_false h2] at h
   have hl : k.toNat < s.length := by omega
   have h3 : s.getD k.toNat false = true := by simpa using h
   have : s.getD k.toNat true = true := by
    rw [List.getD_eq_getElem?_getD,List.getElem?_eq_getElem hl] at h3 ⊢;exact h3
   rw [this];simp
theorem jIC {s : List Bool} {n : Nat} {k : Int} (hs : s.length = n) (h : (decide (k < 0) || decide (k ≥ (n : Int)) || s.getD k.toNat false) = false) : okK s k = true := by
 rw [Bool.or_eq_false_iff,Bool.or_eq_false_iff] at h
 have h1 := of_decide_eq_false h.1.1
 have h2 := of_decide_eq_false h.1.2
 have hl : k.toNat < s.length := by omega
 unfold okK
 rw [decide_eq_true (by omega : 0 ≤ k)]
 have h3 := h.2
 have : s.getD k.toNat true = false := by
  rw [List.getD_eq_getElem?_getD,List.getElem?_eq_getElem hl] at h3 ⊢;exact h3
 rw [this];rfl
theorem jA5 (l : List zXN) (i : Nat) : (zXL l i).length + 2 ≤ bigT l := by
 unfold bigT
 rcases Nat.lt_or_ge i l.length with h | h
 ·have := jB2 ((List.range l.length).map fun i => (zXL l i).length) (zXL l i).length (List.mem_map.2 ⟨i,List.mem_range.2 h,rfl⟩)
  omega
 ·have : zXL l i = [] := by unfold zXL;rw [List.getD_eq_getElem?_getD,List.getElem?_eq_none h];rfl
  rw [this];simp
theorem zu1 (l : List zXN) (p : List (Nat × Nat)) : jJ8 l p + 2 ≤ bigT l := by
 cases p with
 | nil => show 0 + 2 ≤ _;unfold bigT;omega
 | cons q r => obtain ⟨i,j⟩ := q;have := jA5 l i;show (zXL l i).length - j + 2 ≤ _;omega
theorem zzI {l : List zXN} {a b x y : Nat} (h : a + 1 ≤ b) (hx : x + 2 ≤ bigT l) : a * bigT l + x < b * bigT l + y := by
 have : (a + 1) * bigT l ≤ b * bigT l := Nat.mul_le_mul_right _ h
 rw [Nat.add_mul] at this
 omega
instance oIt (l : List zXN) : It BB 57 [.el (.sl zXK) [l] 0 0] (l.length ≤ 45) (evs l).length (fun i => [jDA ((evs l).getD i (0,0,0,false))]) := by
  refine It.intro (N := 118) [0,1,3,4,5,6,7,8,9,19,30,51,60,100,110] [(7,[0,1,0,0,0,1,3,3,3,3]),(12,[0,0,0,1,0,0,0,0,1,1,1,1,3])] 0 Try.call57 Try.func57 rfl rfl (by kernel_rfl) (fun hpre yl => ?_)
  repeat' ((conv => whnf);first|(with_reducible first|rfl|exact zXT|exact zXS)|exact True.intro|intro _|refine WA ?_ ?_|refine WF ?_|refine W1 rfl ?_ ?_|refine W2 rfl ?_ ?_|refine W3 rfl ?_ ?_|refine W4 ?_ ?_|refine W5 rfl ?_ ?_|refine W6 ?_ ?_|refine WN ?_|refine X1 (W1 rfl ?_ ?_)|refine X1 (W2 rfl ?_ ?_)|refine X2 (W7 rfl ?_ ?_)|refine X3 (W7 rfl ?_ ?_)|refine X4 (W7 rfl ?_ ?_)|refine X5 (W7 rfl ?_ ?_))
  all_goals (try (conv => whnf))
  all_goals (try simp only [List.getD_cons_zero] at *)
  all_goals (try first|exact obA|refine Ob.mk ?_)
  all_goals (try (have hz : l.length = 0 := by have h := ‹((l.length : Int) == 0) = true›;rw [beq_iff_eq] at h;omega))
  all_goals (try (have hz : 0 < l.length := by have h := ‹((l.length : Int) == 0) = false›;rw [beq_eq_false_iff_ne] at h;omega))
  all_goals (try (have he := jAZ hz))
  all_goals (try (exfalso;have h := ‹(false || !true) = true›;cases h;done))
  all_goals (try (exfalso;have h := ‹(false || !false) = false›;cases h;done))
  · rw [he,List.length_cons];omega
  · rw [he];rfl
  · rw [he];rfl
  · rw [he];rfl
  · rw [he];rfl
  · rw [List.length_replicate];constructor <;> omega
  · rw [List.length_replicate];show 0 < _;omega
  have hE : (evs l).length ≤ 90 := by
    have := zu8 (zXL l) l.length
    show (zlI (zXL l) l.length).length ≤ 90
    omega
  refine LoopStop.mk (α := List (Nat × Nat) × List Bool × Nat) (fun a => [(3,.own 0),(4,.flt a.2.2),(5,.own 1)]) (fun a => [(GID,.gh (some a.2.2)),(0,.own .bool a.2.1),(1,.own jFN (zbX a.1))]) 40
    (fun a => WI l a.1 a.2.1 a.2.2) (fun a => (zfL (zXL l) a.1 a.2.1 a.2.2).length * bigT l + jJ8 l a.1) ([(0,0)],(List.replicate l.length false).set 0 true,1) ⟨by rw [he];rfl,by simp,(fun q hq => by simp at hq;subst hq;exact hz),(by show 1 ≤ _;rw [he,List.length_cons];omega),Nat.le_refl _,Nat.le_refl _⟩ ?_ (fun a ha => ?_)
  · repeat' ((conv => whnf);first|(with_reducible first|rfl|exact zXT|exact zXS)|exact True.intro|intro _|refine WA ?_ ?_|refine WF ?_|refine W1 rfl ?_ ?_|refine W2 rfl ?_ ?_|refine W3 rfl ?_ ?_|refine W4 ?_ ?_|refine W5 rfl ?_ ?_|refine W6 ?_ ?_|refine WN ?_|refine X1 (W1 rfl ?_ ?_)|refine X1 (W2 rfl ?_ ?_)|refine X2 (W7 rfl ?_ ?_)|refine X3 (W7 rfl ?_ ?_)|refine X4 (W7 rfl ?_ ?_)|refine X5 (W7 rfl ?_ ?_))
    all_goals (try (conv => whnf))
    all_goals (try first|exact obA|refine Ob.mk ?_)
    all_goals (try rfl)
    all_goals trace_state
  · obtain ⟨p,s,m⟩ := a
    dsimp only at ha ⊢
    cases p with
    | nil =>
      have hm : m = (evs l).length := by
        have h := congrArg List.length ha.e
        have h2 := ha.mle
        rw [List.length_drop] at h
        simp [zfL] at h
        omega
      repeat' ((conv => whnf);first|(with_reducible first|rfl|exact zXT|exact zXS)|exact True.intro|intro _|refine WA ?_ ?_|refine WF ?_|refine W1 rfl ?_ ?_|refine W2 rfl ?_ ?_|refine W3 rfl ?_ ?_|refine W4 ?_ ?_|refine W5 rfl ?_ ?_|refine W6 ?_ ?_|refine WN ?_|refine X1 (W1 rfl ?_ ?_)|refine X1 (W2 rfl ?_ ?_)|refine X2 (W7 rfl ?_ ?_)|refine X3 (W7 rfl ?_ ?_)|refine X4 (W7 rfl ?_ ?_)|refine X5 (W7 rfl ?_ ?_))
      all_goals (try (conv => whnf))
      all_goals (try first|exact obA|refine Ob.mk ?_)
      all_goals (try (exfalso;have h := of_decide_eq_true ‹decide (((zbX []).length : Int) > 0) = true›;revert h;decide))
      all_goals (first | exact hm | skip)
    | cons q rest =>
      obtain ⟨i,j⟩ := q
      have hin : i < l.length := ha.pn (i,j) List.mem_cons_self
      have hml := ha.mle
      have hm1 := ha.m1
      have hpl : rest.length + 1 ≤ m := ha.pl
      have hek := ha.e
      have hsl := ha.s
      repeat' ((conv => whnf);first|(with_reducible first|rfl|exact zXT|exact zXS)|exact True.intro|intro _|refine WA ?_ ?_|refine WF ?_|refine W1 rfl ?_ ?_|refine W2 rfl ?_ ?_|refine W3 rfl ?_ ?_|refine W4 ?_ ?_|refine W5 rfl ?_ ?_|refine W6 ?_ ?_|refine WN ?_|refine X1 (W1 rfl ?_ ?_)|refine X1 (W2 rfl ?_ ?_)|refine X2 (W7 rfl ?_ ?_)|refine X3 (W7 rfl ?_ ?_)|refine X4 (W7 rfl ?_ ?_)|refine X5 (W7 rfl ?_ ?_))
      all_goals (try (conv => whnf))
      all_goals (try first|exact obA|refine Ob.mk ?_)
      all_goals (try simp only [List.getD_cons_zero] at *)
      all_goals (try simp only [topD] at *)
      all_goals (try simp only [Int.toNat_natCast,zy7,setD,cutD] at *)
      all_goals (try (exfalso;have h := of_decide_eq_false ‹decide (((zbX ((i,j) :: rest)).length : Int) > 0) = false›;rw [zZY,List.length_cons] at h;omega))
      all_goals (try (exfalso;have h := ‹(!true) = true›;cases h;done))
      all_goals (try (exfalso;have h := ‹(!false) = false›;cases h;done))
      all_goals (try (have hj : ¬ j < (zXL l i).length := by have h := of_decide_eq_true ‹decide ((j : Int) ≥ ((zXL l i).length : Int)) = true›;omega))
      all_goals (try (have hj : j < (zXL l i).length := by have h := of_decide_eq_false ‹decide ((j : Int) ≥ ((zXL l i).length : Int)) = false›;omega))
      all_goals (try (rw [zrB hj] at hek;obtain ⟨d1,d2,d3⟩ := drop_cons hek))
      · exact ⟨by omega,by omega⟩
      · exact d1
      · rw [d2]
      · rw [d2]
      · rw [d2]
      · rw [d2]
      · have hr := zu1 l rest
        refine Rnd.mk ⟨(rest,s,m + 1),⟨by rw [d3],hsl,fun q hq => ha.pn q (List.mem_cons_of_mem _ hq),(by show m + 1 ≤ _;omega),(by show 1 ≤ m + 1;omega),(by show rest.length ≤ m + 1;omega)⟩,?_,?_⟩
        · dsimp only
          rw [zrB hj,List.length_cons]
          exact zzI (Nat.le_refl _) hr
        · repeat' ((conv => whnf);first|(with_reducible first|rfl|exact zXT|exact zXS)|exact True.intro|intro _|refine WA ?_ ?_|refine WF ?_|refine W1 rfl ?_ ?_|refine W2 rfl ?_ ?_|refine W3 rfl ?_ ?_|refine W4 ?_ ?_|refine W5 rfl ?_ ?_|refine W6 ?_ ?_|refine WN ?_|refine X1 (W1 rfl ?_ ?_)|refine X1 (W2 rfl ?_ ?_)|refine X2 (W7 rfl ?_ ?_)|refine X3 (W7 rfl ?_ ?_)|refine X4 (W7 rfl ?_ ?_)|refine X5 (W7 rfl ?_ ?_))
          all_goals (try (conv => whnf))
          all_goals (try first|exact obA|refine Ob.mk ?_)
          all_goals (try rfl)
          all_goals trace_state
      · have hj : j < (zXL l i).length := by
          have h := of_decide_eq_false ‹decide ((j : Int) ≥ ((zXL l i).length : Int)) = false›
          omega
        exact ⟨by omega,by show (j : Int) < ((zXL l i).length : Int);omega⟩
      · have hk : (zXL l i).length ≤ 9223372036854775807 := by assumption
        constructor <;> omega
      · have h : (decide ((zXL l i).getD j 0 < 0) || decide ((zXL l i).getD j 0 ≥ (l.length : Int))) = false := by assumption
        rw [Bool.or_eq_false_iff] at h
        have h1 := of_decide_eq_false h.1
        have h2 := of_decide_eq_false h.2
        show 0 ≤ (zXL l i).getD j 0 ∧ (zXL l i).getD j 0 < (s.length : Int)
        omega
      · have h : (decide ((zXL l i).getD j 0 < 0) || decide ((zXL l i).getD j 0 ≥ (l.length : Int))) = false := by assumption
        rw [Bool.or_eq_false_iff] at h
        have h1 := of_decide_eq_false h.1
        have h2 := of_decide_eq_false h.2
        show ((zXL l i).getD j 0).toNat < s.length
        omega
      · have hc : (decide ((zXL l i).getD j 0 < 0) || decide ((zXL l i).getD j 0 ≥ (l.length : Int)) || s.getD ((zXL l i).getD j 0).toNat false) = true := by assumption
        have hk := jHT hsl hc
        rw [zrE hj hk] at hek
        refine Rnd.mk ⟨((i,j + 1) :: rest,s,m),⟨hek,hsl,(fun q hq => (by rcases List.mem_cons.1 hq with e | e;(subst e;exact hin);exact ha.pn q (List.mem_cons_of_mem _ e))),hml,hm1,ha.pl⟩,?_,?_⟩
        · dsimp only
          rw [zrE hj hk]
          show _ + ((zXL l i).length - (j + 1)) < _ + ((zXL l i).length - j)
          omega
        · all_goals exact vcA
      all_goals (try (have hc : (decide ((zXL l i).getD j 0 < 0) || decide ((zXL l i).getD j 0 ≥ (l.length : Int)) || s.getD ((zXL l i).getD j 0).toNat false) = false := by assumption))
      all_goals (have hk := jIC hsl hc)
      all_goals (have hks := zYG hk)
      all_goals (rw [ztY hj hk] at hek;obtain ⟨d1,d2,d3⟩ := drop_cons hek)
      · exact ⟨hks.1,by show (zXL l i).getD j 0 < (s.length : Int);omega⟩
      · exact hks.2.1
      · exact d1
      · rw [d2];show (zXL l i).getD j 0 = _;dsimp only;omega
      · rw [d2]
      · rw [d2]
      · rw [d2]
      · simp only [cast_eq]
        have := zZY ((i,j + 1) :: rest)
        rw [this]
        simp
        omega
      · refine Rnd.mk ⟨((((zXL l i).getD j 0).toNat,0) :: (i,j + 1) :: rest,s.set ((zXL l i).getD j 0).toNat true,m + 1),⟨d3,by rw [List.length_set];exact hsl,(fun q hq => ?_),(by show m + 1 ≤ _;omega),(by show 1 ≤ m + 1;omega),(by show rest.length + 1 + 1 ≤ m + 1;omega)⟩,?_,?_⟩
        · rcases List.mem_cons.1 hq with e | e
          · subst e;show _ < l.length;have := hks.2.1;omega
          · rcases List.mem_cons.1 e with e | e
            · subst e;exact hin
            · exact ha.pn q (List.mem_cons_of_mem _ e)
        · dsimp only
          rw [ztY hj hk,List.length_cons]
          exact zzI (Nat.le_refl _) (zu1 l _)
        · repeat' ((conv => whnf);first|(with_reducible first|rfl|exact zXT|exact zXS)|exact True.intro|intro _|refine WA ?_ ?_|refine WF ?_|refine W1 rfl ?_ ?_|refine W2 rfl ?_ ?_|refine W3 rfl ?_ ?_|refine W4 ?_ ?_|refine W5 rfl ?_ ?_|refine W6 ?_ ?_|refine WN ?_|refine X1 (W1 rfl ?_ ?_)|refine X1 (W2 rfl ?_ ?_)|refine X2 (W7 rfl ?_ ?_)|refine X3 (W7 rfl ?_ ?_)|refine X4 (W7 rfl ?_ ?_)|refine X5 (W7 rfl ?_ ?_))
          all_goals (try (conv => whnf))
          all_goals (try first|exact obA|refine Ob.mk ?_)
          all_goals (try rfl)
          · show Chunk.own jFN _ = Chunk.own jFN _
            rw [← appD _ hks.1]
            rfl
  · have : evs l = [] := by unfold evs zlI;rw [if_pos hz]
    rw [this];rfl
end Go.Vc

namespace Go.Vc
open Go.Proofs
set_option maxRecDepth 10000
set_option maxHeartbeats 4000000
noncomputable abbrev BN : Base := { BB with np := fun t => bif Nat.beq t 40 then some 6 else none }
instance toN_fn {f : FuncId} {args : List SV} {pre : Prop} {res : SV} [h : Fn BB f args pre res] : Fn BN f args pre res := ⟨h.call,h.ok⟩
instance toN_fnM {f : FuncId} {args : List SV} {Φ : Phi} {pre : Prop} {res : SV} {Φ' : Phi} [h : FnM BB f args Φ pre res Φ'] : FnM BN f args Φ pre res Φ' := ⟨h.call,h.ok⟩
def pPre (t out : List zXN) (s : List Bool) (k : Int) : Prop := zYL t = true ∧ s.length = t.length ∧ (0 ≤ k ∧ k < t.length) ∧ out.length + unseen (s.set k.toNat true) + 1 ≤ 5000
theorem jGY {q : List Bool} {n : Nat} (hq : q.length = n) (k : Int) : (decide (k ≥ 0) && decide (k < (n : Int)) && !q.getD k.toNat false) = okK q k := by
  unfold okK
  by_cases h1 : k < 0
  · rw [decide_eq_false (by omega : ¬ k ≥ 0)];rfl
  · rw [decide_eq_true (by omega : k ≥ 0)]
    by_cases h2 : k < (n : Int)
    · rw [decide_eq_true h2]
      have hl : k.toNat < q.length := by omega
      simp [List.getD,hl]
    · have : q.getD k.toNat true = true := by
        rw [List.getD_eq_getElem?_getD,List.getElem?_eq_none (by omega)];rfl
      rw [decide_eq_false h2,this];rfl
theorem zjO (o : List zXN) (p : Nat) (k : Int) (h : p < o.length) : ((zX8 o p k).getD p zXK.dflt).kids = (o.getD p zXK.dflt).kids ++ [k] := by
 unfold zX8
 rw [List.getD_eq_getElem?_getD,List.getElem?_set,if_pos rfl,if_pos h];rfl
theorem zv1 (o : List zXN) (n : Nat) (k : Int) (h : n < o.length) :
  (o.set n ((o.getD n zXK.dflt).1,(o.getD n zXK.dflt).2.1,(o.getD n zXK.dflt).2.2.1,(o.getD n zXK.dflt).2.2.2.1,(o.getD n zXK.dflt).2.2.2.2.1,(o.getD n zXK.dflt).2.2.2.2.2.1,(o.getD n zXK.dflt).2.2.2.2.2.2 ++ [k])).set n
   ((o.set n ((o.getD n zXK.dflt).1,(o.getD n zXK.dflt).2.1,(o.getD n zXK.dflt).2.2.1,(o.getD n zXK.dflt).2.2.2.1,(o.getD n zXK.dflt).2.2.2.2.1,(o.getD n zXK.dflt).2.2.2.2.2.1,(o.getD n zXK.dflt).2.2.2.2.2.2 ++ [k])).getD n zXK.dflt) = zX8 o n k := by
 rw [List.set_set]
 unfold zX8
 congr 1
 rw [List.getD_eq_getElem?_getD,List.getElem?_set,if_pos rfl,if_pos h]
 rfl
end Go.Vc

namespace Go.Vc
open Go.Proofs
set_option maxRecDepth 10000
def okI (n : Nat) (i : Int) : Prop := 0 ≤ i ∧ i < n
structure Ti (n : Nat) (U : Int → Int) (K : Int → List Int) : Prop where
 pos : 0 < n
 root : U 0 = -1
 kid : ∀ i,okI n i → ∀ k ∈ K i,okI n k ∧ U k = i
 up : ∀ i,okI n i → U i = -1 ∨ (okI n (U i) ∧ (K (U i)).count i = 1)
 dep : ∃ d : Int → Nat,∀ i,okI n i → U i ≠ -1 → d (U i) < d i
inductive Ds (U : Int → Int) (r : Int) : Int → Prop
 | here : Ds U r r
 | up {x : Int} : U x ≠ -1 → Ds U r (U x) → Ds U r x
theorem znX {l : List Int} {p q : Int → Bool} (h : ∀ x ∈ l,p x = true → q x = true) (y : Int) (hy : y ∈ l) (hp : p y = false) (hq : q y = true) : l.countP p < l.countP q := by
 induction l with
 | nil => cases hy
 | cons a l ih =>
  have hle : l.countP p ≤ l.countP q := List.countP_mono_left fun x hx => h x (List.mem_cons_of_mem _ hx)
  rw [List.countP_cons,List.countP_cons]
  rcases List.mem_cons.1 hy with rfl | hy
  ·rw [hp,hq];simp;omega
  ·have := ih (fun x hx => h x (List.mem_cons_of_mem _ hx)) hy
   have ha := h a List.mem_cons_self
   cases hpa : p a
   ·simp;omega
   ·rw [ha hpa];simp;omega
theorem Ti.rank {n : Nat} {U : Int → Int} {K : Int → List Int} (h : Ti n U K) : ∃ d : Int → Nat,(∀ i,okI n i → d i < n) ∧ ∀ i,okI n i → U i ≠ -1 → d (U i) < d i := by
 obtain ⟨d,hd⟩ := h.dep
 let L : List Int := (List.range n).map fun (k : Nat) => (k : Int)
 have hL : ∀ i,okI n i → i ∈ L := fun i hi => List.mem_map.2 ⟨i.toNat,List.mem_range.2 (by have := hi.2;have := hi.1;omega),by have := hi.1;omega⟩
 refine ⟨fun i => L.countP fun y => decide (d y < d i),fun i hi => ?_,fun i hi hu => ?_⟩
 ·have h1 : L.countP (fun y => decide (d y < d i)) < L.countP (fun _ => true) := znX (fun _ _ _ => rfl) i (hL i hi) (decide_eq_false (Nat.lt_irrefl _)) rfl
  have h2 : L.countP (fun _ => true) = n := by simp [L]
  show L.countP (fun y => decide (d y < d i)) < n
  omega
 ·have hd := hd i hi hu
  rcases h.up i hi with q | q
  ·exact absurd q hu
  ·exact znX (fun x _ hx => decide_eq_true (Nat.lt_trans (of_decide_eq_true hx) hd)) (U i) (hL _ q.1) (decide_eq_false (Nat.lt_irrefl _)) (decide_eq_true hd)
theorem Ds.le {n : Nat} {U : Int → Int} {K : Int → List Int} (h : Ti n U K) {d : Int → Nat} (hd : ∀ i,okI n i → U i ≠ -1 → d (U i) < d i) {r x : Int} (s : Ds U r x) : okI n x → d r ≤ d x := by
 induction s with
 | here => intro _;exact Nat.le_refl _
 | @up x hu _ ih =>
  intro hx
  rcases h.up x hx with q | q
  ·exact absurd q hu
  ·exact Nat.le_trans (ih q.1) (Nat.le_of_lt (hd x hx hu))
theorem Ds.self {n : Nat} {U : Int → Int} {K : Int → List Int} (h : Ti n U K) {r : Int} (hr : okI n r) (hu : U r ≠ -1) : ¬ Ds U r (U r) := by
 obtain ⟨d,hd⟩ := h.dep
 intro s
 rcases h.up r hr with q | q
 ·exact hu q
 ·have h1 := s.le h hd q.1
  have h2 := hd r hr hu
  omega
theorem zq4 {n : Nat} {U : Int → Int} {K : Int → List Int} (h : Ti n U K) {i k : Int} (hi : okI n i) : k ∈ K i ↔ okI n k ∧ U k = i := by
 refine ⟨h.kid i hi k,fun ⟨hk,e⟩ => ?_⟩
 rcases h.up k hk with q | q
 ·have := hi.1;omega
 ·have h2 := q.2
  rw [e] at h2
  exact List.count_pos_iff.1 (by omega)
theorem zx7 {n : Nat} {U : Int → Int} {K : Int → List Int} (h : Ti n U K) {i : Int} (hi : okI n i) (k : Int) : (K i).count k ≤ 1 := by
 by_cases hk : k ∈ K i
 ·have hk' := (zq4 h hi).1 hk
  rcases h.up k hk'.1 with q | q
  ·have := hi.1;omega
  ·have h2 := q.2;rw [hk'.2] at h2;omega
 ·rw [List.count_eq_zero_of_not_mem hk];omega
theorem ziW : ∀ (n : Nat) (l : List Int),(∀ x ∈ l,0 ≤ x ∧ x < (n : Int)) → (∀ x,l.count x ≤ 1) → l.length ≤ n
 | 0,l,h,_ => by
  cases l with
  | nil => exact Nat.le_refl _
  | cons a l => have := h a List.mem_cons_self;omega
 | n + 1,l,h,h1 => by
  have h2 := ziW n (l.erase (n : Int)) (fun x hx => by
   have hm := h x (List.mem_of_mem_erase hx)
   have : x ≠ (n : Int) := fun e => by
    subst e
    have := List.count_pos_iff.2 hx
    rw [List.count_erase_self] at this
    have := h1 (n : Int);omega
   omega) (fun x => Nat.le_trans (List.Sublist.count_le _ List.erase_sublist) (h1 x))
  have h3 := List.length_erase (a := (n : Int)) (l := l)
  split at h3 <;> omega
theorem Ti.len {n : Nat} {U : Int → Int} {K : Int → List Int} (h : Ti n U K) {i : Int} (hi : okI n i) : (K i).length ≤ n :=
 ziW n (K i) (fun x hx => (h.kid i hi x hx).1) (zx7 h hi)
theorem Ti.add {n : Nat} {U U' : Int → Int} {K K' : Int → List Int} (h : Ti n U K) (hU : ∀ i,okI n i → U' i = U i) (hK : ∀ i,okI n i → K' i = K i) (hn : U' n = -1) (hk : K' n = []) : Ti (n + 1) U' K' := by
 have hs : ∀ i,okI (n + 1) i → okI n i ∨ i = n := fun i hi => by have := hi.1;have := hi.2;rcases Int.lt_or_le i n with q | q;exact .inl ⟨by omega,by omega⟩;exact .inr (by omega)
 have ho : ∀ i,okI n i → okI (n + 1) i := fun i hi => ⟨hi.1,by have := hi.2;omega⟩
 have h0 : okI n 0 := ⟨by omega,by have := h.pos;omega⟩
 obtain ⟨d,hd⟩ := h.dep
 refine ⟨by omega,by rw [hU 0 h0];exact h.root,fun i hi k hk' => ?_,fun i hi => ?_,d,fun i hi hu => ?_⟩
 ·rcases hs i hi with q | rfl
  ·rw [hK i q] at hk'
   have := h.kid i q k hk'
   exact ⟨ho _ this.1,by rw [hU _ this.1];exact this.2⟩
  ·rw [hk] at hk';cases hk'
 ·rcases hs i hi with q | rfl
  ·rw [hU i q]
   rcases h.up i q with q' | q'
   ·exact .inl q'
   ·exact .inr ⟨ho _ q'.1,by rw [hK _ q'.1];exact q'.2⟩
  ·exact .inl hn
 ·rcases hs i hi with q | rfl
  ·rw [hU i q] at hu ⊢;exact hd i q hu
  ·exact absurd hn hu
theorem Ti.congr {n : Nat} {U U' : Int → Int} {K K' : Int → List Int} (h : Ti n U K) (hU : ∀ i,okI n i → U' i = U i) (hK : ∀ i,okI n i → K' i = K i) : Ti n U' K' := by
 have h0 : okI n 0 := ⟨by omega,by have := h.pos;omega⟩
 obtain ⟨d,hd⟩ := h.dep
 refine ⟨h.pos,by rw [hU 0 h0];exact h.root,fun i hi k hk' => ?_,fun i hi => ?_,d,fun i hi hu => ?_⟩
 ·rw [hK i hi] at hk'
  have := h.kid i hi k hk'
  exact ⟨this.1,by rw [hU k this.1];exact this.2⟩
 ·rw [hU i hi]
  rcases h.up i hi with q | q
  ·exact .inl q
  ·exact .inr ⟨q.1,by rw [hK _ q.1];exact q.2⟩
 ·rw [hU i hi] at hu ⊢;exact hd i hi hu
theorem Ti.cut {n : Nat} {U U' : Int → Int} {K K' : Int → List Int} (h : Ti n U K) {kid : Int} (hk : okI n kid) (hu : U kid ≠ -1) (hU : ∀ i,okI n i → U' i = if i = kid then -1 else U i) (hK : ∀ i,okI n i → i ≠ U kid → K' i = K i)
  (hKp : ∀ k,(K' (U kid)).count k + (if k = kid then 1 else 0) = (K (U kid)).count k) : Ti n U' K' := by
 have h0 : okI n 0 := ⟨by omega,by have := h.pos;omega⟩
 have hp : okI n (U kid) ∧ (K (U kid)).count kid = 1 := (h.up kid hk).resolve_left hu
 obtain ⟨d,hd⟩ := h.dep
 have hne : ∀ i,okI n i → ∀ k,k ∈ K' i → k ∈ K i ∧ k ≠ kid := fun i hi k hk' => by
  by_cases e : i = U kid
  ·subst e
   have h1 := List.count_pos_iff.2 hk'
   have h2 := hKp k
   by_cases e' : k = kid
   ·subst e';rw [if_pos rfl,hp.2] at h2;omega
   ·rw [if_neg e'] at h2
    exact ⟨List.count_pos_iff.1 (by omega),e'⟩
  ·rw [hK i hi e] at hk'
   refine ⟨hk',fun e' => ?_⟩
   subst e'
   exact e (h.kid i hi _ hk').2.symm
 refine ⟨h.pos,?_,fun i hi k hk' => ?_,fun i hi => ?_,d,fun i hi hu' => ?_⟩
 ·rw [hU 0 h0];split
  ·rfl
  ·exact h.root
 ·obtain ⟨a,b⟩ := hne i hi k hk'
  have := h.kid i hi k a
  exact ⟨this.1,by rw [hU k this.1,if_neg b];exact this.2⟩
 ·rw [hU i hi]
  split
  ·exact .inl rfl
  ·rename_i e
   rcases h.up i hi with q | q
   ·exact .inl q
   ·refine .inr ⟨q.1,?_⟩
    by_cases e2 : U i = U kid
    ·have h2 := hKp i
     rw [if_neg e,Nat.add_zero] at h2
     rw [e2,h2, ← e2];exact q.2
    ·rw [hK _ q.1 e2];exact q.2
 ·rw [hU i hi] at hu' ⊢
  split at hu'
  ·exact absurd rfl hu'
  ·rename_i e;rw [if_neg e];exact hd i hi hu'
open Classical in
theorem Ti.put {n : Nat} {U U' : Int → Int} {K K' : Int → List Int} (h : Ti n U K) {kid p : Int} (hk : okI n kid) (hk0 : kid ≠ 0) (hp : okI n p) (hu : U kid = -1) (hd' : ¬ Ds U kid p) (hU : ∀ i,okI n i → U' i = if i = kid then p else U i)
  (hK : ∀ i,okI n i → i ≠ p → K' i = K i) (hKp : ∀ k,(K' p).count k = (K p).count k + if k = kid then 1 else 0) : Ti n U' K' := by
 have h0 : okI n 0 := ⟨by omega,by have := h.pos;omega⟩
 obtain ⟨d,hd⟩ := h.dep
 have hno : kid ∉ K p := fun q => by have := (h.kid p hp _ q).2;have := hp.1;omega
 refine ⟨h.pos,by rw [hU 0 h0,if_neg (Ne.symm hk0)];exact h.root,fun i hi k hk' => ?_,fun i hi => ?_,fun x => if Ds U kid x then d x + d p + 1 else d x,fun i hi hu' => ?_⟩
 ·by_cases e : i = p
  ·subst e
   have hc := List.count_pos_iff.2 hk'
   rw [hKp] at hc
   by_cases ek : k = kid
   ·subst ek;exact ⟨hk,by rw [hU k hk,if_pos rfl]⟩
   ·rw [if_neg ek] at hc
    have := h.kid i hi k (List.count_pos_iff.1 (by omega))
    exact ⟨this.1,by rw [hU k this.1,if_neg ek];exact this.2⟩
  ·rw [hK i hi e] at hk'
   have := h.kid i hi k hk'
   exact ⟨this.1,by rw [hU k this.1,if_neg (fun ek => by subst ek;have := hi.1;omega)];exact this.2⟩
 ·rw [hU i hi]
  split
  ·rename_i e
   subst e
   exact .inr ⟨hp,by rw [hKp,if_pos rfl,List.count_eq_zero_of_not_mem hno]⟩
  ·rename_i e
   rcases h.up i hi with q | q
   ·exact .inl q
   ·refine .inr ⟨q.1,?_⟩
    by_cases eq : U i = p
    ·rw [eq,hKp,if_neg e,Nat.add_zero, ← eq];exact q.2
    ·rw [hK _ q.1 eq];exact q.2
 ·rw [hU i hi] at hu' ⊢
  by_cases e : i = kid
  ·subst e
   simp only [if_true]
   rw [if_neg hd',if_pos Ds.here];omega
  ·rw [if_neg e] at hu' ⊢
   have hlt := hd i hi hu'
   have hiff : Ds U kid i ↔ Ds U kid (U i) := ⟨fun s => by cases s with | here => exact absurd rfl e | up _ s => exact s,fun s => .up hu' s⟩
   simp only
   by_cases hs : Ds U kid i
   ·rw [if_pos hs,if_pos (hiff.1 hs)];omega
   ·rw [if_neg hs,if_neg (fun q => hs (hiff.2 q))];exact hlt
open Classical in
theorem Ti.move {n : Nat} {U U' : Int → Int} {K K' : Int → List Int} (h : Ti n U K) {a b : Int} (ha : okI n a) (hb : okI n b) (hd' : ¬ Ds U a b) (hU : ∀ i,okI n i → U' i = if i ∈ K a then b else U i)
    (hKa : K' a = []) (hKb : K' b = K b ++ K a) (hK : ∀ i,okI n i → i ≠ a → i ≠ b → K' i = K i) : Ti n U' K' := by
  have h0 : okI n 0 := ⟨by omega,by have := h.pos;omega⟩
  have hab : b ≠ a := fun e => hd' (by rw [e];exact .here)
  obtain ⟨d,hd⟩ := h.dep
  have hm : ∀ i,okI n i → (i ∈ K a ↔ U i = a) := fun i hi => by rw [zq4 h ha];exact ⟨fun q => q.2,fun q => ⟨hi,q⟩⟩
  have hU2 : ∀ i,okI n i → U' i = if U i = a then b else U i := fun i hi => by
    rw [hU i hi]
    by_cases q : i ∈ K a
    · rw [if_pos q,if_pos ((hm i hi).1 q)]
    · rw [if_neg q,if_neg (fun e => q ((hm i hi).2 e))]
  refine ⟨h.pos,by rw [hU2 0 h0,h.root,if_neg (by have := ha.1;omega)],fun i hi k hk' => ?_,fun i hi => ?_,fun x => if Ds U a x ∧ x ≠ a then d x + d b + 1 else d x,fun i hi hu' => ?_⟩
  · by_cases ea : i = a
    · subst ea;rw [hKa] at hk';cases hk'
    · by_cases eb : i = b
      · subst eb
        rw [hKb] at hk'
        rcases List.mem_append.1 hk' with q | q
        · have := h.kid i hi k q
          exact ⟨this.1,by rw [hU2 k this.1,this.2,if_neg hab]⟩
        · have := h.kid a ha k q
          exact ⟨this.1,by rw [hU2 k this.1,if_pos this.2]⟩
      · rw [hK i hi ea eb] at hk'
        have := h.kid i hi k hk'
        exact ⟨this.1,by rw [hU2 k this.1,this.2,if_neg ea]⟩
  · rw [hU2 i hi]
    by_cases e : U i = a
    · rw [if_pos e]
      refine .inr ⟨hb,?_⟩
      rw [hKb,List.count_append,List.count_eq_zero_of_not_mem (fun q => hab ((h.kid b hb i q).2.symm.trans e))]
      rcases h.up i hi with q | q
      · have := ha.1;omega
      · have h2 := q.2;rw [e] at h2;omega
    · rw [if_neg e]
      rcases h.up i hi with q | q
      · exact .inl q
      · refine .inr ⟨q.1,?_⟩
        by_cases eb : U i = b
        · rw [eb,hKb,List.count_append,List.count_eq_zero_of_not_mem (l := K a) (fun q' => e ((hm i hi).1 q'))]
          have h2 := q.2;rw [eb] at h2;omega
        · rw [hK _ q.1 e eb];exact q.2
  · rw [hU2 i hi] at hu' ⊢
    by_cases e : U i = a
    · rw [if_pos e]
      have hi2 : i ≠ a := fun q => by
        have hlt := hd i hi (by rw [e];have := ha.1;omega)
        rw [e,q] at hlt;omega
      simp only
      rw [if_neg (fun q => hd' q.1),if_pos ⟨.up (by rw [e];have := ha.1;omega) (by rw [e];exact .here),hi2⟩]
      omega
    · rw [if_neg e] at hu' ⊢
      have hlt := hd i hi hu'
      simp only
      by_cases hs : Ds U a i ∧ i ≠ a
      · have hs2 : Ds U a (U i) := by
          cases hs.1 with
          | here => exact absurd rfl hs.2
          | up _ s => exact s
        rw [if_pos hs,if_pos ⟨hs2,e⟩];omega
      · rw [if_neg hs]
        split
        · rename_i q
          by_cases hi2 : i = a
          · subst hi2
            exact absurd q.1 (Ds.self h hi hu')
          · exact absurd ⟨.up hu' q.1,hi2⟩ hs
        · exact hlt
end Go.Vc

namespace Go.Vc
open Go.Proofs
set_option maxRecDepth 10000
set_option maxHeartbeats 4000000
def zZC (t : List zXN) : List zXN := if t = [] then [zcM] else zg1 t (zXL t) [] (List.replicate t.length false) 0 (-1)
theorem zlJ (s : List Bool) : unseen s ≤ s.length := List.count_le_length
theorem zxQ {t : List zXN} (h0 : ((t.length : Int) == 0) = true) : zZC t = [zcM] := by
 have h1 : t.length = 0 := by have := eq_of_beq h0;omega
 unfold zZC;rw [if_pos (List.length_eq_zero_iff.1 h1)]
theorem jAH {t : List zXN} (h0 : ¬ ((t.length : Int) == 0) = true) : zZC t = zg1 t (zXL t) [] (List.replicate t.length false) 0 (-1) := by
 unfold zZC;rw [if_neg (fun h => h0 (by rw [h];rfl))]
end Go.Vc

namespace Go.Vc
open Go.Proofs
set_option maxRecDepth 10000
set_option maxHeartbeats 8000000
def jHH (t out : List zXN) (s : List Bool) (k : Int) (p : Nat) : Prop := zYL t = true ∧ s.length = t.length ∧ (0 ≤ k ∧ k < t.length) ∧ out.length + unseen (s.set k.toNat true) + 1 ≤ 5000 ∧ p < out.length ∧ (out.getD p zXK.dflt).kids.length ≤ 1000
theorem zwQ (out : List zXN) (p : Nat) (h : p < out.length) (x : zXN) (k : Int) : zX8 (out ++ [x]) p k = zX8 out p k ++ [x] := by
 unfold zX8
 rw [List.set_append,if_pos h,List.getD_eq_getElem?_getD,List.getElem?_append_left h, ← List.getD_eq_getElem?_getD]
theorem zjH {q : List Bool} {n : Nat} (hq : q.length = n) (k : Int) : (decide (0 ≤ k) && decide (k < (n : Int)) && !q.getD k.toNat false) = okK q k := jGY hq k
theorem jIY (N : Nat) : ∀ (t out : List zXN) (s : List Bool) (k : Int) (p : Nat),
  FnM BN 52 [.int .i64 k,.int .i64 (p : Int),.loc 0 0,.loc 2 0,.loc 4 0,.loc 5 0]
   [(0,.box [.own 1]),(1,.ow .bool s),(2,.box [.own 3]),(3,.nst zXK 6 out none),(4,.box [.rd zXK t]),(5,.box [.fn 52 [.loc 0 0,.loc 2 0,.loc 4 0,.loc 5 0]])]
   (jHH t out s k p ∧ unseen (s.set k.toNat true) < N) (.tup [])
   [(0,.box [.own 1]),(1,.ow .bool (zqY (zXL t) s k.toNat)),(2,.box [.own 3]),(3,.nst zXK 6 (zg1 t (zXL t) (zX8 out p out.length) s k.toNat p) none),(4,.box [.rd zXK t]),(5,.box [.fn 52 [.loc 0 0,.loc 2 0,.loc 4 0,.loc 5 0]])] := by
 induction N with
 | zero => intro t out s k p;exact ⟨Try.call52,fun h => absurd h.2 (Nat.not_lt_zero _)⟩
 | succ N ih =>
  intro t out s k p
  refine FnM.intro (N := 84) [0,1,2,3,4,5,8,9,11,37,57,58,59,60,78] [(6,[0,7,0,0,7,0,4,4,4,0,4,4,4,4,4]),(3000006,[454,519,712,714,844,907,909])] 6 Try.call52 Try.func52 rfl rfl (by kernel_rfl) (fun hpre => ?_)
  obtain ⟨⟨hsm,hsl,hk,hlen,hp,hpk⟩,hN⟩ := hpre
  repeat' ((conv => whnf);first|(with_reducible first|rfl|exact zXT|exact zXS)|exact True.intro|intro _|refine WA ?_ ?_|refine WF ?_|refine W1 rfl ?_ ?_|refine W2 rfl ?_ ?_|refine W3 rfl ?_ ?_|refine W4 ?_ ?_|refine W5 rfl ?_ ?_|refine W6 ?_ ?_|refine WN ?_|refine X1 (W1 rfl ?_ ?_)|refine X1 (W2 rfl ?_ ?_)|refine X2 (W7 rfl ?_ ?_)|refine X3 (W7 rfl ?_ ?_)|refine X4 (W7 rfl ?_ ?_)|refine X5 (W7 rfl ?_ ?_))
  all_goals (try (conv => whnf))
  all_goals (try first|exact obA|refine Ob.mk ?_)
  all_goals (try simp only [zuD,zqR,zv9,zqM,List.length_singleton] at *)
  ·exact Nat.le_trans (zb4 hsm k (zYW.2 hk)).1 (by decide)
  ·have hl1 : (out ++ [mkN (t.getD k.toNat zXK.dflt) (p : Int)]).length = out.length + 1 := by rw [List.length_append];rfl
   have hpl : p < (out ++ [mkN (t.getD k.toNat zXK.dflt) (p : Int)]).length := by omega
   have hgp : (out ++ [mkN (t.getD k.toNat zXK.dflt) (p : Int)]).getD p zXK.dflt = out.getD p zXK.dflt := by
    rw [List.getD_eq_getElem?_getD,List.getElem?_append_left hp, ← List.getD_eq_getElem?_getD]
   refine ZStop.mk [] [(3,.nst zXK 6 (zX8 (out ++ [mkN (t.getD k.toNat zXK.dflt) (p : Int)]) p out.length) none)] 60 ?_
   have o1 : Ob (0 ≤ (p : Int) ∧ (p : Int) < ((out ++ [mkN (t.getD k.toNat zXK.dflt) (p : Int)]).length : Int)) := Ob.mk ⟨by omega,by omega⟩
   have o2 : Ob ((p : Int).toNat < (out ++ [mkN (t.getD k.toNat zXK.dflt) (p : Int)]).length) := Ob.mk (by omega)
   have o3 : Ob ((p : Int).toNat < (out ++ [mkN (t.getD k.toNat zXK.dflt) (p : Int)]).length ∧ (((out ++ [mkN (t.getD k.toNat zXK.dflt) (p : Int)]).getD (p : Int).toNat zXK.dflt).kids.length + 1) * 8 ≤ 70368744177664 ∧ ((out ++ [mkN (t.getD k.toNat zXK.dflt) (p : Int)]).getD (p : Int).toNat zXK.dflt).kids.length + 1 ≤ 70368744177664) := Ob.mk (by rw [Int.toNat_natCast,hgp];exact ⟨by omega,by omega,by omega⟩)
   repeat' ((conv => whnf);first|(with_reducible first|rfl|exact zXT|exact zXS)|exact True.intro|intro _|refine WA ?_ ?_|refine WF ?_|refine W1 rfl ?_ ?_|refine W2 rfl ?_ ?_|refine W3 rfl ?_ ?_|refine W4 ?_ ?_|refine W5 rfl ?_ ?_|refine W6 ?_ ?_|refine WN ?_|refine X1 (W1 rfl ?_ ?_)|refine X1 (W2 rfl ?_ ?_)|refine X2 (W7 rfl ?_ ?_)|refine X3 (W7 rfl ?_ ?_)|refine X4 (W7 rfl ?_ ?_)|refine X5 (W7 rfl ?_ ?_))
   all_goals (try (conv => whnf))
   all_goals (first | exact o1 | exact o2 | exact o3 | exact Ob.mk rfl | (refine Ob.mk ?_;rw [List.length_set];first | exact o1.h | exact o2.h) | skip)
   any_goals (refine Rnd.mk (p := ze1 _ _ _ _ _) ?_)
   repeat' ((conv => whnf);first|(with_reducible first|rfl|exact zXT|exact zXS)|exact True.intro|intro _|refine WA ?_ ?_|refine WF ?_|refine W1 rfl ?_ ?_|refine W2 rfl ?_ ?_|refine W3 rfl ?_ ?_|refine W4 ?_ ?_|refine W5 rfl ?_ ?_|refine W6 ?_ ?_|refine WN ?_|refine X1 (W1 rfl ?_ ?_)|refine X1 (W2 rfl ?_ ?_)|refine X2 (W7 rfl ?_ ?_)|refine X3 (W7 rfl ?_ ?_)|refine X4 (W7 rfl ?_ ?_)|refine X5 (W7 rfl ?_ ?_))
   all_goals (try (conv => whnf))
   all_goals (try exact congrArg (fun l => Chunk.nst zXK 6 l none) (zv1 (out ++ [mkN (t.getD k.toNat zXK.dflt) (p : Int)]) p out.length hpl))
   ·exact Ob.mk hk
   have hoa := zwQ out p hp (mkN (t.getD k.toNat zXK.dflt) (p : Int)) out.length
   have hpO : zg1 t (zXL t) (zX8 out p out.length) s k.toNat p = pS t (zXL t) (zX8 out p out.length ++ [mkN (t.getD k.toNat zXK.dflt) (p : Int)]) (s.set k.toNat true) out.length k.toNat 0 := by unfold zg1;rw [zYI]
   have hpS : zqY (zXL t) s k.toNat = sS (zXL t) (s.set k.toNat true) k.toNat 0 := rfl
   rw [hpO,hpS]
   refine LoopStop.mk (α := List zXN × List Bool × Nat) (fun a => [(59,.int .i64 a.2.2)]) (fun a => [(3,.nst zXK 6 a.1 none),(1,.ow .bool a.2.1)]) 20
    (fun a => pS t (zXL t) a.1 a.2.1 out.length k.toNat a.2.2 = pS t (zXL t) (zX8 out p out.length ++ [mkN (t.getD k.toNat zXK.dflt) (p : Int)]) (s.set k.toNat true) out.length k.toNat 0 ∧ sS (zXL t) a.2.1 k.toNat a.2.2 = sS (zXL t) (s.set k.toNat true) k.toNat 0 ∧ a.2.1.length = t.length ∧ a.1.length + unseen a.2.1 ≤ 5000 ∧
     out.length < a.1.length ∧ (a.1.getD out.length zXK.dflt).kids.length ≤ a.2.2 ∧ a.2.2 ≤ (zXL t k.toNat).length ∧ unseen a.2.1 ≤ N)
    (fun a => (zXL t k.toNat).length - a.2.2) (zX8 (out ++ [mkN (t.getD k.toNat zXK.dflt) (p : Int)]) p out.length,s.set k.toNat true,0)
    ⟨by rw [hoa],rfl,by simpa using hsl,by show (zX8 _ p _).length + unseen (s.set k.toNat true) ≤ 5000;rw [zYI];omega,by rw [zYI];omega,by
     rw [hoa,List.getD_eq_getElem?_getD,List.getElem?_append_right (by rw [zYI];omega),zYI,Nat.sub_self]
     simp [mkN,zXN.kids],Nat.zero_le _,by show unseen (s.set k.toNat true) ≤ N;omega⟩ ?_ (fun a ha => ?_)
   ·all_goals exact vcA
   ·obtain ⟨o,q,j⟩ := a
    dsimp only at ha ⊢
    obtain ⟨h1,h2,h3,h4,h5,h6,h7,h8⟩ := ha
    have hkl : (zXL t k.toNat).length ≤ 1000 := (zb4 hsm k (zYW.2 hk)).2
    repeat' ((conv => whnf);first|(with_reducible first|rfl|exact zXT|exact zXS)|exact True.intro|intro _|refine WA ?_ ?_|refine WF ?_|refine W1 rfl ?_ ?_|refine W2 rfl ?_ ?_|refine W3 rfl ?_ ?_|refine W4 ?_ ?_|refine W5 rfl ?_ ?_|refine W6 ?_ ?_|refine WN ?_|refine X1 (W1 rfl ?_ ?_)|refine X1 (W2 rfl ?_ ?_)|refine X2 (W7 rfl ?_ ?_)|refine X3 (W7 rfl ?_ ?_)|refine X4 (W7 rfl ?_ ?_)|refine X5 (W7 rfl ?_ ?_))
    all_goals (try (conv => whnf))
    all_goals (try first|exact obA|refine Ob.mk ?_)
    all_goals (try simp only [Int.toNat_natCast] at *)
    ·rename_i c1 c2 c3
     have hj : j < (zXL t k.toNat).length := by have h := of_decide_eq_true c2;exact Int.ofNat_lt.mp h
     have hc : okK q ((zXL t k.toNat).getD j 0) = true := by rw [← zjH h3];exact c3
     have hok := zYG hc
     have hu := zYE hok.2.2
     exact ⟨⟨hsm,h3,⟨hok.1,by have h := hok.2.1;rw [h3] at h;exact (by omega : (zXL t k.toNat).getD j 0 < (t.length : Int))⟩,by change o.length + unseen (q.set ((zXL t k.toNat).getD j 0).toNat true) + 1 ≤ _;omega,h5,by omega⟩,by change unseen (q.set ((zXL t k.toNat).getD j 0).toNat true) < N;omega⟩
    ·rename_i c1 c2 c3
     have hj : j < (zXL t k.toNat).length := by have h := of_decide_eq_true c2;exact Int.ofNat_lt.mp h
     have hc : okK q ((zXL t k.toNat).getD j 0) = true := by rw [← zjH h3];exact c3
     have hok := zYG hc
     have hu := zYE hok.2.2
     obtain ⟨e1,e2⟩ := jAN (t := t) (out := o) (p := out.length) hj hc
     rw [e1] at h1;rw [e2] at h2
     obtain ⟨l1,l2,l3,l4⟩ := zkK (t := t) (K := zXL t) (zX8 o out.length o.length) q ((zXL t k.toNat).getD j 0).toNat out.length
     rw [zYI] at l1 l2 l3
     refine Rnd.mk ⟨(zg1 t (zXL t) (zX8 o out.length o.length) q ((zXL t k.toNat).getD j 0).toNat out.length,zqY (zXL t) q ((zXL t k.toNat).getD j 0).toNat,j + 1),⟨h1,h2,l4.trans h3,by dsimp only;omega,by dsimp only;omega,?_,by show j + 1 ≤ _;omega,by dsimp only;omega⟩,by show _ - (j + 1) < _;omega,?_⟩
     ·dsimp only
      rw [l3 _ h5,zjO _ _ _ h5,List.length_append,List.length_singleton]
      exact Nat.succ_le_succ h6
     ·all_goals exact vcA
    ·rename_i c1 c2 c3
     have hj : j < (zXL t k.toNat).length := by have h := of_decide_eq_true c2;exact Int.ofNat_lt.mp h
     have hc : okK q ((zXL t k.toNat).getD j 0) = false := by rw [← zjH h3];exact c3
     obtain ⟨e1,e2⟩ := zvM (t := t) (out := o) (p := out.length) hj hc
     rw [e1] at h1;rw [e2] at h2
     refine Rnd.mk ⟨(o,q,j + 1),⟨h1,h2,h3,h4,h5,Nat.le_succ_of_le h6,by show j + 1 ≤ _;omega,h8⟩,by show _ - (j + 1) < _;omega,?_⟩
     all_goals exact vcA
    all_goals (rename_i c1 c2)
    all_goals (have hj : ¬ j < (zXL t k.toNat).length := by have h := of_decide_eq_false c2;exact fun q => h (Int.ofNat_lt.mpr q))
    all_goals (obtain ⟨e1,e2⟩ := zv6 (t := t) (out := o) (p := out.length) (s := q) hj;rw [e1] at h1;rw [e2] at h2)
    ·rw [h2]
    ·rw [h1]
  ·exact absurd (by omega : (p : Int) ≥ 0) (of_decide_eq_false ‹decide ((p : Int) ≥ 0) = false›)
end Go.Vc

namespace Go.Vc
open Go.Proofs
set_option maxRecDepth 10000
set_option maxHeartbeats 8000000
instance hCop (t out : List zXN) (s : List Bool) (k : Int) (p : Nat) :
  FnM BN 52 [.int .i64 k,.int .i64 (p : Int),.loc 0 0,.loc 2 0,.loc 4 0,.loc 5 0]
   [(0,.box [.own 1]),(1,.ow .bool s),(2,.box [.own 3]),(3,.nst zXK 6 out none),(4,.box [.rd zXK t]),(5,.box [.fn 52 [.loc 0 0,.loc 2 0,.loc 4 0,.loc 5 0]])]
   (jHH t out s k p) (.tup [])
   [(0,.box [.own 1]),(1,.ow .bool (zqY (zXL t) s k.toNat)),(2,.box [.own 3]),(3,.nst zXK 6 (zg1 t (zXL t) (zX8 out p out.length) s k.toNat p) none),(4,.box [.rd zXK t]),(5,.box [.fn 52 [.loc 0 0,.loc 2 0,.loc 4 0,.loc 5 0]])] :=
 have h := jIY (unseen (s.set k.toNat true) + 1) t out s k p
 ⟨h.call,fun hp => h.ok ⟨hp,Nat.lt_succ_self _⟩⟩
instance hCopZ (t out : List zXN) (s : List Bool) (k : Int) :
  FnM BN 52 [.int .i64 k,.int .i64 0,.loc 0 0,.loc 2 0,.loc 4 0,.loc 5 0]
   [(0,.box [.own 1]),(1,.ow .bool s),(2,.box [.own 3]),(3,.nst zXK 6 out none),(4,.box [.rd zXK t]),(5,.box [.fn 52 [.loc 0 0,.loc 2 0,.loc 4 0,.loc 5 0]])]
   (jHH t out s k 0) (.tup [])
   [(0,.box [.own 1]),(1,.ow .bool (zqY (zXL t) s k.toNat)),(2,.box [.own 3]),(3,.nst zXK 6 (zg1 t (zXL t) (zX8 out 0 out.length) s k.toNat 0) none),(4,.box [.rd zXK t]),(5,.box [.fn 52 [.loc 0 0,.loc 2 0,.loc 4 0,.loc 5 0]])] :=
 have h := hCop t out s k 0
 ⟨h.call,fun hp => h.ok hp⟩
instance hCop0 (t : List zXN) (s : List Bool) (k : Int) :
  FnM BN 52 [.int .i64 k,.int .i64 (-1),.loc 0 0,.loc 2 0,.loc 3 0,.loc 4 0]
   [(0,.box [.own 1]),(1,.own .bool s),(2,.box [.nils]),(3,.box [.rd zXK t]),(4,.box [.fn 52 [.loc 0 0,.loc 2 0,.loc 3 0,.loc 4 0]])]
   (pPre t [] s k) (.tup [])
   [(0,.box [.own 1]),(1,.ow .bool (zqY (zXL t) s k.toNat)),(2,.box [.own 5]),(5,.nst zXK 6 (zg1 t (zXL t) [] s k.toNat (-1)) none),(3,.box [.rd zXK t]),(4,.box [.fn 52 [.loc 0 0,.loc 2 0,.loc 3 0,.loc 4 0]])] := by
 refine FnM.intro (N := 84) [0,1,2,3,4,5,8,9,11,37,57,58,59,60,78] [(6,[0,7,0,0,7,0,4,4,4,0,4,4,4,4,4]),(3000006,[454,519,712,714,844,907,909]),(2000000,[1])] 5 Try.call52 Try.func52 rfl rfl (by kernel_rfl) (fun hpre => ?_)
 obtain ⟨hsm,hsl,hk,hlen⟩ := hpre
 simp only [List.length_nil,Nat.zero_add] at hlen
 repeat' ((conv => whnf);first|(with_reducible first|rfl|exact zXT|exact zXS)|exact True.intro|intro _|refine WA ?_ ?_|refine WF ?_|refine W1 rfl ?_ ?_|refine W2 rfl ?_ ?_|refine W3 rfl ?_ ?_|refine W4 ?_ ?_|refine W5 rfl ?_ ?_|refine W6 ?_ ?_|refine AppN.ns ?_|refine X1 (W1 rfl ?_ ?_)|refine X1 (W2 rfl ?_ ?_)|refine X2 (W7 rfl ?_ ?_)|refine X3 (W7 rfl ?_ ?_)|refine X4 (W7 rfl ?_ ?_)|refine X5 (W7 rfl ?_ ?_))
 all_goals (try (conv => whnf))
 all_goals (try first|exact obA|refine Ob.mk ?_)
 all_goals (try simp only [zuD,zqR,zv9,zqM,List.length_singleton] at *)
 ·exact Nat.le_trans (zb4 hsm k (zYW.2 hk)).1 (by decide)
 ·exact absurd ‹decide ((-1 : Int) ≥ 0) = true› (by decide)
 have hpO : zg1 t (zXL t) [] s k.toNat (-1) = pS t (zXL t) ([] ++ [mkN (t.getD k.toNat zXK.dflt) (-1)]) (s.set k.toNat true) 0 k.toNat 0 := rfl
 have hpS : zqY (zXL t) s k.toNat = sS (zXL t) (s.set k.toNat true) k.toNat 0 := rfl
 rw [hpO,hpS]
 refine LoopStop.mk (α := List zXN × List Bool × Nat) (fun a => [(59,.int .i64 a.2.2)]) (fun a => [(7,.nst zXK 6 a.1 none),(1,.ow .bool a.2.1)]) 20
  (fun a => pS t (zXL t) a.1 a.2.1 0 k.toNat a.2.2 = pS t (zXL t) ([] ++ [mkN (t.getD k.toNat zXK.dflt) (-1)]) (s.set k.toNat true) 0 k.toNat 0 ∧ sS (zXL t) a.2.1 k.toNat a.2.2 = sS (zXL t) (s.set k.toNat true) k.toNat 0 ∧ a.2.1.length = t.length ∧ a.1.length + unseen a.2.1 ≤ 5000 ∧
   0 < a.1.length ∧ (a.1.getD 0 zXK.dflt).kids.length ≤ a.2.2 ∧ a.2.2 ≤ (zXL t k.toNat).length)
  (fun a => (zXL t k.toNat).length - a.2.2) ([] ++ [mkN (t.getD k.toNat zXK.dflt) (-1)],s.set k.toNat true,0)
  ⟨rfl,rfl,by simpa using hsl,by simp only [List.length_append,List.length_singleton,List.length_nil];omega,by simp,by simp [mkN,zXN.kids],Nat.zero_le _⟩ ?_ (fun a ha => ?_)
 ·all_goals exact vcA
 ·obtain ⟨o,q,j⟩ := a
  dsimp only at ha ⊢
  obtain ⟨h1,h2,h3,h4,h5,h6,h7⟩ := ha
  have hkl : (zXL t k.toNat).length ≤ 1000 := (zb4 hsm k (zYW.2 hk)).2
  repeat' ((conv => whnf);first|(with_reducible first|rfl|exact zXT|exact zXS)|exact True.intro|intro _|refine WA ?_ ?_|refine WF ?_|refine W1 rfl ?_ ?_|refine W2 rfl ?_ ?_|refine W3 rfl ?_ ?_|refine W4 ?_ ?_|refine W5 rfl ?_ ?_|refine W6 ?_ ?_|refine WN ?_|refine X1 (W1 rfl ?_ ?_)|refine X1 (W2 rfl ?_ ?_)|refine X2 (W7 rfl ?_ ?_)|refine X3 (W7 rfl ?_ ?_)|refine X4 (W7 rfl ?_ ?_)|refine X5 (W7 rfl ?_ ?_))
  all_goals (try (conv => whnf))
  all_goals (try first|exact obA|refine Ob.mk ?_)
  all_goals (try simp only [Int.toNat_natCast] at *)
  ·rename_i c1 c2 c3
   have hj : j < (zXL t k.toNat).length := by have h := of_decide_eq_true c2;exact Int.ofNat_lt.mp h
   have hc : okK q ((zXL t k.toNat).getD j 0) = true := by rw [← zjH h3];exact c3
   have hok := zYG hc
   have hu := zYE hok.2.2
   exact ⟨hsm,h3,⟨hok.1,by have h := hok.2.1;rw [h3] at h;exact (by omega : (zXL t k.toNat).getD j 0 < (t.length : Int))⟩,by change o.length + unseen (q.set ((zXL t k.toNat).getD j 0).toNat true) + 1 ≤ _;omega,h5,by omega⟩
  ·rename_i c1 c2 c3
   have hj : j < (zXL t k.toNat).length := by have h := of_decide_eq_true c2;exact Int.ofNat_lt.mp h
   have hc : okK q ((zXL t k.toNat).getD j 0) = true := by rw [← zjH h3];exact c3
   have hok := zYG hc
   have hu := zYE hok.2.2
   obtain ⟨e1,e2⟩ := jAN (t := t) (out := o) (p := 0) hj hc
   rw [e1] at h1;rw [e2] at h2
   obtain ⟨l1,l2,l3,l4⟩ := zkK (t := t) (K := zXL t) (zX8 o 0 o.length) q ((zXL t k.toNat).getD j 0).toNat 0
   rw [zYI] at l1 l2 l3
   refine Rnd.mk ⟨(zg1 t (zXL t) (zX8 o 0 o.length) q ((zXL t k.toNat).getD j 0).toNat 0,zqY (zXL t) q ((zXL t k.toNat).getD j 0).toNat,j + 1),⟨h1,h2,l4.trans h3,by dsimp only;omega,by dsimp only;omega,?_,by show j + 1 ≤ _;omega⟩,by show _ - (j + 1) < _;omega,?_⟩
   ·dsimp only
    rw [l3 _ h5,zjO _ _ _ h5,List.length_append,List.length_singleton]
    exact Nat.succ_le_succ h6
   ·all_goals exact vcA
  ·rename_i c1 c2 c3
   have hj : j < (zXL t k.toNat).length := by have h := of_decide_eq_true c2;exact Int.ofNat_lt.mp h
   have hc : okK q ((zXL t k.toNat).getD j 0) = false := by rw [← zjH h3];exact c3
   obtain ⟨e1,e2⟩ := zvM (t := t) (out := o) (p := 0) hj hc
   rw [e1] at h1;rw [e2] at h2
   refine Rnd.mk ⟨(o,q,j + 1),⟨h1,h2,h3,h4,h5,Nat.le_succ_of_le h6,by show j + 1 ≤ _;omega⟩,by show _ - (j + 1) < _;omega,?_⟩
   all_goals exact vcA
  all_goals (rename_i c1 c2)
  all_goals (have hj : ¬ j < (zXL t k.toNat).length := by have h := of_decide_eq_false c2;exact fun q => h (Int.ofNat_lt.mpr q))
  all_goals (obtain ⟨e1,e2⟩ := zv6 (t := t) (out := o) (p := 0) (s := q) hj;rw [e1] at h1;rw [e2] at h2)
  all_goals (first | (rw [h2];done) | (rw [h1];done) | trace_state)
instance hCopied (t : List zXN) (k : Int) : FnM BN 35 [.agg [.rd zXK t],.int .i64 k] [] (zYL t = true ∧ 0 ≤ k ∧ k < t.length) (.agg [.own 0]) [(0,.nst zXK 6 (zg1 t (zXL t) [] (List.replicate t.length false) k.toNat (-1)) none)] := by
 refine FnM.intro (N := 17) [0,1,2,4,5,6,7] [] 0 Try.call35 Try.func35 rfl rfl (by kernel_rfl) (fun hpre => ?_)
 obtain ⟨hsm,hk⟩ := hpre
 have hl := zeW hsm
 have hu := zlJ ((List.replicate t.length false).set k.toNat true)
 rw [List.length_set,List.length_replicate] at hu
 repeat' ((conv => whnf);first|(with_reducible first|rfl|exact zXT|exact zXS)|exact True.intro|intro _|refine WA ?_ ?_|refine WF ?_|refine W1 rfl ?_ ?_|refine W2 rfl ?_ ?_|refine W3 rfl ?_ ?_|refine W4 ?_ ?_|refine W5 rfl ?_ ?_|refine W6 ?_ ?_|refine WN ?_|refine X1 (W1 rfl ?_ ?_)|refine X1 (W2 rfl ?_ ?_)|refine X2 (W7 rfl ?_ ?_)|refine X3 (W7 rfl ?_ ?_)|refine X4 (W7 rfl ?_ ?_)|refine X5 (W7 rfl ?_ ?_))
 all_goals (try (conv => whnf))
 all_goals (try first|exact obA|refine Ob.mk ?_)
 all_goals (try (refine ⟨by omega,Int.le_refl _,?_,by omega⟩;show (t.length : Int) * ((1 : Nat) : Int) ≤ _;omega))
 ·rw [Int.toNat_natCast]
  exact ⟨hsm,List.length_replicate,hk,by show 0 + unseen ((List.replicate t.length false).set k.toNat true) + 1 ≤ 5000;omega⟩
 all_goals (rw [Int.toNat_natCast])
end Go.Vc

namespace Go.Vc
open Go.Proofs
set_option maxRecDepth 10000
set_option maxHeartbeats 4000000
def fin (l : List zXN) : St := zs6 (zXL l) l.length
def zbL (l : List Nat) : List Int := List.map (fun u : Nat => (u : Int)) l
theorem zlS (l : List Nat) (v : Nat) : zbL (l ++ [v]) = zbL l ++ [(v : Int)] := by unfold zbL;rw [List.map_append];rfl
def stA (l : List zXN) (i : Nat) : St := (st0 l.length).run ((evs l).take i)
theorem jBX (l : List zXN) : stA l (evs l).length = fin l := by unfold stA fin zs6 evs;rw [List.take_length]
theorem zxM (l : List zXN) (i : Nat) (h : i < (evs l).length) : stA l (i + 1) = (stA l i).step ((evs l).getD i (0,0,0,false)) := by
 unfold stA
 rw [List.take_succ_eq_append_getElem h,zcS]
 have : (evs l).getD i (0,0,0,false) = (evs l)[i] := by simp [List.getD,List.getElem?_eq_getElem h]
 rw [this];rfl
theorem zsD {n : Nat} : ∀ {l : List Ev} {x : St} (i : Nat),ziK n x l → ziK n x (l.take i) := by
 intro l
 induction l with
 | nil => intro x i h;simp;exact h
 | cons e l ih =>
  intro x i h
  cases i with
  | zero => exact trivial
  | succ i => exact ⟨h.1,ih i h.2⟩
theorem zyL (l : List zXN) (i : Nat) : Good l.length (stA l i) := (jC2 _).run (zsD i (zwZ (zXL l) l.length).1)
theorem zzJ (x : St) (e : Ev) : (x.step e).L = if e.2.2.2 = true then x.L else x.L ++ [e.1] := by unfold St.step;split <;> rfl
instance oList (l : List zXN) : Fn BB 32 [.agg [.rd zXK l]] (l.length ≤ 45) (.rd zXR (zbL (fin l).L)) := by
 refine Fn.intro (N := 17) [0,1,2,3,4,6,7,10] [] Try.call32 Try.func32 rfl rfl (by kernel_rfl) (fun hpre => ?_)
 repeat' ((conv => whnf);first|(with_reducible first|rfl|exact zXT|exact zXS)|exact True.intro|intro _|refine WA ?_ ?_|refine WF ?_|refine W1 rfl ?_ ?_|refine W2 rfl ?_ ?_|refine W3 rfl ?_ ?_|refine W4 ?_ ?_|refine W5 rfl ?_ ?_|refine W6 ?_ ?_|refine WN ?_|refine X1 (W1 rfl ?_ ?_)|refine X1 (W2 rfl ?_ ?_)|refine X2 (W7 rfl ?_ ?_)|refine X3 (W7 rfl ?_ ?_)|refine X4 (W7 rfl ?_ ?_)|refine X5 (W7 rfl ?_ ?_))
 all_goals (try (conv => whnf))
 all_goals (try first|exact obA|refine Ob.mk ?_)
 have hEl : (evs l).length ≤ 90 := by
  have := zu8 (zXL l) l.length
  show (zlI (zXL l) l.length).length ≤ 90
  omega
 have hlen : ∀ i,(stA l i).L.length ≤ 45 := fun i => by
  have g := zyL l i
  have := zg8 g.nod g.lt
  omega
 refine RangeStop.mk (α := Nat) ⟨hpre⟩ rfl (fun i => [(1,.box [.own 20]),(20,.own zXR (zbL (stA l i).L))]) 30 (fun i k => k = i) 0 rfl ?_ (fun i k hC hi => ?_) (fun k hC => ?_)
 ·all_goals exact vcA
 ·subst hC
  have hs := zxM l k hi
  have hl := hlen k
  generalize he : (evs l).getD k (0,0,0,false) = e at *
  obtain ⟨v,up,c,lf⟩ := e
  cases lf
  ·repeat' ((conv => whnf);first|(with_reducible first|rfl|exact zXT|exact zXS)|exact True.intro|intro _|refine WA ?_ ?_|refine WF ?_|refine W1 rfl ?_ ?_|refine W2 rfl ?_ ?_|refine W3 rfl ?_ ?_|refine W4 ?_ ?_|refine W5 rfl ?_ ?_|refine W6 ?_ ?_|refine WN ?_|refine X1 (W1 rfl ?_ ?_)|refine X1 (W2 rfl ?_ ?_)|refine X2 (W7 rfl ?_ ?_)|refine X3 (W7 rfl ?_ ?_)|refine X4 (W7 rfl ?_ ?_)|refine X5 (W7 rfl ?_ ?_))
   all_goals (try (conv => whnf))
   all_goals (try first|exact obA|refine Ob.mk ?_)
   all_goals (try (exfalso;have h := ‹(!false) = false›;cases h;done))
   ·simp only [cast_eq];unfold zbL;simp;omega
   ·refine Rnd.mk ⟨k + 1,rfl,?_⟩
    repeat' ((conv => whnf);first|(with_reducible first|rfl|exact zXT|exact zXS)|exact True.intro|intro _|refine WA ?_ ?_|refine WF ?_|refine W1 rfl ?_ ?_|refine W2 rfl ?_ ?_|refine W3 rfl ?_ ?_|refine W4 ?_ ?_|refine W5 rfl ?_ ?_|refine W6 ?_ ?_|refine WN ?_|refine X1 (W1 rfl ?_ ?_)|refine X1 (W2 rfl ?_ ?_)|refine X2 (W7 rfl ?_ ?_)|refine X3 (W7 rfl ?_ ?_)|refine X4 (W7 rfl ?_ ?_)|refine X5 (W7 rfl ?_ ?_))
    all_goals (try (conv => whnf))
    all_goals (try first|exact obA|refine Ob.mk ?_)
    rw [hs,zzJ,if_neg (by simp),zlS]
    try simp only [cast_eq]
  ·repeat' ((conv => whnf);first|(with_reducible first|rfl|exact zXT|exact zXS)|exact True.intro|intro _|refine WA ?_ ?_|refine WF ?_|refine W1 rfl ?_ ?_|refine W2 rfl ?_ ?_|refine W3 rfl ?_ ?_|refine W4 ?_ ?_|refine W5 rfl ?_ ?_|refine W6 ?_ ?_|refine WN ?_|refine X1 (W1 rfl ?_ ?_)|refine X1 (W2 rfl ?_ ?_)|refine X2 (W7 rfl ?_ ?_)|refine X3 (W7 rfl ?_ ?_)|refine X4 (W7 rfl ?_ ?_)|refine X5 (W7 rfl ?_ ?_))
   all_goals (try (conv => whnf))
   all_goals (try first|exact obA|refine Ob.mk ?_)
   all_goals (try (exfalso;have h := ‹(!true) = true›;cases h;done))
   refine Rnd.mk ⟨k + 1,rfl,?_⟩
   repeat' ((conv => whnf);first|(with_reducible first|rfl|exact zXT|exact zXS)|exact True.intro|intro _|refine WA ?_ ?_|refine WF ?_|refine W1 rfl ?_ ?_|refine W2 rfl ?_ ?_|refine W3 rfl ?_ ?_|refine W4 ?_ ?_|refine W5 rfl ?_ ?_|refine W6 ?_ ?_|refine WN ?_|refine X1 (W1 rfl ?_ ?_)|refine X1 (W2 rfl ?_ ?_)|refine X2 (W7 rfl ?_ ?_)|refine X3 (W7 rfl ?_ ?_)|refine X4 (W7 rfl ?_ ?_)|refine X5 (W7 rfl ?_ ?_))
   all_goals (try (conv => whnf))
   all_goals (try first|exact obA|refine Ob.mk ?_)
   rw [hs,zzJ,if_pos rfl]
 ·subst hC
  rw [jBX]
  all_goals exact vcA
def flat (x : St) : List (Int × Int) := (List.range x.I.length).map fun u => (x.I.getD u (-1),x.O.getD u (-1))
theorem zx1 {α : Type} {a b : α} (i n : Nat) (h : i < n) : (List.replicate i a ++ List.replicate (n - i) b).set i a = List.replicate (i + 1) a ++ List.replicate (n - (i + 1)) b := by
 rw [List.set_append_right _ _ (by simp),List.length_replicate,Nat.sub_self]
 obtain ⟨m,hm⟩ : ∃ m,n - i = m + 1 := ⟨n - i - 1,by omega⟩
 rw [hm,List.replicate_succ,List.set_cons_zero,show n - (i + 1) = m by omega,List.replicate_succ']
 simp
end Go.Vc

namespace Go.Vc
open Go.Proofs
set_option maxRecDepth 10000
set_option maxHeartbeats 4000000
theorem zkI {a b : List Int} {i : Nat} (ha : i < a.length) (hb : i < b.length) (h : a.take i = b.take i) (h2 : a.getD i 0 = b.getD i 0) : a.take (i+1) = b.take (i+1) := by
 rw [take_snoc a i 0 ha,take_snoc b i 0 hb,h,h2]
instance aEq (a b : List Int) : Fn BB 47 [.rd zXR a,.rd zXR b] True (.bool (a == b)) := by
 refine Fn.intro (N := 26) [0,1,4,5,10,12,13,14,24] [(6,[0,0,1,1,0,0,1,1,3])] Try.call47 Try.func47 rfl rfl (by kernel_rfl) (fun hpre => ?_)
 repeat' ((conv => whnf);first|(with_reducible first|rfl|exact zXT|exact zXS)|exact True.intro|intro _|refine WA ?_ ?_|refine WF ?_|refine W1 rfl ?_ ?_|refine W2 rfl ?_ ?_|refine W3 rfl ?_ ?_|refine W4 ?_ ?_|refine W5 rfl ?_ ?_|refine W6 ?_ ?_|refine WN ?_|refine X1 (W1 rfl ?_ ?_)|refine X1 (W2 rfl ?_ ?_)|refine X2 (W7 rfl ?_ ?_)|refine X3 (W7 rfl ?_ ?_)|refine X4 (W7 rfl ?_ ?_)|refine X5 (W7 rfl ?_ ?_))
 all_goals (try (conv => whnf))
 all_goals (try first|exact obA|refine Ob.mk ?_)
 ·rename_i h
  have : ¬ a = b := by rintro rfl;simp at h
  simp [this]
 ·refine LoopStop.mk (α := Nat) (fun i => [(13,.int .i64 i)]) (fun i => []) 0 (fun i => i ≤ a.length ∧ a.take i = b.take i) (fun i => a.length - i) 0 (by simp) ?_ (fun i hi => ?_)
  ·repeat' ((conv => whnf);first|(with_reducible first|rfl|exact zXT|exact zXS)|exact True.intro|intro _|refine WA ?_ ?_|refine WF ?_|refine W1 rfl ?_ ?_|refine W2 rfl ?_ ?_|refine W3 rfl ?_ ?_|refine W4 ?_ ?_|refine W5 rfl ?_ ?_|refine W6 ?_ ?_|refine WN ?_|refine X1 (W1 rfl ?_ ?_)|refine X1 (W2 rfl ?_ ?_)|refine X2 (W7 rfl ?_ ?_)|refine X3 (W7 rfl ?_ ?_)|refine X4 (W7 rfl ?_ ?_)|refine X5 (W7 rfl ?_ ?_))
   all_goals (try (conv => whnf))
   all_goals (try rfl)
  ·repeat' ((conv => whnf);first|(with_reducible first|rfl|exact zXT|exact zXS)|exact True.intro|intro _|refine WA ?_ ?_|refine WF ?_|refine W1 rfl ?_ ?_|refine W2 rfl ?_ ?_|refine W3 rfl ?_ ?_|refine W4 ?_ ?_|refine W5 rfl ?_ ?_|refine W6 ?_ ?_|refine WN ?_|refine X1 (W1 rfl ?_ ?_)|refine X1 (W2 rfl ?_ ?_)|refine X2 (W7 rfl ?_ ?_)|refine X3 (W7 rfl ?_ ?_)|refine X4 (W7 rfl ?_ ?_)|refine X5 (W7 rfl ?_ ?_))
   all_goals (try (conv => whnf))
   all_goals (try first|exact obA|refine Ob.mk ?_)
   all_goals (try simp only [ZA,ZB,ZC,ZD,ZE,ZF,ZG,ZH,ZI,ZJ,ZK,ZL,ZM,ZN,ZO,Int.toNat_natCast,UInt8.ofNat_toNat,cast_eq] at *)
   all_goals (try omega)
   ·rename_i h
    have : ¬ a = b := by rintro rfl;exact h rfl
    simp [this]
   ·have h : i < a.length := by omega
    have h' : i < b.length := by omega
    refine Rnd.mk ⟨i + 1,?_,?_,?_⟩
    ·exact ⟨h,zkI h h' hi.2 ‹_›⟩
    ·omega
    ·all_goals exact vcA
   ·have e : i = a.length := by omega
    subst e
    have h2 := hi.2
    have h3 : b.length ≤ a.length := by omega
    rw [List.take_of_length_le (Nat.le_refl _),List.take_of_length_le h3] at h2
    rw [h2];simp
end Go.Vc

namespace Go.Vc
open Go.Proofs
set_option maxRecDepth 10000
set_option maxHeartbeats 8000000
instance sTidyN (t : List zXN) : FnM BN 15 [.agg [.rd zXK t]] [] (zYL t = true) (.agg [.rd zXK (zZC t)]) [] := by
 refine FnM.intro (N := 10) [0,1,2,6] [] 0 Try.call15 Try.func15 rfl rfl (by kernel_rfl) (fun hpre => ?_)
 repeat' ((conv => whnf);first|(with_reducible first|rfl|exact zXT|exact zXS)|exact True.intro|intro _|refine WA ?_ ?_|refine WF ?_|refine W1 rfl ?_ ?_|refine W2 rfl ?_ ?_|refine W3 rfl ?_ ?_|refine W4 ?_ ?_|refine W5 rfl ?_ ?_|refine W6 ?_ ?_|refine WN ?_|refine X1 (W1 rfl ?_ ?_)|refine X1 (W2 rfl ?_ ?_)|refine X2 (W7 rfl ?_ ?_)|refine X3 (W7 rfl ?_ ?_)|refine X4 (W7 rfl ?_ ?_)|refine X5 (W7 rfl ?_ ?_))
 all_goals (try (conv => whnf))
 all_goals (try first|exact obA|refine Ob.mk ?_)
 ·rw [zxQ ‹_›]
 all_goals (have h0 : ¬ ((t.length : Int) == 0) = true := by rw [show ((t.length : Int) == 0) = false from by assumption];decide)
 ·exact ⟨hpre,Int.le_refl 0,by have : ¬ (t.length : Int) = 0 := fun e => h0 (beq_iff_eq.2 e);omega⟩
 ·rw [jAH h0];rfl
instance sTidy (t : List zXN) : FnM BB 15 [.agg [.rd zXK t]] [] (zYL t = true) (.agg [.rd zXK (zZC t)]) [] :=
 have h := sTidyN t
 ⟨h.call,h.ok⟩
theorem zkD {a b : List zbZ} {i : Nat} (ha : i < a.length) (hb : i < b.length) (h : a.take i = b.take i) (h2 : a.getD i zZL.dflt = b.getD i zZL.dflt) : a.take (i+1) = b.take (i+1) := by
 rw [take_snoc a i zZL.dflt ha,take_snoc b i zZL.dflt hb,h,h2]
instance sEqA (a b : List zbZ) : Fn BB 48 [.rd zZL a,.rd zZL b] True (.bool (eqB a b)) := by
 refine Fn.intro (N := 26) [0,1,4,5,10,12,13,14,24] [(6,[0,0,1,1,0,0,1,1,3])] Try.call48 Try.func48 rfl rfl (by kernel_rfl) (fun hpre => ?_)
 repeat' ((conv => whnf);first|(with_reducible first|rfl|exact zXT|exact zXS)|exact True.intro|intro _|refine WA ?_ ?_|refine WF ?_|refine W1 rfl ?_ ?_|refine W2 rfl ?_ ?_|refine W3 rfl ?_ ?_|refine W4 ?_ ?_|refine W5 rfl ?_ ?_|refine W6 ?_ ?_|refine WN ?_|refine X1 (W1 rfl ?_ ?_)|refine X1 (W2 rfl ?_ ?_)|refine X2 (W7 rfl ?_ ?_)|refine X3 (W7 rfl ?_ ?_)|refine X4 (W7 rfl ?_ ?_)|refine X5 (W7 rfl ?_ ?_))
 all_goals (try (conv => whnf))
 all_goals (try first|exact obA|refine Ob.mk ?_)
 ·rename_i h
  refine zeZ fun e => ?_
  subst e
  simp at h
 ·refine LoopStop.mk (α := Nat) (fun i => [(13,.int .i64 i)]) (fun i => []) 0 (fun i => i ≤ a.length ∧ a.take i = b.take i) (fun i => a.length - i) 0 (by simp) ?_ (fun i hi => ?_)
  ·repeat' ((conv => whnf);first|(with_reducible first|rfl|exact zXT|exact zXS)|exact True.intro|intro _|refine WA ?_ ?_|refine WF ?_|refine W1 rfl ?_ ?_|refine W2 rfl ?_ ?_|refine W3 rfl ?_ ?_|refine W4 ?_ ?_|refine W5 rfl ?_ ?_|refine W6 ?_ ?_|refine WN ?_|refine X1 (W1 rfl ?_ ?_)|refine X1 (W2 rfl ?_ ?_)|refine X2 (W7 rfl ?_ ?_)|refine X3 (W7 rfl ?_ ?_)|refine X4 (W7 rfl ?_ ?_)|refine X5 (W7 rfl ?_ ?_))
   all_goals (try (conv => whnf))
   all_goals (try rfl)
  ·repeat' ((conv => whnf);first|(with_reducible first|rfl|exact zXT|exact zXS)|exact True.intro|intro _|refine WA ?_ ?_|refine WF ?_|refine W1 rfl ?_ ?_|refine W2 rfl ?_ ?_|refine W3 rfl ?_ ?_|refine W4 ?_ ?_|refine W5 rfl ?_ ?_|refine W6 ?_ ?_|refine WN ?_|refine X1 (W1 rfl ?_ ?_)|refine X1 (W2 rfl ?_ ?_)|refine X2 (W7 rfl ?_ ?_)|refine X3 (W7 rfl ?_ ?_)|refine X4 (W7 rfl ?_ ?_)|refine X5 (W7 rfl ?_ ?_))
   all_goals (try (conv => whnf))
   all_goals (try first|exact obA|refine Ob.mk ?_)
   all_goals (simp only [decide_eq_true_eq,decide_eq_false_iff_not,bne_eq_false_iff_eq,bne_iff_ne,ne_eq,Bool.not_eq_true',Bool.not_eq_false',Bool.and_true,Int.toNat_natCast] at *)
   ·rename_i h
    refine zeZ fun e => ?_
    subst e
    simp at h
   ·rename_i h
    simp only [Bool.and_eq_true,beq_iff_eq] at h
    have hil : i < a.length := by omega
    refine Rnd.mk ⟨i + 1,?_,?_,?_⟩
    ·exact ⟨by omega,zkD hil (by omega) hi.2 (Prod.ext h.1 h.2)⟩
    ·omega
    ·all_goals exact vcA
   ·have hk : i = a.length := by omega
    subst hk
    have ha := hi.2
    rw [List.take_length,List.take_of_length_le (by omega)] at ha
    exact zq8 ha
instance sAlike (k s : Int) (nm : List UInt8) (at_ : List zbZ) (d : List UInt8) (up : Int) (kids : List Int) (k' s' : Int) (nm' : List UInt8) (at_' : List zbZ) (d' : List UInt8) (up' : Int) (kids' : List Int) :
  Fn BB 31 [.agg [.int .i64 k,.int .i64 s,.str nm,.rd zZL at_,.str d,.int .i64 up,.rd zXR kids],.agg [.int .i64 k',.int .i64 s',.str nm',.rd zZL at_',.str d',.int .i64 up',.rd zXR kids']]
   True (.bool (eqB (α := zXN) (k,s,nm,at_,d,up,kids) (k',s',nm',at_',d',up',kids'))) := by
 refine Fn.intro (N := 52) [0,1,2,3,4] [] Try.call31 Try.func31 rfl rfl (by kernel_rfl) (fun hpre => ?_)
 repeat' ((conv => whnf);first|(with_reducible first|rfl|exact zXT|exact zXS)|exact True.intro|intro _|refine WA ?_ ?_|refine WF ?_|refine W1 rfl ?_ ?_|refine W2 rfl ?_ ?_|refine W3 rfl ?_ ?_|refine W4 ?_ ?_|refine W5 rfl ?_ ?_|refine W6 ?_ ?_|refine WN ?_|refine X1 (W1 rfl ?_ ?_)|refine X1 (W2 rfl ?_ ?_)|refine X2 (W7 rfl ?_ ?_)|refine X3 (W7 rfl ?_ ?_)|refine X4 (W7 rfl ?_ ?_)|refine X5 (W7 rfl ?_ ?_))
 all_goals (try (conv => whnf))
 all_goals (try first|exact obA|refine Ob.mk ?_)
 all_goals (
  unfold eqB
  rw [Bool.eq_iff_iff]
  simp only [Bool.and_eq_true,beq_iff_eq,decide_eq_true_eq,Prod.mk.injEq]
  constructor
  ·rintro ⟨⟨⟨⟨⟨⟨h1,h2⟩,h3⟩,h4⟩,h5⟩,h6⟩,h7⟩;exact ⟨h1,h2,h3,h7,h4,h5,h6⟩
  ·rintro ⟨h1,h2,h3,h7,h4,h5,h6⟩;exact ⟨⟨⟨⟨⟨⟨h1,h2⟩,h3⟩,h4⟩,h5⟩,h6⟩,h7⟩)
theorem zkR {a b : List zXN} {i : Nat} (ha : i < a.length) (hb : i < b.length) (h : a.take i = b.take i) (h2 : a.getD i zXK.dflt = b.getD i zXK.dflt) : a.take (i+1) = b.take (i+1) := by
 rw [take_snoc a i zXK.dflt ha,take_snoc b i zXK.dflt hb,h,h2]
instance sEqF (a b : List zXN) : Fn BB 30 [.rd zXK a,.rd zXK b,.fn 31 []] True (.bool (eqB a b)) := by
 refine Fn.intro (N := 32) [0,1,2,6,7,8,9,14,15,16,17,18,30] [] Try.call30 Try.func30 rfl rfl (by kernel_rfl) (fun hpre => ?_)
 repeat' ((conv => whnf);first|(with_reducible first|rfl|exact zXT|exact zXS)|exact True.intro|intro _|refine WA ?_ ?_|refine WF ?_|refine W1 rfl ?_ ?_|refine W2 rfl ?_ ?_|refine W3 rfl ?_ ?_|refine W4 ?_ ?_|refine W5 rfl ?_ ?_|refine W6 ?_ ?_|refine WN ?_|refine X1 (W1 rfl ?_ ?_)|refine X1 (W2 rfl ?_ ?_)|refine X2 (W7 rfl ?_ ?_)|refine X3 (W7 rfl ?_ ?_)|refine X4 (W7 rfl ?_ ?_)|refine X5 (W7 rfl ?_ ?_))
 all_goals (try (conv => whnf))
 all_goals (try first|exact obA|refine Ob.mk ?_)
 ·rename_i h
  refine zeZ fun e => ?_
  subst e
  simp at h
 ·refine LoopStop.mk (α := Nat) (fun i => [(17,.int .i64 i)]) (fun i => []) 20 (fun i => i ≤ a.length ∧ a.take i = b.take i) (fun i => a.length - i) 0 (by simp) ?_ (fun i hi => ?_)
  ·repeat' ((conv => whnf);first|(with_reducible first|rfl|exact zXT|exact zXS)|exact True.intro|intro _|refine WA ?_ ?_|refine WF ?_|refine W1 rfl ?_ ?_|refine W2 rfl ?_ ?_|refine W3 rfl ?_ ?_|refine W4 ?_ ?_|refine W5 rfl ?_ ?_|refine W6 ?_ ?_|refine WN ?_|refine X1 (W1 rfl ?_ ?_)|refine X1 (W2 rfl ?_ ?_)|refine X2 (W7 rfl ?_ ?_)|refine X3 (W7 rfl ?_ ?_)|refine X4 (W7 rfl ?_ ?_)|refine X5 (W7 rfl ?_ ?_))
   all_goals (try (conv => whnf))
   all_goals (try rfl)
  ·repeat' ((conv => whnf);first|(with_reducible first|rfl|exact zXT|exact zXS)|exact True.intro|intro _|refine WA ?_ ?_|refine WF ?_|refine W1 rfl ?_ ?_|refine W2 rfl ?_ ?_|refine W3 rfl ?_ ?_|refine W4 ?_ ?_|refine W5 rfl ?_ ?_|refine W6 ?_ ?_|refine WN ?_|refine X1 (W1 rfl ?_ ?_)|refine X1 (W2 rfl ?_ ?_)|refine X2 (W7 rfl ?_ ?_)|refine X3 (W7 rfl ?_ ?_)|refine X4 (W7 rfl ?_ ?_)|refine X5 (W7 rfl ?_ ?_))
   all_goals (try (conv => whnf))
   all_goals (try first|exact obA|refine Ob.mk ?_)
   all_goals (simp only [decide_eq_true_eq,decide_eq_false_iff_not,bne_eq_false_iff_eq,bne_iff_ne,ne_eq,Bool.not_eq_true',Bool.not_eq_false',Bool.and_true,Int.toNat_natCast] at *)
   all_goals (try omega)
   ·rename_i h
    have h := jCM.1 h
    refine zeZ fun e => h ?_
    rw [e]
   ·rename_i h
    have h := zw1.1 h
    have hil : i < a.length := by omega
    refine Rnd.mk ⟨i + 1,?_,?_,?_⟩
    ·exact ⟨by omega,zkR hil (by omega) hi.2 h⟩
    ·omega
    ·all_goals exact vcA
   ·have hk : i = a.length := by omega
    subst hk
    have ha := hi.2
    rw [List.take_length,List.take_of_length_le (by omega)] at ha
    exact zq8 ha
instance sSame (a b : List zXN) : Fn BB 10 [.agg [.rd zXK a],.agg [.rd zXK b]] (zYL a = true ∧ zYL b = true) (.bool (eqB (zZC a) (zZC b))) := by
 refine Fn.intro (N := 12) [0,1,2,3,4] [(1,[1,1,1,1,1,1,3,3])] Try.call10 Try.func10 rfl rfl (by kernel_rfl) (fun hpre => ?_)
 obtain ⟨h1,h2⟩ := hpre
 repeat' ((conv => whnf);first|(with_reducible first|rfl|exact zXT|exact zXS)|exact True.intro|intro _|refine WA ?_ ?_|refine WF ?_|refine W1 rfl ?_ ?_|refine W2 rfl ?_ ?_|refine W3 rfl ?_ ?_|refine W4 ?_ ?_|refine W5 rfl ?_ ?_|refine W6 ?_ ?_|refine WN ?_|refine X1 (W1 rfl ?_ ?_)|refine X1 (W2 rfl ?_ ?_)|refine X2 (W7 rfl ?_ ?_)|refine X3 (W7 rfl ?_ ?_)|refine X4 (W7 rfl ?_ ?_)|refine X5 (W7 rfl ?_ ?_))
 all_goals (try (conv => whnf))
 all_goals (try first|exact obA|refine Ob.mk ?_)
 all_goals (first | exact h1 | exact h2 | rfl | trace_state)
end Go.Vc

namespace Go.Vc
set_option autoImplicit false
abbrev KI : KTy := .i .i64
theorem zd6 {α : Type} (m : List (Int × α)) (k k' : Int) (v : α) : zYQ KI (zdN KI m k v) k' = if k' = k then some v else zYQ KI m k' := by
 induction m with
 | nil =>
  show zYQ KI [(k,v)] k' = _
  unfold zYQ
  show (bif (k' == k) then some v else zYQ KI [] k') = _
  by_cases h : k' = k
  ·rw [if_pos h,beq_iff_eq.2 h];rfl
  ·rw [if_neg h,beq_eq_false_iff_ne.2 h];rfl
 | cons x m ih =>
  obtain ⟨a,b⟩ := x
  unfold zdN
  show zYQ KI (bif (k == a) then (k,v) :: m else (a,b) :: zdN KI m k v) k' = _
  by_cases h : k = a
  ·rw [beq_iff_eq.2 h]
   show zYQ KI ((k,v) :: m) k' = _
   unfold zYQ
   show (bif (k' == k) then some v else zYQ KI m k') = if k' = k then some v else (bif (k' == a) then some b else zYQ KI m k')
   by_cases h2 : k' = k
   ·rw [if_pos h2,beq_iff_eq.2 h2];rfl
   ·rw [if_neg h2,beq_eq_false_iff_ne.2 h2,beq_eq_false_iff_ne.2 (h ▸ h2)];rfl
  ·rw [beq_eq_false_iff_ne.2 h]
   show zYQ KI ((a,b) :: zdN KI m k v) k' = _
   unfold zYQ
   show (bif (k' == a) then some b else zYQ KI (zdN KI m k v) k') = if k' = k then some v else (bif (k' == a) then some b else zYQ KI m k')
   by_cases h2 : k' = a
   ·rw [beq_iff_eq.2 h2,if_neg (fun e => h (e.symm.trans h2))];rfl
   ·rw [beq_eq_false_iff_ne.2 h2];exact ih
theorem zu0 {α : Type} (m : List (Int × α)) (k : Int) (v : α) (k' : Int) : (∃ u,(k',u) ∈ zdN KI m k v) ↔ k' = k ∨ ∃ u,(k',u) ∈ m := by
 induction m with
 | nil =>
  show (∃ u,(k',u) ∈ [(k,v)]) ↔ _
  simp
 | cons x m ih =>
  obtain ⟨a,b⟩ := x
  unfold zdN
  show (∃ u,(k',u) ∈ (bif (k == a) then (k,v) :: m else (a,b) :: zdN KI m k v)) ↔ _
  by_cases h : k = a
  ·rw [beq_iff_eq.2 h]
   subst h
   show (∃ u,(k',u) ∈ (k,v) :: m) ↔ _
   constructor
   ·rintro ⟨u,hu⟩
    rcases List.mem_cons.1 hu with e | hu
    ·exact .inl (Prod.mk.inj e).1
    ·exact .inr ⟨u,List.mem_cons_of_mem _ hu⟩
   ·rintro (e | ⟨u,hu⟩)
    ·exact ⟨v,by rw [e];exact List.mem_cons_self⟩
    ·rcases List.mem_cons.1 hu with e | hu
     ·exact ⟨v,by rw [(Prod.mk.inj e).1];exact List.mem_cons_self⟩
     ·exact ⟨u,List.mem_cons_of_mem _ hu⟩
  ·rw [beq_eq_false_iff_ne.2 h]
   show (∃ u,(k',u) ∈ (a,b) :: zdN KI m k v) ↔ _
   constructor
   ·rintro ⟨u,hu⟩
    rcases List.mem_cons.1 hu with e | hu
    ·exact .inr ⟨u,by rw [e];exact List.mem_cons_self⟩
    ·rcases ih.1 ⟨u,hu⟩ with e | ⟨u',hu'⟩
     ·exact .inl e
     ·exact .inr ⟨u',List.mem_cons_of_mem _ hu'⟩
   ·rintro (e | ⟨u,hu⟩)
    ·obtain ⟨u,hu⟩ := ih.2 (.inl e)
     exact ⟨u,List.mem_cons_of_mem _ hu⟩
    ·rcases List.mem_cons.1 hu with e | hu
     ·exact ⟨u,by rw [e];exact List.mem_cons_self⟩
     ·obtain ⟨u',hu'⟩ := ih.2 (.inr ⟨u,hu⟩)
      exact ⟨u',List.mem_cons_of_mem _ hu'⟩
theorem zl0 {α : Type} (m : List (Int × α)) (k : Int) : zYQ KI m k = none ↔ ¬ ∃ u,(k,u) ∈ m := by
 induction m with
 | nil => simp [zYQ]
 | cons x m ih =>
  obtain ⟨a,b⟩ := x
  unfold zYQ
  show (bif (k == a) then some b else zYQ KI m k) = none ↔ _
  by_cases h : k = a
  ·rw [beq_iff_eq.2 h,h]
   constructor
   ·intro e;cases e
   ·intro e;exact absurd ⟨b,List.mem_cons_self⟩ e
  ·rw [beq_eq_false_iff_ne.2 h]
   show zYQ KI m k = none ↔ _
   rw [ih]
   constructor
   ·rintro h1 ⟨u,hu⟩
    rcases List.mem_cons.1 hu with e | hu
    ·exact h (Prod.mk.inj e).1
    ·exact h1 ⟨u,hu⟩
   ·rintro h1 ⟨u,hu⟩
    exact h1 ⟨u,List.mem_cons_of_mem _ hu⟩
def zsM (m : List (Int × Int)) (n : Int) : List (Int × Int) := zdN KI m n (((zYQ KI m n).getD 0) + 1)
def zbF (l : List Int) : List (Int × Int) := l.foldl zsM []
theorem zlK (l : List Int) (n : Int) : zbF (l ++ [n]) = zsM (zbF l) n := by unfold zbF;rw [List.foldl_append];rfl
theorem zoT (l : List Int) : ∀ (m : List (Int × Int)) (n : Int),(zYQ KI (l.foldl zsM m) n).getD 0 = (zYQ KI m n).getD 0 + (l.count n : Nat) := by
 induction l with
 | nil => intro m n;simp
 | cons a l ih =>
  intro m n
  rw [List.foldl_cons,ih,List.count_cons]
  unfold zsM
  rw [zd6]
  by_cases h : n = a
  ·rw [if_pos h,h,if_pos (by simp)];simp;omega
  ·rw [if_neg h,if_neg (by simpa using fun e => h e.symm)];simp
theorem zjM (l : List Int) (n : Int) : (zYQ KI (zbF l) n).getD 0 = (l.count n : Nat) := by
 unfold zbF;rw [zoT];simp [zYQ]
theorem zu6 (l : List Int) : ∀ (m : List (Int × Int)) (k : Int),(∃ u,(k,u) ∈ l.foldl zsM m) ↔ k ∈ l ∨ ∃ u,(k,u) ∈ m := by
 induction l with
 | nil => intro m k;simp
 | cons a l ih =>
  intro m k
  rw [List.foldl_cons,ih]
  unfold zsM
  rw [zu0,List.mem_cons]
  constructor
  ·rintro (h | h | h)
   ·exact .inl (.inr h)
   ·exact .inl (.inl h)
   ·exact .inr h
  ·rintro ((h | h) | h)
   ·exact .inr (.inl h)
   ·exact .inl h
   ·exact .inr (.inr h)
theorem zhO (l : List Int) (k : Int) : (∃ u,(k,u) ∈ zbF l) ↔ k ∈ l := by
 unfold zbF;rw [zu6];simp
theorem znT {α : Type} {l : List α} {j : Nat} {x y : α} (hj : l[j]? = some x) (hy : y ∈ l) : y = x ∨ y ∈ l.eraseIdx j := by
  obtain ⟨i,hi,rfl⟩ := List.getElem_of_mem hy
  by_cases e : i = j
  · subst e;rw [List.getElem?_eq_getElem hi] at hj;exact .inl (Option.some.inj hj)
  · exact .inr (List.mem_iff_getElem?.2 (by
      rcases Nat.lt_or_ge i j with q | q
      · exact ⟨i,by rw [List.getElem?_eraseIdx,if_pos q,List.getElem?_eq_getElem hi]⟩
      · exact ⟨i - 1,by rw [List.getElem?_eraseIdx,if_neg (by omega),show i - 1 + 1 = i by omega,List.getElem?_eq_getElem hi]⟩))
end Go.Vc

namespace Go.Vc
open Go.Proofs
set_option maxRecDepth 10000
set_option maxHeartbeats 4000000
theorem zqO (l : List Int) (k : Nat) (x : Int) (h : k < l.length) : ((l.take (k + 1)).count x : Int) = bif l.getD k 0 == x then ((l.take k).count x : Int) + 1 else ((l.take k).count x : Int) := by
 rw [take_snoc l k 0 h,List.count_append,List.count_cons,List.count_nil]
 cases e : l.getD k 0 == x <;> simp
instance rtTimes (l : List Int) (x : Int) : Fn BB 28 [.rd zXR l,.int .i64 x] (l.length ≤ 1000000) (.int .i64 (l.count x : Nat)) := by
 refine Fn.intro (N := 22) [0,1,4,5,6,10,18] [] Try.call28 Try.func28 rfl rfl (by kernel_rfl) (fun hpre => ?_)
 repeat' ((conv => whnf);first|(with_reducible first|rfl|exact zXT|exact zXS)|exact True.intro|intro _|refine WA ?_ ?_|refine WF ?_|refine W1 rfl ?_ ?_|refine W2 rfl ?_ ?_|refine W3 rfl ?_ ?_|refine W4 ?_ ?_|refine W5 rfl ?_ ?_|refine W6 ?_ ?_|refine WN ?_|refine X1 (W1 rfl ?_ ?_)|refine X1 (W2 rfl ?_ ?_)|refine X2 (W7 rfl ?_ ?_)|refine X3 (W7 rfl ?_ ?_)|refine X4 (W7 rfl ?_ ?_)|refine X5 (W7 rfl ?_ ?_))
 all_goals (try (conv => whnf))
 all_goals (try first|exact obA|refine Ob.mk ?_)
 refine LoopStop.mk (α := Nat) (fun i => [(6,.int .i64 i),(5,.int .i64 ((l.take i).count x : Nat))]) (fun _ => []) 20 (fun i => i ≤ l.length) (fun i => l.length - i) 0 (Nat.zero_le _) ?_ (fun i hi => ?_)
 ·all_goals exact vcA
 ·have hc : (l.take i).count x ≤ i := Nat.le_trans List.count_le_length (by rw [List.length_take];omega)
  repeat' ((conv => whnf);first|(with_reducible first|rfl|exact zXT|exact zXS)|exact True.intro|intro _|refine WA ?_ ?_|refine WF ?_|refine W1 rfl ?_ ?_|refine W2 rfl ?_ ?_|refine W3 rfl ?_ ?_|refine W4 ?_ ?_|refine W5 rfl ?_ ?_|refine W6 ?_ ?_|refine WN ?_|refine X1 (W1 rfl ?_ ?_)|refine X1 (W2 rfl ?_ ?_)|refine X2 (W7 rfl ?_ ?_)|refine X3 (W7 rfl ?_ ?_)|refine X4 (W7 rfl ?_ ?_)|refine X5 (W7 rfl ?_ ?_))
  all_goals (try (conv => whnf))
  all_goals (try first|exact obA|refine Ob.mk ?_)
  all_goals (try simp only [Int.toNat_natCast] at *)
  ·rename_i h1 h2
   have hl : i < l.length := by have := of_decide_eq_true h1;omega
   refine Rnd.mk ⟨i + 1,by omega,by omega,?_,?_,?_⟩
   repeat' ((conv => whnf);first|(with_reducible first|rfl|exact zXT|exact zXS)|exact True.intro|intro _|refine WA ?_ ?_|refine WF ?_|refine W1 rfl ?_ ?_|refine W2 rfl ?_ ?_|refine W3 rfl ?_ ?_|refine W4 ?_ ?_|refine W5 rfl ?_ ?_|refine W6 ?_ ?_|refine WN ?_|refine X1 (W1 rfl ?_ ?_)|refine X1 (W2 rfl ?_ ?_)|refine X2 (W7 rfl ?_ ?_)|refine X3 (W7 rfl ?_ ?_)|refine X4 (W7 rfl ?_ ?_)|refine X5 (W7 rfl ?_ ?_))
   all_goals (try (conv => whnf))
   all_goals (try first|exact obA|refine Ob.mk ?_)
   all_goals (first | rfl | (rw [zqO l i x hl,show (l.getD i 0 == x) = true from h2];rfl) | trace_state)
  ·rename_i h1 h2
   have hl : i < l.length := by have := of_decide_eq_true h1;omega
   refine Rnd.mk ⟨i + 1,by omega,by omega,?_,?_,?_⟩
   repeat' ((conv => whnf);first|(with_reducible first|rfl|exact zXT|exact zXS)|exact True.intro|intro _|refine WA ?_ ?_|refine WF ?_|refine W1 rfl ?_ ?_|refine W2 rfl ?_ ?_|refine W3 rfl ?_ ?_|refine W4 ?_ ?_|refine W5 rfl ?_ ?_|refine W6 ?_ ?_|refine WN ?_|refine X1 (W1 rfl ?_ ?_)|refine X1 (W2 rfl ?_ ?_)|refine X2 (W7 rfl ?_ ?_)|refine X3 (W7 rfl ?_ ?_)|refine X4 (W7 rfl ?_ ?_)|refine X5 (W7 rfl ?_ ?_))
   all_goals (try (conv => whnf))
   all_goals (try first|exact obA|refine Ob.mk ?_)
   all_goals (first | rfl | (rw [zqO l i x hl,show (l.getD i 0 == x) = false from h2];rfl) | trace_state)
  ·rename_i h1
   have hl : i = l.length := by have := of_decide_eq_false h1;omega
   rw [hl,List.take_length]
def zZ3 (t : List zXN) : Nat → Int → Bool
 | 0,_ => false
 | f + 1,i => bif (nd t i).up == -1 then true else zZ3 t f (nd t i).up
def zw9 (t : List zXN) : Prop := ∀ i : Int,0 ≤ i ∧ i < t.length → (nd t i).up = -1 ∨ (0 ≤ (nd t i).up ∧ (nd t i).up < t.length)
instance rtHeld (t : List zXN) (i : Int) : Fn BB 29 [.agg [.rd zXK t],.int .i64 i] ((0 ≤ i ∧ i < t.length) ∧ zw9 t ∧ t.length ≤ 1000000) (.bool (zZ3 t (t.length + 1) i)) := by
 refine Fn.intro (N := 26) [0,1,2,4,5,10,19] [] Try.call29 Try.func29 rfl rfl (by kernel_rfl) (fun hpre => ?_)
 obtain ⟨h1,h2,h3⟩ := hpre
 repeat' ((conv => whnf);first|(with_reducible first|rfl|exact zXT|exact zXS)|exact True.intro|intro _|refine WA ?_ ?_|refine WF ?_|refine W1 rfl ?_ ?_|refine W2 rfl ?_ ?_|refine W3 rfl ?_ ?_|refine W4 ?_ ?_|refine W5 rfl ?_ ?_|refine W6 ?_ ?_|refine WN ?_|refine X1 (W1 rfl ?_ ?_)|refine X1 (W2 rfl ?_ ?_)|refine X2 (W7 rfl ?_ ?_)|refine X3 (W7 rfl ?_ ?_)|refine X4 (W7 rfl ?_ ?_)|refine X5 (W7 rfl ?_ ?_))
 all_goals (try (conv => whnf))
 all_goals (try first|exact obA|refine Ob.mk ?_)
 refine LoopStop.mk (α := Nat × Int) (fun a => [(5,.int .i64 (a.1 : Nat)),(1,.int .i64 a.2)]) (fun _ => []) 20 (fun a => a.1 ≤ t.length + 1 ∧ (0 ≤ a.2 ∧ a.2 < t.length) ∧ zZ3 t (t.length + 1) i = zZ3 t (t.length + 1 - a.1) a.2) (fun a => t.length + 1 - a.1) (0,i) ⟨by simp,h1,rfl⟩ ?_ (fun a ha => ?_)
 ·all_goals exact vcA
 ·obtain ⟨k,j⟩ := a
  obtain ⟨g1,g2,g3⟩ := ha
  dsimp only at g1 g2 g3
  have hu := h2 j g2
  have st : k ≤ t.length → zZ3 t (t.length + 1 - k) j = bif (nd t j).up == -1 then true else zZ3 t (t.length + 1 - (k + 1)) (nd t j).up := fun h => by
   rw [show t.length + 1 - k = (t.length - k) + 1 by omega,zZ3,show t.length + 1 - (k + 1) = t.length - k by omega]
  repeat' ((conv => whnf);first|(with_reducible first|rfl|exact zXT|exact zXS)|exact True.intro|intro _|refine WA ?_ ?_|refine WF ?_|refine W1 rfl ?_ ?_|refine W2 rfl ?_ ?_|refine W3 rfl ?_ ?_|refine W4 ?_ ?_|refine W5 rfl ?_ ?_|refine W6 ?_ ?_|refine WN ?_|refine X1 (W1 rfl ?_ ?_)|refine X1 (W2 rfl ?_ ?_)|refine X2 (W7 rfl ?_ ?_)|refine X3 (W7 rfl ?_ ?_)|refine X4 (W7 rfl ?_ ?_)|refine X5 (W7 rfl ?_ ?_))
  all_goals (try (conv => whnf))
  all_goals (try first|exact obA|refine Ob.mk ?_)
  all_goals (try dsimp only at *)
  all_goals (try (exact g2))
  all_goals (try omega)
  ·rename_i c1 c2
   have hk : k ≤ t.length := by have := of_decide_eq_true c1;omega
   rw [g3,st hk,show ((nd t j).up == -1) = true from c2];rfl
  ·rename_i c1 c2
   have hk : k ≤ t.length := by have := of_decide_eq_true c1;omega
   have hne : (nd t j).up ≠ -1 := fun e => by
    rw [show ((nd t j).up == -1) = true from beq_iff_eq.2 e] at c2
    cases c2
   refine Rnd.mk ⟨(k + 1,(nd t j).up),⟨by (simp only;omega),by (simp only;exact hu.resolve_left hne),by rw [g3,st hk,show ((nd t j).up == -1) = false from c2];rfl⟩,by (simp only;omega),?_,?_,?_⟩
   all_goals exact vcA
  ·rename_i c1
   have hk : k = t.length + 1 := by have := of_decide_eq_false c1;omega
   rw [g3,hk,Nat.sub_self];rfl
end Go.Vc

namespace Go.Vc
open Go.Proofs
set_option maxRecDepth 10000
set_option maxHeartbeats 8000000
def ndR (t : List zXN) (i : Nat) : zXN := t.getD i zXK.dflt
def zoB (t : List zXN) (i : Nat) : Bool := decide ((i : Int) > 0) && (decide ((ndR t i).1 < 1) || decide ((ndR t i).1 > 4) || decide ((ndR t i).up < -1) || decide ((ndR t i).up ≥ (t.length : Int)))
def zzC (t : List zXN) (i : Nat) : Bool := decide ((ndR t i).up ≥ 0) && (decide ((nd t (ndR t i).up).1 > 1) || ((nd t (ndR t i).up).kids.count (i : Int) : Int) != 1)
def zoF (t : List zXN) (i : Nat) (k : Int) : Bool := decide (k < 0) || decide (k ≥ (t.length : Int)) || (nd t k).up != (i : Int)
def okN (t : List zXN) (i : Nat) : Bool := !zoB t i && !zzC t i && (ndR t i).kids.all fun k => !zoF t i k
def badR (t : List zXN) : Bool := (t.length : Int) == 0 || (nd t 0).1 != 0 || (nd t 0).up != -1
def zYY (t : List zXN) : Bool := !badR t && ((List.range t.length).all (okN t) && (List.range t.length).all fun i => zZ3 t (t.length + 1) i)
theorem zYV (p : Nat → Bool) (n i : Nat) (hi : i < n) (h : p i = false) : (List.range n).all p = false := by
 rw [List.all_eq_false]
 exact ⟨i,List.mem_range.2 hi,by rw [h];decide⟩
theorem zY9 (p : Nat → Bool) (n : Nat) (h : ∀ k,k < n → p k = true) : (List.range n).all p = true := by
 rw [List.all_eq_true]
 exact fun k hk => h k (List.mem_range.1 hk)
instance rtRight (t : List zXN) : Fn BB 9 [.agg [.rd zXK t]] (t.length ≤ 1000 ∧ ∀ i,(nd t i).kids.length ≤ 1000) (.bool (zYY t)) := by
  refine Fn.intro (N := 138) [0,1,2,3,4,5,6,26,31,63,88,93,126,131,137] [(14,[0,1,0,1,1,1,1,1,1,1,1,1,1,1,1,1,1,1,1,1,1,1,1,1,1,1,1,1,1,3,3])] Try.call9 Try.func9 rfl rfl (by kernel_rfl) (fun hpre => ?_)
  obtain ⟨h1,h2⟩ := hpre
  have bt : badR t = true → zYY t = false := fun h => by unfold zYY;rw [h];rfl
  have bf : badR t = false → 0 < t.length := fun h => by
    unfold badR at h
    simp only [Bool.or_eq_false_iff,beq_eq_false_iff_ne] at h
    have := h.1.1;omega
  repeat' ((conv => whnf);first|(with_reducible first|rfl|exact zXT|exact zXS)|exact True.intro|intro _|refine WA ?_ ?_|refine WF ?_|refine W1 rfl ?_ ?_|refine W2 rfl ?_ ?_|refine W3 rfl ?_ ?_|refine W4 ?_ ?_|refine W5 rfl ?_ ?_|refine W6 ?_ ?_|refine WN ?_|refine X1 (W1 rfl ?_ ?_)|refine X1 (W2 rfl ?_ ?_)|refine X2 (W7 rfl ?_ ?_)|refine X3 (W7 rfl ?_ ?_)|refine X4 (W7 rfl ?_ ?_)|refine X5 (W7 rfl ?_ ?_))
  all_goals (try (conv => whnf))
  all_goals (try first|exact obA|refine Ob.mk ?_)
  all_goals (try (have hz : ¬ t.length = 0 := fun e => by (have h := ‹((t.length : Int) == 0 || _) = false›;rw [Bool.or_eq_false_iff] at h;have := beq_eq_false_iff_ne.1 h.1;omega)))
  all_goals (try omega)
  · exact (bt ‹_›).symm
  have hbad : badR t = false := ‹_›
  have hpos := bf hbad
  have hup0 : (nd t 0).up = -1 := by
    unfold badR at hbad
    simp only [Bool.or_eq_false_iff] at hbad
    have := hbad.2
    simpa using this
  have red : zYY t = ((List.range t.length).all (okN t) && (List.range t.length).all fun i => zZ3 t (t.length + 1) i) := by unfold zYY;rw [hbad];rfl
  rw [red]
  refine LoopStop.mk (α := Nat) (fun i => [(3,.int .i64 i)]) (fun _ => []) 20 (fun i => i ≤ t.length ∧ ∀ k,k < i → okN t k = true) (fun i => t.length - i) 0 ⟨Nat.zero_le _,fun k hk => absurd hk (Nat.not_lt_zero _)⟩ ?_ (fun i hi => ?_)
  · all_goals exact vcA
  · obtain ⟨hi,hall⟩ := hi
    have fA : zoB t i = true → okN t i = false := fun h => by unfold okN;rw [h];rfl
    have fB : zzC t i = true → okN t i = false := fun h => by unfold okN;rw [h];simp
    have fU : zoB t i = false → i < t.length → (ndR t i).up = -1 ∨ (0 ≤ (ndR t i).up ∧ (ndR t i).up < t.length) := fun h hl => by
      by_cases e : i = 0
      · left;subst e;exact hup0
      · unfold zoB at h
        rw [decide_eq_true (by omega),Bool.true_and] at h
        simp only [Bool.or_eq_false_iff] at h
        have a1 := of_decide_eq_false h.1.2
        have a2 := of_decide_eq_false h.2
        omega
    repeat' ((conv => whnf);first|(with_reducible first|rfl|exact zXT|exact zXS)|exact True.intro|intro _|refine WA ?_ ?_|refine WF ?_|refine W1 rfl ?_ ?_|refine W2 rfl ?_ ?_|refine W3 rfl ?_ ?_|refine W4 ?_ ?_|refine W5 rfl ?_ ?_|refine W6 ?_ ?_|refine WN ?_|refine X1 (W1 rfl ?_ ?_)|refine X1 (W2 rfl ?_ ?_)|refine X2 (W7 rfl ?_ ?_)|refine X3 (W7 rfl ?_ ?_)|refine X4 (W7 rfl ?_ ?_)|refine X5 (W7 rfl ?_ ?_))
    all_goals (try (conv => whnf))
    all_goals (try first|exact obA|refine Ob.mk ?_)
    all_goals (try simp only [Int.toNat_natCast] at *)
    all_goals (try (have hlt : i < t.length := by have := of_decide_eq_true ‹decide ((i : Int) < (t.length : Int)) = true›;omega))
    all_goals (try (have hA : zoB t i = false := by assumption))
    all_goals (try (have hUp := fU hA hlt))
    all_goals (try (have hge := of_decide_eq_true (show decide ((ndR t i).up ≥ 0) = true by assumption);first
      | exact hUp.resolve_left (by omega)
      | exact Nat.le_trans (h2 _) (by omega)
      | (show Int.toNat (ndR t i).up < _;omega)))
    all_goals (try (rw [zYV _ _ i hlt (fA (by assumption))];rfl))
    all_goals (try (rw [zYV _ _ i hlt (fB (by assumption))];rfl))
    · have hB : zzC t i = false := by assumption
      have fK : ∀ k,k ∈ (ndR t i).kids → zoF t i k = true → okN t i = false := fun k hk h => by
        unfold okN
        rw [hA,hB]
        simp only [Bool.not_false,Bool.true_and,List.all_eq_false]
        exact ⟨k,hk,by rw [h];decide⟩
      have hkl : (ndR t i).kids.length ≤ 1000 := by have := h2 (i : Int);unfold nd at this;rw [Int.toNat_natCast] at this;exact this
      refine LoopStop.mk (α := Nat) (fun j => [(5,.int .i64 j)]) (fun _ => []) 60 (fun j => j ≤ (ndR t i).kids.length ∧ ∀ k,k < j → zoF t i ((ndR t i).kids.getD k 0) = false) (fun j => (ndR t i).kids.length - j) 0 ⟨Nat.zero_le _,fun k hk => absurd hk (Nat.not_lt_zero _)⟩ ?_ (fun j hj => ?_)
      · all_goals exact vcA
      · obtain ⟨hj,hjall⟩ := hj
        repeat' ((conv => whnf);first|(with_reducible first|rfl|exact zXT|exact zXS)|exact True.intro|intro _|refine WA ?_ ?_|refine WF ?_|refine W1 rfl ?_ ?_|refine W2 rfl ?_ ?_|refine W3 rfl ?_ ?_|refine W4 ?_ ?_|refine W5 rfl ?_ ?_|refine W6 ?_ ?_|refine WN ?_|refine X1 (W1 rfl ?_ ?_)|refine X1 (W2 rfl ?_ ?_)|refine X2 (W7 rfl ?_ ?_)|refine X3 (W7 rfl ?_ ?_)|refine X4 (W7 rfl ?_ ?_)|refine X5 (W7 rfl ?_ ?_))
        all_goals (try (conv => whnf))
        all_goals (try first|exact obA|refine Ob.mk ?_)
        all_goals (try simp only [Int.toNat_natCast] at *)
        all_goals (try (have hjl : j < (ndR t i).kids.length := by have := of_decide_eq_true (show decide ((j : Int) < ((ndR t i).kids.length : Int)) = true by assumption);omega))
        · have h := ‹(decide (_ < (0 : Int)) || decide (_ ≥ (t.length : Int))) = false›
          rw [Bool.or_eq_false_iff] at h
          have a1 := of_decide_eq_false h.1
          have a2 := of_decide_eq_false h.2
          omega
        · have hmem : (ndR t i).kids.getD j 0 ∈ (ndR t i).kids := by
            have e : (ndR t i).kids.getD j 0 = (ndR t i).kids[j] := by simp [List.getD,hjl]
            rw [e];exact List.getElem_mem _
          rw [zYV _ _ i hlt (fK _ hmem (by assumption))];rfl
        · have hk : zoF t i ((ndR t i).kids.getD j 0) = false := by assumption
          refine Rnd.mk ⟨j + 1,⟨by omega,fun k hk' => by (rcases Nat.lt_or_ge k j with q | q);exact hjall k q;(have : k = j := by omega);subst this;exact hk⟩,by omega,?_,?_,?_⟩
          all_goals exact vcA
        · have hje : j = (ndR t i).kids.length := by have := of_decide_eq_false (show decide ((j : Int) < ((ndR t i).kids.length : Int)) = false by assumption);omega
          have hok : okN t i = true := by
            unfold okN
            rw [hA,hB]
            simp only [Bool.not_false,Bool.true_and,List.all_eq_true]
            intro k hk
            obtain ⟨m,hm,rfl⟩ := List.getElem_of_mem hk
            have := hjall m (by omega)
            rw [show (ndR t i).kids.getD m 0 = (ndR t i).kids[m] by simp [List.getD,hm]] at this
            rw [this];rfl
          refine Rnd.mk ⟨i + 1,⟨by omega,fun k hk' => by (rcases Nat.lt_or_ge k i with q | q);exact hall k q;(have : k = i := by omega);subst this;exact hok⟩,by omega,?_,?_,?_⟩
          all_goals exact vcA
    · have hie : i = t.length := by have := of_decide_eq_false ‹decide ((i : Int) < (t.length : Int)) = false›;omega
      have e1 : (List.range t.length).all (okN t) = true := zY9 _ _ (fun k hk => hall k (by omega))
      have hups : zw9 t := fun x hx => by
        have hx2 : x.toNat < t.length := by omega
        have h := hall x.toNat (by omega)
        have hA : zoB t x.toNat = false := by unfold okN at h;cases e : zoB t x.toNat <;> rw [e] at h <;> simp_all
        have e3 : ndR t x.toNat = nd t x := rfl
        by_cases e : x.toNat = 0
        · left
          have : x = 0 := by omega
          subst this;exact hup0
        · unfold zoB at hA
          rw [decide_eq_true (by omega),Bool.true_and,e3] at hA
          simp only [Bool.or_eq_false_iff] at hA
          have a1 := of_decide_eq_false hA.1.2
          have a2 := of_decide_eq_false hA.2
          omega
      rw [e1,Bool.true_and]
      refine LoopStop.mk (α := Nat) (fun j => [(6,.int .i64 j)]) (fun _ => []) 60 (fun j => j ≤ t.length ∧ ∀ k,k < j → zZ3 t (t.length + 1) (k : Nat) = true) (fun j => t.length - j) 0 ⟨Nat.zero_le _,fun k hk => absurd hk (Nat.not_lt_zero _)⟩ ?_ (fun j hj => ?_)
      · all_goals exact vcA
      · obtain ⟨hj,hjall⟩ := hj
        repeat' ((conv => whnf);first|(with_reducible first|rfl|exact zXT|exact zXS)|exact True.intro|intro _|refine WA ?_ ?_|refine WF ?_|refine W1 rfl ?_ ?_|refine W2 rfl ?_ ?_|refine W3 rfl ?_ ?_|refine W4 ?_ ?_|refine W5 rfl ?_ ?_|refine W6 ?_ ?_|refine WN ?_|refine X1 (W1 rfl ?_ ?_)|refine X1 (W2 rfl ?_ ?_)|refine X2 (W7 rfl ?_ ?_)|refine X3 (W7 rfl ?_ ?_)|refine X4 (W7 rfl ?_ ?_)|refine X5 (W7 rfl ?_ ?_))
        all_goals (try (conv => whnf))
        all_goals (try first|exact obA|refine Ob.mk ?_)
        all_goals (try simp only [Int.toNat_natCast] at *)
        all_goals (try (have hjl : j < t.length := by have := of_decide_eq_true ‹decide ((j : Int) < (t.length : Int)) = true›;omega))
        all_goals (try exact ⟨by omega,hups,by omega⟩)
        · have h : zZ3 t (t.length + 1) (j : Nat) = false := by simpa using ‹(!zZ3 t (t.length + 1) _) = true›
          rw [zYV _ _ j hjl h]
        · have h : zZ3 t (t.length + 1) (j : Nat) = true := by simpa using ‹(!zZ3 t (t.length + 1) _) = false›
          refine Rnd.mk ⟨j + 1,⟨by omega,fun k hk' => by (rcases Nat.lt_or_ge k j with q | q);exact hjall k q;(have : k = j := by omega);subst this;exact h⟩,by omega,?_,?_,?_⟩
          all_goals exact vcA
        · have hje : j = t.length := by have := of_decide_eq_false ‹decide ((j : Int) < (t.length : Int)) = false›;omega
          rw [zY9 _ _ (fun k hk => hjall k (by omega))]
end Go.Vc

namespace Go.Vc
open Go.Proofs
set_option maxRecDepth 10000
set_option maxHeartbeats 4000000
instance hCounts (l : List Int) : FnM BB 46 [.rd zXR l] [] (l.length ≤ 1000) (.mref 0) [(0,.mp KI zXR (zbF l))] := by
 refine FnM.intro (N := 19) [0,2,3,5,7,8,9,10] [] 0 Try.call46 Try.func46 rfl rfl (by kernel_rfl) (fun hpre => ?_)
 repeat' ((conv => whnf);first|(with_reducible first|rfl|exact zXT|exact zXS)|exact True.intro|intro _|refine WA ?_ ?_|refine WF ?_|refine W1 rfl ?_ ?_|refine W2 rfl ?_ ?_|refine W3 rfl ?_ ?_|refine W4 ?_ ?_|refine W5 rfl ?_ ?_|refine W6 ?_ ?_|refine WN ?_|refine X1 (W1 rfl ?_ ?_)|refine X1 (W2 rfl ?_ ?_)|refine X2 (W7 rfl ?_ ?_)|refine X3 (W7 rfl ?_ ?_)|refine X4 (W7 rfl ?_ ?_)|refine X5 (W7 rfl ?_ ?_))
 all_goals (try (conv => whnf))
 all_goals (try first|exact obA|refine Ob.mk ?_)
 refine LoopStop.mk (α := Nat) (fun k => [(9,.int .i64 k)]) (fun k => [(0,.mp KI zXR (zbF (l.take k)))]) 10 (fun k => k ≤ l.length) (fun k => l.length - k) 0 (Nat.zero_le _) ?_ (fun k hk => ?_)
 ·all_goals exact vcA
 ·have hb := zjM (l.take k) (l.getD k zXR.dflt)
  have hc : (l.take k).count (l.getD k zXR.dflt) ≤ 1000 := Nat.le_trans List.count_le_length (by rw [List.length_take];omega)
  repeat' ((conv => whnf);first|(with_reducible first|rfl|exact zXT|exact zXS)|exact True.intro|intro _|refine WA ?_ ?_|refine WF ?_|refine W1 rfl ?_ ?_|refine W2 rfl ?_ ?_|refine W3 rfl ?_ ?_|refine W4 ?_ ?_|refine W5 rfl ?_ ?_|refine W6 ?_ ?_|refine WN ?_|refine X1 (W1 rfl ?_ ?_)|refine X1 (W2 rfl ?_ ?_)|refine X2 (W7 rfl ?_ ?_)|refine X3 (W7 rfl ?_ ?_)|refine X4 (W7 rfl ?_ ?_)|refine X5 (W7 rfl ?_ ?_))
  all_goals (try (conv => whnf))
  all_goals (try first|exact obA|refine Ob.mk ?_)
  all_goals (try simp only [ZA,ZB,ZC,ZD,ZE,ZF,ZG,ZH,ZI,ZJ,ZK,ZL,ZM,ZN,ZO,Int.toNat_natCast,UInt8.ofNat_toNat,cast_eq] at *)
  all_goals (try (constructor <;> omega))
  ·refine Rnd.mk ⟨k + 1,by omega,by omega,?_⟩
   repeat' ((conv => whnf);first|(with_reducible first|rfl|exact zXT|exact zXS)|exact True.intro|intro _|refine WA ?_ ?_|refine WF ?_|refine W1 rfl ?_ ?_|refine W2 rfl ?_ ?_|refine W3 rfl ?_ ?_|refine W4 ?_ ?_|refine W5 rfl ?_ ?_|refine W6 ?_ ?_|refine WN ?_|refine X1 (W1 rfl ?_ ?_)|refine X1 (W2 rfl ?_ ?_)|refine X2 (W7 rfl ?_ ?_)|refine X3 (W7 rfl ?_ ?_)|refine X4 (W7 rfl ?_ ?_)|refine X5 (W7 rfl ?_ ?_))
   all_goals (try (conv => whnf))
   all_goals (try first|exact obA|refine Ob.mk ?_)
   all_goals (first | rfl | (rw [take_snoc l k zXR.dflt (by omega),zlK];rfl) | trace_state)
  all_goals (rw [List.take_of_length_le (by omega)])
def ziF (t : List zXN) (i : Nat) (kids : List Int) : Bool := kids.all fun k => !zoF t i k
def upB (t : List zXN) (i : Nat) (up : Int) : Bool := if up < 0 then up == -1 else decide (up < (t.length : Int)) && decide ((nd t up).1 ≤ 1) && ((nd t up).kids.count (i : Int) : Int) == 1
noncomputable abbrev BA : Base := { BB with sp := fun f => Nat.beq f 46 }
instance (priority := 100) fnmA {f : FuncId} {args : List SV} {Φ : Phi} {pre : Prop} {res : SV} {Φ' : Phi} [h : FnM BB f args Φ pre res Φ'] : FnM BA f args Φ pre res Φ' := ⟨h.call,h.ok⟩
@[simp] theorem jJU (t : TypeId) : zXM BA.P t = zXM BB.P t := rfl
theorem zz9 {t : List zXN} {i : Nat} {kids : List Int} {k : Int} (h : k ∈ kids) (hb : zoF t i k = true) : ziF t i kids = false := by
 unfold ziF
 rw [List.all_eq_false]
 exact ⟨k,h,by rw [hb];decide⟩
theorem zy4 {t : List zXN} {i : Nat} {kids : List Int} (h : ∀ x ∈ kids,zoF t i x = true → False) : ziF t i kids = true := by
 unfold ziF
 rw [List.all_eq_true]
 intro x hx
 cases e : zoF t i x with
 | false => rfl
 | true => exact (h x hx e).elim
theorem zyH (t : List zXN) (i : Nat) (k s : Int) (nn : List UInt8) (at_ : List zbZ) (dt : List UInt8) (up : Int) (kids : List Int) :
  Fn BA 26 [.agg [.rd zXK t],.int .i64 (i : Int),.agg [.int .i64 k,.int .i64 s,.str nn,.rd zZL at_,.str dt,.int .i64 up,.rd zXR kids]] (kids.length ≤ 1000 ∧ ∀ i,(nd t i).kids.length ≤ 1000) (.bool (ziF t i kids && upB t i up)) := by
 refine Fn.intro (N := 70) [0,1,2,3,5,6,7,11,13,34,37] [] Try.call26 Try.func26 rfl rfl (by kernel_rfl) (fun hpre => ?_)
 obtain ⟨hk,hkk⟩ := hpre
 repeat' ((conv => whnf);first|(with_reducible first|rfl|exact zXT|exact zXS)|exact True.intro|intro _|refine WA ?_ ?_|refine WF ?_|refine W1 rfl ?_ ?_|refine W2 rfl ?_ ?_|refine W3 rfl ?_ ?_|refine W4 ?_ ?_|refine W5 rfl ?_ ?_|refine W6 ?_ ?_|refine WN ?_|refine X1 (W1 rfl ?_ ?_)|refine X1 (W2 rfl ?_ ?_)|refine X2 (W7 rfl ?_ ?_)|refine X3 (W7 rfl ?_ ?_)|refine X4 (W7 rfl ?_ ?_)|refine X5 (W7 rfl ?_ ?_))
 all_goals (try (conv => whnf))
 all_goals (try first|exact obA|refine Ob.mk ?_)
 refine LoopStop.mk (α := List (Int × Int) × Option (Int × Int)) (fun _ => []) (fun a => [(3,.mi KI zXR a.1 a.2)]) 20 (fun a => (∀ x ∈ a.1,x.1 ∈ kids) ∧ ∀ x ∈ kids,zoF t i x = true → ∃ u,(x,u) ∈ a.1) (fun a => a.1.length) (zbF kids,none) ⟨fun x hx => (zhO kids x.1).1 ⟨x.2,hx⟩,fun x hx _ => (zhO kids x).2 hx⟩ ?_ (fun a ha => ?_)
 ·repeat' ((conv => whnf);first|(with_reducible first|rfl|exact zXT|exact zXS)|exact True.intro|intro _|refine WA ?_ ?_|refine WF ?_|refine W1 rfl ?_ ?_|refine W2 rfl ?_ ?_|refine W3 rfl ?_ ?_|refine W4 ?_ ?_|refine W5 rfl ?_ ?_|refine W6 ?_ ?_|refine WN ?_|refine X1 (W1 rfl ?_ ?_)|refine X1 (W2 rfl ?_ ?_)|refine X2 (W7 rfl ?_ ?_)|refine X3 (W7 rfl ?_ ?_)|refine X4 (W7 rfl ?_ ?_)|refine X5 (W7 rfl ?_ ?_))
  all_goals (try (conv => whnf))
  all_goals (try first|exact obA|refine Ob.mk ?_)
  all_goals (try rfl)
  all_goals trace_state
 ·obtain ⟨left,cur⟩ := a
  obtain ⟨h1,h2⟩ := ha
  dsimp only at h1 h2
  have hin : ∀ {x n : Int},(decide (x < 0) || decide (x ≥ n)) = false → 0 ≤ x ∧ x < n := fun {x n} h => by
   simp only [Bool.or_eq_false_iff,decide_eq_false_iff_not] at h;omega
  have hnil : left = [] → ziF t i kids = true := fun e => zy4 fun x hx hb => by
   obtain ⟨u,hu⟩ := h2 x hx hb
   rw [e] at hu
   cases hu
  have hno : ∀ {j : Nat} {x v : Int},left[j]? = some (x,v) → zoF t i x = true → ziF t i kids = false := fun {j x v} hj hb => zz9 (h1 _ (List.mem_of_getElem? hj)) hb
  repeat' ((conv => whnf);first|(with_reducible first|rfl|exact zXT|exact zXS)|exact True.intro|intro _|refine WA ?_ ?_|refine WF ?_|refine W1 rfl ?_ ?_|refine W2 rfl ?_ ?_|refine W3 rfl ?_ ?_|refine W4 ?_ ?_|refine W5 rfl ?_ ?_|refine W6 ?_ ?_|refine WN ?_|refine X1 (W1 rfl ?_ ?_)|refine X1 (W2 rfl ?_ ?_)|refine X2 (W7 rfl ?_ ?_)|refine X3 (W7 rfl ?_ ?_)|refine X4 (W7 rfl ?_ ?_)|refine X5 (W7 rfl ?_ ?_))
  all_goals (try (conv => whnf))
  all_goals (try first|exact obA|refine Ob.mk ?_)
  all_goals (try (exact hin ‹_›))
  all_goals (try (exact hkk _))
  ·have hu := of_decide_eq_true ‹decide (up < 0) = true›
   rw [hnil ‹_›,upB,if_pos hu];rfl
  ·have hu := of_decide_eq_false ‹decide (up < 0) = false›
   rw [hnil ‹_›,upB,if_neg hu,zjM,show (decide (up < (t.length : Int)) && decide ((nd t up).1 ≤ 1)) = true by assumption];rfl
  ·have hu := of_decide_eq_false ‹decide (up < 0) = false›
   rw [hnil ‹_›,upB,if_neg hu,show (decide (up < (t.length : Int)) && decide ((nd t up).1 ≤ 1)) = false by assumption];rfl
  ·rw [hno (by assumption) (by assumption)];rfl
  ·rename_i jj kk vv hj ht hb
   have hj : left[jj]? = some (kk,vv) := hj
   have hjl : jj < left.length := by
    rcases Nat.lt_or_ge jj left.length with q | q
    ·exact q
    ·rw [List.getElem?_eq_none q] at hj;cases hj
   refine Rnd.mk ⟨(left.eraseIdx jj,some (kk,vv)),⟨fun x hx => h1 x (List.mem_of_mem_eraseIdx hx),fun x hx hbx => ?_⟩,?_,?_⟩
   ·obtain ⟨u,hu⟩ := h2 x hx hbx
    rcases znT hj hu with e | e
    ·rw [(Prod.mk.inj e).1] at hbx
     exact Bool.noConfusion (hbx.symm.trans hb)
    ·exact ⟨u,e⟩
   ·show (left.eraseIdx jj).length < left.length
    rw [List.length_eraseIdx,if_pos hjl];omega
   ·all_goals exact vcA
instance hLinked (t : List zXN) (i : Nat) (k s : Int) (nn : List UInt8) (at_ : List zbZ) (dt : List UInt8) (up : Int) (kids : List Int) :
  Fn BB 26 [.agg [.rd zXK t],.int .i64 (i : Int),.agg [.int .i64 k,.int .i64 s,.str nn,.rd zZL at_,.str dt,.int .i64 up,.rd zXR kids]] (kids.length ≤ 1000 ∧ ∀ i,(nd t i).kids.length ≤ 1000) (.bool (ziF t i kids && upB t i up)) :=
 have h := zyH t i k s nn at_ dt up kids
 ⟨h.call,h.ok⟩
end Go.Vc

namespace Go.Vc
open Go.Proofs
set_option maxRecDepth 10000
theorem zbS {t : List zXN} : ∀ {f : Nat} {i : Int},zZ3 t f i = true → ∀ g,f ≤ g → zZ3 t g i = true := by
 intro f
 induction f with
 | zero => intro i h;cases h
 | succ f ih =>
  intro i h g hg
  obtain ⟨g,rfl⟩ : ∃ g',g = g' + 1 := ⟨g - 1,by omega⟩
  rw [zZ3] at h ⊢
  cases hb : (nd t i).up == -1 with
  | true => rfl
  | false =>
   rw [hb] at h
   exact ih h g (by omega)
structure EndsOk (t : List zXN) (e : List (Int × Int)) (E : List Nat) : Prop where
 nod : E.Nodup
 lt : ∀ x ∈ E,x < t.length
 get : ∀ k : Int,zYQ KI e k = if k = -1 ∨ (0 ≤ k ∧ k.toNat ∈ E) then some 1 else none
 held : ∀ x ∈ E,zZ3 t E.length (x : Int) = true
structure PathOk (t : List zXN) (E : List Nat) (i : Nat) (cur : Int) (p : List (Int × Int)) (P : List Nat) : Prop where
 nod : P.Nodup
 off : ∀ x ∈ P,x ∉ E
 lt : ∀ x ∈ P,x < t.length
 get : ∀ k : Int,zYQ KI p k = if 0 ≤ k ∧ k.toNat ∈ P then some 1 else none
 chain : ∀ j,j < P.length → (nd t (P.getD j 0 : Nat)).up = if j + 1 < P.length then ((P.getD (j + 1) 0 : Nat) : Int) else cur
 ones : ∀ x ∈ p,x.2 = 1
 start : P.getD 0 i = i ∧ (P = [] → cur = (i : Int))
 cur : cur = -1 ∨ (0 ≤ cur ∧ cur < t.length)
theorem zx2 {α : Type} {m : List (Int × α)} {k : Int} {v : α} {x : Int × α} (h : x ∈ zdN KI m k v) : x = (k,v) ∨ x ∈ m := by
 induction m with
 | nil => exact .inl (List.mem_singleton.1 h)
 | cons y m ih =>
  obtain ⟨a,b⟩ := y
  unfold zdN at h
  have h : x ∈ (bif (k == a) then (k,v) :: m else (a,b) :: zdN KI m k v) := h
  cases hb : k == a with
  | true =>
   rw [hb] at h
   rcases List.mem_cons.1 h with q | q
   ·exact .inl q
   ·exact .inr (List.mem_cons_of_mem _ q)
  | false =>
   rw [hb] at h
   rcases List.mem_cons.1 h with q | q
   ·exact .inr (by rw [q];exact List.mem_cons_self)
   ·exact (ih q).imp id (List.mem_cons_of_mem _)
def zjJ (e p d left : List (Int × Int)) : Prop := (∀ x ∈ left,x ∈ p) ∧ ∀ k : Int,(zYQ KI p k = none → zYQ KI d k = zYQ KI e k) ∧ (zYQ KI p k ≠ none → (∃ u,(k,u) ∈ left) ∨ zYQ KI d k = some 1)
theorem jDU (e p : List (Int × Int)) : zjJ e p e p := ⟨fun x hx => hx,fun k => ⟨fun _ => rfl,fun h => .inl (Classical.byContradiction fun q => h ((zl0 p k).2 q))⟩⟩
theorem zwH {e p d left : List (Int × Int)} (h : zjJ e p d left) (h1 : ∀ x ∈ p,x.2 = 1) {j : Nat} {k v : Int} (hj : left[j]? = some (k,v)) : zjJ e p (zdN KI d k v) (left.eraseIdx j) := by
 have hm := h.1 _ (List.mem_of_getElem? hj)
 have hv : v = 1 := h1 _ hm
 refine ⟨fun x hx => h.1 x (List.mem_of_mem_eraseIdx hx),fun k' => ?_⟩
 rw [zd6]
 by_cases e1 : k' = k
 ·rw [if_pos e1,hv]
  exact ⟨fun q => absurd ⟨v,by rw [e1];exact hm⟩ ((zl0 p k').1 q),fun _ => .inr rfl⟩
 ·rw [if_neg e1]
  refine ⟨(h.2 k').1,fun q => ?_⟩
  rcases (h.2 k').2 q with ⟨u,hu⟩ | q
  ·rcases znT hj hu with q | q
   ·exact absurd (Prod.mk.inj q).1 e1
   ·exact .inl ⟨u,q⟩
  ·exact .inr q
theorem zxR {e p d : List (Int × Int)} (h : zjJ e p d []) (k : Int) : zYQ KI d k = if (zYQ KI p k).isSome = true then some 1 else zYQ KI e k := by
 cases hp : zYQ KI p k with
 | none => rw [(h.2 k).1 hp];rfl
 | some x =>
  rcases (h.2 k).2 (by rw [hp];exact fun q => by cases q) with ⟨u,hu⟩ | q
  ·cases hu
  ·rw [q];rfl
theorem zhX {P : List Nat} {n : Nat} (h : P.Nodup) (hl : ∀ x ∈ P,x < n) : P.length ≤ n := zg8 h hl
theorem jC9 (t : List zXN) : EndsOk t (zdN KI [] (-1) 1) [] :=
 ⟨List.nodup_nil,fun x hx => (by cases hx),fun k => by
  rw [zd6]
  by_cases h : k = -1
  ·rw [if_pos h,if_pos (.inl h)]
  ·rw [if_neg h,if_neg (fun q => q.elim h fun q => (by cases q.2))];rfl,fun x hx => (by cases hx)⟩
theorem jDB (t : List zXN) (E : List Nat) {i : Nat} (hi : i < t.length) : PathOk t E i i [] [] :=
 ⟨List.nodup_nil,fun x hx => (by cases hx),fun x hx => (by cases hx),fun k => by rw [if_neg (fun q => (by cases q.2))];rfl,fun j hj => absurd hj (Nat.not_lt_zero _),fun x hx => (by cases hx),⟨rfl,fun _ => rfl⟩,.inr ⟨by omega,by omega⟩⟩
theorem jDP {t e E i cur p P} (he : EndsOk t e E) (hp : PathOk t E i cur p P) : ((zYQ KI e cur).getD 0 + (zYQ KI p cur).getD 0 == 0) = true ↔ (¬ (cur = -1 ∨ (0 ≤ cur ∧ cur.toNat ∈ E)) ∧ ¬ (0 ≤ cur ∧ cur.toNat ∈ P)) := by
 rw [he.get,hp.get]
 by_cases h1 : cur = -1 ∨ (0 ≤ cur ∧ cur.toNat ∈ E)
 ·rw [if_pos h1]
  by_cases h2 : 0 ≤ cur ∧ cur.toNat ∈ P
  ·rw [if_pos h2];exact ⟨fun h => absurd h (by decide),fun h => absurd h1 h.1⟩
  ·rw [if_neg h2];exact ⟨fun h => absurd h (by decide),fun h => absurd h1 h.1⟩
 ·rw [if_neg h1]
  by_cases h2 : 0 ≤ cur ∧ cur.toNat ∈ P
  ·rw [if_pos h2];exact ⟨fun h => absurd h (by decide),fun h => absurd h2 h.2⟩
  ·rw [if_neg h2];exact ⟨fun _ => ⟨h1,h2⟩,fun _ => by decide⟩
theorem jCW {t e E} (he : EndsOk t e E) (cur : Int) : ((zYQ KI e cur).getD 0 == 0) = true ↔ ¬ (cur = -1 ∨ (0 ≤ cur ∧ cur.toNat ∈ E)) := by
 rw [he.get]
 by_cases h1 : cur = -1 ∨ (0 ≤ cur ∧ cur.toNat ∈ E)
 ·rw [if_pos h1];exact ⟨fun h => absurd h (by decide),fun h => absurd h1 h⟩
 ·rw [if_neg h1];exact ⟨fun _ => h1,fun _ => by decide⟩
theorem zh7 (P : List Nat) (x j d : Nat) : (P ++ [x]).getD j d = if j = P.length then x else P.getD j d := by
 by_cases h : j = P.length
 ·rw [if_pos h,h,List.getD_eq_getElem?_getD,List.getElem?_append_right (Nat.le_refl _),Nat.sub_self];rfl
 ·rw [if_neg h,List.getD_eq_getElem?_getD,List.getD_eq_getElem?_getD]
  rcases Nat.lt_or_ge j P.length with q | q
  ·rw [List.getElem?_append_left q]
  ·rw [List.getElem?_eq_none (by rw [List.length_append,List.length_singleton];omega),List.getElem?_eq_none q]
theorem zuH {t e E i cur p P} (hups : zw9 t) (he : EndsOk t e E) (hp : PathOk t E i cur p P) (h : ((zYQ KI e cur).getD 0 + (zYQ KI p cur).getD 0 == 0) = true) :
  (0 ≤ cur ∧ cur < t.length) ∧ PathOk t E i (nd t cur).up (zdN KI p cur 1) (P ++ [cur.toNat]) := by
 obtain ⟨h1,h2⟩ := (jDP he hp).1 h
 have hc : 0 ≤ cur ∧ cur < t.length := hp.cur.resolve_left fun e => h1 (.inl e)
 have hcE : cur.toNat ∉ E := fun q => h1 (.inr ⟨hc.1,q⟩)
 have hcP : cur.toNat ∉ P := fun q => h2 ⟨hc.1,q⟩
 refine ⟨hc,?_,?_,?_,?_,?_,?_,?_,hups cur hc⟩
 ·rw [List.nodup_append]
  exact ⟨hp.nod,by simp,fun a ha b hb => by rw [List.mem_singleton] at hb;rw [hb];exact fun q => hcP (q ▸ ha)⟩
 ·intro x hx
  rcases List.mem_append.1 hx with q | q
  ·exact hp.off x q
  ·rw [List.mem_singleton] at q;rw [q];exact hcE
 ·intro x hx
  rcases List.mem_append.1 hx with q | q
  ·exact hp.lt x q
  ·rw [List.mem_singleton] at q;rw [q];omega
 ·intro k
  rw [zd6,hp.get]
  by_cases hk : k = cur
  ·rw [if_pos hk,if_pos ⟨by omega,by rw [hk];simp⟩]
  ·rw [if_neg hk]
   by_cases h3 : 0 ≤ k ∧ k.toNat ∈ P
   ·rw [if_pos h3,if_pos ⟨h3.1,List.mem_append_left _ h3.2⟩]
   ·rw [if_neg h3,if_neg]
    rintro ⟨q1,q2⟩
    rcases List.mem_append.1 q2 with q | q
    ·exact h3 ⟨q1,q⟩
    ·rw [List.mem_singleton] at q;omega
 ·intro j hj
  rw [List.length_append,List.length_singleton] at hj ⊢
  rw [zh7]
  by_cases hjl : j = P.length
  ·rw [if_pos hjl,if_neg (by omega),show ((cur.toNat : Nat) : Int) = cur by omega]
  ·rw [if_neg hjl,hp.chain j (by omega),zh7,if_pos (show j + 1 < P.length + 1 by omega)]
   by_cases h3 : j + 1 < P.length
   ·rw [if_pos h3,if_neg (by omega)]
   ·rw [if_neg h3,if_pos (by omega)];omega
 ·intro x hx
  rcases zx2 hx with q | q
  ·rw [q]
  ·exact hp.ones x q
 ·constructor
  ·rw [zh7]
   by_cases h3 : 0 = P.length
   ·have hn : P = [] := List.length_eq_zero_iff.1 h3.symm
    rw [if_pos h3,hp.start.2 hn];omega
   ·rw [if_neg h3]
    exact hp.start.1
  ·intro q;simp at q
theorem zyU {t e E i cur p P} (he : EndsOk t e E) (hp : PathOk t E i cur p P) (h1 : ((zYQ KI e cur).getD 0 + (zYQ KI p cur).getD 0 == 0) = false) (h2 : ((zYQ KI e cur).getD 0 == 0) = true) : ∀ f,zZ3 t f (i : Int) = false := by
 have h3 := (jCW he cur).1 h2
 have hc : 0 ≤ cur ∧ cur.toNat ∈ P := Classical.byContradiction fun q => by
  have := (jDP he hp).2 ⟨h3,q⟩
  rw [this] at h1;cases h1
 have key : ∀ (f : Nat) (x : Nat),x ∈ P → zZ3 t f (x : Int) = false := by
  intro f
  induction f with
  | zero => intro x _;rfl
  | succ f ih =>
   intro x hx
   obtain ⟨j,hj,rfl⟩ := List.getElem_of_mem hx
   have hg : P.getD j 0 = P[j] := by rw [List.getD_eq_getElem?_getD,List.getElem?_eq_getElem hj];rfl
   have hch := hp.chain j hj
   rw [hg] at hch
   rw [zZ3,hch]
   by_cases h4 : j + 1 < P.length
   ·rw [if_pos h4,beq_eq_false_iff_ne.2 (by omega)]
    refine ih _ ?_
    rw [List.getD_eq_getElem?_getD,List.getElem?_eq_getElem h4];exact List.getElem_mem _
   ·rw [if_neg h4,beq_eq_false_iff_ne.2 (by omega)]
    have := ih _ hc.2
    rw [show ((cur.toNat : Nat) : Int) = cur by omega] at this
    exact this
 intro f
 have hne : P ≠ [] := fun e => by rw [e] at hc;cases hc.2
 have h0 : 0 < P.length := List.length_pos_iff.2 hne
 have : P.getD 0 i = P[0] := by rw [List.getD_eq_getElem?_getD,List.getElem?_eq_getElem h0];rfl
 rw [hp.start.1] at this
 refine key f i ?_
 rw [this];exact List.getElem_mem _
theorem zuV {t e E i cur p P} (he : EndsOk t e E) (hp : PathOk t E i cur p P) (h2 : ((zYQ KI e cur).getD 0 == 0) = false) {e' : List (Int × Int)} (hm : ∀ k : Int,zYQ KI e' k = if (zYQ KI p k).isSome = true then some 1 else zYQ KI e k) :
  EndsOk t e' (P ++ E) ∧ i ∈ P ++ E := by
 have h3 : cur = -1 ∨ (0 ≤ cur ∧ cur.toNat ∈ E) := Classical.byContradiction fun q => by
  rw [(jCW he cur).2 q] at h2;cases h2
 have key : ∀ (m : Nat) (j : Nat),j < P.length → P.length - j = m → zZ3 t (E.length + m) ((P.getD j 0 : Nat) : Int) = true := by
  intro m
  induction m with
  | zero => intro j hj h;omega
  | succ m ih =>
   intro j hj hm
   rw [show E.length + (m + 1) = (E.length + m) + 1 by omega,zZ3,hp.chain j hj]
   by_cases h4 : j + 1 < P.length
   ·rw [if_pos h4,beq_eq_false_iff_ne.2 (by omega)]
    exact ih (j + 1) h4 (by omega)
   ·rw [if_neg h4]
    rcases h3 with h3 | h3
    ·rw [h3];rfl
    ·rw [beq_eq_false_iff_ne.2 (by omega)]
     have := he.held _ h3.2
     rw [show ((cur.toNat : Nat) : Int) = cur by omega] at this
     exact zbS this _ (by omega)
 refine ⟨⟨?_,?_,?_,?_⟩,?_⟩
 ·rw [List.nodup_append]
  exact ⟨hp.nod,he.nod,fun a ha b hb q => hp.off a ha (q ▸ hb)⟩
 ·intro x hx
  rcases List.mem_append.1 hx with q | q
  ·exact hp.lt x q
  ·exact he.lt x q
 ·intro k
  rw [hm,hp.get,he.get]
  by_cases h4 : 0 ≤ k ∧ k.toNat ∈ P
  ·rw [if_pos h4,if_pos (show (some (1 : Int)).isSome = true from rfl),if_pos (.inr ⟨h4.1,List.mem_append_left _ h4.2⟩)]
  ·rw [if_neg h4,if_neg (by decide)]
   by_cases h5 : k = -1 ∨ (0 ≤ k ∧ k.toNat ∈ E)
   ·rw [if_pos h5,if_pos (h5.imp id fun q => ⟨q.1,List.mem_append_right _ q.2⟩)]
   ·rw [if_neg h5,if_neg]
    rintro (q | ⟨q1,q2⟩)
    ·exact h5 (.inl q)
    ·rcases List.mem_append.1 q2 with q | q
     ·exact h4 ⟨q1,q⟩
     ·exact h5 (.inr ⟨q1,q⟩)
 ·intro x hx
  rw [List.length_append]
  rcases List.mem_append.1 hx with q | q
  ·obtain ⟨j,hj,rfl⟩ := List.getElem_of_mem q
   have hg : P.getD j 0 = P[j] := by rw [List.getD_eq_getElem?_getD,List.getElem?_eq_getElem hj];rfl
   have := key _ j hj rfl
   rw [hg] at this
   exact zbS this _ (by omega)
  ·exact zbS (he.held x q) _ (by omega)
 ·by_cases hne : P = []
  ·have hci := hp.start.2 hne
   rcases h3 with h3 | h3
   ·omega
   ·refine List.mem_append_right _ ?_
    rw [hci] at h3
    exact h3.2
  ·have h0 : 0 < P.length := List.length_pos_iff.2 hne
   have : P.getD 0 i = P[0] := by rw [List.getD_eq_getElem?_getD,List.getElem?_eq_getElem h0];rfl
   rw [hp.start.1] at this
   refine List.mem_append_left _ ?_
   rw [this];exact List.getElem_mem _
theorem zxE {t e E} (he : EndsOk t e E) {i : Nat} (hi : i ∈ E) : zZ3 t (t.length + 1) (i : Int) = true := zbS (he.held i hi) _ (by have := zhX he.nod he.lt;omega)
end Go.Vc

namespace Go.Vc
open Go.Proofs
set_option maxRecDepth 10000
set_option maxHeartbeats 8000000
def zy3 (t : List zXN) (i : Nat) : Bool := decide ((i : Int) > 0) && (decide ((ndR t i).1 < 1) || decide ((ndR t i).1 > 4))
def okP (t : List zXN) (i : Nat) : Bool := !zy3 t i && (ziF t i (ndR t i).kids && upB t i (ndR t i).up)
theorem jAI {t : List zXN} (h0 : (nd t 0).up = -1) (i : Nat) : okP t i = okN t i := by
 unfold okP okN
 have hu : i = 0 → (ndR t i).up = -1 := fun e => by subst e;exact h0
 have hk : ziF t i (ndR t i).kids = (ndR t i).kids.all fun k => !zoF t i k := rfl
 rw [hk]
 cases hkb : (ndR t i).kids.all fun k => !zoF t i k with
 | false => simp
 | true =>
  rw [Bool.true_and,Bool.and_true]
  unfold zoB zzC zy3 upB
  by_cases hi : i = 0
  ·have := hu hi
   subst hi
   rw [this];rfl
  ·rw [decide_eq_true (by omega : (i : Int) > 0),Bool.true_and,Bool.true_and]
   by_cases hup : (ndR t i).up < 0
   ·rw [if_pos hup,decide_eq_false (by omega : ¬ (ndR t i).up ≥ 0),decide_eq_false (by omega : ¬ (ndR t i).up ≥ (t.length : Int)),Bool.false_and,Bool.or_false,Bool.not_false,Bool.and_true]
    by_cases h1 : (ndR t i).up = -1
    ·rw [h1];cases (decide ((ndR t i).1 < 1) || decide ((ndR t i).1 > 4)) <;> rfl
    ·rw [beq_eq_false_iff_ne.2 h1,decide_eq_true (by omega : (ndR t i).up < -1)];simp
   ·rw [if_neg hup,decide_eq_true (by omega : (ndR t i).up ≥ 0),decide_eq_false (by omega : ¬ (ndR t i).up < -1),Bool.or_false,Bool.true_and]
    by_cases h1 : (ndR t i).up < (t.length : Int)
    ·rw [decide_eq_true h1,decide_eq_false (by omega : ¬ (ndR t i).up ≥ (t.length : Int)),Bool.or_false,Bool.true_and]
     by_cases h2 : (nd t (ndR t i).up).1 ≤ 1
     ·rw [decide_eq_true h2,decide_eq_false (Int.not_lt.2 h2),Bool.true_and,Bool.false_or,bne,Bool.not_not]
     ·rw [decide_eq_false h2,decide_eq_true (Int.not_le.1 h2)];simp
    ·rw [decide_eq_false h1,decide_eq_true (by omega : (ndR t i).up ≥ (t.length : Int))];simp
noncomputable instance : Inl BB 27 := Inl.make (N := 16) [0,1,4,5,7,9] [] Try.call27 Try.func27 rfl rfl (by kernel_rfl)
instance sRight (t : List zXN) : Fn BB 8 [.agg [.rd zXK t]] (t.length ≤ 1000 ∧ ∀ i,(nd t i).kids.length ≤ 1000) (.bool (zYY t)) := by
 refine Fn.intro (N := 89) [0,1,2,3,4,5,6,7,27,29,30,31,32,54,60,61,62,72,84] [] Try.call8 Try.func8 rfl rfl (by kernel_rfl) (fun hpre => ?_)
 obtain ⟨h1,h2⟩ := hpre
 have bt : badR t = true → zYY t = false := fun h => by unfold zYY;rw [h];rfl
 have bf : badR t = false → 0 < t.length ∧ (nd t 0).up = -1 := fun h => by
  unfold badR at h
  simp only [Bool.or_eq_false_iff,beq_eq_false_iff_ne,bne_eq_false_iff_eq] at h
  exact ⟨by have := h.1.1;omega,h.2⟩
 repeat' ((conv => whnf);first|(with_reducible first|rfl|exact zXT|exact zXS)|exact True.intro|intro _|refine WA ?_ ?_|refine WF ?_|refine W1 rfl ?_ ?_|refine W2 rfl ?_ ?_|refine W3 rfl ?_ ?_|refine W4 ?_ ?_|refine W5 rfl ?_ ?_|refine W6 ?_ ?_|refine WN ?_|refine X1 (W1 rfl ?_ ?_)|refine X1 (W2 rfl ?_ ?_)|refine X2 (W7 rfl ?_ ?_)|refine X3 (W7 rfl ?_ ?_)|refine X4 (W7 rfl ?_ ?_)|refine X5 (W7 rfl ?_ ?_))
 all_goals (try (conv => whnf))
 all_goals (try first|exact obA|refine Ob.mk ?_)
 all_goals (try (have hz : ¬ t.length = 0 := fun e => by (have h := ‹((t.length : Int) == 0 || _) = false›;rw [Bool.or_eq_false_iff] at h;have := beq_eq_false_iff_ne.1 h.1;omega)))
 all_goals (try omega)
 ·exact (bt ‹_›).symm
 have hbad : badR t = false := ‹_›
 obtain ⟨hpos,hup0⟩ := bf hbad
 have red : zYY t = ((List.range t.length).all (okN t) && (List.range t.length).all fun i => zZ3 t (t.length + 1) i) := by unfold zYY;rw [hbad];rfl
 rw [red]
 refine LoopStop.mk (α := Nat) (fun i => [(31,.int .i64 i)]) (fun _ => []) 20 (fun i => i ≤ t.length ∧ ∀ k,k < i → okN t k = true) (fun i => t.length - i) 0 ⟨Nat.zero_le _,fun k hk => absurd hk (Nat.not_lt_zero _)⟩ ?_ (fun i hi => ?_)
 ·all_goals exact vcA
 ·obtain ⟨hi,hall⟩ := hi
  have hd : ∀ {i : Nat},i < t.length → (decide ((i : Int) > 0) && (decide ((ndR t i).1 < 1) || decide ((ndR t i).1 > 4)) || !(ziF t i (ndR t i).kids && upB t i (ndR t i).up)) = !okN t i := fun {i} h => by
   rw [← jAI hup0 i]
   unfold okP
   show (zy3 t i || _) = _
   cases zy3 t i <;> simp
  repeat' ((conv => whnf);first|(with_reducible first|rfl|exact zXT|exact zXS)|exact True.intro|intro _|refine WA ?_ ?_|refine WF ?_|refine W1 rfl ?_ ?_|refine W2 rfl ?_ ?_|refine W3 rfl ?_ ?_|refine W4 ?_ ?_|refine W5 rfl ?_ ?_|refine W6 ?_ ?_|refine WN ?_|refine X1 (W1 rfl ?_ ?_)|refine X1 (W2 rfl ?_ ?_)|refine X2 (W7 rfl ?_ ?_)|refine X3 (W7 rfl ?_ ?_)|refine X4 (W7 rfl ?_ ?_)|refine X5 (W7 rfl ?_ ?_))
  all_goals (try (conv => whnf))
  all_goals (try first|exact obA|refine Ob.mk ?_)
  all_goals (try simp only [Int.toNat_natCast] at *)
  all_goals (try (have hlt : i < t.length := by have := of_decide_eq_true ‹decide ((i : Int) < (t.length : Int)) = true›;omega))
  ·exact ⟨by have := h2 (i : Int);unfold nd at this;rw [Int.toNat_natCast] at this;exact this,h2⟩
  ·have h := (hd hlt).symm.trans (by assumption)
   rw [zYV _ _ i hlt (by revert h;cases okN t i <;> simp)];rfl
  ·have h := (hd hlt).symm.trans (by assumption)
   have hok : okN t i = true := by revert h;cases okN t i <;> simp
   refine Rnd.mk ⟨i + 1,⟨by omega,fun k hk' => by (rcases Nat.lt_or_ge k i with q | q);exact hall k q;(have : k = i := by omega);subst this;exact hok⟩,by omega,?_,?_,?_⟩
   all_goals exact vcA
  have hie : i = t.length := by have := of_decide_eq_false ‹decide ((i : Int) < (t.length : Int)) = false›;omega
  have e1 : (List.range t.length).all (okN t) = true := zY9 _ _ (fun k hk => hall k (by omega))
  have hups : zw9 t := fun x hx => by
   have hx2 : x.toNat < t.length := by omega
   have h := hall x.toNat (by omega)
   have hA : zoB t x.toNat = false := by unfold okN at h;cases e : zoB t x.toNat <;> rw [e] at h <;> simp_all
   have hn : ndR t x.toNat = nd t x := rfl
   by_cases e : x.toNat = 0
   ·left
    have : x = 0 := by omega
    rw [this];exact hup0
   ·unfold zoB at hA
    rw [decide_eq_true (by omega),Bool.true_and] at hA
    simp only [Bool.or_eq_false_iff] at hA
    have a1 := of_decide_eq_false hA.1.2
    have a2 := of_decide_eq_false hA.2
    rw [hn] at a1 a2
    omega
  clear hall
  rw [e1,Bool.true_and]
  refine LoopStop.mk (α := Nat × List (Int × Int) × List Nat) (fun a => [(61,.int .i64 (a.1 : Nat))]) (fun a => [(20,.mp KI zXR a.2.1)]) 40 (fun a => a.1 ≤ t.length ∧ EndsOk t a.2.1 a.2.2 ∧ ∀ k,k < a.1 → k ∈ a.2.2) (fun a => t.length - a.1) (0,zdN KI [] (-1) 1,[]) ⟨Nat.zero_le _,jC9 t,fun k hk => absurd hk (Nat.not_lt_zero _)⟩ ?_ (fun a ha => ?_)
  ·all_goals exact vcA
  ·obtain ⟨u,e,E⟩ := a
   obtain ⟨hu,he,hE⟩ := ha
   dsimp only at hu he hE
   repeat' ((conv => whnf);first|(with_reducible first|rfl|exact zXT|exact zXS)|exact True.intro|intro _|refine WA ?_ ?_|refine WF ?_|refine W1 rfl ?_ ?_|refine W2 rfl ?_ ?_|refine W3 rfl ?_ ?_|refine W4 ?_ ?_|refine W5 rfl ?_ ?_|refine W6 ?_ ?_|refine WN ?_|refine X1 (W1 rfl ?_ ?_)|refine X1 (W2 rfl ?_ ?_)|refine X2 (W7 rfl ?_ ?_)|refine X3 (W7 rfl ?_ ?_)|refine X4 (W7 rfl ?_ ?_)|refine X5 (W7 rfl ?_ ?_))
   all_goals (try (conv => whnf))
   all_goals (try first|exact obA|refine Ob.mk ?_)
   all_goals (try simp only [Int.toNat_natCast] at *)
   ·have hut : u < t.length := by have := of_decide_eq_true ‹decide ((u : Int) < (t.length : Int)) = true›;omega
    refine LoopStop.mk (α := Int × List (Int × Int) × List Nat) (fun a => [(6,.int .i64 a.1)]) (fun a => [(40,.mp KI zXR a.2.1)]) 60 (fun a => PathOk t E u a.1 a.2.1 a.2.2) (fun a => t.length + 1 - a.2.2.length) ((u : Int),[],[]) (jDB t E hut) ?_ (fun a ha => ?_)
    ·all_goals exact vcA
    ·obtain ⟨cur,p,P⟩ := a
     have hp : PathOk t E u cur p P := ha
     have hst := fun h => zuH hups he hp h
     have hbad := zyU he hp
     have hgood := @zuV t e E u cur p P he hp
     have hPl := zhX hp.nod hp.lt
     have hbnd : ∀ k : Int,0 ≤ (zYQ KI e k).getD 0 ∧ (zYQ KI e k).getD 0 ≤ 1 ∧ 0 ≤ (zYQ KI p k).getD 0 ∧ (zYQ KI p k).getD 0 ≤ 1 := fun k => by
      rw [he.get,hp.get]
      constructor
      ·split <;> decide
      ·constructor
       ·split <;> decide
       ·constructor <;> (split <;> decide)
     have hin : ∀ {x : Int},(0 ≤ x ∧ x < t.length) → 0 ≤ x ∧ x < (t.length : Int) := fun h => h
     repeat' ((conv => whnf);first|(with_reducible first|rfl|exact zXT|exact zXS)|exact True.intro|intro _|refine WA ?_ ?_|refine WF ?_|refine W1 rfl ?_ ?_|refine W2 rfl ?_ ?_|refine W3 rfl ?_ ?_|refine W4 ?_ ?_|refine W5 rfl ?_ ?_|refine W6 ?_ ?_|refine WN ?_|refine X1 (W1 rfl ?_ ?_)|refine X1 (W2 rfl ?_ ?_)|refine X2 (W7 rfl ?_ ?_)|refine X3 (W7 rfl ?_ ?_)|refine X4 (W7 rfl ?_ ?_)|refine X5 (W7 rfl ?_ ?_)|refine X6 rfl ?_)
     all_goals (try (conv => whnf))
     all_goals (try first|exact obA|refine Ob.mk ?_)
     ·have := hbnd cur
      exact ⟨by show _ ≤ (zYQ KI e cur).getD 0 + (zYQ KI p cur).getD 0;omega,by show (zYQ KI e cur).getD 0 + (zYQ KI p cur).getD 0 ≤ _;omega⟩
     ·have h3 := (hst (by assumption)).2
      refine Rnd.mk ⟨((nd t cur).up,zdN KI p cur 1,P ++ [cur.toNat]),h3,?_,?_⟩
      ·have := zhX h3.nod h3.lt
       show t.length + 1 - (P ++ [cur.toNat]).length < t.length + 1 - P.length
       rw [List.length_append,List.length_singleton] at this ⊢
       omega
      ·all_goals exact vcA
     ·rw [zYV _ _ u hut (hbad (by assumption) (by assumption) _)]
     ·have hg2 := fun e2 => @hgood (by assumption) e2
      clear hst hbad hgood
      refine LoopStop.mk (α := List (Int × Int) × Option (Int × Int) × List (Int × Int)) (fun _ => []) (fun a => [(20,.mp KI zXR a.2.2),(60,.mi KI zXR a.1 a.2.1)]) 80 (fun a => zjJ e p a.2.2 a.1) (fun a => a.1.length) (p,none,e) (jDU e p) ?_ (fun a ha => ?_)
      ·all_goals exact vcA
      ·obtain ⟨left,cr,d⟩ := a
       have hc : zjJ e p d left := ha
       repeat' ((conv => whnf);first|(with_reducible first|rfl|exact zXT|exact zXS)|exact True.intro|intro _|refine WA ?_ ?_|refine WF ?_|refine W1 rfl ?_ ?_|refine W2 rfl ?_ ?_|refine W3 rfl ?_ ?_|refine W4 ?_ ?_|refine W5 rfl ?_ ?_|refine W6 ?_ ?_|refine WN ?_|refine X1 (W1 rfl ?_ ?_)|refine X1 (W2 rfl ?_ ?_)|refine X2 (W7 rfl ?_ ?_)|refine X3 (W7 rfl ?_ ?_)|refine X4 (W7 rfl ?_ ?_)|refine X5 (W7 rfl ?_ ?_))
       all_goals (try (conv => whnf))
       all_goals (try first|exact obA|refine Ob.mk ?_)
       ·have hl : left = [] := by assumption
        subst hl
        have he2 := hg2 d (zxR hc)
        refine Rnd.mk ⟨(u + 1,d,P ++ E),⟨by show u + 1 ≤ _;omega,he2.1,fun k hk => ?_⟩,by show _ - (u + 1) < _ - u;omega,?_⟩
        ·rcases Nat.lt_or_ge k u with q | q
         ·exact List.mem_append_right _ (hE k q)
         ·have : k = u := by have : k < u + 1 := hk;omega
          rw [this];exact he2.2
        ·all_goals exact vcA
       ·rename_i jj kk vv hj _
        have hj : left[jj]? = some (kk,vv) := hj
        have hjl : jj < left.length := by
         rcases Nat.lt_or_ge jj left.length with q | q
         ·exact q
         ·rw [List.getElem?_eq_none q] at hj;cases hj
        refine Rnd.mk ⟨(left.eraseIdx jj,some (kk,vv),zdN KI d kk vv),zwH hc hp.ones hj,?_,?_⟩
        ·show (left.eraseIdx jj).length < left.length
         rw [List.length_eraseIdx,if_pos hjl];omega
        ·all_goals exact vcA
       all_goals trace_state
   ·have hut : u = t.length := by have := of_decide_eq_false ‹decide ((u : Int) < (t.length : Int)) = false›;omega
    rw [zY9 _ _ (fun k hk => zxE he (hE k (by omega)))]
end Go.Vc

namespace Go.Vc
open Go.Proofs
set_option autoImplicit false
inductive Fo where
 | nil
 | cons (a : Nat) (c r : Fo)
def Fo.size : Fo → Nat
 | .nil => 0
 | .cons _ c r => 1 + c.size + r.size
def Fo.lab : Fo → List Nat
 | .nil => []
 | .cons a c r => a :: (c.lab ++ r.lab)
theorem zaX : ∀ f : Fo,f.lab.length = f.size
 | .nil => rfl
 | .cons a c r => by simp only [Fo.lab,Fo.size,List.length_cons,List.length_append,zaX c,zaX r];omega
def zcL : Nat → Fo → List Int
 | _,.nil => []
 | n,.cons _ c r => (n : Int) :: zcL (n + 1 + c.size) r
def re : Nat → Fo → Fo
 | _,.nil => .nil
 | n,.cons _ c r => .cons n (re (n + 1) c) (re (n + 1 + c.size) r)
theorem zqH : ∀ (n : Nat) (f : Fo),(re n f).size = f.size
 | _,.nil => rfl
 | n,.cons _ c r => by simp only [re,Fo.size,zqH]
inductive D (K : Nat → List Int) : List Bool → Nat → Nat → Fo → List Bool → Prop
  | done {s i j} (h : ¬ j < (K i).length) : D K s i j .nil s
  | bad {s i j f s'} (h : j < (K i).length) (hk : okK s ((K i).getD j 0) = false) (d : D K s i (j + 1) f s') : D K s i j f s'
  | ok {s i j f r s1 s'} (h : j < (K i).length) (hk : okK s ((K i).getD j 0) = true) (d1 : D K (s.set ((K i).getD j 0).toNat true) ((K i).getD j 0).toNat 0 f s1) (d2 : D K s1 i (j + 1) r s') :
      D K s i j (.cons ((K i).getD j 0).toNat f r) s'
def evF : Nat → Fo → Nat → List Ev
 | i,.nil,c => [(i,0,c,true)]
 | i,.cons a f r,c => (a,(i : Int),c,false) :: (evF a f (c + 1) ++ evF i r (c + 2 + 2 * f.size))
variable {K : Nat → List Int}
theorem jCN {s i j f s'} (d : D K s i j f s') : ∀ c,dfs K s i j c = (evF i f c,s',c + 1 + 2 * f.size) := by
 induction d with
 | done h => intro c;rw [zZ5 h];rfl
 | bad h hk d ih => intro c;rw [zZ7 h hk];exact ih c
 | @ok s i j f r s1 s' h hk d1 d2 ih1 ih2 =>
  intro c
  rw [zcK h hk,ih1]
  dsimp only
  rw [ih2,show c + 1 + 1 + 2 * f.size = c + 2 + 2 * f.size by omega]
  simp only [evF,Fo.size]
  rw [show c + 2 + 2 * f.size + 1 + 2 * r.size = c + 1 + 2 * (1 + f.size + r.size) by omega]
theorem D_ex : ∀ (s : List Bool) (i j : Nat),∃ f s',D K s i j f s' := by
 intro s i j
 refine zc3 (K := K) (P := fun s i j _ => ∃ f s',D K s i j f s') ?_ ?_ ?_ s i j 0
 ·intro s i j c h;exact ⟨_,_,.done h⟩
 ·rintro s i j c h hk ⟨f,s',d⟩;exact ⟨_,_,.bad h hk d⟩
 ·rintro s i j c h hk ⟨f,s1,d1⟩ ⟨r,s',d2⟩
  rw [jCN d1] at d2
  exact ⟨_,_,.ok h hk d1 d2⟩
theorem zaE (s : List Bool) (k q : Nat) : (s.set k true).getD q true = (s.getD q true || decide (q = k)) := by
 rw [List.getD_eq_getElem?_getD,List.getElem?_set,List.getD_eq_getElem?_getD]
 by_cases h : k = q
 ·subst h
  rw [if_pos rfl,decide_eq_true rfl,Bool.or_true]
  split <;> rfl
 ·rw [if_neg h,decide_eq_false (fun e => h e.symm),Bool.or_false]
theorem zy8 {s i j f s'} (d : D K s i j f s') : s'.length = s.length ∧ f.lab.Nodup ∧ (∀ a ∈ f.lab,s.getD a true = false) ∧ ∀ q,s'.getD q true = (s.getD q true || decide (q ∈ f.lab)) := by
 induction d with
 | done h => exact ⟨rfl,List.nodup_nil,fun a ha => (by cases ha),fun q => by simp [Fo.lab]⟩
 | bad h hk d ih => exact ih
 | @ok s i j f r s1 s' h hk d1 d2 ih1 ih2 =>
  obtain ⟨l1,n1,u1,q1⟩ := ih1
  obtain ⟨l2,n2,u2,q2⟩ := ih2
  have hk2 := zYG hk
  have hks : s.getD ((K i).getD j 0).toNat true = false := by rw [List.getD_eq_getElem?_getD,hk2.2.2];rfl
  generalize ((K i).getD j 0).toNat = k at *
  have a1 : ∀ a ∈ f.lab,s.getD a true = false ∧ a ≠ k := fun a ha => by
   have := u1 a ha
   rw [zaE,Bool.or_eq_false_iff,decide_eq_false_iff_not] at this
   exact this
  have a2 : ∀ a ∈ r.lab,s.getD a true = false ∧ a ≠ k ∧ a ∉ f.lab := fun a ha => by
   have := u2 a ha
   rw [q1,zaE] at this
   simp only [Bool.or_eq_false_iff,decide_eq_false_iff_not] at this
   exact ⟨this.1.1,this.1.2,this.2⟩
  refine ⟨by rw [l2,l1,List.length_set],?_,?_,fun q => ?_⟩
  ·simp only [Fo.lab,List.nodup_cons,List.mem_append,List.nodup_append]
   exact ⟨fun h => h.elim (fun h => (a1 k h).2 rfl) (fun h => (a2 k h).2.1 rfl),n1,n2,fun a ha b hb e => (a2 b hb).2.2 (e ▸ ha)⟩
  ·intro a ha
   simp only [Fo.lab,List.mem_cons,List.mem_append] at ha
   rcases ha with rfl | ha | ha
   ·exact hks
   ·exact (a1 a ha).1
   ·exact (a2 a ha).1
  ·rw [q2,q1,zaE]
   simp only [Fo.lab,List.mem_cons,List.mem_append,Bool.decide_or,Bool.or_assoc]
def Kin (K : Nat → List Int) : Nat → Fo → Prop
 | _,.nil => True
 | i,.cons a c r => (a : Int) ∈ K i ∧ Kin K a c ∧ Kin K i r
theorem jGV {s i j f s'} (d : D K s i j f s') : Kin K i f := by
 induction d with
 | done h => exact True.intro
 | bad h hk d ih => exact ih
 | @ok s i j f r s1 s' h hk d1 d2 ih1 ih2 =>
  refine ⟨?_,ih1,ih2⟩
  rw [Int.toNat_of_nonneg (zYG hk).1,List.getD_eq_getElem?_getD,List.getElem?_eq_getElem h]
  exact List.getElem_mem _
def zaR (t : List zXN) : Fo → List zXN → Nat → List zXN
 | .nil,out,_ => out
 | .cons a c r,out,p => zaR t r (zaR t c (zX8 out p out.length ++ [mkN (t.getD a zXK.dflt) p]) out.length) p
theorem D_pS {s i j f s'} (d : D K s i j f s') (t : List zXN) : ∀ (out : List zXN) (p : Nat),pS t K out s p i j = zaR t f out p ∧ sS K s i j = s' := by
 induction d with
 | done h => intro out p;exact zv6 h
 | bad h hk d ih => intro out p;obtain ⟨e1,e2⟩ := zvM (t := t) (out := out) (p := p) h hk;rw [e1,e2];exact ih out p
 | @ok s i j f r s1 s' h hk d1 d2 ih1 ih2 =>
  intro out p
  obtain ⟨e1,e2⟩ := jAN (t := t) (out := out) (p := p) h hk
  rw [e1,e2]
  have hS : zqY K s ((K i).getD j 0).toNat = s1 := (ih1 [] 0).2
  have hO : zg1 t K (zX8 out p out.length) s ((K i).getD j 0).toNat p = zaR t f (zX8 out p out.length ++ [mkN (t.getD ((K i).getD j 0).toNat zXK.dflt) p]) out.length := by
   unfold zg1
   rw [zYI]
   exact (ih1 _ _).1
  rw [hS,hO]
  exact ih2 _ _
def ziL (n : zXN) (ks : List Int) : zXN := (n.1,n.2.1,n.2.2.1,n.2.2.2.1,n.2.2.2.2.1,n.2.2.2.2.2.1,ks)
def Lay (t u : List zXN) : Fo → Nat → Nat → Prop
 | .nil,_,_ => True
 | .cons a c r,n,p => u.getD n zXK.dflt = ziL (mkN (t.getD a zXK.dflt) p) (zcL (n + 1) c) ∧ Lay t u c (n + 1) n ∧ Lay t u r (n + 1 + c.size) p
theorem zmC {t u u' : List zXN} : ∀ (f : Fo) (n p : Nat),(∀ q,n ≤ q → q < n + f.size → u'.getD q zXK.dflt = u.getD q zXK.dflt) → Lay t u f n p → Lay t u' f n p := by
 intro f
 induction f with
 | nil => intro n p _ _;exact True.intro
 | cons a c r ic ir =>
  intro n p h hl
  simp only [Fo.size] at h
  obtain ⟨h1,h2,h3⟩ := hl
  refine ⟨?_,ic _ _ (fun q q1 q2 => h q (by omega) (by omega)) h2,ir _ _ (fun q q1 q2 => h q (by omega) (by omega)) h3⟩
  rw [h n (Nat.le_refl _) (by omega),h1]
theorem znH (t : List zXN) : ∀ (f : Fo) (out : List zXN) (p : Nat),(zaR t f out p).length = out.length + f.size := by
 intro f
 induction f with
 | nil => intro out p;rfl
 | cons a c r ic ir =>
  intro out p
  simp only [zaR,Fo.size]
  rw [ir,ic,List.length_append,zYI,List.length_singleton];omega
theorem zzB (o : List zXN) (p : Nat) (k : Int) (h : p < o.length) : (zX8 o p k).getD p zXK.dflt = zzS (o.getD p zXK.dflt) k := by
 unfold zX8
 rw [List.getD_eq_getElem?_getD,List.getElem?_set,if_pos rfl,if_pos h];rfl
theorem zxL (o : List zXN) (p q : Nat) (k : Int) (h : q ≠ p) : (zX8 o p k).getD q zXK.dflt = o.getD q zXK.dflt := by
 unfold zX8
 rw [List.getD_eq_getElem?_getD,List.getElem?_set,if_neg (fun e => h e.symm),List.getD_eq_getElem?_getD]
theorem zzD (o : List zXN) (x : zXN) (q : Nat) (h : q < o.length) : (o ++ [x]).getD q zXK.dflt = o.getD q zXK.dflt := by
 rw [List.getD_eq_getElem?_getD,List.getElem?_append_left h, ← List.getD_eq_getElem?_getD]
theorem zt5 (o : List zXN) (x : zXN) : (o ++ [x]).getD o.length zXK.dflt = x := by
 rw [List.getD_eq_getElem?_getD,List.getElem?_append_right (Nat.le_refl _),Nat.sub_self];rfl
theorem ztG (t : List zXN) : ∀ (f : Fo) (out : List zXN) (p : Nat),p < out.length →
  (∀ q,q < out.length → q ≠ p → (zaR t f out p).getD q zXK.dflt = out.getD q zXK.dflt) ∧
  (zaR t f out p).getD p zXK.dflt = ziL (out.getD p zXK.dflt) ((out.getD p zXK.dflt).kids ++ zcL out.length f) ∧
  Lay t (zaR t f out p) f out.length p := by
 intro f
 induction f with
 | nil =>
  intro out p hp
  refine ⟨fun q _ _ => rfl,?_,True.intro⟩
  show out.getD p zXK.dflt = _
  rw [zcL,List.append_nil];rfl
 | cons a c r ic ir =>
  intro out p hp
  have hl1 : (zX8 out p out.length ++ [mkN (t.getD a zXK.dflt) p]).length = out.length + 1 := by rw [List.length_append,zYI];rfl
  obtain ⟨b1,b2,b3⟩ := ic (zX8 out p out.length ++ [mkN (t.getD a zXK.dflt) p]) out.length (by omega)
  have hl2 := znH t c (zX8 out p out.length ++ [mkN (t.getD a zXK.dflt) p]) out.length
  rw [hl1] at b1 b2 b3 hl2
  have hL : (zX8 out p out.length ++ [mkN (t.getD a zXK.dflt) p]).getD out.length zXK.dflt = mkN (t.getD a zXK.dflt) p := by
   have := zt5 (zX8 out p out.length) (mkN (t.getD a zXK.dflt) p)
   rw [zYI] at this;exact this
  rw [hL] at b2
  have b2' : (zaR t c (zX8 out p out.length ++ [mkN (t.getD a zXK.dflt) p]) out.length).getD out.length zXK.dflt = ziL (mkN (t.getD a zXK.dflt) p) (zcL (out.length + 1) c) := b2
  have hq : ∀ q,q < out.length → (zaR t c (zX8 out p out.length ++ [mkN (t.getD a zXK.dflt) p]) out.length).getD q zXK.dflt = (zX8 out p out.length).getD q zXK.dflt := fun q hq => by
   rw [b1 q (by omega) (by omega),zzD _ _ _ (by rw [zYI];exact hq)]
  obtain ⟨c1,c2,c3⟩ := ir (zaR t c (zX8 out p out.length ++ [mkN (t.getD a zXK.dflt) p]) out.length) p (by omega)
  rw [hl2] at c1 c2 c3
  show (∀ q,_ → _ → (zaR t r (zaR t c (zX8 out p out.length ++ [mkN (t.getD a zXK.dflt) p]) out.length) p).getD q _ = _) ∧ (zaR t r (zaR t c (zX8 out p out.length ++ [mkN (t.getD a zXK.dflt) p]) out.length) p).getD p _ = _ ∧ Lay t (zaR t r (zaR t c (zX8 out p out.length ++ [mkN (t.getD a zXK.dflt) p]) out.length) p) _ _ _
  refine ⟨fun q h1 h2 => ?_,?_,?_,?_,c3⟩
  ·rw [c1 q (by omega) h2,hq q h1,zxL _ _ _ _ h2]
  ·rw [c2,hq p hp,zzB _ _ _ hp]
   simp only [zcL]
   show ziL _ ((_ ++ [(out.length : Int)]) ++ _) = ziL _ _
   rw [List.append_assoc];rfl
  ·rw [c1 _ (by omega) (by omega),b2']
  ·exact zmC c _ _ (fun q q1 q2 => c1 q (by omega) (by omega)) b3
theorem jI0 {t u : List zXN} : ∀ (f : Fo) (n p j : Nat) (s : List Bool),Lay t u f n p → s.length = u.length → n + f.size ≤ u.length → ((u.getD p zXK.dflt).kids).drop j = zcL n f → (∀ q,n ≤ q → q < n + f.size → s.getD q true = false) →
  ∃ s',D (fun i => (u.getD i zXK.dflt).kids) s p j (re n f) s' ∧ s'.length = s.length ∧ ∀ q,(q < n ∨ n + f.size ≤ q) → s'.getD q true = s.getD q true := by
 intro f
 induction f with
 | nil =>
  intro n p j s _ hs hn hd hu
  refine ⟨s,.done ?_,rfl,fun q _ => rfl⟩
  show ¬ j < ((u.getD p zXK.dflt).kids).length
  have := congrArg List.length hd
  rw [List.length_drop] at this
  simp only [zcL,List.length_nil] at this
  omega
 | cons a c r ic ir =>
  intro n p j s hl hs hn hd hu
  obtain ⟨h1,h2,h3⟩ := hl
  simp only [Fo.size] at hn hu
  have hj : j < ((u.getD p zXK.dflt).kids).length := by
   have := congrArg List.length hd
   rw [List.length_drop] at this
   simp only [zcL,List.length_cons] at this
   omega
  have hdc := List.drop_eq_getElem_cons hj
  rw [hd] at hdc
  simp only [zcL,List.cons.injEq] at hdc
  have hg : ((u.getD p zXK.dflt).kids).getD j 0 = (n : Int) := by rw [List.getD_eq_getElem?_getD,List.getElem?_eq_getElem hj];exact hdc.1.symm
  have hok : okK s (((u.getD p zXK.dflt).kids).getD j 0) = true := by
   rw [hg];unfold okK
   rw [decide_eq_true (by omega),Int.toNat_natCast,hu n (Nat.le_refl _) (by omega)];rfl
  have hkn : (u.getD n zXK.dflt).kids = zcL (n + 1) c := by rw [h1];rfl
  obtain ⟨s1,d1,l1,q1⟩ := ic (n + 1) n 0 (s.set n true) h2 (by rw [List.length_set];exact hs) (by omega) (by rw [hkn];rfl) (fun q a1 a2 => by
   rw [zaE,hu q (by omega) (by omega),decide_eq_false (by omega)];rfl)
  have hs1 : ∀ q,n + 1 + c.size ≤ q → s1.getD q true = s.getD q true := fun q hq => by
   rw [q1 q (.inr hq),zaE,decide_eq_false (by omega),Bool.or_false]
  obtain ⟨s',d2,l2,q2⟩ := ir (n + 1 + c.size) p (j + 1) s1 h3 (by rw [l1,List.length_set];exact hs) (by omega) hdc.2.symm (fun q a1 a2 => by
   rw [hs1 q a1];exact hu q (by omega) (by omega))
  refine ⟨s',?_,by rw [l2,l1,List.length_set],fun q hq => ?_⟩
  ·have d := D.ok (K := fun i => (u.getD i zXK.dflt).kids) (i := p) (j := j) hj hok (by rw [hg,Int.toNat_natCast];exact d1) d2
   have he : (((u.getD p zXK.dflt).kids).getD j 0).toNat = n := by rw [hg];rfl
   have e2 : re n (Fo.cons a c r) = Fo.cons ((((fun i => (u.getD i zXK.dflt).kids) p).getD j 0).toNat) (re (n + 1) c) (re (n + 1 + c.size) r) := by rw [show (((fun i => (u.getD i zXK.dflt).kids) p).getD j 0).toNat = n from he];rfl
   rw [e2]
   exact d
  ·simp only [Fo.size] at hq
   rw [q2 q (by omega)]
   rcases hq with hq | hq
   ·rw [q1 q (.inl (by omega)),zaE,decide_eq_false (by omega),Bool.or_false]
   ·exact hs1 q (by omega)
end Go.Vc

namespace Go.Vc
open Go.Proofs
set_option autoImplicit false
structure Laid (t u : List zXN) (f : Fo) : Prop where
 len : u.length = 1 + f.size
 kids : (u.getD 0 zXK.dflt).kids = zcL 1 f
 up : (u.getD 0 zXK.dflt).up = -1
 lay : Lay t u f 1 0
theorem ze0 (t : List zXN) (f : Fo) (x : zXN) (hk : x.kids = []) (hu : x.up = -1) : Laid t (zaR t f [x] 0) f ∧ (zaR t f [x] 0).getD 0 zXK.dflt = ziL x (zcL 1 f) := by
 obtain ⟨h1,h2,h3⟩ := ztG t f [x] 0 (by simp)
 have h2' : (zaR t f [x] 0).getD 0 zXK.dflt = ziL x (zcL 1 f) := by
  rw [h2]
  show ziL x (x.kids ++ zcL 1 f) = _
  rw [hk];rfl
 refine ⟨⟨by rw [znH];rfl,by rw [h2'];rfl,by rw [h2'];exact hu,h3⟩,h2'⟩
def s0 (n : Nat) : List Bool := (List.replicate n false).set 0 true
theorem zzX {K : Nat → List Int} {s s' : List Bool} {k : Nat} {f : Fo} (t : List zXN) (d : D K (s.set k true) k 0 f s') (up : Int) : zg1 t K [] s k up = zaR t f [mkN (t.getD k zXK.dflt) up] 0 := (D_pS d t _ _).1
theorem zh4 {t : List zXN} (h : t ≠ []) : ∃ f s',D (zXL t) (s0 t.length) 0 0 f s' ∧ zZC t = zaR t f [mkN (t.getD 0 zXK.dflt) (-1)] 0 := by
 obtain ⟨f,s',d⟩ := D_ex (K := zXL t) (s0 t.length) 0 0
 refine ⟨f,s',d,?_⟩
 unfold zZC
 rw [if_neg h]
 exact zzX t d (-1)
theorem zwP (n q : Nat) : (List.replicate n false).getD q true = decide (n ≤ q) := by
 rw [List.getD_eq_getElem?_getD,List.getElem?_replicate]
 by_cases h : q < n
 ·rw [if_pos h,decide_eq_false (by omega)];rfl
 ·rw [if_neg h,decide_eq_true (by omega)];rfl
theorem jC1 (n q : Nat) : (s0 n).getD q true = (decide (n ≤ q) || decide (q = 0)) := by
 unfold s0;rw [zaE,zwP]
theorem zqQ {t u : List zXN} {g : Fo} {k : Nat} (hl : Lay t u g (k + 1) k) (hk : (u.getD k zXK.dflt).kids = zcL (k + 1) g) (hn : k + 1 + g.size ≤ u.length) :
  ∃ s',D (zXL u) ((List.replicate u.length false).set k true) k 0 (re (k + 1) g) s' := by
 obtain ⟨s',d,_⟩ := jI0 g (k + 1) k 0 ((List.replicate u.length false).set k true) hl (by simp) hn (by rw [hk];rfl) (fun q h1 h2 => by
  rw [zaE,zwP,decide_eq_false (by omega),decide_eq_false (by omega)];rfl)
 exact ⟨s',d⟩
theorem jDO {t u : List zXN} {f : Fo} (h : Laid t u f) : ∃ s',D (zXL u) (s0 u.length) 0 0 (re 1 f) s' := zqQ (k := 0) h.lay h.kids (by rw [h.len];omega)
theorem jAL {t u : List zXN} {f : Fo} (h : Laid t u f) : u ≠ [] := fun e => by have := h.len;rw [e] at this;simp at this;omega
theorem zy5 {t u : List zXN} : ∀ (f : Fo) (n p : Nat),Lay t u f n p → ∀ k ∈ zcL n f,∃ q : Nat,k = (q : Int) ∧ n ≤ q ∧ q < n + f.size ∧ (u.getD q zXK.dflt).up = (p : Int) := by
 intro f
 induction f with
 | nil => intro n p _ k hk;cases hk
 | cons a c r ic ir =>
  intro n p hl k hk
  obtain ⟨h1,h2,h3⟩ := hl
  simp only [zcL,List.mem_cons] at hk
  simp only [Fo.size]
  rcases hk with rfl | hk
  ·exact ⟨n,rfl,Nat.le_refl _,by omega,by rw [h1];rfl⟩
  ·obtain ⟨q,e,a1,a2,a3⟩ := ir _ _ h3 k hk
   exact ⟨q,e,by omega,by omega,a3⟩
theorem jB4 : ∀ (f : Fo) (n : Nat),∀ k ∈ zcL n f,(n : Int) ≤ k := by
 intro f
 induction f with
 | nil => intro n k hk;cases hk
 | cons a c r ic ir =>
  intro n k hk
  simp only [zcL,List.mem_cons] at hk
  rcases hk with rfl | hk
  ·omega
  ·have := ir _ k hk;omega
theorem zi2 : ∀ (f : Fo) (n : Nat),(zcL n f).Nodup := by
 intro f
 induction f with
 | nil => intro n;exact List.nodup_nil
 | cons a c r ic ir =>
  intro n
  simp only [zcL,List.nodup_cons]
  exact ⟨fun h => by have := jB4 r _ _ h;omega,ir _⟩
theorem zwF {l : List Int} (h : l.Nodup) (a : Int) : l.count a ≤ 1 := by
 induction l with
 | nil => simp
 | cons x l ih =>
  obtain ⟨h1,h2⟩ := List.nodup_cons.1 h
  rw [List.count_cons]
  by_cases e : x = a
  ·subst e
   rw [List.count_eq_zero.2 h1];simp
  ·have := ih h2
   rw [if_neg (by simpa using e)];omega
theorem zg0 : ∀ (f : Fo) (n : Nat),(zcL n f).length ≤ f.size := by
 intro f
 induction f with
 | nil => intro n;exact Nat.le_refl _
 | cons a c r ic ir =>
  intro n
  have := ir (n + 1 + c.size)
  simp only [zcL,List.length_cons,Fo.size];omega
def Kd (t : List zXN) : Fo → Prop
 | .nil => True
 | .cons a c r => (1 ≤ (t.getD a zXK.dflt).1 ∧ (t.getD a zXK.dflt).1 ≤ 4) ∧ (c ≠ .nil → (t.getD a zXK.dflt).1 ≤ 1) ∧ Kd t c ∧ Kd t r
theorem zxD {n : Nat} {f : Fo} : zcL n f ≠ [] → f ≠ .nil := fun h e => h (by rw [e];rfl)
theorem zxT {t u : List zXN} : ∀ (f : Fo) (n p : Nat),Lay t u f n p → Kd t f → p < n → ∀ q,n ≤ q → q < n + f.size →
  ∃ a w c,u.getD q zXK.dflt = ziL (mkN (t.getD a zXK.dflt) (w : Nat)) (zcL (q + 1) c) ∧ a ∈ f.lab ∧ Lay t u c (q + 1) q ∧ q + 1 + c.size ≤ n + f.size ∧ w < q ∧ (1 ≤ (t.getD a zXK.dflt).1 ∧ (t.getD a zXK.dflt).1 ≤ 4) ∧
   ((w = p ∧ (q : Int) ∈ zcL n f) ∨ (n ≤ w ∧ (u.getD w zXK.dflt).1 ≤ 1 ∧ (q : Int) ∈ (u.getD w zXK.dflt).kids ∧ (u.getD w zXK.dflt).kids.Nodup)) := by
 intro f
 induction f with
 | nil => intro n p _ _ _ q h1 h2;simp only [Fo.size] at h2;omega
 | cons a c r ic ir =>
  intro n p hl hk hp q h1 h2
  obtain ⟨l1,l2,l3⟩ := hl
  obtain ⟨k1,k2,k3,k4⟩ := hk
  simp only [Fo.size] at h2
  by_cases e : q = n
  ·subst e
   exact ⟨a,p,c,l1,by simp [Fo.lab],l2,by simp only [Fo.size];omega,hp,k1,.inl ⟨rfl,by simp [zcL]⟩⟩
  ·by_cases h3 : q < n + 1 + c.size
   ·obtain ⟨a',w,c',e1,e2,e3,e4,e5,e6,e7⟩ := ic (n + 1) n l2 k3 (by omega) q (by omega) (by omega)
    refine ⟨a',w,c',e1,by simp [Fo.lab,e2],e3,by simp only [Fo.size];omega,e5,e6,?_⟩
    rcases e7 with ⟨rfl,e7⟩ | ⟨e7,e8⟩
    ·refine .inr ⟨Nat.le_refl _,?_,?_,?_⟩
     ·rw [l1]
      exact k2 (zxD (n := w + 1) (List.ne_nil_of_mem e7))
     ·rw [l1];exact e7
     ·rw [l1];exact zi2 _ _
    ·exact .inr ⟨by omega,e8⟩
   ·obtain ⟨a',w,c',e1,e2,e3,e4,e5,e6,e7⟩ := ir (n + 1 + c.size) p l3 k4 (by omega) q (by omega) (by omega)
    refine ⟨a',w,c',e1,by simp [Fo.lab,e2],e3,by simp only [Fo.size];omega,e5,e6,?_⟩
    rcases e7 with ⟨rfl,e7⟩ | ⟨e7,e8⟩
    ·exact .inl ⟨rfl,by simp [zcL,e7]⟩
    ·exact .inr ⟨by omega,e8⟩
theorem zjS {t u : List zXN} {f : Fo} (h : Laid t u f) (h0 : (u.getD 0 zXK.dflt).1 = 0) (hk : Kd t f) : zYY u = true := by
 have hlen := h.len
 have node := zxT f 1 0 h.lay hk (by omega)
 have kidsOk : ∀ {c : Fo} {q : Nat},Lay t u c (q + 1) q → q + 1 + c.size ≤ u.length → (zcL (q + 1) c).all (fun k => !zoF u q k) = true := fun {c q} hl hs => by
  rw [List.all_eq_true]
  intro k hk'
  obtain ⟨q',e1,e2,e3,e4⟩ := zy5 c _ _ hl k hk'
  unfold zoF
  have e5 : (nd u k).up = (q : Int) := by rw [e1];exact e4
  rw [decide_eq_false (by omega),decide_eq_false (by omega),e5]
  simp
 have hok : ∀ q,q < u.length → okN u q = true ∧ ((u.getD q zXK.dflt).up = -1 ∨ ∃ w : Nat,w < q ∧ (u.getD q zXK.dflt).up = (w : Int)) := fun q hq => by
  by_cases e : q = 0
  ·subst e
   refine ⟨?_,.inl h.up⟩
   unfold okN
   have hA : zoB u 0 = false := rfl
   have hB : zzC u 0 = false := by
    unfold zzC
    rw [decide_eq_false (show ¬ (ndR u 0).up ≥ 0 by show ¬ (u.getD 0 zXK.dflt).up ≥ 0;rw [h.up];omega)];rfl
   have hK : (ndR u 0).kids = zcL 1 f := h.kids
   rw [hA,hB,hK,kidsOk (q := 0) h.lay (by omega)];rfl
  ·obtain ⟨a,w,c,e1,e2,e3,e4,e5,e6,e7⟩ := node q (by omega) (by omega)
   have hup : (u.getD q zXK.dflt).up = (w : Int) := by rw [e1];rfl
   have hkind : (u.getD q zXK.dflt).1 = (t.getD a zXK.dflt).1 := by rw [e1];rfl
   refine ⟨?_,.inr ⟨w,e5,hup⟩⟩
   unfold okN
   have hA : zoB u q = false := by
    unfold zoB
    show (decide ((q : Int) > 0) && (decide ((u.getD q zXK.dflt).1 < 1) || decide ((u.getD q zXK.dflt).1 > 4) || decide ((u.getD q zXK.dflt).up < -1) || decide ((u.getD q zXK.dflt).up ≥ (u.length : Int)))) = false
    have a3 : decide ((w : Int) < -1) = false := decide_eq_false (by omega)
    have a4 : decide ((w : Int) ≥ (u.length : Int)) = false := decide_eq_false (by omega)
    rw [hup,hkind,decide_eq_false (Int.not_lt.2 e6.1),decide_eq_false (Int.not_lt.2 e6.2),a3,a4]
    simp
   have hw : (nd u (ndR u q).up) = u.getD w zXK.dflt := by
    show u.getD ((u.getD q zXK.dflt).up).toNat zXK.dflt = _
    rw [hup,Int.toNat_natCast]
   have hB : zzC u q = false := by
    unfold zzC
    rw [hw]
    have hc : ∀ {l : List Int},(q : Int) ∈ l → l.Nodup → ((l.count (q : Int) : Nat) : Int) = 1 := fun {l} h1 h2 => by
     have c1 := zwF h2 (q : Int);have c2 := List.count_pos_iff.2 h1;omega
    rcases e7 with ⟨rfl,e7⟩ | ⟨e7,e8,e9,e10⟩
    ·rw [h0,h.kids,hc e7 (zi2 _ _)];simp
    ·rw [hc e9 e10,decide_eq_false (Int.not_lt.2 e8)];simp
   have hK : (ndR u q).kids = zcL (q + 1) c := by show (u.getD q zXK.dflt).kids = _;rw [e1];rfl
   rw [hA,hB,hK,kidsOk e3 (by omega)];rfl
 have hheld : ∀ m q,q < m → q < u.length → zZ3 u (q + 1) (q : Int) = true := by
  intro m
  induction m with
  | zero => intro q hq;omega
  | succ m ih =>
   intro q hq hql
   rw [zZ3]
   have hn : nd u (q : Int) = u.getD q zXK.dflt := rfl
   rw [hn]
   rcases (hok q hql).2 with e | ⟨w,hw,e⟩
   ·rw [e];rfl
   ·rw [e,beq_eq_false_iff_ne.2 (by omega)]
    exact zbS (ih w (by omega) (by omega)) _ (by omega)
 have hb : badR u = false := by
  unfold badR
  have e1 : (nd u 0).1 = 0 := h0
  have e2 : (nd u 0).up = -1 := h.up
  rw [e1,e2,beq_eq_false_iff_ne.2 (show (u.length : Int) ≠ 0 by omega)];rfl
 unfold zYY
 rw [hb,zY9 _ _ (fun k hk => (hok k hk).1),zY9 _ _ (fun k hk => zbS (hheld (k + 1) k (by omega) hk) _ (by omega))]
 rfl
end Go.Vc

namespace Go.Vc
set_option autoImplicit false
def sI (I : List Int) : List Bool := I.map fun v => decide (0 ≤ v)
theorem zeM (I : List Int) (k m : Nat) : sI (I.set k (m : Int)) = (sI I).set k true := by
 unfold sI;rw [List.map_set,decide_eq_true (by omega : (0 : Int) ≤ (m : Int))]
theorem jDW (n : Nat) : sI (List.replicate n (-1)) = List.replicate n false := by
 unfold sI;rw [List.map_replicate];rfl
theorem zz8 (I : List Int) (k : Nat) (h : k < I.length) : (sI I).getD k true = decide (0 ≤ I.getD k 0) := by
 unfold sI;simp [List.getD,h]
def dR (K : Nat → List Int) (x : St) (i j : Nat) : St := x.run (dfs K (sI x.I) i j x.m).1
variable {K : Nat → List Int}
theorem zkH (x : St) (e : Ev) (l : List Ev) : x.run (e :: l) = (x.step e).run l := rfl
theorem zzZ : ∀ (s : List Bool) (i j c : Nat) (x : St),sI x.I = s → x.m = c →
  sI (x.run (dfs K s i j c).1).I = (dfs K s i j c).2.1 ∧ (x.run (dfs K s i j c).1).m = (dfs K s i j c).2.2 := by
 refine zc3 (K := K) ?_ ?_ ?_
 ·intro s i j c h x hs hm
  rw [zZ5 h]
  exact ⟨hs,by show x.m + 1 = c + 1;rw [hm]⟩
 ·intro s i j c h hk ih x hs hm
  rw [zZ7 h hk]
  exact ih x hs hm
 ·intro s i j c h hk i1 i2 x hs hm
  rw [zcK h hk]
  dsimp only
  rw [zkH,zcS]
  have a := i1 (x.step (((K i).getD j 0).toNat,(i : Int),c,false)) (by show sI (x.I.set _ (x.m : Int)) = _;rw [zeM,hs]) (by show x.m + 1 = c + 1;rw [hm])
  exact i2 _ a.1 a.2
theorem zu4 {x : St} {i j : Nat} (h : ¬ j < (K i).length) : dR K x i j = x.step (i,0,x.m,true) := by
 unfold dR;rw [zZ5 h];rfl
theorem ztS {x : St} {i j : Nat} (h : j < (K i).length) (hk : okK (sI x.I) ((K i).getD j 0) = false) : dR K x i j = dR K x i (j + 1) := by
 unfold dR;rw [zZ7 h hk]
theorem jAE {x : St} {i j : Nat} (h : j < (K i).length) (hk : okK (sI x.I) ((K i).getD j 0) = true) :
    dR K x i j = dR K (dR K (x.step (((K i).getD j 0).toNat,(i : Int),x.m,false)) ((K i).getD j 0).toNat 0) i (j + 1) := by
  have hI : sI (x.step (((K i).getD j 0).toNat,(i : Int),x.m,false)).I = (sI x.I).set ((K i).getD j 0).toNat true := zeM ..
  have hm : (x.step (((K i).getD j 0).toNat,(i : Int),x.m,false)).m = x.m + 1 := rfl
  have a := zzZ (K := K) _ ((K i).getD j 0).toNat 0 _ _ hI hm
  have e1 : dR K (x.step (((K i).getD j 0).toNat,(i : Int),x.m,false)) ((K i).getD j 0).toNat 0 =
      (x.step (((K i).getD j 0).toNat,(i : Int),x.m,false)).run (dfs K ((sI x.I).set ((K i).getD j 0).toNat true) ((K i).getD j 0).toNat 0 (x.m + 1)).1 := by
    unfold dR;rw [hI,hm]
  rw [e1]
  generalize hy : (x.step (((K i).getD j 0).toNat,(i : Int),x.m,false)).run (dfs K ((sI x.I).set ((K i).getD j 0).toNat true) ((K i).getD j 0).toNat 0 (x.m + 1)).1 = y at *
  unfold dR
  rw [a.1,a.2,zcK h hk]
  dsimp only
  rw [zkH,zcS,hy]
theorem jC8 {P : St → Nat → Nat → Prop} (he : ∀ x i j,¬ j < (K i).length → P x i j) (hb : ∀ x i j,j < (K i).length → okK (sI x.I) ((K i).getD j 0) = false → P x i (j + 1) → P x i j)
  (ho : ∀ x i j,j < (K i).length → okK (sI x.I) ((K i).getD j 0) = true → P (x.step (((K i).getD j 0).toNat,(i : Int),x.m,false)) ((K i).getD j 0).toNat 0 →
   P (dR K (x.step (((K i).getD j 0).toNat,(i : Int),x.m,false)) ((K i).getD j 0).toNat 0) i (j + 1) → P x i j) : ∀ x i j,P x i j := by
 have main : ∀ (s : List Bool) (i j c : Nat) (x : St),sI x.I = s → x.m = c → P x i j := by
  refine zc3 (K := K) ?_ ?_ ?_
  ·intro s i j c h x hs hm;exact he x i j h
  ·intro s i j c h hk ih x hs hm;subst hs;exact hb x i j h hk (ih x rfl hm)
  ·intro s i j c h hk i1 i2 x hs hm
   subst hs;subst hm
   have hI : sI (x.step (((K i).getD j 0).toNat,(i : Int),x.m,false)).I = (sI x.I).set ((K i).getD j 0).toNat true := zeM ..
   have a := zzZ (K := K) _ ((K i).getD j 0).toNat 0 (x.m + 1) (x.step (((K i).getD j 0).toNat,(i : Int),x.m,false)) hI rfl
   refine ho x i j h hk (i1 _ hI rfl) (i2 _ ?_ ?_)
   ·unfold dR;rw [hI];exact a.1
   ·unfold dR;rw [hI];exact a.2
 exact fun x i j => main _ i j _ x rfl rfl
theorem zzU : ∀ (x : St) (i j : Nat),(dR K x i j).m + 2 * unseen (sI (dR K x i j).I) ≤ x.m + 2 * unseen (sI x.I) + 1 ∧ (dR K x i j).I.length = x.I.length ∧ (dR K x i j).O.length = x.O.length ∧
  (dR K x i j).L.length + x.m ≤ x.L.length + (dR K x i j).m ∧ unseen (sI (dR K x i j).I) ≤ unseen (sI x.I) := by
 refine jC8 (K := K) ?_ ?_ ?_
 ·intro x i j h
  rw [zu4 h]
  refine ⟨?_,rfl,List.length_set ..,?_,Nat.le_refl _⟩
  ·show x.m + 1 + _ ≤ _;exact Nat.le_of_eq (by show x.m + 1 + 2 * unseen (sI x.I) = _;omega)
  ·show x.L.length + x.m ≤ x.L.length + (x.m + 1);omega
 ·intro x i j h hk ih
  rw [ztS h hk];exact ih
 ·intro x i j h hk i1 i2
  rw [jAE h hk]
  have hI : sI (x.step (((K i).getD j 0).toNat,(i : Int),x.m,false)).I = (sI x.I).set ((K i).getD j 0).toNat true := zeM ..
  have hu := zYE (zYG hk).2.2
  have hm : (x.step (((K i).getD j 0).toNat,(i : Int),x.m,false)).m = x.m + 1 := rfl
  have hL : (x.step (((K i).getD j 0).toNat,(i : Int),x.m,false)).L.length = x.L.length + 1 := by
   show (x.L ++ [_]).length = _;simp
  have hIl : (x.step (((K i).getD j 0).toNat,(i : Int),x.m,false)).I.length = x.I.length := List.length_set ..
  have hOl : (x.step (((K i).getD j 0).toNat,(i : Int),x.m,false)).O.length = x.O.length := rfl
  rw [hI,hm,hL,hIl,hOl] at i1
  exact ⟨by omega,by omega,by omega,by omega,by omega⟩
def StE (x y : St) : Prop := x.L = y.L ∧ x.I = y.I ∧ x.O = y.O ∧ x.m = y.m
theorem StE.step {x y : St} (h : StE x y) {e e' : Ev} (h1 : e.1 = e'.1) (h2 : e.2.2.2 = e'.2.2.2) : StE (x.step e) (y.step e') := by
 obtain ⟨a,b,c,d⟩ := h
 unfold St.step
 rw [← h2]
 split
 ·exact ⟨a,b,by dsimp only;rw [c,d,h1],by dsimp only;rw [d]⟩
 ·exact ⟨by dsimp only;rw [a,h1],by dsimp only;rw [b,d,h1],c,by dsimp only;rw [d]⟩
theorem StE.run : ∀ {l : List Ev} {x y : St},StE x y → StE (x.run l) (y.run l) := by
 intro l
 induction l with
 | nil => intro x y h;exact h
 | cons e l ih => intro x y h;exact ih (h.step rfl rfl)
theorem StE.dR {x y : St} (h : StE x y) (i j : Nat) : StE (dR K x i j) (dR K y i j) := by
 unfold Go.Vc.dR
 rw [← h.2.1, ← h.2.2.2]
 exact h.run
def wkS (K : Nat → List Int) (L : List Nat) (I O : List Int) (i m : Nat) : St := dR K (({ L := L,P := [],I := I,O := O,m := m } : St).step (i,0,m,false)) i 0
theorem jDG (K : Nat → List Int) (n : Nat) (h : 0 < n) : StE (zs6 K n) (wkS K [] (List.replicate n (-1)) (List.replicate n (-1)) 0 0) := by
 have e : zs6 K n = dR K ((st0 n).step (0, -1,0,false)) 0 0 := by
  unfold zs6 zlI dR
  rw [if_neg (by omega)]
  have e2 : sI ((st0 n).step (0, -1,0,false)).I = (List.replicate n false).set 0 true := by
   show sI ((List.replicate n (-1)).set 0 ((0 : Nat) : Int)) = _
   rw [zeM,jDW]
  have e3 : ((st0 n).step (0, -1,0,false)).m = 1 := rfl
  rw [e2,e3,zkH,zfL,zfL,List.append_nil]
 rw [e]
 unfold wkS
 exact (StE.step (x := st0 n) ⟨rfl,rfl,rfl,rfl⟩ rfl rfl).dR 0 0
end Go.Vc

namespace Go.Vc
open Go.Proofs
set_option maxRecDepth 10000
set_option maxHeartbeats 4000000
def jCQ (t : List zXN) (L : List Nat) (I O : List Int) (k : Int) (m : Nat) : Prop :=
 t.length ≤ 45 ∧ I.length = t.length ∧ O.length = t.length ∧ (0 ≤ k ∧ k < t.length) ∧ m + 2 * unseen (sI (I.set k.toNat (m : Int))) + 2 ≤ 200 ∧ L.length ≤ m
theorem zsE {I : List Int} {n : Nat} (hI : I.length = n) (k : Int) : (decide (k ≥ 0) && decide (k < (n : Int)) && decide (I.getD k.toNat 0 < 0)) = okK (sI I) k := by
  unfold okK
  by_cases h1 : k < 0
  · rw [decide_eq_false (by omega : ¬ k ≥ 0)];rfl
  · rw [decide_eq_true (by omega : k ≥ 0)]
    by_cases h2 : k < (n : Int)
    · rw [decide_eq_true h2,zz8 I k.toNat (by omega)]
      by_cases h3 : I.getD k.toNat 0 < 0
      · rw [decide_eq_true h3,decide_eq_false (by omega : ¬ 0 ≤ I.getD k.toNat 0)];rfl
      · rw [decide_eq_false h3,decide_eq_true (by omega : 0 ≤ I.getD k.toNat 0)];rfl
    · have : (sI I).getD k.toNat true = true := by
        rw [List.getD_eq_getElem?_getD,List.getElem?_eq_none (by unfold sI;rw [List.length_map];omega)];rfl
      rw [decide_eq_false h2,this];rfl
theorem jC5 (N : Nat) : ∀ (t : List zXN) (L : List Nat) (I O : List Int) (k : Int) (m : Nat),
  FnM BB 50 [.agg [.rd zXK t],.int .i64 k,.own 0,.own 1,.own 2,.int .i64 m] [(0,.own zXR (zbL L)),(1,.ow zXR I),(2,.ow zXR O)]
   (jCQ t L I O k m ∧ unseen (sI (I.set k.toNat (m : Int))) < N)
   (.tup [.own 0,.int .i64 ((wkS (zXL t) L I O k.toNat m).m : Int)]) [(0,.own zXR (zbL (wkS (zXL t) L I O k.toNat m).L)),(1,.ow zXR (wkS (zXL t) L I O k.toNat m).I),(2,.ow zXR (wkS (zXL t) L I O k.toNat m).O)] := by
 induction N with
 | zero => intro t L I O k m;exact ⟨Try.call50,fun h => absurd h.2 (Nat.not_lt_zero _)⟩
 | succ N ih =>
  intro t L I O k m
  refine FnM.intro (N := 79) [0,1,2,3,4,5,6,12,13,14,15,34,61] [] 3 Try.call50 Try.func50 rfl rfl (by kernel_rfl) (fun hpre => ?_)
  repeat' ((conv => whnf);first|(with_reducible first|rfl|exact zXT|exact zXS)|exact True.intro|intro _|refine WA ?_ ?_|refine WF ?_|refine W1 rfl ?_ ?_|refine W2 rfl ?_ ?_|refine W3 rfl ?_ ?_|refine W4 ?_ ?_|refine W5 rfl ?_ ?_|refine W6 ?_ ?_|refine WN ?_|refine X1 (W1 rfl ?_ ?_)|refine X1 (W2 rfl ?_ ?_)|refine X2 (W7 rfl ?_ ?_)|refine X3 (W7 rfl ?_ ?_)|refine X4 (W7 rfl ?_ ?_)|refine X5 (W7 rfl ?_ ?_))
  all_goals (try (conv => whnf))
  all_goals (try first|exact obA|refine Ob.mk ?_)
  all_goals (obtain ⟨⟨ht,hIl,hOl,hk,hm,hL⟩,hN⟩ := hpre)
  ·have : (zbL L).length = L.length := by unfold zbL;simp
   rw [this,List.length_singleton]
   simp only [bytes3,zvA]
   omega
  ·omega
  ·omega
  ·constructor <;> omega
  generalize hx0 : (({ L := L,P := [],I := I,O := O,m := m } : St).step (k.toNat,0,m,false)) = x0
  have hxI : x0.I = I.set k.toNat (m : Int) := by rw [← hx0];rfl
  have hxL : x0.L = L ++ [k.toNat] := by rw [← hx0];rfl
  have hxO : x0.O = O := by rw [← hx0];rfl
  have hxm : x0.m = m + 1 := by rw [← hx0];rfl
  have hwk : wkS (zXL t) L I O k.toNat m = dR (zXL t) x0 k.toNat 0 := by unfold wkS;rw [hx0]
  rw [hwk]
  refine LoopStop.mk (α := St × Nat) (fun a => [(5,.int .i64 a.1.m),(14,.int .i64 a.2)]) (fun a => [(0,.own zXR (zbL a.1.L)),(1,.ow zXR a.1.I),(2,.ow zXR a.1.O)]) 60
   (fun a => dR (zXL t) a.1 k.toNat a.2 = dR (zXL t) x0 k.toNat 0 ∧ a.1.I.length = t.length ∧ a.1.O.length = t.length ∧ a.1.m + 2 * unseen (sI a.1.I) + 1 ≤ 200 ∧ a.1.L.length ≤ a.1.m ∧ unseen (sI a.1.I) ≤ N ∧ a.2 ≤ (zXL t k.toNat).length)
   (fun a => (zXL t k.toNat).length - a.2) (x0,0) ⟨rfl,by rw [hxI,List.length_set];exact hIl,by rw [hxO];exact hOl,by rw [hxI,hxm];omega,by rw [hxL,hxm,List.length_append,List.length_singleton];omega,by rw [hxI];omega,Nat.zero_le _⟩ ?_ (fun a ha => ?_)
  ·repeat' ((conv => whnf);first|(with_reducible first|rfl|exact zXT|exact zXS)|exact True.intro|intro _|refine WA ?_ ?_|refine WF ?_|refine W1 rfl ?_ ?_|refine W2 rfl ?_ ?_|refine W3 rfl ?_ ?_|refine W4 ?_ ?_|refine W5 rfl ?_ ?_|refine W6 ?_ ?_|refine WN ?_|refine X1 (W1 rfl ?_ ?_)|refine X1 (W2 rfl ?_ ?_)|refine X2 (W7 rfl ?_ ?_)|refine X3 (W7 rfl ?_ ?_)|refine X4 (W7 rfl ?_ ?_)|refine X5 (W7 rfl ?_ ?_))
   all_goals (try (conv => whnf))
   all_goals (try first|exact obA|refine Ob.mk ?_)
   ·show (m : Int) + 1 = (x0.m : Int);rw [hxm];omega
   ·show Chunk.own zXR _ = Chunk.own zXR (zbL x0.L)
    rw [hxL,zlS,Int.toNat_of_nonneg hk.1]
   ·show Chunk.ow zXR _ = Chunk.ow zXR x0.I
    rw [hxI]
   ·show Chunk.ow zXR _ = Chunk.ow zXR x0.O
    rw [hxO]
  ·obtain ⟨x,j⟩ := a
   dsimp only at ha ⊢
   obtain ⟨hD,hI2,hO2,hm2,hL2,hu2,hj2⟩ := ha
   repeat' ((conv => whnf);first|(with_reducible first|rfl|exact zXT|exact zXS)|exact True.intro|intro _|refine WA ?_ ?_|refine WF ?_|refine W1 rfl ?_ ?_|refine W2 rfl ?_ ?_|refine W3 rfl ?_ ?_|refine W4 ?_ ?_|refine W5 rfl ?_ ?_|refine W6 ?_ ?_|refine WN ?_|refine X1 (W1 rfl ?_ ?_)|refine X1 (W2 rfl ?_ ?_)|refine X2 (W7 rfl ?_ ?_)|refine X3 (W7 rfl ?_ ?_)|refine X4 (W7 rfl ?_ ?_)|refine X5 (W7 rfl ?_ ?_))
   all_goals (try (conv => whnf))
   all_goals (try first|exact obA|refine Ob.mk ?_)
   all_goals (try simp only [Int.toNat_natCast] at *)
   ·rename_i h1 h2 h3
    have hc : okK (sI x.I) ((zXL t k.toNat).getD j 0) = true := by rw [← zsE hI2];exact h3
    have hks := zYG hc
    have hls : (sI x.I).length = t.length := by unfold sI;rw [List.length_map];exact hI2
    have hu := zYE hks.2.2
    rw [← zeM x.I ((zXL t k.toNat).getD j 0).toNat x.m] at hu
    show jCQ t x.L x.I x.O ((zXL t k.toNat).getD j 0) x.m ∧ unseen (sI (x.I.set ((zXL t k.toNat).getD j 0).toNat (x.m : Int))) < N
    exact ⟨⟨ht,hI2,hO2,⟨hks.1,by omega⟩,by omega,hL2⟩,by omega⟩
   ·rename_i h1 h2 h3
    have hj : j < (zXL t k.toNat).length := by have h := of_decide_eq_true h2;exact Int.ofNat_lt.mp h
    have hc : okK (sI x.I) ((zXL t k.toNat).getD j 0) = true := by rw [← zsE hI2];exact h3
    rw [jAE hj hc] at hD
    have hks := zYG hc
    have hu := zYE hks.2.2
    rw [← zeM x.I ((zXL t k.toNat).getD j 0).toNat x.m] at hu
    have hb := zzU (K := zXL t) (x.step (((zXL t k.toNat).getD j 0).toNat,(k.toNat : Int),x.m,false)) ((zXL t k.toNat).getD j 0).toNat 0
    have e1 : (x.step (((zXL t k.toNat).getD j 0).toNat,(k.toNat : Int),x.m,false)).m = x.m + 1 := rfl
    have e2 : (x.step (((zXL t k.toNat).getD j 0).toNat,(k.toNat : Int),x.m,false)).I = x.I.set ((zXL t k.toNat).getD j 0).toNat (x.m : Int) := rfl
    have e3 : (x.step (((zXL t k.toNat).getD j 0).toNat,(k.toNat : Int),x.m,false)).O = x.O := rfl
    have e4 : (x.step (((zXL t k.toNat).getD j 0).toNat,(k.toNat : Int),x.m,false)).L.length = x.L.length + 1 := by show (x.L ++ [_]).length = _;simp
    have hE : StE (wkS (zXL t) x.L x.I x.O ((zXL t k.toNat).getD j 0).toNat x.m) (dR (zXL t) (x.step (((zXL t k.toNat).getD j 0).toNat,(k.toNat : Int),x.m,false)) ((zXL t k.toNat).getD j 0).toNat 0) := by
     unfold wkS
     exact StE.dR (StE.step (x := { L := x.L,P := [],I := x.I,O := x.O,m := x.m }) (y := x) ⟨rfl,rfl,rfl,rfl⟩ rfl rfl) _ _
    rw [e1,e2,e3,e4,List.length_set] at hb
    generalize dR (zXL t) (x.step (((zXL t k.toNat).getD j 0).toNat,(k.toNat : Int),x.m,false)) ((zXL t k.toNat).getD j 0).toNat 0 = y at *
    refine Rnd.mk ⟨(y,j + 1),⟨hD,by show y.I.length = _;omega,by show y.O.length = _;omega,by show y.m + 2 * unseen (sI y.I) + 1 ≤ 200;omega,by show y.L.length ≤ y.m;omega,by show unseen (sI y.I) ≤ N;omega,by show j + 1 ≤ _;omega⟩,by show _ - (j + 1) < _;omega,?_⟩
    repeat' ((conv => whnf);first|(with_reducible first|rfl|exact zXT|exact zXS)|exact True.intro|intro _|refine WA ?_ ?_|refine WF ?_|refine W1 rfl ?_ ?_|refine W2 rfl ?_ ?_|refine W3 rfl ?_ ?_|refine W4 ?_ ?_|refine W5 rfl ?_ ?_|refine W6 ?_ ?_|refine WN ?_|refine X1 (W1 rfl ?_ ?_)|refine X1 (W2 rfl ?_ ?_)|refine X2 (W7 rfl ?_ ?_)|refine X3 (W7 rfl ?_ ?_)|refine X4 (W7 rfl ?_ ?_)|refine X5 (W7 rfl ?_ ?_))
    all_goals (try (conv => whnf))
    all_goals (try first|exact obA|refine Ob.mk ?_)
    ·show ((wkS (zXL t) x.L x.I x.O ((zXL t k.toNat).getD j 0).toNat x.m).m : Int) = (y.m : Int)
     rw [hE.2.2.2]
    all_goals (try rfl)
    ·show Chunk.own zXR (zbL (wkS (zXL t) x.L x.I x.O ((zXL t k.toNat).getD j 0).toNat x.m).L) = Chunk.own zXR (zbL y.L)
     rw [hE.1]
    ·show Chunk.ow zXR (wkS (zXL t) x.L x.I x.O ((zXL t k.toNat).getD j 0).toNat x.m).I = Chunk.ow zXR y.I
     rw [hE.2.1]
    ·show Chunk.ow zXR (wkS (zXL t) x.L x.I x.O ((zXL t k.toNat).getD j 0).toNat x.m).O = Chunk.ow zXR y.O
     rw [hE.2.2.1]
   ·rename_i h1 h2 h3
    have hj : j < (zXL t k.toNat).length := by have h := of_decide_eq_true h2;exact Int.ofNat_lt.mp h
    have hc : okK (sI x.I) ((zXL t k.toNat).getD j 0) = false := by rw [← zsE hI2];exact h3
    rw [ztS hj hc] at hD
    refine Rnd.mk ⟨(x,j + 1),⟨hD,hI2,hO2,hm2,hL2,hu2,by show j + 1 ≤ _;omega⟩,by show _ - (j + 1) < _;omega,?_⟩
    all_goals exact vcA
   all_goals (rename_i h1 h2)
   all_goals (have hj : ¬ j < (zXL t k.toNat).length := by have h := of_decide_eq_false h2;exact fun q => h (Int.ofNat_lt.mpr q))
   all_goals (rw [zu4 hj] at hD;rw [← hD])
   ·rfl
   ·rfl
   ·rfl
   ·rfl
instance hWalk (t : List zXN) (L : List Nat) (I O : List Int) (k : Int) (m : Nat) :
  FnM BB 50 [.agg [.rd zXK t],.int .i64 k,.own 0,.own 1,.own 2,.int .i64 m] [(0,.own zXR (zbL L)),(1,.ow zXR I),(2,.ow zXR O)]
   (jCQ t L I O k m)
   (.tup [.own 0,.int .i64 ((wkS (zXL t) L I O k.toNat m).m : Int)]) [(0,.own zXR (zbL (wkS (zXL t) L I O k.toNat m).L)),(1,.ow zXR (wkS (zXL t) L I O k.toNat m).I),(2,.ow zXR (wkS (zXL t) L I O k.toNat m).O)] :=
 have h := jC5 (unseen (sI (I.set k.toNat (m : Int))) + 1) t L I O k m
 ⟨h.call,fun hp => h.ok ⟨hp,Nat.lt_succ_self _⟩⟩
end Go.Vc

namespace Go.Vc
open Go.Proofs
set_option maxRecDepth 10000
set_option maxHeartbeats 4000000
instance hWalk0 (t : List zXN) (I O : List Int) :
  FnM BB 50 [.agg [.rd zXK t],.int .i64 0,.nils,.own 0,.own 1,.int .i64 0] [(0,.ow zXR I),(1,.ow zXR O)]
   (jCQ t [] I O 0 0)
   (.tup [.own 2,.int .i64 ((wkS (zXL t) [] I O 0 0).m : Int)]) [(0,.ow zXR (wkS (zXL t) [] I O 0 0).I),(1,.ow zXR (wkS (zXL t) [] I O 0 0).O),(2,.own zXR (zbL (wkS (zXL t) [] I O 0 0).L))] := by
 refine FnM.intro (N := 79) [0,1,2,3,4,5,6,12,13,14,15,34,61] [] 2 Try.call50 Try.func50 rfl rfl (by kernel_rfl) (fun hpre => ?_)
 repeat' ((conv => whnf);first|(with_reducible first|rfl|exact zXT|exact zXS)|exact True.intro|intro _|refine WA ?_ ?_|refine WF ?_|refine W1 rfl ?_ ?_|refine W2 rfl ?_ ?_|refine W3 rfl ?_ ?_|refine W4 ?_ ?_|refine W5 rfl ?_ ?_|refine W6 ?_ ?_|refine WN ?_|refine X1 (W1 rfl ?_ ?_)|refine X1 (W2 rfl ?_ ?_)|refine X2 (W7 rfl ?_ ?_)|refine X3 (W7 rfl ?_ ?_)|refine X4 (W7 rfl ?_ ?_)|refine X5 (W7 rfl ?_ ?_))
 all_goals (try (conv => whnf))
 all_goals (try first|exact obA|refine Ob.mk ?_)
 all_goals (obtain ⟨ht,hIl,hOl,hk,hm,hL⟩ := hpre)
 ·show 0 ≤ (0 : Int) ∧ (0 : Int) < (I.length : Int);omega
 ·show 0 < I.length;omega
 have hk0 : (0 : Int).toNat = 0 := rfl
 generalize hx0 : (({ L := [],P := [],I := I,O := O,m := 0 } : St).step (0,0,0,false)) = x0
 have hxI : x0.I = I.set 0 0 := by rw [← hx0];rfl
 have hxL : x0.L = [0] := by rw [← hx0];rfl
 have hxO : x0.O = O := by rw [← hx0];rfl
 have hxm : x0.m = 1 := by rw [← hx0];rfl
 have hwk : wkS (zXL t) [] I O 0 0 = dR (zXL t) x0 0 0 := by unfold wkS;rw [hx0]
 rw [hwk]
 have hm : 2 * unseen (sI (I.set 0 0)) + 2 ≤ 200 := by have h : 0 + 2 * unseen (sI (I.set (0 : Int).toNat ((0 : Nat) : Int))) + 2 ≤ 200 := hm;have e : I.set (0 : Int).toNat ((0 : Nat) : Int) = I.set 0 0 := rfl;rw [e] at h;omega
 refine LoopStop.mk (α := St × Nat) (fun a => [(5,.int .i64 a.1.m),(14,.int .i64 a.2)]) (fun a => [(4,.own zXR (zbL a.1.L)),(0,.ow zXR a.1.I),(1,.ow zXR a.1.O)]) 60
  (fun a => dR (zXL t) a.1 0 a.2 = dR (zXL t) x0 0 0 ∧ a.1.I.length = t.length ∧ a.1.O.length = t.length ∧ a.1.m + 2 * unseen (sI a.1.I) + 1 ≤ 200 ∧ a.1.L.length ≤ a.1.m ∧ a.2 ≤ (zXL t 0).length)
  (fun a => (zXL t 0).length - a.2) (x0,0) ⟨rfl,by rw [hxI,List.length_set];exact hIl,by rw [hxO];exact hOl,by rw [hxI,hxm];omega,by rw [hxL,hxm];decide,Nat.zero_le _⟩ ?_ (fun a ha => ?_)
 ·repeat' ((conv => whnf);first|(with_reducible first|rfl|exact zXT|exact zXS)|exact True.intro|intro _|refine WA ?_ ?_|refine WF ?_|refine W1 rfl ?_ ?_|refine W2 rfl ?_ ?_|refine W3 rfl ?_ ?_|refine W4 ?_ ?_|refine W5 rfl ?_ ?_|refine W6 ?_ ?_|refine WN ?_|refine X1 (W1 rfl ?_ ?_)|refine X1 (W2 rfl ?_ ?_)|refine X2 (W7 rfl ?_ ?_)|refine X3 (W7 rfl ?_ ?_)|refine X4 (W7 rfl ?_ ?_)|refine X5 (W7 rfl ?_ ?_))
  all_goals (try (conv => whnf))
  all_goals (try first|exact obA|refine Ob.mk ?_)
  ·show _ = (x0.m : Int);rw [hxm];rfl
  ·show Chunk.own zXR _ = Chunk.own zXR (zbL x0.L)
   rw [hxL];rfl
  ·show Chunk.ow zXR _ = Chunk.ow zXR x0.I
   rw [hxI];rfl
  ·show Chunk.ow zXR _ = Chunk.ow zXR x0.O
   rw [hxO]
 ·obtain ⟨x,j⟩ := a
  dsimp only at ha ⊢
  obtain ⟨hD,hI2,hO2,hm2,hL2,hj2⟩ := ha
  repeat' ((conv => whnf);first|(with_reducible first|rfl|exact zXT|exact zXS)|exact True.intro|intro _|refine WA ?_ ?_|refine WF ?_|refine W1 rfl ?_ ?_|refine W2 rfl ?_ ?_|refine W3 rfl ?_ ?_|refine W4 ?_ ?_|refine W5 rfl ?_ ?_|refine W6 ?_ ?_|refine WN ?_|refine X1 (W1 rfl ?_ ?_)|refine X1 (W2 rfl ?_ ?_)|refine X2 (W7 rfl ?_ ?_)|refine X3 (W7 rfl ?_ ?_)|refine X4 (W7 rfl ?_ ?_)|refine X5 (W7 rfl ?_ ?_))
  all_goals (try (conv => whnf))
  all_goals (try first|exact obA|refine Ob.mk ?_)
  all_goals (try simp only [Int.toNat_natCast] at *)
  ·rename_i h1 h2 h3
   have hc : okK (sI x.I) ((zXL t 0).getD j 0) = true := by rw [← zsE hI2];exact h3
   have hks := zYG hc
   have hls : (sI x.I).length = t.length := by unfold sI;rw [List.length_map];exact hI2
   have hu := zYE hks.2.2
   rw [← zeM x.I ((zXL t 0).getD j 0).toNat x.m] at hu
   show jCQ t x.L x.I x.O ((zXL t 0).getD j 0) x.m
   exact ⟨ht,hI2,hO2,⟨hks.1,by omega⟩,by omega,hL2⟩
  ·rename_i h1 h2 h3
   have hj : j < (zXL t 0).length := by have h := of_decide_eq_true h2;exact Int.ofNat_lt.mp h
   have hc : okK (sI x.I) ((zXL t 0).getD j 0) = true := by rw [← zsE hI2];exact h3
   rw [jAE hj hc] at hD
   have hks := zYG hc
   have hu := zYE hks.2.2
   rw [← zeM x.I ((zXL t 0).getD j 0).toNat x.m] at hu
   have hb := zzU (K := zXL t) (x.step (((zXL t 0).getD j 0).toNat,(0 : Int),x.m,false)) ((zXL t 0).getD j 0).toNat 0
   have e1 : (x.step (((zXL t 0).getD j 0).toNat,(0 : Int),x.m,false)).m = x.m + 1 := rfl
   have e2 : (x.step (((zXL t 0).getD j 0).toNat,(0 : Int),x.m,false)).I = x.I.set ((zXL t 0).getD j 0).toNat (x.m : Int) := rfl
   have e3 : (x.step (((zXL t 0).getD j 0).toNat,(0 : Int),x.m,false)).O = x.O := rfl
   have e4 : (x.step (((zXL t 0).getD j 0).toNat,(0 : Int),x.m,false)).L.length = x.L.length + 1 := by show (x.L ++ [_]).length = _;simp
   have hE : StE (wkS (zXL t) x.L x.I x.O ((zXL t 0).getD j 0).toNat x.m) (dR (zXL t) (x.step (((zXL t 0).getD j 0).toNat,(0 : Int),x.m,false)) ((zXL t 0).getD j 0).toNat 0) := by
    unfold wkS
    exact StE.dR (StE.step (x := { L := x.L,P := [],I := x.I,O := x.O,m := x.m }) (y := x) ⟨rfl,rfl,rfl,rfl⟩ rfl rfl) _ _
   rw [e1,e2,e3,e4,List.length_set] at hb
   generalize dR (zXL t) (x.step (((zXL t 0).getD j 0).toNat,(0 : Int),x.m,false)) ((zXL t 0).getD j 0).toNat 0 = y at *
   refine Rnd.mk ⟨(y,j + 1),⟨hD,by show y.I.length = _;omega,by show y.O.length = _;omega,by show y.m + 2 * unseen (sI y.I) + 1 ≤ 200;omega,by show y.L.length ≤ y.m;omega,by show j + 1 ≤ _;omega⟩,by show _ - (j + 1) < _;omega,?_⟩
   repeat' ((conv => whnf);first|(with_reducible first|rfl|exact zXT|exact zXS)|exact True.intro|intro _|refine WA ?_ ?_|refine WF ?_|refine W1 rfl ?_ ?_|refine W2 rfl ?_ ?_|refine W3 rfl ?_ ?_|refine W4 ?_ ?_|refine W5 rfl ?_ ?_|refine W6 ?_ ?_|refine WN ?_|refine X1 (W1 rfl ?_ ?_)|refine X1 (W2 rfl ?_ ?_)|refine X2 (W7 rfl ?_ ?_)|refine X3 (W7 rfl ?_ ?_)|refine X4 (W7 rfl ?_ ?_)|refine X5 (W7 rfl ?_ ?_))
   all_goals (try (conv => whnf))
   all_goals (try first|exact obA|refine Ob.mk ?_)
   ·show ((wkS (zXL t) x.L x.I x.O ((zXL t 0).getD j 0).toNat x.m).m : Int) = (y.m : Int)
    rw [hE.2.2.2]
   all_goals (try rfl)
   ·show Chunk.own zXR (zbL (wkS (zXL t) x.L x.I x.O ((zXL t 0).getD j 0).toNat x.m).L) = Chunk.own zXR (zbL y.L)
    rw [hE.1]
   ·show Chunk.ow zXR (wkS (zXL t) x.L x.I x.O ((zXL t 0).getD j 0).toNat x.m).I = Chunk.ow zXR y.I
    rw [hE.2.1]
   ·show Chunk.ow zXR (wkS (zXL t) x.L x.I x.O ((zXL t 0).getD j 0).toNat x.m).O = Chunk.ow zXR y.O
    rw [hE.2.2.1]
  ·rename_i h1 h2 h3
   have hj : j < (zXL t 0).length := by have h := of_decide_eq_true h2;exact Int.ofNat_lt.mp h
   have hc : okK (sI x.I) ((zXL t 0).getD j 0) = false := by rw [← zsE hI2];exact h3
   rw [ztS hj hc] at hD
   refine Rnd.mk ⟨(x,j + 1),⟨hD,hI2,hO2,hm2,hL2,by show j + 1 ≤ _;omega⟩,by show _ - (j + 1) < _;omega,?_⟩
   all_goals exact vcA
  all_goals (rename_i h1 h2)
  all_goals (have hj : ¬ j < (zXL t 0).length := by have h := of_decide_eq_false h2;exact fun q => h (Int.ofNat_lt.mpr q))
  all_goals (rw [zu4 hj] at hD;rw [← hD])
  ·rfl
  ·rfl
  ·rfl
  ·rfl
theorem zsW (s : List Bool) : unseen s ≤ s.length := by unfold unseen;exact List.count_le_length
instance hAll (l : List zXN) : Fn BB 33 [.agg [.rd zXK l]] (l.length ≤ 45) (.tup [.rd zXR (zbL (fin l).L),.rd zXR (fin l).I,.rd zXR (fin l).O]) := by
 refine Fn.intro (N := 42) [0,1,2,3,4,5,6,7,8,20,31] [(1,[0,0,0,6,0,0,0,6,6,6]),(2000007,[1,2])] Try.call33 Try.func33 rfl rfl (by kernel_rfl) (fun hpre => ?_)
 repeat' ((conv => whnf);first|(with_reducible first|rfl|exact zXT|exact zXS)|exact True.intro|intro _|refine WA ?_ ?_|refine WF ?_|refine W1 rfl ?_ ?_|refine W2 rfl ?_ ?_|refine W3 rfl ?_ ?_|refine W4 ?_ ?_|refine W5 rfl ?_ ?_|refine W6 ?_ ?_|refine WN ?_|refine X1 (W1 rfl ?_ ?_)|refine X1 (W2 rfl ?_ ?_)|refine X2 (W7 rfl ?_ ?_)|refine X3 (W7 rfl ?_ ?_)|refine X4 (W7 rfl ?_ ?_)|refine X5 (W7 rfl ?_ ?_))
 all_goals (try (conv => whnf))
 all_goals (try first|exact obA|refine Ob.mk ?_)
 all_goals (try simp only [bytes3,zvA] at *)
 all_goals (try omega)
 all_goals (rw [show ((l.length : Int)).toNat = l.length by omega])
 refine LoopStop.mk (α := Nat) (fun i => [(7,.int .i64 i)]) (fun i => [(1,.own zXR (List.replicate i (-1 : Int) ++ List.replicate (l.length - i) (0 : Int))),(2,.own zXR (List.replicate i (-1 : Int) ++ List.replicate (l.length - i) (0 : Int)))]) 40 (fun i => i ≤ l.length) (fun i => l.length - i) 0 (Nat.zero_le _) ?_ (fun i hi => ?_)
 ·all_goals exact vcA
 ·have hrl : (List.replicate i (-1 : Int) ++ List.replicate (l.length - i) (0 : Int)).length = l.length := by simp;omega
  repeat' ((conv => whnf);first|(with_reducible first|rfl|exact zXT|exact zXS)|exact True.intro|intro _|refine WA ?_ ?_|refine WF ?_|refine W1 rfl ?_ ?_|refine W2 rfl ?_ ?_|refine W3 rfl ?_ ?_|refine W4 ?_ ?_|refine W5 rfl ?_ ?_|refine W6 ?_ ?_|refine WN ?_|refine X1 (W1 rfl ?_ ?_)|refine X1 (W2 rfl ?_ ?_)|refine X2 (W7 rfl ?_ ?_)|refine X3 (W7 rfl ?_ ?_)|refine X4 (W7 rfl ?_ ?_)|refine X5 (W7 rfl ?_ ?_))
  all_goals (try (conv => whnf))
  all_goals (try first|exact obA|refine Ob.mk ?_)
  all_goals (try simp only [Int.toNat_natCast] at *)
  all_goals (try rw [hrl] at *)
  all_goals (try (have hlt : i < l.length := by have h := of_decide_eq_true ‹decide ((i : Int) < (l.length : Int)) = true›;omega))
  all_goals (try (have hin : i = l.length := by have h := of_decide_eq_false ‹decide ((i : Int) < (l.length : Int)) = false›;omega))
  ·refine Rnd.mk ⟨i + 1,by omega,by omega,?_⟩
   repeat' ((conv => whnf);first|(with_reducible first|rfl|exact zXT|exact zXS)|exact True.intro|intro _|refine WA ?_ ?_|refine WF ?_|refine W1 rfl ?_ ?_|refine W2 rfl ?_ ?_|refine W3 rfl ?_ ?_|refine W4 ?_ ?_|refine W5 rfl ?_ ?_|refine W6 ?_ ?_|refine WN ?_|refine X1 (W1 rfl ?_ ?_)|refine X1 (W2 rfl ?_ ?_)|refine X2 (W7 rfl ?_ ?_)|refine X3 (W7 rfl ?_ ?_)|refine X4 (W7 rfl ?_ ?_)|refine X5 (W7 rfl ?_ ?_))
   all_goals (try (conv => whnf))
   all_goals (try first|exact obA|refine Ob.mk ?_)
   all_goals (try rfl)
   all_goals (rw [zx1 i l.length hlt])
  all_goals (subst hin;clear hrl)
  all_goals (try simp only [Nat.sub_self,List.replicate_zero,List.append_nil] at *)
  all_goals (try (have hpos : 0 < l.length := by have h := of_decide_eq_true ‹decide ((l.length : Int) > 0) = true›;omega))
  all_goals (try (have hE := jDG (zXL l) l.length hpos))
  ·have hu := zsW (sI ((List.replicate l.length (-1 : Int)).set (0 : Int).toNat ((0 : Nat) : Int)))
   have hul : (sI ((List.replicate l.length (-1 : Int)).set (0 : Int).toNat ((0 : Nat) : Int))).length = l.length := by unfold sI;simp
   exact ⟨hpre,by simp,by simp,⟨by omega,by omega⟩,by omega,Nat.le_refl _⟩
  ·rw [← hE.1];rfl
  ·rw [← hE.2.1];rfl
  ·rw [← hE.2.2.1];rfl
  all_goals (have hz : l.length = 0 := by have h := of_decide_eq_false ‹decide ((l.length : Int) > 0) = false›;omega)
  all_goals (have e : fin l = st0 l.length := by unfold fin zs6 zlI;rw [if_pos hz];rfl)
  all_goals (rw [e])
  all_goals rfl
instance hMarks (l : List zXN) : Fn BB 20 [.agg [.rd zXK l]] (l.length ≤ 45) (.tup [.rd zXR (fin l).I,.rd zXR (fin l).O]) := by
 refine Fn.intro (N := 15) [0,1,2,3,5,6] [] Try.call20 Try.func20 rfl rfl (by kernel_rfl) (fun hpre => ?_)
 repeat' ((conv => whnf);first|(with_reducible first|rfl|exact zXT|exact zXS)|exact True.intro|intro _|refine WA ?_ ?_|refine WF ?_|refine W1 rfl ?_ ?_|refine W2 rfl ?_ ?_|refine W3 rfl ?_ ?_|refine W4 ?_ ?_|refine W5 rfl ?_ ?_|refine W6 ?_ ?_|refine WN ?_|refine X1 (W1 rfl ?_ ?_)|refine X1 (W2 rfl ?_ ?_)|refine X2 (W7 rfl ?_ ?_)|refine X3 (W7 rfl ?_ ?_)|refine X4 (W7 rfl ?_ ?_)|refine X5 (W7 rfl ?_ ?_))
 all_goals (try (conv => whnf))
 all_goals (try first|exact obA|refine Ob.mk ?_)
 all_goals (first | exact hpre | rfl)
instance hInside (I O : List Int) (a b : Int) : Fn BB 21 [.rd zXR I,.rd zXR O,.int .i64 a,.int .i64 b] ((0 ≤ a ∧ a < I.length) ∧ (0 ≤ b ∧ b < I.length) ∧ I.length = O.length)
  (.bool (decide (0 ≤ I.getD a.toNat 0) && decide (0 ≤ I.getD b.toNat 0) && (decide (I.getD b.toNat 0 < I.getD a.toNat 0) && decide (O.getD a.toNat 0 < O.getD b.toNat 0)))) := by
 refine Fn.intro (N := 43) [0,1,2,3,8] [(1,[0,0,1,1,1,1,1,1,1,1,1,1,1,1,1,1,1,1,1,1,1,1,1,1,1,1,1,1,1,1,1,1,3,3,3])] Try.call21 Try.func21 rfl rfl (by kernel_rfl) (fun hpre => ?_)
 obtain ⟨h1,h2,h3⟩ := hpre
 repeat' ((conv => whnf);first|(with_reducible first|rfl|exact zXT|exact zXS)|exact True.intro|intro _|refine WA ?_ ?_|refine WF ?_|refine W1 rfl ?_ ?_|refine W2 rfl ?_ ?_|refine W3 rfl ?_ ?_|refine W4 ?_ ?_|refine W5 rfl ?_ ?_|refine W6 ?_ ?_|refine WN ?_|refine X1 (W1 rfl ?_ ?_)|refine X1 (W2 rfl ?_ ?_)|refine X2 (W7 rfl ?_ ?_)|refine X3 (W7 rfl ?_ ?_)|refine X4 (W7 rfl ?_ ?_)|refine X5 (W7 rfl ?_ ?_))
 all_goals (try (conv => whnf))
 all_goals (try first|exact obA|refine Ob.mk ?_)
 all_goals (try omega)
 exact Bool.and_assoc _ _ _
end Go.Vc

namespace Go.Vc
open Go.Proofs
set_option maxRecDepth 10000
set_option maxHeartbeats 4000000
def zjZ (l : List zXN) : List zXN := l.set 0 (0,0,[],[],[], -1,(l.getD 0 zXK.dflt).kids)
def zjV (x : List zXN) (k : Nat) : List zXN := zjZ (zg1 x (zXL x) [] (List.replicate x.length false) k (-1))
def zgS (l : List Int) (i : Int) : Option Nat := (List.range l.length).find? fun k => l.getD k 0 == i
def zgU (t : List zXN) (i : Int) : List zXN := match zgS (zbL (fin t).L) i with | some k => zjV (zZC t) k | none => [zcM]
def zn4 (t : List zXN) : Prop := zYL t = true ∧ t.length ≤ 45 ∧ zYL (zZC t) = true ∧ (fin t).L.length ≤ (zZC t).length ∧ (zZC t).length ≤ 1000
end Go.Vc
