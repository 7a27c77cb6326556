/- A part of the proof: lemmas and walks that the last text of the claim joins; no condition. -/
import Derived.Test.YtjnmepijcndcpaaGreatDoorRenameTwiceTG
import Derived.Shelf.Spec.SlicesGrow
import Derived.Laws.AppendOwn
import Derived.Shelf.Strings.SlTrimAscii
import Derived.Lib.LaidU8T
import Derived.PinnedBridge
import Derived.Test.YtjnmepijcndcpaaGreatDoorRows
set_option linter.unusedVariables false
set_option linter.unusedSimpArgs false
set_option maxHeartbeats 8000000
namespace Go.Vc
open Go.Proofs
open Go.Vc.W
set_option maxRecDepth 10000
def qeZ (p : List UInt8) : Prop := ∀ c ∈ p,isSp c.toNat = false
theorem qW6 {p w : List UInt8} (hp : qeZ p) (h : clean w) : clean (p ++ w) := by
 refine ⟨fun e => h.1 (List.append_eq_nil_iff.1 e).2,fun c hc => ?_⟩
 rcases List.mem_append.1 hc with q | q
 ·exact hp c q
 ·exact h.2 c q
theorem qZS (x : List UInt8) : frL (35 :: x) = (x,true) := by
 unfold frL
 rw [qXV];rfl
theorem qYQ {p : List UInt8} (hp : qeZ p) (k s : Int) (nn nm v : List UInt8) (hn : ¬ (nm = qfF ∨ nm = qeT)) :
  qAQ (qCS k s nn nm) (qJT p k s nn nm v) = (qAQ (qCS k s nn nm) v).map (p ++ ·) := by
 unfold qJT
 rw [if_neg hn]
 generalize qCS k s nn nm = kind
 by_cases hw : qAQ kind v = []
 ·rw [if_pos hw,hw];rfl
 rw [if_neg hw]
 by_cases h3 : kind = 3
 ·subst h3
  rw [if_pos rfl]
  have e : qAQ 3 v = [(frL v).1] := by
   unfold qAQ at hw ⊢
   rw [if_neg (by decide),if_neg (by decide),if_pos rfl] at hw ⊢
   by_cases q : (frL v).1 = []
   ·rw [if_pos q] at hw;exact absurd rfl hw
   ·rw [if_neg q]
  have hne : (frL v).1 ≠ [] := fun q => by
   unfold qAQ at hw
   rw [if_neg (by decide),if_neg (by decide),if_pos rfl,if_pos q] at hw
   exact hw rfl
  rw [e]
  show qAQ 3 (35 :: (p ++ (frL v).1)) = [p ++ (frL v).1]
  unfold qAQ
  rw [if_neg (by decide),if_neg (by decide),if_pos rfl,qZS,if_neg]
  exact fun q => hne (List.append_eq_nil_iff.1 q).2
 rw [if_neg h3]
 by_cases h2 : kind = 2
 ·subst h2
  show (if (2 : Int) = 2 then spl _ else _) = _
  rw [if_pos rfl]
  have e : qAQ 2 v = spl v := by unfold qAQ;rw [if_pos rfl]
  rw [e]
  exact qaI _ fun w hw => by
   obtain ⟨x,hx,rfl⟩ := List.mem_map.1 hw
   exact qW6 hp ((qN9 v).1 x hx)
 by_cases h1 : kind = 1
 ·subst h1
  have hne : v ≠ [] := fun q => by
   unfold qAQ at hw
   rw [if_neg (by decide),if_pos rfl,if_pos q] at hw
   exact hw rfl
  have e : qAQ 1 v = [v] := by unfold qAQ;rw [if_neg (by decide),if_pos rfl,if_neg hne]
  rw [e]
  show qAQ 1 (p ++ v) = [p ++ v]
  unfold qAQ
  rw [if_neg (by decide),if_pos rfl,if_neg]
  exact fun q => hne (List.append_eq_nil_iff.1 q).2
 ·exact absurd (by unfold qAQ;rw [if_neg h2,if_neg h1,if_neg h3]) hw
theorem qX6 {a b : List UInt8} (ha : qeZ a) (k s : Int) (nn nm v : List UInt8) : qJT b k s nn nm (qJT a k s nn nm v) = qJT (b ++ a) k s nn nm v := by
 by_cases hn : nm = qfF ∨ nm = qeT
 ·unfold qJT
  rw [if_pos hn,if_pos hn,if_pos hn]
  by_cases hv : v = []
  ·rw [if_pos hv,if_pos rfl,if_pos hv]
  ·rw [if_neg hv,if_neg,if_neg hv,List.append_assoc]
   exact fun q => hv (List.append_eq_nil_iff.1 q).2
 have hw := qYQ ha k s nn nm v hn
 rw [show qJT b k s nn nm (qJT a k s nn nm v) = if qAQ (qCS k s nn nm) (qJT a k s nn nm v) = [] then qJT a k s nn nm v
  else if qCS k s nn nm = 3 then 35 :: (((qAQ (qCS k s nn nm) (qJT a k s nn nm v)).map (b ++ ·)).getD 0 [])
  else joinL ((qAQ (qCS k s nn nm) (qJT a k s nn nm v)).map (b ++ ·)) from by rw [qJT,if_neg hn]]
 rw [hw,List.map_map]
 have e : ((b ++ ·) ∘ (a ++ ·) : List UInt8 → List UInt8) = fun x => (b ++ a) ++ x := by funext x;simp
 rw [e]
 unfold qJT
 rw [if_neg hn,if_neg hn]
 by_cases q : qAQ (qCS k s nn nm) v = []
 ·rw [if_pos (by rw [q];rfl),if_pos q,if_pos q]
 ·rw [if_neg (by simpa using q),if_neg q]
theorem qVI {a b : List UInt8} (ha : qeZ a) (n m : qAH) (h : m.1 = n.1 ∧ m.2.1 = n.2.1 ∧ m.2.2.1 = n.2.2.1) (x : qAL) : qTY b m (qTY a n x) = qTY (b ++ a) n x := by
 unfold qTY
 rw [h.1,h.2.1,h.2.2]
 show (x.1,_) = (x.1,_)
 rw [qX6 ha]
theorem qUP {a b : List UInt8} (ha : qeZ a) (n : qAH) : qQW b (qQW a n) = qQW (b ++ a) n := by
 by_cases h : n.1 = 1
 ·rw [qGW h,qGW (p := b ++ a) h,qGW (p := b) (by exact h)]
  have : ∀ m : qAH,(m.1 = n.1 ∧ m.2.1 = n.2.1 ∧ m.2.2.1 = n.2.2.1) → (n.2.2.2.1.map (qTY a n)).map (qTY b m) = n.2.2.2.1.map (qTY (b ++ a) n) := fun m hm => by
   rw [List.map_map]
   exact List.map_congr_left fun x _ => qVI ha n m hm x
  exact congrArg (fun z : List qAL => ((n.1,n.2.1,n.2.2.1,z,n.2.2.2.2.1,n.2.2.2.2.2.1,n.2.2.2.2.2.2) : qAH)) (this (n.1,n.2.1,n.2.2.1,n.2.2.2.1.map (qTY a n),n.2.2.2.2.1,n.2.2.2.2.2.1,n.2.2.2.2.2.2) ⟨rfl,rfl,rfl⟩)
 ·rw [qK2 h,qK2 h,qK2 h]
theorem qW5 {a b : List UInt8} (ha : qeZ a) (t : List qAH) : qbR b (qbR a t) = qbR (b ++ a) t := by
 unfold qbR
 rw [List.map_map]
 exact List.map_congr_left fun n _ => qUP ha n
end Go.Vc

namespace Go.Vc
open Go.Proofs
set_option maxRecDepth 10000
instance f40 (k s : Int) (nm : List UInt8) (at_ : List qAL) (d : List UInt8) (up : Int) (kids : List Int) (k' s' : Int) (nm' : List UInt8) (at_' : List qAL) (d' : List UInt8) (up' : Int) (kids' : List Int) :
  Fn BB 26 [.agg [.int .i64 k,.int .i64 s,.str nm,.rd qAW at_,.str d,.int .i64 up,.rd qAI kids],.agg [.int .i64 k',.int .i64 s',.str nm',.rd qAW at_',.str d',.int .i64 up',.rd qAI kids']]
   True (.bool (eqB (α := qAH) (k,s,nm,at_,d,up,kids) (k',s',nm',at_',d',up',kids'))) := by
 refine Fn.intro (N := 71) [0,1,2,3,4,5,47,52,65] [(6,[0,1,0,1,1,0,1,0,1,1,3])] Tryz.call26 Tryz.func26 rfl rfl (by kernel_rfl) (fun hpre => ?_)
 repeat' ((conv => whnf);first|(with_reducible first|rfl|exact qAF|exact qAG)|exact True.intro|intro _|refine WA ?_ ?_|refine WF ?_|refine W1 rfl ?_ ?_|refine W2 rfl ?_ ?_|refine W3 rfl ?_ ?_|refine W4 ?_ ?_|refine W5 rfl ?_ ?_|refine W6 ?_ ?_|refine WN ?_|refine X1 (W1 rfl ?_ ?_)|refine X1 (W2 rfl ?_ ?_)|refine X2 (W7 rfl ?_ ?_)|refine X3 (W7 rfl ?_ ?_)|refine X4 (W7 rfl ?_ ?_)|refine X5 (W7 rfl ?_ ?_))
 all_goals (try (conv => whnf))
 all_goals (try first|exact obA|refine Ob.mk ?_)
 ·rename_i h
  refine qE9 fun e => ?_
  simp only [Prod.mk.injEq] at e
  obtain ⟨rfl,rfl,rfl,rfl,rfl,rfl,rfl⟩ := e
  simp at h
 ·rename_i h
  simp only [Bool.or_eq_false_iff,bne_eq_false_iff_eq,Bool.not_eq_false',beq_iff_eq] at h
  obtain ⟨⟨⟨⟨⟨rfl,rfl⟩,rfl⟩,rfl⟩,rfl⟩,hl⟩ := h
  refine LoopStop.mk (α := Nat) (fun i => [(5,.int .i64 i)]) (fun _ => []) 20 (fun i => i ≤ kids.length ∧ kids.take i = kids'.take i) (fun i => kids.length - i) 0 (by simp) ?_ (fun i hi => ?_)
  ·repeat' ((conv => whnf);first|(with_reducible first|rfl|exact qAF|exact qAG)|exact True.intro|intro _|refine WA ?_ ?_|refine WF ?_|refine W1 rfl ?_ ?_|refine W2 rfl ?_ ?_|refine W3 rfl ?_ ?_|refine W4 ?_ ?_|refine W5 rfl ?_ ?_|refine W6 ?_ ?_|refine WN ?_|refine X1 (W1 rfl ?_ ?_)|refine X1 (W2 rfl ?_ ?_)|refine X2 (W7 rfl ?_ ?_)|refine X3 (W7 rfl ?_ ?_)|refine X4 (W7 rfl ?_ ?_)|refine X5 (W7 rfl ?_ ?_))
   all_goals (try (conv => whnf))
   all_goals (try rfl)
  ·obtain ⟨hi,ha⟩ := hi
   repeat' ((conv => whnf);first|(with_reducible first|rfl|exact qAF|exact qAG)|exact True.intro|intro _|refine WA ?_ ?_|refine WF ?_|refine W1 rfl ?_ ?_|refine W2 rfl ?_ ?_|refine W3 rfl ?_ ?_|refine W4 ?_ ?_|refine W5 rfl ?_ ?_|refine W6 ?_ ?_|refine WN ?_|refine X1 (W1 rfl ?_ ?_)|refine X1 (W2 rfl ?_ ?_)|refine X2 (W7 rfl ?_ ?_)|refine X3 (W7 rfl ?_ ?_)|refine X4 (W7 rfl ?_ ?_)|refine X5 (W7 rfl ?_ ?_))
   all_goals (try (conv => whnf))
   all_goals (try first|exact obA|refine Ob.mk ?_)
   all_goals (simp only [decide_eq_true_eq,decide_eq_false_iff_not,bne_eq_false_iff_eq,bne_iff_ne,ne_eq,Bool.not_eq_true',Bool.not_eq_false',Bool.and_true] at *)
   ·rename_i h
    refine qE9 fun e => h ?_
    simp only [Prod.mk.injEq] at e
    rw [e.2.2.2.2.2.2]
   ·rename_i h
    have hil : i < kids.length := by omega
    refine Rnd.mk ⟨i + 1,?_,?_,?_⟩
    ·exact ⟨by omega,qFP (d := qAI.dflt) hil (by omega) ha h⟩
    ·omega
    ·all_goals exact vcA
   ·have hk : i = kids.length := by omega
    subst hk
    rw [List.take_length,List.take_of_length_le (by omega)] at ha
    subst ha
    by_cases he : at_ = at_'
    ·subst he;rw [decide_eq_true rfl];exact qS1 rfl
    ·rw [decide_eq_false he];refine qE9 fun e => he ?_
     simp only [Prod.mk.injEq] at e
     exact e.2.2.2.1
instance f16 (a b : List qAH) : Fn BB 12 [.agg [.rd qAB a],.agg [.rd qAB b]] True (.bool (eqB a b)) := by
 refine Fn.intro (N := 32) [0,1,2,3,4,5,12,17,31] [(6,[0,1,0,1,1,0,1,0,1,1,3,3])] Tryz.call12 Tryz.func12 rfl rfl (by kernel_rfl) (fun hpre => ?_)
 repeat' ((conv => whnf);first|(with_reducible first|rfl|exact qAF|exact qAG)|exact True.intro|intro _|refine WA ?_ ?_|refine WF ?_|refine W1 rfl ?_ ?_|refine W2 rfl ?_ ?_|refine W3 rfl ?_ ?_|refine W4 ?_ ?_|refine W5 rfl ?_ ?_|refine W6 ?_ ?_|refine WN ?_|refine X1 (W1 rfl ?_ ?_)|refine X1 (W2 rfl ?_ ?_)|refine X2 (W7 rfl ?_ ?_)|refine X3 (W7 rfl ?_ ?_)|refine X4 (W7 rfl ?_ ?_)|refine X5 (W7 rfl ?_ ?_))
 all_goals (try (conv => whnf))
 ·refine qE9 fun e => ?_
  subst e;simp_all
 ·refine LoopStop.mk (α := Nat) (fun i => [(5,.int .i64 i)]) (fun _ => []) 20 (fun i => i ≤ a.length ∧ a.take i = b.take i) (fun i => a.length - i) 0 (by simp) ?_ (fun i hi => ?_)
  ·repeat' ((conv => whnf);first|(with_reducible first|rfl|exact qAF|exact qAG)|exact True.intro|intro _|refine WA ?_ ?_|refine WF ?_|refine W1 rfl ?_ ?_|refine W2 rfl ?_ ?_|refine W3 rfl ?_ ?_|refine W4 ?_ ?_|refine W5 rfl ?_ ?_|refine W6 ?_ ?_|refine WN ?_|refine X1 (W1 rfl ?_ ?_)|refine X1 (W2 rfl ?_ ?_)|refine X2 (W7 rfl ?_ ?_)|refine X3 (W7 rfl ?_ ?_)|refine X4 (W7 rfl ?_ ?_)|refine X5 (W7 rfl ?_ ?_))
   all_goals (try (conv => whnf))
   all_goals (try rfl)
  ·obtain ⟨hi,ha⟩ := hi
   repeat' ((conv => whnf);first|(with_reducible first|rfl|exact qAF|exact qAG)|exact True.intro|intro _|refine WA ?_ ?_|refine WF ?_|refine W1 rfl ?_ ?_|refine W2 rfl ?_ ?_|refine W3 rfl ?_ ?_|refine W4 ?_ ?_|refine W5 rfl ?_ ?_|refine W6 ?_ ?_|refine WN ?_|refine X1 (W1 rfl ?_ ?_)|refine X1 (W2 rfl ?_ ?_)|refine X2 (W7 rfl ?_ ?_)|refine X3 (W7 rfl ?_ ?_)|refine X4 (W7 rfl ?_ ?_)|refine X5 (W7 rfl ?_ ?_))
   all_goals (try (conv => whnf))
   all_goals (try first|exact obA|refine Ob.mk ?_)
   all_goals (simp only [decide_eq_true_eq,decide_eq_false_iff_not,bne_eq_false_iff_eq,bne_iff_ne,ne_eq,Bool.not_eq_true',Bool.not_eq_false',Bool.and_true] at *)
   ·rename_i h
    have h := qh0.1 h
    refine qE9 fun e => h ?_
    rw [e]
   ·rename_i h
    have h := qWL.1 h
    have hil : i < a.length := by omega
    refine Rnd.mk ⟨i + 1,?_,?_,?_⟩
    ·exact ⟨by omega,qFP (d := qAB.dflt) hil (by omega) ha h⟩
    ·omega
    ·all_goals exact vcA
   ·have hk : i = a.length := by omega
    subst hk
    rw [List.take_length,List.take_of_length_le (by omega)] at ha
    exact qS1 ha
end Go.Vc

namespace Go.Vc
open Go.Proofs
open Go.Vc.W
set_option maxRecDepth 10000
set_option maxHeartbeats 4000000
theorem Fn.wk {B : Base} {f : FuncId} {args args' : List SV} {pre : Prop} {res : SV} (F : Fn B f args pre res) (h : ∀ r β vs,qAT r β args' vs → qAT r β args vs) : Fn B f args' pre res :=
 ⟨F.call,fun hp r β w vs hG m hl => F.ok hp r β w vs hG m (h r β vs hl)⟩
theorem qbV {r : Mem} {β : qAY} {v : Value} {a b c e f : SV} (h : Rel r β (.agg [a,b,c,.nils,e,f,.nils]) v) : Rel r β (.agg [a,b,c,.rd qAW [],e,f,.rd qAI []]) v := by
 cases h with
 | agg hl h =>
  refine .agg hl fun i sv v h1 h2 => ?_
  match i,h1 with
  | 0,h1 => exact h 0 _ _ h1 h2
  | 1,h1 => exact h 1 _ _ h1 h2
  | 2,h1 => exact h 2 _ _ h1 h2
  | 3,h1 => cases h1;exact qYN (h 3 _ _ rfl h2)
  | 4,h1 => exact h 4 _ _ h1 h2
  | 5,h1 => exact h 5 _ _ h1 h2
  | 6,h1 => cases h1;exact qYN (h 6 _ _ rfl h2)
  | n + 7,h1 => cases h1
theorem qeG {r : Mem} {β : qAY} {xs ys : List SV} (hl : xs.length = ys.length) (h : ∀ (i : Nat) (x y : SV),xs[i]? = some x → ys[i]? = some y → ∀ v,Rel r β x v → Rel r β y v) (vs : List Value) (q : qAT r β xs vs) : qAT r β ys vs := by
 refine ⟨by rw [q.1,hl],fun i y v h1 h2 => ?_⟩
 have hi : i < ys.length := by
  rcases Nat.lt_or_ge i ys.length with h | h
  ·exact h
  ·rw [List.getElem?_eq_none h] at h1;cases h1
 exact h i (xs[i]'(by omega)) y (List.getElem?_eq_getElem _) h1 v (q.2 i _ v (List.getElem?_eq_getElem _) h2)
end Go.Vc

namespace Go.Vc
open Go.Proofs
set_option maxRecDepth 10000
def qgW (l : List Int) : Nat → Nat
 | 0 => 0
 | k + 1 => bif l.getD k 0 == -1 then k + 1 else qgW l k
def qtI (l : List Int) : Nat := qgW l l.length
instance a43 (l : List Int) : Fn BB 247 [.rd qAI l] True (.int .i64 (qtI l)) := by
 refine Fn.intro (N := 18) [0,2,3,8,15] [] Tryz.call247 Tryz.func247 rfl rfl (by kernel_rfl) (fun hpre => ?_)
 repeat' ((conv => whnf);first|(with_reducible first|rfl|exact qAF|exact qAG)|exact True.intro|intro _|refine WA ?_ ?_|refine WF ?_|refine W1 rfl ?_ ?_|refine W2 rfl ?_ ?_|refine W3 rfl ?_ ?_|refine W4 ?_ ?_|refine W5 rfl ?_ ?_|refine W6 ?_ ?_|refine WN ?_|refine X1 (W1 rfl ?_ ?_)|refine X1 (W2 rfl ?_ ?_)|refine X2 (W7 rfl ?_ ?_)|refine X3 (W7 rfl ?_ ?_)|refine X4 (W7 rfl ?_ ?_)|refine X5 (W7 rfl ?_ ?_))
 all_goals (try (conv => whnf))
 all_goals (try first|exact obA|refine Ob.mk ?_)
 refine LoopStop.mk (α := Nat) (fun i => [(3,.int .i64 ((l.length : Int) - 1 - i))]) (fun i => []) 20 (fun i => i ≤ l.length ∧ qtI l = qgW l (l.length - i)) (fun i => l.length - i) 0 (by simp [qtI]) ?_ (fun i hC => ?_)
 ·all_goals exact vcA
 ·obtain ⟨hi,hC⟩ := hC
  repeat' ((conv => whnf);first|(with_reducible first|rfl|exact qAF|exact qAG)|exact True.intro|intro _|refine WA ?_ ?_|refine WF ?_|refine W1 rfl ?_ ?_|refine W2 rfl ?_ ?_|refine W3 rfl ?_ ?_|refine W4 ?_ ?_|refine W5 rfl ?_ ?_|refine W6 ?_ ?_|refine WN ?_|refine X1 (W1 rfl ?_ ?_)|refine X1 (W2 rfl ?_ ?_)|refine X2 (W7 rfl ?_ ?_)|refine X3 (W7 rfl ?_ ?_)|refine X4 (W7 rfl ?_ ?_)|refine X5 (W7 rfl ?_ ?_))
  all_goals (try (conv => whnf))
  all_goals (try first|exact obA|refine Ob.mk ?_)
  ·rename_i hp h
   have hp : (l.length : Int) - 1 - i ≥ 0 := by simpa using hp
   obtain ⟨k,hk⟩ : ∃ k,l.length - i = k + 1 := ⟨l.length - i - 1,by omega⟩
   rw [hk,qgW] at hC
   have h : (l.getD k 0 == -1) = true := by rw [← h,show ((l.length : Int) - 1 - i).toNat = k by omega];rfl
   rw [h,cond_true] at hC
   rw [hC];omega
  ·rename_i hp h
   have hp : (l.length : Int) - 1 - i ≥ 0 := by simpa using hp
   obtain ⟨k,hk⟩ : ∃ k,l.length - i = k + 1 := ⟨l.length - i - 1,by omega⟩
   rw [hk,qgW] at hC
   have h : (l.getD k 0 == -1) = false := by rw [← h,show ((l.length : Int) - 1 - i).toNat = k by omega];rfl
   rw [h,cond_false] at hC
   refine Rnd.mk ⟨i + 1,⟨by omega,by rw [hC];congr 1;omega⟩,by omega,?_,?_,?_⟩
   all_goals exact vcA
  ·(try simp only [ZA,ZB,ZC,ZD,ZE,ZF,ZG,ZH,ZI,ZJ,ZK,ZL,ZM,ZN,ZO,Int.toNat_natCast,UInt8.ofNat_toNat,cast_eq] at *)
   rw [hC,show l.length - i = 0 by omega];rfl
instance a46 (l : List qAH) (i : Int) : Fn BB 250 [.agg [.rd qAB l],.int .i64 i] True (.bool (isT l i)) := by
 refine Fn.intro (N := 14) [0,1,2,4] [] Tryz.call250 Tryz.func250 rfl rfl (by kernel_rfl) (fun hpre => ?_)
 repeat' ((conv => whnf);first|(with_reducible first|rfl|exact qAF|exact qAG)|exact True.intro|intro _|refine WA ?_ ?_|refine WF ?_|refine W1 rfl ?_ ?_|refine W2 rfl ?_ ?_|refine W3 rfl ?_ ?_|refine W4 ?_ ?_|refine W5 rfl ?_ ?_|refine W6 ?_ ?_|refine WN ?_|refine X1 (W1 rfl ?_ ?_)|refine X1 (W2 rfl ?_ ?_)|refine X2 (W7 rfl ?_ ?_)|refine X3 (W7 rfl ?_ ?_)|refine X4 (W7 rfl ?_ ?_)|refine X5 (W7 rfl ?_ ?_))
 all_goals (try (conv => whnf))
 all_goals (try first|exact obA|refine Ob.mk ?_)
 all_goals (simp_all [isT];done)
end Go.Vc

namespace Go.Vc.W
open Go.Proofs
set_option maxRecDepth 10000
def qdV : List UInt8 := [97,32,98,32,98,105,103,32,99,111,100,101,32,101,109,32,102,111,110,116,32,105,32,110,111,98,114,32,115,32,115,109,97,108,108,32,115,116,114,105,107,101,32,115,116,114,111,110,103,32,116,116,32,117]
def qtK : List UInt8 := [104,49,32,104,50,32,104,51,32,104,52,32,104,53,32,104,54]
def cImpl : List UInt8 := [100,100,32,100,116,32,108,105,32,111,112,116,103,114,111,117,112,32,111,112,116,105,111,110,32,112,32,114,98,32,114,112,32,114,116,32,114,116,99]
def qgL : List UInt8 := [97,100,100,114,101,115,115,32,97,114,116,105,99,108,101,32,97,115,105,100,101,32,98,108,111,99,107,113,117,111,116,101,32,99,101,110,116,101,114,32,100,101,116,97,105,108,115,32,100,105,97,108,111,103,32,100,105,114,32,100,105,118,32,100,108,32,102,105,101,108,100,115,101,116,32,102,105,103,99,97,112,116,105,111,110,32,102,105,103,117,114,101,32,102,111,111,116,101,114,32,104,101,97,100,101,114,32,104,103,114,111,117,112,32,108,105,115,116,105,110,103,32,109,97,105,110,32,109,101,110,117,32,110,97,118,32,111,108,32,112,32,112,114,101,32,115,101,97,114,99,104,32,115,101,99,116,105,111,110,32,115,117,109,109,97,114,121,32,117,108]
def cRc : List UInt8 := [116,101,120,116,97,114,101,97,32,116,105,116,108,101]
def quD : List UInt8 := [105,102,114,97,109,101,32,110,111,101,109,98,101,100,32,110,111,102,114,97,109,101,115,32,115,116,121,108,101,32,120,109,112]
def qW9 : List UInt8 := [115,99,114,105,112,116]
def qcM : List UInt8 := [112,108,97,105,110,116,101,120,116]
def has (c nm : List UInt8) : Bool := (spl c).contains nm
def kHtml (sp : Int) (nm c : List UInt8) : Bool := sp == 0 && has c nm
def qcT (nm : List UInt8) : Int := if has cRc nm then 1 else if has quD nm then 2 else if nm = qW9 then 3 else if nm = qcM then 4 else 0
instance f28 (sp : Int) (nm c : List UInt8) : Fn BB 184 [.int .i64 sp,.str nm,.str c] (nm.length ≤ 60 ∧ c.length ≤ 100000) (.bool (kHtml sp nm c)) := by
 refine Fn.intro (N := 14) [0,1,2,6] [] Tryz.call184 Tryz.func184 rfl rfl (by kernel_rfl) (fun hpre => ?_)
 all_goals exact vcA
end Go.Vc.W

namespace Go.Vc.W
open Go.Proofs
set_option maxRecDepth 10000
instance f9 (sp : Int) (nm : List UInt8) : Fn BB 127 [.int .i64 sp,.str nm] (nm.length ≤ 60) (.bool (kHtml sp nm qdV)) := by
 refine Fn.intro (N := 8) [0,1,4] [] Tryz.call127 Tryz.func127 rfl rfl (by kernel_rfl) (fun hpre => ?_)
 all_goals exact vcA
instance f13 (sp : Int) (nm : List UInt8) : Fn BB 171 [.int .i64 sp,.str nm] (nm.length ≤ 60) (.bool (kHtml sp nm qtK)) := by
 refine Fn.intro (N := 8) [0,1,4] [] Tryz.call171 Tryz.func171 rfl rfl (by kernel_rfl) (fun hpre => ?_)
 all_goals exact vcA
instance f15 (sp : Int) (nm : List UInt8) : Fn BB 264 [.int .i64 sp,.str nm] (nm.length ≤ 60) (.bool (kHtml sp nm cImpl)) := by
 refine Fn.intro (N := 8) [0,1,4] [] Tryz.call264 Tryz.func264 rfl rfl (by kernel_rfl) (fun hpre => ?_)
 all_goals exact vcA
instance f17 (nm : List UInt8) : Fn BB 167 [.str nm] (nm.length ≤ 60) (.bool (has qgL nm)) := by
 refine Fn.intro (N := 5) [0,2] [] Tryz.call167 Tryz.func167 rfl rfl (by kernel_rfl) (fun hpre => ?_)
 all_goals exact vcA
instance f25 (nm : List UInt8) : Fn BB 61 [.str nm] (nm.length ≤ 60) (.int .i64 (qcT nm)) := by
 refine Fn.intro (N := 11) [0,2,4,6,8,10] [] Tryz.call61 Tryz.func61 rfl rfl (by kernel_rfl) (fun hpre => ?_)
 repeat' ((conv => whnf);first|(with_reducible first|rfl|exact qAF|exact qAG)|exact True.intro|intro _|refine WA ?_ ?_|refine WF ?_|refine W1 rfl ?_ ?_|refine W2 rfl ?_ ?_|refine W3 rfl ?_ ?_|refine W4 ?_ ?_|refine W5 rfl ?_ ?_|refine W6 ?_ ?_|refine WN ?_|refine X1 (W1 rfl ?_ ?_)|refine X1 (W2 rfl ?_ ?_)|refine X2 (W7 rfl ?_ ?_)|refine X3 (W7 rfl ?_ ?_)|refine X4 (W7 rfl ?_ ?_)|refine X5 (W7 rfl ?_ ?_))
 all_goals (try (conv => whnf))
 all_goals (try first|exact obA|refine Ob.mk ?_)
 all_goals (unfold qcT has cRc quD;simp_all [qW9,qcM];done)
end Go.Vc.W

namespace Go.Vc
open Go.Proofs
set_option maxRecDepth 10000
def qiC : qAH := ((1 : Int),(0 : Int),([] : List UInt8),([] : List qAL),([] : List UInt8),(0 : Int),([] : List Int))
def qFG (l : List qAH) (i : Int) : qAH := bif isT l i then l.getD i.toNat qAB.dflt else qiC
theorem qUA {l : List qAH} {i : Int} (h : isT l i = true) : qFG l i = l.getD i.toNat qAB.dflt := by rw [qFG,h];rfl
theorem qQU {l : List qAH} {i : Int} (h : isT l i = false) : qFG l i = qiC := by rw [qFG,h];rfl
instance s103 (l : List qAH) (i : Int) : Fn BB 222 [.agg [.rd qAB l],.int .i64 i] True (.agg (qAB.enc (qFG l i))) := by
 cases h : isT l i with
 | true =>
  rw [qUA h]
  refine Fn.intro (N := 20) [0,1,2,4,13] [] Tryz.call222 Tryz.func222 rfl rfl (by kernel_rfl) (fun hpre => ?_)
  repeat' ((conv => whnf);first|(with_reducible first|rfl|exact qAF|exact qAG)|exact True.intro|intro _|refine WA ?_ ?_|refine WF ?_|refine W1 rfl ?_ ?_|refine W2 rfl ?_ ?_|refine W3 rfl ?_ ?_|refine W4 ?_ ?_|refine W5 rfl ?_ ?_|refine W6 ?_ ?_|refine WN ?_|refine X1 (W1 rfl ?_ ?_)|refine X1 (W2 rfl ?_ ?_)|refine X2 (W7 rfl ?_ ?_)|refine X3 (W7 rfl ?_ ?_)|refine X4 (W7 rfl ?_ ?_)|refine X5 (W7 rfl ?_ ?_))
  all_goals (try (conv => whnf))
  all_goals (try first|exact obA|refine Ob.mk ?_)
  all_goals (try (first | (exact rfl) | (rename_i hx;exact qAG hx) | (rename_i hx;exact qAF hx)))
  all_goals (first | (simp_all [isT];done) | (exfalso;simp_all [isT];omega))
 | false =>
  rw [qQU h]
  refine Fn.intro (N := 20) [0,1,2,4,13] [] Tryz.call222 Tryz.func222 rfl rfl (by kernel_rfl) (fun hpre => ?_)
  repeat' ((conv => whnf);first|(with_reducible first|rfl|exact qAF|exact qAG)|exact True.intro|intro _|refine WA ?_ ?_|refine WF ?_|refine W1 rfl ?_ ?_|refine W2 rfl ?_ ?_|refine W3 rfl ?_ ?_|refine W4 ?_ ?_|refine W5 rfl ?_ ?_|refine W6 ?_ ?_|refine WN ?_|refine X1 (W1 rfl ?_ ?_)|refine X1 (W2 rfl ?_ ?_)|refine X2 (W7 rfl ?_ ?_)|refine X3 (W7 rfl ?_ ?_)|refine X4 (W7 rfl ?_ ?_)|refine X5 (W7 rfl ?_ ?_))
  all_goals (try (conv => whnf))
  all_goals (try first|exact obA|refine Ob.mk ?_)
  all_goals (try (first | (exact rfl) | (rename_i hx;exact qAG hx) | (rename_i hx;exact qAF hx)))
  all_goals (exfalso;rename_i hx;simp only [isT] at h;(try simp only [ZA,ZB,ZC,ZD,ZE,ZF,ZG,ZH,ZI,ZJ,ZK,ZL,ZM,ZN,ZO,Bool.and_eq_false_iff,Bool.or_eq_false_iff,ge_iff_le,gt_iff_lt,Int.toNat_natCast,UInt8.ofNat_toNat,cast_eq] at *);omega)
def qc7 (l : List qAH) : Prop := ∀ i : Int,(qFG l i).2.2.1.length ≤ 60
def isE (l : List qAH) (i : Int) (nm : List UInt8) : Bool := isT l i && ((qFG l i).1 == 1 && ((qFG l i).2.1 == 0 && (W.spl nm).contains (qFG l i).2.2.1))
instance s49 (l : List qAH) (i : Int) (nm : List UInt8) : Fn BB 154 [.agg [.rd qAB l],.int .i64 i,.str nm] (nm.length ≤ 100000) (.bool (isE l i nm)) := by
 refine Fn.intro (N := 36) [0,1,2,3,6,7] [] Tryz.call154 Tryz.func154 rfl rfl (by kernel_rfl) (fun hpre => ?_)
 repeat' ((conv => whnf);first|(with_reducible first|rfl|exact qAF|exact qAG)|exact True.intro|intro _|refine WA ?_ ?_|refine WF ?_|refine W1 rfl ?_ ?_|refine W2 rfl ?_ ?_|refine W3 rfl ?_ ?_|refine W4 ?_ ?_|refine W5 rfl ?_ ?_|refine W6 ?_ ?_|refine WN ?_|refine X1 (W1 rfl ?_ ?_)|refine X1 (W2 rfl ?_ ?_)|refine X2 (W7 rfl ?_ ?_)|refine X3 (W7 rfl ?_ ?_)|refine X4 (W7 rfl ?_ ?_)|refine X5 (W7 rfl ?_ ?_))
 all_goals (try (conv => whnf))
 all_goals (try first|exact obA|refine Ob.mk ?_)
 all_goals (simp only [isE,isT,ge_iff_le,Bool.and_assoc])
end Go.Vc

namespace Go.Vc
open Go.Proofs
set_option maxRecDepth 10000
def qqT (l : List Int) : Int := bif decide (l.length = 0) then -1 else l.getD (l.length - 1) 0
instance s47 (l : List Int) : Fn BB 83 [.rd qAI l] True (.int .i64 (qqT l)) := by
  refine Fn.intro (N := 12) [0,2,5] [] Tryz.call83 Tryz.func83 rfl rfl (by kernel_rfl) (fun hpre => ?_)
  repeat' ((conv => whnf);first|(with_reducible first|rfl|exact qAF|exact qAG)|exact True.intro|intro _|refine WA ?_ ?_|refine WF ?_|refine W1 rfl ?_ ?_|refine W2 rfl ?_ ?_|refine W3 rfl ?_ ?_|refine W4 ?_ ?_|refine W5 rfl ?_ ?_|refine W6 ?_ ?_|refine WN ?_|refine X1 (W1 rfl ?_ ?_)|refine X1 (W2 rfl ?_ ?_)|refine X2 (W7 rfl ?_ ?_)|refine X3 (W7 rfl ?_ ?_)|refine X4 (W7 rfl ?_ ?_)|refine X5 (W7 rfl ?_ ?_))
  all_goals (try (conv => whnf))
  all_goals (try first|exact obA|refine Ob.mk ?_)
  · rename_i h
    have : l.length = 0 := by simpa using h
    rw [qqT,decide_eq_true this];rfl
  · have : ¬ l.length = 0 := by
      have h : (((l.length : Nat) : Int) == 0) = false := ‹_›
      simpa using h
    rw [qqT,decide_eq_false this,cond_false];congr 1;omega
end Go.Vc

namespace Go.Vc
open Go.Proofs
set_option maxRecDepth 10000
def qOB (t : List qAH) (but : List UInt8) (x : Int) : Bool := (qFG t x).1 == 1 && (W.kHtml (qFG t x).2.1 (qFG t x).2.2.1 W.cImpl && !(W.spl but).contains (qFG t x).2.2.1)
def qV0 (q : Int → Bool) (l : List Int) : Nat → Nat
 | 0 => 0
 | 1 => 1
 | k + 2 => bif q (l.getD (k + 1) 0) then qV0 q l (k + 1) else k + 2
def qX7 (p : Int → Bool) (l : List Int) : Nat → Nat
 | 0 => 0
 | 1 => 1
 | k + 2 => bif p (l.getD (k + 1) 0) then k + 1 else qX7 p l (k + 1)
theorem qQH {q : Int → Bool} {l : List Int} {n : Nat} (h : 1 < n) : qV0 q l n = bif q (l.getD (n - 1) 0) then qV0 q l (n - 1) else n := by
 obtain ⟨k,rfl⟩ : ∃ k,n = k + 2 := ⟨n - 2,by omega⟩
 rw [qV0];rfl
theorem qP0 {q : Int → Bool} {l : List Int} {n : Nat} (h : 1 < n) : qX7 q l n = bif q (l.getD (n - 1) 0) then n - 1 else qX7 q l (n - 1) := by
 obtain ⟨k,rfl⟩ : ∃ k,n = k + 2 := ⟨n - 2,by omega⟩
 rw [qX7];rfl
theorem qaO {q : Int → Bool} {l : List Int} {n : Nat} (h : ¬ 1 < n) : qV0 q l n = n := by
 match n,h with
 | 0,_ => rfl
 | 1,_ => rfl
 | k + 2,h => omega
theorem qaX {q : Int → Bool} {l : List Int} {n : Nat} (h : ¬ 1 < n) : qX7 q l n = n := by
 match n,h with
 | 0,_ => rfl
 | 1,_ => rfl
 | k + 2,h => omega
theorem qe2 {q : Int → Bool} {l : List Int} {n : Nat} (h : 1 < n) (hq : q (l.getD (n - 1) 0) = true) : qV0 q l n = qV0 q l (n - 1) := by rw [qQH h,hq];rfl
theorem qX8 {q : Int → Bool} {l : List Int} {n : Nat} (h : 1 < n) (hq : q (l.getD (n - 1) 0) = false) : qV0 q l n = n := by rw [qQH h,hq];rfl
end Go.Vc

namespace Go.Vc
open Go.Proofs
set_option maxRecDepth 10000
theorem qS0 {l : List Int} {n : Nat} (h : n ≤ l.length) : (l.take n).length = n := by simp;omega
theorem qOW {l : List Int} {n k : Nat} (h : k < n) : (l.take n).getD k 0 = l.getD k 0 := by
 simp [List.getD,List.getElem?_take,h]
theorem qO3 {l : List Int} {n : Nat} : (l.take n).take (n - 1) = l.take (n - 1) := by rw [List.take_take];congr 1;omega
theorem qOL (t : List qAH) (but : List UInt8) (x : Int) : (!qOB t but x) = ((qFG t x).1 != 1 || !W.kHtml (qFG t x).2.1 (qFG t x).2.2.1 W.cImpl || (W.spl but).contains (qFG t x).2.2.1) := by
 simp only [qOB,Bool.not_and,Bool.not_not,bne,Bool.or_assoc]
theorem qZ5 {q : Int → Bool} {l : List Int} {n : Nat} (h : 1 < n) (hq : q (l.getD (n - 1) 0) = true) : qX7 q l n = n - 1 := by rw [qP0 h,hq];rfl
theorem qeY {q : Int → Bool} {l : List Int} {n : Nat} (h : 1 < n) (hq : q (l.getD (n - 1) 0) = false) : qX7 q l n = qX7 q l (n - 1) := by rw [qP0 h,hq];rfl
end Go.Vc

namespace Go.Vc
open Go.Proofs
set_option maxRecDepth 10000
def okI (n : Nat) (i : Int) : Prop := 0 ≤ i ∧ i < n
structure Ti (n : Nat) (U : Int → Int) (K : Int → List Int) : Prop where
 pos : 0 < n
 root : U 0 = -1
 kid : ∀ i,okI n i → ∀ k ∈ K i,okI n k ∧ U k = i
 up : ∀ i,okI n i → U i = -1 ∨ (okI n (U i) ∧ (K (U i)).count i = 1)
 dep : ∃ d : Int → Nat,∀ i,okI n i → U i ≠ -1 → d (U i) < d i
inductive Ds (U : Int → Int) (r : Int) : Int → Prop
 | here : Ds U r r
 | up {x : Int} : U x ≠ -1 → Ds U r (U x) → Ds U r x
theorem qQR {l : List Int} {p q : Int → Bool} (h : ∀ x ∈ l,p x = true → q x = true) (y : Int) (hy : y ∈ l) (hp : p y = false) (hq : q y = true) : l.countP p < l.countP q := by
 induction l with
 | nil => cases hy
 | cons a l ih =>
  have hle : l.countP p ≤ l.countP q := List.countP_mono_left fun x hx => h x (List.mem_cons_of_mem _ hx)
  rw [List.countP_cons,List.countP_cons]
  rcases List.mem_cons.1 hy with rfl | hy
  ·rw [hp,hq];simp;omega
  ·have := ih (fun x hx => h x (List.mem_cons_of_mem _ hx)) hy
   have ha := h a List.mem_cons_self
   cases hpa : p a
   ·simp;omega
   ·rw [ha hpa];simp;omega
theorem Ti.rank {n : Nat} {U : Int → Int} {K : Int → List Int} (h : Ti n U K) : ∃ d : Int → Nat,(∀ i,okI n i → d i < n) ∧ ∀ i,okI n i → U i ≠ -1 → d (U i) < d i := by
 obtain ⟨d,hd⟩ := h.dep
 let L : List Int := (List.range n).map fun (k : Nat) => (k : Int)
 have hL : ∀ i,okI n i → i ∈ L := fun i hi => List.mem_map.2 ⟨i.toNat,List.mem_range.2 (by have := hi.2;have := hi.1;omega),by have := hi.1;omega⟩
 refine ⟨fun i => L.countP fun y => decide (d y < d i),fun i hi => ?_,fun i hi hu => ?_⟩
 ·have h1 : L.countP (fun y => decide (d y < d i)) < L.countP (fun _ => true) := qQR (fun _ _ _ => rfl) i (hL i hi) (decide_eq_false (Nat.lt_irrefl _)) rfl
  have h2 : L.countP (fun _ => true) = n := by simp [L]
  show L.countP (fun y => decide (d y < d i)) < n
  omega
 ·have hd := hd i hi hu
  rcases h.up i hi with q | q
  ·exact absurd q hu
  ·exact qQR (fun x _ hx => decide_eq_true (Nat.lt_trans (of_decide_eq_true hx) hd)) (U i) (hL _ q.1) (decide_eq_false (Nat.lt_irrefl _)) (decide_eq_true hd)
theorem Ds.le {n : Nat} {U : Int → Int} {K : Int → List Int} (h : Ti n U K) {d : Int → Nat} (hd : ∀ i,okI n i → U i ≠ -1 → d (U i) < d i) {r x : Int} (s : Ds U r x) : okI n x → d r ≤ d x := by
 induction s with
 | here => intro _;exact Nat.le_refl _
 | @up x hu _ ih =>
  intro hx
  rcases h.up x hx with q | q
  ·exact absurd q hu
  ·exact Nat.le_trans (ih q.1) (Nat.le_of_lt (hd x hx hu))
theorem Ds.self {n : Nat} {U : Int → Int} {K : Int → List Int} (h : Ti n U K) {r : Int} (hr : okI n r) (hu : U r ≠ -1) : ¬ Ds U r (U r) := by
 obtain ⟨d,hd⟩ := h.dep
 intro s
 rcases h.up r hr with q | q
 ·exact hu q
 ·have h1 := s.le h hd q.1
  have h2 := hd r hr hu
  omega
theorem qTX {n : Nat} {U : Int → Int} {K : Int → List Int} (h : Ti n U K) {i k : Int} (hi : okI n i) : k ∈ K i ↔ okI n k ∧ U k = i := by
 refine ⟨h.kid i hi k,fun ⟨hk,e⟩ => ?_⟩
 rcases h.up k hk with q | q
 ·have := hi.1;omega
 ·have h2 := q.2
  rw [e] at h2
  exact List.count_pos_iff.1 (by omega)
theorem qaE {n : Nat} {U : Int → Int} {K : Int → List Int} (h : Ti n U K) {i : Int} (hi : okI n i) (k : Int) : (K i).count k ≤ 1 := by
 by_cases hk : k ∈ K i
 ·have hk' := (qTX h hi).1 hk
  rcases h.up k hk'.1 with q | q
  ·have := hi.1;omega
  ·have h2 := q.2;rw [hk'.2] at h2;omega
 ·rw [List.count_eq_zero_of_not_mem hk];omega
theorem qL4 : ∀ (n : Nat) (l : List Int),(∀ x ∈ l,0 ≤ x ∧ x < (n : Int)) → (∀ x,l.count x ≤ 1) → l.length ≤ n
 | 0,l,h,_ => by
  cases l with
  | nil => exact Nat.le_refl _
  | cons a l => have := h a List.mem_cons_self;omega
 | n + 1,l,h,h1 => by
  have h2 := qL4 n (l.erase (n : Int)) (fun x hx => by
   have hm := h x (List.mem_of_mem_erase hx)
   have : x ≠ (n : Int) := fun e => by
    subst e
    have := List.count_pos_iff.2 hx
    rw [List.count_erase_self] at this
    have := h1 (n : Int);omega
   omega) (fun x => Nat.le_trans (List.Sublist.count_le _ List.erase_sublist) (h1 x))
  have h3 := List.length_erase (a := (n : Int)) (l := l)
  split at h3 <;> omega
theorem Ti.len {n : Nat} {U : Int → Int} {K : Int → List Int} (h : Ti n U K) {i : Int} (hi : okI n i) : (K i).length ≤ n :=
 qL4 n (K i) (fun x hx => (h.kid i hi x hx).1) (qaE h hi)
theorem Ti.add {n : Nat} {U U' : Int → Int} {K K' : Int → List Int} (h : Ti n U K) (hU : ∀ i,okI n i → U' i = U i) (hK : ∀ i,okI n i → K' i = K i) (hn : U' n = -1) (hk : K' n = []) : Ti (n + 1) U' K' := by
 have hs : ∀ i,okI (n + 1) i → okI n i ∨ i = n := fun i hi => by have := hi.1;have := hi.2;rcases Int.lt_or_le i n with q | q;exact .inl ⟨by omega,by omega⟩;exact .inr (by omega)
 have ho : ∀ i,okI n i → okI (n + 1) i := fun i hi => ⟨hi.1,by have := hi.2;omega⟩
 have h0 : okI n 0 := ⟨by omega,by have := h.pos;omega⟩
 obtain ⟨d,hd⟩ := h.dep
 refine ⟨by omega,by rw [hU 0 h0];exact h.root,fun i hi k hk' => ?_,fun i hi => ?_,d,fun i hi hu => ?_⟩
 ·rcases hs i hi with q | rfl
  ·rw [hK i q] at hk'
   have := h.kid i q k hk'
   exact ⟨ho _ this.1,by rw [hU _ this.1];exact this.2⟩
  ·rw [hk] at hk';cases hk'
 ·rcases hs i hi with q | rfl
  ·rw [hU i q]
   rcases h.up i q with q' | q'
   ·exact .inl q'
   ·exact .inr ⟨ho _ q'.1,by rw [hK _ q'.1];exact q'.2⟩
  ·exact .inl hn
 ·rcases hs i hi with q | rfl
  ·rw [hU i q] at hu ⊢;exact hd i q hu
  ·exact absurd hn hu
theorem Ti.congr {n : Nat} {U U' : Int → Int} {K K' : Int → List Int} (h : Ti n U K) (hU : ∀ i,okI n i → U' i = U i) (hK : ∀ i,okI n i → K' i = K i) : Ti n U' K' := by
 have h0 : okI n 0 := ⟨by omega,by have := h.pos;omega⟩
 obtain ⟨d,hd⟩ := h.dep
 refine ⟨h.pos,by rw [hU 0 h0];exact h.root,fun i hi k hk' => ?_,fun i hi => ?_,d,fun i hi hu => ?_⟩
 ·rw [hK i hi] at hk'
  have := h.kid i hi k hk'
  exact ⟨this.1,by rw [hU k this.1];exact this.2⟩
 ·rw [hU i hi]
  rcases h.up i hi with q | q
  ·exact .inl q
  ·exact .inr ⟨q.1,by rw [hK _ q.1];exact q.2⟩
 ·rw [hU i hi] at hu ⊢;exact hd i hi hu
theorem Ti.cut {n : Nat} {U U' : Int → Int} {K K' : Int → List Int} (h : Ti n U K) {kid : Int} (hk : okI n kid) (hu : U kid ≠ -1) (hU : ∀ i,okI n i → U' i = if i = kid then -1 else U i) (hK : ∀ i,okI n i → i ≠ U kid → K' i = K i)
  (hKp : ∀ k,(K' (U kid)).count k + (if k = kid then 1 else 0) = (K (U kid)).count k) : Ti n U' K' := by
 have h0 : okI n 0 := ⟨by omega,by have := h.pos;omega⟩
 have hp : okI n (U kid) ∧ (K (U kid)).count kid = 1 := (h.up kid hk).resolve_left hu
 obtain ⟨d,hd⟩ := h.dep
 have hne : ∀ i,okI n i → ∀ k,k ∈ K' i → k ∈ K i ∧ k ≠ kid := fun i hi k hk' => by
  by_cases e : i = U kid
  ·subst e
   have h1 := List.count_pos_iff.2 hk'
   have h2 := hKp k
   by_cases e' : k = kid
   ·subst e';rw [if_pos rfl,hp.2] at h2;omega
   ·rw [if_neg e'] at h2
    exact ⟨List.count_pos_iff.1 (by omega),e'⟩
  ·rw [hK i hi e] at hk'
   refine ⟨hk',fun e' => ?_⟩
   subst e'
   exact e (h.kid i hi _ hk').2.symm
 refine ⟨h.pos,?_,fun i hi k hk' => ?_,fun i hi => ?_,d,fun i hi hu' => ?_⟩
 ·rw [hU 0 h0];split
  ·rfl
  ·exact h.root
 ·obtain ⟨a,b⟩ := hne i hi k hk'
  have := h.kid i hi k a
  exact ⟨this.1,by rw [hU k this.1,if_neg b];exact this.2⟩
 ·rw [hU i hi]
  split
  ·exact .inl rfl
  ·rename_i e
   rcases h.up i hi with q | q
   ·exact .inl q
   ·refine .inr ⟨q.1,?_⟩
    by_cases e2 : U i = U kid
    ·have h2 := hKp i
     rw [if_neg e,Nat.add_zero] at h2
     rw [e2,h2, ← e2];exact q.2
    ·rw [hK _ q.1 e2];exact q.2
 ·rw [hU i hi] at hu' ⊢
  split at hu'
  ·exact absurd rfl hu'
  ·rename_i e;rw [if_neg e];exact hd i hi hu'
open Classical in
theorem Ti.put {n : Nat} {U U' : Int → Int} {K K' : Int → List Int} (h : Ti n U K) {kid p : Int} (hk : okI n kid) (hk0 : kid ≠ 0) (hp : okI n p) (hu : U kid = -1) (hd' : ¬ Ds U kid p) (hU : ∀ i,okI n i → U' i = if i = kid then p else U i)
  (hK : ∀ i,okI n i → i ≠ p → K' i = K i) (hKp : ∀ k,(K' p).count k = (K p).count k + if k = kid then 1 else 0) : Ti n U' K' := by
 have h0 : okI n 0 := ⟨by omega,by have := h.pos;omega⟩
 obtain ⟨d,hd⟩ := h.dep
 have hno : kid ∉ K p := fun q => by have := (h.kid p hp _ q).2;have := hp.1;omega
 refine ⟨h.pos,by rw [hU 0 h0,if_neg (Ne.symm hk0)];exact h.root,fun i hi k hk' => ?_,fun i hi => ?_,fun x => if Ds U kid x then d x + d p + 1 else d x,fun i hi hu' => ?_⟩
 ·by_cases e : i = p
  ·subst e
   have hc := List.count_pos_iff.2 hk'
   rw [hKp] at hc
   by_cases ek : k = kid
   ·subst ek;exact ⟨hk,by rw [hU k hk,if_pos rfl]⟩
   ·rw [if_neg ek] at hc
    have := h.kid i hi k (List.count_pos_iff.1 (by omega))
    exact ⟨this.1,by rw [hU k this.1,if_neg ek];exact this.2⟩
  ·rw [hK i hi e] at hk'
   have := h.kid i hi k hk'
   exact ⟨this.1,by rw [hU k this.1,if_neg (fun ek => by subst ek;have := hi.1;omega)];exact this.2⟩
 ·rw [hU i hi]
  split
  ·rename_i e
   subst e
   exact .inr ⟨hp,by rw [hKp,if_pos rfl,List.count_eq_zero_of_not_mem hno]⟩
  ·rename_i e
   rcases h.up i hi with q | q
   ·exact .inl q
   ·refine .inr ⟨q.1,?_⟩
    by_cases eq : U i = p
    ·rw [eq,hKp,if_neg e,Nat.add_zero, ← eq];exact q.2
    ·rw [hK _ q.1 eq];exact q.2
 ·rw [hU i hi] at hu' ⊢
  by_cases e : i = kid
  ·subst e
   simp only [if_true]
   rw [if_neg hd',if_pos Ds.here];omega
  ·rw [if_neg e] at hu' ⊢
   have hlt := hd i hi hu'
   have hiff : Ds U kid i ↔ Ds U kid (U i) := ⟨fun s => by cases s with | here => exact absurd rfl e | up _ s => exact s,fun s => .up hu' s⟩
   simp only
   by_cases hs : Ds U kid i
   ·rw [if_pos hs,if_pos (hiff.1 hs)];omega
   ·rw [if_neg hs,if_neg (fun q => hs (hiff.2 q))];exact hlt
open Classical in
theorem Ti.move {n : Nat} {U U' : Int → Int} {K K' : Int → List Int} (h : Ti n U K) {a b : Int} (ha : okI n a) (hb : okI n b) (hd' : ¬ Ds U a b) (hU : ∀ i,okI n i → U' i = if i ∈ K a then b else U i)
    (hKa : K' a = []) (hKb : K' b = K b ++ K a) (hK : ∀ i,okI n i → i ≠ a → i ≠ b → K' i = K i) : Ti n U' K' := by
  have h0 : okI n 0 := ⟨by omega,by have := h.pos;omega⟩
  have hab : b ≠ a := fun e => hd' (by rw [e];exact .here)
  obtain ⟨d,hd⟩ := h.dep
  have hm : ∀ i,okI n i → (i ∈ K a ↔ U i = a) := fun i hi => by rw [qTX h ha];exact ⟨fun q => q.2,fun q => ⟨hi,q⟩⟩
  have hU2 : ∀ i,okI n i → U' i = if U i = a then b else U i := fun i hi => by
    rw [hU i hi]
    by_cases q : i ∈ K a
    · rw [if_pos q,if_pos ((hm i hi).1 q)]
    · rw [if_neg q,if_neg (fun e => q ((hm i hi).2 e))]
  refine ⟨h.pos,by rw [hU2 0 h0,h.root,if_neg (by have := ha.1;omega)],fun i hi k hk' => ?_,fun i hi => ?_,fun x => if Ds U a x ∧ x ≠ a then d x + d b + 1 else d x,fun i hi hu' => ?_⟩
  · by_cases ea : i = a
    · subst ea;rw [hKa] at hk';cases hk'
    · by_cases eb : i = b
      · subst eb
        rw [hKb] at hk'
        rcases List.mem_append.1 hk' with q | q
        · have := h.kid i hi k q
          exact ⟨this.1,by rw [hU2 k this.1,this.2,if_neg hab]⟩
        · have := h.kid a ha k q
          exact ⟨this.1,by rw [hU2 k this.1,if_pos this.2]⟩
      · rw [hK i hi ea eb] at hk'
        have := h.kid i hi k hk'
        exact ⟨this.1,by rw [hU2 k this.1,this.2,if_neg ea]⟩
  · rw [hU2 i hi]
    by_cases e : U i = a
    · rw [if_pos e]
      refine .inr ⟨hb,?_⟩
      rw [hKb,List.count_append,List.count_eq_zero_of_not_mem (fun q => hab ((h.kid b hb i q).2.symm.trans e))]
      rcases h.up i hi with q | q
      · have := ha.1;omega
      · have h2 := q.2;rw [e] at h2;omega
    · rw [if_neg e]
      rcases h.up i hi with q | q
      · exact .inl q
      · refine .inr ⟨q.1,?_⟩
        by_cases eb : U i = b
        · rw [eb,hKb,List.count_append,List.count_eq_zero_of_not_mem (l := K a) (fun q' => e ((hm i hi).1 q'))]
          have h2 := q.2;rw [eb] at h2;omega
        · rw [hK _ q.1 e eb];exact q.2
  · rw [hU2 i hi] at hu' ⊢
    by_cases e : U i = a
    · rw [if_pos e]
      have hi2 : i ≠ a := fun q => by
        have hlt := hd i hi (by rw [e];have := ha.1;omega)
        rw [e,q] at hlt;omega
      simp only
      rw [if_neg (fun q => hd' q.1),if_pos ⟨.up (by rw [e];have := ha.1;omega) (by rw [e];exact .here),hi2⟩]
      omega
    · rw [if_neg e] at hu' ⊢
      have hlt := hd i hi hu'
      simp only
      by_cases hs : Ds U a i ∧ i ≠ a
      · have hs2 : Ds U a (U i) := by
          cases hs.1 with
          | here => exact absurd rfl hs.2
          | up _ s => exact s
        rw [if_pos hs,if_pos ⟨hs2,e⟩];omega
      · rw [if_neg hs]
        split
        · rename_i q
          by_cases hi2 : i = a
          · subst hi2
            exact absurd q.1 (Ds.self h hi hu')
          · exact absurd ⟨.up hu' q.1,hi2⟩ hs
        · exact hlt
end Go.Vc

namespace Go.Vc
open Go.Proofs
set_option maxRecDepth 10000
set_option maxHeartbeats 4000000
instance hNew : FnM BB 57 [] [] True (.agg [.own 0]) [(0,.own qAB [qYK])] := by
 refine FnM.intro (N := 4) [0] [] 0 Tryz.call57 Tryz.func57 rfl rfl (by kernel_rfl) (fun hpre => ?_)
 all_goals exact vcA
instance hIs (l : List qAH) (i : Int) : Fn BB 78 [.agg [.rd qAB l],.int .i64 i] True (.bool (isT l i)) := by
 refine Fn.intro (N := 14) [0,1,2,4] [] Tryz.call78 Tryz.func78 rfl rfl (by kernel_rfl) (fun hpre => ?_)
 all_goals exact vcA
instance hHolds (l : List qAH) (up kid : Int) : Fn BB 79 [.agg [.rd qAB l],.int .i64 up,.int .i64 kid] (l.length ≤ 100000) (.bool (qLS l up kid)) := by
  refine Fn.intro (N := 34) [0,1,2,3,6,7,22,27] [] Tryz.call79 Tryz.func79 rfl rfl (by kernel_rfl) (fun hpre => ?_)
  repeat' ((conv => whnf);first|(with_reducible first|rfl|exact qAF|exact qAG)|exact True.intro|intro _|refine WA ?_ ?_|refine WF ?_|refine W1 rfl ?_ ?_|refine W2 rfl ?_ ?_|refine W3 rfl ?_ ?_|refine W4 ?_ ?_|refine W5 rfl ?_ ?_|refine W6 ?_ ?_|refine WN ?_|refine X1 (W1 rfl ?_ ?_)|refine X1 (W2 rfl ?_ ?_)|refine X2 (W7 rfl ?_ ?_)|refine X3 (W7 rfl ?_ ?_)|refine X4 (W7 rfl ?_ ?_)|refine X5 (W7 rfl ?_ ?_))
  all_goals (try (conv => whnf))
  all_goals (try first|exact obA|refine Ob.mk ?_)
  refine LoopStop.mk (α := Nat × Int) (fun a => [(7,.int .i64 (a.1 : Nat)),(2,.int .i64 a.2)]) (fun _ => []) 30 (fun a => a.1 ≤ l.length + 1 ∧ (isT l up && qGS (l.length + 1 - a.1) l up a.2) = qLS l up kid) (fun a => l.length + 1 - a.1) (0,kid) ⟨by simp,rfl⟩ ?_ (fun a ha => ?_)
  · all_goals exact vcA
  · obtain ⟨k,x⟩ := a
    obtain ⟨h1,h2⟩ := ha
    dsimp only at h1 h2
    have c1 : (decide ((k : Int) ≤ (l.length : Int)) && isT l x && isT l up) = true → k ≤ l.length ∧ isT l x = true ∧ isT l up = true ∧ qGS (l.length + 1 - k) l up x = qLS l up kid := fun h => by
      simp only [Bool.and_eq_true] at h
      have h3 := of_decide_eq_true h.1.1
      rw [h.2,Bool.true_and] at h2
      exact ⟨by omega,h.1.2,h.2,h2⟩
    have c0 : (decide ((k : Int) ≤ (l.length : Int)) && isT l x && isT l up) = false → false = qLS l up kid := fun h => by
      rw [← h2]
      by_cases hu : isT l up = true
      · by_cases hx : isT l x = true
        · rw [hu,hx,Bool.and_true,Bool.and_true] at h
          have := of_decide_eq_false h
          rw [show l.length + 1 - k = 0 by omega,hu];rfl
        · have : qGS (l.length + 1 - k) l up x = false := by
            cases l.length + 1 - k with
            | zero => rfl
            | succ m => rw [qGS,if_neg hx]
          rw [this,Bool.and_false]
      · rw [show isT l up = false by simpa using hu];rfl
    have c2 : (decide ((k : Int) ≤ (l.length : Int)) && isT l x && isT l up) = true → (x == up) = true → true = qLS l up kid := fun h h' => by
      obtain ⟨q1,q2,q3,q4⟩ := c1 h
      rw [← q4,show l.length + 1 - k = (l.length - k) + 1 by omega,qGS,if_pos q2,if_pos (by simpa using h')]
    have c3 : (decide ((k : Int) ≤ (l.length : Int)) && isT l x && isT l up) = true → (x == up) = false → k ≤ l.length ∧ (isT l up && qGS (l.length + 1 - (k + 1)) l up (nd l x).up) = qLS l up kid := fun h h' => by
      obtain ⟨q1,q2,q3,q4⟩ := c1 h
      rw [← q4,show l.length + 1 - k = (l.length - k) + 1 by omega,qGS,if_pos q2,if_neg (by simpa using h'),q3,Bool.true_and,show l.length + 1 - (k + 1) = l.length - k by omega]
      exact ⟨q1,rfl⟩
    repeat' ((conv => whnf);first|(with_reducible first|rfl|exact qAF|exact qAG)|exact True.intro|intro _|refine WA ?_ ?_|refine WF ?_|refine W1 rfl ?_ ?_|refine W2 rfl ?_ ?_|refine W3 rfl ?_ ?_|refine W4 ?_ ?_|refine W5 rfl ?_ ?_|refine W6 ?_ ?_|refine WN ?_|refine X1 (W1 rfl ?_ ?_)|refine X1 (W2 rfl ?_ ?_)|refine X2 (W7 rfl ?_ ?_)|refine X3 (W7 rfl ?_ ?_)|refine X4 (W7 rfl ?_ ?_)|refine X5 (W7 rfl ?_ ?_))
    all_goals (try (conv => whnf))
    all_goals (try first|exact obA|refine Ob.mk ?_)
    all_goals (try dsimp only at *)
    all_goals (first | exact c2 ‹_› ‹_› | exact c0 ‹_› | exact qDW.1 (c1 ‹_›).2.1 | (have := (c1 ‹_›).1;omega) | skip)
    obtain ⟨q1,q2⟩ := c3 ‹_› ‹_›
    refine Rnd.mk ⟨(k + 1,(nd l x).up),⟨by simp only;omega,q2⟩,by simp only;omega,?_⟩
    repeat' ((conv => whnf);first|(with_reducible first|rfl|exact qAF|exact qAG)|exact True.intro|intro _|refine WA ?_ ?_|refine WF ?_|refine W1 rfl ?_ ?_|refine W2 rfl ?_ ?_|refine W3 rfl ?_ ?_|refine W4 ?_ ?_|refine W5 rfl ?_ ?_|refine W6 ?_ ?_|refine WN ?_|refine X1 (W1 rfl ?_ ?_)|refine X1 (W2 rfl ?_ ?_)|refine X2 (W7 rfl ?_ ?_)|refine X3 (W7 rfl ?_ ?_)|refine X4 (W7 rfl ?_ ?_)|refine X5 (W7 rfl ?_ ?_))
    all_goals (try (conv => whnf))
    all_goals (try first|exact obA|refine Ob.mk ?_)
    all_goals (first | rfl | omega | trace_state)
end Go.Vc

namespace Go.Vc
open Go.Proofs
set_option maxRecDepth 10000
set_option maxHeartbeats 4000000
theorem qMJ (l : List Int) (i : Nat) (h : i < l.length) : l.take (i + 1) = l.take i ++ [l.getD i 0] := by
 rw [List.take_succ_eq_append_getElem h];simp [List.getD,List.getElem?_eq_getElem h]
def qZK (l : List Int) (a : Nat) (n : Int) (i : Nat) : List Int := (l.take a).take i ++ ((if a < i then [n] else []) ++ (l.take i).drop a)
theorem qW1 (l : List Int) (a : Nat) (n : Int) (i : Nat) (h : i ≤ l.length) (ha : a ≤ l.length) : qZK l a n (i + 1) = (if i = a then qZK l a n i ++ [n] else qZK l a n i) ++ (if i < l.length then [l.getD i 0] else []) := by
 unfold qZK
 rcases Nat.lt_trichotomy i a with q | q | q
 ·rw [if_neg (show ¬ a < i + 1 by omega),if_neg (show ¬ a < i by omega),if_neg (show ¬ i = a by omega),if_pos (by omega),List.take_take,List.take_take,Nat.min_eq_left (by omega),Nat.min_eq_left (by omega),List.drop_eq_nil_of_le (by rw [List.length_take];omega),List.drop_eq_nil_of_le (by rw [List.length_take];omega)]
  simp only [List.append_nil]
  exact qMJ l i (by omega)
 ·subst q
  have hdr : (l.take i).drop i = [] := List.drop_eq_nil_of_le (by rw [List.length_take];omega)
  rw [if_pos (show i < i + 1 by omega),if_neg (show ¬ i < i by omega),if_pos rfl,List.take_take,List.take_take,Nat.min_eq_right (by omega),Nat.min_self,hdr]
  simp only [List.append_nil,List.append_assoc]
  congr 2
  by_cases hl : i < l.length
  ·rw [if_pos hl,qMJ l i hl,List.drop_append_of_le_length (by rw [List.length_take];omega),List.drop_eq_nil_of_le (by rw [List.length_take];omega)];rfl
  ·rw [if_neg hl,List.drop_eq_nil_of_le (by rw [List.length_take];omega)]
 ·rw [if_pos (show a < i + 1 by omega),if_pos (show a < i by omega),if_neg (show ¬ i = a by omega),List.take_take,List.take_take,Nat.min_eq_right (by omega),Nat.min_eq_right (by omega)]
  by_cases hl : i < l.length
  ·rw [if_pos hl,qMJ l i hl,List.drop_append_of_le_length (by rw [List.length_take];omega)]
   simp only [List.append_assoc]
  ·rw [if_neg hl,List.append_nil,List.take_of_length_le (l := l) (i := i + 1) (by omega),List.take_of_length_le (l := l) (i := i) (by omega)]
theorem qZP (l : List Int) (a : Nat) (n : Int) (h : a ≤ l.length) : qZK l a n (l.length + 1) = l.take a ++ n :: l.drop a := by
 unfold qZK
 rw [if_pos (by omega),List.take_take,List.take_of_length_le (l := l) (i := l.length + 1) (by omega),Nat.min_eq_right (by omega)]
 rfl
theorem qa3 (l : List Int) (a : Nat) (n : Int) (i : Nat) : (qZK l a n i).length ≤ i + 1 + i := by
 unfold qZK;simp only [List.length_append,List.length_take,List.length_drop];split <;> simp <;> omega
instance hPlace (l : List qAH) (kid : Int) : Fn BB 106 [.agg [.rd qAB l],.int .i64 kid] True (.int .i64 (qOQ l kid)) := by
 refine Fn.intro (N := 46) [0,1,2,4,5,6,21,36,44] [(1,[1,0,1,1,1,1,1,1,1,1,1,1,3,3,3]),(3,[0,1,0,1,0,1,1,1,3,3,3,3])] Tryz.call106 Tryz.func106 rfl rfl (by kernel_rfl) (fun hpre => ?_)
 have p0 : (!isT l kid || !isT l (nd l kid).up) = true → (-1 : Int) = qOQ l kid := fun h => by
  have h := qRE h
  unfold qOQ;rw [h];rfl
 have p1 : (!isT l kid || !isT l (nd l kid).up) = false → (0 ≤ kid ∧ kid < l.length) ∧ (0 ≤ (nd l kid).up ∧ (nd l kid).up < l.length) ∧ qOQ l kid = qQD (nd l (nd l kid).up).kids kid := fun h => by
  obtain ⟨h1,h2⟩ := qPJ h
  refine ⟨qDW.1 h1,qDW.1 h2,?_⟩
  unfold qOQ;rw [h1,h2];rfl
 repeat' ((conv => whnf);first|(with_reducible first|rfl|exact qAF|exact qAG)|exact True.intro|intro _|refine WA ?_ ?_|refine WF ?_|refine W1 rfl ?_ ?_|refine W2 rfl ?_ ?_|refine W3 rfl ?_ ?_|refine W4 ?_ ?_|refine W5 rfl ?_ ?_|refine W6 ?_ ?_|refine WN ?_|refine X1 (W1 rfl ?_ ?_)|refine X1 (W2 rfl ?_ ?_)|refine X2 (W7 rfl ?_ ?_)|refine X3 (W7 rfl ?_ ?_)|refine X4 (W7 rfl ?_ ?_)|refine X5 (W7 rfl ?_ ?_))
 all_goals (try (conv => whnf))
 all_goals (try first|exact obA|refine Ob.mk ?_)
 all_goals (try (have q := p0 ‹(!isT l kid || !isT l (nd l kid).up) = true›))
 all_goals (try (have q := p1 ‹(!isT l kid || !isT l (nd l kid).up) = false›;obtain ⟨q1,q2,q3⟩ := q))
 all_goals (first | exact q | exact q1 | exact q2 | (exact qDW.1 (by simp_all;done)) | skip)
 generalize hks : (nd l (nd l kid).up).kids = ks at *
 have hks' : (l.getD (l.getD kid.toNat qAB.dflt).2.2.2.2.2.1.toNat qAB.dflt).2.2.2.2.2.2 = ks := hks
 try rw [hks']
 refine LoopStop.mk (α := Nat) (fun i => [(6,.int .i64 i)]) (fun _ => []) 20 (fun i => i ≤ ks.length ∧ (ks.take i).contains kid = false) (fun i => ks.length - i) 0 (by simp) ?_ (fun i hi => ?_)
 ·all_goals exact vcA
 ·obtain ⟨hi,ha⟩ := hi
  repeat' ((conv => whnf);first|(with_reducible first|rfl|exact qAF|exact qAG)|exact True.intro|intro _|refine WA ?_ ?_|refine WF ?_|refine W1 rfl ?_ ?_|refine W2 rfl ?_ ?_|refine W3 rfl ?_ ?_|refine W4 ?_ ?_|refine W5 rfl ?_ ?_|refine W6 ?_ ?_|refine WN ?_|refine X1 (W1 rfl ?_ ?_)|refine X1 (W2 rfl ?_ ?_)|refine X2 (W7 rfl ?_ ?_)|refine X3 (W7 rfl ?_ ?_)|refine X4 (W7 rfl ?_ ?_)|refine X5 (W7 rfl ?_ ?_))
  all_goals (try (conv => whnf))
  all_goals (try first|exact obA|refine Ob.mk ?_)
  all_goals (try (have b1 := of_decide_eq_true ‹decide ((i : Int) < (ks.length : Int)) = true›))
  all_goals (try (have b1 := of_decide_eq_false ‹decide ((i : Int) < (ks.length : Int)) = false›))
  all_goals (try simp only [Int.toNat_natCast] at *)
  ·rw [q3,qMU (i := i) (by omega) ha (eq_of_beq (show (ks.getD i 0 == kid) = true from ‹_›)).symm]
  ·have h : (ks.getD i 0 == kid) = false := ‹_›
   refine Rnd.mk ⟨i + 1,⟨by omega,by rw [qHK ks i kid (by omega),ha,h];rfl⟩,by omega,?_⟩
   repeat' ((conv => whnf);first|(with_reducible first|rfl|exact qAF|exact qAG)|exact True.intro|intro _|refine WA ?_ ?_|refine WF ?_|refine W1 rfl ?_ ?_|refine W2 rfl ?_ ?_|refine W3 rfl ?_ ?_|refine W4 ?_ ?_|refine W5 rfl ?_ ?_|refine W6 ?_ ?_|refine WN ?_|refine X1 (W1 rfl ?_ ?_)|refine X1 (W2 rfl ?_ ?_)|refine X2 (W7 rfl ?_ ?_)|refine X3 (W7 rfl ?_ ?_)|refine X4 (W7 rfl ?_ ?_)|refine X5 (W7 rfl ?_ ?_))
   all_goals (try (conv => whnf))
   all_goals (try first|exact obA|refine Ob.mk ?_)
   all_goals (first | rfl | omega | trace_state)
  ·obtain rfl : i = ks.length := by omega
   rw [q3,qHD (by rw [List.take_length] at ha;exact ha)]
instance hWith (l : List Int) (at_ n : Int) : Fn BB 81 [.rd qAI l,.int .i64 at_,.int .i64 n] (0 ≤ at_ ∧ at_ ≤ l.length ∧ l.length ≤ 100000) (.rd qAI (l.take at_.toNat ++ n :: l.drop at_.toNat)) := by
 refine Fn.intro (N := 34) [0,1,2,6,7,8,12,17,25] [] Tryz.call81 Tryz.func81 rfl rfl (by kernel_rfl) (fun hpre => ?_)
 obtain ⟨p1,p2,p3⟩ := hpre
 obtain ⟨a,rfl⟩ := Int.eq_ofNat_of_zero_le p1
 have hen := qZP l a n (by omega)
 rw [Int.toNat_natCast]
 repeat' ((conv => whnf);first|(with_reducible first|rfl|exact qAF|exact qAG)|exact True.intro|intro _|refine WA ?_ ?_|refine WF ?_|refine W1 rfl ?_ ?_|refine W2 rfl ?_ ?_|refine W3 rfl ?_ ?_|refine W4 ?_ ?_|refine W5 rfl ?_ ?_|refine W6 ?_ ?_|refine WN ?_|refine X1 (W1 rfl ?_ ?_)|refine X1 (W2 rfl ?_ ?_)|refine X2 (W7 rfl ?_ ?_)|refine X3 (W7 rfl ?_ ?_)|refine X4 (W7 rfl ?_ ?_)|refine X5 (W7 rfl ?_ ?_))
 all_goals (try (conv => whnf))
 all_goals (try first|exact obA|refine Ob.mk ?_)
 refine LoopStop.mk (α := Nat) (fun i => [(8,.int .i64 i),(7,.own 20)]) (fun i => [(20,.own qAI (qZK l a n i))]) 30 (fun i => i ≤ l.length + 1) (fun i => l.length + 1 - i) 0 (by simp) ?_ (fun i hi => ?_)
 ·repeat' ((conv => whnf);first|(with_reducible first|rfl|exact qAF|exact qAG)|exact True.intro|intro _|refine WA ?_ ?_|refine WF ?_|refine W1 rfl ?_ ?_|refine W2 rfl ?_ ?_|refine W3 rfl ?_ ?_|refine W4 ?_ ?_|refine W5 rfl ?_ ?_|refine W6 ?_ ?_|refine WN ?_|refine X1 (W1 rfl ?_ ?_)|refine X1 (W2 rfl ?_ ?_)|refine X2 (W7 rfl ?_ ?_)|refine X3 (W7 rfl ?_ ?_)|refine X4 (W7 rfl ?_ ?_)|refine X5 (W7 rfl ?_ ?_))
  all_goals (try (conv => whnf))
  all_goals (try first|exact obA|refine Ob.mk ?_)
  all_goals (first | rfl | (simp [qZK];done) | trace_state)
 ·have hl := qa3 l a n i
  have hst := qW1 l a n i
  repeat' ((conv => whnf);first|(with_reducible first|rfl|exact qAF|exact qAG)|exact True.intro|intro _|refine WA ?_ ?_|refine WF ?_|refine W1 rfl ?_ ?_|refine W2 rfl ?_ ?_|refine W3 rfl ?_ ?_|refine W4 ?_ ?_|refine W5 rfl ?_ ?_|refine W6 ?_ ?_|refine WN ?_|refine X1 (W1 rfl ?_ ?_)|refine X1 (W2 rfl ?_ ?_)|refine X2 (W7 rfl ?_ ?_)|refine X3 (W7 rfl ?_ ?_)|refine X4 (W7 rfl ?_ ?_)|refine X5 (W7 rfl ?_ ?_))
  all_goals (try (conv => whnf))
  all_goals (try first|exact obA|refine Ob.mk ?_)
  all_goals (try (have b := of_decide_eq_true ‹decide ((i : Int) ≤ (l.length : Int)) = true›;have hs := hst (by omega) (by omega)))
  all_goals (try (have e1 : i = a := by (have h : ((i : Int) == (a : Int)) = true := ‹_›;have := eq_of_beq h;omega)))
  all_goals (try (have e1 : ¬ i = a := by (have h : ((i : Int) == (a : Int)) = false := ‹_›;rw [beq_eq_false_iff_ne] at h;omega)))
  all_goals (try (have b2 : i < l.length := by (have h := of_decide_eq_true ‹decide ((i : Int) < (l.length : Int)) = true›;omega)))
  all_goals (try (have b2 : ¬ i < l.length := by (have h := of_decide_eq_false ‹decide ((i : Int) < (l.length : Int)) = false›;omega)))
  all_goals (try rw [if_pos e1] at hs)
  all_goals (try rw [if_neg e1] at hs)
  all_goals (try rw [if_pos b2] at hs)
  all_goals (try rw [if_neg b2,List.append_nil] at hs)
  all_goals (try simp only [Int.toNat_natCast] at *)
  all_goals (try (refine Rnd.mk ⟨i + 1,by omega,by omega,?_⟩))
  all_goals (first | omega | exact ⟨by omega,by omega⟩ | (show _ * 8 ≤ _ ∧ _ ≤ _;exact ⟨by simp only [List.length_append,List.length_cons,List.length_nil];omega,by simp only [List.length_append,List.length_cons,List.length_nil];omega⟩) | skip)
  all_goals (try (have b := of_decide_eq_false ‹decide ((i : Int) ≤ (l.length : Int)) = false›;rw [show i = l.length + 1 by omega,hen]))
  repeat' ((conv => whnf);first|(with_reducible first|rfl|exact qAF|exact qAG)|exact True.intro|intro _|refine WA ?_ ?_|refine WF ?_|refine W1 rfl ?_ ?_|refine W2 rfl ?_ ?_|refine W3 rfl ?_ ?_|refine W4 ?_ ?_|refine W5 rfl ?_ ?_|refine W6 ?_ ?_|refine WN ?_|refine X1 (W1 rfl ?_ ?_)|refine X1 (W2 rfl ?_ ?_)|refine X2 (W7 rfl ?_ ?_)|refine X3 (W7 rfl ?_ ?_)|refine X4 (W7 rfl ?_ ?_)|refine X5 (W7 rfl ?_ ?_))
  all_goals (try (conv => whnf))
  all_goals (try first|exact obA|refine Ob.mk ?_)
  all_goals (first | rfl | omega | (rw [hs];done) | (rw [hs];rfl) | trace_state)
end Go.Vc

namespace Go.Vc
open Go.Proofs
set_option autoImplicit false
def qhA (n : qAH) (k : Int) : qAH := (n.1,n.2.1,n.2.2.1,n.2.2.2.1,n.2.2.2.2.1,n.2.2.2.2.2.1,n.2.2.2.2.2.2 ++ [k])
def mkN (n : qAH) (up : Int) : qAH := (n.1,n.2.1,n.2.2.1,n.2.2.2.1,n.2.2.2.2.1,up,[])
def qDH (out : List qAH) (p : Nat) (k : Int) : List qAH := out.set p (qhA (out.getD p qAB.dflt) k)
structure PSt where
 out : List qAH
 P : List Nat
def PSt.step (t : List qAH) (x : PSt) (e : Ev) : PSt :=
 match e.2.2.2,x.P with
 | true,P => { out := x.out,P := P.tail }
 | false,[] => { out := x.out ++ [mkN (t.getD e.1 qAB.dflt) (-1)],P := [x.out.length] }
 | false,p :: P => { out := qDH x.out p x.out.length ++ [mkN (t.getD e.1 qAB.dflt) p],P := x.out.length :: p :: P }
def PSt.run (t : List qAH) : PSt → List Ev → PSt
 | x,[] => x
 | x,e :: l => PSt.run t (x.step t e) l
theorem qFU (t : List qAH) : ∀ (l l' : List Ev) (x : PSt),x.run t (l ++ l') = (x.run t l).run t l' := by
 intro l
 induction l with
 | nil => intro l' x;rfl
 | cons e l ih => intro l' x;exact ih l' (x.step t e)
def pS (t : List qAH) (K : Nat → List Int) (out : List qAH) (s : List Bool) (p i j : Nat) : List qAH := (({ out := out,P := [p] } : PSt).run t (dfs K s i j 0).1).out
def sS (K : Nat → List Int) (s : List Bool) (i j : Nat) : List Bool := (dfs K s i j 0).2.1
variable {K : Nat → List Int} {t : List qAH}
theorem qED (out : List qAH) (p : Nat) (k : Int) : (qDH out p k).length = out.length := by unfold qDH;exact List.length_set ..
theorem qkQ : ∀ (s : List Bool) (i j c : Nat),∀ c',(dfs K s i j c).2.1 = (dfs K s i j c').2.1 ∧ ∀ x : PSt,x.run t (dfs K s i j c).1 = x.run t (dfs K s i j c').1 := by
 refine qGK (K := K) ?_ ?_ ?_
 ·intro s i j c h c';rw [qDK h,qDK h];exact ⟨rfl,fun x => rfl⟩
 ·intro s i j c h hk ih c';rw [qDD h hk,qDD h hk];exact ih c'
 ·intro s i j c h hk i1 i2 c'
  rw [qF5 h hk,qF5 h hk]
  dsimp only
  obtain ⟨a1,a2⟩ := i1 (c' + 1)
  rw [← a1]
  obtain ⟨b1,b2⟩ := i2 (dfs K (s.set ((K i).getD j 0).toNat true) ((K i).getD j 0).toNat 0 (c' + 1)).2.2
  refine ⟨b1,fun x => ?_⟩
  show ((x.step t _).run t _) = ((x.step t _).run t _)
  rw [qFU,qFU]
  have e : x.step t (((K i).getD j 0).toNat,(i : Int),c,false) = x.step t (((K i).getD j 0).toNat,(i : Int),c',false) := rfl
  rw [e,a2,b2]
theorem qTC : ∀ (s : List Bool) (i j c : Nat),∀ (out : List qAH) (p : Nat) (P : List Nat),
  ({ out := out,P := p :: P } : PSt).run t (dfs K s i j c).1 = { out := (({ out := out,P := [p] } : PSt).run t (dfs K s i j c).1).out,P := P } := by
 refine qGK (K := K) ?_ ?_ ?_
 ·intro s i j c h out p P;rw [qDK h];rfl
 ·intro s i j c h hk ih out p P;rw [qDD h hk];exact ih out p P
 ·intro s i j c h hk i1 i2 out p P
  rw [qF5 h hk]
  dsimp only
  have e : ∀ Q,({ out := out,P := p :: Q } : PSt).step t (((K i).getD j 0).toNat,(i : Int),c,false) =
   { out := qDH out p out.length ++ [mkN (t.getD ((K i).getD j 0).toNat qAB.dflt) p],P := out.length :: p :: Q } := fun Q => rfl
  show PSt.run t (PSt.step t _ _) _ = { out := (PSt.run t (PSt.step t _ _) _).out,P := P }
  rw [e,e,qFU,qFU,i1 _ out.length (p :: P),i1 _ out.length [p],i2 _ p P]
theorem qcN {out s p i j} (h : ¬ j < (K i).length) : pS t K out s p i j = out ∧ sS K s i j = s := by
 unfold pS sS;rw [qDK h];exact ⟨rfl,rfl⟩
theorem qcV {out s p i j} (h : j < (K i).length) (hk : okK s ((K i).getD j 0) = false) : pS t K out s p i j = pS t K out s p i (j + 1) ∧ sS K s i j = sS K s i (j + 1) := by
 unfold pS sS;rw [qDD h hk];exact ⟨rfl,rfl⟩
def qNV (t : List qAH) (K : Nat → List Int) (out : List qAH) (s : List Bool) (k : Nat) (up : Int) : List qAH := pS t K (out ++ [mkN (t.getD k qAB.dflt) up]) (s.set k true) out.length k 0
def qYX (K : Nat → List Int) (s : List Bool) (k : Nat) : List Bool := sS K (s.set k true) k 0
theorem qjG {out s p i j} (h : j < (K i).length) (hk : okK s ((K i).getD j 0) = true) :
    pS t K out s p i j = pS t K (qNV t K (qDH out p out.length) s ((K i).getD j 0).toNat p) (qYX K s ((K i).getD j 0).toNat) p i (j + 1) ∧ sS K s i j = sS K (qYX K s ((K i).getD j 0).toNat) i (j + 1) := by
  have a := fun c => qkQ (t := t) (K := K) (s.set ((K i).getD j 0).toNat true) ((K i).getD j 0).toNat 0 c 0
  unfold pS sS qNV qYX pS sS
  rw [qF5 h hk]
  dsimp only
  rw [(a 1).1]
  have b := fun c => qkQ (t := t) (K := K) (dfs K (s.set ((K i).getD j 0).toNat true) ((K i).getD j 0).toNat 0 0).2.1 i (j + 1) c 0
  refine ⟨?_,(b _).1⟩
  show (PSt.run t (PSt.step t _ _) _).out = _
  have e : ({ out := out,P := [p] } : PSt).step t (((K i).getD j 0).toNat,(i : Int),0,false) =
      { out := qDH out p out.length ++ [mkN (t.getD ((K i).getD j 0).toNat qAB.dflt) p],P := out.length :: [p] } := rfl
  rw [e,qFU,qTC,(b _).2,(a 1).2,qED]
theorem qgO : ∀ (s : List Bool) (i j c : Nat),∀ (out : List qAH) (p : Nat),
  out.length ≤ (({ out := out,P := [p] } : PSt).run t (dfs K s i j c).1).out.length ∧ (({ out := out,P := [p] } : PSt).run t (dfs K s i j c).1).out.length + unseen (dfs K s i j c).2.1 = out.length + unseen s ∧
   (∀ q,q < out.length → q ≠ p → (({ out := out,P := [p] } : PSt).run t (dfs K s i j c).1).out.getD q qAB.dflt = out.getD q qAB.dflt) ∧ (dfs K s i j c).2.1.length = s.length := by
 refine qGK (K := K) ?_ ?_ ?_
 ·intro s i j c h out p;rw [qDK h];exact ⟨Nat.le_refl _,rfl,fun q _ _ => rfl,rfl⟩
 ·intro s i j c h hk ih out p;rw [qDD h hk];exact ih out p
 ·intro s i j c h hk i1 i2 out p
  rw [qF5 h hk]
  dsimp only
  have e : ({ out := out,P := [p] } : PSt).step t (((K i).getD j 0).toNat,(i : Int),c,false) =
   { out := qDH out p out.length ++ [mkN (t.getD ((K i).getD j 0).toNat qAB.dflt) p],P := out.length :: [p] } := rfl
  have er : ∀ l,({ out := out,P := [p] } : PSt).run t ((((K i).getD j 0).toNat,(i : Int),c,false) :: l) =
   ({ out := qDH out p out.length ++ [mkN (t.getD ((K i).getD j 0).toNat qAB.dflt) p],P := out.length :: [p] } : PSt).run t l := fun l => by rw [← e];rfl
  have er2 : ∀ l1 l2 c1,l1 = (dfs K (s.set ((K i).getD j 0).toNat true) ((K i).getD j 0).toNat 0 c1).1 → (({ out := out,P := [p] } : PSt).run t ((((K i).getD j 0).toNat,(i : Int),c,false) :: (l1 ++ l2))).out =
   (({ out := (({ out := qDH out p out.length ++ [mkN (t.getD ((K i).getD j 0).toNat qAB.dflt) p],P := [out.length] } : PSt).run t l1).out,P := [p] } : PSt).run t l2).out := fun l1 l2 c1 hl => by
   rw [er,qFU,hl,qTC]
  rw [er2 _ _ _ rfl]
  have hl : (qDH out p out.length ++ [mkN (t.getD ((K i).getD j 0).toNat qAB.dflt) p]).length = out.length + 1 := by rw [List.length_append,qED];rfl
  have hu := qBA (qBU hk).2.2
  obtain ⟨a1,a2,a3,a4⟩ := i1 (qDH out p out.length ++ [mkN (t.getD ((K i).getD j 0).toNat qAB.dflt) p]) out.length
  rw [hl] at a1 a2 a3
  generalize (({ out := qDH out p out.length ++ [mkN (t.getD ((K i).getD j 0).toNat qAB.dflt) p],P := [out.length] } : PSt).run t (dfs K (s.set ((K i).getD j 0).toNat true) ((K i).getD j 0).toNat 0 (c + 1)).1).out = y at *
  obtain ⟨b1,b2,b3,b4⟩ := i2 y p
  refine ⟨by omega,by omega,fun q hq hp => ?_,?_⟩
  ·rw [b3 q (by omega) hp,a3 q (by omega) (by omega)]
   unfold qDH
   rw [List.getD_eq_getElem?_getD,List.getElem?_append_left (by rw [List.length_set];exact hq),List.getElem?_set,if_neg (fun h => hp h.symm),List.getD_eq_getElem?_getD]
  ·rw [b4,a4,List.length_set]
theorem qMC (out : List qAH) (s : List Bool) (k : Nat) (up : Int) : out.length + 1 ≤ (qNV t K out s k up).length ∧ (qNV t K out s k up).length + unseen (qYX K s k) = out.length + 1 + unseen (s.set k true) ∧
  (∀ q,q < out.length → (qNV t K out s k up).getD q qAB.dflt = out.getD q qAB.dflt) ∧ (qYX K s k).length = s.length := by
 obtain ⟨h1,h2,h3,h4⟩ := qgO (t := t) (K := K) (s.set k true) k 0 0 (out ++ [mkN (t.getD k qAB.dflt) up]) out.length
 rw [List.length_append,List.length_singleton] at h1 h2 h3
 refine ⟨h1,h2,fun q hq => ?_,by rw [List.length_set] at h4;exact h4⟩
 show (PSt.run t _ _).out.getD q _ = _
 rw [h3 q (by omega) (by omega),List.getD_eq_getElem?_getD,List.getElem?_append_left hq,List.getD_eq_getElem?_getD]
end Go.Vc

namespace Go.Vc
open Go.Proofs
set_option maxRecDepth 10000
set_option maxHeartbeats 4000000
noncomputable abbrev BN : Base := { BB with np := fun t => bif Nat.beq t 41 then some 6 else none }
instance toN_fn {f : FuncId} {args : List SV} {pre : Prop} {res : SV} [h : Fn BB f args pre res] : Fn BN f args pre res := ⟨h.call,h.ok⟩
instance toN_fnM {f : FuncId} {args : List SV} {Φ : Phi} {pre : Prop} {res : SV} {Φ' : Phi} [h : FnM BB f args Φ pre res Φ'] : FnM BN f args Φ pre res Φ' := ⟨h.call,h.ok⟩
def qhS (t out : List qAH) (s : List Bool) (k : Int) : Prop := qFH t = true ∧ s.length = t.length ∧ (0 ≤ k ∧ k < t.length) ∧ out.length + unseen (s.set k.toNat true) + 1 ≤ 5000
theorem qbH {q : List Bool} {n : Nat} (hq : q.length = n) (k : Int) : (decide (k ≥ 0) && decide (k < (n : Int)) && !q.getD k.toNat false) = okK q k := by
  unfold okK
  by_cases h1 : k < 0
  · rw [decide_eq_false (by omega : ¬ k ≥ 0)];rfl
  · rw [decide_eq_true (by omega : k ≥ 0)]
    by_cases h2 : k < (n : Int)
    · rw [decide_eq_true h2]
      have hl : k.toNat < q.length := by omega
      simp [List.getD,hl]
    · have : q.getD k.toNat true = true := by
        rw [List.getD_eq_getElem?_getD,List.getElem?_eq_none (by omega)];rfl
      rw [decide_eq_false h2,this];rfl
theorem qL2 (o : List qAH) (p : Nat) (k : Int) (h : p < o.length) : ((qDH o p k).getD p qAB.dflt).kids = (o.getD p qAB.dflt).kids ++ [k] := by
 unfold qDH
 rw [List.getD_eq_getElem?_getD,List.getElem?_set,if_pos rfl,if_pos h];rfl
theorem qPQ (o : List qAH) (n : Nat) (k : Int) (h : n < o.length) :
  (o.set n ((o.getD n qAB.dflt).1,(o.getD n qAB.dflt).2.1,(o.getD n qAB.dflt).2.2.1,(o.getD n qAB.dflt).2.2.2.1,(o.getD n qAB.dflt).2.2.2.2.1,(o.getD n qAB.dflt).2.2.2.2.2.1,(o.getD n qAB.dflt).2.2.2.2.2.2 ++ [k])).set n
   ((o.set n ((o.getD n qAB.dflt).1,(o.getD n qAB.dflt).2.1,(o.getD n qAB.dflt).2.2.1,(o.getD n qAB.dflt).2.2.2.1,(o.getD n qAB.dflt).2.2.2.2.1,(o.getD n qAB.dflt).2.2.2.2.2.1,(o.getD n qAB.dflt).2.2.2.2.2.2 ++ [k])).getD n qAB.dflt) = qDH o n k := by
 rw [List.set_set]
 unfold qDH
 congr 1
 rw [List.getD_eq_getElem?_getD,List.getElem?_set,if_pos rfl,if_pos h]
 rfl
theorem qsI (N : Nat) : ∀ (t out : List qAH) (s : List Bool) (k up : Int),
  FnM BN 66 [.agg [.rd qAB t],.int .i64 k,.int .i64 up,.agg [.own 0],.own 1] [(0,.nst qAB 6 out none),(1,.ow .bool s)]
   (qhS t out s k ∧ unseen (s.set k.toNat true) < N)
   (.agg [.own 0]) [(0,.nst qAB 6 (qNV t (qAC t) out s k.toNat up) none),(1,.ow .bool (qYX (qAC t) s k.toNat))] := by
 induction N with
 | zero => intro t out s k up;exact ⟨Tryz.call66,fun h => absurd h.2 (Nat.not_lt_zero _)⟩
 | succ N ih =>
  intro t out s k up
  refine FnM.intro (N := 99) [0,1,2,3,4,5,8,10,11,12,13,14,48,75] [(12,[0,7,0,0,7,0,4,4,4,0,7,4,4,4,4,4,4]),(3000012,[454,519,779,840,844,909,974,1039])] 2 Tryz.call66 Tryz.func66 rfl rfl (by kernel_rfl) (fun hpre => ?_)
  obtain ⟨⟨hsm,hsl,hk,hlen⟩,hN⟩ := hpre
  repeat' ((conv => whnf);first|(with_reducible first|rfl|exact qAF|exact qAG)|exact True.intro|intro _|refine WA ?_ ?_|refine WF ?_|refine W1 rfl ?_ ?_|refine W2 rfl ?_ ?_|refine W3 rfl ?_ ?_|refine W4 ?_ ?_|refine W5 rfl ?_ ?_|refine W6 ?_ ?_|refine WN ?_|refine X1 (W1 rfl ?_ ?_)|refine X1 (W2 rfl ?_ ?_)|refine X2 (W7 rfl ?_ ?_)|refine X3 (W7 rfl ?_ ?_)|refine X4 (W7 rfl ?_ ?_)|refine X5 (W7 rfl ?_ ?_))
  all_goals (try (conv => whnf))
  all_goals (try first|exact obA|refine Ob.mk ?_)
  all_goals (try simp only [qWM,qTQ,qXC,qT6,List.length_singleton] at *)
  ·have h64 := (qJN hsm k (qDW.2 hk)).1
   simp only [cast_eq,List.length_nil,Nat.zero_add]
   change ((nd t k).2.2.2.1.length * 32 ≤ _ ∧ (nd t k).2.2.2.1.length ≤ _)
   omega
  refine LoopStop.mk (α := List qAH × List Bool × Nat) (fun a => [(13,.int .i64 a.2.2)]) (fun a => [(0,.nst qAB 6 a.1 none),(1,.ow .bool a.2.1)]) 20
   (fun a => pS t (qAC t) a.1 a.2.1 out.length k.toNat a.2.2 = qNV t (qAC t) out s k.toNat up ∧ sS (qAC t) a.2.1 k.toNat a.2.2 = qYX (qAC t) s k.toNat ∧ a.2.1.length = t.length ∧ a.1.length + unseen a.2.1 ≤ 5000 ∧
    out.length < a.1.length ∧ (a.1.getD out.length qAB.dflt).kids.length ≤ a.2.2 ∧ a.2.2 ≤ (qAC t k.toNat).length ∧ unseen a.2.1 ≤ N)
   (fun a => (qAC t k.toNat).length - a.2.2) (out ++ [mkN (t.getD k.toNat qAB.dflt) up],s.set k.toNat true,0) ⟨rfl,rfl,by simpa using hsl,by simp only [List.length_append,List.length_singleton];omega,by simp,by simp [mkN,qAH.kids],Nat.zero_le _,by show unseen (s.set k.toNat true) ≤ N;omega⟩ ?_ (fun a ha => ?_)
  ·all_goals exact vcA
  ·obtain ⟨o,q,j⟩ := a
   dsimp only at ha ⊢
   obtain ⟨h1,h2,h3,h4,h5,h6,h7,h8⟩ := ha
   repeat' ((conv => whnf);first|(with_reducible first|rfl|exact qAF|exact qAG)|exact True.intro|intro _|refine WA ?_ ?_|refine WF ?_|refine W1 rfl ?_ ?_|refine W2 rfl ?_ ?_|refine W3 rfl ?_ ?_|refine W4 ?_ ?_|refine W5 rfl ?_ ?_|refine W6 ?_ ?_|refine WN ?_|refine X1 (W1 rfl ?_ ?_)|refine X1 (W2 rfl ?_ ?_)|refine X2 (W7 rfl ?_ ?_)|refine X3 (W7 rfl ?_ ?_)|refine X4 (W7 rfl ?_ ?_)|refine X5 (W7 rfl ?_ ?_))
   all_goals (try (conv => whnf))
   all_goals (try first|exact obA|refine Ob.mk ?_)
   all_goals (try simp only [Int.toNat_natCast] at *)
   ·rename_i c1 c2 c3
    have hj : j < (qAC t k.toNat).length := by have h := of_decide_eq_true c2;exact Int.ofNat_lt.mp h
    have hc : okK q ((qAC t k.toNat).getD j 0) = true := by rw [← qbH h3];exact c3
    refine ZStop.mk [] [(0,.nst qAB 6 (qDH o out.length o.length) none)] 60 ?_
    have o1 : Ob (0 ≤ (out.length : Int) ∧ (out.length : Int) < o.length) := Ob.mk ⟨by omega,by omega⟩
    have o2 : Ob ((out.length : Int).toNat < o.length) := Ob.mk (by omega)
    have hkl : (qAC t k.toNat).length ≤ 1000 := (qJN hsm k (qDW.2 hk)).2
    have o3 : Ob (out.length < o.length ∧ ((o.getD out.length qAB.dflt).kids.length + 1) * 8 ≤ 70368744177664 ∧ (o.getD out.length qAB.dflt).kids.length + 1 ≤ 70368744177664) := Ob.mk ⟨h5,by omega,by omega⟩
    have hok := qBU hc
    have hu := qBA hok.2.2
    repeat' ((conv => whnf);first|(with_reducible first|rfl|exact qAF|exact qAG)|exact True.intro|intro _|refine WA ?_ ?_|refine WF ?_|refine W1 rfl ?_ ?_|refine W2 rfl ?_ ?_|refine W3 rfl ?_ ?_|refine W4 ?_ ?_|refine W5 rfl ?_ ?_|refine W6 ?_ ?_|refine WN ?_|refine X1 (W1 rfl ?_ ?_)|refine X1 (W2 rfl ?_ ?_)|refine X2 (W7 rfl ?_ ?_)|refine X3 (W7 rfl ?_ ?_)|refine X4 (W7 rfl ?_ ?_)|refine X5 (W7 rfl ?_ ?_))
    all_goals (try (conv => whnf))
    all_goals (first | exact o1 | exact o2 | exact o3 | exact Ob.mk rfl | (refine Ob.mk ?_;rw [List.length_set];first | exact o1.h | exact o2.h) | skip)
    any_goals (refine Rnd.mk (p := qHF _ _ _ _ _) ?_)
    repeat' ((conv => whnf);first|(with_reducible first|rfl|exact qAF|exact qAG)|exact True.intro|intro _|refine WA ?_ ?_|refine WF ?_|refine W1 rfl ?_ ?_|refine W2 rfl ?_ ?_|refine W3 rfl ?_ ?_|refine W4 ?_ ?_|refine W5 rfl ?_ ?_|refine W6 ?_ ?_|refine WN ?_|refine X1 (W1 rfl ?_ ?_)|refine X1 (W2 rfl ?_ ?_)|refine X2 (W7 rfl ?_ ?_)|refine X3 (W7 rfl ?_ ?_)|refine X4 (W7 rfl ?_ ?_)|refine X5 (W7 rfl ?_ ?_))
    all_goals (try (conv => whnf))
    all_goals (try exact congrArg (fun l => Chunk.nst qAB 6 l none) (qPQ o out.length o.length h5))
    ·refine Ob.mk ⟨⟨hsm,h3,⟨hok.1,by have h := hok.2.1;rw [h3] at h;exact (by omega : (qAC t k.toNat).getD j 0 < (t.length : Int))⟩,by rw [qED];change o.length + unseen (q.set ((qAC t k.toNat).getD j 0).toNat true) + 1 ≤ _;omega⟩,by change unseen (q.set ((qAC t k.toNat).getD j 0).toNat true) < N;omega⟩
    ·exact Ob.mk ⟨by omega,by omega⟩
    obtain ⟨e1,e2⟩ := qjG (t := t) (out := o) (p := out.length) hj hc
    rw [e1] at h1;rw [e2] at h2
    obtain ⟨l1,l2,l3,l4⟩ := qMC (t := t) (K := qAC t) (qDH o out.length o.length) q ((qAC t k.toNat).getD j 0).toNat out.length
    rw [qED] at l1 l2 l3
    refine Rnd.mk ⟨(qNV t (qAC t) (qDH o out.length o.length) q ((qAC t k.toNat).getD j 0).toNat out.length,qYX (qAC t) q ((qAC t k.toNat).getD j 0).toNat,j + 1),⟨h1,h2,l4.trans h3,by dsimp only;omega,by dsimp only;omega,?_,by show j + 1 ≤ _;omega,by dsimp only;omega⟩,by show _ - (j + 1) < _;omega,?_⟩
    ·dsimp only
     rw [l3 _ h5,qL2 _ _ _ h5,List.length_append,List.length_singleton]
     exact Nat.succ_le_succ h6
    ·all_goals exact vcA
   ·rename_i c1 c2 c3
    have hj : j < (qAC t k.toNat).length := by have h := of_decide_eq_true c2;exact Int.ofNat_lt.mp h
    have hc : okK q ((qAC t k.toNat).getD j 0) = false := by rw [← qbH h3];exact c3
    obtain ⟨e1,e2⟩ := qcV (t := t) (out := o) (p := out.length) hj hc
    rw [e1] at h1;rw [e2] at h2
    refine Rnd.mk ⟨(o,q,j + 1),⟨h1,h2,h3,h4,h5,Nat.le_succ_of_le h6,by show j + 1 ≤ _;omega,h8⟩,by show _ - (j + 1) < _;omega,?_⟩
    all_goals exact vcA
   all_goals (rename_i c1 c2)
   all_goals (have hj : ¬ j < (qAC t k.toNat).length := by have h := of_decide_eq_false c2;exact fun q => h (Int.ofNat_lt.mpr q))
   all_goals (obtain ⟨e1,e2⟩ := qcN (t := t) (out := o) (p := out.length) (s := q) hj;rw [e1] at h1;rw [e2] at h2)
   ·rw [h1]
   ·rw [h2]
instance hPut14 (t out : List qAH) (s : List Bool) (k up : Int) :
  FnM BN 66 [.agg [.rd qAB t],.int .i64 k,.int .i64 up,.agg [.own 0],.own 1] [(0,.nst qAB 6 out none),(1,.ow .bool s)] (qhS t out s k)
   (.agg [.own 0]) [(0,.nst qAB 6 (qNV t (qAC t) out s k.toNat up) none),(1,.ow .bool (qYX (qAC t) s k.toNat))] :=
 have h := qsI (unseen (s.set k.toNat true) + 1) t out s k up
 ⟨h.call,fun hp => h.ok ⟨hp,Nat.lt_succ_self _⟩⟩
end Go.Vc

namespace Go.Vc
open Go.Proofs
set_option maxRecDepth 10000
set_option maxHeartbeats 4000000
instance hPut0 (t : List qAH) (s : List Bool) (k up : Int) :
  FnM BN 66 [.agg [.rd qAB t],.int .i64 k,.int .i64 up,.agg [.nils],.own 0] [(0,.own .bool s)] (qhS t [] s k)
   (.agg [.own 1]) [(1,.nst qAB 6 (qNV t (qAC t) [] s k.toNat up) none)] := by
  refine FnM.intro (N := 99) [0,1,2,3,4,5,8,10,11,12,13,14,48,75] [(12,[0,7,0,0,7,0,4,4,4,0,7,4,4,4,4,4,4]),(3000012,[454,519,779,840,844,909,974,1039]),(2000000,[0])] 1 Tryz.call66 Tryz.func66 rfl rfl (by kernel_rfl) (fun hpre => ?_)
  obtain ⟨hsm,hsl,hk,hlen⟩ := hpre
  simp only [List.length_nil,Nat.zero_add] at hlen
  repeat' ((conv => whnf);first|(with_reducible first|rfl|exact qAF|exact qAG)|exact True.intro|intro _|refine WA ?_ ?_|refine WF ?_|refine W1 rfl ?_ ?_|refine W2 rfl ?_ ?_|refine W3 rfl ?_ ?_|refine W4 ?_ ?_|refine W5 rfl ?_ ?_|refine W6 ?_ ?_|refine AppN.ns ?_|refine X1 (W1 rfl ?_ ?_)|refine X1 (W2 rfl ?_ ?_)|refine X2 (W7 rfl ?_ ?_)|refine X3 (W7 rfl ?_ ?_)|refine X4 (W7 rfl ?_ ?_)|refine X5 (W7 rfl ?_ ?_))
  all_goals (try (conv => whnf))
  all_goals (try first|exact obA|refine Ob.mk ?_)
  all_goals (try simp only [qWM,qTQ,qXC,qT6,List.length_singleton] at *)
  ·have h64 := (qJN hsm k (qDW.2 hk)).1
   simp only [cast_eq,List.length_nil,Nat.zero_add]
   change ((nd t k).2.2.2.1.length * 32 ≤ _ ∧ (nd t k).2.2.2.1.length ≤ _)
   omega
  refine LoopStop.mk (α := List qAH × List Bool × Nat) (fun a => [(13,.int .i64 a.2.2)]) (fun a => [(6,.nst qAB 6 a.1 none),(0,.ow .bool a.2.1)]) 20
   (fun a => pS t (qAC t) a.1 a.2.1 0 k.toNat a.2.2 = qNV t (qAC t) [] s k.toNat up ∧ sS (qAC t) a.2.1 k.toNat a.2.2 = qYX (qAC t) s k.toNat ∧ a.2.1.length = t.length ∧ a.1.length + unseen a.2.1 ≤ 5000 ∧
    0 < a.1.length ∧ (a.1.getD 0 qAB.dflt).kids.length ≤ a.2.2 ∧ a.2.2 ≤ (qAC t k.toNat).length)
   (fun a => (qAC t k.toNat).length - a.2.2) ([] ++ [mkN (t.getD k.toNat qAB.dflt) up],s.set k.toNat true,0) ⟨rfl,rfl,by simpa using hsl,by simp only [List.length_append,List.length_singleton,List.length_nil];omega,by simp,by simp [mkN,qAH.kids],Nat.zero_le _⟩ ?_ (fun a ha => ?_)
  ·all_goals exact vcA
  ·obtain ⟨o,q,j⟩ := a
   dsimp only at ha ⊢
   obtain ⟨h1,h2,h3,h4,h5,h6,h7⟩ := ha
   repeat' ((conv => whnf);first|(with_reducible first|rfl|exact qAF|exact qAG)|exact True.intro|intro _|refine WA ?_ ?_|refine WF ?_|refine W1 rfl ?_ ?_|refine W2 rfl ?_ ?_|refine W3 rfl ?_ ?_|refine W4 ?_ ?_|refine W5 rfl ?_ ?_|refine W6 ?_ ?_|refine WN ?_|refine X1 (W1 rfl ?_ ?_)|refine X1 (W2 rfl ?_ ?_)|refine X2 (W7 rfl ?_ ?_)|refine X3 (W7 rfl ?_ ?_)|refine X4 (W7 rfl ?_ ?_)|refine X5 (W7 rfl ?_ ?_))
   all_goals (try (conv => whnf))
   all_goals (try first|exact obA|refine Ob.mk ?_)
   all_goals (try simp only [Int.toNat_natCast] at *)
   ·rename_i c1 c2 c3
    have hj : j < (qAC t k.toNat).length := by have h := of_decide_eq_true c2;exact Int.ofNat_lt.mp h
    have hc : okK q ((qAC t k.toNat).getD j 0) = true := by rw [← qbH h3];exact c3
    refine ZStop.mk [] [(6,.nst qAB 6 (qDH o 0 o.length) none)] 60 ?_
    have o1 : Ob (0 ≤ (0 : Int) ∧ (0 : Int) < o.length) := Ob.mk ⟨by omega,by omega⟩
    have o2 : Ob ((0 : Int).toNat < o.length) := Ob.mk (by omega)
    have hkl : (qAC t k.toNat).length ≤ 1000 := (qJN hsm k (qDW.2 hk)).2
    have o3 : Ob (0 < o.length ∧ ((o.getD 0 qAB.dflt).kids.length + 1) * 8 ≤ 70368744177664 ∧ (o.getD 0 qAB.dflt).kids.length + 1 ≤ 70368744177664) := Ob.mk ⟨h5,by omega,by omega⟩
    have hok := qBU hc
    have hu := qBA hok.2.2
    repeat' ((conv => whnf);first|(with_reducible first|rfl|exact qAF|exact qAG)|exact True.intro|intro _|refine WA ?_ ?_|refine WF ?_|refine W1 rfl ?_ ?_|refine W2 rfl ?_ ?_|refine W3 rfl ?_ ?_|refine W4 ?_ ?_|refine W5 rfl ?_ ?_|refine W6 ?_ ?_|refine WN ?_|refine X1 (W1 rfl ?_ ?_)|refine X1 (W2 rfl ?_ ?_)|refine X2 (W7 rfl ?_ ?_)|refine X3 (W7 rfl ?_ ?_)|refine X4 (W7 rfl ?_ ?_)|refine X5 (W7 rfl ?_ ?_))
    all_goals (try (conv => whnf))
    all_goals (first | exact o1 | exact o2 | exact o3 | exact Ob.mk rfl | (refine Ob.mk ?_;rw [List.length_set];first | exact o1.h | exact o2.h) | skip)
    any_goals (refine Rnd.mk (p := qHF _ _ _ _ _) ?_)
    repeat' ((conv => whnf);first|(with_reducible first|rfl|exact qAF|exact qAG)|exact True.intro|intro _|refine WA ?_ ?_|refine WF ?_|refine W1 rfl ?_ ?_|refine W2 rfl ?_ ?_|refine W3 rfl ?_ ?_|refine W4 ?_ ?_|refine W5 rfl ?_ ?_|refine W6 ?_ ?_|refine WN ?_|refine X1 (W1 rfl ?_ ?_)|refine X1 (W2 rfl ?_ ?_)|refine X2 (W7 rfl ?_ ?_)|refine X3 (W7 rfl ?_ ?_)|refine X4 (W7 rfl ?_ ?_)|refine X5 (W7 rfl ?_ ?_))
    all_goals (try (conv => whnf))
    all_goals (try exact congrArg (fun l => Chunk.nst qAB 6 l none) (qPQ o 0 o.length h5))
    ·refine Ob.mk ⟨hsm,h3,⟨hok.1,by have h := hok.2.1;rw [h3] at h;exact (by omega : (qAC t k.toNat).getD j 0 < (t.length : Int))⟩,by rw [qED];change o.length + unseen (q.set ((qAC t k.toNat).getD j 0).toNat true) + 1 ≤ _;omega⟩
    ·exact Ob.mk ⟨by omega,by omega⟩
    obtain ⟨e1,e2⟩ := qjG (t := t) (out := o) (p := 0) hj hc
    rw [e1] at h1;rw [e2] at h2
    obtain ⟨l1,l2,l3,l4⟩ := qMC (t := t) (K := qAC t) (qDH o 0 o.length) q ((qAC t k.toNat).getD j 0).toNat 0
    rw [qED] at l1 l2 l3
    refine Rnd.mk ⟨(qNV t (qAC t) (qDH o 0 o.length) q ((qAC t k.toNat).getD j 0).toNat 0,qYX (qAC t) q ((qAC t k.toNat).getD j 0).toNat,j + 1),⟨h1,h2,l4.trans h3,by dsimp only;omega,by dsimp only;omega,?_,by show j + 1 ≤ _;omega⟩,by show _ - (j + 1) < _;omega,?_⟩
    ·dsimp only
     rw [l3 _ h5,qL2 _ _ _ h5,List.length_append,List.length_singleton]
     exact Nat.succ_le_succ h6
    ·all_goals exact vcA
   ·rename_i c1 c2 c3
    have hj : j < (qAC t k.toNat).length := by have h := of_decide_eq_true c2;exact Int.ofNat_lt.mp h
    have hc : okK q ((qAC t k.toNat).getD j 0) = false := by rw [← qbH h3];exact c3
    obtain ⟨e1,e2⟩ := qcV (t := t) (out := o) (p := 0) hj hc
    rw [e1] at h1;rw [e2] at h2
    refine Rnd.mk ⟨(o,q,j + 1),⟨h1,h2,h3,h4,h5,Nat.le_succ_of_le h6,by show j + 1 ≤ _;omega⟩,by show _ - (j + 1) < _;omega,?_⟩
    all_goals exact vcA
   all_goals (rename_i c1 c2)
   all_goals (have hj : ¬ j < (qAC t k.toNat).length := by have h := of_decide_eq_false c2;exact fun q => h (Int.ofNat_lt.mpr q))
   all_goals (obtain ⟨e1,e2⟩ := qcN (t := t) (out := o) (p := 0) (s := q) hj;rw [e1] at h1;rw [e2] at h2)
   ·rw [h1]
end Go.Vc

namespace Go.Vc
open Go.Proofs
set_option maxRecDepth 10000
set_option maxHeartbeats 4000000
def qEF (t : List qAH) : List qAH := if t = [] then [qYK] else qNV t (qAC t) [] (List.replicate t.length false) 0 (-1)
theorem qI8 (s : List Bool) : unseen s ≤ s.length := List.count_le_length
theorem qYF {t : List qAH} (h : qFH t = true) (h0 : ¬ ((t.length : Int) == 0) = true) : qhS t [] (List.replicate t.length false) 0 := by
 have h1 : 0 < t.length := by
  rcases Nat.eq_zero_or_pos t.length with h | h
  ·exact absurd (by rw [h];rfl) h0
  ·exact h
 have h2 := qQG h
 have h3 := qI8 ((List.replicate t.length false).set 0 true)
 rw [List.length_set,List.length_replicate] at h3
 refine ⟨h,List.length_replicate,⟨Int.le_refl 0,by omega⟩,?_⟩
 show 0 + unseen ((List.replicate t.length false).set 0 true) + 1 ≤ 5000
 omega
theorem qa6 {t : List qAH} (h0 : ((t.length : Int) == 0) = true) : qEF t = [qYK] := by
 have h1 : t.length = 0 := by have := eq_of_beq h0;omega
 unfold qEF;rw [if_pos (List.length_eq_zero_iff.1 h1)]
theorem qeP {t : List qAH} (h0 : ¬ ((t.length : Int) == 0) = true) : qEF t = qNV t (qAC t) [] (List.replicate t.length false) 0 (-1) := by
 unfold qEF;rw [if_neg (fun h => h0 (by rw [h];rfl))]
instance hTidyN (t : List qAH) : FnM BN 65 [.agg [.rd qAB t]] [] (qFH t = true) (.agg [.rd qAB (qEF t)]) [] := by
 refine FnM.intro (N := 15) [0,1,2,6] [(3,[4,4,0,4,4,4,4,4])] 0 Tryz.call65 Tryz.func65 rfl rfl (by kernel_rfl) (fun hpre => ?_)
 repeat' ((conv => whnf);first|(with_reducible first|rfl|exact qAF|exact qAG)|exact True.intro|intro _|refine WA ?_ ?_|refine WF ?_|refine W1 rfl ?_ ?_|refine W2 rfl ?_ ?_|refine W3 rfl ?_ ?_|refine W4 ?_ ?_|refine W5 rfl ?_ ?_|refine W6 ?_ ?_|refine WN ?_|refine X1 (W1 rfl ?_ ?_)|refine X1 (W2 rfl ?_ ?_)|refine X2 (W7 rfl ?_ ?_)|refine X3 (W7 rfl ?_ ?_)|refine X4 (W7 rfl ?_ ?_)|refine X5 (W7 rfl ?_ ?_))
 all_goals (try (conv => whnf))
 all_goals (try first|exact obA|refine Ob.mk ?_)
 ·rw [qa6 ‹_›]
 all_goals (have h0 : ¬ ((t.length : Int) == 0) = true := by rw [show ((t.length : Int) == 0) = false from by assumption];decide)
 all_goals (first | exact qYF hpre h0 | (rw [qeP h0];rfl) | (have := qQG hpre;refine ⟨by omega,by omega,?_,by omega⟩;show (t.length : Int) * ((1 : Nat) : Int) ≤ _;omega))
end Go.Vc

namespace Go.Vc
open Go.Proofs
set_option maxRecDepth 10000
set_option maxHeartbeats 4000000
def qiA (l : List qAH) : List qAH := l.set 0 (0,0,[],[],[], -1,(l.getD 0 qAB.dflt).kids)
def qeX (x : List qAH) (k : Nat) : List qAH := qiA (qNV x (qAC x) [] (List.replicate x.length false) k (-1))
def qU5 (l : List Int) (i : Int) : Option Nat := (List.range l.length).find? fun k => l.getD k 0 == i
def qcG (t : List qAH) (i : Int) : List qAH := match qU5 (qEG (fin t).L) i with | some k => qeX (qEF t) k | none => [qYK]
theorem qZ7 {l : List Int} {i : Int} {k : Nat} (hk : k < l.length) (h : l.getD k 0 = i) (h0 : ∀ j,j < k → l.getD j 0 ≠ i) : qU5 l i = some k := by
 unfold qU5
 rw [List.find?_eq_some_iff_append]
 refine ⟨by rw [h];simp,List.range k,(List.range' (k + 1) (l.length - (k + 1))),?_,fun a ha => ?_⟩
 ·rw [List.range_eq_range',List.range_eq_range',show l.length = k + (1 + (l.length - (k + 1))) by omega, ← List.range'_append_1, ← List.range'_append_1]
  simp
  omega
 ·simpa using h0 a (by simpa using ha)
theorem qL6 {l : List Int} {i : Int} (h0 : ∀ j,j < l.length → l.getD j 0 ≠ i) : qU5 l i = none := by
 unfold qU5
 rw [List.find?_eq_none]
 intro a ha
 simpa using h0 a (by simpa using ha)
def qTE (t : List qAH) : Prop := qFH t = true ∧ t.length ≤ 45 ∧ qFH (qEF t) = true ∧ (fin t).L.length ≤ (qEF t).length ∧ (qEF t).length ≤ 1000
instance hSubN (t : List qAH) (i : Int) : FnM BN 38 [.agg [.rd qAB t],.int .i64 i] [] (qTE t) (.agg [.rd qAB (qcG t i)]) [] := by
 refine FnM.intro (N := 67) [0,1,2,4,5,7,8,9,10,30,39,47] [(10,[0,0,6,0,0,0,6,6,6,6]),(11,[0,1,0,1,1,1,1,1,3,3])] 0 Tryz.call38 Tryz.func38 rfl rfl (by kernel_rfl) (fun hpre => ?_)
 obtain ⟨h1,h2,h3,h4,h5⟩ := hpre
 have d := qaA (qAC t) t.length
 have hlI : (fin t).I.length = t.length := d.lI
 have hll : (qEG (fin t).L).length = (fin t).L.length := by unfold qEG;rw [List.length_map]
 have hL : (fin t).L.length ≤ 45 := by have := qbC d.nod d.lt;have e : (qaR (qAC t) t.length).L = (fin t).L := rfl;rw [e] at this;omega
 have pp : ∀ k : Nat,k < (fin t).L.length → qhS (qEF t) [] (List.replicate (qEF t).length false) (k : Int) := fun k hk => by
  have h := qI8 ((List.replicate (qEF t).length false).set (k : Int).toNat true)
  rw [List.length_set,List.length_replicate] at h
  exact ⟨h3,List.length_replicate,⟨by omega,by omega⟩,by show 0 + _ + 1 ≤ 5000;omega⟩
 have hin : ∀ j,j < (qEG (fin t).L).length → (qEG (fin t).L).getD j 0 = i → 0 ≤ i ∧ i < ((fin t).I.length : Int) ∧ ¬ (fin t).I.getD i.toNat qAI.dflt < 0 := fun j hj e => by
  rw [hll] at hj
  have hm : (fin t).L.getD j 0 ∈ (fin t).L := by rw [List.getD_eq_getElem?_getD,List.getElem?_eq_getElem hj];exact List.getElem_mem _
  have e2 : (qEG (fin t).L).getD j 0 = ((fin t).L.getD j 0 : Nat) := by unfold qEG;simp [List.getD,hj]
  have e3 : i.toNat = (fin t).L.getD j 0 := by omega
  have hlt := d.lt _ hm
  have hr := d.rI _ hm
  have e4 : (fin t).I.getD i.toNat qAI.dflt = (qaR (qAC t) t.length).I.getD ((fin t).L.getD j 0) (-1) := by
   rw [e3]
   show (fin t).I.getD _ _ = (fin t).I.getD _ _
   simp [List.getD,show (fin t).L[j]?.getD 0 < (fin t).I.length by rw [hlI];exact hlt]
  rw [e4,hlI]
  have hlt2 : (fin t).L.getD j 0 < t.length := hlt
  omega
 repeat' ((conv => whnf);first|(with_reducible first|rfl|exact qAF|exact qAG)|exact True.intro|intro _|refine WA ?_ ?_|refine WF ?_|refine W1 rfl ?_ ?_|refine W2 rfl ?_ ?_|refine W3 rfl ?_ ?_|refine W4 ?_ ?_|refine W5 rfl ?_ ?_|refine W6 ?_ ?_|refine WN ?_|refine X1 (W1 rfl ?_ ?_)|refine X1 (W2 rfl ?_ ?_)|refine X2 (W7 rfl ?_ ?_)|refine X3 (W7 rfl ?_ ?_)|refine X4 (W7 rfl ?_ ?_)|refine X5 (W7 rfl ?_ ?_))
 all_goals (try (conv => whnf))
 all_goals (try first|exact obA|refine Ob.mk ?_)
 ·have h := ‹(decide (i < 0) || decide (i ≥ ((fin t).I.length : Int))) = false›
  simp only [Bool.or_eq_false_iff,decide_eq_false_iff_not] at h
  omega
 ·have h := ‹(decide (i < 0) || decide (i ≥ ((fin t).I.length : Int)) || decide ((fin t).I.getD i.toNat qAI.dflt < 0)) = true›
  simp only [Bool.or_eq_true,decide_eq_true_eq] at h
  unfold qcG
  rw [qL6 (fun j hj e => by have := hin j hj e;omega)]
 refine LoopStop.mk (α := Nat) (fun k => [(9,.int .i64 k)]) (fun _ => []) 20 (fun k => k ≤ (qEG (fin t).L).length ∧ ∀ j,j < k → (qEG (fin t).L).getD j 0 ≠ i) (fun k => (qEG (fin t).L).length - k) 0 ⟨Nat.zero_le _,fun j hj => absurd hj (Nat.not_lt_zero _)⟩ ?_ (fun k hk => ?_)
 ·all_goals exact vcA
 ·obtain ⟨hk,ha⟩ := hk
  repeat' ((conv => whnf);first|(with_reducible first|rfl|exact qAF|exact qAG)|exact True.intro|intro _|refine WA ?_ ?_|refine WF ?_|refine W1 rfl ?_ ?_|refine W2 rfl ?_ ?_|refine W3 rfl ?_ ?_|refine W4 ?_ ?_|refine W5 rfl ?_ ?_|refine W6 ?_ ?_|refine WN ?_|refine X1 (W1 rfl ?_ ?_)|refine X1 (W2 rfl ?_ ?_)|refine X2 (W7 rfl ?_ ?_)|refine X3 (W7 rfl ?_ ?_)|refine X4 (W7 rfl ?_ ?_)|refine X5 (W7 rfl ?_ ?_))
  all_goals (try (conv => whnf))
  all_goals (try first|exact obA|refine Ob.mk ?_)
  all_goals (try simp only [Int.toNat_natCast] at *)
  all_goals (try (have hp : k < (qEG (fin t).L).length := by have h := of_decide_eq_true ‹decide ((k : Int) < ((qEG (fin t).L).length : Int)) = true›;omega))
  all_goals (try (exact pp k (by omega)))
  all_goals (try (have hlen := qMC (t := qEF t) (K := qAC (qEF t)) [] (List.replicate (qEF t).length false) k (-1)))
  all_goals (try (have hl1 : 1 ≤ (qNV (qEF t) (qAC (qEF t)) [] (List.replicate (qEF t).length false) k (-1)).length := hlen.1))
  all_goals clear hlen
  all_goals (try (first | omega | (constructor <;> omega)))
  ·unfold qcG
   rw [qZ7 hp (show (qEG (fin t).L).getD k qAI.dflt = i from beq_iff_eq.1 ‹((qEG (fin t).L).getD k qAI.dflt == i) = true›) ha]
   rfl
  ·refine Rnd.mk ⟨k + 1,⟨by omega,fun j hj => ?_⟩,by omega,?_⟩
   ·rcases Nat.lt_or_ge j k with q | q
    ·exact ha j q
    ·have e : j = k := by omega
     rw [e];exact fun (q : (qEG (fin t).L).getD k qAI.dflt = i) => absurd (beq_iff_eq.2 q) (by rw [‹((qEG (fin t).L).getD k qAI.dflt == i) = false›];decide)
   ·all_goals exact vcA
  ·have e : k = (qEG (fin t).L).length := by have h := of_decide_eq_false ‹decide ((k : Int) < ((qEG (fin t).L).length : Int)) = false›;omega
   unfold qcG
   rw [qL6 (fun j hj => ha j (by omega))]
instance hSub14 (t : List qAH) (i : Int) : Fn BB 38 [.agg [.rd qAB t],.int .i64 i] (qTE t) (.agg [.rd qAB (qcG t i)]) :=
 have h := hSubN t i
 ⟨h.call,h.ok⟩
end Go.Vc

namespace Go.Vc
open Go.Proofs
set_option maxRecDepth 10000
instance xAt16 (l : List Int) (w : Int) : Fn BB 238 [.rd qAI l,.int .i64 w] True (.int .i64 (qQD l w)) := by
 refine Fn.intro (N := 19) [0,1,4,5,9,17] [] Tryz.call238 Tryz.func238 rfl rfl (by kernel_rfl) (fun hpre => ?_)
 repeat' ((conv => whnf);first|(with_reducible first|rfl|exact qAF|exact qAG)|exact True.intro|intro _|refine WA ?_ ?_|refine WF ?_|refine W1 rfl ?_ ?_|refine W2 rfl ?_ ?_|refine W3 rfl ?_ ?_|refine W4 ?_ ?_|refine W5 rfl ?_ ?_|refine W6 ?_ ?_|refine WN ?_|refine X1 (W1 rfl ?_ ?_)|refine X1 (W2 rfl ?_ ?_)|refine X2 (W7 rfl ?_ ?_)|refine X3 (W7 rfl ?_ ?_)|refine X4 (W7 rfl ?_ ?_)|refine X5 (W7 rfl ?_ ?_))
 all_goals (try (conv => whnf))
 all_goals (try first|exact obA|refine Ob.mk ?_)
 refine LoopStop.mk (α := Nat) (fun i => [(5,.int .i64 i)]) (fun i => []) 20 (fun i => i ≤ l.length ∧ (l.take i).contains w = false) (fun i => l.length - i) 0 (by simp) ?_ (fun i hi => ?_)
 ·repeat' ((conv => whnf);first|(with_reducible first|rfl|exact qAF|exact qAG)|exact True.intro|intro _|refine WA ?_ ?_|refine WF ?_|refine W1 rfl ?_ ?_|refine W2 rfl ?_ ?_|refine W3 rfl ?_ ?_|refine W4 ?_ ?_|refine W5 rfl ?_ ?_|refine W6 ?_ ?_|refine WN ?_|refine X1 (W1 rfl ?_ ?_)|refine X1 (W2 rfl ?_ ?_)|refine X2 (W7 rfl ?_ ?_)|refine X3 (W7 rfl ?_ ?_)|refine X4 (W7 rfl ?_ ?_)|refine X5 (W7 rfl ?_ ?_))
  all_goals (try (conv => whnf))
  all_goals (try rfl)
 ·obtain ⟨hi,ha⟩ := hi
  repeat' ((conv => whnf);first|(with_reducible first|rfl|exact qAF|exact qAG)|exact True.intro|intro _|refine WA ?_ ?_|refine WF ?_|refine W1 rfl ?_ ?_|refine W2 rfl ?_ ?_|refine W3 rfl ?_ ?_|refine W4 ?_ ?_|refine W5 rfl ?_ ?_|refine W6 ?_ ?_|refine WN ?_|refine X1 (W1 rfl ?_ ?_)|refine X1 (W2 rfl ?_ ?_)|refine X2 (W7 rfl ?_ ?_)|refine X3 (W7 rfl ?_ ?_)|refine X4 (W7 rfl ?_ ?_)|refine X5 (W7 rfl ?_ ?_))
  all_goals (try (conv => whnf))
  all_goals (try first|exact obA|refine Ob.mk ?_)
  all_goals (try simp only [ZA,ZB,ZC,ZD,ZE,ZF,ZG,ZH,ZI,ZJ,ZK,ZL,ZM,ZN,ZO,Int.toNat_natCast,UInt8.ofNat_toNat,cast_eq] at *)
  ·rw [qMU (i := i) (by omega) (by simpa using ha) (by symm;assumption)]
  ·have h : i < l.length := by omega
   refine Rnd.mk ⟨i + 1,?_,?_,?_⟩
   ·refine ⟨by omega,?_⟩
    rw [qHK l i w h,Bool.or_eq_false_iff]
    refine ⟨by simpa using ha,beq_eq_false_iff_ne.2 fun e => ?_⟩
    simp_all
   ·omega
   ·all_goals exact vcA
  ·have : i = l.length := by omega
   subst this
   rw [qHD (by simpa using ha)]
instance xIn19 (l : List Int) (w : Int) : Fn BB 164 [.rd qAI l,.int .i64 w] True (.int .i64 (qQD l w)) := by
 refine Fn.intro (N := 8) [0,1,4] [] Tryz.call164 Tryz.func164 rfl rfl (by kernel_rfl) (fun hpre => ?_)
 all_goals exact vcA
end Go.Vc

namespace Go.Vc
open Go.Proofs
set_option maxRecDepth 10000
set_option maxHeartbeats 8000000
def qiH (l : List qAL) (a : qAL) : List qAL := if l.any (qVR a.1) = true then l else l ++ [a]
instance gGet (l : List qAL) (nm : List UInt8) : FnM BB 152 [.own 0,.str nm] [(0,.ro qAW l)] (l.length ≤ 100000) (.tup [.str (qeR l nm),.bool (l.any (qVR nm))]) [(0,.ro qAW l)] := by
 refine FnM.intro (N := 25) [0,1,4,5,6,10,19] [] 1 Tryz.call152 Tryz.func152 rfl rfl (by kernel_rfl) (fun hpre => ?_)
 repeat' ((conv => whnf);first|(with_reducible first|rfl|exact qAF|exact qAG)|exact True.intro|intro _|refine WA ?_ ?_|refine WF ?_|refine W1 rfl ?_ ?_|refine W2 rfl ?_ ?_|refine W3 rfl ?_ ?_|refine W4 ?_ ?_|refine W5 rfl ?_ ?_|refine W6 ?_ ?_|refine WN ?_|refine X1 (W1 rfl ?_ ?_)|refine X1 (W2 rfl ?_ ?_)|refine X2 (W7 rfl ?_ ?_)|refine X3 (W7 rfl ?_ ?_)|refine X4 (W7 rfl ?_ ?_)|refine X5 (W7 rfl ?_ ?_))
 all_goals (try (conv => whnf))
 all_goals (try first|exact obA|refine Ob.mk ?_)
 refine LoopStop.mk (α := Nat) (fun k => [(6,.int .i64 k)]) (fun _ => []) 20 (fun k => k ≤ l.length ∧ (l.take k).all (fun x => !qVR nm x) = true) (fun k => l.length - k) 0 (by simp) ?_ (fun k hk => ?_)
 ·all_goals exact vcA
 ·obtain ⟨hk,ha⟩ := hk
  repeat' ((conv => whnf);first|(with_reducible first|rfl|exact qAF|exact qAG)|exact True.intro|intro _|refine WA ?_ ?_|refine WF ?_|refine W1 rfl ?_ ?_|refine W2 rfl ?_ ?_|refine W3 rfl ?_ ?_|refine W4 ?_ ?_|refine W5 rfl ?_ ?_|refine W6 ?_ ?_|refine WN ?_|refine X1 (W1 rfl ?_ ?_)|refine X1 (W2 rfl ?_ ?_)|refine X2 (W7 rfl ?_ ?_)|refine X3 (W7 rfl ?_ ?_)|refine X4 (W7 rfl ?_ ?_)|refine X5 (W7 rfl ?_ ?_))
  all_goals (try (conv => whnf))
  all_goals (try first|exact obA|refine Ob.mk ?_)
  all_goals (try simp only [Int.toNat_natCast] at *)
  all_goals (try (have hp : k < l.length := by have h := of_decide_eq_true ‹decide ((k : Int) < (l.length : Int)) = true›;omega))
  all_goals (try (have hh := qd4 (nm := nm) hp ha (show ((l.getD k qAW.dflt).1 == nm) = true from ‹_›)))
  all_goals (try (have hz : k = l.length := by have h := of_decide_eq_false ‹decide ((k : Int) < (l.length : Int)) = false›;omega))
  all_goals (first | omega | (rw [hh.1];done) | (rw [hh.2];done) | (subst hz;rw [List.take_length] at ha;rw [(qP5 ha).1];done) | (subst hz;rw [List.take_length] at ha;rw [(qP5 ha).2];done) | skip)
  have h : ((l.getD k qAW.dflt).1 == nm) = false := ‹_›
  refine Rnd.mk ⟨k + 1,⟨by omega,?_⟩,by omega,?_⟩
  ·rw [qM3 (fun x => !qVR nm x) l k qAW.dflt hp,ha]
   show (true && !((l.getD k qAW.dflt).1 == nm)) = true
   rw [h];rfl
  ·all_goals exact vcA
instance gGetN (nm : List UInt8) : Fn BB 152 [.nils,.str nm] True (.tup [.str [],.bool false]) := by
 refine Fn.intro (N := 25) [0,1,4,5,6,10,19] [] Tryz.call152 Tryz.func152 rfl rfl (by kernel_rfl) (fun hpre => ?_)
 repeat' ((conv => whnf);first|(with_reducible first|rfl|exact qAF|exact qAG)|exact True.intro|intro _|refine WA ?_ ?_|refine WF ?_|refine W1 rfl ?_ ?_|refine W2 rfl ?_ ?_|refine W3 rfl ?_ ?_|refine W4 ?_ ?_|refine W5 rfl ?_ ?_|refine W6 ?_ ?_|refine WN ?_|refine X1 (W1 rfl ?_ ?_)|refine X1 (W2 rfl ?_ ?_)|refine X2 (W7 rfl ?_ ?_)|refine X3 (W7 rfl ?_ ?_)|refine X4 (W7 rfl ?_ ?_)|refine X5 (W7 rfl ?_ ?_))
 all_goals (try (conv => whnf))
 all_goals (try first|exact obA|refine Ob.mk ?_)
 refine LoopStop.mk (α := Unit) (fun k => [(6,.int .i64 0)]) (fun _ => []) 20 (fun k => True) (fun k => 0) () True.intro ?_ (fun k hk => ?_)
 ·all_goals exact vcA
 ·repeat' ((conv => whnf);first|(with_reducible first|rfl|exact qAF|exact qAG)|exact True.intro|intro _|refine WA ?_ ?_|refine WF ?_|refine W1 rfl ?_ ?_|refine W2 rfl ?_ ?_|refine W3 rfl ?_ ?_|refine W4 ?_ ?_|refine W5 rfl ?_ ?_|refine W6 ?_ ?_|refine WN ?_|refine X1 (W1 rfl ?_ ?_)|refine X1 (W2 rfl ?_ ?_)|refine X2 (W7 rfl ?_ ?_)|refine X3 (W7 rfl ?_ ?_)|refine X4 (W7 rfl ?_ ?_)|refine X5 (W7 rfl ?_ ?_))
  all_goals (try (conv => whnf))
  all_goals (try first|exact obA|refine Ob.mk ?_)
  all_goals (first | (exfalso;exact absurd ‹decide ((0 : Int) < 0) = true› (by decide)) | rfl | trace_state)
instance gAdd (l : List qAL) (a b : List UInt8) : FnM BB 228 [.own 0,.agg [.str a,.str b]] [(0,.ro qAW l)] (l.length ≤ 50000) (.own 1) [(0,.ro qAW l),(1,.own qAW (qiH l (a,b)))] := by
 refine FnM.intro (N := 25) [0,1,3,4,5,7,19] [] 1 Tryz.call228 Tryz.func228 rfl rfl (by kernel_rfl) (fun hpre => ?_)
 have e1 : (!l.any (qVR a)) = true → qiH l (a,b) = l ++ [(a,b)] := fun h => by unfold qiH;rw [if_neg (by simpa using h)]
 have e2 : (!l.any (qVR a)) = false → qiH l (a,b) = l := fun h => by unfold qiH;rw [if_pos (by simpa using h)]
 repeat' ((conv => whnf);first|(with_reducible first|rfl|exact qAF|exact qAG)|exact True.intro|intro _|refine WA ?_ ?_|refine WF ?_|refine W1 rfl ?_ ?_|refine W2 rfl ?_ ?_|refine W3 rfl ?_ ?_|refine W4 ?_ ?_|refine W5 rfl ?_ ?_|refine W6 ?_ ?_|refine WN ?_|refine X1 (W1 rfl ?_ ?_)|refine X1 (W2 rfl ?_ ?_)|refine X2 (W7 rfl ?_ ?_)|refine X3 (W7 rfl ?_ ?_)|refine X4 (W7 rfl ?_ ?_)|refine X5 (W7 rfl ?_ ?_))
 all_goals (try (conv => whnf))
 all_goals (try first|exact obA|refine Ob.mk ?_)
 all_goals (first | (rw [e1 ‹_›];rfl) | (rw [e2 ‹_›];rfl) | trace_state)
instance gAddN (a b : List UInt8) : FnM BB 228 [.nils,.agg [.str a,.str b]] [] True (.own 0) [(0,.own qAW [(a,b)])] := by
 refine FnM.intro (N := 25) [0,1,3,4,5,7,19] [] 0 Tryz.call228 Tryz.func228 rfl rfl (by kernel_rfl) (fun hpre => ?_)
 repeat' ((conv => whnf);first|(with_reducible first|rfl|exact qAF|exact qAG)|exact True.intro|intro _|refine WA ?_ ?_|refine WF ?_|refine W1 rfl ?_ ?_|refine W2 rfl ?_ ?_|refine W3 rfl ?_ ?_|refine W4 ?_ ?_|refine W5 rfl ?_ ?_|refine W6 ?_ ?_|refine WN ?_|refine X1 (W1 rfl ?_ ?_)|refine X1 (W2 rfl ?_ ?_)|refine X2 (W7 rfl ?_ ?_)|refine X3 (W7 rfl ?_ ?_)|refine X4 (W7 rfl ?_ ?_)|refine X5 (W7 rfl ?_ ?_))
 all_goals (try (conv => whnf))
 all_goals (try first|exact obA|refine Ob.mk ?_)
 ·rfl
 ·exact absurd ‹(!false) = false› (by decide)
end Go.Vc

namespace Go.Vc
open Go.Proofs
set_option maxRecDepth 10000
set_option maxHeartbeats 4000000
def qY3 (l : List qAH) : Bool := l.all fun n => decide (n.2.2.1.length ≤ 60)
theorem qX1 {l : List qAH} (h : qY3 l = true) : qc7 l := fun i => by
 cases hi : isT l i with
 | false => rw [qQU hi];exact Nat.zero_le _
 | true =>
  rw [qUA hi]
  have h2 := qDW.1 hi
  unfold qY3 at h
  rw [List.all_eq_true] at h
  have hm : nd l i ∈ l := by
   have e : nd l i = l[i.toNat] := by unfold nd;rw [List.getD_eq_getElem?_getD,List.getElem?_eq_getElem (by omega)];rfl
   rw [e];exact List.getElem_mem _
  simpa using h _ hm
instance s56m (t : List qAH) (l : List Int) (nm : List UInt8) : FnM BB 207 [.agg [.rd qAB t],.rd qAI l,.str nm] [] (nm.length ≤ 100000 ∧ l.length ≤ 100000) (.own 0) [(0,.own qAI (l.take (qX7 (fun x => isE t x nm) l l.length)))] := by
 refine FnM.intro (N := 29) [0,1,2,3,6,7,10,25] [] 0 Tryz.call207 Tryz.func207 rfl rfl (by kernel_rfl) (fun hpre => ?_)
 repeat' ((conv => whnf);first|(with_reducible first|rfl|exact qAF|exact qAG)|exact True.intro|intro _|refine WA ?_ ?_|refine WF ?_|refine W1 rfl ?_ ?_|refine W2 rfl ?_ ?_|refine W3 rfl ?_ ?_|refine W4 ?_ ?_|refine W5 rfl ?_ ?_|refine W6 ?_ ?_|refine WN ?_|refine X1 (W1 rfl ?_ ?_)|refine X1 (W2 rfl ?_ ?_)|refine X2 (W7 rfl ?_ ?_)|refine X3 (W7 rfl ?_ ?_)|refine X4 (W7 rfl ?_ ?_)|refine X5 (W7 rfl ?_ ?_))
 all_goals (try (conv => whnf))
 all_goals (try first|exact obA|refine Ob.mk ?_)
 refine LoopStop.mk (α := Nat) (fun n => [(1,.rd qAI (l.take n))]) (fun _ => []) 20 (fun n => n ≤ l.length ∧ qX7 (fun x => isE t x nm) l l.length = qX7 (fun x => isE t x nm) l n) (fun n => n) l.length (by simp) ?_ (fun n hC => ?_)
 ·repeat' ((conv => whnf);first|(with_reducible first|rfl|exact qAF|exact qAG)|exact True.intro|intro _|refine WA ?_ ?_|refine WF ?_|refine W1 rfl ?_ ?_|refine W2 rfl ?_ ?_|refine W3 rfl ?_ ?_|refine W4 ?_ ?_|refine W5 rfl ?_ ?_|refine W6 ?_ ?_|refine WN ?_|refine X1 (W1 rfl ?_ ?_)|refine X1 (W2 rfl ?_ ?_)|refine X2 (W7 rfl ?_ ?_)|refine X3 (W7 rfl ?_ ?_)|refine X4 (W7 rfl ?_ ?_)|refine X5 (W7 rfl ?_ ?_))
  all_goals (try (conv => whnf))
  all_goals (try first|exact obA|refine Ob.mk ?_)
  all_goals (first | rfl | (rw [List.take_of_length_le (Nat.le_refl _)];done))
 ·obtain ⟨hn,hC⟩ := hC
  have e0 := qS0 hn
  have e1 : ((n : Int) - 1).toNat = n - 1 := by omega
  have e2 : 1 < n → (l.take n).getD (n - 1) qAI.dflt = l.getD (n - 1) 0 := fun h => qOW (by omega)
  repeat' ((conv => whnf);first|(with_reducible first|rfl|exact qAF|exact qAG)|exact True.intro|intro _|refine WA ?_ ?_|refine WF ?_|refine W1 rfl ?_ ?_|refine W2 rfl ?_ ?_|refine W3 rfl ?_ ?_|refine W4 ?_ ?_|refine W5 rfl ?_ ?_|refine W6 ?_ ?_|refine WN ?_|refine X1 (W1 rfl ?_ ?_)|refine X1 (W2 rfl ?_ ?_)|refine X2 (W7 rfl ?_ ?_)|refine X3 (W7 rfl ?_ ?_)|refine X4 (W7 rfl ?_ ?_)|refine X5 (W7 rfl ?_ ?_))
  all_goals (try (conv => whnf))
  all_goals (try rw [e0] at *)
  all_goals (try rw [e1] at *)
  all_goals (try rw [qO3] at *)
  all_goals (try first|exact obA|refine Ob.mk ?_)
  ·rename_i h
   have h1 : 1 < n := by have := of_decide_eq_true ‹decide ((n : Int) > 1) = true›;omega
   rw [e2 h1] at h
   rw [hC.trans (qZ5 h1 h)];rfl
  ·rename_i h
   have h1 : 1 < n := by have := of_decide_eq_true ‹decide ((n : Int) > 1) = true›;omega
   rw [e2 h1] at h
   refine Rnd.mk ⟨n - 1,⟨by omega,hC.trans (qeY h1 h)⟩,by omega,?_,?_,?_⟩
   all_goals exact vcA
  ·have h1 : ¬ 1 < n := by have := of_decide_eq_false ‹decide ((n : Int) > 1) = false›;omega
   rw [hC.trans (qaX h1)];rfl
instance s58m (t : List qAH) (l : List Int) (nm : List UInt8) : FnM BB 248 [.agg [.rd qAB t],.rd qAI l,.str nm] [] (qc7 t ∧ nm.length ≤ 100000 ∧ l.length ≤ 100000) (.own 0) [(0,.own qAI (l.take (qV0 (qOB t nm) l l.length)))] := by
 refine FnM.intro (N := 44) [0,1,2,3,6,7,10,35] [(2,[0,0,0,0,0,0,0,6,6,6])] 0 Tryz.call248 Tryz.func248 rfl rfl (by kernel_rfl) (fun hpre => ?_)
 repeat' ((conv => whnf);first|(with_reducible first|rfl|exact qAF|exact qAG)|exact True.intro|intro _|refine WA ?_ ?_|refine WF ?_|refine W1 rfl ?_ ?_|refine W2 rfl ?_ ?_|refine W3 rfl ?_ ?_|refine W4 ?_ ?_|refine W5 rfl ?_ ?_|refine W6 ?_ ?_|refine WN ?_|refine X1 (W1 rfl ?_ ?_)|refine X1 (W2 rfl ?_ ?_)|refine X2 (W7 rfl ?_ ?_)|refine X3 (W7 rfl ?_ ?_)|refine X4 (W7 rfl ?_ ?_)|refine X5 (W7 rfl ?_ ?_))
 all_goals (try (conv => whnf))
 all_goals (try first|exact obA|refine Ob.mk ?_)
 refine LoopStop.mk (α := Nat) (fun n => [(1,.rd qAI (l.take n))]) (fun _ => []) 20 (fun n => n ≤ l.length ∧ qV0 (qOB t nm) l l.length = qV0 (qOB t nm) l n) (fun n => n) l.length (by simp) ?_ (fun n hC => ?_)
 ·repeat' ((conv => whnf);first|(with_reducible first|rfl|exact qAF|exact qAG)|exact True.intro|intro _|refine WA ?_ ?_|refine WF ?_|refine W1 rfl ?_ ?_|refine W2 rfl ?_ ?_|refine W3 rfl ?_ ?_|refine W4 ?_ ?_|refine W5 rfl ?_ ?_|refine W6 ?_ ?_|refine WN ?_|refine X1 (W1 rfl ?_ ?_)|refine X1 (W2 rfl ?_ ?_)|refine X2 (W7 rfl ?_ ?_)|refine X3 (W7 rfl ?_ ?_)|refine X4 (W7 rfl ?_ ?_)|refine X5 (W7 rfl ?_ ?_))
  all_goals (try (conv => whnf))
  all_goals (try first|exact obA|refine Ob.mk ?_)
  all_goals (first | rfl | (rw [List.take_of_length_le (Nat.le_refl _)];done))
 ·obtain ⟨hn,hC⟩ := hC
  have e0 := qS0 hn
  have e1 : ((n : Int) - 1).toNat = n - 1 := by omega
  have e2 : 1 < n → (l.take n).getD (n - 1) qAI.dflt = l.getD (n - 1) 0 := fun h => qOW (by omega)
  have e3 := hpre.1 ((l.take n).getD (n - 1) qAI.dflt)
  repeat' ((conv => whnf);first|(with_reducible first|rfl|exact qAF|exact qAG)|exact True.intro|intro _|refine WA ?_ ?_|refine WF ?_|refine W1 rfl ?_ ?_|refine W2 rfl ?_ ?_|refine W3 rfl ?_ ?_|refine W4 ?_ ?_|refine W5 rfl ?_ ?_|refine W6 ?_ ?_|refine WN ?_|refine X1 (W1 rfl ?_ ?_)|refine X1 (W2 rfl ?_ ?_)|refine X2 (W7 rfl ?_ ?_)|refine X3 (W7 rfl ?_ ?_)|refine X4 (W7 rfl ?_ ?_)|refine X5 (W7 rfl ?_ ?_))
  all_goals (try (conv => whnf))
  all_goals (try rw [e0] at *)
  all_goals (try rw [e1] at *)
  all_goals (try rw [qO3] at *)
  all_goals (try first|exact obA|refine Ob.mk ?_)
  ·rename_i h1 h
   have h1 : 1 < n := by have := of_decide_eq_true h1;omega
   have h : (!qOB t nm ((l.take n).getD (n - 1) qAI.dflt)) = true := by rw [qOL];exact h
   rw [e2 h1] at h
   rw [hC.trans (qX8 h1 (by simpa using h))];rfl
  ·rename_i h1 h hz
   have h1 : 1 < n := by have := of_decide_eq_true h1;omega
   have h : (!qOB t nm ((l.take n).getD (n - 1) qAI.dflt)) = false := by rw [qOL];exact h
   rw [e2 h1] at h
   refine Rnd.mk ⟨n - 1,⟨by omega,hC.trans (qe2 h1 (by simpa using h))⟩,by omega,?_,?_,?_⟩
   all_goals exact vcA
  ·rename_i h1
   have h1 : ¬ 1 < n := by have := of_decide_eq_false h1;omega
   rw [hC.trans (qaO h1)];rfl
instance (priority := 3000) qAImplied (t : List qAH) (op : List Int) (nm : List UInt8) (md bk lx fm hd : Int) (fo sk : Bool) (ins : List UInt8) :
  FnM BB 182 [.loc 0 0,.str nm] [(0,.box [.own 1,.own 2,.nils,.int .i64 md,.int .i64 bk,.int .i64 lx,.int .i64 fm,.int .i64 hd,.bool fo,.bool sk,.str ins]),(1,.own qAB t),(2,.own qAI (op))] (qY3 t = true ∧ nm.length ≤ 100000 ∧ op.length ≤ 100000)
   (.tup []) [(0,.box [.own 1,.own 2,.nils,.int .i64 md,.int .i64 bk,.int .i64 lx,.int .i64 fm,.int .i64 hd,.bool fo,.bool sk,.str ins]),(1,.own qAB t),(2,.own qAI (op.take (qV0 (qOB t nm) op op.length)))] := by
 refine FnM.intro (N := 17) [0,1] [(0,[0,0,0,0,1,0,0,0,1,0,3,0,0,3])] 3 Tryz.call182 Tryz.func182 rfl rfl (by kernel_rfl) (fun hpre => ?_)
 obtain ⟨h1,h2,h3⟩ := hpre
 have h1 := qX1 h1
 repeat' ((conv => whnf);first|(with_reducible first|rfl|exact qAF|exact qAG)|exact True.intro|intro _|refine WA ?_ ?_|refine WF ?_|refine W1 rfl ?_ ?_|refine W2 rfl ?_ ?_|refine W3 rfl ?_ ?_|refine W4 ?_ ?_|refine W5 rfl ?_ ?_|refine W6 ?_ ?_|refine WN ?_|refine X1 (W1 rfl ?_ ?_)|refine X1 (W2 rfl ?_ ?_)|refine X2 (W7 rfl ?_ ?_)|refine X3 (W7 rfl ?_ ?_)|refine X4 (W7 rfl ?_ ?_)|refine X5 (W7 rfl ?_ ?_))
 all_goals (try (conv => whnf))
 all_goals (try first|exact obA|refine Ob.mk ?_)
 all_goals (first | exact ⟨h1,h2,h3⟩ | exact ⟨h2,h3⟩ | rfl | trace_state)
end Go.Vc

namespace Go.Vc
open Go.Proofs
set_option maxRecDepth 100000
set_option maxHeartbeats 40000000
noncomputable abbrev BA : Base := { BB with al := true }
instance (priority := 100) fnA {f : FuncId} {args : List SV} {pre : Prop} {res : SV} [h : Fn BB f args pre res] : Fn BA f args pre res := ⟨h.call,h.ok⟩
instance (priority := 100) fnmA {f : FuncId} {args : List SV} {Φ : Phi} {pre : Prop} {res : SV} {Φ' : Phi} [h : FnM BB f args Φ pre res Φ'] : FnM BA f args Φ pre res Φ' := ⟨h.call,h.ok⟩
@[simp] theorem qt9 (t : TypeId) : qAA BA.P t = qAA BB.P t := rfl
noncomputable section
open Tryz
@[reducible] def iM {f : FuncId} {fn : Func} {c : Code} (N : Nat) (L : List Nat) (pl : List (Nat × List Nat)) (call : ∀ (vs : Array Value) (w : World),(callFunc f vs).run BA.P w = .ok (.enter f vs) w) (hf : BA.P.funcs[f]? = some fn) (hb : fn.body = some c) (hN : fn.ntmps = N) (hok : codeOk N pl c = true := by kernel_rfl) : Inl BA f := Inl.make (N := N) L pl call hf hb hN hok
instance : Inl BA 9 := iM 90 [0,1,2,3,4,5,6,7,8,9,15,30,51] [(6,[0,0,0,0,0,0,0,0,6,6]),(10,[1,0,1,0,1,1,1,1,0,1,0,1,1,1,3,3]),(14,[0,0,0,1,1,0,1,0,1,1,1,0,0,0,1,1,1,0,0,1,1,0,1,0,1,1,1,0,0,1,1,1,3,3,3,3])] call9 func9 rfl rfl
instance : Inl BA 12 := iM 32 [0,1,2,3,4,5,12,17,31] [(6,[0,1,0,1,1,0,1,0,1,1,3,3])] call12 func12 rfl rfl
instance : Inl BA 15 := iM 28 [0,1,4,5,7] [(5,[0,0,0,1,0,0,0,0,1,1,1,1,1,1,3,3])] call15 func15 rfl rfl
instance : Inl BA 19 := iM 35 [0,1,4,5,6,12,16,32] [] call19 func19 rfl rfl
instance : Inl BA 20 := iM 48 [0,1,2,4,13,31,41,47] [] call20 func20 rfl rfl
instance : Inl BA 21 := iM 67 [0,1,2,3,4,8,9,28,30,35,65] [] call21 func21 rfl rfl
instance : Inl BA 26 := iM 71 [0,1,2,3,4,5,47,52,65] [(6,[0,1,0,1,1,0,1,0,1,1,3])] call26 func26 rfl rfl
instance : Inl BA 36 := iM 34 [0,2,3,4,10] [] call36 func36 rfl rfl
instance : Inl BA 37 := iM 46 [0,1,4,5,6,7,35,42,44,45] [] call37 func37 rfl rfl
instance : Inl BA 44 := iM 13 [0,2,3,10] [] call44 func44 rfl rfl
instance : Inl BA 45 := iM 58 [0,1,2,4,5,6,7,12,16,24,42] [(9,[0,1,1,1,1,1,1,1,1,1,3,3,3])] call45 func45 rfl rfl
instance : Inl BA 46 := iM 19 [0,1,2,4] [] call46 func46 rfl rfl
instance : Inl BA 48 := iM 8 [0,1,2,4] [] call48 func48 rfl rfl
instance : Inl BA 49 := iM 15 [0,1,2,4,5,10] [] call49 func49 rfl rfl
instance : Inl BA 50 := iM 8 [0,1,2,4] [] call50 func50 rfl rfl
instance : Inl BA 57 := iM 4 [0] [] call57 func57 rfl rfl
instance : Inl BA 58 := iM 28 [0,1,3,4] [(3,[0,0,0,0,1,1,1,3,0,0,3]),(5000003,[3])] call58 func58 rfl rfl
instance : Inl BA 59 := iM 69 [0,1,2,3,8,34] [(3,[0,0,0,1,0,0,0,0,1,1,1,0,1,3,3,3])] call59 func59 rfl rfl
instance : Inl BA 60 := iM 63 [0,2,3,4,5,16,42,50,58] [(4,[0,0,0,0,0,0,0,0,0,0,0,0,0,0,6,6])] call60 func60 rfl rfl
instance : Inl BA 62 := iM 43 [0,1,4,5,10] [(3,[0,0,0,0,1,0,0,0,1,1,3,3,3,3]),(4,[0,0,0,0,7,0,0,0,0,4,4,4,4,4,4,4,4,4,4,4]),(3000004,[649,714,779,844,909,974,1039,1104,1169,1234])] call62 func62 rfl rfl
instance : Inl BA 63 := iM 57 [0,1,4,15,20,35,50] [] call63 func63 rfl rfl
instance : Inl BA 74 := iM 65 [0,1,2,3,4,8,9,10,11,21,60] [(5,[0,0,0,0,0,0,0,0,6,6]),(6,[0,1,1,1,1,1,1,1,1,1,1,1,1,1,1,1,1,1,1,1,1,1,1,1,1,1,1,3,3])] call74 func74 rfl rfl
instance : Inl BA 80 := iM 77 [0,1,4,5,6,7,14,33,38,69] [] call80 func80 rfl rfl
instance : Inl BA 82 := iM 71 [0,1,2,3,8,9,10,11,17,25,40,42,52,58,67,69,70] [] call82 func82 rfl rfl
instance : Inl BA 84 := iM 93 [0,1,2,3,8,9,10,11,12,14,16,18,27,39,49,57,71] [] call84 func84 rfl rfl
instance : Inl BA 85 := iM 38 [0,2,3,16,28] [] call85 func85 rfl rfl
instance : Inl BA 86 := iM 77 [0,1,3,4,5,23,45,63] [] call86 func86 rfl rfl
instance : Inl BA 87 := iM 132 [0,1,4,5,6,11,22,40,44,50,73,94,115] [(11,[0,0,0,0,1,0,0,0,1,1,1,1,1,3]),(13,[0,1,0,0,0,1,0,0,0,1,1,1,1,3,0,0,3]),(20,[0,1,0,0,0,1,0,0,0,1,1,1,1,3,0,0,3])] call87 func87 rfl rfl
instance : Inl BA 88 := iM 92 [0,1,4,9,22,33,41,46,72,77,85] [] call88 func88 rfl rfl
instance : Inl BA 89 := iM 55 [0,1,4,9,17,25,33,41] [] call89 func89 rfl rfl
instance : Inl BA 90 := iM 109 [0,1,4,16,42,56,65,76,87,95] [] call90 func90 rfl rfl
instance : Inl BA 91 := iM 70 [0,1,4,9,17,25,33,41,49] [] call91 func91 rfl rfl
instance : Inl BA 101 := iM 30 [0,1,2,3,6,7,17] [] call101 func101 rfl rfl
instance : Inl BA 107 := iM 23 [0,1,4,5,8,22] [(4,[0,0,0,1,0,0,0,1,0,1,1,3])] call107 func107 rfl rfl
instance : Inl BA 108 := iM 72 [0,1,2,6,7,8,9,10,15,25,42,57] [] call108 func108 rfl rfl
instance : Inl BA 109 := iM 27 [0,1,4,5,6,7,8,9,17] [] call109 func109 rfl rfl
instance : Inl BA 110 := iM 39 [0,1,4,5,6,7,8,12,22] [] call110 func110 rfl rfl
instance : Inl BA 111 := iM 16 [0,1,2] [] call111 func111 rfl rfl
instance : Inl BA 112 := iM 48 [0,1,2,3,4,17] [] call112 func112 rfl rfl
instance : Inl BA 113 := iM 73 [0,1,4,5,6,22,24,47] [(6,[0,0,0,0,0,0,0,0,0,3,3,3])] call113 func113 rfl rfl
instance : Inl BA 114 := iM 51 [0,1,2,6,18] [(4,[0,0,0,0,0,0,0,0,0,3,3,3])] call114 func114 rfl rfl
instance : Inl BA 115 := iM 51 [0,1,2,4,6,8,11,22] [] call115 func115 rfl rfl
instance : Inl BA 116 := iM 64 [0,1,4,5,6,14,35,63] [(4,[0,0,0,0,1,0,0,0,1,0,1,1,1,1,1,3]),(8,[0,0,0,0,1,0,0,0,1,0,0,1,1,3,3,3,3])] call116 func116 rfl rfl
instance : Inl BA 117 := iM 50 [0,1,2,4,6,7,8,9] [(2,[0,0,0,0,0,1,0,1,3,3,3])] call117 func117 rfl rfl
instance : Inl BA 118 := iM 43 [0,1,2,4,5,6,7,9,17,26] [] call118 func118 rfl rfl
instance : Inl BA 119 := iM 100 [0,2,3,4,32,55,64] [(2,[0,0,0,1,1,1,1,1,1,1,1,1,1,1,1,1,1,1,3,3,3]),(3,[0,0,0,1,1,1,1,1,1,1,1,1,1,1,1,1,1,1,1,1,3,3,3]),(7,[0,0,0,0,0,1,0,0,0,1,0,1,1,3,3,3,3,3]),(8,[0,0,0,0,1,0,0,0,1,0,1,1,0,3,0,0,3])] call119 func119 rfl rfl
instance : Inl BA 120 := iM 124 [0,1,4,5,14,20,23,38,43,47,50,57,67,73,78,81,86,89,99] [(32,[0,1,0,0,0,1,0,0,0,1,1,1,1,3,0,0,3])] call120 func120 rfl rfl
instance : Inl BA 121 := iM 73 [0,1,4,17,55] [(2,[0,0,0,0,1,1,1,0,0,0,1,3]),(3,[0,0,0,1,1,1,1,1,1,1,1,1,1,1,1,1,1,1,1,1,1,1,1,1,3,3]),(4,[0,0,0,0,1,1,1,0,0,0,1,3])] call121 func121 rfl rfl
instance : Inl BA 122 := iM 26 [0,1,4,9,14,22] [] call122 func122 rfl rfl
instance : Inl BA 123 := iM 78 [0,1,4,5,6,7,25,34,41,50,54,63,68,74] [] call123 func123 rfl rfl
instance : Inl BA 124 := iM 31 [0,1,4,10,15,27] [] call124 func124 rfl rfl
instance : Inl BA 125 := iM 34 [0,1,4,10,12,24] [] call125 func125 rfl rfl
instance : Inl BA 126 := iM 84 [0,1,4,5,6,11,19,48,76] [(6,[0,0,0,0,1,0,0,0,1,0,1,1,1,1,1,3]),(7,[0,0,0,1,0,0,0,1,0,1,1,0,3]),(10,[0,1,0,1,1,1,1,1,1,1,1,1,1,1,1,1,1,3,3,3])] call126 func126 rfl rfl
instance : Inl BA 128 := iM 77 [0,1,4,5,23,54] [(0,[0,0,0,1,0,0,0,1,3,3]),(10,[0,0,0,0,1,0,0,0,1,0,3,0,0,3])] call128 func128 rfl rfl
instance : Inl BA 129 := iM 122 [0,1,4,5,15,29,37,39,53,57,65,69,82,115] [] call129 func129 rfl rfl
instance : Inl BA 130 := iM 90 [0,1,4,20,29,34,40,45,49,55,57,62,71,76] [] call130 func130 rfl rfl
instance : Inl BA 131 := iM 40 [0,1,4,11,14,36] [] call131 func131 rfl rfl
instance : Inl BA 132 := iM 68 [0,1,4,5,6,11,24,31,40,45,59] [] call132 func132 rfl rfl
instance : Inl BA 133 := iM 55 [0,1,4,5,7,18,28,44,51] [] call133 func133 rfl rfl
instance : Inl BA 134 := iM 45 [0,1,4,6,17,25,29,41] [] call134 func134 rfl rfl
instance : Inl BA 135 := iM 47 [0,1,4,5,7,13,26,35,39,43] [] call135 func135 rfl rfl
instance : Inl BA 136 := iM 18 [0,1,2,6] [(1,[0,0,0,1,0,0,0,1,0,0,3,3])] call136 func136 rfl rfl
instance : Inl BA 138 := iM 63 [0,1,4,9,24,31,43,50] [] call138 func138 rfl rfl
instance : Inl BA 139 := iM 54 [0,1,4,9,35,44,51] [(2,[0,1,1,1,1,1,1,1,1,1,1,1,1,1,1,1,1,1,1,3,3])] call139 func139 rfl rfl
instance : Inl BA 140 := iM 53 [0,1,4,6,7,13,18,32] [(9,[0,0,0,0,0,0,3,3,3,3]),(10,[0,0,0,0,0,0,0,3,3,0,3])] call140 func140 rfl rfl
instance : Inl BA 141 := iM 57 [0,1,4,6,23,28,49] [] call141 func141 rfl rfl
instance : Inl BA 142 := iM 55 [0,1,4,6,7,8,18,25,41] [] call142 func142 rfl rfl
instance : Inl BA 143 := iM 64 [0,1,4,5,6,7,8,35,42,46] [] call143 func143 rfl rfl
instance : Inl BA 144 := iM 109 [0,1,4,5,6,7,8,35,42,56,101] [(8,[0,0,0,1,1,1,1,1,1,1,1,3,3]),(9,[0,1,0,0,0,1,1,0,0,0,1,1,3,0,0,3]),(11,[0,0,0,0,1,0,0,0,1,3,0,0,3])] call144 func144 rfl rfl
instance : Inl BA 145 := iM 45 [0,1,4,9,27] [] call145 func145 rfl rfl
instance : Inl BA 146 := iM 117 [0,1,4,5,6,7,19,36,54,66,74,81,86,105,110] [(2,[0,0,0,0,1,0,0,0,1,1,1,3])] call146 func146 rfl rfl
instance : Inl BA 155 := iM 37 [0,1,2,6,7,9,11,20,26,33] [] call155 func155 rfl rfl
instance : Inl BA 156 := iM 151 [0,2,3,4,5,6,7,8,9,10,19,36,61,76,103,117,122,130,141] [] call156 func156 rfl rfl
instance : Inl BA 157 := iM 92 [0,1,4,5,6,7,9,28,38,42,57,64,71,85] [] call157 func157 rfl rfl
instance : Inl BA 158 := iM 77 [0,1,4,5,6,7,8,15,23,33,45,73] [] call158 func158 rfl rfl
instance : Inl BA 159 := iM 10 [0,1,4] [] call159 func159 rfl rfl
instance : Inl BA 160 := iM 126 [0,1,4,5,6,7,8,20,31,69,114] [(2,[0,0,0,1,0,0,0,1,3,3]),(4,[0,0,0,1,1,1,0,0,0,0,1,0,0,0,1,1,1,1,1,1,1,1,3]),(5,[0,0,0,0,1,0,0,0,1,0,1,1,3,3,3,3]),(7,[0,0,0,0,1,0,0,0,1,0,1,1,3,0,3]),(9,[0,0,0,0,0,3,0,3,3,3,3,0,3]),(12,[0,0,0,0,0,3,0,3,3,3,3,0,3])] call160 func160 rfl rfl
instance : Inl BA 162 := iM 33 [0,2,3,4,10,24] [] call162 func162 rfl rfl
instance : Inl BA 163 := iM 24 [0,1,4,5,9,18] [] call163 func163 rfl rfl
instance : Inl BA 165 := iM 8 [0,1,2] [] call165 func165 rfl rfl
instance : Inl BA 166 := iM 29 [0,1,2,6,7,8,15,23] [] call166 func166 rfl rfl
instance : Inl BA 168 := iM 20 [0,1,2,3,8,13] [] call168 func168 rfl rfl
instance : Inl BA 169 := iM 28 [0,2,16] [] call169 func169 rfl rfl
instance : Inl BA 170 := iM 6 [0] [] call170 func170 rfl rfl
instance : Inl BA 172 := iM 1 [0] [] call172 func172 rfl rfl
instance : Inl BA 173 := iM 206 [0,1,4,5,6,7,8,9,10,11,12,13,14,15,16,33,38,52,60,73,78,166] [(8,[0,0,0,1,0,0,0,1,0,3,3]),(22,[0,0,0,1,0,1,1,0,0,0,1,0,0,1,1,1,1,3]),(34,[0,0,0,0,1,0,0,0,1,0,1,1,0,3,0,0,3]),(5000019,[2000])] call173 func173 rfl rfl
instance : Inl BA 174 := iM 72 [0,1,4,5,6,14,30,41,71] [(9,[0,0,0,0,1,0,1,1,1,0,0,0,0,1,0,1,1,1,3])] call174 func174 rfl rfl
instance : Inl BA 175 := iM 11 [0,2] [] call175 func175 rfl rfl
instance : Inl BA 176 := iM 35 [0,1,2,6,10] [(3,[0,0,0,0,1,0,0,0,0,0,1,0,1,1,1,0,0,1,1,1,3,3,3])] call176 func176 rfl rfl
instance : Inl BA 177 := iM 11 [0,1] [] call177 func177 rfl rfl
instance : Inl BA 178 := iM 27 [0,1] [] call178 func178 rfl rfl
instance : Inl BA 179 := iM 6 [0,3] [] call179 func179 rfl rfl
instance : Inl BA 180 := iM 16 [0,1,4] [(1,[0,0,0,1,0,0,0,1,1,0,3,3])] call180 func180 rfl rfl
instance : Inl BA 185 := iM 64 [0,1,2,3,6,7,14,59] [(4,[1,0,0,1,1,1,1,1,1,1,1,1,1,1,1,1,1,1,1,1,1,1,1,1,1,1,1,1,1,1,1,1,1,1,1,1,1,1,1,1,1,3,3])] call185 func185 rfl rfl
instance : Inl BA 186 := iM 27 [0,1,4,5,6,10,18] [] call186 func186 rfl rfl
instance : Inl BA 187 := iM 31 [0,1,4,5,6,10,22] [] call187 func187 rfl rfl
instance : Inl BA 188 := iM 55 [0,1,2,3,6,7,8,9,10,11,18,27,34,43] [(5,[1,0,0,1,1,0,3])] call188 func188 rfl rfl
instance : Inl BA 189 := iM 12 [0,1,4] [] call189 func189 rfl rfl
instance : Inl BA 190 := iM 15 [0,2,3,7,14] [] call190 func190 rfl rfl
instance : Inl BA 191 := iM 28 [0,1,4,9] [] call191 func191 rfl rfl
instance : Inl BA 192 := iM 18 [0,1,4] [] call192 func192 rfl rfl
instance : Inl BA 193 := iM 1 [0] [] call193 func193 rfl rfl
instance : Inl BA 194 := iM 50 [0,1,4,11,23,33,41] [] call194 func194 rfl rfl
instance : Inl BA 195 := iM 10 [0,2,5] [] call195 func195 rfl rfl
instance : Inl BA 196 := iM 18 [0,1,4] [] call196 func196 rfl rfl
instance : Inl BA 197 := iM 22 [0,2,3,4] [] call197 func197 rfl rfl
instance : Inl BA 198 := iM 18 [0] [(0,[0,1,0,0,0,1,0,0,0,1,1,1,1,3,0,0,3])] call198 func198 rfl rfl
instance : Inl BA 199 := iM 16 [0,1,4,5] [] call199 func199 rfl rfl
instance : Inl BA 200 := iM 23 [0,2,3,4,14] [(4,[0,0,0,0,0,0,0,0])] call200 func200 rfl rfl
instance : Inl BA 202 := iM 13 [0,1,2,4] [] call202 func202 rfl rfl
instance : Inl BA 203 := iM 22 [0,1,2,3,8,12] [] call203 func203 rfl rfl
instance : Inl BA 204 := iM 13 [0] [] call204 func204 rfl rfl
instance : Inl BA 205 := iM 20 [0,1] [] call205 func205 rfl rfl
instance : Inl BA 208 := iM 31 [0,1,14] [(1,[0,1,0,0,0,1,0,0,0,1,1,1,1,3,0,0,3])] call208 func208 rfl rfl
instance : Inl BA 209 := iM 10 [0,2,5] [] call209 func209 rfl rfl
instance : Inl BA 210 := iM 26 [0,2,3,4,5,10] [] call210 func210 rfl rfl
instance : Inl BA 211 := iM 19 [0,1,4] [] call211 func211 rfl rfl
instance : Inl BA 212 := iM 9 [0,1,4] [] call212 func212 rfl rfl
instance : Inl BA 213 := iM 44 [0,1,4,5,10,28] [] call213 func213 rfl rfl
instance : Inl BA 214 := iM 24 [0,7] [(1,[0,1,0,0,0,1,0,0,0,1,1,1,1,3,0,0,3])] call214 func214 rfl rfl
instance : Inl BA 215 := iM 1 [0] [] call215 func215 rfl rfl
instance : Inl BA 223 := iM 53 [0,1,4,5,6,7,11,21,28,36,42,48] [] call223 func223 rfl rfl
instance : Inl BA 224 := iM 51 [0,1,4,5,34] [] call224 func224 rfl rfl
instance : Inl BA 225 := iM 17 [0,2] [] call225 func225 rfl rfl
instance : Inl BA 226 := iM 18 [0,1,4,14] [] call226 func226 rfl rfl
instance : Inl BA 227 := iM 82 [0,1,4,5,6,7,8,9,10,11,42,63] [] call227 func227 rfl rfl
instance : Inl BA 229 := iM 18 [0,1,4] [] call229 func229 rfl rfl
instance : Inl BA 230 := iM 51 [0,2,3,4,5,6,7,10,13,28,44] [] call230 func230 rfl rfl
instance : Inl BA 231 := iM 46 [0,2,3,4,5,6,7,20,33] [] call231 func231 rfl rfl
instance : Inl BA 232 := iM 30 [0,1,2,6,7,15,26] [] call232 func232 rfl rfl
instance : Inl BA 233 := iM 21 [0,1,4,5,6,7] [] call233 func233 rfl rfl
instance : Inl BA 234 := iM 64 [0,2,3,4,5,6,7,8,21,26,37,48,58] [] call234 func234 rfl rfl
instance : Inl BA 235 := iM 44 [0,2,3,4,5,6,7,15,38] [] call235 func235 rfl rfl
instance : Inl BA 236 := iM 13 [0,2] [] call236 func236 rfl rfl
instance : Inl BA 239 := iM 45 [0,1,4,5,6,14,25,44] [(6,[0,0,0,0,1,0,0,0,1,0,1,1,1,1,1,3])] call239 func239 rfl rfl
instance : Inl BA 240 := iM 37 [0,1,4,5,6,15,36] [(4,[0,0,0,0,1,0,0,0,1,0,1,1,1,1,1,3])] call240 func240 rfl rfl
instance : Inl BA 241 := iM 38 [0,1,4,5,6,15,36] [(4,[0,0,0,0,1,0,0,0,1,0,1,1,1,1,1,3])] call241 func241 rfl rfl
instance : Inl BA 242 := iM 119 [0,1,2,3,8,9,10,11,12,13,14,15,36,50,62,71,106] [] call242 func242 rfl rfl
instance : Inl BA 243 := iM 25 [0,1,4,5] [(2,[0,0,0,0,1,0,1,0,1,3,3,3])] call243 func243 rfl rfl
instance : Inl BA 244 := iM 89 [0,1,2,6,7,29,41,51] [(5,[0,0,1,0,0,1,1,3]),(6,[0,0,0,1,0,0,1,1,0,3,3,3]),(7,[0,0,0,1,0,1,0,0,0,1,0,1,1,1,1,0,1,3,3,3])] call244 func244 rfl rfl
instance : Inl BA 245 := iM 22 [0,1,2] [(0,[0,0,0,0,0,0,0,0,3,0,3,3,3,3,0,3])] call245 func245 rfl rfl
instance : Inl BA 246 := iM 24 [0,1,2,6] [(2,[1,0,0,0,1,0,1,3,0,0,0,3,3])] call246 func246 rfl rfl
instance : Inl BA 247 := iM 18 [0,2,3,8,15] [] call247 func247 rfl rfl
instance : Inl BA 250 := iM 14 [0,1,2,4] [] call250 func250 rfl rfl
instance : Inl BA 251 := iM 48 [0,1,2,3,6,7,8,18] [(3,[0,1,0,1,1,0,1,0,1,1,1,1,1,3])] call251 func251 rfl rfl
instance : Inl BA 256 := iM 18 [0,1,4] [] call256 func256 rfl rfl
instance : Inl BA 257 := iM 31 [0,2] [] call257 func257 rfl rfl
instance : Inl BA 258 := iM 72 [0,1,4,5,6,7,8,12,23,29,38,64] [(7,[0,0,0,0,0,0,0])] call258 func258 rfl rfl
instance : Inl BA 259 := iM 52 [0,2,13,29,45] [] call259 func259 rfl rfl
instance : Inl BA 260 := iM 32 [0,2,8,17,27] [] call260 func260 rfl rfl
instance : Inl BA 261 := iM 29 [0,2,3,4,5,11,19,26] [] call261 func261 rfl rfl
instance : Inl BA 262 := iM 4 [0,1] [] call262 func262 rfl rfl
instance : Inl BA 263 := iM 20 [0,2,16] [] call263 func263 rfl rfl
instance : Inl BA 265 := iM 20 [0,1,4] [] call265 func265 rfl rfl
instance : Inl BA 267 := iM 34 [0,1,4,5,6,7,11,17,33] [(8,[0,0,1,1,1,1,1,1,1,1,3,3,3])] call267 func267 rfl rfl
end
end Go.Vc

namespace Go.Vc
open Go.Proofs
set_option maxRecDepth 100000
set_option maxHeartbeats 40000000
set_option pp.deepTerms true
set_option pp.maxSteps 2000000
instance (priority := 5000) ZN_0 : FnM BA 62 [.loc 0 0,.loc 3 0] [(0,.box [.own 1,.own 2,.nils,.int .i64 5,.int .i64 0,.int .i64 0,.int .i64 0,.int .i64 0,.bool false,.bool false,.str [100,105,118]]),(1,.own qAB [((0 : Int),(0 : Int),([] : List UInt8),([] : List qAL),([] : List UInt8),(-1 : Int),([1] : List Int)),((1 : Int),(0 : Int),([104,116,109,108] : List UInt8),([] : List qAL),([] : List UInt8),(0 : Int),([] : List Int))]),(2,.own qAI [1]),(3,.box [.str (60 :: 111 :: 117 :: 116 :: 112 :: 117 :: 116 :: 32 :: 102 :: 111 :: 114 :: 61 :: 39 :: 97 :: 32 :: 98 :: 39 :: 62 :: 60 :: 47 :: 111 :: 117 :: 116 :: 112 :: 117 :: 116 :: 62 :: 60 :: 97 :: 32 :: 104 :: 114 :: 101 :: 102 :: 61 :: 35 :: 99 :: 32 :: 110 :: 97 :: 109 :: 101 :: 61 :: 100 :: 62 :: 60 :: 47 :: 97 :: 62 :: [])])] True (.agg [.int .i64 1,.str [111,117,116,112,117,116],.rd qAW [([102,111,114],[97,32,98])],.bool false,.str []]) [(0,.box [.own 1,.own 2,.nils,.int .i64 5,.int .i64 0,.int .i64 0,.int .i64 0,.int .i64 0,.bool false,.bool false,.str [100,105,118]]),(1,.own qAB [((0 : Int),(0 : Int),([] : List UInt8),([] : List qAL),([] : List UInt8),(-1 : Int),([1] : List Int)),((1 : Int),(0 : Int),([104,116,109,108] : List UInt8),([] : List qAL),([] : List UInt8),(0 : Int),([] : List Int))]),(2,.own qAI [1]),(3,.box [.str [60,47,111,117,116,112,117,116,62,60,97,32,104,114,101,102,61,35,99,32,110,97,109,101,61,100,62,60,47,97,62]])] := by
 refine FnM.intro (N := 43) [0,1,4,5,10] [(3,[0,0,0,0,1,0,0,0,1,1,3,3,3,3]),(4,[0,0,0,0,7,0,0,0,0,4,4,4,4,4,4,4,4,4,4,4]),(3000004,[649,714,779,844,909,974,1039,1104,1169,1234])] 4 Tryz.call62 Tryz.func62 rfl rfl (by kernel_rfl) (fun hpre => ?_)
 repeat' ((conv => whnf);first|(with_reducible first|rfl|exact qAF|exact qAG)|exact True.intro|(intro hq;first|(exfalso;revert hq;decide +kernel)|clear hq|skip)|refine WA ?_ ?_|refine WF ?_|refine W1 rfl ?_ ?_|refine W2 rfl ?_ ?_|refine W3 rfl ?_ ?_|refine W4 ?_ ?_|refine W5 rfl ?_ ?_|refine W6 ?_ ?_|refine WN ?_|refine X1 (W1 rfl ?_ ?_)|refine X1 (W2 rfl ?_ ?_)|refine X2 (W7 rfl ?_ ?_)|refine X3 (W7 rfl ?_ ?_)|refine X4 (W7 rfl ?_ ?_)|refine X5 (W7 rfl ?_ ?_)|refine X7 (by conv => lhs;cbv) rfl ?_|refine X8 (by conv => lhs;cbv) ?_|refine LoopStop.ug 500 ?_|refine ZStop.dir ?_|(refine Ob.mk ?_;decide +kernel))
 all_goals (first | rfl | decide +kernel)
end Go.Vc

namespace Go.Vc
open Go.Proofs
set_option maxRecDepth 100000
set_option maxHeartbeats 40000000
set_option pp.deepTerms true
set_option pp.maxSteps 2000000
instance (priority := 5000) ZN_1 : FnM BA 63 [.loc 0 0,.loc 3 0] [(0,.box [.own 1,.own 2,.nils,.int .i64 5,.int .i64 0,.int .i64 0,.int .i64 0,.int .i64 0,.bool false,.bool false,.str [100,105,118]]),(1,.own qAB [((0 : Int),(0 : Int),([] : List UInt8),([] : List qAL),([] : List UInt8),(-1 : Int),([1] : List Int)),((1 : Int),(0 : Int),([104,116,109,108] : List UInt8),([] : List qAL),([] : List UInt8),(0 : Int),([] : List Int))]),(2,.own qAI [1]),(3,.box [.int .i64 1,.str [111,117,116,112,117,116],.rd qAW [([102,111,114],[97,32,98])],.bool false,.str []])] True (.bool false) [(0,.box [.own 1,.own 4,.nils,.int .i64 5,.int .i64 0,.int .i64 0,.int .i64 0,.int .i64 0,.bool false,.bool false,.str [100,105,118]]),(1,.own qAB [((0 : Int),(0 : Int),([] : List UInt8),([] : List qAL),([] : List UInt8),(-1 : Int),([1] : List Int)),((1 : Int),(0 : Int),([104,116,109,108] : List UInt8),([] : List qAL),([] : List UInt8),(0 : Int),([2] : List Int)),((1 : Int),(0 : Int),([111,117,116,112,117,116] : List UInt8),([([102,111,114],[97,32,98])] : List qAL),([] : List UInt8),(1 : Int),([] : List Int))]),(4,.own qAI [1,2]),(3,.box [.int .i64 1,.str [111,117,116,112,117,116],.rd qAW [([102,111,114],[97,32,98])],.bool false,.str []])] := by
 refine FnM.intro (N := 57) [0,1,4,15,20,35,50] [] 4 Tryz.call63 Tryz.func63 rfl rfl (by kernel_rfl) (fun hpre => ?_)
 repeat' ((conv => whnf);first|(with_reducible first|rfl|exact qAF|exact qAG)|exact True.intro|(intro hq;first|(exfalso;revert hq;decide +kernel)|clear hq|skip)|refine WA ?_ ?_|refine WF ?_|refine W1 rfl ?_ ?_|refine W2 rfl ?_ ?_|refine W3 rfl ?_ ?_|refine W4 ?_ ?_|refine W5 rfl ?_ ?_|refine W6 ?_ ?_|refine WN ?_|refine X1 (W1 rfl ?_ ?_)|refine X1 (W2 rfl ?_ ?_)|refine X2 (W7 rfl ?_ ?_)|refine X3 (W7 rfl ?_ ?_)|refine X4 (W7 rfl ?_ ?_)|refine X5 (W7 rfl ?_ ?_)|refine X7 (by conv => lhs;cbv) rfl ?_|refine X8 (by conv => lhs;cbv) ?_|refine LoopStop.ug 500 ?_|refine ZStop.dir ?_|(refine Ob.mk ?_;decide +kernel))
 all_goals (first | rfl | decide +kernel)
end Go.Vc

namespace Go.Vc
open Go.Proofs
set_option maxRecDepth 100000
set_option maxHeartbeats 40000000
set_option pp.deepTerms true
set_option pp.maxSteps 2000000
instance (priority := 5000) ZN_2 : FnM BA 62 [.loc 0 0,.loc 3 0] [(0,.box [.own 1,.own 2,.nils,.int .i64 5,.int .i64 0,.int .i64 0,.int .i64 0,.int .i64 0,.bool false,.bool false,.str [100,105,118]]),(1,.own qAB [((0 : Int),(0 : Int),([] : List UInt8),([] : List qAL),([] : List UInt8),(-1 : Int),([1] : List Int)),((1 : Int),(0 : Int),([104,116,109,108] : List UInt8),([] : List qAL),([] : List UInt8),(0 : Int),([2] : List Int)),((1 : Int),(0 : Int),([111,117,116,112,117,116] : List UInt8),([([102,111,114],[97,32,98])] : List qAL),([] : List UInt8),(1 : Int),([] : List Int))]),(2,.own qAI [1,2]),(3,.box [.str [60,47,111,117,116,112,117,116,62,60,97,32,104,114,101,102,61,35,99,32,110,97,109,101,61,100,62,60,47,97,62]])] True (.agg [.int .i64 2,.str [111,117,116,112,117,116],.nils,.bool false,.str []]) [(0,.box [.own 1,.own 2,.nils,.int .i64 5,.int .i64 0,.int .i64 0,.int .i64 0,.int .i64 0,.bool false,.bool false,.str [100,105,118]]),(1,.own qAB [((0 : Int),(0 : Int),([] : List UInt8),([] : List qAL),([] : List UInt8),(-1 : Int),([1] : List Int)),((1 : Int),(0 : Int),([104,116,109,108] : List UInt8),([] : List qAL),([] : List UInt8),(0 : Int),([2] : List Int)),((1 : Int),(0 : Int),([111,117,116,112,117,116] : List UInt8),([([102,111,114],[97,32,98])] : List qAL),([] : List UInt8),(1 : Int),([] : List Int))]),(2,.own qAI [1,2]),(3,.box [.str [60,97,32,104,114,101,102,61,35,99,32,110,97,109,101,61,100,62,60,47,97,62]])] := by
 refine FnM.intro (N := 43) [0,1,4,5,10] [(3,[0,0,0,0,1,0,0,0,1,1,3,3,3,3]),(4,[0,0,0,0,7,0,0,0,0,4,4,4,4,4,4,4,4,4,4,4]),(3000004,[649,714,779,844,909,974,1039,1104,1169,1234])] 4 Tryz.call62 Tryz.func62 rfl rfl (by kernel_rfl) (fun hpre => ?_)
 repeat' ((conv => whnf);first|(with_reducible first|rfl|exact qAF|exact qAG)|exact True.intro|(intro hq;first|(exfalso;revert hq;decide +kernel)|clear hq|skip)|refine WA ?_ ?_|refine WF ?_|refine W1 rfl ?_ ?_|refine W2 rfl ?_ ?_|refine W3 rfl ?_ ?_|refine W4 ?_ ?_|refine W5 rfl ?_ ?_|refine W6 ?_ ?_|refine WN ?_|refine X1 (W1 rfl ?_ ?_)|refine X1 (W2 rfl ?_ ?_)|refine X2 (W7 rfl ?_ ?_)|refine X3 (W7 rfl ?_ ?_)|refine X4 (W7 rfl ?_ ?_)|refine X5 (W7 rfl ?_ ?_)|refine X7 (by conv => lhs;cbv) rfl ?_|refine X8 (by conv => lhs;cbv) ?_|refine LoopStop.ug 500 ?_|refine ZStop.dir ?_|(refine Ob.mk ?_;decide +kernel))
 all_goals (first | rfl | decide +kernel)
end Go.Vc

namespace Go.Vc
open Go.Proofs
set_option maxRecDepth 100000
set_option maxHeartbeats 40000000
set_option pp.deepTerms true
set_option pp.maxSteps 2000000
instance (priority := 5000) ZN_3 : FnM BA 63 [.loc 0 0,.loc 3 0] [(0,.box [.own 1,.own 2,.nils,.int .i64 5,.int .i64 0,.int .i64 0,.int .i64 0,.int .i64 0,.bool false,.bool false,.str [100,105,118]]),(1,.own qAB [((0 : Int),(0 : Int),([] : List UInt8),([] : List qAL),([] : List UInt8),(-1 : Int),([1] : List Int)),((1 : Int),(0 : Int),([104,116,109,108] : List UInt8),([] : List qAL),([] : List UInt8),(0 : Int),([2] : List Int)),((1 : Int),(0 : Int),([111,117,116,112,117,116] : List UInt8),([([102,111,114],[97,32,98])] : List qAL),([] : List UInt8),(1 : Int),([] : List Int))]),(2,.own qAI [1,2]),(3,.box [.int .i64 2,.str [111,117,116,112,117,116],.nils,.bool false,.str []])] True (.bool false) [(0,.box [.own 1,.own 4,.nils,.int .i64 5,.int .i64 0,.int .i64 0,.int .i64 0,.int .i64 0,.bool false,.bool false,.str [100,105,118]]),(1,.own qAB [((0 : Int),(0 : Int),([] : List UInt8),([] : List qAL),([] : List UInt8),(-1 : Int),([1] : List Int)),((1 : Int),(0 : Int),([104,116,109,108] : List UInt8),([] : List qAL),([] : List UInt8),(0 : Int),([2] : List Int)),((1 : Int),(0 : Int),([111,117,116,112,117,116] : List UInt8),([([102,111,114],[97,32,98])] : List qAL),([] : List UInt8),(1 : Int),([] : List Int))]),(4,.own qAI [1]),(3,.box [.int .i64 2,.str [111,117,116,112,117,116],.nils,.bool false,.str []])] := by
 refine FnM.intro (N := 57) [0,1,4,15,20,35,50] [] 4 Tryz.call63 Tryz.func63 rfl rfl (by kernel_rfl) (fun hpre => ?_)
 repeat' ((conv => whnf);first|(with_reducible first|rfl|exact qAF|exact qAG)|exact True.intro|(intro hq;first|(exfalso;revert hq;decide +kernel)|clear hq|skip)|refine WA ?_ ?_|refine WF ?_|refine W1 rfl ?_ ?_|refine W2 rfl ?_ ?_|refine W3 rfl ?_ ?_|refine W4 ?_ ?_|refine W5 rfl ?_ ?_|refine W6 ?_ ?_|refine WN ?_|refine X1 (W1 rfl ?_ ?_)|refine X1 (W2 rfl ?_ ?_)|refine X2 (W7 rfl ?_ ?_)|refine X3 (W7 rfl ?_ ?_)|refine X4 (W7 rfl ?_ ?_)|refine X5 (W7 rfl ?_ ?_)|refine X7 (by conv => lhs;cbv) rfl ?_|refine X8 (by conv => lhs;cbv) ?_|refine LoopStop.ug 500 ?_|refine ZStop.dir ?_|(refine Ob.mk ?_;decide +kernel))
 all_goals (first | rfl | decide +kernel)
end Go.Vc

namespace Go.Vc
open Go.Proofs
set_option maxRecDepth 100000
set_option maxHeartbeats 40000000
set_option pp.deepTerms true
set_option pp.maxSteps 2000000
instance (priority := 5000) ZN_4 : FnM BA 62 [.loc 0 0,.loc 3 0] [(0,.box [.own 1,.own 2,.nils,.int .i64 5,.int .i64 0,.int .i64 0,.int .i64 0,.int .i64 0,.bool false,.bool false,.str [100,105,118]]),(1,.own qAB [((0 : Int),(0 : Int),([] : List UInt8),([] : List qAL),([] : List UInt8),(-1 : Int),([1] : List Int)),((1 : Int),(0 : Int),([104,116,109,108] : List UInt8),([] : List qAL),([] : List UInt8),(0 : Int),([2] : List Int)),((1 : Int),(0 : Int),([111,117,116,112,117,116] : List UInt8),([([102,111,114],[97,32,98])] : List qAL),([] : List UInt8),(1 : Int),([] : List Int))]),(2,.own qAI [1]),(3,.box [.str [60,97,32,104,114,101,102,61,35,99,32,110,97,109,101,61,100,62,60,47,97,62]])] True (.agg [.int .i64 1,.str [97],.rd qAW [([104,114,101,102],[35,99]),([110,97,109,101],[100])],.bool false,.str []]) [(0,.box [.own 1,.own 2,.nils,.int .i64 5,.int .i64 0,.int .i64 0,.int .i64 0,.int .i64 0,.bool false,.bool false,.str [100,105,118]]),(1,.own qAB [((0 : Int),(0 : Int),([] : List UInt8),([] : List qAL),([] : List UInt8),(-1 : Int),([1] : List Int)),((1 : Int),(0 : Int),([104,116,109,108] : List UInt8),([] : List qAL),([] : List UInt8),(0 : Int),([2] : List Int)),((1 : Int),(0 : Int),([111,117,116,112,117,116] : List UInt8),([([102,111,114],[97,32,98])] : List qAL),([] : List UInt8),(1 : Int),([] : List Int))]),(2,.own qAI [1]),(3,.box [.str [60,47,97,62]])] := by
 refine FnM.intro (N := 43) [0,1,4,5,10] [(3,[0,0,0,0,1,0,0,0,1,1,3,3,3,3]),(4,[0,0,0,0,7,0,0,0,0,4,4,4,4,4,4,4,4,4,4,4]),(3000004,[649,714,779,844,909,974,1039,1104,1169,1234])] 4 Tryz.call62 Tryz.func62 rfl rfl (by kernel_rfl) (fun hpre => ?_)
 repeat' ((conv => whnf);first|(with_reducible first|rfl|exact qAF|exact qAG)|exact True.intro|(intro hq;first|(exfalso;revert hq;decide +kernel)|clear hq|skip)|refine WA ?_ ?_|refine WF ?_|refine W1 rfl ?_ ?_|refine W2 rfl ?_ ?_|refine W3 rfl ?_ ?_|refine W4 ?_ ?_|refine W5 rfl ?_ ?_|refine W6 ?_ ?_|refine WN ?_|refine X1 (W1 rfl ?_ ?_)|refine X1 (W2 rfl ?_ ?_)|refine X2 (W7 rfl ?_ ?_)|refine X3 (W7 rfl ?_ ?_)|refine X4 (W7 rfl ?_ ?_)|refine X5 (W7 rfl ?_ ?_)|refine X7 (by conv => lhs;cbv) rfl ?_|refine X8 (by conv => lhs;cbv) ?_|refine LoopStop.ug 500 ?_|refine ZStop.dir ?_|(refine Ob.mk ?_;decide +kernel))
 all_goals (first | rfl | decide +kernel)
end Go.Vc

namespace Go.Vc
open Go.Proofs
set_option maxRecDepth 100000
set_option maxHeartbeats 40000000
set_option pp.deepTerms true
set_option pp.maxSteps 2000000
instance (priority := 5000) ZN_5 : FnM BA 63 [.loc 0 0,.loc 3 0] [(0,.box [.own 1,.own 2,.nils,.int .i64 5,.int .i64 0,.int .i64 0,.int .i64 0,.int .i64 0,.bool false,.bool false,.str [100,105,118]]),(1,.own qAB [((0 : Int),(0 : Int),([] : List UInt8),([] : List qAL),([] : List UInt8),(-1 : Int),([1] : List Int)),((1 : Int),(0 : Int),([104,116,109,108] : List UInt8),([] : List qAL),([] : List UInt8),(0 : Int),([2] : List Int)),((1 : Int),(0 : Int),([111,117,116,112,117,116] : List UInt8),([([102,111,114],[97,32,98])] : List qAL),([] : List UInt8),(1 : Int),([] : List Int))]),(2,.own qAI [1]),(3,.box [.int .i64 1,.str [97],.rd qAW [([104,114,101,102],[35,99]),([110,97,109,101],[100])],.bool false,.str []])] True (.bool false) [(0,.box [.own 1,.own 4,.own 5,.int .i64 5,.int .i64 0,.int .i64 0,.int .i64 0,.int .i64 0,.bool false,.bool false,.str [100,105,118]]),(1,.own qAB [((0 : Int),(0 : Int),([] : List UInt8),([] : List qAL),([] : List UInt8),(-1 : Int),([1] : List Int)),((1 : Int),(0 : Int),([104,116,109,108] : List UInt8),([] : List qAL),([] : List UInt8),(0 : Int),([2,3] : List Int)),((1 : Int),(0 : Int),([111,117,116,112,117,116] : List UInt8),([([102,111,114],[97,32,98])] : List qAL),([] : List UInt8),(1 : Int),([] : List Int)),((1 : Int),(0 : Int),([97] : List UInt8),([([104,114,101,102],[35,99]),([110,97,109,101],[100])] : List qAL),([] : List UInt8),(1 : Int),([] : List Int))]),(4,.own qAI [1,3]),(5,.own qAI [3]),(3,.box [.int .i64 1,.str [97],.rd qAW [([104,114,101,102],[35,99]),([110,97,109,101],[100])],.bool false,.str []])] := by
 refine FnM.intro (N := 57) [0,1,4,15,20,35,50] [] 4 Tryz.call63 Tryz.func63 rfl rfl (by kernel_rfl) (fun hpre => ?_)
 repeat' ((conv => whnf);first|(with_reducible first|rfl|exact qAF|exact qAG)|exact True.intro|(intro hq;first|(exfalso;revert hq;decide +kernel)|clear hq|skip)|refine WA ?_ ?_|refine WF ?_|refine W1 rfl ?_ ?_|refine W2 rfl ?_ ?_|refine W3 rfl ?_ ?_|refine W4 ?_ ?_|refine W5 rfl ?_ ?_|refine W6 ?_ ?_|refine WN ?_|refine X1 (W1 rfl ?_ ?_)|refine X1 (W2 rfl ?_ ?_)|refine X2 (W7 rfl ?_ ?_)|refine X3 (W7 rfl ?_ ?_)|refine X4 (W7 rfl ?_ ?_)|refine X5 (W7 rfl ?_ ?_)|refine X7 (by conv => lhs;cbv) rfl ?_|refine X8 (by conv => lhs;cbv) ?_|refine LoopStop.ug 500 ?_|refine ZStop.dir ?_|(refine Ob.mk ?_;decide +kernel))
 all_goals (first | rfl | decide +kernel)
end Go.Vc

namespace Go.Vc
open Go.Proofs
set_option maxRecDepth 100000
set_option maxHeartbeats 40000000
set_option pp.deepTerms true
set_option pp.maxSteps 2000000
instance (priority := 5000) ZN_6 : FnM BA 62 [.loc 0 0,.loc 4 0] [(0,.box [.own 1,.own 2,.own 3,.int .i64 5,.int .i64 0,.int .i64 0,.int .i64 0,.int .i64 0,.bool false,.bool false,.str [100,105,118]]),(1,.own qAB [((0 : Int),(0 : Int),([] : List UInt8),([] : List qAL),([] : List UInt8),(-1 : Int),([1] : List Int)),((1 : Int),(0 : Int),([104,116,109,108] : List UInt8),([] : List qAL),([] : List UInt8),(0 : Int),([2,3] : List Int)),((1 : Int),(0 : Int),([111,117,116,112,117,116] : List UInt8),([([102,111,114],[97,32,98])] : List qAL),([] : List UInt8),(1 : Int),([] : List Int)),((1 : Int),(0 : Int),([97] : List UInt8),([([104,114,101,102],[35,99]),([110,97,109,101],[100])] : List qAL),([] : List UInt8),(1 : Int),([] : List Int))]),(2,.own qAI [1,3]),(3,.own qAI [3]),(4,.box [.str [60,47,97,62]])] True (.agg [.int .i64 2,.str [97],.nils,.bool false,.str []]) [(0,.box [.own 1,.own 2,.own 3,.int .i64 5,.int .i64 0,.int .i64 0,.int .i64 0,.int .i64 0,.bool false,.bool false,.str [100,105,118]]),(1,.own qAB [((0 : Int),(0 : Int),([] : List UInt8),([] : List qAL),([] : List UInt8),(-1 : Int),([1] : List Int)),((1 : Int),(0 : Int),([104,116,109,108] : List UInt8),([] : List qAL),([] : List UInt8),(0 : Int),([2,3] : List Int)),((1 : Int),(0 : Int),([111,117,116,112,117,116] : List UInt8),([([102,111,114],[97,32,98])] : List qAL),([] : List UInt8),(1 : Int),([] : List Int)),((1 : Int),(0 : Int),([97] : List UInt8),([([104,114,101,102],[35,99]),([110,97,109,101],[100])] : List qAL),([] : List UInt8),(1 : Int),([] : List Int))]),(2,.own qAI [1,3]),(3,.own qAI [3]),(4,.box [.str []])] := by
 refine FnM.intro (N := 43) [0,1,4,5,10] [(3,[0,0,0,0,1,0,0,0,1,1,3,3,3,3]),(4,[0,0,0,0,7,0,0,0,0,4,4,4,4,4,4,4,4,4,4,4]),(3000004,[649,714,779,844,909,974,1039,1104,1169,1234])] 5 Tryz.call62 Tryz.func62 rfl rfl (by kernel_rfl) (fun hpre => ?_)
 repeat' ((conv => whnf);first|(with_reducible first|rfl|exact qAF|exact qAG)|exact True.intro|(intro hq;first|(exfalso;revert hq;decide +kernel)|clear hq|skip)|refine WA ?_ ?_|refine WF ?_|refine W1 rfl ?_ ?_|refine W2 rfl ?_ ?_|refine W3 rfl ?_ ?_|refine W4 ?_ ?_|refine W5 rfl ?_ ?_|refine W6 ?_ ?_|refine WN ?_|refine X1 (W1 rfl ?_ ?_)|refine X1 (W2 rfl ?_ ?_)|refine X2 (W7 rfl ?_ ?_)|refine X3 (W7 rfl ?_ ?_)|refine X4 (W7 rfl ?_ ?_)|refine X5 (W7 rfl ?_ ?_)|refine X7 (by conv => lhs;cbv) rfl ?_|refine X8 (by conv => lhs;cbv) ?_|refine LoopStop.ug 500 ?_|refine ZStop.dir ?_|(refine Ob.mk ?_;decide +kernel))
 all_goals (first | rfl | decide +kernel)
end Go.Vc

namespace Go.Vc
open Go.Proofs
set_option maxRecDepth 100000
set_option maxHeartbeats 40000000
set_option pp.deepTerms true
set_option pp.maxSteps 2000000
instance (priority := 5000) ZN_7 : FnM BA 63 [.loc 0 0,.loc 4 0] [(0,.box [.own 1,.own 2,.own 3,.int .i64 5,.int .i64 0,.int .i64 0,.int .i64 0,.int .i64 0,.bool false,.bool false,.str [100,105,118]]),(1,.own qAB [((0 : Int),(0 : Int),([] : List UInt8),([] : List qAL),([] : List UInt8),(-1 : Int),([1] : List Int)),((1 : Int),(0 : Int),([104,116,109,108] : List UInt8),([] : List qAL),([] : List UInt8),(0 : Int),([2,3] : List Int)),((1 : Int),(0 : Int),([111,117,116,112,117,116] : List UInt8),([([102,111,114],[97,32,98])] : List qAL),([] : List UInt8),(1 : Int),([] : List Int)),((1 : Int),(0 : Int),([97] : List UInt8),([([104,114,101,102],[35,99]),([110,97,109,101],[100])] : List qAL),([] : List UInt8),(1 : Int),([] : List Int))]),(2,.own qAI [1,3]),(3,.own qAI [3]),(4,.box [.int .i64 2,.str [97],.nils,.bool false,.str []])] True (.bool false) [(0,.box [.own 1,.own 5,.nils,.int .i64 5,.int .i64 0,.int .i64 0,.int .i64 0,.int .i64 0,.bool false,.bool false,.str [100,105,118]]),(1,.own qAB [((0 : Int),(0 : Int),([] : List UInt8),([] : List qAL),([] : List UInt8),(-1 : Int),([1] : List Int)),((1 : Int),(0 : Int),([104,116,109,108] : List UInt8),([] : List qAL),([] : List UInt8),(0 : Int),([2,3] : List Int)),((1 : Int),(0 : Int),([111,117,116,112,117,116] : List UInt8),([([102,111,114],[97,32,98])] : List qAL),([] : List UInt8),(1 : Int),([] : List Int)),((1 : Int),(0 : Int),([97] : List UInt8),([([104,114,101,102],[35,99]),([110,97,109,101],[100])] : List qAL),([] : List UInt8),(1 : Int),([] : List Int))]),(5,.own qAI [1]),(4,.box [.int .i64 2,.str [97],.nils,.bool false,.str []])] := by
 refine FnM.intro (N := 57) [0,1,4,15,20,35,50] [] 5 Tryz.call63 Tryz.func63 rfl rfl (by kernel_rfl) (fun hpre => ?_)
 repeat' ((conv => whnf);first|(with_reducible first|rfl|exact qAF|exact qAG)|exact True.intro|(intro hq;first|(exfalso;revert hq;decide +kernel)|clear hq|skip)|refine WA ?_ ?_|refine WF ?_|refine W1 rfl ?_ ?_|refine W2 rfl ?_ ?_|refine W3 rfl ?_ ?_|refine W4 ?_ ?_|refine W5 rfl ?_ ?_|refine W6 ?_ ?_|refine WN ?_|refine X1 (W1 rfl ?_ ?_)|refine X1 (W2 rfl ?_ ?_)|refine X2 (W7 rfl ?_ ?_)|refine X3 (W7 rfl ?_ ?_)|refine X4 (W7 rfl ?_ ?_)|refine X5 (W7 rfl ?_ ?_)|refine X7 (by conv => lhs;cbv) rfl ?_|refine X8 (by conv => lhs;cbv) ?_|refine LoopStop.ug 500 ?_|refine ZStop.dir ?_|(refine Ob.mk ?_;decide +kernel))
 all_goals (first | rfl | decide +kernel)
end Go.Vc

namespace Go.Vc
open Go.Proofs
set_option maxRecDepth 100000
set_option maxHeartbeats 40000000
set_option pp.deepTerms true
set_option pp.maxSteps 2000000
instance (priority := 5000) ZN_8 : FnM BA 62 [.loc 0 0,.loc 3 0] [(0,.box [.own 1,.own 2,.nils,.int .i64 5,.int .i64 0,.int .i64 0,.int .i64 0,.int .i64 0,.bool false,.bool false,.str [100,105,118]]),(1,.own qAB [((0 : Int),(0 : Int),([] : List UInt8),([] : List qAL),([] : List UInt8),(-1 : Int),([1] : List Int)),((1 : Int),(0 : Int),([104,116,109,108] : List UInt8),([] : List qAL),([] : List UInt8),(0 : Int),([2,3] : List Int)),((1 : Int),(0 : Int),([111,117,116,112,117,116] : List UInt8),([([102,111,114],[97,32,98])] : List qAL),([] : List UInt8),(1 : Int),([] : List Int)),((1 : Int),(0 : Int),([97] : List UInt8),([([104,114,101,102],[35,99]),([110,97,109,101],[100])] : List qAL),([] : List UInt8),(1 : Int),([] : List Int))]),(2,.own qAI [1]),(3,.box [.str []])] True (.agg [.int .i64 0,.str [],.nils,.bool false,.str []]) [(0,.box [.own 1,.own 2,.nils,.int .i64 5,.int .i64 0,.int .i64 0,.int .i64 0,.int .i64 0,.bool false,.bool false,.str [100,105,118]]),(1,.own qAB [((0 : Int),(0 : Int),([] : List UInt8),([] : List qAL),([] : List UInt8),(-1 : Int),([1] : List Int)),((1 : Int),(0 : Int),([104,116,109,108] : List UInt8),([] : List qAL),([] : List UInt8),(0 : Int),([2,3] : List Int)),((1 : Int),(0 : Int),([111,117,116,112,117,116] : List UInt8),([([102,111,114],[97,32,98])] : List qAL),([] : List UInt8),(1 : Int),([] : List Int)),((1 : Int),(0 : Int),([97] : List UInt8),([([104,114,101,102],[35,99]),([110,97,109,101],[100])] : List qAL),([] : List UInt8),(1 : Int),([] : List Int))]),(2,.own qAI [1]),(3,.box [.str []])] := by
 refine FnM.intro (N := 43) [0,1,4,5,10] [(3,[0,0,0,0,1,0,0,0,1,1,3,3,3,3]),(4,[0,0,0,0,7,0,0,0,0,4,4,4,4,4,4,4,4,4,4,4]),(3000004,[649,714,779,844,909,974,1039,1104,1169,1234])] 4 Tryz.call62 Tryz.func62 rfl rfl (by kernel_rfl) (fun hpre => ?_)
 repeat' ((conv => whnf);first|(with_reducible first|rfl|exact qAF|exact qAG)|exact True.intro|(intro hq;first|(exfalso;revert hq;decide +kernel)|clear hq|skip)|refine WA ?_ ?_|refine WF ?_|refine W1 rfl ?_ ?_|refine W2 rfl ?_ ?_|refine W3 rfl ?_ ?_|refine W4 ?_ ?_|refine W5 rfl ?_ ?_|refine W6 ?_ ?_|refine WN ?_|refine X1 (W1 rfl ?_ ?_)|refine X1 (W2 rfl ?_ ?_)|refine X2 (W7 rfl ?_ ?_)|refine X3 (W7 rfl ?_ ?_)|refine X4 (W7 rfl ?_ ?_)|refine X5 (W7 rfl ?_ ?_)|refine X7 (by conv => lhs;cbv) rfl ?_|refine X8 (by conv => lhs;cbv) ?_|refine LoopStop.ug 500 ?_|refine ZStop.dir ?_|(refine Ob.mk ?_;decide +kernel))
 all_goals (first | rfl | decide +kernel)
end Go.Vc

namespace Go.Vc
open Go.Proofs
set_option maxRecDepth 100000
set_option maxHeartbeats 40000000
set_option pp.deepTerms true
set_option pp.maxSteps 2000000
instance (priority := 5000) ZN_9 : FnM BA 63 [.loc 0 0,.loc 3 0] [(0,.box [.own 1,.own 2,.nils,.int .i64 5,.int .i64 0,.int .i64 0,.int .i64 0,.int .i64 0,.bool false,.bool false,.str [100,105,118]]),(1,.own qAB [((0 : Int),(0 : Int),([] : List UInt8),([] : List qAL),([] : List UInt8),(-1 : Int),([1] : List Int)),((1 : Int),(0 : Int),([104,116,109,108] : List UInt8),([] : List qAL),([] : List UInt8),(0 : Int),([2,3] : List Int)),((1 : Int),(0 : Int),([111,117,116,112,117,116] : List UInt8),([([102,111,114],[97,32,98])] : List qAL),([] : List UInt8),(1 : Int),([] : List Int)),((1 : Int),(0 : Int),([97] : List UInt8),([([104,114,101,102],[35,99]),([110,97,109,101],[100])] : List qAL),([] : List UInt8),(1 : Int),([] : List Int))]),(2,.own qAI [1]),(3,.box [.int .i64 0,.str [],.nils,.bool false,.str []])] True (.bool false) [(0,.box [.own 1,.own 2,.nils,.int .i64 5,.int .i64 0,.int .i64 0,.int .i64 0,.int .i64 0,.bool false,.bool false,.str [100,105,118]]),(1,.own qAB [((0 : Int),(0 : Int),([] : List UInt8),([] : List qAL),([] : List UInt8),(-1 : Int),([1] : List Int)),((1 : Int),(0 : Int),([104,116,109,108] : List UInt8),([] : List qAL),([] : List UInt8),(0 : Int),([2,3] : List Int)),((1 : Int),(0 : Int),([111,117,116,112,117,116] : List UInt8),([([102,111,114],[97,32,98])] : List qAL),([] : List UInt8),(1 : Int),([] : List Int)),((1 : Int),(0 : Int),([97] : List UInt8),([([104,114,101,102],[35,99]),([110,97,109,101],[100])] : List qAL),([] : List UInt8),(1 : Int),([] : List Int))]),(2,.own qAI [1]),(3,.box [.int .i64 0,.str [],.nils,.bool false,.str []])] := by
 refine FnM.intro (N := 57) [0,1,4,15,20,35,50] [] 4 Tryz.call63 Tryz.func63 rfl rfl (by kernel_rfl) (fun hpre => ?_)
 repeat' ((conv => whnf);first|(with_reducible first|rfl|exact qAF|exact qAG)|exact True.intro|(intro hq;first|(exfalso;revert hq;decide +kernel)|clear hq|skip)|refine WA ?_ ?_|refine WF ?_|refine W1 rfl ?_ ?_|refine W2 rfl ?_ ?_|refine W3 rfl ?_ ?_|refine W4 ?_ ?_|refine W5 rfl ?_ ?_|refine W6 ?_ ?_|refine WN ?_|refine X1 (W1 rfl ?_ ?_)|refine X1 (W2 rfl ?_ ?_)|refine X2 (W7 rfl ?_ ?_)|refine X3 (W7 rfl ?_ ?_)|refine X4 (W7 rfl ?_ ?_)|refine X5 (W7 rfl ?_ ?_)|refine X7 (by conv => lhs;cbv) rfl ?_|refine X8 (by conv => lhs;cbv) ?_|refine LoopStop.ug 500 ?_|refine ZStop.dir ?_|(refine Ob.mk ?_;decide +kernel))
 all_goals (first | rfl | decide +kernel)
end Go.Vc

namespace Go.Vc
open Go.Proofs
set_option maxRecDepth 10000
instance decN1 : DecidableEq (List UInt8) := inferInstance
instance decN2 : DecidableEq (List UInt8 × List UInt8) := instDecidableEqProd
instance decN3 : DecidableEq (Int × List Int) := instDecidableEqProd
instance decN4 : DecidableEq (List (List UInt8 × List UInt8)) := instDecidableEqList
instance decN5 : DecidableEq (List UInt8 × Int × List Int) := instDecidableEqProd
instance decNode : DecidableEq qAH := (instDecidableEqProd : DecidableEq (Int × Int × List UInt8 × List (List UInt8 × List UInt8) × List UInt8 × Int × List Int))
def qfH (K : Nat → List Int) : Nat → List Bool → Nat → Nat → Nat → Option (List Ev × List Bool × Nat)
 | 0,_,_,_,_ => none
 | f + 1,s,i,j,c =>
  if j < (K i).length then
   if okK s ((K i).getD j 0) = true then
    match qfH K f (s.set ((K i).getD j 0).toNat true) ((K i).getD j 0).toNat 0 (c + 1) with
    | none => none
    | some r1 =>
     match qfH K f r1.2.1 i (j + 1) r1.2.2 with
     | none => none
     | some r2 => some ((((K i).getD j 0).toNat,(i : Int),c,false) :: (r1.1 ++ r2.1),r2.2.1,r2.2.2)
   else qfH K f s i (j + 1) c
  else some ([(i,0,c,true)],s,c + 1)
theorem qWH {K : Nat → List Int} : ∀ (f : Nat) (s : List Bool) (i j c : Nat) (r : List Ev × List Bool × Nat),qfH K f s i j c = some r → dfs K s i j c = r := by
 intro f
 induction f with
 | zero => intro s i j c r h;cases h
 | succ f ih =>
  intro s i j c r h
  rw [qfH] at h
  split at h
  ·rename_i hj
   split at h
   ·rename_i hk
    split at h
    ·cases h
    ·rename_i r1 h1
     split at h
     ·cases h
     ·rename_i r2 h2
      cases h
      rw [qF5 hj hk,ih _ _ _ _ _ h1,ih _ _ _ _ _ h2]
   ·rename_i hk
    rw [qDD hj (by simpa using hk)]
    exact ih _ _ _ _ _ h
  ·rename_i hj
   cases h
   exact qDK hj
def qtJ (t : List qAH) (f : Nat) : Option St :=
 if t.length = 0 then none else
 match qfH (qAC t) f ((List.replicate t.length false).set 0 true) 0 0 1 with
 | some r => some ((st0 t.length).run ((0, -1,0,false) :: r.1))
 | none => none
theorem qdL {t : List qAH} {f : Nat} {y : St} (h : qtJ t f = some y) : fin t = y := by
 unfold qtJ at h
 split at h
 ·cases h
 ·rename_i h0
  split at h
  ·rename_i r hr
   cases h
   unfold fin qaR qeN
   rw [if_neg h0,qZY,qZY,List.append_nil,qWH _ _ _ _ _ _ hr]
  ·cases h
def qnY (t : List qAH) (k f : Nat) : Option (List qAH) :=
 match qfH (qAC t) f ((List.replicate t.length false).set k true) k 0 0 with
 | some r => some (({ out := [mkN (t.getD k qAB.dflt) (-1)],P := [0] } : PSt).run t r.1).out
 | none => none
theorem qY5 {t : List qAH} {k f : Nat} {x : List qAH} (h : qnY t k f = some x) : qNV t (qAC t) [] (List.replicate t.length false) k (-1) = x := by
 unfold qnY at h
 split at h
 ·rename_i r hr
  cases h
  unfold qNV pS
  rw [qWH _ _ _ _ _ _ hr]
  rfl
 ·cases h
def quG (t : List qAH) (i : Int) (f : Nat) : Option (List qAH) :=
 match qtJ t f,qnY t 0 f with
 | some y,some x =>
  if qFH t && decide (t.length ≤ 45) && qFH x && decide (y.L.length ≤ x.length) && decide (x.length ≤ 1000) && decide (0 < t.length) then
   match qU5 (qEG y.L) i with
   | none => some [qYK]
   | some k => match qnY x k f with | some z => some (qiA z) | none => none
  else none
 | _,_ => none
theorem qdG {t : List qAH} {i : Int} {f : Nat} {T : List qAH} (h : quG t i f = some T) : qTE t ∧ qcG t i = T := by
 unfold quG at h
 split at h
 ·rename_i y x hy hx
  split at h
  ·rename_i hc
   simp only [Bool.and_eq_true,decide_eq_true_eq] at hc
   have e1 := qdL hy
   have e0 : ¬ t = [] := fun e => by rw [e] at hc;exact absurd hc.2 (by decide)
   have e2 : qEF t = x := by unfold qEF;rw [if_neg e0];exact qY5 hx
   refine ⟨⟨hc.1.1.1.1.1,hc.1.1.1.1.2,by rw [e2];exact hc.1.1.1.2,by rw [e1,e2];exact hc.1.1.2,by rw [e2];exact hc.1.2⟩,?_⟩
   unfold qcG
   rw [e1,e2]
   split at h
   ·rename_i hk;rw [hk];exact Option.some.inj h
   ·rename_i k hk
    rw [hk]
    split at h
    ·rename_i z hz
     show qeX x k = T
     unfold qeX
     rw [qY5 hz]
     exact Option.some.inj h
    ·cases h
  ·cases h
 ·cases h
end Go.Vc

namespace Go.Vc
open Go.Proofs
set_option maxRecDepth 100000
set_option maxHeartbeats 40000000
abbrev qrM : List qAH := [((0 : Int),(0 : Int),([] : List UInt8),([] : List qAL),([] : List UInt8),(-1 : Int),([1] : List Int)),((1 : Int),(0 : Int),([104,116,109,108] : List UInt8),([] : List qAL),([] : List UInt8),(0 : Int),([2,3] : List Int)),((1 : Int),(0 : Int),([111,117,116,112,117,116] : List UInt8),([([102,111,114],[97,32,98])] : List qAL),([] : List UInt8),(1 : Int),([] : List Int)),((1 : Int),(0 : Int),([97] : List UInt8),([([104,114,101,102],[35,99]),([110,97,109,101],[100])] : List qAL),([] : List UInt8),(1 : Int),([] : List Int))]
abbrev qnZ : List qAH := [((0 : Int),(0 : Int),([] : List UInt8),([] : List qAL),([] : List UInt8),(-1 : Int),([1,2] : List Int)),((1 : Int),(0 : Int),([111,117,116,112,117,116] : List UInt8),([([102,111,114],[97,32,98])] : List qAL),([] : List UInt8),(0 : Int),([] : List Int)),((1 : Int),(0 : Int),([97] : List UInt8),([([104,114,101,102],[35,99]),([110,97,109,101],[100])] : List qAL),([] : List UInt8),(0 : Int),([] : List Int))]
instance (priority := 5000) ZN_new : FnM BA 36 [.str [100,105,118]] [] True (.loc 0 0) [(0,.box [.own 1,.own 2,.nils,.int .i64 5,.int .i64 0,.int .i64 0,.int .i64 0,.int .i64 0,.bool false,.bool false,.str [100,105,118]]),(1,.own qAB [((0 : Int),(0 : Int),([] : List UInt8),([] : List qAL),([] : List UInt8),(-1 : Int),([1] : List Int)),((1 : Int),(0 : Int),([104,116,109,108] : List UInt8),([] : List qAL),([] : List UInt8),(0 : Int),([] : List Int))]),(2,.own qAI [1])] := by
 refine FnM.intro (N := 34) [0,2,3,4,10] [] 0 Tryz.call36 Tryz.func36 rfl rfl (by kernel_rfl) (fun hpre => ?_)
 repeat' ((conv => whnf);first|(with_reducible first|rfl|exact qAF|exact qAG)|exact True.intro|(intro hq;first|(exfalso;revert hq;decide +kernel)|clear hq|skip)|refine WA ?_ ?_|refine WF ?_|refine W1 rfl ?_ ?_|refine W2 rfl ?_ ?_|refine W3 rfl ?_ ?_|refine W4 ?_ ?_|refine W5 rfl ?_ ?_|refine W6 ?_ ?_|refine WN ?_|refine X1 (W1 rfl ?_ ?_)|refine X1 (W2 rfl ?_ ?_)|refine X2 (W7 rfl ?_ ?_)|refine X3 (W7 rfl ?_ ?_)|refine X4 (W7 rfl ?_ ?_)|refine X5 (W7 rfl ?_ ?_)|refine X7 (by conv => lhs;cbv) rfl ?_|refine X8 (by conv => lhs;cbv) ?_|refine LoopStop.ug 500 ?_|refine ZStop.dir ?_|(refine Ob.mk ?_;decide +kernel))
 all_goals (first | rfl | decide +kernel)
instance (priority := 5000) ZN_run : FnM BA 37 [.loc 0 0,.str (60 :: 111 :: 117 :: 116 :: 112 :: 117 :: 116 :: 32 :: 102 :: 111 :: 114 :: 61 :: 39 :: 97 :: 32 :: 98 :: 39 :: 62 :: 60 :: 47 :: 111 :: 117 :: 116 :: 112 :: 117 :: 116 :: 62 :: 60 :: 97 :: 32 :: 104 :: 114 :: 101 :: 102 :: 61 :: 35 :: 99 :: 32 :: 110 :: 97 :: 109 :: 101 :: 61 :: 100 :: 62 :: 60 :: 47 :: 97 :: 62 :: [])] [(0,.box [.own 1,.own 2,.nils,.int .i64 5,.int .i64 0,.int .i64 0,.int .i64 0,.int .i64 0,.bool false,.bool false,.str [100,105,118]]),(1,.own qAB [((0 : Int),(0 : Int),([] : List UInt8),([] : List qAL),([] : List UInt8),(-1 : Int),([1] : List Int)),((1 : Int),(0 : Int),([104,116,109,108] : List UInt8),([] : List qAL),([] : List UInt8),(0 : Int),([] : List Int))]),(2,.own qAI [1])] True (.tup []) [(0,.box [.own 1,.own 3,.nils,.int .i64 5,.int .i64 0,.int .i64 0,.int .i64 0,.int .i64 0,.bool false,.bool false,.str [100,105,118]]),(1,.own qAB qrM),(3,.own qAI [1])] := by
 refine FnM.intro (N := 46) [0,1,4,5,6,7,35,42,44,45] [] 3 Tryz.call37 Tryz.func37 rfl rfl (by kernel_rfl) (fun hpre => ?_)
 repeat' ((conv => whnf);first|(with_reducible first|rfl|exact qAF|exact qAG)|exact True.intro|(intro hq;first|(exfalso;revert hq;decide +kernel)|clear hq|skip)|refine WA ?_ ?_|refine WF ?_|refine W1 rfl ?_ ?_|refine W2 rfl ?_ ?_|refine W3 rfl ?_ ?_|refine W4 ?_ ?_|refine W5 rfl ?_ ?_|refine W6 ?_ ?_|refine WN ?_|refine X1 (W1 rfl ?_ ?_)|refine X1 (W2 rfl ?_ ?_)|refine X2 (W7 rfl ?_ ?_)|refine X3 (W7 rfl ?_ ?_)|refine X4 (W7 rfl ?_ ?_)|refine X5 (W7 rfl ?_ ?_)|refine X7 (by conv => lhs;cbv) rfl ?_|refine X8 (by conv => lhs;cbv) ?_|refine LoopStop.ug 500 ?_|refine ZStop.dir ?_|(refine Ob.mk ?_;decide +kernel))
 all_goals (first | rfl | decide +kernel)
theorem qXY : qTE qrM ∧ qcG qrM 1 = qnZ := qdG (f := 100) (by decide +kernel)
instance ZN_fragA : FnM BA 15 [.str (60 :: 111 :: 117 :: 116 :: 112 :: 117 :: 116 :: 32 :: 102 :: 111 :: 114 :: 61 :: 39 :: 97 :: 32 :: 98 :: 39 :: 62 :: 60 :: 47 :: 111 :: 117 :: 116 :: 112 :: 117 :: 116 :: 62 :: 60 :: 97 :: 32 :: 104 :: 114 :: 101 :: 102 :: 61 :: 35 :: 99 :: 32 :: 110 :: 97 :: 109 :: 101 :: 61 :: 100 :: 62 :: 60 :: 47 :: 97 :: 62 :: []),.str [100,105,118]] [] True (.agg [.rd qAB qnZ]) [] := by
 refine FnM.intro (N := 28) [0,1,4,5,7] [(5,[0,0,0,1,0,0,0,0,1,1,1,1,1,1,3,3]),(5000005,[5])] 0 Tryz.call15 Tryz.func15 rfl rfl (by kernel_rfl) (fun hpre => ?_)
 repeat' ((conv => whnf);first|(with_reducible first|rfl|exact qAF|exact qAG)|exact True.intro|(intro hq;first|(exfalso;revert hq;decide +kernel)|clear hq|skip)|refine WA ?_ ?_|refine WF ?_|refine W1 rfl ?_ ?_|refine W2 rfl ?_ ?_|refine W3 rfl ?_ ?_|refine W4 ?_ ?_|refine W5 rfl ?_ ?_|refine W6 ?_ ?_|refine WN ?_|refine X1 (W1 rfl ?_ ?_)|refine X1 (W2 rfl ?_ ?_)|refine X2 (W7 rfl ?_ ?_)|refine X3 (W7 rfl ?_ ?_)|refine X4 (W7 rfl ?_ ?_)|refine X5 (W7 rfl ?_ ?_)|refine X7 (by conv => lhs;cbv) rfl ?_|refine X8 (by conv => lhs;cbv) ?_|refine LoopStop.ug 500 ?_|refine ZStop.dir ?_|(refine Ob.mk ?_;decide +kernel))
 all_goals (first | exact Ob.mk qXY.1 | exact qXY.1 | exact congrArg (fun l => SV.rd qAB l) qXY.2 | rfl | decide +kernel | trace_state)
instance ZN_frag : Fn BB 15 [.str (60 :: 111 :: 117 :: 116 :: 112 :: 117 :: 116 :: 32 :: 102 :: 111 :: 114 :: 61 :: 39 :: 97 :: 32 :: 98 :: 39 :: 62 :: 60 :: 47 :: 111 :: 117 :: 116 :: 112 :: 117 :: 116 :: 62 :: 60 :: 97 :: 32 :: 104 :: 114 :: 101 :: 102 :: 61 :: 35 :: 99 :: 32 :: 110 :: 97 :: 109 :: 101 :: 61 :: 100 :: 62 :: 60 :: 47 :: 97 :: 62 :: []),.str [100,105,118]] True (.agg [.rd qAB qnZ]) :=
 ⟨ZN_fragA.call,ZN_fragA.ok⟩
end Go.Vc

namespace Go.Vc
open Go.Proofs
open Go.Vc.W
set_option maxRecDepth 100000
set_option maxHeartbeats 8000000
abbrev qYH : List UInt8 := [97,98,99,100,101,102,103,104,105,106,107,108,109,110,111,112,113,114,115,116,117,118,119,120,121,122,65,66,67,68,69,70,71,72,73,74,75,76,77,78,79,80,81,82,83,84,85,86,87,88,89,90]
def qVD (c : UInt8) : Bool := qYH.contains c
def qIO (l : List UInt8) : List UInt8 := ((l.reverse.dropWhile qVD).reverse).dropWhile qVD
theorem qbP (l : List UInt8) : Lib.trimS l qYH = qIO l := rfl
theorem qWR (l : List UInt8) : (qIO l).length ≤ l.length := by
 unfold qIO
 have h1 := (List.dropWhile_sublist qVD (l := (l.reverse.dropWhile qVD).reverse)).length_le
 have h2 := (List.dropWhile_sublist qVD (l := l.reverse)).length_le
 simp at h1 h2 ⊢
 omega
theorem qdA (p : UInt8 → Bool) (l : List UInt8) : l.dropWhile p = [] ↔ ∀ x ∈ l,p x = true := by
 induction l with
 | nil => simp
 | cons c r ih =>
  rw [List.dropWhile_cons]
  split
  ·rename_i h;rw [ih];simp [h]
  ·rename_i h;simp [h]
theorem qUK {l : List UInt8} (h : qIO l = []) : ∀ x ∈ l,qVD x = true := by
 unfold qIO at h
 have h1 := (qdA qVD _).1 h
 intro x hx
 have key : ∀ (m : List UInt8),(∀ y ∈ m.dropWhile qVD,qVD y = true) → ∀ y ∈ m,qVD y = true := by
  intro m
  induction m with
  | nil => intro _ y hy;cases hy
  | cons c r ih =>
   intro hm y hy
   rw [List.dropWhile_cons] at hm
   by_cases hc : qVD c = true
   ·rw [if_pos hc] at hm
    rcases List.mem_cons.1 hy with rfl | hy
    ·exact hc
    ·exact ih hm y hy
   ·rw [if_neg hc] at hm;exact hm y hy
 exact key l.reverse (fun y hy => h1 y (List.mem_reverse.2 hy)) x (List.mem_reverse.2 hx)
theorem qbQ : ∀ c : UInt8,qVD c = true → isSp c.toNat = false := by
 have key : ∀ k : _root_.Fin 256,(qVD (UInt8.ofNat k.val) = true → isSp (k.val : Int) = false) := by decide +kernel
 intro c hc
 have := key ⟨c.toNat,c.toNat_lt⟩
 simp only [UInt8.ofNat_toNat] at this
 exact this hc
def qEK (s : List UInt8) : Bool := !(s == []) && decide ((s.length : Int) ≤ 20) && (qIO s == [])
theorem qD3 {s : List UInt8} (h : qEK s = true) : s ≠ [] ∧ s.length ≤ 20 ∧ qeZ s := by
 unfold qEK at h
 simp only [Bool.and_eq_true,Bool.not_eq_true',beq_eq_false_iff_ne,decide_eq_true_eq,beq_iff_eq] at h
 exact ⟨h.1.1,by omega,fun c hc => qbQ c (qUK h.2 c hc)⟩
end Go.Vc

namespace Go.Vc
open Go.Proofs
open Go.Vc.W
set_option maxRecDepth 10000
theorem qjK {p v : List UInt8} (k s : Int) (nn nm : List UInt8) (hv : v.length ≤ 150) (hp : p.length ≤ 20) : (qJT p k s nn nm v).length ≤ 4000 := by
  unfold qJT
  generalize qCS k s nn nm = kind
  have h1 := qPC kind v
  obtain ⟨h2,h3⟩ := qcZ (qAQ kind v)
  split
  · split
    · simp
    · rw [List.length_append];omega
  · split
    · omega
    · split
      · have : (((qAQ kind v).map (p ++ ·)).getD 0 []).length ≤ 171 := by
          rw [List.getD_eq_getElem?_getD,List.getElem?_map]
          cases e : (qAQ kind v)[0]? with
          | none => simp
          | some x =>
            have := h3 x (List.mem_of_getElem? e)
            show (p ++ x).length ≤ _
            rw [List.length_append];omega
        rw [List.length_cons];omega
      · have h4 := qTT ((qAQ kind v).map (p ++ ·))
        rw [qWS] at h4
        have h5 : (qAQ kind v).length * p.length ≤ 151 * 20 := Nat.mul_le_mul (by omega) hp
        omega
theorem qYJ {p : List UInt8} {t : List qAH} (hp : p.length ≤ 20) (ht : t.length ≤ 45) (h : ∀ n ∈ t,n.2.2.1.length ≤ 40 ∧ n.2.2.2.1.length ≤ 14 ∧ n.2.2.2.2.2.2.length ≤ 60 ∧ ∀ a ∈ n.2.2.2.1,a.1.length ≤ 40 ∧ a.2.length ≤ 150) :
  ∀ n ∈ qbR p t,n.2.2.1.length ≤ 40 ∧ n.2.2.2.1.length ≤ 14 ∧ n.2.2.2.2.2.2.length ≤ 60 ∧ ∀ a ∈ n.2.2.2.1,a.1.length ≤ 40 ∧ a.2.length ≤ 4000 := by
 intro n hn
 obtain ⟨m,hm,rfl⟩ := List.mem_map.1 hn
 obtain ⟨h1,h2,h3,h4⟩ := h m hm
 by_cases hk : m.1 = 1
 ·rw [qGW hk]
  refine ⟨h1,by show (m.2.2.2.1.map _).length ≤ _;rw [List.length_map];exact h2,h3,fun a ha => ?_⟩
  obtain ⟨b,hb,rfl⟩ := List.mem_map.1 ha
  exact ⟨(h4 b hb).1,qjK _ _ _ _ (h4 b hb).2 hp⟩
 ·rw [qK2 hk]
  exact ⟨h1,h2,h3,fun a ha => ⟨(h4 a ha).1,by have := (h4 a ha).2;omega⟩⟩
end Go.Vc

namespace Go.Vc
open Go.Proofs
open Go.Vc.W
set_option maxRecDepth 100000
set_option maxHeartbeats 8000000
def qdU (n p : Int) : Int := if n < 0 ∨ p < 0 ∨ n > 1048576 ∨ p > 20 then 0 else 3 * n * (6 + p)
theorem qkF {n p : Int} (h : n < 0 ∨ p < 0 ∨ n > 1048576 ∨ p > 20) : qdU n p = 0 := if_pos h
theorem qjE {n p : Int} (h : ¬ (n < 0 ∨ p < 0 ∨ n > 1048576 ∨ p > 20)) : qdU n p = 3 * n * (6 + p) := if_neg h
theorem qeC (n p : Int) : (6 + p) * 3 * n = 3 * n * (6 + p) := by rw [Int.mul_comm (6 + p) 3,Int.mul_assoc,Int.mul_comm (6 + p) n, ← Int.mul_assoc]
theorem qgB {n p : Int} (h : ¬ (n < 0 ∨ p < 0 ∨ n > 1048576 ∨ p > 20)) : qML (3 * n * (6 + p)) ∧ qML (3 * n) ∧ qML (6 + p) ∧ qML ((6 + p) * 3) := by
 have h1 : 0 ≤ 3 * n * (6 + p) := Int.mul_nonneg (by omega) (by omega)
 have h2 : 3 * n * (6 + p) ≤ 3145728 * 26 := Int.mul_le_mul (by omega) (by omega) (by omega) (by omega)
 refine ⟨?_,?_,?_,?_⟩
 ·revert h1 h2
  generalize 3 * n * (6 + p) = z
  intro h1 h2
  unfold qML;omega
 all_goals (unfold qML;omega)
instance eMost (n p : Int) : Fn BB 16 [.int .i64 n,.int .i64 p] True (.int .i64 (qdU n p)) := by
 refine Fn.intro (N := 24) [0,1,4,5,12] [] Tryz.call16 Tryz.func16 rfl rfl (by kernel_rfl) (fun hpre => ?_)
 repeat' ((conv => whnf);first|(with_reducible first|rfl|exact qAF|exact qAG)|exact True.intro|intro _|refine WA ?_ ?_|refine WF ?_|refine W1 rfl ?_ ?_|refine W2 rfl ?_ ?_|refine W3 rfl ?_ ?_|refine W4 ?_ ?_|refine W5 rfl ?_ ?_|refine W6 ?_ ?_|refine WN ?_|refine X1 (W1 rfl ?_ ?_)|refine X1 (W2 rfl ?_ ?_)|refine X2 (W7 rfl ?_ ?_)|refine X3 (W7 rfl ?_ ?_)|refine X4 (W7 rfl ?_ ?_)|refine X5 (W7 rfl ?_ ?_))
 all_goals (try (conv => whnf))
 all_goals (try first|exact obA|refine Ob.mk ?_)
 all_goals (try simp only [ZA,ZB,ZC,ZD,ZE,ZF,ZG,ZH,ZI,ZJ,ZK,ZL,ZM,ZN,ZO,Int.toNat_natCast,UInt8.ofNat_toNat,cast_eq] at *)
 all_goals (try (have h1 : ¬ (n < 0 ∨ n > 1048576) := by (have h := ‹(decide (n < 0) || decide (n > 1048576)) = false›;simpa using h)))
 all_goals (try (have h2 : ¬ (p < 0 ∨ p > 20) := by (have h := ‹(decide (p < 0) || decide (p > 20)) = false›;simpa using h)))
 all_goals (first | exact (qkF (by omega)).symm | skip)
 all_goals (have hm : ¬ (n < 0 ∨ p < 0 ∨ n > 1048576 ∨ p > 20) := by omega)
 all_goals (have hb := qgB hm)
 all_goals (first | exact hb.2.2.1 | exact hb.2.2.2 | (rw [qeC];first | exact hb.1 | exact (qjE hm).symm))
instance nVal (p : List UInt8) (k s : Int) (nn d : List UInt8) (up : Int) (nm v : List UInt8) :
  Fn BB 17 [.str p,.agg [.int .i64 k,.int .i64 s,.str nn,.nils,.str d,.int .i64 up,.nils],.agg [.str nm,.str v]] (nn.length ≤ 1000 ∧ v.length ≤ 10000 ∧ p.length ≤ 60) (.str (qJT p k s nn nm v)) :=
 Fn.wk (eVal p k s nn [] d up [] nm v) fun r β => qeG rfl fun i x y h1 h2 v hv => by
  match i,h1,h2 with
  | 0,h1,h2 => cases h1;cases h2;exact hv
  | 1,h1,h2 => cases h1;cases h2;exact qbV hv
  | 2,h1,h2 => cases h1;cases h2;exact hv
theorem qkC : qIL [117] qnZ := by unfold qIL;decide +kernel
instance eAwake : Fn BB 8 [] True (.bool true) := by
 refine Fn.intro (N := 69) [0,1] [] Tryz.call8 Tryz.func8 rfl rfl (by kernel_rfl) (fun hpre => ?_)
 repeat' ((conv => whnf);first|(with_reducible first|rfl|exact qAF|exact qAG)|exact True.intro|intro _|refine WA ?_ ?_|refine WF ?_|refine W1 rfl ?_ ?_|refine W2 rfl ?_ ?_|refine W3 rfl ?_ ?_|refine W4 ?_ ?_|refine W5 rfl ?_ ?_|refine W6 ?_ ?_|refine WN ?_|refine X1 (W1 rfl ?_ ?_)|refine X1 (W2 rfl ?_ ?_)|refine X2 (W7 rfl ?_ ?_)|refine X3 (W7 rfl ?_ ?_)|refine X4 (W7 rfl ?_ ?_)|refine X5 (W7 rfl ?_ ?_))
 all_goals (try (conv => whnf))
 all_goals (try first|exact obA|refine Ob.mk ?_)
 all_goals (try exact qkC)
 all_goals (try (exact ⟨by decide,by decide,by decide⟩))
 all_goals (try (first | decide +kernel | rfl))
 all_goals trace_state
end Go.Vc

namespace Go.Vc
open Go.Proofs
open Go.Vc.W
set_option maxRecDepth 100000
set_option maxHeartbeats 8000000
instance kTrim (s : List UInt8) : Fn BB 14 [.str s,.str qYH] True (.str (qIO s)) := by
 refine Fn.liftB Tryz.call14 fun hp r β w vs hG m h => ?_
 obtain ⟨rfl,h1,h2⟩ := h.str2
 refine ⟨_,(Any.strings_Trim_laid Tryz.lays160 (by kernel_rfl) ⟨s.toArray⟩ ⟨qYH.toArray⟩ w (by show s.toArray.size ≤ _;simpa using h1) (by decide) (fun j b hb => ?_)).mono fun e w' hh => ?_,.str (by have := qWR s;omega)⟩
 ·have h3 : ∀ b ∈ qYH,b < 128 := by decide
  exact h3 b (List.mem_of_getElem? hb)
 ·obtain ⟨rfl,hb⟩ := hh
  refine ⟨?_,hb⟩
  show _ = Ending.returned (Value.string ⟨(qIO s).toArray⟩)
  rw [← qbP]
instance kLetters (s : List UInt8) : Fn BB 6 [.str s] True (.bool (qEK s)) := by
 refine Fn.intro (N := 15) [0,2] [] Tryz.call6 Tryz.func6 rfl rfl (by kernel_rfl) (fun hpre => ?_)
 repeat' ((conv => whnf);first|(with_reducible first|rfl|exact qAF|exact qAG)|exact True.intro|intro _|refine WA ?_ ?_|refine WF ?_|refine W1 rfl ?_ ?_|refine W2 rfl ?_ ?_|refine W3 rfl ?_ ?_|refine W4 ?_ ?_|refine W5 rfl ?_ ?_|refine W6 ?_ ?_|refine WN ?_|refine X1 (W1 rfl ?_ ?_)|refine X1 (W2 rfl ?_ ?_)|refine X2 (W7 rfl ?_ ?_)|refine X3 (W7 rfl ?_ ?_)|refine X4 (W7 rfl ?_ ?_)|refine X5 (W7 rfl ?_ ?_))
 all_goals (try (conv => whnf))
 all_goals (try first|exact obA|refine Ob.mk ?_)
 all_goals (try rfl)
 all_goals trace_state
theorem qZZ {t : List qAH} (h : qIP t 40 = true) : t.length ≤ 45 ∧ ∀ n ∈ t,n.2.2.1.length ≤ 40 ∧ n.2.2.2.1.length ≤ 14 ∧ n.2.2.2.2.2.2.length ≤ 60 ∧ ∀ a ∈ n.2.2.2.1,a.1.length ≤ 40 ∧ a.2.length ≤ 150 := by
 unfold qIP at h
 rw [Bool.and_eq_true,decide_eq_true_eq,List.all_eq_true] at h
 refine ⟨by omega,fun n hn => ?_⟩
 have := h.2 n hn
 unfold qTU qIE at this
 simp only [Bool.and_eq_true,decide_eq_true_eq,List.all_eq_true] at this
 have h4 : n.2.2.2.2.2.2 = n.kids := rfl
 exact ⟨by omega,by omega,by rw [h4];omega,fun a ha => this.2.2 a ha⟩
theorem qWO {a b : List UInt8} {t : List qAH} (h : qIP t 40 = true) (ha : qEK a = true) (hb : qEK b = true) : qIL a t ∧ qIL b (qbR a t) ∧ qIL (b ++ a) t := by
 obtain ⟨h1,h2⟩ := qZZ h
 have la := (qD3 ha).2.1
 have lb := (qD3 hb).2.1
 have h3 := qYJ la h1 h2
 refine ⟨⟨by omega,by omega,fun n hn => ?_⟩,⟨by omega,by rw [show (qbR a t).length = t.length from List.length_map _];omega,fun n hn => ?_⟩,⟨by rw [List.length_append];omega,by omega,fun n hn => ?_⟩⟩
 ·obtain ⟨q1,q2,q3,q4⟩ := h2 n hn
  exact ⟨by omega,by omega,by omega,fun x hx => by have := (q4 x hx).2;omega⟩
 ·obtain ⟨q1,q2,q3,q4⟩ := h3 n hn
  exact ⟨by omega,by omega,by omega,fun x hx => by have := (q4 x hx).2;omega⟩
 ·obtain ⟨q1,q2,q3,q4⟩ := h2 n hn
  exact ⟨by omega,by omega,by omega,fun x hx => by have := (q4 x hx).2;omega⟩
theorem qZT {a b c : Bool} (h : (!a || !b || !c) = false) : a = true ∧ b = true ∧ c = true := by
 cases a <;> cases b <;> cases c <;> simp_all
instance kTwice (a b : List UInt8) (t : List qAH) : Fn BB 4 [.str a,.str b,.agg [.rd qAB t]] True (.bool true) := by
 refine Fn.intro (N := 35) [0,1,2,5,6,19] [(3,[0,0,1,1,1,0,0,0,1,3,3,3,3,3,3])] Tryz.call4 Tryz.func4 rfl rfl (by kernel_rfl) (fun hpre => ?_)
 repeat' ((conv => whnf);first|(with_reducible first|rfl|exact qAF|exact qAG)|exact True.intro|intro _|refine WA ?_ ?_|refine WF ?_|refine W1 rfl ?_ ?_|refine W2 rfl ?_ ?_|refine W3 rfl ?_ ?_|refine W4 ?_ ?_|refine W5 rfl ?_ ?_|refine W6 ?_ ?_|refine WN ?_|refine X1 (W1 rfl ?_ ?_)|refine X1 (W2 rfl ?_ ?_)|refine X2 (W7 rfl ?_ ?_)|refine X3 (W7 rfl ?_ ?_)|refine X4 (W7 rfl ?_ ?_)|refine X5 (W7 rfl ?_ ?_))
 all_goals (try (conv => whnf))
 all_goals (try first|exact obA|refine Ob.mk ?_)
 all_goals (have hh := qZT ‹(!qIP t 40 || !qEK a || !qEK b) = false›)
 all_goals (have hp := qWO hh.1 hh.2.1 hh.2.2;have la := (qD3 hh.2.1).2.1;have lb := (qD3 hh.2.2).2.1)
 all_goals (first | exact hp.1 | exact hp.2.1 | exact hp.2.2 | omega | (rw [qW5 (qD3 hh.2.1).2.2,qWL.2 rfl];rfl) | skip)
 all_goals trace_state
end Go.Vc

namespace Go.Vc
open Go.Proofs
set_option maxRecDepth 100000
abbrev qsW : List (String × DataW Unit) := [("unicode/utf8.acceptRanges", YtjnmepijcndcpaaGreatDoor.Rows.laid_unicode_utf8_acceptRanges), ("unicode/utf8.first", YtjnmepijcndcpaaGreatDoor.Rows.laid_unicode_utf8_first)]
theorem qiI : (YtjnmepijcndcpaaGreatDoor.Rows.laid_unicode_utf8_acceptRanges : DataW Unit) = Lib.acceptData := by kernel_rfl
theorem qJU (W : World) (b o : Nat) (v : Value) (h : W.cell? ⟨b,o,none⟩ = some v) : qKM (fun b => W.heap[b]?) b o = some v := by
 unfold qKM
 simp only [World.cell?] at h
 cases hb : W.heap[b]? with
 | none => rw [hb] at h;cases h
 | some x =>
  rw [hb] at h
  simp only [hb]
  cases x <;> first | exact h | (cases h)
theorem qc9 (W : World) (hL : laidMetH Tryz.prog qsW W) (hsh : W.ShapedOpen Tryz.prog) : BB.G fun b => W.heap[b]? := by
 have h3 := Lib.laidMet.reads hL (.tail _ (.head _))
 have h4 := Lib.laidMet.reads hL (.head _)
 have h3' : Lib.VarReads Tryz.prog W "unicode/utf8.first" Lib.firstData := by
  have e : (YtjnmepijcndcpaaGreatDoor.Rows.laid_unicode_utf8_first : DataW Unit) = Lib.firstData := Pinned.utf8First_eq
  rw [← e];exact h3
 have h4' : Lib.VarReads Tryz.prog W "unicode/utf8.acceptRanges" Lib.acceptData := by rw [← qiI]; exact h4
 have ht : Lib.Utf8Tabs 0 1 W := utf8Tabs_of_readsT (ρ := Tryz.lays260_ren) (U8Types.of260 Tryz.lays260) ⟨by kernel_rfl,by kernel_rfl,by kernel_rfl,by kernel_rfl,by kernel_rfl,by kernel_rfl,by kernel_rfl⟩ h3' h4'
 obtain ⟨m,hm⟩ := Tryz.laysM143.s1_3 W hsh
 exact ⟨fun c hc => qJU W _ _ _ (ht.1 c hc),fun i hi => ⟨qJU W _ _ _ (ht.2 i hi).1,qJU W _ _ _ (ht.2 i hi).2⟩,⟨m,qJU W _ _ _ hm⟩⟩
end Go.Vc
