/- A part of the proof: lemmas and walks that the last text of the claim joins; no condition. -/
import Derived.Test.YtjnmepijcndcpaaGreatReferLeadsTG
import Derived.Shelf.Spec.SlicesGrow
import Derived.Laws.AppendOwn
set_option linter.unusedVariables false
set_option linter.unusedSimpArgs false
set_option maxHeartbeats 8000000
namespace Go.Vc
open Go.Proofs
open Go.Vc.W
set_option maxRecDepth 10000
set_option maxHeartbeats 4000000
def elB (t : List qAE) (i : Int) : Bool := (nd t i).1 == 1
def qBO (t : List qAE) : List Int := (qA9 t).filter (elB t)
def qk9 (n : qAE) : SV := .agg [.int .i64 n.1,.int .i64 n.2.1,.str n.2.2.1,.rd qAP n.2.2.2.1,.str n.2.2.2.2.1,.int .i64 n.2.2.2.2.2.1,.rd qAH n.2.2.2.2.2.2]
theorem qZX {p : Int → Bool} {L : List Int} {k : Nat} (h : k < L.length) (d : Int) (hp : p (L.getD k d) = true) : (L.filter p).getD ((L.take k).filter p).length d = L.getD k d ∧ ((L.take k).filter p).length < (L.filter p).length := by
 have e : L = L.take k ++ (L.getD k d :: L.drop (k + 1)) := by
  have h2 : L.getD k d = L[k] := by simp [List.getD,h]
  rw [h2,List.getElem_cons_drop,List.take_append_drop]
 have e2 : L.filter p = (L.take k).filter p ++ (L.getD k d :: (L.drop (k + 1)).filter p) := by
  conv => lhs;rw [e]
  rw [List.filter_append,List.filter_cons,if_pos hp]
 rw [e2]
 constructor
 ·rw [List.getD_eq_getElem?_getD,List.getElem?_append_right (Nat.le_refl _),Nat.sub_self];rfl
 ·rw [List.length_append,List.length_cons];omega
instance jElems (t : List qAE) : Fn BB 176 [.agg [.rd qAC t]] True (.fn 207 [.el (.sl qAC) [t] 0 0]) := by
 refine Fn.intro (N := 4) [0,1,2] [] Tryz.call176 Tryz.func176 rfl rfl (by kernel_rfl) (fun hpre => ?_)
 all_goals exact vcA
instance jListY (y : YS) (l : List qAE) : Fn (BB.withY y) 64 [.agg [.rd qAC l]] (l.length ≤ 45) (.rd qAH (qBK (fin l).L)) := ⟨(oList l).call,(oList l).ok⟩
instance jIt (t : List qAE) : It BB 207 [.el (.sl qAC) [t] 0 0] (qA4 t 45 = true) (qBO t).length (fun k => [.int .i64 ((qBO t).getD k qAH.dflt),qk9 (nd t ((qBO t).getD k qAH.dflt))]) := by
 refine It.intro (N := 29) [0,1,4,5,7,8,9,10,27] [] 0 Tryz.call207 Tryz.func207 rfl rfl (by kernel_rfl) (fun hpre yl => ?_)
 have hl := qUH hpre
 repeat' ((conv => whnf);first|(with_reducible first|rfl|exact qAF|exact qAG)|exact True.intro|intro _|refine WA ?_ ?_|refine WF ?_|refine W1 rfl ?_ ?_|refine W2 rfl ?_ ?_|refine W3 rfl ?_ ?_|refine W4 ?_ ?_|refine W5 rfl ?_ ?_|refine W6 ?_ ?_|refine WN ?_|refine X1 (W1 rfl ?_ ?_)|refine X1 (W2 rfl ?_ ?_)|refine X2 (W7 rfl ?_ ?_)|refine X3 (W7 rfl ?_ ?_)|refine X4 (W7 rfl ?_ ?_)|refine X5 (W7 rfl ?_ ?_))
 all_goals (try (conv => whnf))
 all_goals (try simp only [List.getD_cons_zero] at *)
 all_goals (try first|exact obA|refine Ob.mk ?_)
 refine LoopStop.mk (α := Nat) (fun k => [(9,.int .i64 k)]) (fun k => [(GID,.gh (some (((qA9 t).take k).filter (elB t)).length))]) 30 (fun k => k ≤ (qA9 t).length) (fun k => (qA9 t).length - k) 0 (Nat.zero_le _) ?_ (fun k hk => ?_)
 ·all_goals exact vcA
 ·by_cases hkl : k < (qA9 t).length
  ·have hat : 0 ≤ (qBK (fin t).L).getD k qAH.dflt ∧ (qBK (fin t).L).getD k qAH.dflt < t.length := qFV t k hkl _
   have fT := qiP (p := elB t) (L := qBK (fin t).L) hkl qAH.dflt
   have fF := qk0 (p := elB t) (L := qBK (fin t).L) hkl qAH.dflt
   have fG := qZX (p := elB t) (L := qBK (fin t).L) hkl qAH.dflt
   repeat' ((conv => whnf);first|(with_reducible first|rfl|exact qAF|exact qAG)|exact True.intro|intro _|refine WA ?_ ?_|refine WF ?_|refine W1 rfl ?_ ?_|refine W2 rfl ?_ ?_|refine W3 rfl ?_ ?_|refine W4 ?_ ?_|refine W5 rfl ?_ ?_|refine W6 ?_ ?_|refine WN ?_|refine X1 (W1 rfl ?_ ?_)|refine X1 (W2 rfl ?_ ?_)|refine X2 (W7 rfl ?_ ?_)|refine X3 (W7 rfl ?_ ?_)|refine X4 (W7 rfl ?_ ?_)|refine X5 (W7 rfl ?_ ?_))
   all_goals (try (conv => whnf))
   all_goals (try simp only [List.getD_cons_zero] at *)
   all_goals (try first|exact obA|refine Ob.mk ?_)
   all_goals (try simp only [Int.toNat_natCast] at *)
   all_goals (try (exact hat))
   all_goals (try (have hq := fT (by assumption)))
   all_goals (try (have hg := fG (by assumption)))
   all_goals (try (have hq := fF (by assumption)))
   all_goals (try (exact hg.2))
   all_goals (try (exact hg.1.symm))
   all_goals (try (have hn : (qBO t).getD (List.filter (elB t) (List.take k (qA9 t))).length qAH.dflt = (qBK (fin t).L).getD k qAH.dflt := hg.1;rw [hn];done))
   all_goals (try (have hql : (List.filter (elB t) (List.take (k + 1) (qA9 t))).length = (List.filter (elB t) (List.take k (qA9 t))).length + 1 := by have h := congrArg List.length hq;rw [List.length_append] at h;exact h))
   all_goals (try (refine Rnd.mk ⟨k + 1,by omega,by omega,?_⟩))
   repeat' ((conv => whnf);first|(with_reducible first|rfl|exact qAF|exact qAG)|exact True.intro|intro _|refine WA ?_ ?_|refine WF ?_|refine W1 rfl ?_ ?_|refine W2 rfl ?_ ?_|refine W3 rfl ?_ ?_|refine W4 ?_ ?_|refine W5 rfl ?_ ?_|refine W6 ?_ ?_|refine WN ?_|refine X1 (W1 rfl ?_ ?_)|refine X1 (W2 rfl ?_ ?_)|refine X2 (W7 rfl ?_ ?_)|refine X3 (W7 rfl ?_ ?_)|refine X4 (W7 rfl ?_ ?_)|refine X5 (W7 rfl ?_ ?_))
   all_goals (try (conv => whnf))
   all_goals (try first|exact obA|refine Ob.mk ?_)
   all_goals (first | exact absurd ‹(true && !true) = true› (by decide) | exact absurd ‹(true && !false) = false› (by decide) | exact absurd (Int.ofNat_lt.mpr hkl) (of_decide_eq_false ‹decide ((k : Int) < ((qBK (fin t).L).length : Int)) = false›) | (rw [hql];done) | exact congrArg (fun l : List Int => Chunk.gh (some l.length)) hq.symm | rfl | trace_state)
  ·have e : k = (qBK (fin t).L).length := by have h : (qA9 t).length = (qBK (fin t).L).length := rfl;omega
   have hx : ∀ {p : Prop},decide ((k : Int) < ((qBK (fin t).L).length : Int)) = true → p := fun h => by have h := of_decide_eq_true h;omega
   have hE : (List.filter (elB t) (List.take k (qA9 t))).length = (qBO t).length := by
    rw [e];show (List.filter (elB t) (List.take (qBK (fin t).L).length (qBK (fin t).L))).length = (List.filter (elB t) (qBK (fin t).L)).length;rw [List.take_length]
   repeat' ((conv => whnf);first|(with_reducible first|rfl|exact qAF|exact qAG)|exact True.intro|intro _|refine WA ?_ ?_|refine WF ?_|refine W1 rfl ?_ ?_|refine W2 rfl ?_ ?_|refine W3 rfl ?_ ?_|refine W4 ?_ ?_|refine W5 rfl ?_ ?_|refine W6 ?_ ?_|refine WN ?_|refine X1 (W1 rfl ?_ ?_)|refine X1 (W2 rfl ?_ ?_)|refine X2 (W7 rfl ?_ ?_)|refine X3 (W7 rfl ?_ ?_)|refine X4 (W7 rfl ?_ ?_)|refine X5 (W7 rfl ?_ ?_))
   all_goals (try (conv => whnf))
   all_goals (try simp only [List.getD_cons_zero] at *)
   all_goals (try first|exact obA|refine Ob.mk ?_)
   all_goals (try exact hx (by assumption))
   all_goals (try (refine Rnd.mk ?_;exact hx (by assumption)))
   all_goals (first | exact hE | trace_state)
def hasB (l : List qAJ) (nm v : List UInt8) : Bool := !(v == []) && (qbZ l nm == v)
instance jHas (k s : Int) (nn : List UInt8) (at_ : List qAJ) (d : List UInt8) (up : Int) (kids : List Int) (nm v : List UInt8) :
  Fn BB 143 [.agg [.int .i64 k,.int .i64 s,.str nn,.rd qAP at_,.str d,.int .i64 up,.rd qAH kids],.str nm,.str v] (at_.length ≤ 100000) (.bool (hasB at_ nm v)) := by
 refine Fn.intro (N := 23) [0,1,2,3,6,7] [] Tryz.call143 Tryz.func143 rfl rfl (by kernel_rfl) (fun hpre => ?_)
 repeat' ((conv => whnf);first|(with_reducible first|rfl|exact qAF|exact qAG)|exact True.intro|intro _|refine WA ?_ ?_|refine WF ?_|refine W1 rfl ?_ ?_|refine W2 rfl ?_ ?_|refine W3 rfl ?_ ?_|refine W4 ?_ ?_|refine W5 rfl ?_ ?_|refine W6 ?_ ?_|refine WN ?_|refine X1 (W1 rfl ?_ ?_)|refine X1 (W2 rfl ?_ ?_)|refine X2 (W7 rfl ?_ ?_)|refine X3 (W7 rfl ?_ ?_)|refine X4 (W7 rfl ?_ ?_)|refine X5 (W7 rfl ?_ ?_))
 all_goals (try (conv => whnf))
 all_goals (try first|exact obA|refine Ob.mk ?_)
 all_goals (try rfl)
 all_goals trace_state
instance jFirst1 (k s : Int) (nn : List UInt8) (at_ : List qAJ) (d : List UInt8) (up : Int) (kids : List Int) (id : List UInt8) :
  FnM BB 142 [.agg [.int .i64 k,.int .i64 s,.str nn,.rd qAP at_,.str d,.int .i64 up,.rd qAH kids],.loc 0 0] [(0,.box [.str id])] (at_.length ≤ 100000) (.bool (hasB at_ idT id)) [(0,.box [.str id])] := by
 refine FnM.intro (N := 7) [0,1,2,3] [] 1 Tryz.call142 Tryz.func142 rfl rfl (by kernel_rfl) (fun hpre => ?_)
 repeat' ((conv => whnf);first|(with_reducible first|rfl|exact qAF|exact qAG)|exact True.intro|intro _|refine WA ?_ ?_|refine WF ?_|refine W1 rfl ?_ ?_|refine W2 rfl ?_ ?_|refine W3 rfl ?_ ?_|refine W4 ?_ ?_|refine W5 rfl ?_ ?_|refine W6 ?_ ?_|refine WN ?_|refine X1 (W1 rfl ?_ ?_)|refine X1 (W2 rfl ?_ ?_)|refine X2 (W7 rfl ?_ ?_)|refine X3 (W7 rfl ?_ ?_)|refine X4 (W7 rfl ?_ ?_)|refine X5 (W7 rfl ?_ ?_))
 all_goals (try (conv => whnf))
 all_goals (try first|exact obA|refine Ob.mk ?_)
 all_goals (try rfl)
 all_goals trace_state
theorem qI2 (t : List qAE) (id : List UInt8) : firstT t id = ((qBO t).find? fun i => hasB (nd t i).2.2.2.1 idT id).getD 0 := by
 unfold firstT qEK qBO
 by_cases h : id = []
 ·rw [if_pos h]
  have : ((qA9 t).filter (elB t)).find? (fun i => hasB (nd t i).2.2.2.1 idT id) = none := by
   rw [List.find?_eq_none];intro x _;unfold hasB;rw [h];simp
  rw [this];rfl
 ·rw [if_neg h,List.find?_filter]
  congr 2
  funext i
  unfold qG1 hasB elB
  rw [beq_eq_false_iff_ne.2 h]
  cases ((nd t i).1 == 1) <;> cases (qbZ (nd t i).2.2.2.1 idT == id) <;> rfl
instance jFirst (t : List qAE) (id : List UInt8) : FnM BB 141 [.agg [.rd qAC t],.fn 142 [.loc 0 0]] [(0,.box [.str id])] (qA4 t 45 = true) (.int .i64 (firstT t id)) [(0,.box [.str id])] := by
 refine FnM.intro (N := 15) [0,1,2,3,4,5,6,8,9,10,13] [] 1 Tryz.call141 Tryz.func141 rfl rfl (by kernel_rfl) (fun hpre => ?_)
 have hl := qUH hpre
 repeat' ((conv => whnf);first|(with_reducible first|rfl|exact qAF|exact qAG)|exact True.intro|intro _|refine WA ?_ ?_|refine WF ?_|refine W1 rfl ?_ ?_|refine W2 rfl ?_ ?_|refine W3 rfl ?_ ?_|refine W4 ?_ ?_|refine W5 rfl ?_ ?_|refine W6 ?_ ?_|refine WN ?_|refine X1 (W1 rfl ?_ ?_)|refine X1 (W2 rfl ?_ ?_)|refine X2 (W7 rfl ?_ ?_)|refine X3 (W7 rfl ?_ ?_)|refine X4 (W7 rfl ?_ ?_)|refine X5 (W7 rfl ?_ ?_))
 all_goals (try (conv => whnf))
 all_goals (try first|exact obA|refine Ob.mk ?_)
 have hel : ∀ i,i < (qBO t).length → 0 ≤ (qBO t).getD i qAH.dflt ∧ (qBO t).getD i qAH.dflt < t.length := fun i hi => by
  have hm : (qBO t).getD i qAH.dflt ∈ qA9 t := by
   have : (qBO t).getD i qAH.dflt ∈ qBO t := by rw [List.getD_eq_getElem?_getD,List.getElem?_eq_getElem hi];exact List.getElem_mem _
   exact (List.mem_filter.1 this).1
  obtain ⟨j,hj,e⟩ := List.mem_iff_getElem.1 hm
  have := qFV t j hj 0
  rw [List.getD_eq_getElem?_getD,List.getElem?_eq_getElem hj] at this
  rw [← e];exact this
 refine RangeStop.mkF (α := Unit) ⟨hpre⟩ rfl (fun _ => [(1,.box [.und])]) 30 (fun i _ => ∀ j,j < i → hasB (nd t ((qBO t).getD j 0)).2.2.2.1 idT id = false) () (fun j hj => absurd hj (Nat.not_lt_zero _)) ?_ (fun i k hC hi => ?_) (fun k hC => ?_)
 ·all_goals exact vcA
 ·repeat' ((conv => whnf);first|(with_reducible first|rfl|exact qAF|exact qAG)|exact True.intro|intro _|refine WA ?_ ?_|refine WF ?_|refine W1 rfl ?_ ?_|refine W2 rfl ?_ ?_|refine W3 rfl ?_ ?_|refine W4 ?_ ?_|refine W5 rfl ?_ ?_|refine W6 ?_ ?_|refine WN ?_|refine X1 (W1 rfl ?_ ?_)|refine X1 (W2 rfl ?_ ?_)|refine X2 (W7 rfl ?_ ?_)|refine X3 (W7 rfl ?_ ?_)|refine X4 (W7 rfl ?_ ?_)|refine X5 (W7 rfl ?_ ?_))
  all_goals (try (conv => whnf))
  all_goals (try first|exact obA|refine Ob.mk ?_)
  ·exact Nat.le_trans (qCW (qIX hpre _ (hel i hi))).2.1 (by decide)
  ·rw [qI2,qjC (p := fun i => hasB (nd t i).2.2.2.1 idT id) hi hC (by assumption)];rfl
  ·refine Rnd.mk ⟨(),fun j hj => ?_,?_⟩
   ·rcases Nat.lt_or_ge j i with q | q
    ·exact hC j q
    ·have e : j = i := by omega
     rw [e];assumption
   ·all_goals exact vcA
 ·repeat' ((conv => whnf);first|(with_reducible first|rfl|exact qAF|exact qAG)|exact True.intro|intro _|refine WA ?_ ?_|refine WF ?_|refine W1 rfl ?_ ?_|refine W2 rfl ?_ ?_|refine W3 rfl ?_ ?_|refine W4 ?_ ?_|refine W5 rfl ?_ ?_|refine W6 ?_ ?_|refine WN ?_|refine X1 (W1 rfl ?_ ?_)|refine X1 (W2 rfl ?_ ?_)|refine X2 (W7 rfl ?_ ?_)|refine X3 (W7 rfl ?_ ?_)|refine X4 (W7 rfl ?_ ?_)|refine X5 (W7 rfl ?_ ?_))
  all_goals (try (conv => whnf))
  all_goals (try first|exact obA|refine Ob.mk ?_)
  all_goals (rw [qI2,qL3 (p := fun i => hasB (nd t i).2.2.2.1 idT id) hC];rfl)
instance jFirstI (t : List qAE) (id : List UInt8) : Fn BB 91 [.agg [.rd qAC t],.str id] (qA4 t 45 = true) (.int .i64 (firstT t id)) := by
 refine Fn.intro (N := 8) [0,1,2,3,4] [] Tryz.call91 Tryz.func91 rfl rfl (by kernel_rfl) (fun hpre => ?_)
 repeat' ((conv => whnf);first|(with_reducible first|rfl|exact qAF|exact qAG)|exact True.intro|intro _|refine WA ?_ ?_|refine WF ?_|refine W1 rfl ?_ ?_|refine W2 rfl ?_ ?_|refine W3 rfl ?_ ?_|refine W4 ?_ ?_|refine W5 rfl ?_ ?_|refine W6 ?_ ?_|refine WN ?_|refine X1 (W1 rfl ?_ ?_)|refine X1 (W2 rfl ?_ ?_)|refine X2 (W7 rfl ?_ ?_)|refine X3 (W7 rfl ?_ ?_)|refine X4 (W7 rfl ?_ ?_)|refine X5 (W7 rfl ?_ ?_))
 all_goals (try (conv => whnf))
 all_goals (try first|exact obA|refine Ob.mk ?_)
 all_goals (first | exact hpre | rfl | trace_state)
end Go.Vc

namespace Go.Vc
open Go.Proofs
open Go.Vc.W
set_option maxRecDepth 10000
set_option maxHeartbeats 4000000
def qPQ (s p : List UInt8) : Bool := decide ((s.length : Int) ≥ (p.length : Int)) && s.take p.length == p
instance eHPl (s p : List UInt8) : Fn BB 257 [.str s,.str p] True (.bool (qPQ s p)) := by
 refine Fn.intro (N := 18) [0,1,4] [] Tryz.call257 Tryz.func257 rfl rfl (by kernel_rfl) (fun hpre => ?_)
 repeat' ((conv => whnf);first|(with_reducible first|rfl|exact qAF|exact qAG)|exact True.intro|intro _|refine WA ?_ ?_|refine WF ?_|refine W1 rfl ?_ ?_|refine W2 rfl ?_ ?_|refine W3 rfl ?_ ?_|refine W4 ?_ ?_|refine W5 rfl ?_ ?_|refine W6 ?_ ?_|refine WN ?_|refine X1 (W1 rfl ?_ ?_)|refine X1 (W2 rfl ?_ ?_)|refine X2 (W7 rfl ?_ ?_)|refine X3 (W7 rfl ?_ ?_)|refine X4 (W7 rfl ?_ ?_)|refine X5 (W7 rfl ?_ ?_))
 all_goals (try (conv => whnf))
 all_goals (try first|exact obA|refine Ob.mk ?_)
 all_goals (try simp only [ZA,ZB,ZC,ZD,ZE,ZF,ZG,ZH,ZI,ZJ,ZK,ZL,ZM,ZN,ZO,Int.toNat_natCast,UInt8.ofNat_toNat,cast_eq] at *)
 all_goals rfl
theorem qaI {s p : List UInt8} (h : qPQ s p = true) : p.length ≤ s.length := by
 unfold qPQ at h
 have := of_decide_eq_true (Bool.and_eq_true_iff.1 h).1
 omega
instance lCPl (s p : List UInt8) : Fn BB 210 [.str s,.str p] True (.tup [.str (bif qPQ s p then s.drop p.length else s),.bool (qPQ s p)]) := by
 refine Fn.intro (N := 15) [0,1,4,5,9] [] Tryz.call210 Tryz.func210 rfl rfl (by kernel_rfl) (fun hpre => ?_)
 have := fun h => qaI (s := s) (p := p) h
 cases hh : qPQ s p
 ·repeat' ((conv => whnf);first|(with_reducible first|rfl|exact qAF|exact qAG)|exact True.intro|intro _|refine WA ?_ ?_|refine WF ?_|refine W1 rfl ?_ ?_|refine W2 rfl ?_ ?_|refine W3 rfl ?_ ?_|refine W4 ?_ ?_|refine W5 rfl ?_ ?_|refine W6 ?_ ?_|refine WN ?_|refine X1 (W1 rfl ?_ ?_)|refine X1 (W2 rfl ?_ ?_)|refine X2 (W7 rfl ?_ ?_)|refine X3 (W7 rfl ?_ ?_)|refine X4 (W7 rfl ?_ ?_)|refine X5 (W7 rfl ?_ ?_))
  all_goals (try (conv => whnf))
  all_goals (try first|exact obA|refine Ob.mk ?_)
  all_goals (try (exfalso;have h : (!qPQ s p) = false := ‹_›;rw [hh] at h;cases h))
  all_goals (try rfl)
 ·have := this hh
  repeat' ((conv => whnf);first|(with_reducible first|rfl|exact qAF|exact qAG)|exact True.intro|intro _|refine WA ?_ ?_|refine WF ?_|refine W1 rfl ?_ ?_|refine W2 rfl ?_ ?_|refine W3 rfl ?_ ?_|refine W4 ?_ ?_|refine W5 rfl ?_ ?_|refine W6 ?_ ?_|refine WN ?_|refine X1 (W1 rfl ?_ ?_)|refine X1 (W2 rfl ?_ ?_)|refine X2 (W7 rfl ?_ ?_)|refine X3 (W7 rfl ?_ ?_)|refine X4 (W7 rfl ?_ ?_)|refine X5 (W7 rfl ?_ ?_))
  all_goals (try (conv => whnf))
  all_goals (try first|exact obA|refine Ob.mk ?_)
  all_goals (try (exfalso;have h : (!qPQ s p) = true := ‹_›;rw [hh] at h;cases h))
  all_goals (try rfl)
instance lCP (s p : List UInt8) : Fn BB 180 [.str s,.str p] True (.tup [.str (bif qPQ s p then s.drop p.length else s),.bool (qPQ s p)]) := by
 refine Fn.intro (N := 11) [0,1,4,5] [] Tryz.call180 Tryz.func180 rfl rfl (by kernel_rfl) (fun hpre => ?_)
 all_goals exact vcA
instance lcut (s p : List UInt8) : Fn BB 148 [.str s,.str p] True (.tup [.str (bif qPQ s p then s.drop p.length else []),.bool (qPQ s p)]) := by
 refine Fn.intro (N := 17) [0,1,4,5,6,7,15] [] Tryz.call148 Tryz.func148 rfl rfl (by kernel_rfl) (fun hpre => ?_)
 cases hh : qPQ s p
 ·repeat' ((conv => whnf);first|(with_reducible first|rfl|exact qAF|exact qAG)|exact True.intro|intro _|refine WA ?_ ?_|refine WF ?_|refine W1 rfl ?_ ?_|refine W2 rfl ?_ ?_|refine W3 rfl ?_ ?_|refine W4 ?_ ?_|refine W5 rfl ?_ ?_|refine W6 ?_ ?_|refine WN ?_|refine X1 (W1 rfl ?_ ?_)|refine X1 (W2 rfl ?_ ?_)|refine X2 (W7 rfl ?_ ?_)|refine X3 (W7 rfl ?_ ?_)|refine X4 (W7 rfl ?_ ?_)|refine X5 (W7 rfl ?_ ?_))
  all_goals (try (conv => whnf))
  all_goals (try first|exact obA|refine Ob.mk ?_)
  all_goals (try (exfalso;have h : (!qPQ s p) = false := ‹_›;rw [hh] at h;cases h))
  all_goals (try rfl)
 ·repeat' ((conv => whnf);first|(with_reducible first|rfl|exact qAF|exact qAG)|exact True.intro|intro _|refine WA ?_ ?_|refine WF ?_|refine W1 rfl ?_ ?_|refine W2 rfl ?_ ?_|refine W3 rfl ?_ ?_|refine W4 ?_ ?_|refine W5 rfl ?_ ?_|refine W6 ?_ ?_|refine WN ?_|refine X1 (W1 rfl ?_ ?_)|refine X1 (W2 rfl ?_ ?_)|refine X2 (W7 rfl ?_ ?_)|refine X3 (W7 rfl ?_ ?_)|refine X4 (W7 rfl ?_ ?_)|refine X5 (W7 rfl ?_ ?_))
  all_goals (try (conv => whnf))
  all_goals (try first|exact obA|refine Ob.mk ?_)
  all_goals (try (exfalso;have h : (!qPQ s p) = true := ‹_›;rw [hh] at h;cases h))
  all_goals (try rfl)
  all_goals (rw [hh];rfl)
def frL (s : List UInt8) : List UInt8 × Bool := (bif qPQ s [35] then s.drop 1 else [],qPQ s [35])
instance lFr (s : List UInt8) : Fn BB 103 [.str s] True (.tup [.str (frL s).1,.bool (frL s).2]) := by
 refine Fn.intro (N := 8) [0,2,3] [] Tryz.call103 Tryz.func103 rfl rfl (by kernel_rfl) (fun hpre => ?_)
 all_goals exact vcA
abbrev qVR : List UInt8 := [102,111,114]
abbrev qTG : List UInt8 := [108,97,98,101,108]
abbrev qJ1 : List UInt8 := [108,105,115,116]
abbrev qES : List UInt8 := [102,111,114,109]
abbrev qcE : List UInt8 := [97,114,105,97,45,97,99,116,105,118,101,100,101,115,99,101,110,100,97,110,116]
abbrev qW8 : List UInt8 := [104,101,97,100,101,114,115]
abbrev qbI : List UInt8 := [97,114,105,97,45,108,97,98,101,108,108,101,100,98,121]
abbrev qbO : List UInt8 := [97,114,105,97,45,100,101,115,99,114,105,98,101,100,98,121]
abbrev qXY : List UInt8 := [97,114,105,97,45,99,111,110,116,114,111,108,115]
abbrev qcB : List UInt8 := [97,114,105,97,45,111,119,110,115]
abbrev qN3 : List UInt8 := [117,115,101,109,97,112]
abbrev qHU : List UInt8 := [104,114,101,102]
abbrev qZS : List UInt8 := [100,97,116,97,108,105,115,116]
abbrev qTV : List UInt8 := [109,97,112]
def qK2 (k s : Int) (nn nm : List UInt8) : Int :=
 if qJF k s nn nm = false then 0 else if nm = qVR then (if nn = qTG then 1 else 2)
 else if nm = qJ1 ∨ nm = qES ∨ nm = qcE then 1
 else if nm = qW8 ∨ nm = qbI ∨ nm = qbO ∨ nm = qXY ∨ nm = qcB then 2
 else if nm = qN3 ∨ nm = qHU then 3 else 0
theorem qYE {k s : Int} {nn nm : List UInt8} (h : qJF k s nn nm = false) : qK2 k s nn nm = 0 := by rw [qK2,if_pos h]
theorem qYO {k s : Int} {nn nm : List UInt8} (h : ¬ k = 1) : qK2 k s nn nm = 0 := qYE (qb9 h)
theorem qZV {k s : Int} {nn nm : List UInt8} (h : qJF k s nn nm = true) : qK2 k s nn nm = (if nm = qVR then (if nn = qTG then 1 else 2)
 else if nm = qJ1 ∨ nm = qES ∨ nm = qcE then 1
 else if nm = qW8 ∨ nm = qbI ∨ nm = qbO ∨ nm = qXY ∨ nm = qcB then 2
 else if nm = qN3 ∨ nm = qHU then 3 else 0) := by rw [qK2,if_neg (by rw [h];decide)]
instance rKind (k s : Int) (nn : List UInt8) (at_ : List qAP.T) (dt : List UInt8) (up : Int) (kids : List Int) (nm : List UInt8) :
    Fn BB 46 [.agg [.int .i64 k,.int .i64 s,.str nn,.rd qAP at_,.str dt,.int .i64 up,.rd qAH kids],.str nm] (nn.length ≤ 1000) (.int .i64 (qK2 k s nn nm)) := by
  refine Fn.intro (N := 33) [0,1,2,4,13,14,15,19,20,24,30] [] Tryz.call46 Tryz.func46 rfl rfl (by kernel_rfl) (fun hpre => ?_)
  repeat' ((conv => whnf);first|(with_reducible first|rfl|exact qAF|exact qAG)|exact True.intro|intro _|refine WA ?_ ?_|refine WF ?_|refine W1 rfl ?_ ?_|refine W2 rfl ?_ ?_|refine W3 rfl ?_ ?_|refine W4 ?_ ?_|refine W5 rfl ?_ ?_|refine W6 ?_ ?_|refine WN ?_|refine X1 (W1 rfl ?_ ?_)|refine X1 (W2 rfl ?_ ?_)|refine X2 (W7 rfl ?_ ?_)|refine X3 (W7 rfl ?_ ?_)|refine X4 (W7 rfl ?_ ?_)|refine X5 (W7 rfl ?_ ?_))
  all_goals (try (conv => whnf))
  all_goals (try first|exact obA|refine Ob.mk ?_)
  all_goals (try simp only [ZA,ZB,ZC,ZD,ZE,ZF,ZG,ZH,ZI,ZJ,ZK,ZL,ZM,ZN,ZO,Bool.and_eq_false_iff,Bool.or_eq_false_iff,ge_iff_le,gt_iff_lt,Int.toNat_natCast,UInt8.ofNat_toNat,cast_eq] at *)
  all_goals (try contradiction)
  all_goals (try (have h : ¬k = 1 ∨ qJF k s nn nm = false := by assumption
                  exact (h.elim qYO qYE).symm))
  all_goals (try (have hf : k = 1 ∧ qJF k s nn nm = true := by assumption
                  rw [qZV hf.2];simp [*];done))
def qFK (kind : Int) (v : List UInt8) : List (List UInt8) :=
 if kind = 2 then spl v else if kind = 1 then (if v = [] then [] else [v]) else if kind = 3 then (if (frL v).1 = [] then [] else [(frL v).1]) else []
instance rWords (kind : Int) (v : List UInt8) : Fn BB 49 [.int .i64 kind,.str v] (v.length ≤ 100000) (.rd .str (qFK kind v)) := by
 refine Fn.intro (N := 23) [0,1,4,5,6,8,12,20] [] Tryz.call49 Tryz.func49 rfl rfl (by kernel_rfl) (fun hpre => ?_)
 repeat' ((conv => whnf);first|(with_reducible first|rfl|exact qAF|exact qAG)|exact True.intro|intro _|refine WA ?_ ?_|refine WF ?_|refine W1 rfl ?_ ?_|refine W2 rfl ?_ ?_|refine W3 rfl ?_ ?_|refine W4 ?_ ?_|refine W5 rfl ?_ ?_|refine W6 ?_ ?_|refine WN ?_|refine X1 (W1 rfl ?_ ?_)|refine X1 (W2 rfl ?_ ?_)|refine X2 (W7 rfl ?_ ?_)|refine X3 (W7 rfl ?_ ?_)|refine X4 (W7 rfl ?_ ?_)|refine X5 (W7 rfl ?_ ?_))
 all_goals (try (conv => whnf))
 all_goals (try first|exact obA|refine Ob.mk ?_)
 all_goals (try simp only [ZA,ZB,ZC,ZD,ZE,ZF,ZG,ZH,ZI,ZJ,ZK,ZL,ZM,ZN,ZO,Bool.and_eq_false_iff,Bool.or_eq_false_iff,ge_iff_le,gt_iff_lt,Int.toNat_natCast,UInt8.ofNat_toNat,cast_eq] at *)
 all_goals (first | (simp [qFK, *];done) | (show SV.rd Ty.str _ = _;simp [qFK, *];done) | trace_state)
end Go.Vc

namespace Go.Vc
open Go.Proofs
open Go.Vc.W
set_option maxRecDepth 10000
set_option maxHeartbeats 4000000
def qdO (el v : List UInt8) (n : qAE) : Bool := n.2.1 == 0 && n.2.2.1 == el && hasB n.2.2.2.1 qIJ v
instance jCalled1 (k s : Int) (nn : List UInt8) (at_ : List qAJ) (d : List UInt8) (up : Int) (kids : List Int) (el v : List UInt8) :
  FnM BB 181 [.agg [.int .i64 k,.int .i64 s,.str nn,.rd qAP at_,.str d,.int .i64 up,.rd qAH kids],.loc 0 0,.loc 1 0] [(0,.box [.str el]),(1,.box [.str v])] (at_.length ≤ 100000) (.bool (s == 0 && nn == el && hasB at_ qIJ v)) [(0,.box [.str el]),(1,.box [.str v])] := by
 refine FnM.intro (N := 19) [0,1,2,3,4] [] 2 Tryz.call181 Tryz.func181 rfl rfl (by kernel_rfl) (fun hpre => ?_)
 repeat' ((conv => whnf);first|(with_reducible first|rfl|exact qAF|exact qAG)|exact True.intro|intro _|refine WA ?_ ?_|refine WF ?_|refine W1 rfl ?_ ?_|refine W2 rfl ?_ ?_|refine W3 rfl ?_ ?_|refine W4 ?_ ?_|refine W5 rfl ?_ ?_|refine W6 ?_ ?_|refine WN ?_|refine X1 (W1 rfl ?_ ?_)|refine X1 (W2 rfl ?_ ?_)|refine X2 (W7 rfl ?_ ?_)|refine X3 (W7 rfl ?_ ?_)|refine X4 (W7 rfl ?_ ?_)|refine X5 (W7 rfl ?_ ?_))
 all_goals (try (conv => whnf))
 all_goals (try first|exact obA|refine Ob.mk ?_)
 all_goals (try rfl)
 all_goals trace_state
theorem qKN (t : List qAE) {el : List UInt8} (hel : ¬ el = []) (v : List UInt8) : qEK t el qIJ v = ((qBO t).find? fun i => qdO el v (nd t i)).getD 0 := by
 unfold qEK qBO
 by_cases h : v = []
 ·rw [if_pos h]
  have : ((qA9 t).filter (elB t)).find? (fun i => qdO el v (nd t i)) = none := by
   rw [List.find?_eq_none];intro x _;unfold qdO hasB;rw [h];simp
  rw [this];rfl
 ·rw [if_neg h,List.find?_filter]
  congr 2
  funext i
  unfold qG1 qdO hasB elB
  rw [beq_eq_false_iff_ne.2 h,beq_eq_false_iff_ne.2 hel]
  cases ((nd t i).1 == 1) <;> cases (qbZ (nd t i).2.2.2.1 qIJ == v) <;> cases ((nd t i).2.1 == 0) <;> cases ((nd t i).2.2.1 == el) <;> rfl
theorem qZF (t : List qAE) : ∀ i,i < (qBO t).length → 0 ≤ (qBO t).getD i qAH.dflt ∧ (qBO t).getD i qAH.dflt < t.length := fun i hi => by
 have hm : (qBO t).getD i qAH.dflt ∈ qA9 t := by
  have : (qBO t).getD i qAH.dflt ∈ qBO t := by rw [List.getD_eq_getElem?_getD,List.getElem?_eq_getElem hi];exact List.getElem_mem _
  exact (List.mem_filter.1 this).1
 obtain ⟨j,hj,e⟩ := List.mem_iff_getElem.1 hm
 have := qFV t j hj 0
 rw [List.getD_eq_getElem?_getD,List.getElem?_eq_getElem hj] at this
 rw [← e];exact this
instance jFirstC (t : List qAE) (el v : List UInt8) : FnM BB 141 [.agg [.rd qAC t],.fn 181 [.loc 0 0,.loc 1 0]] [(0,.box [.str el]),(1,.box [.str v])] (qA4 t 45 = true ∧ ¬ el = []) (.int .i64 (qEK t el qIJ v)) [(0,.box [.str el]),(1,.box [.str v])] := by
 refine FnM.intro (N := 15) [0,1,2,3,4,5,6,8,9,10,13] [] 2 Tryz.call141 Tryz.func141 rfl rfl (by kernel_rfl) (fun hpre => ?_)
 obtain ⟨hpre,hel0⟩ := hpre
 have hl := qUH hpre
 repeat' ((conv => whnf);first|(with_reducible first|rfl|exact qAF|exact qAG)|exact True.intro|intro _|refine WA ?_ ?_|refine WF ?_|refine W1 rfl ?_ ?_|refine W2 rfl ?_ ?_|refine W3 rfl ?_ ?_|refine W4 ?_ ?_|refine W5 rfl ?_ ?_|refine W6 ?_ ?_|refine WN ?_|refine X1 (W1 rfl ?_ ?_)|refine X1 (W2 rfl ?_ ?_)|refine X2 (W7 rfl ?_ ?_)|refine X3 (W7 rfl ?_ ?_)|refine X4 (W7 rfl ?_ ?_)|refine X5 (W7 rfl ?_ ?_))
 all_goals (try (conv => whnf))
 all_goals (try first|exact obA|refine Ob.mk ?_)
 have hel := qZF t
 refine RangeStop.mkF (α := Unit) ⟨hpre⟩ rfl (fun _ => [(2,.box [.und])]) 30 (fun i _ => ∀ j,j < i → qdO el v (nd t ((qBO t).getD j 0)) = false) () (fun j hj => absurd hj (Nat.not_lt_zero _)) ?_ (fun i k hC hi => ?_) (fun k hC => ?_)
 ·all_goals exact vcA
 ·repeat' ((conv => whnf);first|(with_reducible first|rfl|exact qAF|exact qAG)|exact True.intro|intro _|refine WA ?_ ?_|refine WF ?_|refine W1 rfl ?_ ?_|refine W2 rfl ?_ ?_|refine W3 rfl ?_ ?_|refine W4 ?_ ?_|refine W5 rfl ?_ ?_|refine W6 ?_ ?_|refine WN ?_|refine X1 (W1 rfl ?_ ?_)|refine X1 (W2 rfl ?_ ?_)|refine X2 (W7 rfl ?_ ?_)|refine X3 (W7 rfl ?_ ?_)|refine X4 (W7 rfl ?_ ?_)|refine X5 (W7 rfl ?_ ?_))
  all_goals (try (conv => whnf))
  all_goals (try first|exact obA|refine Ob.mk ?_)
  ·exact Nat.le_trans (qCW (qIX hpre _ (hel i hi))).2.1 (by decide)
  ·rw [qKN t hel0,qjC (p := fun i => qdO el v (nd t i)) hi hC (by assumption)];rfl
  ·refine Rnd.mk ⟨(),fun j hj => ?_,?_⟩
   ·rcases Nat.lt_or_ge j i with q | q
    ·exact hC j q
    ·have e : j = i := by omega
     rw [e];assumption
   ·all_goals exact vcA
 ·repeat' ((conv => whnf);first|(with_reducible first|rfl|exact qAF|exact qAG)|exact True.intro|intro _|refine WA ?_ ?_|refine WF ?_|refine W1 rfl ?_ ?_|refine W2 rfl ?_ ?_|refine W3 rfl ?_ ?_|refine W4 ?_ ?_|refine W5 rfl ?_ ?_|refine W6 ?_ ?_|refine WN ?_|refine X1 (W1 rfl ?_ ?_)|refine X1 (W2 rfl ?_ ?_)|refine X2 (W7 rfl ?_ ?_)|refine X3 (W7 rfl ?_ ?_)|refine X4 (W7 rfl ?_ ?_)|refine X5 (W7 rfl ?_ ?_))
  all_goals (try (conv => whnf))
  all_goals (try first|exact obA|refine Ob.mk ?_)
  all_goals (rw [qKN t hel0,qL3 (p := fun i => qdO el v (nd t i)) hC];rfl)
instance jCalled (t : List qAE) (el v : List UInt8) : Fn BB 150 [.agg [.rd qAC t],.str el,.str v] (qA4 t 45 = true ∧ ¬ el = []) (.int .i64 (qEK t el qIJ v)) := by
 refine Fn.intro (N := 10) [0,1,2,3,4,5,6] [] Tryz.call150 Tryz.func150 rfl rfl (by kernel_rfl) (fun hpre => ?_)
 repeat' ((conv => whnf);first|(with_reducible first|rfl|exact qAF|exact qAG)|exact True.intro|intro _|refine WA ?_ ?_|refine WF ?_|refine W1 rfl ?_ ?_|refine W2 rfl ?_ ?_|refine W3 rfl ?_ ?_|refine W4 ?_ ?_|refine W5 rfl ?_ ?_|refine W6 ?_ ?_|refine WN ?_|refine X1 (W1 rfl ?_ ?_)|refine X1 (W2 rfl ?_ ?_)|refine X2 (W7 rfl ?_ ?_)|refine X3 (W7 rfl ?_ ?_)|refine X4 (W7 rfl ?_ ?_)|refine X5 (W7 rfl ?_ ?_))
 all_goals (try (conv => whnf))
 all_goals (try first|exact obA|refine Ob.mk ?_)
 all_goals (first | exact hpre | rfl | trace_state)
instance jMap (t : List qAE) (v : List UInt8) : Fn BB 106 [.agg [.rd qAC t],.str v] (qA4 t 45 = true) (.int .i64 (qEK t qTV qIJ v)) := by
 refine Fn.intro (N := 8) [0,1,2,4] [] Tryz.call106 Tryz.func106 rfl rfl (by kernel_rfl) (fun hpre => ?_)
 repeat' ((conv => whnf);first|(with_reducible first|rfl|exact qAF|exact qAG)|exact True.intro|intro _|refine WA ?_ ?_|refine WF ?_|refine W1 rfl ?_ ?_|refine W2 rfl ?_ ?_|refine W3 rfl ?_ ?_|refine W4 ?_ ?_|refine W5 rfl ?_ ?_|refine W6 ?_ ?_|refine WN ?_|refine X1 (W1 rfl ?_ ?_)|refine X1 (W2 rfl ?_ ?_)|refine X2 (W7 rfl ?_ ?_)|refine X3 (W7 rfl ?_ ?_)|refine X4 (W7 rfl ?_ ?_)|refine X5 (W7 rfl ?_ ?_))
 all_goals (try (conv => whnf))
 all_goals (try first|exact obA|refine Ob.mk ?_)
 all_goals (first | exact ⟨hpre,by decide⟩ | rfl | trace_state)
def qQB (t : List qAE) (v : List UInt8) : Int := if firstT t v = 0 then qEK t [97] qIJ v else firstT t v
instance jTarget (t : List qAE) (v : List UInt8) : Fn BB 107 [.agg [.rd qAC t],.str v] (qA4 t 45 = true) (.int .i64 (qQB t v)) := by
 refine Fn.intro (N := 15) [0,1,2,4,5,10] [] Tryz.call107 Tryz.func107 rfl rfl (by kernel_rfl) (fun hpre => ?_)
 repeat' ((conv => whnf);first|(with_reducible first|rfl|exact qAF|exact qAG)|exact True.intro|intro _|refine WA ?_ ?_|refine WF ?_|refine W1 rfl ?_ ?_|refine W2 rfl ?_ ?_|refine W3 rfl ?_ ?_|refine W4 ?_ ?_|refine W5 rfl ?_ ?_|refine W6 ?_ ?_|refine WN ?_|refine X1 (W1 rfl ?_ ?_)|refine X1 (W2 rfl ?_ ?_)|refine X2 (W7 rfl ?_ ?_)|refine X3 (W7 rfl ?_ ?_)|refine X4 (W7 rfl ?_ ?_)|refine X5 (W7 rfl ?_ ?_))
 all_goals (try (conv => whnf))
 all_goals (try first|exact obA|refine Ob.mk ?_)
 all_goals (try simp only [ZA,ZB,ZC,ZD,ZE,ZF,ZG,ZH,ZI,ZJ,ZK,ZL,ZM,ZN,ZO,Bool.and_eq_false_iff,Bool.or_eq_false_iff,ge_iff_le,gt_iff_lt,Int.toNat_natCast,UInt8.ofNat_toNat,cast_eq] at *)
 all_goals (first | exact hpre | exact ⟨hpre,by decide⟩ | (unfold qQB;rw [if_pos ‹_›]) | (unfold qQB;rw [if_neg ‹_›]) | trace_state)
theorem qST (t : List qAE) (el nm v : List UInt8) (ht : 0 < t.length) : 0 ≤ qEK t el nm v ∧ qEK t el nm v < t.length := by
 unfold qEK
 by_cases h : v = []
 ·rw [if_pos h];omega
 ·rw [if_neg h]
  cases hf : (qA9 t).find? fun i => qG1 el nm v (nd t i) with
  | none => show 0 ≤ (0 : Int) ∧ (0 : Int) < _;omega
  | some x =>
   have hm := List.mem_of_find?_eq_some hf
   obtain ⟨j,hj,ej⟩ := List.mem_iff_getElem.1 hm
   have hi := qFV t j hj 0
   rw [List.getD_eq_getElem?_getD,List.getElem?_eq_getElem hj] at hi
   simp only [Option.getD_some,ej] at hi
   exact hi
def qJG (t : List qAE) (i : Int) (nm : List UInt8) : Int := if ((nd t i).1 == 1 && (nd t i).2.1 == 0 && (nd t i).2.2.1 == nm) = true then i else 0
theorem dm_t {x y z : Bool} (h : (!x || !y || !z) = true) : ¬ (x && y && z) = true := by revert h;cases x <;> cases y <;> cases z <;> decide
theorem dm_f {x y z : Bool} (h : (!x || !y || !z) = false) : (x && y && z) = true := by revert h;cases x <;> cases y <;> cases z <;> decide
instance rOnly (t : List qAE) (i : Int) (nm : List UInt8) : Fn BB 108 [.agg [.rd qAC t],.int .i64 i,.str nm] (0 ≤ i ∧ i < t.length) (.int .i64 (qJG t i nm)) := by
 refine Fn.intro (N := 28) [0,1,2,3,6,7,26] [] Tryz.call108 Tryz.func108 rfl rfl (by kernel_rfl) (fun hpre => ?_)
 repeat' ((conv => whnf);first|(with_reducible first|rfl|exact qAF|exact qAG)|exact True.intro|intro _|refine WA ?_ ?_|refine WF ?_|refine W1 rfl ?_ ?_|refine W2 rfl ?_ ?_|refine W3 rfl ?_ ?_|refine W4 ?_ ?_|refine W5 rfl ?_ ?_|refine W6 ?_ ?_|refine WN ?_|refine X1 (W1 rfl ?_ ?_)|refine X1 (W2 rfl ?_ ?_)|refine X2 (W7 rfl ?_ ?_)|refine X3 (W7 rfl ?_ ?_)|refine X4 (W7 rfl ?_ ?_)|refine X5 (W7 rfl ?_ ?_))
 all_goals (try (conv => whnf))
 all_goals (try first|exact obA|refine Ob.mk ?_)
 all_goals (first | (unfold qJG;rw [if_neg (dm_t ‹_›)];done) | (unfold qJG;rw [if_pos (dm_f ‹_›)];done))
def qHH (n : qAE) (nm : List UInt8) : Int := qK2 n.1 n.2.1 n.2.2.1 nm
def toN (t : List qAE) (i : Int) (nm w : List UInt8) : Int :=
 if 0 ≤ i ∧ i < t.length ∧ ¬ qHH (nd t i) nm = 0 then
  if nm = qN3 then qEK t qTV qIJ w else if nm = qHU then qQB t w
  else if nm = qJ1 then qJG t (firstT t w) qZS else if nm = qES then qJG t (firstT t w) qES else firstT t w
 else 0
theorem qlT {i n : Int} (h : (decide (i < 0) || decide (i ≥ n)) = false) : 0 ≤ i ∧ i < n := by
 simp only [Bool.or_eq_false_iff,decide_eq_false_iff_not] at h
 omega
theorem qvY {t : List qAE} {i : Int} {nm w : List UInt8} (h : (decide (i < 0) || decide (i ≥ (t.length : Int)) || qHH (nd t i) nm == 0) = true) : toN t i nm w = 0 := by
 simp only [Bool.or_eq_true,decide_eq_true_eq,beq_iff_eq] at h
 unfold toN
 rw [if_neg (fun q => by rcases h with (h | h) | h <;> first | exact q.2.2 h | omega)]
theorem qgB {t : List qAE} {i : Int} {nm w : List UInt8} (h : (decide (i < 0) || decide (i ≥ (t.length : Int)) || qHH (nd t i) nm == 0) = false) : (0 ≤ i ∧ i < t.length) ∧ toN t i nm w = (if nm = qN3 then qEK t qTV qIJ w else if nm = qHU then qQB t w
  else if nm = qJ1 then qJG t (firstT t w) qZS else if nm = qES then qJG t (firstT t w) qES else firstT t w) := by
 simp only [Bool.or_eq_false_iff,decide_eq_false_iff_not,beq_eq_false_iff_ne] at h
 refine ⟨by omega,?_⟩
 unfold toN
 rw [if_pos ⟨by omega,by omega,h.2⟩]
theorem qZA (t : List qAE) (w : List UInt8) (ht : 0 < t.length) : 0 ≤ firstT t w ∧ firstT t w < t.length := qST t [] idT w ht
instance rTo (t : List qAE) (i : Int) (nm w : List UInt8) : Fn BB 51 [.agg [.rd qAC t],.int .i64 i,.str nm,.str w] (qA4 t 45 = true) (.int .i64 (toN t i nm w)) := by
 refine Fn.intro (N := 56) [0,1,2,3,4,8,27,28,29,34,39,46] [(9,[1,1,0,1,3,3]),(11,[1,1,0,1,3,3])] Tryz.call51 Tryz.func51 rfl rfl (by kernel_rfl) (fun hpre => ?_)
 have hn : (decide (i < 0) || decide (i ≥ (t.length : Int)) || qHH (nd t i) nm == 0) = true → toN t i nm w = 0 := qvY
 have hy : (decide (i < 0) || decide (i ≥ (t.length : Int)) || qHH (nd t i) nm == 0) = false → _ := qgB (w := w)
 have hi : (decide (i < 0) || decide (i ≥ (t.length : Int))) = false → (0 ≤ i ∧ i < t.length) ∧ (nd t i).2.2.1.length ≤ 1000 := fun h => ⟨qlT h,Nat.le_trans (qCW (qIX hpre i (qlT h))).1 (by decide)⟩
 have hk : qHH (nd t i) nm = qK2 (nd t i).1 (nd t i).2.1 (nd t i).2.2.1 nm := rfl
 rw [hk] at hn hy
 repeat' ((conv => whnf);first|(with_reducible first|rfl|exact qAF|exact qAG)|exact True.intro|intro _|refine WA ?_ ?_|refine WF ?_|refine W1 rfl ?_ ?_|refine W2 rfl ?_ ?_|refine W3 rfl ?_ ?_|refine W4 ?_ ?_|refine W5 rfl ?_ ?_|refine W6 ?_ ?_|refine WN ?_|refine X1 (W1 rfl ?_ ?_)|refine X1 (W2 rfl ?_ ?_)|refine X2 (W7 rfl ?_ ?_)|refine X3 (W7 rfl ?_ ?_)|refine X4 (W7 rfl ?_ ?_)|refine X5 (W7 rfl ?_ ?_))
 all_goals (try (conv => whnf))
 all_goals (try first|exact obA|refine Ob.mk ?_)
 all_goals (try (exact (hi ‹_›).1))
 all_goals (try (exact (hi ‹_›).2))
 all_goals (try (exact (hn ‹_›).symm))
 all_goals (have hq := hy ‹_›)
 all_goals (try (exact qZA t w (by have := hq.1;omega)))
 all_goals (rw [hq.2];clear hq hn hy hi hk)
 all_goals (try simp only [ZA,ZB,ZC,ZD,ZE,ZF,ZG,ZH,ZI,ZJ,ZK,ZL,ZM,ZN,ZO,Bool.and_eq_false_iff,Bool.or_eq_false_iff,ge_iff_le,gt_iff_lt,Int.toNat_natCast,UInt8.ofNat_toNat,cast_eq] at *)
 all_goals (try (simp [*];done))
 all_goals trace_state
end Go.Vc

namespace Go.Vc.W
open Go.Proofs
set_option maxRecDepth 10000
theorem qPM {a b : List (List UInt8)} {i : Nat} (ha : i < a.length) (hb : i < b.length) (h : a.take i = b.take i) (h2 : a.getD i [] = b.getD i []) : a.take (i+1) = b.take (i+1) := by
 rw [take_snoc a i [] ha,take_snoc b i [] hb,h,h2]
instance fEq (a b : List (List UInt8)) : Fn BB 48 [.rd .str a,.rd .str b] True (.bool (a == b)) := by
 refine Fn.intro (N := 26) [0,1,4,5,10,12,13,14,24] [(6,[0,0,1,1,0,0,1,1,3])] Tryz.call48 Tryz.func48 rfl rfl (by kernel_rfl) (fun hpre => ?_)
 repeat' ((conv => whnf);first|(with_reducible first|rfl|exact qAF|exact qAG)|exact True.intro|intro _|refine WA ?_ ?_|refine WF ?_|refine W1 rfl ?_ ?_|refine W2 rfl ?_ ?_|refine W3 rfl ?_ ?_|refine W4 ?_ ?_|refine W5 rfl ?_ ?_|refine W6 ?_ ?_|refine WN ?_|refine X1 (W1 rfl ?_ ?_)|refine X1 (W2 rfl ?_ ?_)|refine X2 (W7 rfl ?_ ?_)|refine X3 (W7 rfl ?_ ?_)|refine X4 (W7 rfl ?_ ?_)|refine X5 (W7 rfl ?_ ?_))
 all_goals (try (conv => whnf))
 all_goals (try first|exact obA|refine Ob.mk ?_)
 ·rename_i h
  have : ¬ a = b := by rintro rfl;simp at h
  simp [this]
 ·refine LoopStop.mk (α := Nat) (fun i => [(13,.int .i64 i)]) (fun i => []) 0 (fun i => i ≤ a.length ∧ a.take i = b.take i) (fun i => a.length - i) 0 (by simp) ?_ (fun i hi => ?_)
  ·repeat' ((conv => whnf);first|(with_reducible first|rfl|exact qAF|exact qAG)|exact True.intro|intro _|refine WA ?_ ?_|refine WF ?_|refine W1 rfl ?_ ?_|refine W2 rfl ?_ ?_|refine W3 rfl ?_ ?_|refine W4 ?_ ?_|refine W5 rfl ?_ ?_|refine W6 ?_ ?_|refine WN ?_|refine X1 (W1 rfl ?_ ?_)|refine X1 (W2 rfl ?_ ?_)|refine X2 (W7 rfl ?_ ?_)|refine X3 (W7 rfl ?_ ?_)|refine X4 (W7 rfl ?_ ?_)|refine X5 (W7 rfl ?_ ?_))
   all_goals (try (conv => whnf))
   all_goals (try rfl)
  ·repeat' ((conv => whnf);first|(with_reducible first|rfl|exact qAF|exact qAG)|exact True.intro|intro _|refine WA ?_ ?_|refine WF ?_|refine W1 rfl ?_ ?_|refine W2 rfl ?_ ?_|refine W3 rfl ?_ ?_|refine W4 ?_ ?_|refine W5 rfl ?_ ?_|refine W6 ?_ ?_|refine WN ?_|refine X1 (W1 rfl ?_ ?_)|refine X1 (W2 rfl ?_ ?_)|refine X2 (W7 rfl ?_ ?_)|refine X3 (W7 rfl ?_ ?_)|refine X4 (W7 rfl ?_ ?_)|refine X5 (W7 rfl ?_ ?_))
   all_goals (try (conv => whnf))
   all_goals (try first|exact obA|refine Ob.mk ?_)
   all_goals (try simp only [ZA,ZB,ZC,ZD,ZE,ZF,ZG,ZH,ZI,ZJ,ZK,ZL,ZM,ZN,ZO,Int.toNat_natCast,UInt8.ofNat_toNat,cast_eq] at *)
   all_goals (try omega)
   ·rename_i h
    have : ¬ a = b := by rintro rfl;exact h rfl
    simp [this]
   ·have h : i < a.length := by omega
    have h' : i < b.length := by omega
    refine Rnd.mk ⟨i + 1,?_,?_,?_⟩
    ·exact ⟨h,qPM h h' hi.2 ‹_›⟩
    ·omega
    ·all_goals exact vcA
   ·have e : i = a.length := by omega
    subst e
    have h2 := hi.2
    have h3 : b.length ≤ a.length := by omega
    rw [List.take_of_length_le (Nat.le_refl _),List.take_of_length_le h3] at h2
    rw [h2];simp
end Go.Vc.W

namespace Go.Vc.W
open Go.Proofs
set_option maxRecDepth 100000
def clean (w : List UInt8) : Prop := ¬ w = [] ∧ ∀ c ∈ w,isSp c.toNat = false
theorem qT7 (s : List UInt8) (i : Nat) (h : i ≤ s.length) : (∀ w ∈ (qEH s i).1,clean w) ∧ (∀ c ∈ (qEH s i).2,isSp c.toNat = false) ∧ ((qEH s i).1.map fun w => w.length + 1).sum + (qEH s i).2.length ≤ i := by
 induction i with
 | zero => simp [qEH]
 | succ i ih =>
  obtain ⟨h1,h2,h3⟩ := ih (by omega)
  have e := qCE s i (by omega)
  cases hc : isSp (s.getD i 0).toNat with
  | false =>
   rw [qGW hc] at e
   rw [e]
   refine ⟨h1,fun c hcm => ?_,by simp only [List.length_append,List.length_cons,List.length_nil];omega⟩
   rcases List.mem_append.1 hcm with hcm | hcm
   ·exact h2 c hcm
   ·rw [List.mem_singleton] at hcm;subst hcm;exact hc
  | true =>
   by_cases hw : (qEH s i).2 = []
   ·rw [qG6 hc hw] at e
    rw [e]
    exact ⟨h1,by simp,by simp only [List.length_nil];omega⟩
   ·rw [qFZ hc hw] at e
    rw [e]
    refine ⟨fun w hm => ?_,by simp,?_⟩
    ·rcases List.mem_append.1 hm with hm | hm
     ·exact h1 w hm
     ·rw [List.mem_singleton] at hm;subst hm;exact ⟨hw,h2⟩
    ·simp only [List.map_append,List.sum_append,List.map_cons,List.map_nil,List.sum_cons,List.sum_nil,List.length_nil];omega
theorem qPL (s : List UInt8) : (∀ w ∈ spl s,clean w) ∧ ((spl s).map fun w => w.length + 1).sum ≤ s.length + 1 := by
 obtain ⟨h1,h2,h3⟩ := qT7 s s.length (Nat.le_refl _)
 by_cases hw : (qEH s s.length).2 = []
 ·rw [qaF (Nat.le_refl _) hw]
  exact ⟨h1,by omega⟩
 ·rw [qZO (Nat.le_refl _) hw]
  refine ⟨fun w hm => ?_,?_⟩
  ·rcases List.mem_append.1 hm with hm | hm
   ·exact h1 w hm
   ·rw [List.mem_singleton] at hm;subst hm;exact ⟨hw,h2⟩
  ·simp only [List.map_append,List.sum_append,List.map_cons,List.map_nil,List.sum_cons,List.sum_nil];omega
theorem qc8 (l : List (List UInt8)) : l.length ≤ (l.map fun w => w.length + 1).sum := by
 induction l with
 | nil => simp
 | cons w r ih => simp only [List.map_cons,List.sum_cons,List.length_cons];omega
theorem qWE {l : List (List UInt8)} {w : List UInt8} (h : w ∈ l) : w.length + 1 ≤ (l.map fun w => w.length + 1).sum := by
 induction l with
 | nil => cases h
 | cons x r ih =>
  simp only [List.map_cons,List.sum_cons]
  rcases List.mem_cons.1 h with rfl | h
  ·omega
  ·have := ih h;omega
end Go.Vc.W

namespace Go.Vc
open Go.Proofs
open Go.Vc.W
set_option maxRecDepth 10000
set_option maxHeartbeats 4000000
abbrev qTC := qMA.T
def qvF (r : qTC) : SV := .agg [.int .i64 r.1,.str r.2.1,.int .i64 r.2.2.1,.str r.2.2.2.1,.int .i64 r.2.2.2.2]
def qBX (n : qAE) (a : qAJ) : List (List UInt8) := qFK (qHH n a.1) a.2
def qWH (t : List qAE) (i : Int) (a : qAJ) (j : Nat) (w : List UInt8) : qTC := (i,a.1,(j : Int),w,toN t i a.1 w)
def qMR (t : List qAE) (i : Int) (a : qAJ) : List qTC := (List.range (qBX (nd t i) a).length).map fun j => qWH t i a j ((qBX (nd t i) a).getD j [])
def qD8 (t : List qAE) (i : Int) : List qTC := (nd t i).2.2.2.1.flatMap (qMR t i)
theorem qKA (t : List qAE) (i : Int) (a : qAJ) : (qMR t i a).length = (qBX (nd t i) a).length := by unfold qMR;rw [List.length_map,List.length_range]
theorem qY4 (t : List qAE) (i : Int) (a : qAJ) {j : Nat} (h : j < (qBX (nd t i) a).length) (d : qTC) : (qMR t i a).getD j d = qWH t i a j ((qBX (nd t i) a).getD j []) := by
 unfold qMR
 rw [List.getD_eq_getElem?_getD,List.getElem?_map,List.getElem?_range h];rfl
theorem qXW {α : Type} (L : List α) {j : Nat} (h : j < L.length) (d : α) : L.take (j + 1) = L.take j ++ [L.getD j d] := by
 rw [List.take_succ_eq_append_getElem h,List.getD_eq_getElem?_getD,List.getElem?_eq_getElem h];rfl
theorem qR6 {α β : Type} (f : α → List β) (L : List α) {a : Nat} (h : a < L.length) (d : α) : (L.take (a + 1)).flatMap f = (L.take a).flatMap f ++ f (L.getD a d) := by
 rw [List.take_succ_eq_append_getElem h,List.flatMap_append]
 simp [List.getD,List.getElem?_eq_getElem h]
theorem qa5 {α β : Type} (f : α → List β) (L : List α) {a : Nat} (h : a < L.length) (d : α) : L.flatMap f = (L.take a).flatMap f ++ (f (L.getD a d) ++ (L.drop (a + 1)).flatMap f) := by
 conv => lhs;rw [← List.take_append_drop (a + 1) L]
 rw [List.flatMap_append,qR6 f L h d,List.append_assoc]
theorem qlQ {α β : Type} (f : α → List β) (L : List α) {a j : Nat} (h : a < L.length) (d : α) (hj : j < (f (L.getD a d)).length) (d' : β) : (L.flatMap f).getD (((L.take a).flatMap f).length + j) d' = (f (L.getD a d)).getD j d' ∧ ((L.take a).flatMap f).length + j < (L.flatMap f).length := by
 rw [qa5 f L h d]
 constructor
 ·rw [List.getD_eq_getElem?_getD,List.getElem?_append_right (by omega),show ((L.take a).flatMap f).length + j - ((L.take a).flatMap f).length = j by omega,List.getElem?_append_left hj, ← List.getD_eq_getElem?_getD]
 ·rw [List.length_append,List.length_append];omega
instance rRefs (t : List qAE) (i : Int) : Fn BB 111 [.agg [.rd qAC t],.int .i64 i] True (.fn 151 [.el (.sl qAC) [t] 0 0,.el qAH [i] 0 0]) := by
 refine Fn.intro (N := 6) [0,1,2,3,4] [] Tryz.call111 Tryz.func111 rfl rfl (by kernel_rfl) (fun hpre => ?_)
 all_goals exact vcA
instance rKindY (y : YS) (k s : Int) (nn : List UInt8) (at_ : List qAP.T) (dt : List UInt8) (up : Int) (kids : List Int) (nm : List UInt8) :
  Fn (BB.withY y) 46 [.agg [.int .i64 k,.int .i64 s,.str nn,.rd qAP at_,.str dt,.int .i64 up,.rd qAH kids],.str nm] (nn.length ≤ 1000) (.int .i64 (qK2 k s nn nm)) := ⟨(rKind k s nn at_ dt up kids nm).call,(rKind k s nn at_ dt up kids nm).ok⟩
instance rWordsY (y : YS) (kind : Int) (v : List UInt8) : Fn (BB.withY y) 49 [.int .i64 kind,.str v] (v.length ≤ 100000) (.rd .str (qFK kind v)) := ⟨(rWords kind v).call,(rWords kind v).ok⟩
instance rToY (y : YS) (t : List qAE) (i : Int) (nm w : List UInt8) : Fn (BB.withY y) 51 [.agg [.rd qAC t],.int .i64 i,.str nm,.str w] (qA4 t 45 = true) (.int .i64 (toN t i nm w)) := ⟨(rTo t i nm w).call,(rTo t i nm w).ok⟩
theorem qYK {n : qAE} (h : qHK n = true) {a : Nat} (ha : a < n.2.2.2.1.length) (d : qAJ) : (n.2.2.2.1.getD a d).1.length ≤ 40 ∧ (n.2.2.2.1.getD a d).2.length ≤ 150 := by
 unfold qHK at h
 rw [Bool.and_eq_true] at h
 have h2 := h.2
 unfold qGF at h2
 rw [Bool.and_eq_true,List.all_eq_true] at h2
 have hm : n.2.2.2.1.getD a d ∈ n.2.2.2.1 := by rw [List.getD_eq_getElem?_getD,List.getElem?_eq_getElem ha];exact List.getElem_mem _
 have := h2.2 _ hm
 simp only [Bool.and_eq_true,decide_eq_true_eq] at this
 omega
def qOH (t : List qAE) (i : Int) (a : Nat) : Nat := (((nd t i).2.2.2.1.take a).flatMap (qMR t i)).length
instance rIt (t : List qAE) (i : Int) : It BB 151 [.el (.sl qAC) [t] 0 0,.el qAH [i] 0 0] (qA4 t 45 = true ∧ 0 ≤ i ∧ i < t.length) (qD8 t i).length (fun k => [qvF ((qD8 t i).getD k qMA.dflt)]) := by
 refine It.intro (N := 51) [0,1,2,4,6,7,8,15,16,17,18,27,28,29,30,48] [(4,[1,0,1,1,0,1,3,3,0]),(7,[0,1,0,1,0,0,1,1,0,1,0,1,3,3,3])] 0 Tryz.call151 Tryz.func151 rfl rfl (by kernel_rfl) (fun hpre yl => ?_)
 obtain ⟨ht,hi⟩ := hpre
 have hn := qIX ht i hi
 have hna := qCW hn
 repeat' ((conv => whnf);first|(with_reducible first|rfl|exact qAF|exact qAG)|exact True.intro|intro _|refine WA ?_ ?_|refine WF ?_|refine W1 rfl ?_ ?_|refine W2 rfl ?_ ?_|refine W3 rfl ?_ ?_|refine W4 ?_ ?_|refine W5 rfl ?_ ?_|refine W6 ?_ ?_|refine WN ?_|refine X1 (W1 rfl ?_ ?_)|refine X1 (W2 rfl ?_ ?_)|refine X2 (W7 rfl ?_ ?_)|refine X3 (W7 rfl ?_ ?_)|refine X4 (W7 rfl ?_ ?_)|refine X5 (W7 rfl ?_ ?_))
 all_goals (try (conv => whnf))
 all_goals (try simp only [List.getD_cons_zero] at *)
 all_goals (try first|exact obA|refine Ob.mk ?_)
 refine LoopStop.mk (α := Nat) (fun a => [(17,.int .i64 a)]) (fun a => [(GID,.gh (some (qOH t i a)))]) 30 (fun a => a ≤ (nd t i).2.2.2.1.length) (fun a => (nd t i).2.2.2.1.length - a) 0 (Nat.zero_le _) ?_ (fun a ha => ?_)
 ·all_goals exact vcA
 ·by_cases hal : a < (nd t i).2.2.2.1.length
  ·have hAo := qYK hn hal qAP.dflt
   have hP : qOH t i (a + 1) = qOH t i a + (qMR t i ((nd t i).2.2.2.1.getD a qAP.dflt)).length := by
    unfold qOH;rw [qR6 _ _ hal qAP.dflt,List.length_append]
   rw [qKA] at hP
   have hG : ∀ j,j < (qBX (nd t i) ((nd t i).2.2.2.1.getD a qAP.dflt)).length → ∀ d,(qD8 t i).getD (qOH t i a + j) d = qWH t i ((nd t i).2.2.2.1.getD a qAP.dflt) j ((qBX (nd t i) ((nd t i).2.2.2.1.getD a qAP.dflt)).getD j []) ∧ qOH t i a + j < (qD8 t i).length := fun j hj d => by
    have h := qlQ (qMR t i) (nd t i).2.2.2.1 hal qAP.dflt (by rw [qKA];exact hj) d
    exact ⟨h.1.trans (qY4 t i _ hj d),h.2⟩
   repeat' ((conv => whnf);first|(with_reducible first|rfl|exact qAF|exact qAG)|exact True.intro|intro _|refine WA ?_ ?_|refine WF ?_|refine W1 rfl ?_ ?_|refine W2 rfl ?_ ?_|refine W3 rfl ?_ ?_|refine W4 ?_ ?_|refine W5 rfl ?_ ?_|refine W6 ?_ ?_|refine WN ?_|refine X1 (W1 rfl ?_ ?_)|refine X1 (W2 rfl ?_ ?_)|refine X2 (W7 rfl ?_ ?_)|refine X3 (W7 rfl ?_ ?_)|refine X4 (W7 rfl ?_ ?_)|refine X5 (W7 rfl ?_ ?_))
   all_goals (try (conv => whnf))
   all_goals (try simp only [List.getD_cons_zero] at *)
   all_goals (try first|exact obA|refine Ob.mk ?_)
   all_goals (try simp only [Int.toNat_natCast] at *)
   all_goals (try (first | exact Nat.le_trans hna.1 (by decide) | exact Nat.le_trans hAo.2 (by decide)))
   all_goals (try (exfalso;have h := of_decide_eq_false ‹decide ((a : Int) < ((nd t i).2.2.2.1.length : Int)) = false›;omega))
   refine LoopStop.mk (α := Nat) (fun j => [(29,.int .i64 j)]) (fun j => [(GID,.gh (some (qOH t i a + j)))]) 50 (fun j => j ≤ (qBX (nd t i) ((nd t i).2.2.2.1.getD a qAP.dflt)).length) (fun j => (qBX (nd t i) ((nd t i).2.2.2.1.getD a qAP.dflt)).length - j) 0 (Nat.zero_le _) ?_ (fun j hj => ?_)
   ·all_goals exact vcA
   ·by_cases hjl : j < (qBX (nd t i) ((nd t i).2.2.2.1.getD a qAP.dflt)).length
    ·have hg := hG j hjl qMA.dflt
     repeat' ((conv => whnf);first|(with_reducible first|rfl|exact qAF|exact qAG)|exact True.intro|intro _|refine WA ?_ ?_|refine WF ?_|refine W1 rfl ?_ ?_|refine W2 rfl ?_ ?_|refine W3 rfl ?_ ?_|refine W4 ?_ ?_|refine W5 rfl ?_ ?_|refine W6 ?_ ?_|refine WN ?_|refine X1 (W1 rfl ?_ ?_)|refine X1 (W2 rfl ?_ ?_)|refine X2 (W7 rfl ?_ ?_)|refine X3 (W7 rfl ?_ ?_)|refine X4 (W7 rfl ?_ ?_)|refine X5 (W7 rfl ?_ ?_))
     all_goals (try (conv => whnf))
     all_goals (try simp only [List.getD_cons_zero] at *)
     all_goals (try first|exact obA|refine Ob.mk ?_)
     all_goals (try simp only [Int.toNat_natCast] at *)
     all_goals (try (first | exact (congrArg Prod.fst hg.1).symm | exact (congrArg (fun r : qTC => r.2.1) hg.1).symm | exact (congrArg (fun r : qTC => r.2.2.1) hg.1).symm | exact (congrArg (fun r : qTC => r.2.2.2.1) hg.1).symm | exact (congrArg (fun r : qTC => r.2.2.2.2) hg.1).symm))
     all_goals (try (exact absurd ‹(!true) = true› (by decide)))
     all_goals (try (exact absurd ‹(!false) = false› (by decide)))
     all_goals (try (exact absurd (Int.ofNat_lt.mpr hjl) (of_decide_eq_false (by assumption))))
     all_goals (try (exact hg.2))
     all_goals (refine Rnd.mk ⟨j + 1,by omega,by omega,?_⟩)
     all_goals (try rfl)
     repeat' ((conv => whnf);first|(with_reducible first|rfl|exact qAF|exact qAG)|exact True.intro|intro _|refine WA ?_ ?_|refine WF ?_|refine W1 rfl ?_ ?_|refine W2 rfl ?_ ?_|refine W3 rfl ?_ ?_|refine W4 ?_ ?_|refine W5 rfl ?_ ?_|refine W6 ?_ ?_|refine WN ?_|refine X1 (W1 rfl ?_ ?_)|refine X1 (W2 rfl ?_ ?_)|refine X2 (W7 rfl ?_ ?_)|refine X3 (W7 rfl ?_ ?_)|refine X4 (W7 rfl ?_ ?_)|refine X5 (W7 rfl ?_ ?_))
     all_goals (try (conv => whnf))
     all_goals (try first|exact obA|refine Ob.mk ?_)
     all_goals (try rfl)
     all_goals trace_state
    ·have e : j = (qBX (nd t i) ((nd t i).2.2.2.1.getD a qAP.dflt)).length := by omega
     repeat' ((conv => whnf);first|(with_reducible first|rfl|exact qAF|exact qAG)|exact True.intro|intro _|refine WA ?_ ?_|refine WF ?_|refine W1 rfl ?_ ?_|refine W2 rfl ?_ ?_|refine W3 rfl ?_ ?_|refine W4 ?_ ?_|refine W5 rfl ?_ ?_|refine W6 ?_ ?_|refine WN ?_|refine X1 (W1 rfl ?_ ?_)|refine X1 (W2 rfl ?_ ?_)|refine X2 (W7 rfl ?_ ?_)|refine X3 (W7 rfl ?_ ?_)|refine X4 (W7 rfl ?_ ?_)|refine X5 (W7 rfl ?_ ?_))
     all_goals (try (conv => whnf))
     all_goals (try simp only [List.getD_cons_zero] at *)
     all_goals (try first|exact obA|refine Ob.mk ?_)
     all_goals (try simp only [Int.toNat_natCast] at *)
     all_goals (try (exact absurd (of_decide_eq_true (by assumption)) (fun h => hjl (Int.ofNat_lt.mp h))))
     all_goals (try (refine Rnd.mk ⟨a + 1,by omega,by omega,?_⟩))
     repeat' ((conv => whnf);first|(with_reducible first|rfl|exact qAF|exact qAG)|exact True.intro|intro _|refine WA ?_ ?_|refine WF ?_|refine W1 rfl ?_ ?_|refine W2 rfl ?_ ?_|refine W3 rfl ?_ ?_|refine W4 ?_ ?_|refine W5 rfl ?_ ?_|refine W6 ?_ ?_|refine WN ?_|refine X1 (W1 rfl ?_ ?_)|refine X1 (W2 rfl ?_ ?_)|refine X2 (W7 rfl ?_ ?_)|refine X3 (W7 rfl ?_ ?_)|refine X4 (W7 rfl ?_ ?_)|refine X5 (W7 rfl ?_ ?_))
     all_goals (try (conv => whnf))
     all_goals (try first|exact obA|refine Ob.mk ?_)
     all_goals (first | (rw [hP, ← e];done) | rfl | trace_state)
  ·have e : a = (nd t i).2.2.2.1.length := by omega
   repeat' ((conv => whnf);first|(with_reducible first|rfl|exact qAF|exact qAG)|exact True.intro|intro _|refine WA ?_ ?_|refine WF ?_|refine W1 rfl ?_ ?_|refine W2 rfl ?_ ?_|refine W3 rfl ?_ ?_|refine W4 ?_ ?_|refine W5 rfl ?_ ?_|refine W6 ?_ ?_|refine WN ?_|refine X1 (W1 rfl ?_ ?_)|refine X1 (W2 rfl ?_ ?_)|refine X2 (W7 rfl ?_ ?_)|refine X3 (W7 rfl ?_ ?_)|refine X4 (W7 rfl ?_ ?_)|refine X5 (W7 rfl ?_ ?_))
   all_goals (try (conv => whnf))
   all_goals (try simp only [List.getD_cons_zero] at *)
   all_goals (try first|exact obA|refine Ob.mk ?_)
   all_goals (try (exfalso;have h := of_decide_eq_true ‹decide ((a : Int) < ((nd t i).2.2.2.1.length : Int)) = true›;omega))
   all_goals (unfold qOH qD8;rw [e,List.take_length])
def ofT (t : List qAE) : List qTC := (qA9 t).flatMap (qD8 t)
theorem qUC (kind : Int) (v : List UInt8) : (qFK kind v).length ≤ v.length + 1 := by
 unfold qFK
 repeat' split
 ·exact Nat.le_trans (qc8 _) (qPL v).2
 all_goals simp
theorem qb3 {α β : Type} (f : α → List β) {m : Nat} : ∀ L : List α,(∀ x ∈ L,(f x).length ≤ m) → (L.flatMap f).length ≤ L.length * m := by
 intro L
 induction L with
 | nil => intro _;simp
 | cons a L ih =>
  intro h
  rw [List.flatMap_cons,List.length_append,List.length_cons,Nat.succ_mul]
  have := h a List.mem_cons_self
  have := ih fun x hx => h x (List.mem_cons_of_mem _ hx)
  omega
theorem qYT {t : List qAE} {i : Int} (h : qHK (nd t i) = true) : (qD8 t i).length ≤ 14 * 151 := by
 have h1 := (qCW h).2.1
 refine Nat.le_trans (qb3 (m := 151) _ _ fun a ha => ?_) (Nat.mul_le_mul_right _ h1)
 obtain ⟨j,hj,e⟩ := List.mem_iff_getElem.1 ha
 have h2 := qYK h hj ([],[])
 rw [List.getD_eq_getElem?_getD,List.getElem?_eq_getElem hj] at h2
 simp only [Option.getD_some,e] at h2
 rw [qKA]
 exact Nat.le_trans (qUC _ _) (by omega)
theorem qSP {t : List qAE} {i : Int} (h : i ∈ qA9 t) : 0 ≤ i ∧ i < t.length := by
 obtain ⟨j,hj,e⟩ := List.mem_iff_getElem.1 h
 have hi := qFV t j hj 0
 rw [List.getD_eq_getElem?_getD,List.getElem?_eq_getElem hj] at hi
 simp only [Option.getD_some,e] at hi
 exact hi
theorem qd0 {t : List qAE} (h : qA4 t 45 = true) (k : Nat) : (((qA9 t).take k).flatMap (qD8 t)).length ≤ 45 * (14 * 151) := by
 have hl := qUH h
 have h2 := qXI t
 refine Nat.le_trans (qb3 (m := 14 * 151) _ _ fun a ha => qYT (qIX h a (qSP (List.mem_of_mem_take ha)))) (Nat.mul_le_mul_right _ ?_)
 rw [List.length_take];omega
instance rOf (t : List qAE) : Fn BB 54 [.agg [.rd qAC t]] (qA4 t 45 = true) (.rd qMA (ofT t)) := by
 refine Fn.intro (N := 24) [0,1,2,3,5,6,8,9,10,11,16,17] [] Tryz.call54 Tryz.func54 rfl rfl (by kernel_rfl) (fun hpre => ?_)
 have ht := hpre
 have hl := qUH ht
 repeat' ((conv => whnf);first|(with_reducible first|rfl|exact qAF|exact qAG)|exact True.intro|intro _|refine WA ?_ ?_|refine WF ?_|refine W1 rfl ?_ ?_|refine W2 rfl ?_ ?_|refine W3 rfl ?_ ?_|refine W4 ?_ ?_|refine W5 rfl ?_ ?_|refine W6 ?_ ?_|refine WN ?_|refine X1 (W1 rfl ?_ ?_)|refine X1 (W2 rfl ?_ ?_)|refine X2 (W7 rfl ?_ ?_)|refine X3 (W7 rfl ?_ ?_)|refine X4 (W7 rfl ?_ ?_)|refine X5 (W7 rfl ?_ ?_))
 all_goals (try (conv => whnf))
 all_goals (try first|exact obA|refine Ob.mk ?_)
 refine LoopStop.mk (α := Nat) (fun k => [(10,.int .i64 k)]) (fun k => [(1,.box [.own 20]),(20,.own qMA (((qA9 t).take k).flatMap (qD8 t)))]) 40 (fun k => k ≤ (qA9 t).length) (fun k => (qA9 t).length - k) 0 (Nat.zero_le _) ?_ (fun k hk => ?_)
 ·repeat' ((conv => whnf);first|(with_reducible first|rfl|exact qAF|exact qAG)|exact True.intro|intro _|refine WA ?_ ?_|refine WF ?_|refine W1 rfl ?_ ?_|refine W2 rfl ?_ ?_|refine W3 rfl ?_ ?_|refine W4 ?_ ?_|refine W5 rfl ?_ ?_|refine W6 ?_ ?_|refine WN ?_|refine X1 (W1 rfl ?_ ?_)|refine X1 (W2 rfl ?_ ?_)|refine X2 (W7 rfl ?_ ?_)|refine X3 (W7 rfl ?_ ?_)|refine X4 (W7 rfl ?_ ?_)|refine X5 (W7 rfl ?_ ?_))
  all_goals (try (conv => whnf))
  all_goals (try first|exact obA|refine Ob.mk ?_)
  all_goals (try rfl)
  all_goals trace_state
 ·by_cases hkl : k < (qA9 t).length
  ·have hat : 0 ≤ (qBK (fin t).L).getD k qAH.dflt ∧ (qBK (fin t).L).getD k qAH.dflt < t.length := qFV t k hkl _
   have hF : ((qA9 t).take (k + 1)).flatMap (qD8 t) = ((qA9 t).take k).flatMap (qD8 t) ++ qD8 t ((qBK (fin t).L).getD k qAH.dflt) := qR6 (qD8 t) (qBK (fin t).L) hkl qAH.dflt
   have hL := qd0 ht (k + 1)
   rw [hF,List.length_append] at hL
   repeat' ((conv => whnf);first|(with_reducible first|rfl|exact qAF|exact qAG)|exact True.intro|intro _|refine WA ?_ ?_|refine WF ?_|refine W1 rfl ?_ ?_|refine W2 rfl ?_ ?_|refine W3 rfl ?_ ?_|refine W4 ?_ ?_|refine W5 rfl ?_ ?_|refine W6 ?_ ?_|refine WN ?_|refine X1 (W1 rfl ?_ ?_)|refine X1 (W2 rfl ?_ ?_)|refine X2 (W7 rfl ?_ ?_)|refine X3 (W7 rfl ?_ ?_)|refine X4 (W7 rfl ?_ ?_)|refine X5 (W7 rfl ?_ ?_))
   all_goals (try (conv => whnf))
   all_goals (try first|exact obA|refine Ob.mk ?_)
   all_goals (try simp only [Int.toNat_natCast] at *)
   all_goals (try (exact absurd (Int.ofNat_lt.mpr hkl) (of_decide_eq_false (by assumption))))
   refine RangeStop.mk (α := Nat) ⟨ht,hat⟩ rfl (fun i => [(1,.box [.own 20]),(20,.own qMA (((qA9 t).take k).flatMap (qD8 t) ++ (qD8 t ((qBK (fin t).L).getD k qAH.dflt)).take i))]) 80 (fun i j => j = i) 0 rfl ?_ (fun i j hC hi => ?_) (fun j hC => ?_)
   ·repeat' ((conv => whnf);first|(with_reducible first|rfl|exact qAF|exact qAG)|exact True.intro|intro _|refine WA ?_ ?_|refine WF ?_|refine W1 rfl ?_ ?_|refine W2 rfl ?_ ?_|refine W3 rfl ?_ ?_|refine W4 ?_ ?_|refine W5 rfl ?_ ?_|refine W6 ?_ ?_|refine WN ?_|refine X1 (W1 rfl ?_ ?_)|refine X1 (W2 rfl ?_ ?_)|refine X2 (W7 rfl ?_ ?_)|refine X3 (W7 rfl ?_ ?_)|refine X4 (W7 rfl ?_ ?_)|refine X5 (W7 rfl ?_ ?_))
    all_goals (try (conv => whnf))
    all_goals (try first|exact obA|refine Ob.mk ?_)
    all_goals (first | rfl | (rw [List.take_zero,List.append_nil];done) | trace_state)
   ·subst hC
    have hT : (qD8 t ((qBK (fin t).L).getD k qAH.dflt)).take (j + 1) = (qD8 t ((qBK (fin t).L).getD k qAH.dflt)).take j ++ [(qD8 t ((qBK (fin t).L).getD k qAH.dflt)).getD j qMA.dflt] := qXW _ hi _
    have hTl : ((qD8 t ((qBK (fin t).L).getD k qAH.dflt)).take j).length ≤ j := by rw [List.length_take];omega
    repeat' ((conv => whnf);first|(with_reducible first|rfl|exact qAF|exact qAG)|exact True.intro|intro _|refine WA ?_ ?_|refine WF ?_|refine W1 rfl ?_ ?_|refine W2 rfl ?_ ?_|refine W3 rfl ?_ ?_|refine W4 ?_ ?_|refine W5 rfl ?_ ?_|refine W6 ?_ ?_|refine WN ?_|refine X1 (W1 rfl ?_ ?_)|refine X1 (W2 rfl ?_ ?_)|refine X2 (W7 rfl ?_ ?_)|refine X3 (W7 rfl ?_ ?_)|refine X4 (W7 rfl ?_ ?_)|refine X5 (W7 rfl ?_ ?_))
    all_goals (try (conv => whnf))
    all_goals (try first|exact obA|refine Ob.mk ?_)
    all_goals (try (simp only [cast_eq,qcX,qbC,List.length_append,List.length_cons,List.length_nil] at *;omega))
    all_goals (refine Rnd.mk ⟨j + 1,rfl,?_⟩)
    repeat' ((conv => whnf);first|(with_reducible first|rfl|exact qAF|exact qAG)|exact True.intro|intro _|refine WA ?_ ?_|refine WF ?_|refine W1 rfl ?_ ?_|refine W2 rfl ?_ ?_|refine W3 rfl ?_ ?_|refine W4 ?_ ?_|refine W5 rfl ?_ ?_|refine W6 ?_ ?_|refine WN ?_|refine X1 (W1 rfl ?_ ?_)|refine X1 (W2 rfl ?_ ?_)|refine X2 (W7 rfl ?_ ?_)|refine X3 (W7 rfl ?_ ?_)|refine X4 (W7 rfl ?_ ?_)|refine X5 (W7 rfl ?_ ?_))
    all_goals (try (conv => whnf))
    all_goals (try first|exact obA|refine Ob.mk ?_)
    all_goals (try simp only [cast_eq])
    all_goals (first | (rw [hT, ← List.append_assoc];done) | rfl | trace_state)
   ·subst hC
    repeat' ((conv => whnf);first|(with_reducible first|rfl|exact qAF|exact qAG)|exact True.intro|intro _|refine WA ?_ ?_|refine WF ?_|refine W1 rfl ?_ ?_|refine W2 rfl ?_ ?_|refine W3 rfl ?_ ?_|refine W4 ?_ ?_|refine W5 rfl ?_ ?_|refine W6 ?_ ?_|refine WN ?_|refine X1 (W1 rfl ?_ ?_)|refine X1 (W2 rfl ?_ ?_)|refine X2 (W7 rfl ?_ ?_)|refine X3 (W7 rfl ?_ ?_)|refine X4 (W7 rfl ?_ ?_)|refine X5 (W7 rfl ?_ ?_))
    all_goals (try (conv => whnf))
    all_goals (try first|exact obA|refine Ob.mk ?_)
    all_goals (refine Rnd.mk ⟨k + 1,by omega,by omega,?_⟩)
    repeat' ((conv => whnf);first|(with_reducible first|rfl|exact qAF|exact qAG)|exact True.intro|intro _|refine WA ?_ ?_|refine WF ?_|refine W1 rfl ?_ ?_|refine W2 rfl ?_ ?_|refine W3 rfl ?_ ?_|refine W4 ?_ ?_|refine W5 rfl ?_ ?_|refine W6 ?_ ?_|refine WN ?_|refine X1 (W1 rfl ?_ ?_)|refine X1 (W2 rfl ?_ ?_)|refine X2 (W7 rfl ?_ ?_)|refine X3 (W7 rfl ?_ ?_)|refine X4 (W7 rfl ?_ ?_)|refine X5 (W7 rfl ?_ ?_))
    all_goals (try (conv => whnf))
    all_goals (try first|exact obA|refine Ob.mk ?_)
    all_goals (first | (rw [hF,List.take_length];done) | rfl | trace_state)
  ·have e : k = (qBK (fin t).L).length := by have h : (qA9 t).length = (qBK (fin t).L).length := rfl;omega
   repeat' ((conv => whnf);first|(with_reducible first|rfl|exact qAF|exact qAG)|exact True.intro|intro _|refine WA ?_ ?_|refine WF ?_|refine W1 rfl ?_ ?_|refine W2 rfl ?_ ?_|refine W3 rfl ?_ ?_|refine W4 ?_ ?_|refine W5 rfl ?_ ?_|refine W6 ?_ ?_|refine WN ?_|refine X1 (W1 rfl ?_ ?_)|refine X1 (W2 rfl ?_ ?_)|refine X2 (W7 rfl ?_ ?_)|refine X3 (W7 rfl ?_ ?_)|refine X4 (W7 rfl ?_ ?_)|refine X5 (W7 rfl ?_ ?_))
   all_goals (try (conv => whnf))
   all_goals (try first|exact obA|refine Ob.mk ?_)
   all_goals (try (exact absurd (of_decide_eq_true (by assumption)) (by omega)))
   all_goals (unfold ofT;rw [e,show qA9 t = qBK (fin t).L from rfl,List.take_length])
end Go.Vc

namespace Go.Vc
open Go.Proofs
open Go.Vc.W
set_option maxRecDepth 10000
set_option maxHeartbeats 4000000
theorem Fn.wk {B : Base} {f : FuncId} {args args' : List SV} {pre : Prop} {res : SV} (F : Fn B f args pre res) (h : ∀ r β vs,qAT r β args' vs → qAT r β args vs) : Fn B f args' pre res :=
 ⟨F.call,fun hp r β w vs hG m hl => F.ok hp r β w vs hG m (h r β vs hl)⟩
theorem qYB {α : Type} {l : List α} {i : Nat} (h : i < l.length) (d : α) : l.getD i d ∈ l := by
 rw [List.getD_eq_getElem?_getD,List.getElem?_eq_getElem h];exact List.getElem_mem _
theorem qZ5 {r : Mem} {β : qAW} {v : Value} {a b c e f : SV} (h : Rel r β (.agg [a,b,c,.nils,e,f,.nils]) v) : Rel r β (.agg [a,b,c,.rd qAP [],e,f,.rd qAH []]) v := by
 cases h with
 | agg hl h =>
  refine .agg hl fun i sv v h1 h2 => ?_
  match i,h1 with
  | 0,h1 => exact h 0 _ _ h1 h2
  | 1,h1 => exact h 1 _ _ h1 h2
  | 2,h1 => exact h 2 _ _ h1 h2
  | 3,h1 => cases h1;exact qYR (h 3 _ _ rfl h2)
  | 4,h1 => exact h 4 _ _ h1 h2
  | 5,h1 => exact h 5 _ _ h1 h2
  | 6,h1 => cases h1;exact qYR (h 6 _ _ rfl h2)
  | n + 7,h1 => cases h1
theorem qeV {r : Mem} {β : qAW} {xs ys : List SV} (hl : xs.length = ys.length) (h : ∀ (i : Nat) (x y : SV),xs[i]? = some x → ys[i]? = some y → ∀ v,Rel r β x v → Rel r β y v) (vs : List Value) (q : qAT r β xs vs) : qAT r β ys vs := by
 refine ⟨by rw [q.1,hl],fun i y v h1 h2 => ?_⟩
 have hi : i < ys.length := by
  rcases Nat.lt_or_ge i ys.length with h | h
  ·exact h
  ·rw [List.getElem?_eq_none h] at h1;cases h1
 exact h i (xs[i]'(by omega)) y (List.getElem?_eq_getElem _) h1 v (q.2 i _ v (List.getElem?_eq_getElem _) h2)
instance nKind (k s : Int) (nn : List UInt8) (dt : List UInt8) (up : Int) (nm : List UInt8) : Fn BB 46 [.agg [.int .i64 k,.int .i64 s,.str nn,.nils,.str dt,.int .i64 up,.nils],.str nm] (nn.length ≤ 1000) (.int .i64 (qK2 k s nn nm)) :=
 Fn.wk (rKind k s nn [] dt up [] nm) fun r β => qeV rfl fun i x y h1 h2 v hv => by
  match i,h1,h2 with
  | 0,h1,h2 => cases h1;cases h2;exact qZ5 hv
  | 1,h1,h2 => cases h1;cases h2;exact hv
theorem qYW {kind : Int} {v w : List UInt8} (h : w ∈ qFK kind v) : ¬ w = [] := by
 unfold qFK at h
 split at h
 ·exact ((qPL v).1 w h).1
 ·split at h
  ·split at h
   ·cases h
   ·rw [List.mem_singleton] at h;rw [h];assumption
  ·split at h
   ·split at h
    ·cases h
    ·rw [List.mem_singleton] at h;rw [h];assumption
   ·cases h
theorem qaN (v : List UInt8) : qFK 0 v = [] := by unfold qFK;simp
theorem qeQ {t : List qAE} {r : qTC} (h : r ∈ ofT t) : ∃ i ∈ qA9 t,∃ a,∃ (ha : a < (nd t i).2.2.2.1.length),∃ j,∃ (hj : j < (qBX (nd t i) ((nd t i).2.2.2.1.getD a ([],[]))).length),
  r = qWH t i ((nd t i).2.2.2.1.getD a ([],[])) j ((qBX (nd t i) ((nd t i).2.2.2.1.getD a ([],[]))).getD j []) := by
 unfold ofT at h
 obtain ⟨i,hi,h⟩ := List.mem_flatMap.1 h
 unfold qD8 at h
 obtain ⟨x,hx,h⟩ := List.mem_flatMap.1 h
 obtain ⟨a,ha,e⟩ := List.mem_iff_getElem.1 hx
 have e2 : x = (nd t i).2.2.2.1.getD a ([],[]) := by rw [List.getD_eq_getElem?_getD,List.getElem?_eq_getElem ha];exact e.symm
 unfold qMR at h
 obtain ⟨j,hj,e3⟩ := List.mem_map.1 h
 subst e2
 exact ⟨i,hi,a,ha,j,List.mem_range.1 hj,e3.symm⟩
theorem qZJ {el nm v : List UInt8} {n : qAE} (h : qG1 el nm v n = true) : n.1 = 1 := by
 unfold qG1 at h
 simp only [Bool.and_eq_true,beq_iff_eq] at h
 exact h.1.1
theorem qZ7 (t : List qAE) (el nm v : List UInt8) : qEK t el nm v = 0 ∨ (nd t (qEK t el nm v)).1 = 1 := by
 unfold qEK
 by_cases h : v = []
 ·rw [if_pos h];exact .inl rfl
 ·rw [if_neg h]
  cases hf : (qA9 t).find? fun i => qG1 el nm v (nd t i) with
  | none => exact .inl rfl
  | some x => have q := List.find?_some hf;exact .inr (qZJ (show qG1 el nm v (nd t x) = true from q))
theorem qS1 (t : List qAE) (i : Int) (nm : List UInt8) : qJG t i nm = 0 ∨ qJG t i nm = i := by
 unfold qJG;split
 ·exact .inr rfl
 ·exact .inl rfl
theorem qaJ (t : List qAE) (v : List UInt8) : qQB t v = qEK t [97] qIJ v ∨ qQB t v = qEK t [] idT v := by
 unfold qQB;split
 ·exact .inl rfl
 ·exact .inr rfl
theorem qhV (t : List qAE) (i : Int) (nm w : List UInt8) : toN t i nm w = 0 ∨ ∃ el n2 v,toN t i nm w = qEK t el n2 v ∧ 0 < t.length := by
 unfold toN
 split
 ·have h0 : 0 < t.length := by omega
  split
  ·exact .inr ⟨_,_,_,rfl,h0⟩
  ·split
   ·rcases qaJ t w with h | h <;> rw [h] <;> exact .inr ⟨_,_,_,rfl,h0⟩
   ·split
    ·rcases qS1 t (firstT t w) qZS with h | h <;> rw [h]
     ·exact .inl rfl
     ·exact .inr ⟨_,_,_,rfl,h0⟩
    ·split
     ·rcases qS1 t (firstT t w) qES with h | h <;> rw [h]
      ·exact .inl rfl
      ·exact .inr ⟨_,_,_,rfl,h0⟩
     ·exact .inr ⟨_,_,_,rfl,h0⟩
 ·exact .inl rfl
theorem qiA (t : List qAE) (i : Int) (nm w : List UInt8) (h0 : 0 < t.length) : (0 ≤ toN t i nm w ∧ toN t i nm w < t.length) ∧ (toN t i nm w = 0 ∨ (nd t (toN t i nm w)).1 = 1) := by
 rcases qhV t i nm w with h | ⟨el,n2,v,h,_⟩
 ·rw [h];exact ⟨by omega,.inl rfl⟩
 ·rw [h];exact ⟨qST t el n2 v h0,qZ7 t el n2 v⟩
theorem qfJ {t : List qAE} (h : qE4 t = true) : (nd t 0).1 = 0 := by
 unfold qE4 badR at h
 simp only [Bool.and_eq_true,Bool.not_eq_true',Bool.or_eq_false_iff,bne_eq_false_iff_eq] at h
 exact h.1.1.2
def qlO (n : qAE) (r : qTC) (a : qAJ) : Bool := a.1 == r.2.1 && decide (r.2.2.1 ≥ 0) && decide (r.2.2.1 < ((qBX n a).length : Int)) && ((qBX n a).getD r.2.2.1.toNat [] == r.2.2.2.1)
theorem qg9 {t : List qAE} (hr : qE4 t = true) {r : qTC} (h : r ∈ ofT t) :
  (0 < r.1 ∧ r.1 < t.length) ∧ (0 ≤ r.2.2.2.2 ∧ r.2.2.2.2 < t.length) ∧ (r.2.2.2.2 = 0 ∨ (nd t r.2.2.2.2).1 = 1) ∧ ¬ r.2.2.2.1 = [] ∧ (nd t r.1).2.2.2.1.any (qlO (nd t r.1) r) = true := by
 obtain ⟨i,hi,a,ha,j,hj,e⟩ := qeQ h
 have hi2 := qSP hi
 subst e
 have hw : (qBX (nd t i) ((nd t i).2.2.2.1.getD a ([],[]))).getD j [] ∈ qBX (nd t i) ((nd t i).2.2.2.1.getD a ([],[]))  := qYB hj _
 have hto := qiA t i ((nd t i).2.2.2.1.getD a ([],[])).1 ((qBX (nd t i) ((nd t i).2.2.2.1.getD a ([],[]))).getD j []) (by omega)
 refine ⟨⟨?_,hi2.2⟩,hto.1,hto.2,qYW hw,?_⟩
 ·show 0 < i
  rcases (by omega : i = 0 ∨ 0 < i) with q | q
  ·exfalso
   subst q
   have hk : qHH (nd t 0) ((nd t 0).2.2.2.1.getD a ([],[])).1 = 0 := qYO (by rw [qfJ hr];decide)
   unfold qBX at hj
   rw [hk,qaN] at hj
   exact absurd hj (Nat.not_lt_zero _)
  ·exact q
 ·rw [List.any_eq_true]
  refine ⟨(nd t i).2.2.2.1.getD a ([],[]),qYB ha _,?_⟩
  show (_ == _ && decide ((j : Int) ≥ 0) && decide ((j : Int) < _) && (List.getD _ ((j : Int)).toNat [] == _)) = true
  rw [decide_eq_true (by omega),decide_eq_true (by exact_mod_cast hj),Int.toNat_natCast]
  simp [qWH]
end Go.Vc

namespace Go.Vc
open Go.Proofs
set_option maxRecDepth 10000
def qiF (l : List Int) : Nat → Nat
 | 0 => 0
 | k + 1 => bif l.getD k 0 == -1 then k + 1 else qiF l k
def qvX (l : List Int) : Nat := qiF l l.length
instance a43 (l : List Int) : Fn BB 339 [.rd qAH l] True (.int .i64 (qvX l)) := by
 refine Fn.intro (N := 18) [0,2,3,8,15] [] Tryz.call339 Tryz.func339 rfl rfl (by kernel_rfl) (fun hpre => ?_)
 repeat' ((conv => whnf);first|(with_reducible first|rfl|exact qAF|exact qAG)|exact True.intro|intro _|refine WA ?_ ?_|refine WF ?_|refine W1 rfl ?_ ?_|refine W2 rfl ?_ ?_|refine W3 rfl ?_ ?_|refine W4 ?_ ?_|refine W5 rfl ?_ ?_|refine W6 ?_ ?_|refine WN ?_|refine X1 (W1 rfl ?_ ?_)|refine X1 (W2 rfl ?_ ?_)|refine X2 (W7 rfl ?_ ?_)|refine X3 (W7 rfl ?_ ?_)|refine X4 (W7 rfl ?_ ?_)|refine X5 (W7 rfl ?_ ?_))
 all_goals (try (conv => whnf))
 all_goals (try first|exact obA|refine Ob.mk ?_)
 refine LoopStop.mk (α := Nat) (fun i => [(3,.int .i64 ((l.length : Int) - 1 - i))]) (fun i => []) 20 (fun i => i ≤ l.length ∧ qvX l = qiF l (l.length - i)) (fun i => l.length - i) 0 (by simp [qvX]) ?_ (fun i hC => ?_)
 ·all_goals exact vcA
 ·obtain ⟨hi,hC⟩ := hC
  repeat' ((conv => whnf);first|(with_reducible first|rfl|exact qAF|exact qAG)|exact True.intro|intro _|refine WA ?_ ?_|refine WF ?_|refine W1 rfl ?_ ?_|refine W2 rfl ?_ ?_|refine W3 rfl ?_ ?_|refine W4 ?_ ?_|refine W5 rfl ?_ ?_|refine W6 ?_ ?_|refine WN ?_|refine X1 (W1 rfl ?_ ?_)|refine X1 (W2 rfl ?_ ?_)|refine X2 (W7 rfl ?_ ?_)|refine X3 (W7 rfl ?_ ?_)|refine X4 (W7 rfl ?_ ?_)|refine X5 (W7 rfl ?_ ?_))
  all_goals (try (conv => whnf))
  all_goals (try first|exact obA|refine Ob.mk ?_)
  ·rename_i hp h
   have hp : (l.length : Int) - 1 - i ≥ 0 := by simpa using hp
   obtain ⟨k,hk⟩ : ∃ k,l.length - i = k + 1 := ⟨l.length - i - 1,by omega⟩
   rw [hk,qiF] at hC
   have h : (l.getD k 0 == -1) = true := by rw [← h,show ((l.length : Int) - 1 - i).toNat = k by omega];rfl
   rw [h,cond_true] at hC
   rw [hC];omega
  ·rename_i hp h
   have hp : (l.length : Int) - 1 - i ≥ 0 := by simpa using hp
   obtain ⟨k,hk⟩ : ∃ k,l.length - i = k + 1 := ⟨l.length - i - 1,by omega⟩
   rw [hk,qiF] at hC
   have h : (l.getD k 0 == -1) = false := by rw [← h,show ((l.length : Int) - 1 - i).toNat = k by omega];rfl
   rw [h,cond_false] at hC
   refine Rnd.mk ⟨i + 1,⟨by omega,by rw [hC];congr 1;omega⟩,by omega,?_,?_,?_⟩
   all_goals exact vcA
  ·(try simp only [ZA,ZB,ZC,ZD,ZE,ZF,ZG,ZH,ZI,ZJ,ZK,ZL,ZM,ZN,ZO,Int.toNat_natCast,UInt8.ofNat_toNat,cast_eq] at *)
   rw [hC,show l.length - i = 0 by omega];rfl
instance a46 (l : List qAE) (i : Int) : Fn BB 341 [.agg [.rd qAC l],.int .i64 i] True (.bool (isT l i)) := by
 refine Fn.intro (N := 14) [0,1,2,4] [] Tryz.call341 Tryz.func341 rfl rfl (by kernel_rfl) (fun hpre => ?_)
 repeat' ((conv => whnf);first|(with_reducible first|rfl|exact qAF|exact qAG)|exact True.intro|intro _|refine WA ?_ ?_|refine WF ?_|refine W1 rfl ?_ ?_|refine W2 rfl ?_ ?_|refine W3 rfl ?_ ?_|refine W4 ?_ ?_|refine W5 rfl ?_ ?_|refine W6 ?_ ?_|refine WN ?_|refine X1 (W1 rfl ?_ ?_)|refine X1 (W2 rfl ?_ ?_)|refine X2 (W7 rfl ?_ ?_)|refine X3 (W7 rfl ?_ ?_)|refine X4 (W7 rfl ?_ ?_)|refine X5 (W7 rfl ?_ ?_))
 all_goals (try (conv => whnf))
 all_goals (try first|exact obA|refine Ob.mk ?_)
 all_goals (simp_all [isT];done)
end Go.Vc

namespace Go.Vc.W
open Go.Proofs
set_option maxRecDepth 10000
def qdX : List UInt8 := [97,32,98,32,98,105,103,32,99,111,100,101,32,101,109,32,102,111,110,116,32,105,32,110,111,98,114,32,115,32,115,109,97,108,108,32,115,116,114,105,107,101,32,115,116,114,111,110,103,32,116,116,32,117]
def quS : List UInt8 := [104,49,32,104,50,32,104,51,32,104,52,32,104,53,32,104,54]
def cImpl : List UInt8 := [100,100,32,100,116,32,108,105,32,111,112,116,103,114,111,117,112,32,111,112,116,105,111,110,32,112,32,114,98,32,114,112,32,114,116,32,114,116,99]
def qgU : List UInt8 := [97,100,100,114,101,115,115,32,97,114,116,105,99,108,101,32,97,115,105,100,101,32,98,108,111,99,107,113,117,111,116,101,32,99,101,110,116,101,114,32,100,101,116,97,105,108,115,32,100,105,97,108,111,103,32,100,105,114,32,100,105,118,32,100,108,32,102,105,101,108,100,115,101,116,32,102,105,103,99,97,112,116,105,111,110,32,102,105,103,117,114,101,32,102,111,111,116,101,114,32,104,101,97,100,101,114,32,104,103,114,111,117,112,32,108,105,115,116,105,110,103,32,109,97,105,110,32,109,101,110,117,32,110,97,118,32,111,108,32,112,32,112,114,101,32,115,101,97,114,99,104,32,115,101,99,116,105,111,110,32,115,117,109,109,97,114,121,32,117,108]
def cRc : List UInt8 := [116,101,120,116,97,114,101,97,32,116,105,116,108,101]
def qxE : List UInt8 := [105,102,114,97,109,101,32,110,111,101,109,98,101,100,32,110,111,102,114,97,109,101,115,32,115,116,121,108,101,32,120,109,112]
def qYV : List UInt8 := [115,99,114,105,112,116]
def qb5 : List UInt8 := [112,108,97,105,110,116,101,120,116]
def has (c nm : List UInt8) : Bool := (spl c).contains nm
def kHtml (sp : Int) (nm c : List UInt8) : Bool := sp == 0 && has c nm
def qbK (nm : List UInt8) : Int := if has cRc nm then 1 else if has qxE nm then 2 else if nm = qYV then 3 else if nm = qb5 then 4 else 0
instance f28 (sp : Int) (nm c : List UInt8) : Fn BB 171 [.int .i64 sp,.str nm,.str c] (nm.length ≤ 60 ∧ c.length ≤ 100000) (.bool (kHtml sp nm c)) := by
 refine Fn.intro (N := 14) [0,1,2,6] [] Tryz.call171 Tryz.func171 rfl rfl (by kernel_rfl) (fun hpre => ?_)
 all_goals exact vcA
end Go.Vc.W

namespace Go.Vc.W
open Go.Proofs
set_option maxRecDepth 10000
instance f9 (sp : Int) (nm : List UInt8) : Fn BB 229 [.int .i64 sp,.str nm] (nm.length ≤ 60) (.bool (kHtml sp nm qdX)) := by
 refine Fn.intro (N := 8) [0,1,4] [] Tryz.call229 Tryz.func229 rfl rfl (by kernel_rfl) (fun hpre => ?_)
 all_goals exact vcA
instance f13 (sp : Int) (nm : List UInt8) : Fn BB 195 [.int .i64 sp,.str nm] (nm.length ≤ 60) (.bool (kHtml sp nm quS)) := by
 refine Fn.intro (N := 8) [0,1,4] [] Tryz.call195 Tryz.func195 rfl rfl (by kernel_rfl) (fun hpre => ?_)
 all_goals exact vcA
instance f15 (sp : Int) (nm : List UInt8) : Fn BB 351 [.int .i64 sp,.str nm] (nm.length ≤ 60) (.bool (kHtml sp nm cImpl)) := by
 refine Fn.intro (N := 8) [0,1,4] [] Tryz.call351 Tryz.func351 rfl rfl (by kernel_rfl) (fun hpre => ?_)
 all_goals exact vcA
instance f17 (nm : List UInt8) : Fn BB 196 [.str nm] (nm.length ≤ 60) (.bool (has qgU nm)) := by
 refine Fn.intro (N := 5) [0,2] [] Tryz.call196 Tryz.func196 rfl rfl (by kernel_rfl) (fun hpre => ?_)
 all_goals exact vcA
instance f25 (nm : List UInt8) : Fn BB 153 [.str nm] (nm.length ≤ 60) (.int .i64 (qbK nm)) := by
 refine Fn.intro (N := 11) [0,2,4,6,8,10] [] Tryz.call153 Tryz.func153 rfl rfl (by kernel_rfl) (fun hpre => ?_)
 repeat' ((conv => whnf);first|(with_reducible first|rfl|exact qAF|exact qAG)|exact True.intro|intro _|refine WA ?_ ?_|refine WF ?_|refine W1 rfl ?_ ?_|refine W2 rfl ?_ ?_|refine W3 rfl ?_ ?_|refine W4 ?_ ?_|refine W5 rfl ?_ ?_|refine W6 ?_ ?_|refine WN ?_|refine X1 (W1 rfl ?_ ?_)|refine X1 (W2 rfl ?_ ?_)|refine X2 (W7 rfl ?_ ?_)|refine X3 (W7 rfl ?_ ?_)|refine X4 (W7 rfl ?_ ?_)|refine X5 (W7 rfl ?_ ?_))
 all_goals (try (conv => whnf))
 all_goals (try first|exact obA|refine Ob.mk ?_)
 all_goals (unfold qbK has cRc qxE;simp_all [qYV,qb5];done)
end Go.Vc.W

namespace Go.Vc
open Go.Proofs
set_option maxRecDepth 10000
def qfC : qAE := ((1 : Int),(0 : Int),([] : List UInt8),([] : List qAJ),([] : List UInt8),(0 : Int),([] : List Int))
def qE1 (l : List qAE) (i : Int) : qAE := bif isT l i then l.getD i.toNat qAC.dflt else qfC
theorem qTH {l : List qAE} {i : Int} (h : isT l i = true) : qE1 l i = l.getD i.toNat qAC.dflt := by rw [qE1,h];rfl
theorem qPK {l : List qAE} {i : Int} (h : isT l i = false) : qE1 l i = qfC := by rw [qE1,h];rfl
instance s103 (l : List qAE) (i : Int) : Fn BB 314 [.agg [.rd qAC l],.int .i64 i] True (.agg (qAC.enc (qE1 l i))) := by
 cases h : isT l i with
 | true =>
  rw [qTH h]
  refine Fn.intro (N := 20) [0,1,2,4,13] [] Tryz.call314 Tryz.func314 rfl rfl (by kernel_rfl) (fun hpre => ?_)
  repeat' ((conv => whnf);first|(with_reducible first|rfl|exact qAF|exact qAG)|exact True.intro|intro _|refine WA ?_ ?_|refine WF ?_|refine W1 rfl ?_ ?_|refine W2 rfl ?_ ?_|refine W3 rfl ?_ ?_|refine W4 ?_ ?_|refine W5 rfl ?_ ?_|refine W6 ?_ ?_|refine WN ?_|refine X1 (W1 rfl ?_ ?_)|refine X1 (W2 rfl ?_ ?_)|refine X2 (W7 rfl ?_ ?_)|refine X3 (W7 rfl ?_ ?_)|refine X4 (W7 rfl ?_ ?_)|refine X5 (W7 rfl ?_ ?_))
  all_goals (try (conv => whnf))
  all_goals (try first|exact obA|refine Ob.mk ?_)
  all_goals (try (first | (exact rfl) | (rename_i hx;exact qAG hx) | (rename_i hx;exact qAF hx)))
  all_goals (first | (simp_all [isT];done) | (exfalso;simp_all [isT];omega))
 | false =>
  rw [qPK h]
  refine Fn.intro (N := 20) [0,1,2,4,13] [] Tryz.call314 Tryz.func314 rfl rfl (by kernel_rfl) (fun hpre => ?_)
  repeat' ((conv => whnf);first|(with_reducible first|rfl|exact qAF|exact qAG)|exact True.intro|intro _|refine WA ?_ ?_|refine WF ?_|refine W1 rfl ?_ ?_|refine W2 rfl ?_ ?_|refine W3 rfl ?_ ?_|refine W4 ?_ ?_|refine W5 rfl ?_ ?_|refine W6 ?_ ?_|refine WN ?_|refine X1 (W1 rfl ?_ ?_)|refine X1 (W2 rfl ?_ ?_)|refine X2 (W7 rfl ?_ ?_)|refine X3 (W7 rfl ?_ ?_)|refine X4 (W7 rfl ?_ ?_)|refine X5 (W7 rfl ?_ ?_))
  all_goals (try (conv => whnf))
  all_goals (try first|exact obA|refine Ob.mk ?_)
  all_goals (try (first | (exact rfl) | (rename_i hx;exact qAG hx) | (rename_i hx;exact qAF hx)))
  all_goals (exfalso;rename_i hx;simp only [isT] at h;(try simp only [ZA,ZB,ZC,ZD,ZE,ZF,ZG,ZH,ZI,ZJ,ZK,ZL,ZM,ZN,ZO,Bool.and_eq_false_iff,Bool.or_eq_false_iff,ge_iff_le,gt_iff_lt,Int.toNat_natCast,UInt8.ofNat_toNat,cast_eq] at *);omega)
def qbM (l : List qAE) : Prop := ∀ i : Int,(qE1 l i).2.2.1.length ≤ 60
def isE (l : List qAE) (i : Int) (nm : List UInt8) : Bool := isT l i && ((qE1 l i).1 == 1 && ((qE1 l i).2.1 == 0 && (W.spl nm).contains (qE1 l i).2.2.1))
instance s49 (l : List qAE) (i : Int) (nm : List UInt8) : Fn BB 258 [.agg [.rd qAC l],.int .i64 i,.str nm] (nm.length ≤ 100000) (.bool (isE l i nm)) := by
 refine Fn.intro (N := 36) [0,1,2,3,6,7] [] Tryz.call258 Tryz.func258 rfl rfl (by kernel_rfl) (fun hpre => ?_)
 repeat' ((conv => whnf);first|(with_reducible first|rfl|exact qAF|exact qAG)|exact True.intro|intro _|refine WA ?_ ?_|refine WF ?_|refine W1 rfl ?_ ?_|refine W2 rfl ?_ ?_|refine W3 rfl ?_ ?_|refine W4 ?_ ?_|refine W5 rfl ?_ ?_|refine W6 ?_ ?_|refine WN ?_|refine X1 (W1 rfl ?_ ?_)|refine X1 (W2 rfl ?_ ?_)|refine X2 (W7 rfl ?_ ?_)|refine X3 (W7 rfl ?_ ?_)|refine X4 (W7 rfl ?_ ?_)|refine X5 (W7 rfl ?_ ?_))
 all_goals (try (conv => whnf))
 all_goals (try first|exact obA|refine Ob.mk ?_)
 all_goals (simp only [isE,isT,ge_iff_le,Bool.and_assoc])
end Go.Vc

namespace Go.Vc
open Go.Proofs
set_option maxRecDepth 10000
def qu2 (l : List Int) : Int := bif decide (l.length = 0) then -1 else l.getD (l.length - 1) 0
instance s47 (l : List Int) : Fn BB 183 [.rd qAH l] True (.int .i64 (qu2 l)) := by
  refine Fn.intro (N := 12) [0,2,5] [] Tryz.call183 Tryz.func183 rfl rfl (by kernel_rfl) (fun hpre => ?_)
  repeat' ((conv => whnf);first|(with_reducible first|rfl|exact qAF|exact qAG)|exact True.intro|intro _|refine WA ?_ ?_|refine WF ?_|refine W1 rfl ?_ ?_|refine W2 rfl ?_ ?_|refine W3 rfl ?_ ?_|refine W4 ?_ ?_|refine W5 rfl ?_ ?_|refine W6 ?_ ?_|refine WN ?_|refine X1 (W1 rfl ?_ ?_)|refine X1 (W2 rfl ?_ ?_)|refine X2 (W7 rfl ?_ ?_)|refine X3 (W7 rfl ?_ ?_)|refine X4 (W7 rfl ?_ ?_)|refine X5 (W7 rfl ?_ ?_))
  all_goals (try (conv => whnf))
  all_goals (try first|exact obA|refine Ob.mk ?_)
  · rename_i h
    have : l.length = 0 := by simpa using h
    rw [qu2,decide_eq_true this];rfl
  · have : ¬ l.length = 0 := by
      have h : (((l.length : Nat) : Int) == 0) = false := ‹_›
      simpa using h
    rw [qu2,decide_eq_false this,cond_false];congr 1;omega
end Go.Vc

namespace Go.Vc
open Go.Proofs
set_option maxRecDepth 10000
def qN5 (t : List qAE) (but : List UInt8) (x : Int) : Bool := (qE1 t x).1 == 1 && (W.kHtml (qE1 t x).2.1 (qE1 t x).2.2.1 W.cImpl && !(W.spl but).contains (qE1 t x).2.2.1)
def qVP (q : Int → Bool) (l : List Int) : Nat → Nat
 | 0 => 0
 | 1 => 1
 | k + 2 => bif q (l.getD (k + 1) 0) then qVP q l (k + 1) else k + 2
def qV1 (p : Int → Bool) (l : List Int) : Nat → Nat
 | 0 => 0
 | 1 => 1
 | k + 2 => bif p (l.getD (k + 1) 0) then k + 1 else qV1 p l (k + 1)
theorem qN8 {q : Int → Bool} {l : List Int} {n : Nat} (h : 1 < n) : qVP q l n = bif q (l.getD (n - 1) 0) then qVP q l (n - 1) else n := by
 obtain ⟨k,rfl⟩ : ∃ k,n = k + 2 := ⟨n - 2,by omega⟩
 rw [qVP];rfl
theorem qN2 {q : Int → Bool} {l : List Int} {n : Nat} (h : 1 < n) : qV1 q l n = bif q (l.getD (n - 1) 0) then n - 1 else qV1 q l (n - 1) := by
 obtain ⟨k,rfl⟩ : ∃ k,n = k + 2 := ⟨n - 2,by omega⟩
 rw [qV1];rfl
theorem qZ8 {q : Int → Bool} {l : List Int} {n : Nat} (h : ¬ 1 < n) : qVP q l n = n := by
 match n,h with
 | 0,_ => rfl
 | 1,_ => rfl
 | k + 2,h => omega
theorem qa4 {q : Int → Bool} {l : List Int} {n : Nat} (h : ¬ 1 < n) : qV1 q l n = n := by
 match n,h with
 | 0,_ => rfl
 | 1,_ => rfl
 | k + 2,h => omega
theorem qdY {q : Int → Bool} {l : List Int} {n : Nat} (h : 1 < n) (hq : q (l.getD (n - 1) 0) = true) : qVP q l n = qVP q l (n - 1) := by rw [qN8 h,hq];rfl
theorem qX4 {q : Int → Bool} {l : List Int} {n : Nat} (h : 1 < n) (hq : q (l.getD (n - 1) 0) = false) : qVP q l n = n := by rw [qN8 h,hq];rfl
end Go.Vc

namespace Go.Vc
open Go.Proofs
set_option maxRecDepth 10000
theorem qT5 {l : List Int} {n : Nat} (h : n ≤ l.length) : (l.take n).length = n := by simp;omega
theorem qP7 {l : List Int} {n k : Nat} (h : k < n) : (l.take n).getD k 0 = l.getD k 0 := by
 simp [List.getD,List.getElem?_take,h]
theorem qO2 {l : List Int} {n : Nat} : (l.take n).take (n - 1) = l.take (n - 1) := by rw [List.take_take];congr 1;omega
theorem qOP (t : List qAE) (but : List UInt8) (x : Int) : (!qN5 t but x) = ((qE1 t x).1 != 1 || !W.kHtml (qE1 t x).2.1 (qE1 t x).2.2.1 W.cImpl || (W.spl but).contains (qE1 t x).2.2.1) := by
 simp only [qN5,Bool.not_and,Bool.not_not,bne,Bool.or_assoc]
theorem qZ9 {q : Int → Bool} {l : List Int} {n : Nat} (h : 1 < n) (hq : q (l.getD (n - 1) 0) = true) : qV1 q l n = n - 1 := by rw [qN2 h,hq];rfl
theorem qcT {q : Int → Bool} {l : List Int} {n : Nat} (h : 1 < n) (hq : q (l.getD (n - 1) 0) = false) : qV1 q l n = qV1 q l (n - 1) := by rw [qN2 h,hq];rfl
end Go.Vc

namespace Go.Vc
open Go.Proofs
set_option maxRecDepth 10000
def okI (n : Nat) (i : Int) : Prop := 0 ≤ i ∧ i < n
structure Ti (n : Nat) (U : Int → Int) (K : Int → List Int) : Prop where
 pos : 0 < n
 root : U 0 = -1
 kid : ∀ i,okI n i → ∀ k ∈ K i,okI n k ∧ U k = i
 up : ∀ i,okI n i → U i = -1 ∨ (okI n (U i) ∧ (K (U i)).count i = 1)
 dep : ∃ d : Int → Nat,∀ i,okI n i → U i ≠ -1 → d (U i) < d i
inductive Ds (U : Int → Int) (r : Int) : Int → Prop
 | here : Ds U r r
 | up {x : Int} : U x ≠ -1 → Ds U r (U x) → Ds U r x
theorem qPG {l : List Int} {p q : Int → Bool} (h : ∀ x ∈ l,p x = true → q x = true) (y : Int) (hy : y ∈ l) (hp : p y = false) (hq : q y = true) : l.countP p < l.countP q := by
 induction l with
 | nil => cases hy
 | cons a l ih =>
  have hle : l.countP p ≤ l.countP q := List.countP_mono_left fun x hx => h x (List.mem_cons_of_mem _ hx)
  rw [List.countP_cons,List.countP_cons]
  rcases List.mem_cons.1 hy with rfl | hy
  ·rw [hp,hq];simp;omega
  ·have := ih (fun x hx => h x (List.mem_cons_of_mem _ hx)) hy
   have ha := h a List.mem_cons_self
   cases hpa : p a
   ·simp;omega
   ·rw [ha hpa];simp;omega
theorem Ti.rank {n : Nat} {U : Int → Int} {K : Int → List Int} (h : Ti n U K) : ∃ d : Int → Nat,(∀ i,okI n i → d i < n) ∧ ∀ i,okI n i → U i ≠ -1 → d (U i) < d i := by
 obtain ⟨d,hd⟩ := h.dep
 let L : List Int := (List.range n).map fun (k : Nat) => (k : Int)
 have hL : ∀ i,okI n i → i ∈ L := fun i hi => List.mem_map.2 ⟨i.toNat,List.mem_range.2 (by have := hi.2;have := hi.1;omega),by have := hi.1;omega⟩
 refine ⟨fun i => L.countP fun y => decide (d y < d i),fun i hi => ?_,fun i hi hu => ?_⟩
 ·have h1 : L.countP (fun y => decide (d y < d i)) < L.countP (fun _ => true) := qPG (fun _ _ _ => rfl) i (hL i hi) (decide_eq_false (Nat.lt_irrefl _)) rfl
  have h2 : L.countP (fun _ => true) = n := by simp [L]
  show L.countP (fun y => decide (d y < d i)) < n
  omega
 ·have hd := hd i hi hu
  rcases h.up i hi with q | q
  ·exact absurd q hu
  ·exact qPG (fun x _ hx => decide_eq_true (Nat.lt_trans (of_decide_eq_true hx) hd)) (U i) (hL _ q.1) (decide_eq_false (Nat.lt_irrefl _)) (decide_eq_true hd)
theorem Ds.le {n : Nat} {U : Int → Int} {K : Int → List Int} (h : Ti n U K) {d : Int → Nat} (hd : ∀ i,okI n i → U i ≠ -1 → d (U i) < d i) {r x : Int} (s : Ds U r x) : okI n x → d r ≤ d x := by
 induction s with
 | here => intro _;exact Nat.le_refl _
 | @up x hu _ ih =>
  intro hx
  rcases h.up x hx with q | q
  ·exact absurd q hu
  ·exact Nat.le_trans (ih q.1) (Nat.le_of_lt (hd x hx hu))
theorem Ds.self {n : Nat} {U : Int → Int} {K : Int → List Int} (h : Ti n U K) {r : Int} (hr : okI n r) (hu : U r ≠ -1) : ¬ Ds U r (U r) := by
 obtain ⟨d,hd⟩ := h.dep
 intro s
 rcases h.up r hr with q | q
 ·exact hu q
 ·have h1 := s.le h hd q.1
  have h2 := hd r hr hu
  omega
theorem qTL {n : Nat} {U : Int → Int} {K : Int → List Int} (h : Ti n U K) {i k : Int} (hi : okI n i) : k ∈ K i ↔ okI n k ∧ U k = i := by
 refine ⟨h.kid i hi k,fun ⟨hk,e⟩ => ?_⟩
 rcases h.up k hk with q | q
 ·have := hi.1;omega
 ·have h2 := q.2
  rw [e] at h2
  exact List.count_pos_iff.1 (by omega)
theorem qbF {n : Nat} {U : Int → Int} {K : Int → List Int} (h : Ti n U K) {i : Int} (hi : okI n i) (k : Int) : (K i).count k ≤ 1 := by
 by_cases hk : k ∈ K i
 ·have hk' := (qTL h hi).1 hk
  rcases h.up k hk'.1 with q | q
  ·have := hi.1;omega
  ·have h2 := q.2;rw [hk'.2] at h2;omega
 ·rw [List.count_eq_zero_of_not_mem hk];omega
theorem qLI : ∀ (n : Nat) (l : List Int),(∀ x ∈ l,0 ≤ x ∧ x < (n : Int)) → (∀ x,l.count x ≤ 1) → l.length ≤ n
 | 0,l,h,_ => by
  cases l with
  | nil => exact Nat.le_refl _
  | cons a l => have := h a List.mem_cons_self;omega
 | n + 1,l,h,h1 => by
  have h2 := qLI n (l.erase (n : Int)) (fun x hx => by
   have hm := h x (List.mem_of_mem_erase hx)
   have : x ≠ (n : Int) := fun e => by
    subst e
    have := List.count_pos_iff.2 hx
    rw [List.count_erase_self] at this
    have := h1 (n : Int);omega
   omega) (fun x => Nat.le_trans (List.Sublist.count_le _ List.erase_sublist) (h1 x))
  have h3 := List.length_erase (a := (n : Int)) (l := l)
  split at h3 <;> omega
theorem Ti.len {n : Nat} {U : Int → Int} {K : Int → List Int} (h : Ti n U K) {i : Int} (hi : okI n i) : (K i).length ≤ n :=
 qLI n (K i) (fun x hx => (h.kid i hi x hx).1) (qbF h hi)
theorem Ti.add {n : Nat} {U U' : Int → Int} {K K' : Int → List Int} (h : Ti n U K) (hU : ∀ i,okI n i → U' i = U i) (hK : ∀ i,okI n i → K' i = K i) (hn : U' n = -1) (hk : K' n = []) : Ti (n + 1) U' K' := by
 have hs : ∀ i,okI (n + 1) i → okI n i ∨ i = n := fun i hi => by have := hi.1;have := hi.2;rcases Int.lt_or_le i n with q | q;exact .inl ⟨by omega,by omega⟩;exact .inr (by omega)
 have ho : ∀ i,okI n i → okI (n + 1) i := fun i hi => ⟨hi.1,by have := hi.2;omega⟩
 have h0 : okI n 0 := ⟨by omega,by have := h.pos;omega⟩
 obtain ⟨d,hd⟩ := h.dep
 refine ⟨by omega,by rw [hU 0 h0];exact h.root,fun i hi k hk' => ?_,fun i hi => ?_,d,fun i hi hu => ?_⟩
 ·rcases hs i hi with q | rfl
  ·rw [hK i q] at hk'
   have := h.kid i q k hk'
   exact ⟨ho _ this.1,by rw [hU _ this.1];exact this.2⟩
  ·rw [hk] at hk';cases hk'
 ·rcases hs i hi with q | rfl
  ·rw [hU i q]
   rcases h.up i q with q' | q'
   ·exact .inl q'
   ·exact .inr ⟨ho _ q'.1,by rw [hK _ q'.1];exact q'.2⟩
  ·exact .inl hn
 ·rcases hs i hi with q | rfl
  ·rw [hU i q] at hu ⊢;exact hd i q hu
  ·exact absurd hn hu
theorem Ti.congr {n : Nat} {U U' : Int → Int} {K K' : Int → List Int} (h : Ti n U K) (hU : ∀ i,okI n i → U' i = U i) (hK : ∀ i,okI n i → K' i = K i) : Ti n U' K' := by
 have h0 : okI n 0 := ⟨by omega,by have := h.pos;omega⟩
 obtain ⟨d,hd⟩ := h.dep
 refine ⟨h.pos,by rw [hU 0 h0];exact h.root,fun i hi k hk' => ?_,fun i hi => ?_,d,fun i hi hu => ?_⟩
 ·rw [hK i hi] at hk'
  have := h.kid i hi k hk'
  exact ⟨this.1,by rw [hU k this.1];exact this.2⟩
 ·rw [hU i hi]
  rcases h.up i hi with q | q
  ·exact .inl q
  ·exact .inr ⟨q.1,by rw [hK _ q.1];exact q.2⟩
 ·rw [hU i hi] at hu ⊢;exact hd i hi hu
theorem Ti.cut {n : Nat} {U U' : Int → Int} {K K' : Int → List Int} (h : Ti n U K) {kid : Int} (hk : okI n kid) (hu : U kid ≠ -1) (hU : ∀ i,okI n i → U' i = if i = kid then -1 else U i) (hK : ∀ i,okI n i → i ≠ U kid → K' i = K i)
  (hKp : ∀ k,(K' (U kid)).count k + (if k = kid then 1 else 0) = (K (U kid)).count k) : Ti n U' K' := by
 have h0 : okI n 0 := ⟨by omega,by have := h.pos;omega⟩
 have hp : okI n (U kid) ∧ (K (U kid)).count kid = 1 := (h.up kid hk).resolve_left hu
 obtain ⟨d,hd⟩ := h.dep
 have hne : ∀ i,okI n i → ∀ k,k ∈ K' i → k ∈ K i ∧ k ≠ kid := fun i hi k hk' => by
  by_cases e : i = U kid
  ·subst e
   have h1 := List.count_pos_iff.2 hk'
   have h2 := hKp k
   by_cases e' : k = kid
   ·subst e';rw [if_pos rfl,hp.2] at h2;omega
   ·rw [if_neg e'] at h2
    exact ⟨List.count_pos_iff.1 (by omega),e'⟩
  ·rw [hK i hi e] at hk'
   refine ⟨hk',fun e' => ?_⟩
   subst e'
   exact e (h.kid i hi _ hk').2.symm
 refine ⟨h.pos,?_,fun i hi k hk' => ?_,fun i hi => ?_,d,fun i hi hu' => ?_⟩
 ·rw [hU 0 h0];split
  ·rfl
  ·exact h.root
 ·obtain ⟨a,b⟩ := hne i hi k hk'
  have := h.kid i hi k a
  exact ⟨this.1,by rw [hU k this.1,if_neg b];exact this.2⟩
 ·rw [hU i hi]
  split
  ·exact .inl rfl
  ·rename_i e
   rcases h.up i hi with q | q
   ·exact .inl q
   ·refine .inr ⟨q.1,?_⟩
    by_cases e2 : U i = U kid
    ·have h2 := hKp i
     rw [if_neg e,Nat.add_zero] at h2
     rw [e2,h2, ← e2];exact q.2
    ·rw [hK _ q.1 e2];exact q.2
 ·rw [hU i hi] at hu' ⊢
  split at hu'
  ·exact absurd rfl hu'
  ·rename_i e;rw [if_neg e];exact hd i hi hu'
open Classical in
theorem Ti.put {n : Nat} {U U' : Int → Int} {K K' : Int → List Int} (h : Ti n U K) {kid p : Int} (hk : okI n kid) (hk0 : kid ≠ 0) (hp : okI n p) (hu : U kid = -1) (hd' : ¬ Ds U kid p) (hU : ∀ i,okI n i → U' i = if i = kid then p else U i)
  (hK : ∀ i,okI n i → i ≠ p → K' i = K i) (hKp : ∀ k,(K' p).count k = (K p).count k + if k = kid then 1 else 0) : Ti n U' K' := by
 have h0 : okI n 0 := ⟨by omega,by have := h.pos;omega⟩
 obtain ⟨d,hd⟩ := h.dep
 have hno : kid ∉ K p := fun q => by have := (h.kid p hp _ q).2;have := hp.1;omega
 refine ⟨h.pos,by rw [hU 0 h0,if_neg (Ne.symm hk0)];exact h.root,fun i hi k hk' => ?_,fun i hi => ?_,fun x => if Ds U kid x then d x + d p + 1 else d x,fun i hi hu' => ?_⟩
 ·by_cases e : i = p
  ·subst e
   have hc := List.count_pos_iff.2 hk'
   rw [hKp] at hc
   by_cases ek : k = kid
   ·subst ek;exact ⟨hk,by rw [hU k hk,if_pos rfl]⟩
   ·rw [if_neg ek] at hc
    have := h.kid i hi k (List.count_pos_iff.1 (by omega))
    exact ⟨this.1,by rw [hU k this.1,if_neg ek];exact this.2⟩
  ·rw [hK i hi e] at hk'
   have := h.kid i hi k hk'
   exact ⟨this.1,by rw [hU k this.1,if_neg (fun ek => by subst ek;have := hi.1;omega)];exact this.2⟩
 ·rw [hU i hi]
  split
  ·rename_i e
   subst e
   exact .inr ⟨hp,by rw [hKp,if_pos rfl,List.count_eq_zero_of_not_mem hno]⟩
  ·rename_i e
   rcases h.up i hi with q | q
   ·exact .inl q
   ·refine .inr ⟨q.1,?_⟩
    by_cases eq : U i = p
    ·rw [eq,hKp,if_neg e,Nat.add_zero, ← eq];exact q.2
    ·rw [hK _ q.1 eq];exact q.2
 ·rw [hU i hi] at hu' ⊢
  by_cases e : i = kid
  ·subst e
   simp only [if_true]
   rw [if_neg hd',if_pos Ds.here];omega
  ·rw [if_neg e] at hu' ⊢
   have hlt := hd i hi hu'
   have hiff : Ds U kid i ↔ Ds U kid (U i) := ⟨fun s => by cases s with | here => exact absurd rfl e | up _ s => exact s,fun s => .up hu' s⟩
   simp only
   by_cases hs : Ds U kid i
   ·rw [if_pos hs,if_pos (hiff.1 hs)];omega
   ·rw [if_neg hs,if_neg (fun q => hs (hiff.2 q))];exact hlt
open Classical in
theorem Ti.move {n : Nat} {U U' : Int → Int} {K K' : Int → List Int} (h : Ti n U K) {a b : Int} (ha : okI n a) (hb : okI n b) (hd' : ¬ Ds U a b) (hU : ∀ i,okI n i → U' i = if i ∈ K a then b else U i)
    (hKa : K' a = []) (hKb : K' b = K b ++ K a) (hK : ∀ i,okI n i → i ≠ a → i ≠ b → K' i = K i) : Ti n U' K' := by
  have h0 : okI n 0 := ⟨by omega,by have := h.pos;omega⟩
  have hab : b ≠ a := fun e => hd' (by rw [e];exact .here)
  obtain ⟨d,hd⟩ := h.dep
  have hm : ∀ i,okI n i → (i ∈ K a ↔ U i = a) := fun i hi => by rw [qTL h ha];exact ⟨fun q => q.2,fun q => ⟨hi,q⟩⟩
  have hU2 : ∀ i,okI n i → U' i = if U i = a then b else U i := fun i hi => by
    rw [hU i hi]
    by_cases q : i ∈ K a
    · rw [if_pos q,if_pos ((hm i hi).1 q)]
    · rw [if_neg q,if_neg (fun e => q ((hm i hi).2 e))]
  refine ⟨h.pos,by rw [hU2 0 h0,h.root,if_neg (by have := ha.1;omega)],fun i hi k hk' => ?_,fun i hi => ?_,fun x => if Ds U a x ∧ x ≠ a then d x + d b + 1 else d x,fun i hi hu' => ?_⟩
  · by_cases ea : i = a
    · subst ea;rw [hKa] at hk';cases hk'
    · by_cases eb : i = b
      · subst eb
        rw [hKb] at hk'
        rcases List.mem_append.1 hk' with q | q
        · have := h.kid i hi k q
          exact ⟨this.1,by rw [hU2 k this.1,this.2,if_neg hab]⟩
        · have := h.kid a ha k q
          exact ⟨this.1,by rw [hU2 k this.1,if_pos this.2]⟩
      · rw [hK i hi ea eb] at hk'
        have := h.kid i hi k hk'
        exact ⟨this.1,by rw [hU2 k this.1,this.2,if_neg ea]⟩
  · rw [hU2 i hi]
    by_cases e : U i = a
    · rw [if_pos e]
      refine .inr ⟨hb,?_⟩
      rw [hKb,List.count_append,List.count_eq_zero_of_not_mem (fun q => hab ((h.kid b hb i q).2.symm.trans e))]
      rcases h.up i hi with q | q
      · have := ha.1;omega
      · have h2 := q.2;rw [e] at h2;omega
    · rw [if_neg e]
      rcases h.up i hi with q | q
      · exact .inl q
      · refine .inr ⟨q.1,?_⟩
        by_cases eb : U i = b
        · rw [eb,hKb,List.count_append,List.count_eq_zero_of_not_mem (l := K a) (fun q' => e ((hm i hi).1 q'))]
          have h2 := q.2;rw [eb] at h2;omega
        · rw [hK _ q.1 e eb];exact q.2
  · rw [hU2 i hi] at hu' ⊢
    by_cases e : U i = a
    · rw [if_pos e]
      have hi2 : i ≠ a := fun q => by
        have hlt := hd i hi (by rw [e];have := ha.1;omega)
        rw [e,q] at hlt;omega
      simp only
      rw [if_neg (fun q => hd' q.1),if_pos ⟨.up (by rw [e];have := ha.1;omega) (by rw [e];exact .here),hi2⟩]
      omega
    · rw [if_neg e] at hu' ⊢
      have hlt := hd i hi hu'
      simp only
      by_cases hs : Ds U a i ∧ i ≠ a
      · have hs2 : Ds U a (U i) := by
          cases hs.1 with
          | here => exact absurd rfl hs.2
          | up _ s => exact s
        rw [if_pos hs,if_pos ⟨hs2,e⟩];omega
      · rw [if_neg hs]
        split
        · rename_i q
          by_cases hi2 : i = a
          · subst hi2
            exact absurd q.1 (Ds.self h hi hu')
          · exact absurd ⟨.up hu' q.1,hi2⟩ hs
        · exact hlt
end Go.Vc

namespace Go.Vc
open Go.Proofs
set_option maxRecDepth 10000
set_option maxHeartbeats 4000000
instance hNew : FnM BB 74 [] [] True (.agg [.own 0]) [(0,.own qAC [qY0])] := by
 refine FnM.intro (N := 4) [0] [] 0 Tryz.call74 Tryz.func74 rfl rfl (by kernel_rfl) (fun hpre => ?_)
 all_goals exact vcA
instance hIs (l : List qAE) (i : Int) : Fn BB 166 [.agg [.rd qAC l],.int .i64 i] True (.bool (isT l i)) := by
 refine Fn.intro (N := 14) [0,1,2,4] [] Tryz.call166 Tryz.func166 rfl rfl (by kernel_rfl) (fun hpre => ?_)
 all_goals exact vcA
instance hHolds (l : List qAE) (up kid : Int) : Fn BB 168 [.agg [.rd qAC l],.int .i64 up,.int .i64 kid] (l.length ≤ 100000) (.bool (qL8 l up kid)) := by
  refine Fn.intro (N := 34) [0,1,2,3,6,7,22,27] [] Tryz.call168 Tryz.func168 rfl rfl (by kernel_rfl) (fun hpre => ?_)
  repeat' ((conv => whnf);first|(with_reducible first|rfl|exact qAF|exact qAG)|exact True.intro|intro _|refine WA ?_ ?_|refine WF ?_|refine W1 rfl ?_ ?_|refine W2 rfl ?_ ?_|refine W3 rfl ?_ ?_|refine W4 ?_ ?_|refine W5 rfl ?_ ?_|refine W6 ?_ ?_|refine WN ?_|refine X1 (W1 rfl ?_ ?_)|refine X1 (W2 rfl ?_ ?_)|refine X2 (W7 rfl ?_ ?_)|refine X3 (W7 rfl ?_ ?_)|refine X4 (W7 rfl ?_ ?_)|refine X5 (W7 rfl ?_ ?_))
  all_goals (try (conv => whnf))
  all_goals (try first|exact obA|refine Ob.mk ?_)
  refine LoopStop.mk (α := Nat × Int) (fun a => [(7,.int .i64 (a.1 : Nat)),(2,.int .i64 a.2)]) (fun _ => []) 30 (fun a => a.1 ≤ l.length + 1 ∧ (isT l up && qHI (l.length + 1 - a.1) l up a.2) = qL8 l up kid) (fun a => l.length + 1 - a.1) (0,kid) ⟨by simp,rfl⟩ ?_ (fun a ha => ?_)
  · all_goals exact vcA
  · obtain ⟨k,x⟩ := a
    obtain ⟨h1,h2⟩ := ha
    dsimp only at h1 h2
    have c1 : (decide ((k : Int) ≤ (l.length : Int)) && isT l x && isT l up) = true → k ≤ l.length ∧ isT l x = true ∧ isT l up = true ∧ qHI (l.length + 1 - k) l up x = qL8 l up kid := fun h => by
      simp only [Bool.and_eq_true] at h
      have h3 := of_decide_eq_true h.1.1
      rw [h.2,Bool.true_and] at h2
      exact ⟨by omega,h.1.2,h.2,h2⟩
    have c0 : (decide ((k : Int) ≤ (l.length : Int)) && isT l x && isT l up) = false → false = qL8 l up kid := fun h => by
      rw [← h2]
      by_cases hu : isT l up = true
      · by_cases hx : isT l x = true
        · rw [hu,hx,Bool.and_true,Bool.and_true] at h
          have := of_decide_eq_false h
          rw [show l.length + 1 - k = 0 by omega,hu];rfl
        · have : qHI (l.length + 1 - k) l up x = false := by
            cases l.length + 1 - k with
            | zero => rfl
            | succ m => rw [qHI,if_neg hx]
          rw [this,Bool.and_false]
      · rw [show isT l up = false by simpa using hu];rfl
    have c2 : (decide ((k : Int) ≤ (l.length : Int)) && isT l x && isT l up) = true → (x == up) = true → true = qL8 l up kid := fun h h' => by
      obtain ⟨q1,q2,q3,q4⟩ := c1 h
      rw [← q4,show l.length + 1 - k = (l.length - k) + 1 by omega,qHI,if_pos q2,if_pos (by simpa using h')]
    have c3 : (decide ((k : Int) ≤ (l.length : Int)) && isT l x && isT l up) = true → (x == up) = false → k ≤ l.length ∧ (isT l up && qHI (l.length + 1 - (k + 1)) l up (nd l x).up) = qL8 l up kid := fun h h' => by
      obtain ⟨q1,q2,q3,q4⟩ := c1 h
      rw [← q4,show l.length + 1 - k = (l.length - k) + 1 by omega,qHI,if_pos q2,if_neg (by simpa using h'),q3,Bool.true_and,show l.length + 1 - (k + 1) = l.length - k by omega]
      exact ⟨q1,rfl⟩
    repeat' ((conv => whnf);first|(with_reducible first|rfl|exact qAF|exact qAG)|exact True.intro|intro _|refine WA ?_ ?_|refine WF ?_|refine W1 rfl ?_ ?_|refine W2 rfl ?_ ?_|refine W3 rfl ?_ ?_|refine W4 ?_ ?_|refine W5 rfl ?_ ?_|refine W6 ?_ ?_|refine WN ?_|refine X1 (W1 rfl ?_ ?_)|refine X1 (W2 rfl ?_ ?_)|refine X2 (W7 rfl ?_ ?_)|refine X3 (W7 rfl ?_ ?_)|refine X4 (W7 rfl ?_ ?_)|refine X5 (W7 rfl ?_ ?_))
    all_goals (try (conv => whnf))
    all_goals (try first|exact obA|refine Ob.mk ?_)
    all_goals (try dsimp only at *)
    all_goals (first | exact c2 ‹_› ‹_› | exact c0 ‹_› | exact qDU.1 (c1 ‹_›).2.1 | (have := (c1 ‹_›).1;omega) | skip)
    obtain ⟨q1,q2⟩ := c3 ‹_› ‹_›
    refine Rnd.mk ⟨(k + 1,(nd l x).up),⟨by simp only;omega,q2⟩,by simp only;omega,?_⟩
    repeat' ((conv => whnf);first|(with_reducible first|rfl|exact qAF|exact qAG)|exact True.intro|intro _|refine WA ?_ ?_|refine WF ?_|refine W1 rfl ?_ ?_|refine W2 rfl ?_ ?_|refine W3 rfl ?_ ?_|refine W4 ?_ ?_|refine W5 rfl ?_ ?_|refine W6 ?_ ?_|refine WN ?_|refine X1 (W1 rfl ?_ ?_)|refine X1 (W2 rfl ?_ ?_)|refine X2 (W7 rfl ?_ ?_)|refine X3 (W7 rfl ?_ ?_)|refine X4 (W7 rfl ?_ ?_)|refine X5 (W7 rfl ?_ ?_))
    all_goals (try (conv => whnf))
    all_goals (try first|exact obA|refine Ob.mk ?_)
    all_goals (first | rfl | omega | trace_state)
end Go.Vc

namespace Go.Vc
open Go.Proofs
set_option maxRecDepth 10000
set_option maxHeartbeats 4000000
theorem qMQ (l : List Int) (i : Nat) (h : i < l.length) : l.take (i + 1) = l.take i ++ [l.getD i 0] := by
 rw [List.take_succ_eq_append_getElem h];simp [List.getD,List.getElem?_eq_getElem h]
def qY8 (l : List Int) (a : Nat) (n : Int) (i : Nat) : List Int := (l.take a).take i ++ ((if a < i then [n] else []) ++ (l.take i).drop a)
theorem qVQ (l : List Int) (a : Nat) (n : Int) (i : Nat) (h : i ≤ l.length) (ha : a ≤ l.length) : qY8 l a n (i + 1) = (if i = a then qY8 l a n i ++ [n] else qY8 l a n i) ++ (if i < l.length then [l.getD i 0] else []) := by
 unfold qY8
 rcases Nat.lt_trichotomy i a with q | q | q
 ·rw [if_neg (show ¬ a < i + 1 by omega),if_neg (show ¬ a < i by omega),if_neg (show ¬ i = a by omega),if_pos (by omega),List.take_take,List.take_take,Nat.min_eq_left (by omega),Nat.min_eq_left (by omega),List.drop_eq_nil_of_le (by rw [List.length_take];omega),List.drop_eq_nil_of_le (by rw [List.length_take];omega)]
  simp only [List.append_nil]
  exact qMQ l i (by omega)
 ·subst q
  have hdr : (l.take i).drop i = [] := List.drop_eq_nil_of_le (by rw [List.length_take];omega)
  rw [if_pos (show i < i + 1 by omega),if_neg (show ¬ i < i by omega),if_pos rfl,List.take_take,List.take_take,Nat.min_eq_right (by omega),Nat.min_self,hdr]
  simp only [List.append_nil,List.append_assoc]
  congr 2
  by_cases hl : i < l.length
  ·rw [if_pos hl,qMQ l i hl,List.drop_append_of_le_length (by rw [List.length_take];omega),List.drop_eq_nil_of_le (by rw [List.length_take];omega)];rfl
  ·rw [if_neg hl,List.drop_eq_nil_of_le (by rw [List.length_take];omega)]
 ·rw [if_pos (show a < i + 1 by omega),if_pos (show a < i by omega),if_neg (show ¬ i = a by omega),List.take_take,List.take_take,Nat.min_eq_right (by omega),Nat.min_eq_right (by omega)]
  by_cases hl : i < l.length
  ·rw [if_pos hl,qMQ l i hl,List.drop_append_of_le_length (by rw [List.length_take];omega)]
   simp only [List.append_assoc]
  ·rw [if_neg hl,List.append_nil,List.take_of_length_le (l := l) (i := i + 1) (by omega),List.take_of_length_le (l := l) (i := i) (by omega)]
theorem qZD (l : List Int) (a : Nat) (n : Int) (h : a ≤ l.length) : qY8 l a n (l.length + 1) = l.take a ++ n :: l.drop a := by
 unfold qY8
 rw [if_pos (by omega),List.take_take,List.take_of_length_le (l := l) (i := l.length + 1) (by omega),Nat.min_eq_right (by omega)]
 rfl
theorem qaU (l : List Int) (a : Nat) (n : Int) (i : Nat) : (qY8 l a n i).length ≤ i + 1 + i := by
 unfold qY8;simp only [List.length_append,List.length_take,List.length_drop];split <;> simp <;> omega
instance hPlace (l : List qAE) (kid : Int) : Fn BB 127 [.agg [.rd qAC l],.int .i64 kid] True (.int .i64 (qOL l kid)) := by
 refine Fn.intro (N := 46) [0,1,2,4,5,6,21,36,44] [(1,[1,0,1,1,1,1,1,1,1,1,1,1,3,3,3]),(3,[0,1,0,1,0,1,1,1,3,3,3,3])] Tryz.call127 Tryz.func127 rfl rfl (by kernel_rfl) (fun hpre => ?_)
 have p0 : (!isT l kid || !isT l (nd l kid).up) = true → (-1 : Int) = qOL l kid := fun h => by
  have h := qSH h
  unfold qOL;rw [h];rfl
 have p1 : (!isT l kid || !isT l (nd l kid).up) = false → (0 ≤ kid ∧ kid < l.length) ∧ (0 ≤ (nd l kid).up ∧ (nd l kid).up < l.length) ∧ qOL l kid = qMS (nd l (nd l kid).up).kids kid := fun h => by
  obtain ⟨h1,h2⟩ := qP3 h
  refine ⟨qDU.1 h1,qDU.1 h2,?_⟩
  unfold qOL;rw [h1,h2];rfl
 repeat' ((conv => whnf);first|(with_reducible first|rfl|exact qAF|exact qAG)|exact True.intro|intro _|refine WA ?_ ?_|refine WF ?_|refine W1 rfl ?_ ?_|refine W2 rfl ?_ ?_|refine W3 rfl ?_ ?_|refine W4 ?_ ?_|refine W5 rfl ?_ ?_|refine W6 ?_ ?_|refine WN ?_|refine X1 (W1 rfl ?_ ?_)|refine X1 (W2 rfl ?_ ?_)|refine X2 (W7 rfl ?_ ?_)|refine X3 (W7 rfl ?_ ?_)|refine X4 (W7 rfl ?_ ?_)|refine X5 (W7 rfl ?_ ?_))
 all_goals (try (conv => whnf))
 all_goals (try first|exact obA|refine Ob.mk ?_)
 all_goals (try (have q := p0 ‹(!isT l kid || !isT l (nd l kid).up) = true›))
 all_goals (try (have q := p1 ‹(!isT l kid || !isT l (nd l kid).up) = false›;obtain ⟨q1,q2,q3⟩ := q))
 all_goals (first | exact q | exact q1 | exact q2 | (exact qDU.1 (by simp_all;done)) | skip)
 generalize hks : (nd l (nd l kid).up).kids = ks at *
 have hks' : (l.getD (l.getD kid.toNat qAC.dflt).2.2.2.2.2.1.toNat qAC.dflt).2.2.2.2.2.2 = ks := hks
 try rw [hks']
 refine LoopStop.mk (α := Nat) (fun i => [(6,.int .i64 i)]) (fun _ => []) 20 (fun i => i ≤ ks.length ∧ (ks.take i).contains kid = false) (fun i => ks.length - i) 0 (by simp) ?_ (fun i hi => ?_)
 ·all_goals exact vcA
 ·obtain ⟨hi,ha⟩ := hi
  repeat' ((conv => whnf);first|(with_reducible first|rfl|exact qAF|exact qAG)|exact True.intro|intro _|refine WA ?_ ?_|refine WF ?_|refine W1 rfl ?_ ?_|refine W2 rfl ?_ ?_|refine W3 rfl ?_ ?_|refine W4 ?_ ?_|refine W5 rfl ?_ ?_|refine W6 ?_ ?_|refine WN ?_|refine X1 (W1 rfl ?_ ?_)|refine X1 (W2 rfl ?_ ?_)|refine X2 (W7 rfl ?_ ?_)|refine X3 (W7 rfl ?_ ?_)|refine X4 (W7 rfl ?_ ?_)|refine X5 (W7 rfl ?_ ?_))
  all_goals (try (conv => whnf))
  all_goals (try first|exact obA|refine Ob.mk ?_)
  all_goals (try (have b1 := of_decide_eq_true ‹decide ((i : Int) < (ks.length : Int)) = true›))
  all_goals (try (have b1 := of_decide_eq_false ‹decide ((i : Int) < (ks.length : Int)) = false›))
  all_goals (try simp only [Int.toNat_natCast] at *)
  ·rw [q3,qKI (i := i) (by omega) ha (eq_of_beq (show (ks.getD i 0 == kid) = true from ‹_›)).symm]
  ·have h : (ks.getD i 0 == kid) = false := ‹_›
   refine Rnd.mk ⟨i + 1,⟨by omega,by rw [qFY ks i kid (by omega),ha,h];rfl⟩,by omega,?_⟩
   repeat' ((conv => whnf);first|(with_reducible first|rfl|exact qAF|exact qAG)|exact True.intro|intro _|refine WA ?_ ?_|refine WF ?_|refine W1 rfl ?_ ?_|refine W2 rfl ?_ ?_|refine W3 rfl ?_ ?_|refine W4 ?_ ?_|refine W5 rfl ?_ ?_|refine W6 ?_ ?_|refine WN ?_|refine X1 (W1 rfl ?_ ?_)|refine X1 (W2 rfl ?_ ?_)|refine X2 (W7 rfl ?_ ?_)|refine X3 (W7 rfl ?_ ?_)|refine X4 (W7 rfl ?_ ?_)|refine X5 (W7 rfl ?_ ?_))
   all_goals (try (conv => whnf))
   all_goals (try first|exact obA|refine Ob.mk ?_)
   all_goals (first | rfl | omega | trace_state)
  ·obtain rfl : i = ks.length := by omega
   rw [q3,qE3 (by rw [List.take_length] at ha;exact ha)]
instance hWith (l : List Int) (at_ n : Int) : Fn BB 170 [.rd qAH l,.int .i64 at_,.int .i64 n] (0 ≤ at_ ∧ at_ ≤ l.length ∧ l.length ≤ 100000) (.rd qAH (l.take at_.toNat ++ n :: l.drop at_.toNat)) := by
 refine Fn.intro (N := 34) [0,1,2,6,7,8,12,17,25] [] Tryz.call170 Tryz.func170 rfl rfl (by kernel_rfl) (fun hpre => ?_)
 obtain ⟨p1,p2,p3⟩ := hpre
 obtain ⟨a,rfl⟩ := Int.eq_ofNat_of_zero_le p1
 have hen := qZD l a n (by omega)
 rw [Int.toNat_natCast]
 repeat' ((conv => whnf);first|(with_reducible first|rfl|exact qAF|exact qAG)|exact True.intro|intro _|refine WA ?_ ?_|refine WF ?_|refine W1 rfl ?_ ?_|refine W2 rfl ?_ ?_|refine W3 rfl ?_ ?_|refine W4 ?_ ?_|refine W5 rfl ?_ ?_|refine W6 ?_ ?_|refine WN ?_|refine X1 (W1 rfl ?_ ?_)|refine X1 (W2 rfl ?_ ?_)|refine X2 (W7 rfl ?_ ?_)|refine X3 (W7 rfl ?_ ?_)|refine X4 (W7 rfl ?_ ?_)|refine X5 (W7 rfl ?_ ?_))
 all_goals (try (conv => whnf))
 all_goals (try first|exact obA|refine Ob.mk ?_)
 refine LoopStop.mk (α := Nat) (fun i => [(8,.int .i64 i),(7,.own 20)]) (fun i => [(20,.own qAH (qY8 l a n i))]) 30 (fun i => i ≤ l.length + 1) (fun i => l.length + 1 - i) 0 (by simp) ?_ (fun i hi => ?_)
 ·repeat' ((conv => whnf);first|(with_reducible first|rfl|exact qAF|exact qAG)|exact True.intro|intro _|refine WA ?_ ?_|refine WF ?_|refine W1 rfl ?_ ?_|refine W2 rfl ?_ ?_|refine W3 rfl ?_ ?_|refine W4 ?_ ?_|refine W5 rfl ?_ ?_|refine W6 ?_ ?_|refine WN ?_|refine X1 (W1 rfl ?_ ?_)|refine X1 (W2 rfl ?_ ?_)|refine X2 (W7 rfl ?_ ?_)|refine X3 (W7 rfl ?_ ?_)|refine X4 (W7 rfl ?_ ?_)|refine X5 (W7 rfl ?_ ?_))
  all_goals (try (conv => whnf))
  all_goals (try first|exact obA|refine Ob.mk ?_)
  all_goals (first | rfl | (simp [qY8];done) | trace_state)
 ·have hl := qaU l a n i
  have hst := qVQ l a n i
  repeat' ((conv => whnf);first|(with_reducible first|rfl|exact qAF|exact qAG)|exact True.intro|intro _|refine WA ?_ ?_|refine WF ?_|refine W1 rfl ?_ ?_|refine W2 rfl ?_ ?_|refine W3 rfl ?_ ?_|refine W4 ?_ ?_|refine W5 rfl ?_ ?_|refine W6 ?_ ?_|refine WN ?_|refine X1 (W1 rfl ?_ ?_)|refine X1 (W2 rfl ?_ ?_)|refine X2 (W7 rfl ?_ ?_)|refine X3 (W7 rfl ?_ ?_)|refine X4 (W7 rfl ?_ ?_)|refine X5 (W7 rfl ?_ ?_))
  all_goals (try (conv => whnf))
  all_goals (try first|exact obA|refine Ob.mk ?_)
  all_goals (try (have b := of_decide_eq_true ‹decide ((i : Int) ≤ (l.length : Int)) = true›;have hs := hst (by omega) (by omega)))
  all_goals (try (have e1 : i = a := by (have h : ((i : Int) == (a : Int)) = true := ‹_›;have := eq_of_beq h;omega)))
  all_goals (try (have e1 : ¬ i = a := by (have h : ((i : Int) == (a : Int)) = false := ‹_›;rw [beq_eq_false_iff_ne] at h;omega)))
  all_goals (try (have b2 : i < l.length := by (have h := of_decide_eq_true ‹decide ((i : Int) < (l.length : Int)) = true›;omega)))
  all_goals (try (have b2 : ¬ i < l.length := by (have h := of_decide_eq_false ‹decide ((i : Int) < (l.length : Int)) = false›;omega)))
  all_goals (try rw [if_pos e1] at hs)
  all_goals (try rw [if_neg e1] at hs)
  all_goals (try rw [if_pos b2] at hs)
  all_goals (try rw [if_neg b2,List.append_nil] at hs)
  all_goals (try simp only [Int.toNat_natCast] at *)
  all_goals (try (refine Rnd.mk ⟨i + 1,by omega,by omega,?_⟩))
  all_goals (first | omega | exact ⟨by omega,by omega⟩ | (show _ * 8 ≤ _ ∧ _ ≤ _;exact ⟨by simp only [List.length_append,List.length_cons,List.length_nil];omega,by simp only [List.length_append,List.length_cons,List.length_nil];omega⟩) | skip)
  all_goals (try (have b := of_decide_eq_false ‹decide ((i : Int) ≤ (l.length : Int)) = false›;rw [show i = l.length + 1 by omega,hen]))
  repeat' ((conv => whnf);first|(with_reducible first|rfl|exact qAF|exact qAG)|exact True.intro|intro _|refine WA ?_ ?_|refine WF ?_|refine W1 rfl ?_ ?_|refine W2 rfl ?_ ?_|refine W3 rfl ?_ ?_|refine W4 ?_ ?_|refine W5 rfl ?_ ?_|refine W6 ?_ ?_|refine WN ?_|refine X1 (W1 rfl ?_ ?_)|refine X1 (W2 rfl ?_ ?_)|refine X2 (W7 rfl ?_ ?_)|refine X3 (W7 rfl ?_ ?_)|refine X4 (W7 rfl ?_ ?_)|refine X5 (W7 rfl ?_ ?_))
  all_goals (try (conv => whnf))
  all_goals (try first|exact obA|refine Ob.mk ?_)
  all_goals (first | rfl | omega | (rw [hs];done) | (rw [hs];rfl) | trace_state)
end Go.Vc

namespace Go.Vc
open Go.Proofs
set_option autoImplicit false
def qiW (n : qAE) (k : Int) : qAE := (n.1,n.2.1,n.2.2.1,n.2.2.2.1,n.2.2.2.2.1,n.2.2.2.2.2.1,n.2.2.2.2.2.2 ++ [k])
def mkN (n : qAE) (up : Int) : qAE := (n.1,n.2.1,n.2.2.1,n.2.2.2.1,n.2.2.2.2.1,up,[])
def qDE (out : List qAE) (p : Nat) (k : Int) : List qAE := out.set p (qiW (out.getD p qAC.dflt) k)
structure PSt where
 out : List qAE
 P : List Nat
def PSt.step (t : List qAE) (x : PSt) (e : Ev) : PSt :=
 match e.2.2.2,x.P with
 | true,P => { out := x.out,P := P.tail }
 | false,[] => { out := x.out ++ [mkN (t.getD e.1 qAC.dflt) (-1)],P := [x.out.length] }
 | false,p :: P => { out := qDE x.out p x.out.length ++ [mkN (t.getD e.1 qAC.dflt) p],P := x.out.length :: p :: P }
def PSt.run (t : List qAE) : PSt → List Ev → PSt
 | x,[] => x
 | x,e :: l => PSt.run t (x.step t e) l
theorem qFU (t : List qAE) : ∀ (l l' : List Ev) (x : PSt),x.run t (l ++ l') = (x.run t l).run t l' := by
 intro l
 induction l with
 | nil => intro l' x;rfl
 | cons e l ih => intro l' x;exact ih l' (x.step t e)
def pS (t : List qAE) (K : Nat → List Int) (out : List qAE) (s : List Bool) (p i j : Nat) : List qAE := (({ out := out,P := [p] } : PSt).run t (dfs K s i j 0).1).out
def sS (K : Nat → List Int) (s : List Bool) (i j : Nat) : List Bool := (dfs K s i j 0).2.1
variable {K : Nat → List Int} {t : List qAE}
theorem qD1 (out : List qAE) (p : Nat) (k : Int) : (qDE out p k).length = out.length := by unfold qDE;exact List.length_set ..
theorem qgW : ∀ (s : List Bool) (i j c : Nat),∀ c',(dfs K s i j c).2.1 = (dfs K s i j c').2.1 ∧ ∀ x : PSt,x.run t (dfs K s i j c).1 = x.run t (dfs K s i j c').1 := by
 refine qGI (K := K) ?_ ?_ ?_
 ·intro s i j c h c';rw [qCZ h,qCZ h];exact ⟨rfl,fun x => rfl⟩
 ·intro s i j c h hk ih c';rw [qC0 h hk,qC0 h hk];exact ih c'
 ·intro s i j c h hk i1 i2 c'
  rw [qE8 h hk,qE8 h hk]
  dsimp only
  obtain ⟨a1,a2⟩ := i1 (c' + 1)
  rw [← a1]
  obtain ⟨b1,b2⟩ := i2 (dfs K (s.set ((K i).getD j 0).toNat true) ((K i).getD j 0).toNat 0 (c' + 1)).2.2
  refine ⟨b1,fun x => ?_⟩
  show ((x.step t _).run t _) = ((x.step t _).run t _)
  rw [qFU,qFU]
  have e : x.step t (((K i).getD j 0).toNat,(i : Int),c,false) = x.step t (((K i).getD j 0).toNat,(i : Int),c',false) := rfl
  rw [e,a2,b2]
theorem qTR : ∀ (s : List Bool) (i j c : Nat),∀ (out : List qAE) (p : Nat) (P : List Nat),
  ({ out := out,P := p :: P } : PSt).run t (dfs K s i j c).1 = { out := (({ out := out,P := [p] } : PSt).run t (dfs K s i j c).1).out,P := P } := by
 refine qGI (K := K) ?_ ?_ ?_
 ·intro s i j c h out p P;rw [qCZ h];rfl
 ·intro s i j c h hk ih out p P;rw [qC0 h hk];exact ih out p P
 ·intro s i j c h hk i1 i2 out p P
  rw [qE8 h hk]
  dsimp only
  have e : ∀ Q,({ out := out,P := p :: Q } : PSt).step t (((K i).getD j 0).toNat,(i : Int),c,false) =
   { out := qDE out p out.length ++ [mkN (t.getD ((K i).getD j 0).toNat qAC.dflt) p],P := out.length :: p :: Q } := fun Q => rfl
  show PSt.run t (PSt.step t _ _) _ = { out := (PSt.run t (PSt.step t _ _) _).out,P := P }
  rw [e,e,qFU,qFU,i1 _ out.length (p :: P),i1 _ out.length [p],i2 _ p P]
theorem qb6 {out s p i j} (h : ¬ j < (K i).length) : pS t K out s p i j = out ∧ sS K s i j = s := by
 unfold pS sS;rw [qCZ h];exact ⟨rfl,rfl⟩
theorem qbN {out s p i j} (h : j < (K i).length) (hk : okK s ((K i).getD j 0) = false) : pS t K out s p i j = pS t K out s p i (j + 1) ∧ sS K s i j = sS K s i (j + 1) := by
 unfold pS sS;rw [qC0 h hk];exact ⟨rfl,rfl⟩
def qNS (t : List qAE) (K : Nat → List Int) (out : List qAE) (s : List Bool) (k : Nat) (up : Int) : List qAE := pS t K (out ++ [mkN (t.getD k qAC.dflt) up]) (s.set k true) out.length k 0
def qX5 (K : Nat → List Int) (s : List Bool) (k : Nat) : List Bool := sS K (s.set k true) k 0
theorem qfB {out s p i j} (h : j < (K i).length) (hk : okK s ((K i).getD j 0) = true) :
    pS t K out s p i j = pS t K (qNS t K (qDE out p out.length) s ((K i).getD j 0).toNat p) (qX5 K s ((K i).getD j 0).toNat) p i (j + 1) ∧ sS K s i j = sS K (qX5 K s ((K i).getD j 0).toNat) i (j + 1) := by
  have a := fun c => qgW (t := t) (K := K) (s.set ((K i).getD j 0).toNat true) ((K i).getD j 0).toNat 0 c 0
  unfold pS sS qNS qX5 pS sS
  rw [qE8 h hk]
  dsimp only
  rw [(a 1).1]
  have b := fun c => qgW (t := t) (K := K) (dfs K (s.set ((K i).getD j 0).toNat true) ((K i).getD j 0).toNat 0 0).2.1 i (j + 1) c 0
  refine ⟨?_,(b _).1⟩
  show (PSt.run t (PSt.step t _ _) _).out = _
  have e : ({ out := out,P := [p] } : PSt).step t (((K i).getD j 0).toNat,(i : Int),0,false) =
      { out := qDE out p out.length ++ [mkN (t.getD ((K i).getD j 0).toNat qAC.dflt) p],P := out.length :: [p] } := rfl
  rw [e,qFU,qTR,(b _).2,(a 1).2,qD1]
theorem qhJ : ∀ (s : List Bool) (i j c : Nat),∀ (out : List qAE) (p : Nat),
  out.length ≤ (({ out := out,P := [p] } : PSt).run t (dfs K s i j c).1).out.length ∧ (({ out := out,P := [p] } : PSt).run t (dfs K s i j c).1).out.length + unseen (dfs K s i j c).2.1 = out.length + unseen s ∧
   (∀ q,q < out.length → q ≠ p → (({ out := out,P := [p] } : PSt).run t (dfs K s i j c).1).out.getD q qAC.dflt = out.getD q qAC.dflt) ∧ (dfs K s i j c).2.1.length = s.length := by
 refine qGI (K := K) ?_ ?_ ?_
 ·intro s i j c h out p;rw [qCZ h];exact ⟨Nat.le_refl _,rfl,fun q _ _ => rfl,rfl⟩
 ·intro s i j c h hk ih out p;rw [qC0 h hk];exact ih out p
 ·intro s i j c h hk i1 i2 out p
  rw [qE8 h hk]
  dsimp only
  have e : ({ out := out,P := [p] } : PSt).step t (((K i).getD j 0).toNat,(i : Int),c,false) =
   { out := qDE out p out.length ++ [mkN (t.getD ((K i).getD j 0).toNat qAC.dflt) p],P := out.length :: [p] } := rfl
  have er : ∀ l,({ out := out,P := [p] } : PSt).run t ((((K i).getD j 0).toNat,(i : Int),c,false) :: l) =
   ({ out := qDE out p out.length ++ [mkN (t.getD ((K i).getD j 0).toNat qAC.dflt) p],P := out.length :: [p] } : PSt).run t l := fun l => by rw [← e];rfl
  have er2 : ∀ l1 l2 c1,l1 = (dfs K (s.set ((K i).getD j 0).toNat true) ((K i).getD j 0).toNat 0 c1).1 → (({ out := out,P := [p] } : PSt).run t ((((K i).getD j 0).toNat,(i : Int),c,false) :: (l1 ++ l2))).out =
   (({ out := (({ out := qDE out p out.length ++ [mkN (t.getD ((K i).getD j 0).toNat qAC.dflt) p],P := [out.length] } : PSt).run t l1).out,P := [p] } : PSt).run t l2).out := fun l1 l2 c1 hl => by
   rw [er,qFU,hl,qTR]
  rw [er2 _ _ _ rfl]
  have hl : (qDE out p out.length ++ [mkN (t.getD ((K i).getD j 0).toNat qAC.dflt) p]).length = out.length + 1 := by rw [List.length_append,qD1];rfl
  have hu := qA8 (qBH hk).2.2
  obtain ⟨a1,a2,a3,a4⟩ := i1 (qDE out p out.length ++ [mkN (t.getD ((K i).getD j 0).toNat qAC.dflt) p]) out.length
  rw [hl] at a1 a2 a3
  generalize (({ out := qDE out p out.length ++ [mkN (t.getD ((K i).getD j 0).toNat qAC.dflt) p],P := [out.length] } : PSt).run t (dfs K (s.set ((K i).getD j 0).toNat true) ((K i).getD j 0).toNat 0 (c + 1)).1).out = y at *
  obtain ⟨b1,b2,b3,b4⟩ := i2 y p
  refine ⟨by omega,by omega,fun q hq hp => ?_,?_⟩
  ·rw [b3 q (by omega) hp,a3 q (by omega) (by omega)]
   unfold qDE
   rw [List.getD_eq_getElem?_getD,List.getElem?_append_left (by rw [List.length_set];exact hq),List.getElem?_set,if_neg (fun h => hp h.symm),List.getD_eq_getElem?_getD]
  ·rw [b4,a4,List.length_set]
theorem qMZ (out : List qAE) (s : List Bool) (k : Nat) (up : Int) : out.length + 1 ≤ (qNS t K out s k up).length ∧ (qNS t K out s k up).length + unseen (qX5 K s k) = out.length + 1 + unseen (s.set k true) ∧
  (∀ q,q < out.length → (qNS t K out s k up).getD q qAC.dflt = out.getD q qAC.dflt) ∧ (qX5 K s k).length = s.length := by
 obtain ⟨h1,h2,h3,h4⟩ := qhJ (t := t) (K := K) (s.set k true) k 0 0 (out ++ [mkN (t.getD k qAC.dflt) up]) out.length
 rw [List.length_append,List.length_singleton] at h1 h2 h3
 refine ⟨h1,h2,fun q hq => ?_,by rw [List.length_set] at h4;exact h4⟩
 show (PSt.run t _ _).out.getD q _ = _
 rw [h3 q (by omega) (by omega),List.getD_eq_getElem?_getD,List.getElem?_append_left hq,List.getD_eq_getElem?_getD]
end Go.Vc

namespace Go.Vc
open Go.Proofs
set_option maxRecDepth 10000
set_option maxHeartbeats 4000000
noncomputable abbrev BN : Base := { BB with np := fun t => bif Nat.beq t 49 then some 6 else none }
instance toN_fn {f : FuncId} {args : List SV} {pre : Prop} {res : SV} [h : Fn BB f args pre res] : Fn BN f args pre res := ⟨h.call,h.ok⟩
instance toN_fnM {f : FuncId} {args : List SV} {Φ : Phi} {pre : Prop} {res : SV} {Φ' : Phi} [h : FnM BB f args Φ pre res Φ'] : FnM BN f args Φ pre res Φ' := ⟨h.call,h.ok⟩
def qfH (t out : List qAE) (s : List Bool) (k : Int) : Prop := qE9 t = true ∧ s.length = t.length ∧ (0 ≤ k ∧ k < t.length) ∧ out.length + unseen (s.set k.toNat true) + 1 ≤ 5000
theorem qZ6 {q : List Bool} {n : Nat} (hq : q.length = n) (k : Int) : (decide (k ≥ 0) && decide (k < (n : Int)) && !q.getD k.toNat false) = okK q k := by
  unfold okK
  by_cases h1 : k < 0
  · rw [decide_eq_false (by omega : ¬ k ≥ 0)];rfl
  · rw [decide_eq_true (by omega : k ≥ 0)]
    by_cases h2 : k < (n : Int)
    · rw [decide_eq_true h2]
      have hl : k.toNat < q.length := by omega
      simp [List.getD,hl]
    · have : q.getD k.toNat true = true := by
        rw [List.getD_eq_getElem?_getD,List.getElem?_eq_none (by omega)];rfl
      rw [decide_eq_false h2,this];rfl
theorem qLU (o : List qAE) (p : Nat) (k : Int) (h : p < o.length) : ((qDE o p k).getD p qAC.dflt).kids = (o.getD p qAC.dflt).kids ++ [k] := by
 unfold qDE
 rw [List.getD_eq_getElem?_getD,List.getElem?_set,if_pos rfl,if_pos h];rfl
theorem qOG (o : List qAE) (n : Nat) (k : Int) (h : n < o.length) :
  (o.set n ((o.getD n qAC.dflt).1,(o.getD n qAC.dflt).2.1,(o.getD n qAC.dflt).2.2.1,(o.getD n qAC.dflt).2.2.2.1,(o.getD n qAC.dflt).2.2.2.2.1,(o.getD n qAC.dflt).2.2.2.2.2.1,(o.getD n qAC.dflt).2.2.2.2.2.2 ++ [k])).set n
   ((o.set n ((o.getD n qAC.dflt).1,(o.getD n qAC.dflt).2.1,(o.getD n qAC.dflt).2.2.1,(o.getD n qAC.dflt).2.2.2.1,(o.getD n qAC.dflt).2.2.2.2.1,(o.getD n qAC.dflt).2.2.2.2.2.1,(o.getD n qAC.dflt).2.2.2.2.2.2 ++ [k])).getD n qAC.dflt) = qDE o n k := by
 rw [List.set_set]
 unfold qDE
 congr 1
 rw [List.getD_eq_getElem?_getD,List.getElem?_set,if_pos rfl,if_pos h]
 rfl
theorem qwS (N : Nat) : ∀ (t out : List qAE) (s : List Bool) (k up : Int),
  FnM BN 122 [.agg [.rd qAC t],.int .i64 k,.int .i64 up,.agg [.own 0],.own 1] [(0,.nst qAC 6 out none),(1,.ow .bool s)]
   (qfH t out s k ∧ unseen (s.set k.toNat true) < N)
   (.agg [.own 0]) [(0,.nst qAC 6 (qNS t (qAB t) out s k.toNat up) none),(1,.ow .bool (qX5 (qAB t) s k.toNat))] := by
 induction N with
 | zero => intro t out s k up;exact ⟨Tryz.call122,fun h => absurd h.2 (Nat.not_lt_zero _)⟩
 | succ N ih =>
  intro t out s k up
  refine FnM.intro (N := 99) [0,1,2,3,4,5,8,10,11,12,13,14,48,75] [(12,[0,7,0,0,7,0,4,4,4,0,7,4,4,4,4,4,4]),(3000012,[454,519,779,840,844,909,974,1039])] 2 Tryz.call122 Tryz.func122 rfl rfl (by kernel_rfl) (fun hpre => ?_)
  obtain ⟨⟨hsm,hsl,hk,hlen⟩,hN⟩ := hpre
  repeat' ((conv => whnf);first|(with_reducible first|rfl|exact qAF|exact qAG)|exact True.intro|intro _|refine WA ?_ ?_|refine WF ?_|refine W1 rfl ?_ ?_|refine W2 rfl ?_ ?_|refine W3 rfl ?_ ?_|refine W4 ?_ ?_|refine W5 rfl ?_ ?_|refine W6 ?_ ?_|refine WN ?_|refine X1 (W1 rfl ?_ ?_)|refine X1 (W2 rfl ?_ ?_)|refine X2 (W7 rfl ?_ ?_)|refine X3 (W7 rfl ?_ ?_)|refine X4 (W7 rfl ?_ ?_)|refine X5 (W7 rfl ?_ ?_))
  all_goals (try (conv => whnf))
  all_goals (try first|exact obA|refine Ob.mk ?_)
  all_goals (try simp only [qYU,qT3,qYZ,qT6,List.length_singleton] at *)
  ·have h64 := (qJW hsm k (qDU.2 hk)).1
   simp only [cast_eq,List.length_nil,Nat.zero_add]
   change ((nd t k).2.2.2.1.length * 32 ≤ _ ∧ (nd t k).2.2.2.1.length ≤ _)
   omega
  refine LoopStop.mk (α := List qAE × List Bool × Nat) (fun a => [(13,.int .i64 a.2.2)]) (fun a => [(0,.nst qAC 6 a.1 none),(1,.ow .bool a.2.1)]) 20
   (fun a => pS t (qAB t) a.1 a.2.1 out.length k.toNat a.2.2 = qNS t (qAB t) out s k.toNat up ∧ sS (qAB t) a.2.1 k.toNat a.2.2 = qX5 (qAB t) s k.toNat ∧ a.2.1.length = t.length ∧ a.1.length + unseen a.2.1 ≤ 5000 ∧
    out.length < a.1.length ∧ (a.1.getD out.length qAC.dflt).kids.length ≤ a.2.2 ∧ a.2.2 ≤ (qAB t k.toNat).length ∧ unseen a.2.1 ≤ N)
   (fun a => (qAB t k.toNat).length - a.2.2) (out ++ [mkN (t.getD k.toNat qAC.dflt) up],s.set k.toNat true,0) ⟨rfl,rfl,by simpa using hsl,by simp only [List.length_append,List.length_singleton];omega,by simp,by simp [mkN,qAE.kids],Nat.zero_le _,by show unseen (s.set k.toNat true) ≤ N;omega⟩ ?_ (fun a ha => ?_)
  ·all_goals exact vcA
  ·obtain ⟨o,q,j⟩ := a
   dsimp only at ha ⊢
   obtain ⟨h1,h2,h3,h4,h5,h6,h7,h8⟩ := ha
   repeat' ((conv => whnf);first|(with_reducible first|rfl|exact qAF|exact qAG)|exact True.intro|intro _|refine WA ?_ ?_|refine WF ?_|refine W1 rfl ?_ ?_|refine W2 rfl ?_ ?_|refine W3 rfl ?_ ?_|refine W4 ?_ ?_|refine W5 rfl ?_ ?_|refine W6 ?_ ?_|refine WN ?_|refine X1 (W1 rfl ?_ ?_)|refine X1 (W2 rfl ?_ ?_)|refine X2 (W7 rfl ?_ ?_)|refine X3 (W7 rfl ?_ ?_)|refine X4 (W7 rfl ?_ ?_)|refine X5 (W7 rfl ?_ ?_))
   all_goals (try (conv => whnf))
   all_goals (try first|exact obA|refine Ob.mk ?_)
   all_goals (try simp only [Int.toNat_natCast] at *)
   ·rename_i c1 c2 c3
    have hj : j < (qAB t k.toNat).length := by have h := of_decide_eq_true c2;exact Int.ofNat_lt.mp h
    have hc : okK q ((qAB t k.toNat).getD j 0) = true := by rw [← qZ6 h3];exact c3
    refine ZStop.mk [] [(0,.nst qAC 6 (qDE o out.length o.length) none)] 60 ?_
    have o1 : Ob (0 ≤ (out.length : Int) ∧ (out.length : Int) < o.length) := Ob.mk ⟨by omega,by omega⟩
    have o2 : Ob ((out.length : Int).toNat < o.length) := Ob.mk (by omega)
    have hkl : (qAB t k.toNat).length ≤ 1000 := (qJW hsm k (qDU.2 hk)).2
    have o3 : Ob (out.length < o.length ∧ ((o.getD out.length qAC.dflt).kids.length + 1) * 8 ≤ 70368744177664 ∧ (o.getD out.length qAC.dflt).kids.length + 1 ≤ 70368744177664) := Ob.mk ⟨h5,by omega,by omega⟩
    have hok := qBH hc
    have hu := qA8 hok.2.2
    repeat' ((conv => whnf);first|(with_reducible first|rfl|exact qAF|exact qAG)|exact True.intro|intro _|refine WA ?_ ?_|refine WF ?_|refine W1 rfl ?_ ?_|refine W2 rfl ?_ ?_|refine W3 rfl ?_ ?_|refine W4 ?_ ?_|refine W5 rfl ?_ ?_|refine W6 ?_ ?_|refine WN ?_|refine X1 (W1 rfl ?_ ?_)|refine X1 (W2 rfl ?_ ?_)|refine X2 (W7 rfl ?_ ?_)|refine X3 (W7 rfl ?_ ?_)|refine X4 (W7 rfl ?_ ?_)|refine X5 (W7 rfl ?_ ?_))
    all_goals (try (conv => whnf))
    all_goals (first | exact o1 | exact o2 | exact o3 | exact Ob.mk rfl | (refine Ob.mk ?_;rw [List.length_set];first | exact o1.h | exact o2.h) | skip)
    any_goals (refine Rnd.mk (p := qGZ _ _ _ _ _) ?_)
    repeat' ((conv => whnf);first|(with_reducible first|rfl|exact qAF|exact qAG)|exact True.intro|intro _|refine WA ?_ ?_|refine WF ?_|refine W1 rfl ?_ ?_|refine W2 rfl ?_ ?_|refine W3 rfl ?_ ?_|refine W4 ?_ ?_|refine W5 rfl ?_ ?_|refine W6 ?_ ?_|refine WN ?_|refine X1 (W1 rfl ?_ ?_)|refine X1 (W2 rfl ?_ ?_)|refine X2 (W7 rfl ?_ ?_)|refine X3 (W7 rfl ?_ ?_)|refine X4 (W7 rfl ?_ ?_)|refine X5 (W7 rfl ?_ ?_))
    all_goals (try (conv => whnf))
    all_goals (try exact congrArg (fun l => Chunk.nst qAC 6 l none) (qOG o out.length o.length h5))
    ·refine Ob.mk ⟨⟨hsm,h3,⟨hok.1,by have h := hok.2.1;rw [h3] at h;exact (by omega : (qAB t k.toNat).getD j 0 < (t.length : Int))⟩,by rw [qD1];change o.length + unseen (q.set ((qAB t k.toNat).getD j 0).toNat true) + 1 ≤ _;omega⟩,by change unseen (q.set ((qAB t k.toNat).getD j 0).toNat true) < N;omega⟩
    ·exact Ob.mk ⟨by omega,by omega⟩
    obtain ⟨e1,e2⟩ := qfB (t := t) (out := o) (p := out.length) hj hc
    rw [e1] at h1;rw [e2] at h2
    obtain ⟨l1,l2,l3,l4⟩ := qMZ (t := t) (K := qAB t) (qDE o out.length o.length) q ((qAB t k.toNat).getD j 0).toNat out.length
    rw [qD1] at l1 l2 l3
    refine Rnd.mk ⟨(qNS t (qAB t) (qDE o out.length o.length) q ((qAB t k.toNat).getD j 0).toNat out.length,qX5 (qAB t) q ((qAB t k.toNat).getD j 0).toNat,j + 1),⟨h1,h2,l4.trans h3,by dsimp only;omega,by dsimp only;omega,?_,by show j + 1 ≤ _;omega,by dsimp only;omega⟩,by show _ - (j + 1) < _;omega,?_⟩
    ·dsimp only
     rw [l3 _ h5,qLU _ _ _ h5,List.length_append,List.length_singleton]
     exact Nat.succ_le_succ h6
    ·all_goals exact vcA
   ·rename_i c1 c2 c3
    have hj : j < (qAB t k.toNat).length := by have h := of_decide_eq_true c2;exact Int.ofNat_lt.mp h
    have hc : okK q ((qAB t k.toNat).getD j 0) = false := by rw [← qZ6 h3];exact c3
    obtain ⟨e1,e2⟩ := qbN (t := t) (out := o) (p := out.length) hj hc
    rw [e1] at h1;rw [e2] at h2
    refine Rnd.mk ⟨(o,q,j + 1),⟨h1,h2,h3,h4,h5,Nat.le_succ_of_le h6,by show j + 1 ≤ _;omega,h8⟩,by show _ - (j + 1) < _;omega,?_⟩
    all_goals exact vcA
   all_goals (rename_i c1 c2)
   all_goals (have hj : ¬ j < (qAB t k.toNat).length := by have h := of_decide_eq_false c2;exact fun q => h (Int.ofNat_lt.mpr q))
   all_goals (obtain ⟨e1,e2⟩ := qb6 (t := t) (out := o) (p := out.length) (s := q) hj;rw [e1] at h1;rw [e2] at h2)
   ·rw [h1]
   ·rw [h2]
instance hPut14 (t out : List qAE) (s : List Bool) (k up : Int) :
  FnM BN 122 [.agg [.rd qAC t],.int .i64 k,.int .i64 up,.agg [.own 0],.own 1] [(0,.nst qAC 6 out none),(1,.ow .bool s)] (qfH t out s k)
   (.agg [.own 0]) [(0,.nst qAC 6 (qNS t (qAB t) out s k.toNat up) none),(1,.ow .bool (qX5 (qAB t) s k.toNat))] :=
 have h := qwS (unseen (s.set k.toNat true) + 1) t out s k up
 ⟨h.call,fun hp => h.ok ⟨hp,Nat.lt_succ_self _⟩⟩
end Go.Vc

namespace Go.Vc
open Go.Proofs
set_option maxRecDepth 10000
set_option maxHeartbeats 4000000
instance hPut0 (t : List qAE) (s : List Bool) (k up : Int) :
  FnM BN 122 [.agg [.rd qAC t],.int .i64 k,.int .i64 up,.agg [.nils],.own 0] [(0,.own .bool s)] (qfH t [] s k)
   (.agg [.own 1]) [(1,.nst qAC 6 (qNS t (qAB t) [] s k.toNat up) none)] := by
  refine FnM.intro (N := 99) [0,1,2,3,4,5,8,10,11,12,13,14,48,75] [(12,[0,7,0,0,7,0,4,4,4,0,7,4,4,4,4,4,4]),(3000012,[454,519,779,840,844,909,974,1039]),(2000000,[0])] 1 Tryz.call122 Tryz.func122 rfl rfl (by kernel_rfl) (fun hpre => ?_)
  obtain ⟨hsm,hsl,hk,hlen⟩ := hpre
  simp only [List.length_nil,Nat.zero_add] at hlen
  repeat' ((conv => whnf);first|(with_reducible first|rfl|exact qAF|exact qAG)|exact True.intro|intro _|refine WA ?_ ?_|refine WF ?_|refine W1 rfl ?_ ?_|refine W2 rfl ?_ ?_|refine W3 rfl ?_ ?_|refine W4 ?_ ?_|refine W5 rfl ?_ ?_|refine W6 ?_ ?_|refine AppN.ns ?_|refine X1 (W1 rfl ?_ ?_)|refine X1 (W2 rfl ?_ ?_)|refine X2 (W7 rfl ?_ ?_)|refine X3 (W7 rfl ?_ ?_)|refine X4 (W7 rfl ?_ ?_)|refine X5 (W7 rfl ?_ ?_))
  all_goals (try (conv => whnf))
  all_goals (try first|exact obA|refine Ob.mk ?_)
  all_goals (try simp only [qYU,qT3,qYZ,qT6,List.length_singleton] at *)
  ·have h64 := (qJW hsm k (qDU.2 hk)).1
   simp only [cast_eq,List.length_nil,Nat.zero_add]
   change ((nd t k).2.2.2.1.length * 32 ≤ _ ∧ (nd t k).2.2.2.1.length ≤ _)
   omega
  refine LoopStop.mk (α := List qAE × List Bool × Nat) (fun a => [(13,.int .i64 a.2.2)]) (fun a => [(6,.nst qAC 6 a.1 none),(0,.ow .bool a.2.1)]) 20
   (fun a => pS t (qAB t) a.1 a.2.1 0 k.toNat a.2.2 = qNS t (qAB t) [] s k.toNat up ∧ sS (qAB t) a.2.1 k.toNat a.2.2 = qX5 (qAB t) s k.toNat ∧ a.2.1.length = t.length ∧ a.1.length + unseen a.2.1 ≤ 5000 ∧
    0 < a.1.length ∧ (a.1.getD 0 qAC.dflt).kids.length ≤ a.2.2 ∧ a.2.2 ≤ (qAB t k.toNat).length)
   (fun a => (qAB t k.toNat).length - a.2.2) ([] ++ [mkN (t.getD k.toNat qAC.dflt) up],s.set k.toNat true,0) ⟨rfl,rfl,by simpa using hsl,by simp only [List.length_append,List.length_singleton,List.length_nil];omega,by simp,by simp [mkN,qAE.kids],Nat.zero_le _⟩ ?_ (fun a ha => ?_)
  ·all_goals exact vcA
  ·obtain ⟨o,q,j⟩ := a
   dsimp only at ha ⊢
   obtain ⟨h1,h2,h3,h4,h5,h6,h7⟩ := ha
   repeat' ((conv => whnf);first|(with_reducible first|rfl|exact qAF|exact qAG)|exact True.intro|intro _|refine WA ?_ ?_|refine WF ?_|refine W1 rfl ?_ ?_|refine W2 rfl ?_ ?_|refine W3 rfl ?_ ?_|refine W4 ?_ ?_|refine W5 rfl ?_ ?_|refine W6 ?_ ?_|refine WN ?_|refine X1 (W1 rfl ?_ ?_)|refine X1 (W2 rfl ?_ ?_)|refine X2 (W7 rfl ?_ ?_)|refine X3 (W7 rfl ?_ ?_)|refine X4 (W7 rfl ?_ ?_)|refine X5 (W7 rfl ?_ ?_))
   all_goals (try (conv => whnf))
   all_goals (try first|exact obA|refine Ob.mk ?_)
   all_goals (try simp only [Int.toNat_natCast] at *)
   ·rename_i c1 c2 c3
    have hj : j < (qAB t k.toNat).length := by have h := of_decide_eq_true c2;exact Int.ofNat_lt.mp h
    have hc : okK q ((qAB t k.toNat).getD j 0) = true := by rw [← qZ6 h3];exact c3
    refine ZStop.mk [] [(6,.nst qAC 6 (qDE o 0 o.length) none)] 60 ?_
    have o1 : Ob (0 ≤ (0 : Int) ∧ (0 : Int) < o.length) := Ob.mk ⟨by omega,by omega⟩
    have o2 : Ob ((0 : Int).toNat < o.length) := Ob.mk (by omega)
    have hkl : (qAB t k.toNat).length ≤ 1000 := (qJW hsm k (qDU.2 hk)).2
    have o3 : Ob (0 < o.length ∧ ((o.getD 0 qAC.dflt).kids.length + 1) * 8 ≤ 70368744177664 ∧ (o.getD 0 qAC.dflt).kids.length + 1 ≤ 70368744177664) := Ob.mk ⟨h5,by omega,by omega⟩
    have hok := qBH hc
    have hu := qA8 hok.2.2
    repeat' ((conv => whnf);first|(with_reducible first|rfl|exact qAF|exact qAG)|exact True.intro|intro _|refine WA ?_ ?_|refine WF ?_|refine W1 rfl ?_ ?_|refine W2 rfl ?_ ?_|refine W3 rfl ?_ ?_|refine W4 ?_ ?_|refine W5 rfl ?_ ?_|refine W6 ?_ ?_|refine WN ?_|refine X1 (W1 rfl ?_ ?_)|refine X1 (W2 rfl ?_ ?_)|refine X2 (W7 rfl ?_ ?_)|refine X3 (W7 rfl ?_ ?_)|refine X4 (W7 rfl ?_ ?_)|refine X5 (W7 rfl ?_ ?_))
    all_goals (try (conv => whnf))
    all_goals (first | exact o1 | exact o2 | exact o3 | exact Ob.mk rfl | (refine Ob.mk ?_;rw [List.length_set];first | exact o1.h | exact o2.h) | skip)
    any_goals (refine Rnd.mk (p := qGZ _ _ _ _ _) ?_)
    repeat' ((conv => whnf);first|(with_reducible first|rfl|exact qAF|exact qAG)|exact True.intro|intro _|refine WA ?_ ?_|refine WF ?_|refine W1 rfl ?_ ?_|refine W2 rfl ?_ ?_|refine W3 rfl ?_ ?_|refine W4 ?_ ?_|refine W5 rfl ?_ ?_|refine W6 ?_ ?_|refine WN ?_|refine X1 (W1 rfl ?_ ?_)|refine X1 (W2 rfl ?_ ?_)|refine X2 (W7 rfl ?_ ?_)|refine X3 (W7 rfl ?_ ?_)|refine X4 (W7 rfl ?_ ?_)|refine X5 (W7 rfl ?_ ?_))
    all_goals (try (conv => whnf))
    all_goals (try exact congrArg (fun l => Chunk.nst qAC 6 l none) (qOG o 0 o.length h5))
    ·refine Ob.mk ⟨hsm,h3,⟨hok.1,by have h := hok.2.1;rw [h3] at h;exact (by omega : (qAB t k.toNat).getD j 0 < (t.length : Int))⟩,by rw [qD1];change o.length + unseen (q.set ((qAB t k.toNat).getD j 0).toNat true) + 1 ≤ _;omega⟩
    ·exact Ob.mk ⟨by omega,by omega⟩
    obtain ⟨e1,e2⟩ := qfB (t := t) (out := o) (p := 0) hj hc
    rw [e1] at h1;rw [e2] at h2
    obtain ⟨l1,l2,l3,l4⟩ := qMZ (t := t) (K := qAB t) (qDE o 0 o.length) q ((qAB t k.toNat).getD j 0).toNat 0
    rw [qD1] at l1 l2 l3
    refine Rnd.mk ⟨(qNS t (qAB t) (qDE o 0 o.length) q ((qAB t k.toNat).getD j 0).toNat 0,qX5 (qAB t) q ((qAB t k.toNat).getD j 0).toNat,j + 1),⟨h1,h2,l4.trans h3,by dsimp only;omega,by dsimp only;omega,?_,by show j + 1 ≤ _;omega⟩,by show _ - (j + 1) < _;omega,?_⟩
    ·dsimp only
     rw [l3 _ h5,qLU _ _ _ h5,List.length_append,List.length_singleton]
     exact Nat.succ_le_succ h6
    ·all_goals exact vcA
   ·rename_i c1 c2 c3
    have hj : j < (qAB t k.toNat).length := by have h := of_decide_eq_true c2;exact Int.ofNat_lt.mp h
    have hc : okK q ((qAB t k.toNat).getD j 0) = false := by rw [← qZ6 h3];exact c3
    obtain ⟨e1,e2⟩ := qbN (t := t) (out := o) (p := 0) hj hc
    rw [e1] at h1;rw [e2] at h2
    refine Rnd.mk ⟨(o,q,j + 1),⟨h1,h2,h3,h4,h5,Nat.le_succ_of_le h6,by show j + 1 ≤ _;omega⟩,by show _ - (j + 1) < _;omega,?_⟩
    all_goals exact vcA
   all_goals (rename_i c1 c2)
   all_goals (have hj : ¬ j < (qAB t k.toNat).length := by have h := of_decide_eq_false c2;exact fun q => h (Int.ofNat_lt.mpr q))
   all_goals (obtain ⟨e1,e2⟩ := qb6 (t := t) (out := o) (p := 0) (s := q) hj;rw [e1] at h1;rw [e2] at h2)
   ·rw [h1]
end Go.Vc

namespace Go.Vc
open Go.Proofs
set_option maxRecDepth 10000
set_option maxHeartbeats 4000000
def qD9 (t : List qAE) : List qAE := if t = [] then [qY0] else qNS t (qAB t) [] (List.replicate t.length false) 0 (-1)
theorem qI7 (s : List Bool) : unseen s ≤ s.length := List.count_le_length
theorem qWU {t : List qAE} (h : qE9 t = true) (h0 : ¬ ((t.length : Int) == 0) = true) : qfH t [] (List.replicate t.length false) 0 := by
 have h1 : 0 < t.length := by
  rcases Nat.eq_zero_or_pos t.length with h | h
  ·exact absurd (by rw [h];rfl) h0
  ·exact h
 have h2 := qN6 h
 have h3 := qI7 ((List.replicate t.length false).set 0 true)
 rw [List.length_set,List.length_replicate] at h3
 refine ⟨h,List.length_replicate,⟨Int.le_refl 0,by omega⟩,?_⟩
 show 0 + unseen ((List.replicate t.length false).set 0 true) + 1 ≤ 5000
 omega
theorem qZW {t : List qAE} (h0 : ((t.length : Int) == 0) = true) : qD9 t = [qY0] := by
 have h1 : t.length = 0 := by have := eq_of_beq h0;omega
 unfold qD9;rw [if_pos (List.length_eq_zero_iff.1 h1)]
theorem qcQ {t : List qAE} (h0 : ¬ ((t.length : Int) == 0) = true) : qD9 t = qNS t (qAB t) [] (List.replicate t.length false) 0 (-1) := by
 unfold qD9;rw [if_neg (fun h => h0 (by rw [h];rfl))]
instance hTidyN (t : List qAE) : FnM BN 69 [.agg [.rd qAC t]] [] (qE9 t = true) (.agg [.rd qAC (qD9 t)]) [] := by
 refine FnM.intro (N := 15) [0,1,2,6] [(3,[4,4,0,4,4,4,4,4])] 0 Tryz.call69 Tryz.func69 rfl rfl (by kernel_rfl) (fun hpre => ?_)
 repeat' ((conv => whnf);first|(with_reducible first|rfl|exact qAF|exact qAG)|exact True.intro|intro _|refine WA ?_ ?_|refine WF ?_|refine W1 rfl ?_ ?_|refine W2 rfl ?_ ?_|refine W3 rfl ?_ ?_|refine W4 ?_ ?_|refine W5 rfl ?_ ?_|refine W6 ?_ ?_|refine WN ?_|refine X1 (W1 rfl ?_ ?_)|refine X1 (W2 rfl ?_ ?_)|refine X2 (W7 rfl ?_ ?_)|refine X3 (W7 rfl ?_ ?_)|refine X4 (W7 rfl ?_ ?_)|refine X5 (W7 rfl ?_ ?_))
 all_goals (try (conv => whnf))
 all_goals (try first|exact obA|refine Ob.mk ?_)
 ·rw [qZW ‹_›]
 all_goals (have h0 : ¬ ((t.length : Int) == 0) = true := by rw [show ((t.length : Int) == 0) = false from by assumption];decide)
 all_goals (first | exact qWU hpre h0 | (rw [qcQ h0];rfl) | (have := qN6 hpre;refine ⟨by omega,by omega,?_,by omega⟩;show (t.length : Int) * ((1 : Nat) : Int) ≤ _;omega))
end Go.Vc

namespace Go.Vc
open Go.Proofs
set_option maxRecDepth 10000
set_option maxHeartbeats 4000000
def qlJ (l : List qAE) : List qAE := l.set 0 (0,0,[],[],[], -1,(l.getD 0 qAC.dflt).kids)
def qdV (x : List qAE) (k : Nat) : List qAE := qlJ (qNS x (qAB x) [] (List.replicate x.length false) k (-1))
def qUD (l : List Int) (i : Int) : Option Nat := (List.range l.length).find? fun k => l.getD k 0 == i
def qb8 (t : List qAE) (i : Int) : List qAE := match qUD (qBK (fin t).L) i with | some k => qdV (qD9 t) k | none => [qY0]
theorem qbG {l : List Int} {i : Int} {k : Nat} (hk : k < l.length) (h : l.getD k 0 = i) (h0 : ∀ j,j < k → l.getD j 0 ≠ i) : qUD l i = some k := by
 unfold qUD
 rw [List.find?_eq_some_iff_append]
 refine ⟨by rw [h];simp,List.range k,(List.range' (k + 1) (l.length - (k + 1))),?_,fun a ha => ?_⟩
 ·rw [List.range_eq_range',List.range_eq_range',show l.length = k + (1 + (l.length - (k + 1))) by omega, ← List.range'_append_1, ← List.range'_append_1]
  simp
  omega
 ·simpa using h0 a (by simpa using ha)
theorem qLQ {l : List Int} {i : Int} (h0 : ∀ j,j < l.length → l.getD j 0 ≠ i) : qUD l i = none := by
 unfold qUD
 rw [List.find?_eq_none]
 intro a ha
 simpa using h0 a (by simpa using ha)
def qTU (t : List qAE) : Prop := qE9 t = true ∧ t.length ≤ 45 ∧ qE9 (qD9 t) = true ∧ (fin t).L.length ≤ (qD9 t).length ∧ (qD9 t).length ≤ 1000
instance hSubN (t : List qAE) (i : Int) : FnM BN 116 [.agg [.rd qAC t],.int .i64 i] [] (qTU t) (.agg [.rd qAC (qb8 t i)]) [] := by
 refine FnM.intro (N := 67) [0,1,2,4,5,7,8,9,10,30,39,47] [(10,[0,0,6,0,0,0,6,6,6,6]),(11,[0,1,0,1,1,1,1,1,3,3])] 0 Tryz.call116 Tryz.func116 rfl rfl (by kernel_rfl) (fun hpre => ?_)
 obtain ⟨h1,h2,h3,h4,h5⟩ := hpre
 have d := qJQ (qAB t) t.length
 have hlI : (fin t).I.length = t.length := d.lI
 have hll : (qBK (fin t).L).length = (fin t).L.length := by unfold qBK;rw [List.length_map]
 have hL : (fin t).L.length ≤ 45 := by have := qJS d.nod d.lt;have e : (qTB (qAB t) t.length).L = (fin t).L := rfl;rw [e] at this;omega
 have pp : ∀ k : Nat,k < (fin t).L.length → qfH (qD9 t) [] (List.replicate (qD9 t).length false) (k : Int) := fun k hk => by
  have h := qI7 ((List.replicate (qD9 t).length false).set (k : Int).toNat true)
  rw [List.length_set,List.length_replicate] at h
  exact ⟨h3,List.length_replicate,⟨by omega,by omega⟩,by show 0 + _ + 1 ≤ 5000;omega⟩
 have hin : ∀ j,j < (qBK (fin t).L).length → (qBK (fin t).L).getD j 0 = i → 0 ≤ i ∧ i < ((fin t).I.length : Int) ∧ ¬ (fin t).I.getD i.toNat qAH.dflt < 0 := fun j hj e => by
  rw [hll] at hj
  have hm : (fin t).L.getD j 0 ∈ (fin t).L := by rw [List.getD_eq_getElem?_getD,List.getElem?_eq_getElem hj];exact List.getElem_mem _
  have e2 : (qBK (fin t).L).getD j 0 = ((fin t).L.getD j 0 : Nat) := by unfold qBK;simp [List.getD,hj]
  have e3 : i.toNat = (fin t).L.getD j 0 := by omega
  have hlt := d.lt _ hm
  have hr := d.rI _ hm
  have e4 : (fin t).I.getD i.toNat qAH.dflt = (qTB (qAB t) t.length).I.getD ((fin t).L.getD j 0) (-1) := by
   rw [e3]
   show (fin t).I.getD _ _ = (fin t).I.getD _ _
   simp [List.getD,show (fin t).L[j]?.getD 0 < (fin t).I.length by rw [hlI];exact hlt]
  rw [e4,hlI]
  have hlt2 : (fin t).L.getD j 0 < t.length := hlt
  omega
 repeat' ((conv => whnf);first|(with_reducible first|rfl|exact qAF|exact qAG)|exact True.intro|intro _|refine WA ?_ ?_|refine WF ?_|refine W1 rfl ?_ ?_|refine W2 rfl ?_ ?_|refine W3 rfl ?_ ?_|refine W4 ?_ ?_|refine W5 rfl ?_ ?_|refine W6 ?_ ?_|refine WN ?_|refine X1 (W1 rfl ?_ ?_)|refine X1 (W2 rfl ?_ ?_)|refine X2 (W7 rfl ?_ ?_)|refine X3 (W7 rfl ?_ ?_)|refine X4 (W7 rfl ?_ ?_)|refine X5 (W7 rfl ?_ ?_))
 all_goals (try (conv => whnf))
 all_goals (try first|exact obA|refine Ob.mk ?_)
 ·have h := ‹(decide (i < 0) || decide (i ≥ ((fin t).I.length : Int))) = false›
  simp only [Bool.or_eq_false_iff,decide_eq_false_iff_not] at h
  omega
 ·have h := ‹(decide (i < 0) || decide (i ≥ ((fin t).I.length : Int)) || decide ((fin t).I.getD i.toNat qAH.dflt < 0)) = true›
  simp only [Bool.or_eq_true,decide_eq_true_eq] at h
  unfold qb8
  rw [qLQ (fun j hj e => by have := hin j hj e;omega)]
 refine LoopStop.mk (α := Nat) (fun k => [(9,.int .i64 k)]) (fun _ => []) 20 (fun k => k ≤ (qBK (fin t).L).length ∧ ∀ j,j < k → (qBK (fin t).L).getD j 0 ≠ i) (fun k => (qBK (fin t).L).length - k) 0 ⟨Nat.zero_le _,fun j hj => absurd hj (Nat.not_lt_zero _)⟩ ?_ (fun k hk => ?_)
 ·all_goals exact vcA
 ·obtain ⟨hk,ha⟩ := hk
  repeat' ((conv => whnf);first|(with_reducible first|rfl|exact qAF|exact qAG)|exact True.intro|intro _|refine WA ?_ ?_|refine WF ?_|refine W1 rfl ?_ ?_|refine W2 rfl ?_ ?_|refine W3 rfl ?_ ?_|refine W4 ?_ ?_|refine W5 rfl ?_ ?_|refine W6 ?_ ?_|refine WN ?_|refine X1 (W1 rfl ?_ ?_)|refine X1 (W2 rfl ?_ ?_)|refine X2 (W7 rfl ?_ ?_)|refine X3 (W7 rfl ?_ ?_)|refine X4 (W7 rfl ?_ ?_)|refine X5 (W7 rfl ?_ ?_))
  all_goals (try (conv => whnf))
  all_goals (try first|exact obA|refine Ob.mk ?_)
  all_goals (try simp only [Int.toNat_natCast] at *)
  all_goals (try (have hp : k < (qBK (fin t).L).length := by have h := of_decide_eq_true ‹decide ((k : Int) < ((qBK (fin t).L).length : Int)) = true›;omega))
  all_goals (try (exact pp k (by omega)))
  all_goals (try (have hlen := qMZ (t := qD9 t) (K := qAB (qD9 t)) [] (List.replicate (qD9 t).length false) k (-1)))
  all_goals (try (have hl1 : 1 ≤ (qNS (qD9 t) (qAB (qD9 t)) [] (List.replicate (qD9 t).length false) k (-1)).length := hlen.1))
  all_goals clear hlen
  all_goals (try (first | omega | (constructor <;> omega)))
  ·unfold qb8
   rw [qbG hp (show (qBK (fin t).L).getD k qAH.dflt = i from beq_iff_eq.1 ‹((qBK (fin t).L).getD k qAH.dflt == i) = true›) ha]
   rfl
  ·refine Rnd.mk ⟨k + 1,⟨by omega,fun j hj => ?_⟩,by omega,?_⟩
   ·rcases Nat.lt_or_ge j k with q | q
    ·exact ha j q
    ·have e : j = k := by omega
     rw [e];exact fun (q : (qBK (fin t).L).getD k qAH.dflt = i) => absurd (beq_iff_eq.2 q) (by rw [‹((qBK (fin t).L).getD k qAH.dflt == i) = false›];decide)
   ·all_goals exact vcA
  ·have e : k = (qBK (fin t).L).length := by have h := of_decide_eq_false ‹decide ((k : Int) < ((qBK (fin t).L).length : Int)) = false›;omega
   unfold qb8
   rw [qLQ (fun j hj => ha j (by omega))]
instance hSub14 (t : List qAE) (i : Int) : Fn BB 116 [.agg [.rd qAC t],.int .i64 i] (qTU t) (.agg [.rd qAC (qb8 t i)]) :=
 have h := hSubN t i
 ⟨h.call,h.ok⟩
end Go.Vc

namespace Go.Vc
open Go.Proofs
set_option maxRecDepth 10000
instance xAt16 (l : List Int) (w : Int) : Fn BB 330 [.rd qAH l,.int .i64 w] True (.int .i64 (qMS l w)) := by
 refine Fn.intro (N := 19) [0,1,4,5,9,17] [] Tryz.call330 Tryz.func330 rfl rfl (by kernel_rfl) (fun hpre => ?_)
 repeat' ((conv => whnf);first|(with_reducible first|rfl|exact qAF|exact qAG)|exact True.intro|intro _|refine WA ?_ ?_|refine WF ?_|refine W1 rfl ?_ ?_|refine W2 rfl ?_ ?_|refine W3 rfl ?_ ?_|refine W4 ?_ ?_|refine W5 rfl ?_ ?_|refine W6 ?_ ?_|refine WN ?_|refine X1 (W1 rfl ?_ ?_)|refine X1 (W2 rfl ?_ ?_)|refine X2 (W7 rfl ?_ ?_)|refine X3 (W7 rfl ?_ ?_)|refine X4 (W7 rfl ?_ ?_)|refine X5 (W7 rfl ?_ ?_))
 all_goals (try (conv => whnf))
 all_goals (try first|exact obA|refine Ob.mk ?_)
 refine LoopStop.mk (α := Nat) (fun i => [(5,.int .i64 i)]) (fun i => []) 20 (fun i => i ≤ l.length ∧ (l.take i).contains w = false) (fun i => l.length - i) 0 (by simp) ?_ (fun i hi => ?_)
 ·repeat' ((conv => whnf);first|(with_reducible first|rfl|exact qAF|exact qAG)|exact True.intro|intro _|refine WA ?_ ?_|refine WF ?_|refine W1 rfl ?_ ?_|refine W2 rfl ?_ ?_|refine W3 rfl ?_ ?_|refine W4 ?_ ?_|refine W5 rfl ?_ ?_|refine W6 ?_ ?_|refine WN ?_|refine X1 (W1 rfl ?_ ?_)|refine X1 (W2 rfl ?_ ?_)|refine X2 (W7 rfl ?_ ?_)|refine X3 (W7 rfl ?_ ?_)|refine X4 (W7 rfl ?_ ?_)|refine X5 (W7 rfl ?_ ?_))
  all_goals (try (conv => whnf))
  all_goals (try rfl)
 ·obtain ⟨hi,ha⟩ := hi
  repeat' ((conv => whnf);first|(with_reducible first|rfl|exact qAF|exact qAG)|exact True.intro|intro _|refine WA ?_ ?_|refine WF ?_|refine W1 rfl ?_ ?_|refine W2 rfl ?_ ?_|refine W3 rfl ?_ ?_|refine W4 ?_ ?_|refine W5 rfl ?_ ?_|refine W6 ?_ ?_|refine WN ?_|refine X1 (W1 rfl ?_ ?_)|refine X1 (W2 rfl ?_ ?_)|refine X2 (W7 rfl ?_ ?_)|refine X3 (W7 rfl ?_ ?_)|refine X4 (W7 rfl ?_ ?_)|refine X5 (W7 rfl ?_ ?_))
  all_goals (try (conv => whnf))
  all_goals (try first|exact obA|refine Ob.mk ?_)
  all_goals (try simp only [ZA,ZB,ZC,ZD,ZE,ZF,ZG,ZH,ZI,ZJ,ZK,ZL,ZM,ZN,ZO,Int.toNat_natCast,UInt8.ofNat_toNat,cast_eq] at *)
  ·rw [qKI (i := i) (by omega) (by simpa using ha) (by symm;assumption)]
  ·have h : i < l.length := by omega
   refine Rnd.mk ⟨i + 1,?_,?_,?_⟩
   ·refine ⟨by omega,?_⟩
    rw [qFY l i w h,Bool.or_eq_false_iff]
    refine ⟨by simpa using ha,beq_eq_false_iff_ne.2 fun e => ?_⟩
    simp_all
   ·omega
   ·all_goals exact vcA
  ·have : i = l.length := by omega
   subst this
   rw [qE3 (by simpa using ha)]
instance xIn19 (l : List Int) (w : Int) : Fn BB 266 [.rd qAH l,.int .i64 w] True (.int .i64 (qMS l w)) := by
 refine Fn.intro (N := 8) [0,1,4] [] Tryz.call266 Tryz.func266 rfl rfl (by kernel_rfl) (fun hpre => ?_)
 all_goals exact vcA
end Go.Vc

namespace Go.Vc
open Go.Proofs
set_option maxRecDepth 10000
set_option maxHeartbeats 8000000
instance gGetN (nm : List UInt8) : Fn BB 86 [.nils,.str nm] True (.tup [.str [],.bool false]) := by
 refine Fn.intro (N := 25) [0,1,4,5,6,10,19] [] Tryz.call86 Tryz.func86 rfl rfl (by kernel_rfl) (fun hpre => ?_)
 repeat' ((conv => whnf);first|(with_reducible first|rfl|exact qAF|exact qAG)|exact True.intro|intro _|refine WA ?_ ?_|refine WF ?_|refine W1 rfl ?_ ?_|refine W2 rfl ?_ ?_|refine W3 rfl ?_ ?_|refine W4 ?_ ?_|refine W5 rfl ?_ ?_|refine W6 ?_ ?_|refine WN ?_|refine X1 (W1 rfl ?_ ?_)|refine X1 (W2 rfl ?_ ?_)|refine X2 (W7 rfl ?_ ?_)|refine X3 (W7 rfl ?_ ?_)|refine X4 (W7 rfl ?_ ?_)|refine X5 (W7 rfl ?_ ?_))
 all_goals (try (conv => whnf))
 all_goals (try first|exact obA|refine Ob.mk ?_)
 refine LoopStop.mk (α := Unit) (fun k => [(6,.int .i64 0)]) (fun _ => []) 20 (fun k => True) (fun k => 0) () True.intro ?_ (fun k hk => ?_)
 ·all_goals exact vcA
 ·repeat' ((conv => whnf);first|(with_reducible first|rfl|exact qAF|exact qAG)|exact True.intro|intro _|refine WA ?_ ?_|refine WF ?_|refine W1 rfl ?_ ?_|refine W2 rfl ?_ ?_|refine W3 rfl ?_ ?_|refine W4 ?_ ?_|refine W5 rfl ?_ ?_|refine W6 ?_ ?_|refine WN ?_|refine X1 (W1 rfl ?_ ?_)|refine X1 (W2 rfl ?_ ?_)|refine X2 (W7 rfl ?_ ?_)|refine X3 (W7 rfl ?_ ?_)|refine X4 (W7 rfl ?_ ?_)|refine X5 (W7 rfl ?_ ?_))
  all_goals (try (conv => whnf))
  all_goals (try first|exact obA|refine Ob.mk ?_)
  all_goals (first | (exfalso;exact absurd ‹decide ((0 : Int) < 0) = true› (by decide)) | rfl | trace_state)
instance gAddN (a b : List UInt8) : FnM BB 320 [.nils,.agg [.str a,.str b]] [] True (.own 0) [(0,.own qAP [(a,b)])] := by
 refine FnM.intro (N := 25) [0,1,3,4,5,7,19] [] 0 Tryz.call320 Tryz.func320 rfl rfl (by kernel_rfl) (fun hpre => ?_)
 repeat' ((conv => whnf);first|(with_reducible first|rfl|exact qAF|exact qAG)|exact True.intro|intro _|refine WA ?_ ?_|refine WF ?_|refine W1 rfl ?_ ?_|refine W2 rfl ?_ ?_|refine W3 rfl ?_ ?_|refine W4 ?_ ?_|refine W5 rfl ?_ ?_|refine W6 ?_ ?_|refine WN ?_|refine X1 (W1 rfl ?_ ?_)|refine X1 (W2 rfl ?_ ?_)|refine X2 (W7 rfl ?_ ?_)|refine X3 (W7 rfl ?_ ?_)|refine X4 (W7 rfl ?_ ?_)|refine X5 (W7 rfl ?_ ?_))
 all_goals (try (conv => whnf))
 all_goals (try first|exact obA|refine Ob.mk ?_)
 ·rfl
 ·exact absurd ‹(!false) = false› (by decide)
end Go.Vc

namespace Go.Vc
open Go.Proofs
set_option maxRecDepth 10000
set_option maxHeartbeats 8000000
theorem qiX (op : List Int) (h : 0 < op.length) : op.take ((op.length : Int) - 1).toNat = op.take (op.length - 1) := by rw [show ((op.length : Int) - 1).toNat = op.length - 1 by omega]
instance xDropA (t : List qAE) (op : List Int) (md bk lx fm hd : Int) (fo sk : Bool) (ins : List UInt8) : FnM BB 281 [.loc 0 0]
  [(0,.box [.own 1,.own 2,.nils,.int .i64 md,.int .i64 bk,.int .i64 lx,.int .i64 fm,.int .i64 hd,.bool fo,.bool sk,.str ins]),(1,.own qAC t),(2,.own qAH op)] (0 < op.length ∧ op.length ≤ 1000) (.tup [])
  [(0,.box [.own 1,.own 3,.nils,.int .i64 md,.int .i64 bk,.int .i64 lx,.int .i64 fm,.int .i64 hd,.bool fo,.bool sk,.str ins]),(1,.own qAC t),(3,.own qAH (op.take (op.length - 1)))] := by
 refine FnM.intro (N := 18) [0] [(0,[0,4,0,0,0,4,0,0,0,4,4,4,4,4,0,0,4]),(1000000,[2])] 3 Tryz.call281 Tryz.func281 rfl rfl (by kernel_rfl) (fun hpre => ?_)
 have h := qiX op hpre.1
 repeat' ((conv => whnf);first|(with_reducible first|rfl|exact qAF|exact qAG)|exact True.intro|intro _|refine WA ?_ ?_|refine WF ?_|refine W1 rfl ?_ ?_|refine W2 rfl ?_ ?_|refine W3 rfl ?_ ?_|refine W4 ?_ ?_|refine W5 rfl ?_ ?_|refine W6 ?_ ?_|refine WN ?_|refine X1 (W1 rfl ?_ ?_)|refine X1 (W2 rfl ?_ ?_)|refine X2 (W7 rfl ?_ ?_)|refine X3 (W7 rfl ?_ ?_)|refine X4 (W7 rfl ?_ ?_)|refine X5 (W7 rfl ?_ ?_))
 all_goals (try (conv => whnf))
 all_goals (try first|exact obA|refine Ob.mk ?_)
 all_goals (try (first | rfl | (simp only [cast_eq,List.nil_append] at *;rw [h];done) | omega))
 all_goals trace_state
end Go.Vc

namespace Go.Vc
open Go.Proofs
set_option maxRecDepth 10000
set_option maxHeartbeats 4000000
def qXO (l : List qAE) : Bool := l.all fun n => decide (n.2.2.1.length ≤ 60)
theorem qVU {l : List qAE} (h : qXO l = true) : qbM l := fun i => by
 cases hi : isT l i with
 | false => rw [qPK hi];exact Nat.zero_le _
 | true =>
  rw [qTH hi]
  have h2 := qDU.1 hi
  unfold qXO at h
  rw [List.all_eq_true] at h
  have hm : nd l i ∈ l := by
   have e : nd l i = l[i.toNat] := by unfold nd;rw [List.getD_eq_getElem?_getD,List.getElem?_eq_getElem (by omega)];rfl
   rw [e];exact List.getElem_mem _
  simpa using h _ hm
instance s56m (t : List qAE) (l : List Int) (nm : List UInt8) : FnM BB 304 [.agg [.rd qAC t],.rd qAH l,.str nm] [] (nm.length ≤ 100000 ∧ l.length ≤ 100000) (.own 0) [(0,.own qAH (l.take (qV1 (fun x => isE t x nm) l l.length)))] := by
 refine FnM.intro (N := 29) [0,1,2,3,6,7,10,25] [] 0 Tryz.call304 Tryz.func304 rfl rfl (by kernel_rfl) (fun hpre => ?_)
 repeat' ((conv => whnf);first|(with_reducible first|rfl|exact qAF|exact qAG)|exact True.intro|intro _|refine WA ?_ ?_|refine WF ?_|refine W1 rfl ?_ ?_|refine W2 rfl ?_ ?_|refine W3 rfl ?_ ?_|refine W4 ?_ ?_|refine W5 rfl ?_ ?_|refine W6 ?_ ?_|refine WN ?_|refine X1 (W1 rfl ?_ ?_)|refine X1 (W2 rfl ?_ ?_)|refine X2 (W7 rfl ?_ ?_)|refine X3 (W7 rfl ?_ ?_)|refine X4 (W7 rfl ?_ ?_)|refine X5 (W7 rfl ?_ ?_))
 all_goals (try (conv => whnf))
 all_goals (try first|exact obA|refine Ob.mk ?_)
 refine LoopStop.mk (α := Nat) (fun n => [(1,.rd qAH (l.take n))]) (fun _ => []) 20 (fun n => n ≤ l.length ∧ qV1 (fun x => isE t x nm) l l.length = qV1 (fun x => isE t x nm) l n) (fun n => n) l.length (by simp) ?_ (fun n hC => ?_)
 ·repeat' ((conv => whnf);first|(with_reducible first|rfl|exact qAF|exact qAG)|exact True.intro|intro _|refine WA ?_ ?_|refine WF ?_|refine W1 rfl ?_ ?_|refine W2 rfl ?_ ?_|refine W3 rfl ?_ ?_|refine W4 ?_ ?_|refine W5 rfl ?_ ?_|refine W6 ?_ ?_|refine WN ?_|refine X1 (W1 rfl ?_ ?_)|refine X1 (W2 rfl ?_ ?_)|refine X2 (W7 rfl ?_ ?_)|refine X3 (W7 rfl ?_ ?_)|refine X4 (W7 rfl ?_ ?_)|refine X5 (W7 rfl ?_ ?_))
  all_goals (try (conv => whnf))
  all_goals (try first|exact obA|refine Ob.mk ?_)
  all_goals (first | rfl | (rw [List.take_of_length_le (Nat.le_refl _)];done))
 ·obtain ⟨hn,hC⟩ := hC
  have e0 := qT5 hn
  have e1 : ((n : Int) - 1).toNat = n - 1 := by omega
  have e2 : 1 < n → (l.take n).getD (n - 1) qAH.dflt = l.getD (n - 1) 0 := fun h => qP7 (by omega)
  repeat' ((conv => whnf);first|(with_reducible first|rfl|exact qAF|exact qAG)|exact True.intro|intro _|refine WA ?_ ?_|refine WF ?_|refine W1 rfl ?_ ?_|refine W2 rfl ?_ ?_|refine W3 rfl ?_ ?_|refine W4 ?_ ?_|refine W5 rfl ?_ ?_|refine W6 ?_ ?_|refine WN ?_|refine X1 (W1 rfl ?_ ?_)|refine X1 (W2 rfl ?_ ?_)|refine X2 (W7 rfl ?_ ?_)|refine X3 (W7 rfl ?_ ?_)|refine X4 (W7 rfl ?_ ?_)|refine X5 (W7 rfl ?_ ?_))
  all_goals (try (conv => whnf))
  all_goals (try rw [e0] at *)
  all_goals (try rw [e1] at *)
  all_goals (try rw [qO2] at *)
  all_goals (try first|exact obA|refine Ob.mk ?_)
  ·rename_i h
   have h1 : 1 < n := by have := of_decide_eq_true ‹decide ((n : Int) > 1) = true›;omega
   rw [e2 h1] at h
   rw [hC.trans (qZ9 h1 h)];rfl
  ·rename_i h
   have h1 : 1 < n := by have := of_decide_eq_true ‹decide ((n : Int) > 1) = true›;omega
   rw [e2 h1] at h
   refine Rnd.mk ⟨n - 1,⟨by omega,hC.trans (qcT h1 h)⟩,by omega,?_,?_,?_⟩
   all_goals exact vcA
  ·have h1 : ¬ 1 < n := by have := of_decide_eq_false ‹decide ((n : Int) > 1) = false›;omega
   rw [hC.trans (qa4 h1)];rfl
instance s58m (t : List qAE) (l : List Int) (nm : List UInt8) : FnM BB 340 [.agg [.rd qAC t],.rd qAH l,.str nm] [] (qbM t ∧ nm.length ≤ 100000 ∧ l.length ≤ 100000) (.own 0) [(0,.own qAH (l.take (qVP (qN5 t nm) l l.length)))] := by
 refine FnM.intro (N := 44) [0,1,2,3,6,7,10,35] [(2,[0,0,0,0,0,0,0,6,6,6])] 0 Tryz.call340 Tryz.func340 rfl rfl (by kernel_rfl) (fun hpre => ?_)
 repeat' ((conv => whnf);first|(with_reducible first|rfl|exact qAF|exact qAG)|exact True.intro|intro _|refine WA ?_ ?_|refine WF ?_|refine W1 rfl ?_ ?_|refine W2 rfl ?_ ?_|refine W3 rfl ?_ ?_|refine W4 ?_ ?_|refine W5 rfl ?_ ?_|refine W6 ?_ ?_|refine WN ?_|refine X1 (W1 rfl ?_ ?_)|refine X1 (W2 rfl ?_ ?_)|refine X2 (W7 rfl ?_ ?_)|refine X3 (W7 rfl ?_ ?_)|refine X4 (W7 rfl ?_ ?_)|refine X5 (W7 rfl ?_ ?_))
 all_goals (try (conv => whnf))
 all_goals (try first|exact obA|refine Ob.mk ?_)
 refine LoopStop.mk (α := Nat) (fun n => [(1,.rd qAH (l.take n))]) (fun _ => []) 20 (fun n => n ≤ l.length ∧ qVP (qN5 t nm) l l.length = qVP (qN5 t nm) l n) (fun n => n) l.length (by simp) ?_ (fun n hC => ?_)
 ·repeat' ((conv => whnf);first|(with_reducible first|rfl|exact qAF|exact qAG)|exact True.intro|intro _|refine WA ?_ ?_|refine WF ?_|refine W1 rfl ?_ ?_|refine W2 rfl ?_ ?_|refine W3 rfl ?_ ?_|refine W4 ?_ ?_|refine W5 rfl ?_ ?_|refine W6 ?_ ?_|refine WN ?_|refine X1 (W1 rfl ?_ ?_)|refine X1 (W2 rfl ?_ ?_)|refine X2 (W7 rfl ?_ ?_)|refine X3 (W7 rfl ?_ ?_)|refine X4 (W7 rfl ?_ ?_)|refine X5 (W7 rfl ?_ ?_))
  all_goals (try (conv => whnf))
  all_goals (try first|exact obA|refine Ob.mk ?_)
  all_goals (first | rfl | (rw [List.take_of_length_le (Nat.le_refl _)];done))
 ·obtain ⟨hn,hC⟩ := hC
  have e0 := qT5 hn
  have e1 : ((n : Int) - 1).toNat = n - 1 := by omega
  have e2 : 1 < n → (l.take n).getD (n - 1) qAH.dflt = l.getD (n - 1) 0 := fun h => qP7 (by omega)
  have e3 := hpre.1 ((l.take n).getD (n - 1) qAH.dflt)
  repeat' ((conv => whnf);first|(with_reducible first|rfl|exact qAF|exact qAG)|exact True.intro|intro _|refine WA ?_ ?_|refine WF ?_|refine W1 rfl ?_ ?_|refine W2 rfl ?_ ?_|refine W3 rfl ?_ ?_|refine W4 ?_ ?_|refine W5 rfl ?_ ?_|refine W6 ?_ ?_|refine WN ?_|refine X1 (W1 rfl ?_ ?_)|refine X1 (W2 rfl ?_ ?_)|refine X2 (W7 rfl ?_ ?_)|refine X3 (W7 rfl ?_ ?_)|refine X4 (W7 rfl ?_ ?_)|refine X5 (W7 rfl ?_ ?_))
  all_goals (try (conv => whnf))
  all_goals (try rw [e0] at *)
  all_goals (try rw [e1] at *)
  all_goals (try rw [qO2] at *)
  all_goals (try first|exact obA|refine Ob.mk ?_)
  ·rename_i h1 h
   have h1 : 1 < n := by have := of_decide_eq_true h1;omega
   have h : (!qN5 t nm ((l.take n).getD (n - 1) qAH.dflt)) = true := by rw [qOP];exact h
   rw [e2 h1] at h
   rw [hC.trans (qX4 h1 (by simpa using h))];rfl
  ·rename_i h1 h hz
   have h1 : 1 < n := by have := of_decide_eq_true h1;omega
   have h : (!qN5 t nm ((l.take n).getD (n - 1) qAH.dflt)) = false := by rw [qOP];exact h
   rw [e2 h1] at h
   refine Rnd.mk ⟨n - 1,⟨by omega,hC.trans (qdY h1 (by simpa using h))⟩,by omega,?_,?_,?_⟩
   all_goals exact vcA
  ·rename_i h1
   have h1 : ¬ 1 < n := by have := of_decide_eq_false h1;omega
   rw [hC.trans (qZ8 h1)];rfl
instance (priority := 3000) qAImplied (t : List qAE) (op : List Int) (nm : List UInt8) (md bk lx fm hd : Int) (fo sk : Bool) (ins : List UInt8) :
  FnM BB 282 [.loc 0 0,.str nm] [(0,.box [.own 1,.own 2,.nils,.int .i64 md,.int .i64 bk,.int .i64 lx,.int .i64 fm,.int .i64 hd,.bool fo,.bool sk,.str ins]),(1,.own qAC t),(2,.own qAH (op))] (qXO t = true ∧ nm.length ≤ 100000 ∧ op.length ≤ 100000)
   (.tup []) [(0,.box [.own 1,.own 2,.nils,.int .i64 md,.int .i64 bk,.int .i64 lx,.int .i64 fm,.int .i64 hd,.bool fo,.bool sk,.str ins]),(1,.own qAC t),(2,.own qAH (op.take (qVP (qN5 t nm) op op.length)))] := by
 refine FnM.intro (N := 17) [0,1] [(0,[0,0,0,0,1,0,0,0,1,0,3,0,0,3])] 3 Tryz.call282 Tryz.func282 rfl rfl (by kernel_rfl) (fun hpre => ?_)
 obtain ⟨h1,h2,h3⟩ := hpre
 have h1 := qVU h1
 repeat' ((conv => whnf);first|(with_reducible first|rfl|exact qAF|exact qAG)|exact True.intro|intro _|refine WA ?_ ?_|refine WF ?_|refine W1 rfl ?_ ?_|refine W2 rfl ?_ ?_|refine W3 rfl ?_ ?_|refine W4 ?_ ?_|refine W5 rfl ?_ ?_|refine W6 ?_ ?_|refine WN ?_|refine X1 (W1 rfl ?_ ?_)|refine X1 (W2 rfl ?_ ?_)|refine X2 (W7 rfl ?_ ?_)|refine X3 (W7 rfl ?_ ?_)|refine X4 (W7 rfl ?_ ?_)|refine X5 (W7 rfl ?_ ?_))
 all_goals (try (conv => whnf))
 all_goals (try first|exact obA|refine Ob.mk ?_)
 all_goals (first | exact ⟨h1,h2,h3⟩ | exact ⟨h2,h3⟩ | rfl | trace_state)
end Go.Vc

namespace Go.Vc
open Go.Proofs
set_option maxRecDepth 100000
set_option maxHeartbeats 40000000
noncomputable abbrev BA : Base := { BB with al := true }
instance (priority := 100) fnA {f : FuncId} {args : List SV} {pre : Prop} {res : SV} [h : Fn BB f args pre res] : Fn BA f args pre res := ⟨h.call,h.ok⟩
instance (priority := 100) fnmA {f : FuncId} {args : List SV} {Φ : Phi} {pre : Prop} {res : SV} {Φ' : Phi} [h : FnM BB f args Φ pre res Φ'] : FnM BA f args Φ pre res Φ' := ⟨h.call,h.ok⟩
@[simp] theorem qxJ (t : TypeId) : qAA BA.P t = qAA BB.P t := rfl
noncomputable section
open Tryz
@[reducible] def iM {f : FuncId} {fn : Func} {c : Code} (N : Nat) (L : List Nat) (pl : List (Nat × List Nat)) (call : ∀ (vs : Array Value) (w : World),(callFunc f vs).run BA.P w = .ok (.enter f vs) w) (hf : BA.P.funcs[f]? = some fn) (hb : fn.body = some c) (hN : fn.ntmps = N) (hok : codeOk N pl c = true := by kernel_rfl) : Inl BA f := Inl.make (N := N) L pl call hf hb hN hok
instance : Inl BA 17 := iM 49 [0,1,2,3,4,14,37,42,48] [(1,[1,1,1,1,1,1,1,3,3,3])] call17 func17 rfl rfl
instance : Inl BA 18 := iM 72 [0,1,2,4,5,6,7,27,32,41,46,56,61,71] [] call18 func18 rfl rfl
instance : Inl BA 19 := iM 65 [0,1,2,3,4,5,6,7,8,9,10,11,34,49] [(5,[0,1,0,1,3])] call19 func19 rfl rfl
instance : Inl BA 21 := iM 32 [0,1,2,3,4,5,12,17,31] [(6,[0,1,0,1,1,0,1,0,1,1,3,3])] call21 func21 rfl rfl
instance : Inl BA 26 := iM 60 [0,1,2,4,5,6,7,8,18,36,51] [(6,[0,0,0,0,0,0,0,0,6,6])] call26 func26 rfl rfl
instance : Inl BA 27 := iM 30 [0,1,2,3,6,7,17] [] call27 func27 rfl rfl
instance : Inl BA 28 := iM 8 [0,1,2,4] [] call28 func28 rfl rfl
instance : Inl BA 33 := iM 19 [0,1,2,3,4,9] [] call33 func33 rfl rfl
instance : Inl BA 35 := iM 5 [0,1,2] [] call35 func35 rfl rfl
instance : Inl BA 40 := iM 62 [0,1,3,4,5,6,7,8,9,14,34] [(10,[0,0,0,1,0,0,1,1,3,3,3,3])] call40 func40 rfl rfl
instance : Inl BA 42 := iM 61 [0,1,2,4,5,6,7,8,9,25,28,35,41,54] [] call42 func42 rfl rfl
instance : Inl BA 44 := iM 24 [0,1,4,18] [] call44 func44 rfl rfl
instance : Inl BA 47 := iM 48 [0,1,2,4,13,31,41,47] [] call47 func47 rfl rfl
instance : Inl BA 50 := iM 35 [0,1,4,5,6,12,16,32] [] call50 func50 rfl rfl
instance : Inl BA 52 := iM 67 [0,1,2,3,4,8,9,28,30,35,65] [] call52 func52 rfl rfl
instance : Inl BA 53 := iM 26 [0,1,4,5,10,14,25] [(6,[0,0,1,1,0,0,1,1,3])] call53 func53 rfl rfl
instance : Inl BA 55 := iM 90 [0,1,2,3,4,5,6,7,8,9,15,30,51] [(6,[0,0,0,0,0,0,0,0,6,6]),(10,[1,0,1,0,1,1,1,1,0,1,0,1,1,1,3,3]),(14,[0,0,0,1,1,0,1,0,1,1,1,0,0,0,1,1,1,0,0,1,1,0,1,0,1,1,1,0,0,1,1,1,3,3,3,3])] call55 func55 rfl rfl
instance : Inl BA 59 := iM 28 [0,1,4,5,7] [(5,[0,0,0,1,0,0,0,0,1,1,1,1,1,1,3,3])] call59 func59 rfl rfl
instance : Inl BA 70 := iM 95 [0,1,2,4,5,6,7,18,56,80] [(8,[0,0,0,1,1,1,1,1,1,1,1,1,1,1,1,1,3,3,3,3,3])] call70 func70 rfl rfl
instance : Inl BA 71 := iM 16 [0,2,3,7,13] [] call71 func71 rfl rfl
instance : Inl BA 73 := iM 77 [0,1,2,4,5,6,21,46,51,76] [] call73 func73 rfl rfl
instance : Inl BA 74 := iM 4 [0] [] call74 func74 rfl rfl
instance : Inl BA 75 := iM 21 [0,1,2,5,6,7] [] call75 func75 rfl rfl
instance : Inl BA 76 := iM 53 [0,1,2,3,4,5,12,13,14,15,16,27,34] [(7,[0,1,0,0,1,1,0,0,1,1,1,1,3,0,3])] call76 func76 rfl rfl
instance : Inl BA 77 := iM 13 [0,1,2,7] [] call77 func77 rfl rfl
instance : Inl BA 78 := iM 68 [0,1,2,6,7,8,9,13,34,44] [(10,[0,0,0,1,0,1,1,1,0,1,0,1,1,1,0,1,0,1,1,1,3])] call78 func78 rfl rfl
instance : Inl BA 79 := iM 64 [0,1,2,3,4,7,10,11,20,47] [(7,[0,0,0,0,1,0,1,1,1,1,0,0,3])] call79 func79 rfl rfl
instance : Inl BA 82 := iM 71 [0,1,2,3,4,5,47,52,65] [(6,[0,1,0,1,1,0,1,0,1,1,3])] call82 func82 rfl rfl
instance : Inl BA 85 := iM 15 [0,1,2,4,5] [] call85 func85 rfl rfl
instance : Inl BA 87 := iM 65 [0,1,2,3,4,8,9,10,11,21,60] [(5,[0,0,0,0,0,0,0,0,6,6]),(6,[0,1,1,1,1,1,1,1,1,1,1,1,1,1,1,1,1,1,1,1,1,1,1,1,1,1,1,3,3])] call87 func87 rfl rfl
instance : Inl BA 92 := iM 68 [0,1,2,4,5,6,7,8,9,10,26,35,44,52,63] [(14,[0,1,0,0,1,1,3,3,3])] call92 func92 rfl rfl
instance : Inl BA 93 := iM 19 [0,1,2,4] [] call93 func93 rfl rfl
instance : Inl BA 98 := iM 22 [0,2,3,4,8,12] [] call98 func98 rfl rfl
instance : Inl BA 100 := iM 58 [0,1,2,4,5,6,7,12,16,24,42] [(9,[0,1,1,1,1,1,1,1,1,1,3,3,3])] call100 func100 rfl rfl
instance : Inl BA 101 := iM 19 [0,1,2,4] [] call101 func101 rfl rfl
instance : Inl BA 105 := iM 13 [0,2,3,10] [] call105 func105 rfl rfl
instance : Inl BA 109 := iM 8 [0,1,2,4] [] call109 func109 rfl rfl
instance : Inl BA 110 := iM 15 [0,1,2,4,5,10] [] call110 func110 rfl rfl
instance : Inl BA 114 := iM 34 [0,2,3,4,10] [] call114 func114 rfl rfl
instance : Inl BA 115 := iM 46 [0,1,4,5,6,7,35,42,44,45] [] call115 func115 rfl rfl
instance : Inl BA 123 := iM 29 [0,1,2,4,5,6,7,14] [(6,[0,0,1,0,0,1,1,3,3,3,3,3])] call123 func123 rfl rfl
instance : Inl BA 124 := iM 82 [0,1,3,4,5,6,7,18,23,54,60] [] call124 func124 rfl rfl
instance : Inl BA 125 := iM 50 [0,1,2,3,4,9,31,34,49] [(4,[0,1,0,1,0,1,1,1,1,1,1,1,1,1,3,3,3,3,3,3]),(9,[0,1,0,1,1,1,0,1,0,1,1,1,3])] call125 func125 rfl rfl
instance : Inl BA 126 := iM 34 [0,1,4,5,26] [] call126 func126 rfl rfl
instance : Inl BA 128 := iM 19 [0,1,2,4] [] call128 func128 rfl rfl
instance : Inl BA 129 := iM 13 [0,2,5] [] call129 func129 rfl rfl
instance : Inl BA 130 := iM 8 [0,2] [] call130 func130 rfl rfl
instance : Inl BA 132 := iM 26 [0,1,4] [] call132 func132 rfl rfl
instance : Inl BA 133 := iM 28 [0,1,3,4] [(3,[0,0,0,0,1,1,1,3,0,0,3]),(5000003,[3])] call133 func133 rfl rfl
instance : Inl BA 134 := iM 69 [0,1,2,3,8,34] [(3,[0,0,0,1,0,0,0,0,1,1,1,0,1,3,3,3])] call134 func134 rfl rfl
instance : Inl BA 152 := iM 63 [0,2,3,4,5,16,42,50,58] [(4,[0,0,0,0,0,0,0,0,0,0,0,0,0,0,6,6])] call152 func152 rfl rfl
instance : Inl BA 154 := iM 43 [0,1,4,5,10] [(3,[0,0,0,0,1,0,0,0,1,1,3,3,3,3]),(4,[0,0,0,0,7,0,0,0,0,4,4,4,4,4,4,4,4,4,4,4]),(3000004,[649,714,779,844,909,974,1039,1104,1169,1234])] call154 func154 rfl rfl
instance : Inl BA 155 := iM 57 [0,1,4,15,20,35,50] [] call155 func155 rfl rfl
instance : Inl BA 159 := iM 19 [0,1,4,6,10] [] call159 func159 rfl rfl
instance : Inl BA 160 := iM 19 [0,1,2] [] call160 func160 rfl rfl
instance : Inl BA 161 := iM 55 [0,2,3,4,5,6,7,8,24,31,36,42,50] [(14,[1,0,0,1,1,3])] call161 func161 rfl rfl
instance : Inl BA 162 := iM 89 [0,1,3,4,5,10,24,30,48,62,79] [] call162 func162 rfl rfl
instance : Inl BA 163 := iM 62 [0,1,4,5,6,7,9,11,14,22,26,61] [] call163 func163 rfl rfl
instance : Inl BA 164 := iM 16 [0,2,3,7,13] [] call164 func164 rfl rfl
instance : Inl BA 165 := iM 15 [0,2,3,7,14] [] call165 func165 rfl rfl
instance : Inl BA 167 := iM 64 [0,2,3,4,5,6,10,26,34,50] [] call167 func167 rfl rfl
instance : Inl BA 169 := iM 77 [0,1,4,5,6,7,14,33,38,69] [] call169 func169 rfl rfl
instance : Inl BA 182 := iM 71 [0,1,2,3,8,9,10,11,17,25,40,42,52,58,67,69,70] [] call182 func182 rfl rfl
instance : Inl BA 184 := iM 93 [0,1,2,3,8,9,10,11,12,14,16,18,27,39,49,57,71] [] call184 func184 rfl rfl
instance : Inl BA 185 := iM 38 [0,2,3,16,28] [] call185 func185 rfl rfl
instance : Inl BA 186 := iM 77 [0,1,3,4,5,23,45,63] [] call186 func186 rfl rfl
instance : Inl BA 187 := iM 132 [0,1,4,5,6,11,22,40,44,50,73,94,115] [(11,[0,0,0,0,1,0,0,0,1,1,1,1,1,3]),(13,[0,1,0,0,0,1,0,0,0,1,1,1,1,3,0,0,3]),(20,[0,1,0,0,0,1,0,0,0,1,1,1,1,3,0,0,3])] call187 func187 rfl rfl
instance : Inl BA 188 := iM 92 [0,1,4,9,22,33,41,46,72,77,85] [] call188 func188 rfl rfl
instance : Inl BA 189 := iM 55 [0,1,4,9,17,25,33,41] [] call189 func189 rfl rfl
instance : Inl BA 190 := iM 109 [0,1,4,16,42,56,65,76,87,95] [] call190 func190 rfl rfl
instance : Inl BA 191 := iM 70 [0,1,4,9,17,25,33,41,49] [] call191 func191 rfl rfl
instance : Inl BA 192 := iM 16 [0,1,2] [] call192 func192 rfl rfl
instance : Inl BA 193 := iM 48 [0,1,2,3,4,17] [] call193 func193 rfl rfl
instance : Inl BA 194 := iM 33 [0,1,2,6,7,12,20,32] [(6,[0,0,0,1,1,1,0,0,1,1,1,3])] call194 func194 rfl rfl
instance : Inl BA 197 := iM 15 [0,2,3,7,14] [] call197 func197 rfl rfl
instance : Inl BA 198 := iM 27 [0,2,3,8,21,26] [(4,[0,0,1,1,1,0,0,1,1,1,3])] call198 func198 rfl rfl
instance : Inl BA 199 := iM 38 [0,1,4,5,10,18,37] [(6,[0,0,1,1,1,0,0,1,1,1,1,1,1,1,3,3,3,3,3])] call199 func199 rfl rfl
instance : Inl BA 200 := iM 33 [0,2,3,4,10,24] [] call200 func200 rfl rfl
instance : Inl BA 201 := iM 70 [0,2,3,4,5,6,7,8,13,19,25,31,33,35,37,39,41,44,66] [] call201 func201 rfl rfl
instance : Inl BA 202 := iM 20 [0,2,16] [] call202 func202 rfl rfl
instance : Inl BA 211 := iM 23 [0,1,4,5,8,22] [(4,[0,0,0,1,0,0,0,1,0,1,1,3])] call211 func211 rfl rfl
instance : Inl BA 212 := iM 72 [0,1,2,6,7,8,9,10,15,25,42,57] [] call212 func212 rfl rfl
instance : Inl BA 213 := iM 27 [0,1,4,5,6,7,8,9,17] [] call213 func213 rfl rfl
instance : Inl BA 214 := iM 39 [0,1,4,5,6,7,8,12,22] [] call214 func214 rfl rfl
instance : Inl BA 215 := iM 73 [0,1,4,5,6,22,24,47] [(6,[0,0,0,0,0,0,0,0,0,3,3,3])] call215 func215 rfl rfl
instance : Inl BA 216 := iM 51 [0,1,2,6,18] [(4,[0,0,0,0,0,0,0,0,0,3,3,3])] call216 func216 rfl rfl
instance : Inl BA 217 := iM 51 [0,1,2,4,6,8,11,22] [] call217 func217 rfl rfl
instance : Inl BA 218 := iM 64 [0,1,4,5,6,14,35,63] [(4,[0,0,0,0,1,0,0,0,1,0,1,1,1,1,1,3]),(8,[0,0,0,0,1,0,0,0,1,0,0,1,1,3,3,3,3])] call218 func218 rfl rfl
instance : Inl BA 219 := iM 50 [0,1,2,4,6,7,8,9] [(2,[0,0,0,0,0,1,0,1,3,3,3])] call219 func219 rfl rfl
instance : Inl BA 220 := iM 43 [0,1,2,4,5,6,7,9,17,26] [] call220 func220 rfl rfl
instance : Inl BA 221 := iM 100 [0,2,3,4,32,55,64] [(2,[0,0,0,1,1,1,1,1,1,1,1,1,1,1,1,1,1,1,3,3,3]),(3,[0,0,0,1,1,1,1,1,1,1,1,1,1,1,1,1,1,1,1,1,3,3,3]),(7,[0,0,0,0,0,1,0,0,0,1,0,1,1,3,3,3,3,3]),(8,[0,0,0,0,1,0,0,0,1,0,1,1,0,3,0,0,3])] call221 func221 rfl rfl
instance : Inl BA 222 := iM 124 [0,1,4,5,14,20,23,38,43,47,50,57,67,73,78,81,86,89,99] [(32,[0,1,0,0,0,1,0,0,0,1,1,1,1,3,0,0,3])] call222 func222 rfl rfl
instance : Inl BA 223 := iM 73 [0,1,4,17,55] [(2,[0,0,0,0,1,1,1,0,0,0,1,3]),(3,[0,0,0,1,1,1,1,1,1,1,1,1,1,1,1,1,1,1,1,1,1,1,1,1,3,3]),(4,[0,0,0,0,1,1,1,0,0,0,1,3])] call223 func223 rfl rfl
instance : Inl BA 224 := iM 26 [0,1,4,9,14,22] [] call224 func224 rfl rfl
instance : Inl BA 225 := iM 78 [0,1,4,5,6,7,25,34,41,50,54,63,68,74] [] call225 func225 rfl rfl
instance : Inl BA 226 := iM 31 [0,1,4,10,15,27] [] call226 func226 rfl rfl
instance : Inl BA 227 := iM 34 [0,1,4,10,12,24] [] call227 func227 rfl rfl
instance : Inl BA 228 := iM 84 [0,1,4,5,6,11,19,48,76] [(6,[0,0,0,0,1,0,0,0,1,0,1,1,1,1,1,3]),(7,[0,0,0,1,0,0,0,1,0,1,1,0,3]),(10,[0,1,0,1,1,1,1,1,1,1,1,1,1,1,1,1,1,3,3,3])] call228 func228 rfl rfl
instance : Inl BA 230 := iM 77 [0,1,4,5,23,54] [(0,[0,0,0,1,0,0,0,1,3,3]),(10,[0,0,0,0,1,0,0,0,1,0,3,0,0,3])] call230 func230 rfl rfl
instance : Inl BA 231 := iM 122 [0,1,4,5,15,29,37,39,53,57,65,69,82,115] [] call231 func231 rfl rfl
instance : Inl BA 232 := iM 90 [0,1,4,20,29,34,40,45,49,55,57,62,71,76] [] call232 func232 rfl rfl
instance : Inl BA 233 := iM 40 [0,1,4,11,14,36] [] call233 func233 rfl rfl
instance : Inl BA 234 := iM 68 [0,1,4,5,6,11,24,31,40,45,59] [] call234 func234 rfl rfl
instance : Inl BA 235 := iM 55 [0,1,4,5,7,18,28,44,51] [] call235 func235 rfl rfl
instance : Inl BA 236 := iM 45 [0,1,4,6,17,25,29,41] [] call236 func236 rfl rfl
instance : Inl BA 237 := iM 47 [0,1,4,5,7,13,26,35,39,43] [] call237 func237 rfl rfl
instance : Inl BA 238 := iM 18 [0,1,2,6] [(1,[0,0,0,1,0,0,0,1,0,0,3,3])] call238 func238 rfl rfl
instance : Inl BA 240 := iM 63 [0,1,4,9,24,31,43,50] [] call240 func240 rfl rfl
instance : Inl BA 241 := iM 54 [0,1,4,9,35,44,51] [(2,[0,1,1,1,1,1,1,1,1,1,1,1,1,1,1,1,1,1,1,3,3])] call241 func241 rfl rfl
instance : Inl BA 242 := iM 53 [0,1,4,6,7,13,18,32] [(9,[0,0,0,0,0,0,3,3,3,3]),(10,[0,0,0,0,0,0,0,3,3,0,3])] call242 func242 rfl rfl
instance : Inl BA 243 := iM 57 [0,1,4,6,23,28,49] [] call243 func243 rfl rfl
instance : Inl BA 244 := iM 55 [0,1,4,6,7,8,18,25,41] [] call244 func244 rfl rfl
instance : Inl BA 245 := iM 64 [0,1,4,5,6,7,8,35,42,46] [] call245 func245 rfl rfl
instance : Inl BA 246 := iM 109 [0,1,4,5,6,7,8,35,42,56,101] [(8,[0,0,0,1,1,1,1,1,1,1,1,3,3]),(9,[0,1,0,0,0,1,1,0,0,0,1,1,3,0,0,3]),(11,[0,0,0,0,1,0,0,0,1,3,0,0,3])] call246 func246 rfl rfl
instance : Inl BA 247 := iM 45 [0,1,4,9,27] [] call247 func247 rfl rfl
instance : Inl BA 248 := iM 117 [0,1,4,5,6,7,19,36,54,66,74,81,86,105,110] [(2,[0,0,0,0,1,0,0,0,1,1,1,3])] call248 func248 rfl rfl
instance : Inl BA 249 := iM 10 [0,1,4] [] call249 func249 rfl rfl
instance : Inl BA 259 := iM 37 [0,1,2,6,7,9,11,20,26,33] [] call259 func259 rfl rfl
instance : Inl BA 260 := iM 151 [0,2,3,4,5,6,7,8,9,10,19,36,61,76,103,117,122,130,141] [] call260 func260 rfl rfl
instance : Inl BA 261 := iM 92 [0,1,4,5,6,7,9,28,38,42,57,64,71,85] [] call261 func261 rfl rfl
instance : Inl BA 262 := iM 77 [0,1,4,5,6,7,8,15,23,33,45,73] [] call262 func262 rfl rfl
instance : Inl BA 263 := iM 126 [0,1,4,5,6,7,8,20,31,69,114] [(2,[0,0,0,1,0,0,0,1,3,3]),(4,[0,0,0,1,1,1,0,0,0,0,1,0,0,0,1,1,1,1,1,1,1,1,3]),(5,[0,0,0,0,1,0,0,0,1,0,1,1,3,3,3,3]),(7,[0,0,0,0,1,0,0,0,1,0,1,1,3,0,3]),(9,[0,0,0,0,0,3,0,3,3,3,3,0,3]),(12,[0,0,0,0,0,3,0,3,3,3,3,0,3])] call263 func263 rfl rfl
instance : Inl BA 265 := iM 24 [0,1,4,5,9,18] [] call265 func265 rfl rfl
instance : Inl BA 267 := iM 8 [0,1,2] [] call267 func267 rfl rfl
instance : Inl BA 268 := iM 29 [0,1,2,6,7,8,15,23] [] call268 func268 rfl rfl
instance : Inl BA 269 := iM 20 [0,1,2,3,8,13] [] call269 func269 rfl rfl
instance : Inl BA 270 := iM 28 [0,2,16] [] call270 func270 rfl rfl
instance : Inl BA 271 := iM 6 [0] [] call271 func271 rfl rfl
instance : Inl BA 272 := iM 1 [0] [] call272 func272 rfl rfl
instance : Inl BA 273 := iM 206 [0,1,4,5,6,7,8,9,10,11,12,13,14,15,16,33,38,52,60,73,78,166] [(8,[0,0,0,1,0,0,0,1,0,3,3]),(22,[0,0,0,1,0,1,1,0,0,0,1,0,0,1,1,1,1,3]),(34,[0,0,0,0,1,0,0,0,1,0,1,1,0,3,0,0,3]),(5000019,[2000])] call273 func273 rfl rfl
instance : Inl BA 274 := iM 72 [0,1,4,5,6,14,30,41,71] [(9,[0,0,0,0,1,0,1,1,1,0,0,0,0,1,0,1,1,1,3])] call274 func274 rfl rfl
instance : Inl BA 275 := iM 11 [0,2] [] call275 func275 rfl rfl
instance : Inl BA 276 := iM 35 [0,1,2,6,10] [(3,[0,0,0,0,1,0,0,0,0,0,1,0,1,1,1,0,0,1,1,1,3,3,3])] call276 func276 rfl rfl
instance : Inl BA 277 := iM 11 [0,1] [] call277 func277 rfl rfl
instance : Inl BA 278 := iM 27 [0,1] [] call278 func278 rfl rfl
instance : Inl BA 279 := iM 6 [0,3] [] call279 func279 rfl rfl
instance : Inl BA 280 := iM 16 [0,1,4] [(1,[0,0,0,1,0,0,0,1,1,0,3,3])] call280 func280 rfl rfl
instance : Inl BA 283 := iM 64 [0,1,2,3,6,7,14,59] [(4,[1,0,0,1,1,1,1,1,1,1,1,1,1,1,1,1,1,1,1,1,1,1,1,1,1,1,1,1,1,1,1,1,1,1,1,1,1,1,1,1,1,3,3])] call283 func283 rfl rfl
instance : Inl BA 284 := iM 27 [0,1,4,5,6,10,18] [] call284 func284 rfl rfl
instance : Inl BA 285 := iM 31 [0,1,4,5,6,10,22] [] call285 func285 rfl rfl
instance : Inl BA 286 := iM 55 [0,1,2,3,6,7,8,9,10,11,18,27,34,43] [(5,[1,0,0,1,1,0,3])] call286 func286 rfl rfl
instance : Inl BA 287 := iM 12 [0,1,4] [] call287 func287 rfl rfl
instance : Inl BA 288 := iM 28 [0,1,4,9] [] call288 func288 rfl rfl
instance : Inl BA 289 := iM 18 [0,1,4] [] call289 func289 rfl rfl
instance : Inl BA 290 := iM 1 [0] [] call290 func290 rfl rfl
instance : Inl BA 291 := iM 50 [0,1,4,11,23,33,41] [] call291 func291 rfl rfl
instance : Inl BA 292 := iM 10 [0,2,5] [] call292 func292 rfl rfl
instance : Inl BA 293 := iM 18 [0,1,4] [] call293 func293 rfl rfl
instance : Inl BA 294 := iM 22 [0,2,3,4] [] call294 func294 rfl rfl
instance : Inl BA 295 := iM 18 [0] [(0,[0,1,0,0,0,1,0,0,0,1,1,1,1,3,0,0,3])] call295 func295 rfl rfl
instance : Inl BA 296 := iM 16 [0,1,4,5] [] call296 func296 rfl rfl
instance : Inl BA 297 := iM 23 [0,2,3,4,14] [(4,[0,0,0,0,0,0,0,0])] call297 func297 rfl rfl
instance : Inl BA 299 := iM 13 [0,1,2,4] [] call299 func299 rfl rfl
instance : Inl BA 300 := iM 22 [0,1,2,3,8,12] [] call300 func300 rfl rfl
instance : Inl BA 301 := iM 13 [0] [] call301 func301 rfl rfl
instance : Inl BA 302 := iM 20 [0,1] [] call302 func302 rfl rfl
instance : Inl BA 305 := iM 31 [0,1,14] [(1,[0,1,0,0,0,1,0,0,0,1,1,1,1,3,0,0,3])] call305 func305 rfl rfl
instance : Inl BA 306 := iM 10 [0,2,5] [] call306 func306 rfl rfl
instance : Inl BA 307 := iM 26 [0,2,3,4,5,10] [] call307 func307 rfl rfl
instance : Inl BA 308 := iM 19 [0,1,4] [] call308 func308 rfl rfl
instance : Inl BA 309 := iM 9 [0,1,4] [] call309 func309 rfl rfl
instance : Inl BA 310 := iM 44 [0,1,4,5,10,28] [] call310 func310 rfl rfl
instance : Inl BA 311 := iM 24 [0,7] [(1,[0,1,0,0,0,1,0,0,0,1,1,1,1,3,0,0,3])] call311 func311 rfl rfl
instance : Inl BA 312 := iM 1 [0] [] call312 func312 rfl rfl
instance : Inl BA 315 := iM 53 [0,1,4,5,6,7,11,21,28,36,42,48] [] call315 func315 rfl rfl
instance : Inl BA 316 := iM 51 [0,1,4,5,34] [] call316 func316 rfl rfl
instance : Inl BA 317 := iM 17 [0,2] [] call317 func317 rfl rfl
instance : Inl BA 318 := iM 18 [0,1,4,14] [] call318 func318 rfl rfl
instance : Inl BA 319 := iM 82 [0,1,4,5,6,7,8,9,10,11,42,63] [] call319 func319 rfl rfl
instance : Inl BA 321 := iM 18 [0,1,4] [] call321 func321 rfl rfl
instance : Inl BA 322 := iM 51 [0,2,3,4,5,6,7,10,13,28,44] [] call322 func322 rfl rfl
instance : Inl BA 323 := iM 46 [0,2,3,4,5,6,7,20,33] [] call323 func323 rfl rfl
instance : Inl BA 324 := iM 30 [0,1,2,6,7,15,26] [] call324 func324 rfl rfl
instance : Inl BA 325 := iM 21 [0,1,4,5,6,7] [] call325 func325 rfl rfl
instance : Inl BA 326 := iM 64 [0,2,3,4,5,6,7,8,21,26,37,48,58] [] call326 func326 rfl rfl
instance : Inl BA 327 := iM 44 [0,2,3,4,5,6,7,15,38] [] call327 func327 rfl rfl
instance : Inl BA 328 := iM 13 [0,2] [] call328 func328 rfl rfl
instance : Inl BA 331 := iM 45 [0,1,4,5,6,14,25,44] [(6,[0,0,0,0,1,0,0,0,1,0,1,1,1,1,1,3])] call331 func331 rfl rfl
instance : Inl BA 332 := iM 37 [0,1,4,5,6,15,36] [(4,[0,0,0,0,1,0,0,0,1,0,1,1,1,1,1,3])] call332 func332 rfl rfl
instance : Inl BA 333 := iM 38 [0,1,4,5,6,15,36] [(4,[0,0,0,0,1,0,0,0,1,0,1,1,1,1,1,3])] call333 func333 rfl rfl
instance : Inl BA 334 := iM 119 [0,1,2,3,8,9,10,11,12,13,14,15,36,50,62,71,106] [] call334 func334 rfl rfl
instance : Inl BA 335 := iM 25 [0,1,4,5] [(2,[0,0,0,0,1,0,1,0,1,3,3,3])] call335 func335 rfl rfl
instance : Inl BA 336 := iM 89 [0,1,2,6,7,29,41,51] [(5,[0,0,1,0,0,1,1,3]),(6,[0,0,0,1,0,0,1,1,0,3,3,3]),(7,[0,0,0,1,0,1,0,0,0,1,0,1,1,1,1,0,1,3,3,3])] call336 func336 rfl rfl
instance : Inl BA 337 := iM 22 [0,1,2] [(0,[0,0,0,0,0,0,0,0,3,0,3,3,3,3,0,3])] call337 func337 rfl rfl
instance : Inl BA 338 := iM 24 [0,1,2,6] [(2,[1,0,0,0,1,0,1,3,0,0,0,3,3])] call338 func338 rfl rfl
instance : Inl BA 339 := iM 18 [0,2,3,8,15] [] call339 func339 rfl rfl
instance : Inl BA 341 := iM 14 [0,1,2,4] [] call341 func341 rfl rfl
instance : Inl BA 342 := iM 48 [0,1,2,3,6,7,8,18] [(3,[0,1,0,1,1,0,1,0,1,1,1,1,1,3])] call342 func342 rfl rfl
instance : Inl BA 344 := iM 18 [0,1,4] [] call344 func344 rfl rfl
instance : Inl BA 345 := iM 31 [0,2] [] call345 func345 rfl rfl
instance : Inl BA 346 := iM 72 [0,1,4,5,6,7,8,12,23,29,38,64] [(7,[0,0,0,0,0,0,0])] call346 func346 rfl rfl
instance : Inl BA 347 := iM 52 [0,2,13,29,45] [] call347 func347 rfl rfl
instance : Inl BA 348 := iM 32 [0,2,8,17,27] [] call348 func348 rfl rfl
instance : Inl BA 349 := iM 29 [0,2,3,4,5,11,19,26] [] call349 func349 rfl rfl
instance : Inl BA 350 := iM 4 [0,1] [] call350 func350 rfl rfl
instance : Inl BA 352 := iM 20 [0,1,4] [] call352 func352 rfl rfl
instance : Inl BA 353 := iM 34 [0,1,4,5,6,7,11,17,33] [(8,[0,0,1,1,1,1,1,1,1,1,3,3,3])] call353 func353 rfl rfl
end
end Go.Vc

namespace Go.Vc
open Go.Proofs
set_option maxRecDepth 100000
set_option maxHeartbeats 40000000
set_option pp.deepTerms true
set_option pp.maxSteps 2000000
instance (priority := 5000) ZR_0 : FnM BA 154 [.loc 0 0,.loc 3 0] [(0,.box [.own 1,.own 2,.nils,.int .i64 5,.int .i64 0,.int .i64 0,.int .i64 0,.int .i64 0,.bool false,.bool false,.str [100,105,118]]),(1,.own qAC [((0 : Int),(0 : Int),([] : List UInt8),([] : List qAJ),([] : List UInt8),(-1 : Int),([1] : List Int)),((1 : Int),(0 : Int),([104,116,109,108] : List UInt8),([] : List qAJ),([] : List UInt8),(0 : Int),([] : List Int))]),(2,.own qAH [1]),(3,.box [.str (60 :: 108 :: 97 :: 98 :: 101 :: 108 :: 32 :: 102 :: 111 :: 114 :: 61 :: 97 :: 62 :: 60 :: 47 :: 108 :: 97 :: 98 :: 101 :: 108 :: 62 :: 60 :: 105 :: 110 :: 112 :: 117 :: 116 :: 32 :: 105 :: 100 :: 61 :: 97 :: 62 :: 60 :: 97 :: 32 :: 104 :: 114 :: 101 :: 102 :: 61 :: 35 :: 98 :: 62 :: 60 :: 47 :: 97 :: 62 :: [])])] True (.agg [.int .i64 1,.str [108,97,98,101,108],.rd qAP [([102,111,114],[97])],.bool false,.str []]) [(0,.box [.own 1,.own 2,.nils,.int .i64 5,.int .i64 0,.int .i64 0,.int .i64 0,.int .i64 0,.bool false,.bool false,.str [100,105,118]]),(1,.own qAC [((0 : Int),(0 : Int),([] : List UInt8),([] : List qAJ),([] : List UInt8),(-1 : Int),([1] : List Int)),((1 : Int),(0 : Int),([104,116,109,108] : List UInt8),([] : List qAJ),([] : List UInt8),(0 : Int),([] : List Int))]),(2,.own qAH [1]),(3,.box [.str [60,47,108,97,98,101,108,62,60,105,110,112,117,116,32,105,100,61,97,62,60,97,32,104,114,101,102,61,35,98,62,60,47,97,62]])] := by
 refine FnM.intro (N := 43) [0,1,4,5,10] [(3,[0,0,0,0,1,0,0,0,1,1,3,3,3,3]),(4,[0,0,0,0,7,0,0,0,0,4,4,4,4,4,4,4,4,4,4,4]),(3000004,[649,714,779,844,909,974,1039,1104,1169,1234])] 4 Tryz.call154 Tryz.func154 rfl rfl (by kernel_rfl) (fun hpre => ?_)
 repeat' ((conv => whnf);first|(with_reducible first|rfl|exact qAF|exact qAG)|exact True.intro|(intro hq;first|(exfalso;revert hq;decide +kernel)|clear hq|skip)|refine WA ?_ ?_|refine WF ?_|refine W1 rfl ?_ ?_|refine W2 rfl ?_ ?_|refine W3 rfl ?_ ?_|refine W4 ?_ ?_|refine W5 rfl ?_ ?_|refine W6 ?_ ?_|refine WN ?_|refine X1 (W1 rfl ?_ ?_)|refine X1 (W2 rfl ?_ ?_)|refine X2 (W7 rfl ?_ ?_)|refine X3 (W7 rfl ?_ ?_)|refine X4 (W7 rfl ?_ ?_)|refine X5 (W7 rfl ?_ ?_)|refine X7 (by conv => lhs;cbv) rfl ?_|refine X8 (by conv => lhs;cbv) ?_|refine LoopStop.ug 500 ?_|refine ZStop.dir ?_|(refine Ob.mk ?_;decide +kernel))
 all_goals (first | rfl | decide +kernel)
end Go.Vc

namespace Go.Vc
open Go.Proofs
set_option maxRecDepth 100000
set_option maxHeartbeats 40000000
set_option pp.deepTerms true
set_option pp.maxSteps 2000000
instance (priority := 5000) ZR_1 : FnM BA 155 [.loc 0 0,.loc 3 0] [(0,.box [.own 1,.own 2,.nils,.int .i64 5,.int .i64 0,.int .i64 0,.int .i64 0,.int .i64 0,.bool false,.bool false,.str [100,105,118]]),(1,.own qAC [((0 : Int),(0 : Int),([] : List UInt8),([] : List qAJ),([] : List UInt8),(-1 : Int),([1] : List Int)),((1 : Int),(0 : Int),([104,116,109,108] : List UInt8),([] : List qAJ),([] : List UInt8),(0 : Int),([] : List Int))]),(2,.own qAH [1]),(3,.box [.int .i64 1,.str [108,97,98,101,108],.rd qAP [([102,111,114],[97])],.bool false,.str []])] True (.bool false) [(0,.box [.own 1,.own 4,.nils,.int .i64 5,.int .i64 0,.int .i64 0,.int .i64 0,.int .i64 0,.bool false,.bool false,.str [100,105,118]]),(1,.own qAC [((0 : Int),(0 : Int),([] : List UInt8),([] : List qAJ),([] : List UInt8),(-1 : Int),([1] : List Int)),((1 : Int),(0 : Int),([104,116,109,108] : List UInt8),([] : List qAJ),([] : List UInt8),(0 : Int),([2] : List Int)),((1 : Int),(0 : Int),([108,97,98,101,108] : List UInt8),([([102,111,114],[97])] : List qAJ),([] : List UInt8),(1 : Int),([] : List Int))]),(4,.own qAH [1,2]),(3,.box [.int .i64 1,.str [108,97,98,101,108],.rd qAP [([102,111,114],[97])],.bool false,.str []])] := by
 refine FnM.intro (N := 57) [0,1,4,15,20,35,50] [] 4 Tryz.call155 Tryz.func155 rfl rfl (by kernel_rfl) (fun hpre => ?_)
 repeat' ((conv => whnf);first|(with_reducible first|rfl|exact qAF|exact qAG)|exact True.intro|(intro hq;first|(exfalso;revert hq;decide +kernel)|clear hq|skip)|refine WA ?_ ?_|refine WF ?_|refine W1 rfl ?_ ?_|refine W2 rfl ?_ ?_|refine W3 rfl ?_ ?_|refine W4 ?_ ?_|refine W5 rfl ?_ ?_|refine W6 ?_ ?_|refine WN ?_|refine X1 (W1 rfl ?_ ?_)|refine X1 (W2 rfl ?_ ?_)|refine X2 (W7 rfl ?_ ?_)|refine X3 (W7 rfl ?_ ?_)|refine X4 (W7 rfl ?_ ?_)|refine X5 (W7 rfl ?_ ?_)|refine X7 (by conv => lhs;cbv) rfl ?_|refine X8 (by conv => lhs;cbv) ?_|refine LoopStop.ug 500 ?_|refine ZStop.dir ?_|(refine Ob.mk ?_;decide +kernel))
 all_goals (first | rfl | decide +kernel)
end Go.Vc

namespace Go.Vc
open Go.Proofs
set_option maxRecDepth 100000
set_option maxHeartbeats 40000000
set_option pp.deepTerms true
set_option pp.maxSteps 2000000
instance (priority := 5000) ZR_2 : FnM BA 154 [.loc 0 0,.loc 3 0] [(0,.box [.own 1,.own 2,.nils,.int .i64 5,.int .i64 0,.int .i64 0,.int .i64 0,.int .i64 0,.bool false,.bool false,.str [100,105,118]]),(1,.own qAC [((0 : Int),(0 : Int),([] : List UInt8),([] : List qAJ),([] : List UInt8),(-1 : Int),([1] : List Int)),((1 : Int),(0 : Int),([104,116,109,108] : List UInt8),([] : List qAJ),([] : List UInt8),(0 : Int),([2] : List Int)),((1 : Int),(0 : Int),([108,97,98,101,108] : List UInt8),([([102,111,114],[97])] : List qAJ),([] : List UInt8),(1 : Int),([] : List Int))]),(2,.own qAH [1,2]),(3,.box [.str [60,47,108,97,98,101,108,62,60,105,110,112,117,116,32,105,100,61,97,62,60,97,32,104,114,101,102,61,35,98,62,60,47,97,62]])] True (.agg [.int .i64 2,.str [108,97,98,101,108],.nils,.bool false,.str []]) [(0,.box [.own 1,.own 2,.nils,.int .i64 5,.int .i64 0,.int .i64 0,.int .i64 0,.int .i64 0,.bool false,.bool false,.str [100,105,118]]),(1,.own qAC [((0 : Int),(0 : Int),([] : List UInt8),([] : List qAJ),([] : List UInt8),(-1 : Int),([1] : List Int)),((1 : Int),(0 : Int),([104,116,109,108] : List UInt8),([] : List qAJ),([] : List UInt8),(0 : Int),([2] : List Int)),((1 : Int),(0 : Int),([108,97,98,101,108] : List UInt8),([([102,111,114],[97])] : List qAJ),([] : List UInt8),(1 : Int),([] : List Int))]),(2,.own qAH [1,2]),(3,.box [.str [60,105,110,112,117,116,32,105,100,61,97,62,60,97,32,104,114,101,102,61,35,98,62,60,47,97,62]])] := by
 refine FnM.intro (N := 43) [0,1,4,5,10] [(3,[0,0,0,0,1,0,0,0,1,1,3,3,3,3]),(4,[0,0,0,0,7,0,0,0,0,4,4,4,4,4,4,4,4,4,4,4]),(3000004,[649,714,779,844,909,974,1039,1104,1169,1234])] 4 Tryz.call154 Tryz.func154 rfl rfl (by kernel_rfl) (fun hpre => ?_)
 repeat' ((conv => whnf);first|(with_reducible first|rfl|exact qAF|exact qAG)|exact True.intro|(intro hq;first|(exfalso;revert hq;decide +kernel)|clear hq|skip)|refine WA ?_ ?_|refine WF ?_|refine W1 rfl ?_ ?_|refine W2 rfl ?_ ?_|refine W3 rfl ?_ ?_|refine W4 ?_ ?_|refine W5 rfl ?_ ?_|refine W6 ?_ ?_|refine WN ?_|refine X1 (W1 rfl ?_ ?_)|refine X1 (W2 rfl ?_ ?_)|refine X2 (W7 rfl ?_ ?_)|refine X3 (W7 rfl ?_ ?_)|refine X4 (W7 rfl ?_ ?_)|refine X5 (W7 rfl ?_ ?_)|refine X7 (by conv => lhs;cbv) rfl ?_|refine X8 (by conv => lhs;cbv) ?_|refine LoopStop.ug 500 ?_|refine ZStop.dir ?_|(refine Ob.mk ?_;decide +kernel))
 all_goals (first | rfl | decide +kernel)
end Go.Vc

namespace Go.Vc
open Go.Proofs
set_option maxRecDepth 100000
set_option maxHeartbeats 40000000
set_option pp.deepTerms true
set_option pp.maxSteps 2000000
instance (priority := 5000) ZR_3 : FnM BA 155 [.loc 0 0,.loc 3 0] [(0,.box [.own 1,.own 2,.nils,.int .i64 5,.int .i64 0,.int .i64 0,.int .i64 0,.int .i64 0,.bool false,.bool false,.str [100,105,118]]),(1,.own qAC [((0 : Int),(0 : Int),([] : List UInt8),([] : List qAJ),([] : List UInt8),(-1 : Int),([1] : List Int)),((1 : Int),(0 : Int),([104,116,109,108] : List UInt8),([] : List qAJ),([] : List UInt8),(0 : Int),([2] : List Int)),((1 : Int),(0 : Int),([108,97,98,101,108] : List UInt8),([([102,111,114],[97])] : List qAJ),([] : List UInt8),(1 : Int),([] : List Int))]),(2,.own qAH [1,2]),(3,.box [.int .i64 2,.str [108,97,98,101,108],.nils,.bool false,.str []])] True (.bool false) [(0,.box [.own 1,.own 4,.nils,.int .i64 5,.int .i64 0,.int .i64 0,.int .i64 0,.int .i64 0,.bool false,.bool false,.str [100,105,118]]),(1,.own qAC [((0 : Int),(0 : Int),([] : List UInt8),([] : List qAJ),([] : List UInt8),(-1 : Int),([1] : List Int)),((1 : Int),(0 : Int),([104,116,109,108] : List UInt8),([] : List qAJ),([] : List UInt8),(0 : Int),([2] : List Int)),((1 : Int),(0 : Int),([108,97,98,101,108] : List UInt8),([([102,111,114],[97])] : List qAJ),([] : List UInt8),(1 : Int),([] : List Int))]),(4,.own qAH [1]),(3,.box [.int .i64 2,.str [108,97,98,101,108],.nils,.bool false,.str []])] := by
 refine FnM.intro (N := 57) [0,1,4,15,20,35,50] [] 4 Tryz.call155 Tryz.func155 rfl rfl (by kernel_rfl) (fun hpre => ?_)
 repeat' ((conv => whnf);first|(with_reducible first|rfl|exact qAF|exact qAG)|exact True.intro|(intro hq;first|(exfalso;revert hq;decide +kernel)|clear hq|skip)|refine WA ?_ ?_|refine WF ?_|refine W1 rfl ?_ ?_|refine W2 rfl ?_ ?_|refine W3 rfl ?_ ?_|refine W4 ?_ ?_|refine W5 rfl ?_ ?_|refine W6 ?_ ?_|refine WN ?_|refine X1 (W1 rfl ?_ ?_)|refine X1 (W2 rfl ?_ ?_)|refine X2 (W7 rfl ?_ ?_)|refine X3 (W7 rfl ?_ ?_)|refine X4 (W7 rfl ?_ ?_)|refine X5 (W7 rfl ?_ ?_)|refine X7 (by conv => lhs;cbv) rfl ?_|refine X8 (by conv => lhs;cbv) ?_|refine LoopStop.ug 500 ?_|refine ZStop.dir ?_|(refine Ob.mk ?_;decide +kernel))
 all_goals (first | rfl | decide +kernel)
end Go.Vc

namespace Go.Vc
open Go.Proofs
set_option maxRecDepth 100000
set_option maxHeartbeats 40000000
set_option pp.deepTerms true
set_option pp.maxSteps 2000000
instance (priority := 5000) ZR_4 : FnM BA 154 [.loc 0 0,.loc 3 0] [(0,.box [.own 1,.own 2,.nils,.int .i64 5,.int .i64 0,.int .i64 0,.int .i64 0,.int .i64 0,.bool false,.bool false,.str [100,105,118]]),(1,.own qAC [((0 : Int),(0 : Int),([] : List UInt8),([] : List qAJ),([] : List UInt8),(-1 : Int),([1] : List Int)),((1 : Int),(0 : Int),([104,116,109,108] : List UInt8),([] : List qAJ),([] : List UInt8),(0 : Int),([2] : List Int)),((1 : Int),(0 : Int),([108,97,98,101,108] : List UInt8),([([102,111,114],[97])] : List qAJ),([] : List UInt8),(1 : Int),([] : List Int))]),(2,.own qAH [1]),(3,.box [.str [60,105,110,112,117,116,32,105,100,61,97,62,60,97,32,104,114,101,102,61,35,98,62,60,47,97,62]])] True (.agg [.int .i64 1,.str [105,110,112,117,116],.rd qAP [([105,100],[97])],.bool false,.str []]) [(0,.box [.own 1,.own 2,.nils,.int .i64 5,.int .i64 0,.int .i64 0,.int .i64 0,.int .i64 0,.bool false,.bool false,.str [100,105,118]]),(1,.own qAC [((0 : Int),(0 : Int),([] : List UInt8),([] : List qAJ),([] : List UInt8),(-1 : Int),([1] : List Int)),((1 : Int),(0 : Int),([104,116,109,108] : List UInt8),([] : List qAJ),([] : List UInt8),(0 : Int),([2] : List Int)),((1 : Int),(0 : Int),([108,97,98,101,108] : List UInt8),([([102,111,114],[97])] : List qAJ),([] : List UInt8),(1 : Int),([] : List Int))]),(2,.own qAH [1]),(3,.box [.str [60,97,32,104,114,101,102,61,35,98,62,60,47,97,62]])] := by
 refine FnM.intro (N := 43) [0,1,4,5,10] [(3,[0,0,0,0,1,0,0,0,1,1,3,3,3,3]),(4,[0,0,0,0,7,0,0,0,0,4,4,4,4,4,4,4,4,4,4,4]),(3000004,[649,714,779,844,909,974,1039,1104,1169,1234])] 4 Tryz.call154 Tryz.func154 rfl rfl (by kernel_rfl) (fun hpre => ?_)
 repeat' ((conv => whnf);first|(with_reducible first|rfl|exact qAF|exact qAG)|exact True.intro|(intro hq;first|(exfalso;revert hq;decide +kernel)|clear hq|skip)|refine WA ?_ ?_|refine WF ?_|refine W1 rfl ?_ ?_|refine W2 rfl ?_ ?_|refine W3 rfl ?_ ?_|refine W4 ?_ ?_|refine W5 rfl ?_ ?_|refine W6 ?_ ?_|refine WN ?_|refine X1 (W1 rfl ?_ ?_)|refine X1 (W2 rfl ?_ ?_)|refine X2 (W7 rfl ?_ ?_)|refine X3 (W7 rfl ?_ ?_)|refine X4 (W7 rfl ?_ ?_)|refine X5 (W7 rfl ?_ ?_)|refine X7 (by conv => lhs;cbv) rfl ?_|refine X8 (by conv => lhs;cbv) ?_|refine LoopStop.ug 500 ?_|refine ZStop.dir ?_|(refine Ob.mk ?_;decide +kernel))
 all_goals (first | rfl | decide +kernel)
end Go.Vc

namespace Go.Vc
open Go.Proofs
set_option maxRecDepth 100000
set_option maxHeartbeats 40000000
set_option pp.deepTerms true
set_option pp.maxSteps 2000000
instance (priority := 5000) ZR_5 : FnM BA 155 [.loc 0 0,.loc 3 0] [(0,.box [.own 1,.own 2,.nils,.int .i64 5,.int .i64 0,.int .i64 0,.int .i64 0,.int .i64 0,.bool false,.bool false,.str [100,105,118]]),(1,.own qAC [((0 : Int),(0 : Int),([] : List UInt8),([] : List qAJ),([] : List UInt8),(-1 : Int),([1] : List Int)),((1 : Int),(0 : Int),([104,116,109,108] : List UInt8),([] : List qAJ),([] : List UInt8),(0 : Int),([2] : List Int)),((1 : Int),(0 : Int),([108,97,98,101,108] : List UInt8),([([102,111,114],[97])] : List qAJ),([] : List UInt8),(1 : Int),([] : List Int))]),(2,.own qAH [1]),(3,.box [.int .i64 1,.str [105,110,112,117,116],.rd qAP [([105,100],[97])],.bool false,.str []])] True (.bool false) [(0,.box [.own 1,.own 4,.nils,.int .i64 5,.int .i64 0,.int .i64 0,.int .i64 0,.int .i64 0,.bool false,.bool false,.str [100,105,118]]),(1,.own qAC [((0 : Int),(0 : Int),([] : List UInt8),([] : List qAJ),([] : List UInt8),(-1 : Int),([1] : List Int)),((1 : Int),(0 : Int),([104,116,109,108] : List UInt8),([] : List qAJ),([] : List UInt8),(0 : Int),([2,3] : List Int)),((1 : Int),(0 : Int),([108,97,98,101,108] : List UInt8),([([102,111,114],[97])] : List qAJ),([] : List UInt8),(1 : Int),([] : List Int)),((1 : Int),(0 : Int),([105,110,112,117,116] : List UInt8),([([105,100],[97])] : List qAJ),([] : List UInt8),(1 : Int),([] : List Int))]),(4,.own qAH [1]),(3,.box [.int .i64 1,.str [105,110,112,117,116],.rd qAP [([105,100],[97])],.bool false,.str []])] := by
 refine FnM.intro (N := 57) [0,1,4,15,20,35,50] [] 4 Tryz.call155 Tryz.func155 rfl rfl (by kernel_rfl) (fun hpre => ?_)
 repeat' ((conv => whnf);first|(with_reducible first|rfl|exact qAF|exact qAG)|exact True.intro|(intro hq;first|(exfalso;revert hq;decide +kernel)|clear hq|skip)|refine WA ?_ ?_|refine WF ?_|refine W1 rfl ?_ ?_|refine W2 rfl ?_ ?_|refine W3 rfl ?_ ?_|refine W4 ?_ ?_|refine W5 rfl ?_ ?_|refine W6 ?_ ?_|refine WN ?_|refine X1 (W1 rfl ?_ ?_)|refine X1 (W2 rfl ?_ ?_)|refine X2 (W7 rfl ?_ ?_)|refine X3 (W7 rfl ?_ ?_)|refine X4 (W7 rfl ?_ ?_)|refine X5 (W7 rfl ?_ ?_)|refine X7 (by conv => lhs;cbv) rfl ?_|refine X8 (by conv => lhs;cbv) ?_|refine LoopStop.ug 500 ?_|refine ZStop.dir ?_|(refine Ob.mk ?_;decide +kernel))
 all_goals (first | rfl | decide +kernel)
end Go.Vc

namespace Go.Vc
open Go.Proofs
set_option maxRecDepth 100000
set_option maxHeartbeats 40000000
set_option pp.deepTerms true
set_option pp.maxSteps 2000000
instance (priority := 5000) ZR_6 : FnM BA 154 [.loc 0 0,.loc 3 0] [(0,.box [.own 1,.own 2,.nils,.int .i64 5,.int .i64 0,.int .i64 0,.int .i64 0,.int .i64 0,.bool false,.bool false,.str [100,105,118]]),(1,.own qAC [((0 : Int),(0 : Int),([] : List UInt8),([] : List qAJ),([] : List UInt8),(-1 : Int),([1] : List Int)),((1 : Int),(0 : Int),([104,116,109,108] : List UInt8),([] : List qAJ),([] : List UInt8),(0 : Int),([2,3] : List Int)),((1 : Int),(0 : Int),([108,97,98,101,108] : List UInt8),([([102,111,114],[97])] : List qAJ),([] : List UInt8),(1 : Int),([] : List Int)),((1 : Int),(0 : Int),([105,110,112,117,116] : List UInt8),([([105,100],[97])] : List qAJ),([] : List UInt8),(1 : Int),([] : List Int))]),(2,.own qAH [1]),(3,.box [.str [60,97,32,104,114,101,102,61,35,98,62,60,47,97,62]])] True (.agg [.int .i64 1,.str [97],.rd qAP [([104,114,101,102],[35,98])],.bool false,.str []]) [(0,.box [.own 1,.own 2,.nils,.int .i64 5,.int .i64 0,.int .i64 0,.int .i64 0,.int .i64 0,.bool false,.bool false,.str [100,105,118]]),(1,.own qAC [((0 : Int),(0 : Int),([] : List UInt8),([] : List qAJ),([] : List UInt8),(-1 : Int),([1] : List Int)),((1 : Int),(0 : Int),([104,116,109,108] : List UInt8),([] : List qAJ),([] : List UInt8),(0 : Int),([2,3] : List Int)),((1 : Int),(0 : Int),([108,97,98,101,108] : List UInt8),([([102,111,114],[97])] : List qAJ),([] : List UInt8),(1 : Int),([] : List Int)),((1 : Int),(0 : Int),([105,110,112,117,116] : List UInt8),([([105,100],[97])] : List qAJ),([] : List UInt8),(1 : Int),([] : List Int))]),(2,.own qAH [1]),(3,.box [.str [60,47,97,62]])] := by
 refine FnM.intro (N := 43) [0,1,4,5,10] [(3,[0,0,0,0,1,0,0,0,1,1,3,3,3,3]),(4,[0,0,0,0,7,0,0,0,0,4,4,4,4,4,4,4,4,4,4,4]),(3000004,[649,714,779,844,909,974,1039,1104,1169,1234])] 4 Tryz.call154 Tryz.func154 rfl rfl (by kernel_rfl) (fun hpre => ?_)
 repeat' ((conv => whnf);first|(with_reducible first|rfl|exact qAF|exact qAG)|exact True.intro|(intro hq;first|(exfalso;revert hq;decide +kernel)|clear hq|skip)|refine WA ?_ ?_|refine WF ?_|refine W1 rfl ?_ ?_|refine W2 rfl ?_ ?_|refine W3 rfl ?_ ?_|refine W4 ?_ ?_|refine W5 rfl ?_ ?_|refine W6 ?_ ?_|refine WN ?_|refine X1 (W1 rfl ?_ ?_)|refine X1 (W2 rfl ?_ ?_)|refine X2 (W7 rfl ?_ ?_)|refine X3 (W7 rfl ?_ ?_)|refine X4 (W7 rfl ?_ ?_)|refine X5 (W7 rfl ?_ ?_)|refine X7 (by conv => lhs;cbv) rfl ?_|refine X8 (by conv => lhs;cbv) ?_|refine LoopStop.ug 500 ?_|refine ZStop.dir ?_|(refine Ob.mk ?_;decide +kernel))
 all_goals (first | rfl | decide +kernel)
end Go.Vc

namespace Go.Vc
open Go.Proofs
set_option maxRecDepth 100000
set_option maxHeartbeats 40000000
set_option pp.deepTerms true
set_option pp.maxSteps 2000000
instance (priority := 5000) ZR_7 : FnM BA 155 [.loc 0 0,.loc 3 0] [(0,.box [.own 1,.own 2,.nils,.int .i64 5,.int .i64 0,.int .i64 0,.int .i64 0,.int .i64 0,.bool false,.bool false,.str [100,105,118]]),(1,.own qAC [((0 : Int),(0 : Int),([] : List UInt8),([] : List qAJ),([] : List UInt8),(-1 : Int),([1] : List Int)),((1 : Int),(0 : Int),([104,116,109,108] : List UInt8),([] : List qAJ),([] : List UInt8),(0 : Int),([2,3] : List Int)),((1 : Int),(0 : Int),([108,97,98,101,108] : List UInt8),([([102,111,114],[97])] : List qAJ),([] : List UInt8),(1 : Int),([] : List Int)),((1 : Int),(0 : Int),([105,110,112,117,116] : List UInt8),([([105,100],[97])] : List qAJ),([] : List UInt8),(1 : Int),([] : List Int))]),(2,.own qAH [1]),(3,.box [.int .i64 1,.str [97],.rd qAP [([104,114,101,102],[35,98])],.bool false,.str []])] True (.bool false) [(0,.box [.own 1,.own 4,.own 5,.int .i64 5,.int .i64 0,.int .i64 0,.int .i64 0,.int .i64 0,.bool false,.bool false,.str [100,105,118]]),(1,.own qAC [((0 : Int),(0 : Int),([] : List UInt8),([] : List qAJ),([] : List UInt8),(-1 : Int),([1] : List Int)),((1 : Int),(0 : Int),([104,116,109,108] : List UInt8),([] : List qAJ),([] : List UInt8),(0 : Int),([2,3,4] : List Int)),((1 : Int),(0 : Int),([108,97,98,101,108] : List UInt8),([([102,111,114],[97])] : List qAJ),([] : List UInt8),(1 : Int),([] : List Int)),((1 : Int),(0 : Int),([105,110,112,117,116] : List UInt8),([([105,100],[97])] : List qAJ),([] : List UInt8),(1 : Int),([] : List Int)),((1 : Int),(0 : Int),([97] : List UInt8),([([104,114,101,102],[35,98])] : List qAJ),([] : List UInt8),(1 : Int),([] : List Int))]),(4,.own qAH [1,4]),(5,.own qAH [4]),(3,.box [.int .i64 1,.str [97],.rd qAP [([104,114,101,102],[35,98])],.bool false,.str []])] := by
 refine FnM.intro (N := 57) [0,1,4,15,20,35,50] [] 4 Tryz.call155 Tryz.func155 rfl rfl (by kernel_rfl) (fun hpre => ?_)
 repeat' ((conv => whnf);first|(with_reducible first|rfl|exact qAF|exact qAG)|exact True.intro|(intro hq;first|(exfalso;revert hq;decide +kernel)|clear hq|skip)|refine WA ?_ ?_|refine WF ?_|refine W1 rfl ?_ ?_|refine W2 rfl ?_ ?_|refine W3 rfl ?_ ?_|refine W4 ?_ ?_|refine W5 rfl ?_ ?_|refine W6 ?_ ?_|refine WN ?_|refine X1 (W1 rfl ?_ ?_)|refine X1 (W2 rfl ?_ ?_)|refine X2 (W7 rfl ?_ ?_)|refine X3 (W7 rfl ?_ ?_)|refine X4 (W7 rfl ?_ ?_)|refine X5 (W7 rfl ?_ ?_)|refine X7 (by conv => lhs;cbv) rfl ?_|refine X8 (by conv => lhs;cbv) ?_|refine LoopStop.ug 500 ?_|refine ZStop.dir ?_|(refine Ob.mk ?_;decide +kernel))
 all_goals (first | rfl | decide +kernel)
end Go.Vc

namespace Go.Vc
open Go.Proofs
set_option maxRecDepth 100000
set_option maxHeartbeats 40000000
set_option pp.deepTerms true
set_option pp.maxSteps 2000000
instance (priority := 5000) ZR_8 : FnM BA 154 [.loc 0 0,.loc 4 0] [(0,.box [.own 1,.own 2,.own 3,.int .i64 5,.int .i64 0,.int .i64 0,.int .i64 0,.int .i64 0,.bool false,.bool false,.str [100,105,118]]),(1,.own qAC [((0 : Int),(0 : Int),([] : List UInt8),([] : List qAJ),([] : List UInt8),(-1 : Int),([1] : List Int)),((1 : Int),(0 : Int),([104,116,109,108] : List UInt8),([] : List qAJ),([] : List UInt8),(0 : Int),([2,3,4] : List Int)),((1 : Int),(0 : Int),([108,97,98,101,108] : List UInt8),([([102,111,114],[97])] : List qAJ),([] : List UInt8),(1 : Int),([] : List Int)),((1 : Int),(0 : Int),([105,110,112,117,116] : List UInt8),([([105,100],[97])] : List qAJ),([] : List UInt8),(1 : Int),([] : List Int)),((1 : Int),(0 : Int),([97] : List UInt8),([([104,114,101,102],[35,98])] : List qAJ),([] : List UInt8),(1 : Int),([] : List Int))]),(2,.own qAH [1,4]),(3,.own qAH [4]),(4,.box [.str [60,47,97,62]])] True (.agg [.int .i64 2,.str [97],.nils,.bool false,.str []]) [(0,.box [.own 1,.own 2,.own 3,.int .i64 5,.int .i64 0,.int .i64 0,.int .i64 0,.int .i64 0,.bool false,.bool false,.str [100,105,118]]),(1,.own qAC [((0 : Int),(0 : Int),([] : List UInt8),([] : List qAJ),([] : List UInt8),(-1 : Int),([1] : List Int)),((1 : Int),(0 : Int),([104,116,109,108] : List UInt8),([] : List qAJ),([] : List UInt8),(0 : Int),([2,3,4] : List Int)),((1 : Int),(0 : Int),([108,97,98,101,108] : List UInt8),([([102,111,114],[97])] : List qAJ),([] : List UInt8),(1 : Int),([] : List Int)),((1 : Int),(0 : Int),([105,110,112,117,116] : List UInt8),([([105,100],[97])] : List qAJ),([] : List UInt8),(1 : Int),([] : List Int)),((1 : Int),(0 : Int),([97] : List UInt8),([([104,114,101,102],[35,98])] : List qAJ),([] : List UInt8),(1 : Int),([] : List Int))]),(2,.own qAH [1,4]),(3,.own qAH [4]),(4,.box [.str []])] := by
 refine FnM.intro (N := 43) [0,1,4,5,10] [(3,[0,0,0,0,1,0,0,0,1,1,3,3,3,3]),(4,[0,0,0,0,7,0,0,0,0,4,4,4,4,4,4,4,4,4,4,4]),(3000004,[649,714,779,844,909,974,1039,1104,1169,1234])] 5 Tryz.call154 Tryz.func154 rfl rfl (by kernel_rfl) (fun hpre => ?_)
 repeat' ((conv => whnf);first|(with_reducible first|rfl|exact qAF|exact qAG)|exact True.intro|(intro hq;first|(exfalso;revert hq;decide +kernel)|clear hq|skip)|refine WA ?_ ?_|refine WF ?_|refine W1 rfl ?_ ?_|refine W2 rfl ?_ ?_|refine W3 rfl ?_ ?_|refine W4 ?_ ?_|refine W5 rfl ?_ ?_|refine W6 ?_ ?_|refine WN ?_|refine X1 (W1 rfl ?_ ?_)|refine X1 (W2 rfl ?_ ?_)|refine X2 (W7 rfl ?_ ?_)|refine X3 (W7 rfl ?_ ?_)|refine X4 (W7 rfl ?_ ?_)|refine X5 (W7 rfl ?_ ?_)|refine X7 (by conv => lhs;cbv) rfl ?_|refine X8 (by conv => lhs;cbv) ?_|refine LoopStop.ug 500 ?_|refine ZStop.dir ?_|(refine Ob.mk ?_;decide +kernel))
 all_goals (first | rfl | decide +kernel)
end Go.Vc

namespace Go.Vc
open Go.Proofs
set_option maxRecDepth 100000
set_option maxHeartbeats 40000000
set_option pp.deepTerms true
set_option pp.maxSteps 2000000
instance (priority := 5000) ZR_9 : FnM BA 155 [.loc 0 0,.loc 4 0] [(0,.box [.own 1,.own 2,.own 3,.int .i64 5,.int .i64 0,.int .i64 0,.int .i64 0,.int .i64 0,.bool false,.bool false,.str [100,105,118]]),(1,.own qAC [((0 : Int),(0 : Int),([] : List UInt8),([] : List qAJ),([] : List UInt8),(-1 : Int),([1] : List Int)),((1 : Int),(0 : Int),([104,116,109,108] : List UInt8),([] : List qAJ),([] : List UInt8),(0 : Int),([2,3,4] : List Int)),((1 : Int),(0 : Int),([108,97,98,101,108] : List UInt8),([([102,111,114],[97])] : List qAJ),([] : List UInt8),(1 : Int),([] : List Int)),((1 : Int),(0 : Int),([105,110,112,117,116] : List UInt8),([([105,100],[97])] : List qAJ),([] : List UInt8),(1 : Int),([] : List Int)),((1 : Int),(0 : Int),([97] : List UInt8),([([104,114,101,102],[35,98])] : List qAJ),([] : List UInt8),(1 : Int),([] : List Int))]),(2,.own qAH [1,4]),(3,.own qAH [4]),(4,.box [.int .i64 2,.str [97],.nils,.bool false,.str []])] True (.bool false) [(0,.box [.own 1,.own 5,.nils,.int .i64 5,.int .i64 0,.int .i64 0,.int .i64 0,.int .i64 0,.bool false,.bool false,.str [100,105,118]]),(1,.own qAC [((0 : Int),(0 : Int),([] : List UInt8),([] : List qAJ),([] : List UInt8),(-1 : Int),([1] : List Int)),((1 : Int),(0 : Int),([104,116,109,108] : List UInt8),([] : List qAJ),([] : List UInt8),(0 : Int),([2,3,4] : List Int)),((1 : Int),(0 : Int),([108,97,98,101,108] : List UInt8),([([102,111,114],[97])] : List qAJ),([] : List UInt8),(1 : Int),([] : List Int)),((1 : Int),(0 : Int),([105,110,112,117,116] : List UInt8),([([105,100],[97])] : List qAJ),([] : List UInt8),(1 : Int),([] : List Int)),((1 : Int),(0 : Int),([97] : List UInt8),([([104,114,101,102],[35,98])] : List qAJ),([] : List UInt8),(1 : Int),([] : List Int))]),(5,.own qAH [1]),(4,.box [.int .i64 2,.str [97],.nils,.bool false,.str []])] := by
 refine FnM.intro (N := 57) [0,1,4,15,20,35,50] [] 5 Tryz.call155 Tryz.func155 rfl rfl (by kernel_rfl) (fun hpre => ?_)
 repeat' ((conv => whnf);first|(with_reducible first|rfl|exact qAF|exact qAG)|exact True.intro|(intro hq;first|(exfalso;revert hq;decide +kernel)|clear hq|skip)|refine WA ?_ ?_|refine WF ?_|refine W1 rfl ?_ ?_|refine W2 rfl ?_ ?_|refine W3 rfl ?_ ?_|refine W4 ?_ ?_|refine W5 rfl ?_ ?_|refine W6 ?_ ?_|refine WN ?_|refine X1 (W1 rfl ?_ ?_)|refine X1 (W2 rfl ?_ ?_)|refine X2 (W7 rfl ?_ ?_)|refine X3 (W7 rfl ?_ ?_)|refine X4 (W7 rfl ?_ ?_)|refine X5 (W7 rfl ?_ ?_)|refine X7 (by conv => lhs;cbv) rfl ?_|refine X8 (by conv => lhs;cbv) ?_|refine LoopStop.ug 500 ?_|refine ZStop.dir ?_|(refine Ob.mk ?_;decide +kernel))
 all_goals (first | rfl | decide +kernel)
end Go.Vc

namespace Go.Vc
open Go.Proofs
set_option maxRecDepth 100000
set_option maxHeartbeats 40000000
set_option pp.deepTerms true
set_option pp.maxSteps 2000000
instance (priority := 5000) ZR_10 : FnM BA 154 [.loc 0 0,.loc 3 0] [(0,.box [.own 1,.own 2,.nils,.int .i64 5,.int .i64 0,.int .i64 0,.int .i64 0,.int .i64 0,.bool false,.bool false,.str [100,105,118]]),(1,.own qAC [((0 : Int),(0 : Int),([] : List UInt8),([] : List qAJ),([] : List UInt8),(-1 : Int),([1] : List Int)),((1 : Int),(0 : Int),([104,116,109,108] : List UInt8),([] : List qAJ),([] : List UInt8),(0 : Int),([2,3,4] : List Int)),((1 : Int),(0 : Int),([108,97,98,101,108] : List UInt8),([([102,111,114],[97])] : List qAJ),([] : List UInt8),(1 : Int),([] : List Int)),((1 : Int),(0 : Int),([105,110,112,117,116] : List UInt8),([([105,100],[97])] : List qAJ),([] : List UInt8),(1 : Int),([] : List Int)),((1 : Int),(0 : Int),([97] : List UInt8),([([104,114,101,102],[35,98])] : List qAJ),([] : List UInt8),(1 : Int),([] : List Int))]),(2,.own qAH [1]),(3,.box [.str []])] True (.agg [.int .i64 0,.str [],.nils,.bool false,.str []]) [(0,.box [.own 1,.own 2,.nils,.int .i64 5,.int .i64 0,.int .i64 0,.int .i64 0,.int .i64 0,.bool false,.bool false,.str [100,105,118]]),(1,.own qAC [((0 : Int),(0 : Int),([] : List UInt8),([] : List qAJ),([] : List UInt8),(-1 : Int),([1] : List Int)),((1 : Int),(0 : Int),([104,116,109,108] : List UInt8),([] : List qAJ),([] : List UInt8),(0 : Int),([2,3,4] : List Int)),((1 : Int),(0 : Int),([108,97,98,101,108] : List UInt8),([([102,111,114],[97])] : List qAJ),([] : List UInt8),(1 : Int),([] : List Int)),((1 : Int),(0 : Int),([105,110,112,117,116] : List UInt8),([([105,100],[97])] : List qAJ),([] : List UInt8),(1 : Int),([] : List Int)),((1 : Int),(0 : Int),([97] : List UInt8),([([104,114,101,102],[35,98])] : List qAJ),([] : List UInt8),(1 : Int),([] : List Int))]),(2,.own qAH [1]),(3,.box [.str []])] := by
 refine FnM.intro (N := 43) [0,1,4,5,10] [(3,[0,0,0,0,1,0,0,0,1,1,3,3,3,3]),(4,[0,0,0,0,7,0,0,0,0,4,4,4,4,4,4,4,4,4,4,4]),(3000004,[649,714,779,844,909,974,1039,1104,1169,1234])] 4 Tryz.call154 Tryz.func154 rfl rfl (by kernel_rfl) (fun hpre => ?_)
 repeat' ((conv => whnf);first|(with_reducible first|rfl|exact qAF|exact qAG)|exact True.intro|(intro hq;first|(exfalso;revert hq;decide +kernel)|clear hq|skip)|refine WA ?_ ?_|refine WF ?_|refine W1 rfl ?_ ?_|refine W2 rfl ?_ ?_|refine W3 rfl ?_ ?_|refine W4 ?_ ?_|refine W5 rfl ?_ ?_|refine W6 ?_ ?_|refine WN ?_|refine X1 (W1 rfl ?_ ?_)|refine X1 (W2 rfl ?_ ?_)|refine X2 (W7 rfl ?_ ?_)|refine X3 (W7 rfl ?_ ?_)|refine X4 (W7 rfl ?_ ?_)|refine X5 (W7 rfl ?_ ?_)|refine X7 (by conv => lhs;cbv) rfl ?_|refine X8 (by conv => lhs;cbv) ?_|refine LoopStop.ug 500 ?_|refine ZStop.dir ?_|(refine Ob.mk ?_;decide +kernel))
 all_goals (first | rfl | decide +kernel)
end Go.Vc
