/- A part of the proof: lemmas and walks that the last text of the claim joins; no condition. -/
import Derived.Test.YtjnmepijcndcpaaGreatDoorRenameKeepsTG
import Derived.Test.YtjnmepijcndcpaaGreatDoorRenameKeepsVF
import Derived.Shelf.Spec.SlicesGrow
import Derived.Laws.AppendOwn
set_option linter.unusedVariables false
set_option linter.unusedSimpArgs false
set_option maxHeartbeats 8000000
namespace Go.Vc
open Go.Proofs
open Go.Vc.W
set_option maxRecDepth 10000
set_option maxHeartbeats 8000000
section
attribute [-instance] Go.Vc.W.f38 Go.Vc.W.f33 Go.Vc.W.f35 rWords rRWords
instance oFF (s : List UInt8) : FnM BB 94 [.str s,.fn 95 []] [] (s.length ≤ 100000) (.own 0) [(0,.own .str (spl s))] := by
 refine FnM.intro (N := 65) [0,1,4,5,6,7,8,9,10,11,14,15,16,21,23,33,36,47,48,49,50] [] 0 Tryz.call94 Tryz.func94 rfl rfl (by kernel_rfl) (fun hpre => ?_)
 repeat' ((conv => whnf);first|exact qR|intro _|refine WA ?_ ?_|refine WF ?_|refine W1 rfl ?_ ?_|refine W2 rfl ?_ ?_|refine W3 rfl ?_ ?_|refine W4 ?_ ?_|refine W5 rfl ?_ ?_|refine W6 ?_ ?_|refine WN ?_|refine X1 (W1 rfl ?_ ?_)|refine X1 (W2 rfl ?_ ?_)|refine X2 (W7 rfl ?_ ?_)|refine X3 (W7 rfl ?_ ?_)|refine X4 (W7 rfl ?_ ?_)|refine X5 (W7 rfl ?_ ?_))
 all_goals (try (conv => whnf))
 all_goals (try first|exact obA|refine Ob.mk ?_)
 repeat' ((conv => whnf);first|exact qR|intro _|refine WA ?_ ?_|refine WF ?_|refine W1 rfl ?_ ?_|refine W2 rfl ?_ ?_|refine W3 rfl ?_ ?_|refine W4 ?_ ?_|refine W5 rfl ?_ ?_|refine W6 ?_ ?_|refine WN ?_|refine X1 (W1 rfl ?_ ?_)|refine X1 (W2 rfl ?_ ?_)|refine X2 (W7 rfl ?_ ?_)|refine X3 (W7 rfl ?_ ?_)|refine X4 (W7 rfl ?_ ?_)|refine X5 (W7 rfl ?_ ?_))
 all_goals (try (conv => whnf))
 refine LoopStop.mk (α := FS) (fun a => [(5,.own 0),(6,.int .i64 a.start)]) (fun a => [(0,.own qs6 a.spans),(1,.iter s a.pos)]) 2 (FSok s) (fun a => s.length - a.pos) ⟨0,[], -1⟩ ⟨by simp,by simp [qEH],by simp,by simp;omega,by simp [qEH]⟩ ?_ (fun a ha => ?_)
 ·repeat' ((conv => whnf);first|exact qR|intro _|refine WA ?_ ?_|refine WF ?_|refine W1 rfl ?_ ?_|refine W2 rfl ?_ ?_|refine W3 rfl ?_ ?_|refine W4 ?_ ?_|refine W5 rfl ?_ ?_|refine W6 ?_ ?_|refine WN ?_|refine X1 (W1 rfl ?_ ?_)|refine X1 (W2 rfl ?_ ?_)|refine X2 (W7 rfl ?_ ?_)|refine X3 (W7 rfl ?_ ?_)|refine X4 (W7 rfl ?_ ?_)|refine X5 (W7 rfl ?_ ?_))
  all_goals (try (conv => whnf))
  all_goals (try rfl)
  all_goals trace_state
 ·have hl := ha.len
  have h1 := ha.hp
  have h2 := ha.hb
  repeat' ((conv => whnf);first|exact qR|intro _|refine WA ?_ ?_|refine WF ?_|refine W1 rfl ?_ ?_|refine W2 rfl ?_ ?_|refine W3 rfl ?_ ?_|refine W4 ?_ ?_|refine W5 rfl ?_ ?_|refine W6 ?_ ?_|refine WN ?_|refine X1 (W1 rfl ?_ ?_)|refine X1 (W2 rfl ?_ ?_)|refine X2 (W7 rfl ?_ ?_)|refine X3 (W7 rfl ?_ ?_)|refine X4 (W7 rfl ?_ ?_)|refine X5 (W7 rfl ?_ ?_))
  all_goals (try (conv => whnf))
  all_goals (try first|exact obA|refine Ob.mk ?_)
  all_goals (try simp only [ZA,ZB,ZC,ZD,ZE,ZF,ZG,ZH,ZI,ZJ,ZK,ZL,ZM,ZN,ZO,Int.toNat_natCast,UInt8.ofNat_toNat,cast_eq] at *)
  ·skip
   repeat' ((conv => whnf);first|exact qR|intro _|refine WA ?_ ?_|refine WF ?_|refine W1 rfl ?_ ?_|refine W2 rfl ?_ ?_|refine W3 rfl ?_ ?_|refine W4 ?_ ?_|refine W5 rfl ?_ ?_|refine W6 ?_ ?_|refine WN ?_|refine X1 (W1 rfl ?_ ?_)|refine X1 (W2 rfl ?_ ?_)|refine X2 (W7 rfl ?_ ?_)|refine X3 (W7 rfl ?_ ?_)|refine X4 (W7 rfl ?_ ?_)|refine X5 (W7 rfl ?_ ?_))
   all_goals (try (conv => whnf))
   all_goals (try first|exact obA|refine Ob.mk ?_)
   refine Rnd.mk ⟨⟨a.pos + (qEX s a.pos).2,a.spans ++ [(a.start,(a.pos:Int))], -a.start - 1⟩,?_,?_,?_⟩
   ·exact qe5 ha ‹_› ‹_› (by omega)
   ·have := (qDF s a.pos ‹_›).1;simp;omega
   ·repeat' ((conv => whnf);first|exact qR|intro _|refine WA ?_ ?_|refine WF ?_|refine W1 rfl ?_ ?_|refine W2 rfl ?_ ?_|refine W3 rfl ?_ ?_|refine W4 ?_ ?_|refine W5 rfl ?_ ?_|refine W6 ?_ ?_|refine WN ?_|refine X1 (W1 rfl ?_ ?_)|refine X1 (W2 rfl ?_ ?_)|refine X2 (W7 rfl ?_ ?_)|refine X3 (W7 rfl ?_ ?_)|refine X4 (W7 rfl ?_ ?_)|refine X5 (W7 rfl ?_ ?_))
    all_goals (try (conv => whnf))
    all_goals (try first|exact obA|refine Ob.mk ?_)
    all_goals (first | (rw [qUN _ (by omega)];done) | skip)
    all_goals trace_state
  ·have := (qDF s a.pos ‹_›).1
   refine Rnd.mk ⟨⟨a.pos + (qEX s a.pos).2,a.spans,a.start⟩,?_,?_,?_⟩
   ·exact qeF ha ‹_› ‹_› (by omega)
   ·simp;omega
   ·repeat' ((conv => whnf);first|exact qR|intro _|refine WA ?_ ?_|refine WF ?_|refine W1 rfl ?_ ?_|refine W2 rfl ?_ ?_|refine W3 rfl ?_ ?_|refine W4 ?_ ?_|refine W5 rfl ?_ ?_|refine W6 ?_ ?_|refine WN ?_|refine X1 (W1 rfl ?_ ?_)|refine X1 (W2 rfl ?_ ?_)|refine X2 (W7 rfl ?_ ?_)|refine X3 (W7 rfl ?_ ?_)|refine X4 (W7 rfl ?_ ?_)|refine X5 (W7 rfl ?_ ?_))
    all_goals (try (conv => whnf))
    all_goals (try first|exact obA|refine Ob.mk ?_)
    all_goals trace_state
  ·have := (qDF s a.pos ‹_›).1
   refine Rnd.mk ⟨⟨a.pos + (qEX s a.pos).2,a.spans,a.pos⟩,?_,?_,?_⟩
   ·exact qeT ha ‹_› ‹_› (by omega)
   ·simp;omega
   ·repeat' ((conv => whnf);first|exact qR|intro _|refine WA ?_ ?_|refine WF ?_|refine W1 rfl ?_ ?_|refine W2 rfl ?_ ?_|refine W3 rfl ?_ ?_|refine W4 ?_ ?_|refine W5 rfl ?_ ?_|refine W6 ?_ ?_|refine WN ?_|refine X1 (W1 rfl ?_ ?_)|refine X1 (W2 rfl ?_ ?_)|refine X2 (W7 rfl ?_ ?_)|refine X3 (W7 rfl ?_ ?_)|refine X4 (W7 rfl ?_ ?_)|refine X5 (W7 rfl ?_ ?_))
    all_goals (try (conv => whnf))
    all_goals (try first|exact obA|refine Ob.mk ?_)
    all_goals trace_state
  ·have := (qDF s a.pos ‹_›).1
   refine Rnd.mk ⟨⟨a.pos + (qEX s a.pos).2,a.spans,a.start⟩,?_,?_,?_⟩
   ·exact qeU ha ‹_› ‹_› (by omega)
   ·simp;omega
   ·repeat' ((conv => whnf);first|exact qR|intro _|refine WA ?_ ?_|refine WF ?_|refine W1 rfl ?_ ?_|refine W2 rfl ?_ ?_|refine W3 rfl ?_ ?_|refine W4 ?_ ?_|refine W5 rfl ?_ ?_|refine W6 ?_ ?_|refine WN ?_|refine X1 (W1 rfl ?_ ?_)|refine X1 (W2 rfl ?_ ?_)|refine X2 (W7 rfl ?_ ?_)|refine X3 (W7 rfl ?_ ?_)|refine X4 (W7 rfl ?_ ?_)|refine X5 (W7 rfl ?_ ?_))
    all_goals (try (conv => whnf))
    all_goals (try first|exact obA|refine Ob.mk ?_)
    all_goals trace_state
  ·skip
   have hh := qY0 ha ‹_› (by omega)
   have hlen : (a.spans ++ [(a.start,(s.length:Int))]).length ≤ s.length + 1 := by simp;omega
   revert hh hlen
   generalize a.spans ++ [(a.start,(s.length:Int))] = sp
   intro hh hlen
   repeat' ((conv => whnf);first|exact qR|intro _|refine WA ?_ ?_|refine WF ?_|refine W1 rfl ?_ ?_|refine W2 rfl ?_ ?_|refine W3 rfl ?_ ?_|refine W4 ?_ ?_|refine W5 rfl ?_ ?_|refine W6 ?_ ?_|refine WN ?_|refine X1 (W1 rfl ?_ ?_)|refine X1 (W2 rfl ?_ ?_)|refine X2 (W7 rfl ?_ ?_)|refine X3 (W7 rfl ?_ ?_)|refine X4 (W7 rfl ?_ ?_)|refine X5 (W7 rfl ?_ ?_))
   all_goals (try (conv => whnf))
   all_goals (try first|exact obA|refine Ob.mk ?_)
   repeat' ((conv => whnf);first|exact qR|intro _|refine WA ?_ ?_|refine WF ?_|refine W1 rfl ?_ ?_|refine W2 rfl ?_ ?_|refine W3 rfl ?_ ?_|refine W4 ?_ ?_|refine W5 rfl ?_ ?_|refine W6 ?_ ?_|refine WN ?_|refine X1 (W1 rfl ?_ ?_)|refine X1 (W2 rfl ?_ ?_)|refine X2 (W7 rfl ?_ ?_)|refine X3 (W7 rfl ?_ ?_)|refine X4 (W7 rfl ?_ ?_)|refine X5 (W7 rfl ?_ ?_))
   all_goals (try (conv => whnf))
   refine LoopStop.mk (α := Nat) (fun i => [(49,.int .i64 i)]) (fun i => [(3,.own .str (fin2 s sp i))]) 20 (fun i => i ≤ sp.length) (fun i => sp.length - i) 0 (by simp) ?_ (fun i hi => ?_)
   ·repeat' ((conv => whnf);first|exact qR|intro _|refine WA ?_ ?_|refine WF ?_|refine W1 rfl ?_ ?_|refine W2 rfl ?_ ?_|refine W3 rfl ?_ ?_|refine W4 ?_ ?_|refine W5 rfl ?_ ?_|refine W6 ?_ ?_|refine WN ?_|refine X1 (W1 rfl ?_ ?_)|refine X1 (W2 rfl ?_ ?_)|refine X2 (W7 rfl ?_ ?_)|refine X3 (W7 rfl ?_ ?_)|refine X4 (W7 rfl ?_ ?_)|refine X5 (W7 rfl ?_ ?_))
    all_goals (try (conv => whnf))
    all_goals (try rfl)
    all_goals trace_state
   ·repeat' ((conv => whnf);first|exact qR|intro _|refine WA ?_ ?_|refine WF ?_|refine W1 rfl ?_ ?_|refine W2 rfl ?_ ?_|refine W3 rfl ?_ ?_|refine W4 ?_ ?_|refine W5 rfl ?_ ?_|refine W6 ?_ ?_|refine WN ?_|refine X1 (W1 rfl ?_ ?_)|refine X1 (W2 rfl ?_ ?_)|refine X2 (W7 rfl ?_ ?_)|refine X3 (W7 rfl ?_ ?_)|refine X4 (W7 rfl ?_ ?_)|refine X5 (W7 rfl ?_ ?_))
    all_goals (try (conv => whnf))
    all_goals (try first|exact obA|refine Ob.mk ?_)
    all_goals (try simp only [ZA,ZB,ZC,ZD,ZE,ZF,ZG,ZH,ZI,ZJ,ZK,ZL,ZM,ZN,ZO,Int.toNat_natCast,UInt8.ofNat_toNat,cast_eq] at *)
    ·exact hh.2 _ (qHJ (by omega))
    ·rw [qDX s sp i hi];omega
    ·rw [qDX s sp i hi];omega
    ·skip
     have e := qJ4 s sp i (by omega)
     repeat' ((conv => whnf);first|exact qR|intro _|refine WA ?_ ?_|refine WF ?_|refine W1 rfl ?_ ?_|refine W2 rfl ?_ ?_|refine W3 rfl ?_ ?_|refine W4 ?_ ?_|refine W5 rfl ?_ ?_|refine W6 ?_ ?_|refine WN ?_|refine X1 (W1 rfl ?_ ?_)|refine X1 (W2 rfl ?_ ?_)|refine X2 (W7 rfl ?_ ?_)|refine X3 (W7 rfl ?_ ?_)|refine X4 (W7 rfl ?_ ?_)|refine X5 (W7 rfl ?_ ?_))
     all_goals (try (conv => whnf))
     all_goals (try first|exact obA|refine Ob.mk ?_)
     refine Rnd.mk ⟨i + 1,?_,?_,?_⟩
     ·omega
     ·omega
     ·repeat' ((conv => whnf);first|exact qR|intro _|refine WA ?_ ?_|refine WF ?_|refine W1 rfl ?_ ?_|refine W2 rfl ?_ ?_|refine W3 rfl ?_ ?_|refine W4 ?_ ?_|refine W5 rfl ?_ ?_|refine W6 ?_ ?_|refine WN ?_|refine X1 (W1 rfl ?_ ?_)|refine X1 (W2 rfl ?_ ?_)|refine X2 (W7 rfl ?_ ?_)|refine X3 (W7 rfl ?_ ?_)|refine X4 (W7 rfl ?_ ?_)|refine X5 (W7 rfl ?_ ?_))
      all_goals (try (conv => whnf))
      all_goals (try first|exact obA|refine Ob.mk ?_)
      all_goals (rw [← e];rfl)
    ·rw [qKH s sp i (by omega),hh.1]
  ·have hh := qYX ha ‹_› (by omega)
   have hlen : a.spans.length ≤ s.length + 1 := by omega
   revert hh hlen
   generalize a.spans = sp
   intro hh hlen
   repeat' ((conv => whnf);first|exact qR|intro _|refine WA ?_ ?_|refine WF ?_|refine W1 rfl ?_ ?_|refine W2 rfl ?_ ?_|refine W3 rfl ?_ ?_|refine W4 ?_ ?_|refine W5 rfl ?_ ?_|refine W6 ?_ ?_|refine WN ?_|refine X1 (W1 rfl ?_ ?_)|refine X1 (W2 rfl ?_ ?_)|refine X2 (W7 rfl ?_ ?_)|refine X3 (W7 rfl ?_ ?_)|refine X4 (W7 rfl ?_ ?_)|refine X5 (W7 rfl ?_ ?_))
   all_goals (try (conv => whnf))
   refine LoopStop.mk (α := Nat) (fun i => [(49,.int .i64 i)]) (fun i => [(2,.own .str (fin2 s sp i))]) 3 (fun i => i ≤ sp.length) (fun i => sp.length - i) 0 (by simp) ?_ (fun i hi => ?_)
   ·repeat' ((conv => whnf);first|exact qR|intro _|refine WA ?_ ?_|refine WF ?_|refine W1 rfl ?_ ?_|refine W2 rfl ?_ ?_|refine W3 rfl ?_ ?_|refine W4 ?_ ?_|refine W5 rfl ?_ ?_|refine W6 ?_ ?_|refine WN ?_|refine X1 (W1 rfl ?_ ?_)|refine X1 (W2 rfl ?_ ?_)|refine X2 (W7 rfl ?_ ?_)|refine X3 (W7 rfl ?_ ?_)|refine X4 (W7 rfl ?_ ?_)|refine X5 (W7 rfl ?_ ?_))
    all_goals (try (conv => whnf))
    all_goals (try rfl)
    all_goals trace_state
   ·repeat' ((conv => whnf);first|exact qR|intro _|refine WA ?_ ?_|refine WF ?_|refine W1 rfl ?_ ?_|refine W2 rfl ?_ ?_|refine W3 rfl ?_ ?_|refine W4 ?_ ?_|refine W5 rfl ?_ ?_|refine W6 ?_ ?_|refine WN ?_|refine X1 (W1 rfl ?_ ?_)|refine X1 (W2 rfl ?_ ?_)|refine X2 (W7 rfl ?_ ?_)|refine X3 (W7 rfl ?_ ?_)|refine X4 (W7 rfl ?_ ?_)|refine X5 (W7 rfl ?_ ?_))
    all_goals (try (conv => whnf))
    all_goals (try first|exact obA|refine Ob.mk ?_)
    all_goals (try simp only [ZA,ZB,ZC,ZD,ZE,ZF,ZG,ZH,ZI,ZJ,ZK,ZL,ZM,ZN,ZO,Int.toNat_natCast,UInt8.ofNat_toNat,cast_eq] at *)
    ·exact hh.2 _ (qHJ (by omega))
    ·rw [qDX s sp i hi];omega
    ·rw [qDX s sp i hi];omega
    ·skip
     have e := qJ4 s sp i (by omega)
     repeat' ((conv => whnf);first|exact qR|intro _|refine WA ?_ ?_|refine WF ?_|refine W1 rfl ?_ ?_|refine W2 rfl ?_ ?_|refine W3 rfl ?_ ?_|refine W4 ?_ ?_|refine W5 rfl ?_ ?_|refine W6 ?_ ?_|refine WN ?_|refine X1 (W1 rfl ?_ ?_)|refine X1 (W2 rfl ?_ ?_)|refine X2 (W7 rfl ?_ ?_)|refine X3 (W7 rfl ?_ ?_)|refine X4 (W7 rfl ?_ ?_)|refine X5 (W7 rfl ?_ ?_))
     all_goals (try (conv => whnf))
     all_goals (try first|exact obA|refine Ob.mk ?_)
     refine Rnd.mk ⟨i + 1,?_,?_,?_⟩
     ·omega
     ·omega
     ·repeat' ((conv => whnf);first|exact qR|intro _|refine WA ?_ ?_|refine WF ?_|refine W1 rfl ?_ ?_|refine W2 rfl ?_ ?_|refine W3 rfl ?_ ?_|refine W4 ?_ ?_|refine W5 rfl ?_ ?_|refine W6 ?_ ?_|refine WN ?_|refine X1 (W1 rfl ?_ ?_)|refine X1 (W2 rfl ?_ ?_)|refine X2 (W7 rfl ?_ ?_)|refine X3 (W7 rfl ?_ ?_)|refine X4 (W7 rfl ?_ ?_)|refine X5 (W7 rfl ?_ ?_))
      all_goals (try (conv => whnf))
      all_goals (try first|exact obA|refine Ob.mk ?_)
      all_goals (rw [← e];rfl)
    ·rw [qKH s sp i (by omega),hh.1]
instance oSplit (s : List UInt8) : FnM BB 68 [.str s] [] (s.length ≤ 100000) (.own 0) [(0,.own .str (spl s))] := by
 refine FnM.intro (N := 5) [0,2] [] 0 Tryz.call68 Tryz.func68 rfl rfl (by kernel_rfl) (fun hpre => ?_)
 all_goals exact vcA
instance oWords (kind : Int) (v : List UInt8) : FnM BB 40 [.int .i64 kind,.str v] [] (v.length ≤ 100000) (.own 0) [(0,.own .str (qAP kind v))] := by
 refine FnM.intro (N := 23) [0,1,4,5,6,8,12,20] [] 0 Tryz.call40 Tryz.func40 rfl rfl (by kernel_rfl) (fun hpre => ?_)
 repeat' ((conv => whnf);first|exact qR|intro _|refine WA ?_ ?_|refine WF ?_|refine W1 rfl ?_ ?_|refine W2 rfl ?_ ?_|refine W3 rfl ?_ ?_|refine W4 ?_ ?_|refine W5 rfl ?_ ?_|refine W6 ?_ ?_|refine WN ?_|refine X1 (W1 rfl ?_ ?_)|refine X1 (W2 rfl ?_ ?_)|refine X2 (W7 rfl ?_ ?_)|refine X3 (W7 rfl ?_ ?_)|refine X4 (W7 rfl ?_ ?_)|refine X5 (W7 rfl ?_ ?_))
 all_goals (try (conv => whnf))
 all_goals (try first|exact obA|refine Ob.mk ?_)
 all_goals (try simp only [ZA,ZB,ZC,ZD,ZE,ZF,ZG,ZH,ZI,ZJ,ZK,ZL,ZM,ZN,ZO,Bool.and_eq_false_iff,Bool.or_eq_false_iff,ge_iff_le,gt_iff_lt,Int.toNat_natCast,UInt8.ofNat_toNat,cast_eq] at *)
 all_goals (first | (simp [qAP, *];done) | (show SV.rd Ty.str _ = _;simp [qAP, *];done) | trace_state)
end
end Go.Vc

namespace Go.Vc.W
open Go.Proofs
set_option maxRecDepth 10000
def joinL : List (List UInt8) → List UInt8
 | [] => []
 | [w] => w
 | w :: r => w ++ 32 :: joinL r
end Go.Vc.W

namespace Go.Vc.W
open Go.Proofs
set_option maxRecDepth 100000
def clean (w : List UInt8) : Prop := ¬ w = [] ∧ ∀ c ∈ w,isSp c.toNat = false
theorem qWA (s : List UInt8) (i : Nat) (h : i ≤ s.length) : (∀ w ∈ (qEH s i).1,clean w) ∧ (∀ c ∈ (qEH s i).2,isSp c.toNat = false) ∧ ((qEH s i).1.map fun w => w.length + 1).sum + (qEH s i).2.length ≤ i := by
 induction i with
 | zero => simp [qEH]
 | succ i ih =>
  obtain ⟨h1,h2,h3⟩ := ih (by omega)
  have e := qCG s i (by omega)
  cases hc : isSp (s.getD i 0).toNat with
  | false =>
   rw [qFD hc] at e
   rw [e]
   refine ⟨h1,fun c hcm => ?_,by simp only [List.length_append,List.length_cons,List.length_nil];omega⟩
   rcases List.mem_append.1 hcm with hcm | hcm
   ·exact h2 c hcm
   ·rw [List.mem_singleton] at hcm;subst hcm;exact hc
  | true =>
   by_cases hw : (qEH s i).2 = []
   ·rw [qHD hc hw] at e
    rw [e]
    exact ⟨h1,by simp,by simp only [List.length_nil];omega⟩
   ·rw [qEJ hc hw] at e
    rw [e]
    refine ⟨fun w hm => ?_,by simp,?_⟩
    ·rcases List.mem_append.1 hm with hm | hm
     ·exact h1 w hm
     ·rw [List.mem_singleton] at hm;subst hm;exact ⟨hw,h2⟩
    ·simp only [List.map_append,List.sum_append,List.map_cons,List.map_nil,List.sum_cons,List.sum_nil,List.length_nil];omega
theorem qHC (s : List UInt8) : (∀ w ∈ spl s,clean w) ∧ ((spl s).map fun w => w.length + 1).sum ≤ s.length + 1 := by
 obtain ⟨h1,h2,h3⟩ := qWA s s.length (Nat.le_refl _)
 by_cases hw : (qEH s s.length).2 = []
 ·rw [qb6 (Nat.le_refl _) hw]
  exact ⟨h1,by omega⟩
 ·rw [qbV (Nat.le_refl _) hw]
  refine ⟨fun w hm => ?_,?_⟩
  ·rcases List.mem_append.1 hm with hm | hm
   ·exact h1 w hm
   ·rw [List.mem_singleton] at hm;subst hm;exact ⟨hw,h2⟩
  ·simp only [List.map_append,List.sum_append,List.map_cons,List.map_nil,List.sum_cons,List.sum_nil];omega
theorem qU7 (l : List (List UInt8)) : (joinL l).length ≤ (l.map fun w => w.length + 1).sum := by
 induction l with
 | nil => simp [joinL]
 | cons w r ih =>
  cases r with
  | nil => simp [joinL]
  | cons y r => simp only [joinL,List.length_append,List.length_cons,List.map_cons,List.sum_cons] at ih ⊢;omega
theorem qhP (l : List (List UInt8)) : l.length ≤ (l.map fun w => w.length + 1).sum := by
 induction l with
 | nil => simp
 | cons w r ih => simp only [List.map_cons,List.sum_cons,List.length_cons];omega
theorem qMB (w : List UInt8) (h : ∀ c ∈ w,isSp c.toNat = false) (acc : List (List UInt8)) (cur : List UInt8) : w.foldl qC0 (acc,cur) = (acc,cur ++ w) := by
 induction w generalizing cur with
 | nil => simp
 | cons c r ih =>
  rw [List.foldl_cons,qFD (h c (by simp)),ih fun x hx => h x (by simp [hx])]
  simp
theorem qY2 (l : List (List UInt8)) (h : ∀ w ∈ l,clean w) (acc : List (List UInt8)) : qQO ((joinL l).foldl qC0 (acc,[])) = acc ++ l := by
 induction l generalizing acc with
 | nil => simp [joinL,qQO]
 | cons w r ih =>
  have hw := h w (by simp)
  cases r with
  | nil =>
   show qQO (w.foldl qC0 (acc,[])) = _
   rw [qMB w hw.2]
   simp [qQO,hw.1]
  | cons y r =>
   show qQO ((w ++ 32 :: joinL (y :: r)).foldl qC0 (acc,[])) = _
   rw [List.foldl_append,qMB w hw.2,List.foldl_cons,List.nil_append,qEJ (by rfl) hw.1,ih (fun x hx => h x (by simp [hx]))]
   simp
theorem qbY (l : List (List UInt8)) (h : ∀ w ∈ l,clean w) : spl (joinL l) = l := by
 have := qY2 l h []
 rw [List.nil_append] at this
 exact this
end Go.Vc.W

namespace Go.Vc.W
open Go.Proofs
set_option maxRecDepth 10000
theorem qUA (l : List (List UInt8)) : Lib.join l [32] = joinL l := by
 induction l with
 | nil => rfl
 | cons x r ih =>
  cases r with
  | nil => simp [Lib.join,joinL]
  | cons y r => simp [Lib.join,joinL] at ih ⊢;first | exact ih | (rw [ih])
instance fSJoin (l : List (List UInt8)) : Fn BB 70 [.rd .str l,.str [32]] ((joinL l).length ≤ 1000000 ∧ l.length ≤ 1000000) (.str (joinL l)) := by
 refine Fn.liftB Tryz.call70 fun hp r β w vs hG m hl => ?_
 obtain ⟨hlen,hl⟩ := hl
 match vs,hlen with
 | [a,b],_ =>
  have h0 := hl 0 _ a rfl rfl
  have h1 := hl 1 _ b rfl rfl
  cases h1 with
  | str k =>
   rcases qbO m.vis h0 with ⟨e,x,c,rfl⟩ | ⟨bk,off,cap,rfl,h2,h3,h4,h5⟩
   ·subst e
    refine ⟨_,(Tryz.strings_Join_none x c _ w).mono fun e w' h => ⟨h.1,by rw [h.2];exact Go.RowKit.Below.refl _ _⟩,?_⟩
    exact .str (by simp [joinL])
   ·have e1 : (l.map fun x => (⟨x.toArray⟩ : ByteArray)).map (·.data.toList) = l := by simp [Function.comp_def]
    have := Tryz.strings_Join bk off cap (l.map fun x => ⟨x.toArray⟩) ⟨[(32:UInt8)].toArray⟩ w (fun j x hj => by
     rw [List.getElem?_map] at hj
     cases hq : l[j]? with
     | none => rw [hq] at hj;cases hj
     | some y => rw [hq] at hj;cases hj;exact h5 j y hq) h4 (by simp;omega) (by simpa using h2) (by rw [e1];show (Lib.join l [32]).length ≤ _;rw [qUA];omega)
    rw [e1,List.length_map] at this
    refine ⟨_,this,?_⟩
    have e2 : Lib.join l (ByteArray.mk [(32:UInt8)].toArray).data.toList = joinL l := qUA l
    rw [e2]
    exact .str (by omega)
instance fWJoin (l : List (List UInt8)) : Fn BB 41 [.rd .str l] ((joinL l).length ≤ 1000000 ∧ l.length ≤ 1000000) (.str (joinL l)) := by
 refine Fn.intro (N := 5) [0,2] [] Tryz.call41 Tryz.func41 rfl rfl (by kernel_rfl) (fun hpre => ?_)
 all_goals exact vcA
end Go.Vc.W

namespace Go.Vc
open Go.Proofs
open Go.Vc.W
set_option maxRecDepth 10000
set_option maxHeartbeats 8000000
abbrev qOT : List UInt8 := [105,100]
abbrev qRD : List UInt8 := [110,97,109,101]
def qRZ (p : List UInt8) (k s : Int) (nn nm v : List UInt8) : List UInt8 :=
 if nm = qOT ∨ nm = qRD then (if v = [] then [] else p ++ v)
 else if qAP (qCN k s nn nm) v = [] then v
 else if qCN k s nn nm = 3 then 35 :: (((qAP (qCN k s nn nm) v).map (p ++ ·)).getD 0 [])
 else joinL ((qAP (qCN k s nn nm) v).map (p ++ ·))
def qQ9 (p : List UInt8) (w : List (List UInt8)) (i : Nat) : List (List UInt8) := (w.take i).map (p ++ ·) ++ w.drop i
theorem qdR (p : List UInt8) (w : List (List UInt8)) (i : Nat) (h : i ≤ w.length) : (qQ9 p w i).length = w.length := by unfold qQ9;simp;omega
theorem qdQ (p : List UInt8) (w : List (List UInt8)) (i : Nat) (h : i < w.length) : (qQ9 p w i).set i (p ++ (qQ9 p w i).getD i []) = qQ9 p w (i + 1) := by
 have e : (qQ9 p w i).getD i [] = w.getD i [] := by
  unfold qQ9
  rw [List.getD_eq_getElem?_getD,List.getElem?_append_right (by simp;omega),List.getElem?_drop,List.getD_eq_getElem?_getD]
  congr 2;simp;omega
 rw [e]
 unfold qQ9
 have hd : w.drop i = w.getD i [] :: w.drop (i + 1) := by rw [List.drop_eq_getElem_cons h];simp [List.getD,List.getElem?_eq_getElem h]
 rw [hd,List.set_append_right _ _ (by simp;omega),take_snoc w i [] h,List.map_append,List.append_assoc]
 congr 1
 simp only [List.length_map,List.length_take,Nat.min_eq_left (Nat.le_of_lt h),Nat.sub_self,List.set_cons_zero,List.map_cons,List.map_nil,List.singleton_append]
theorem qdV (p : List UInt8) (w : List (List UInt8)) : qQ9 p w w.length = w.map (p ++ ·) := by unfold qQ9;simp
theorem qKL (kind : Int) (v : List UInt8) : ((qAP kind v).map fun w => w.length + 1).sum ≤ v.length + 1 := by
 unfold qAP
 have hf : (frL v).1.length ≤ v.length := by
  unfold frL
  cases qLV v [35] <;> simp
 split
 ·exact (qHC v).2
 ·split
  ·split <;> simp
  ·split
   ·split
    ·simp
    ·simp;exact hf
   ·simp
theorem qXW (w : List (List UInt8)) : w.length ≤ (w.map fun x => x.length + 1).sum ∧ ∀ x ∈ w,x.length ≤ (w.map fun x => x.length + 1).sum := by
 induction w with
 | nil => exact ⟨by simp,fun x h => by cases h⟩
 | cons a r ih =>
  refine ⟨by simp;omega,fun x hx => ?_⟩
  simp only [List.map_cons,List.sum_cons]
  rcases List.mem_cons.1 hx with rfl | hx
  ·omega
  ·have := ih.2 x hx;omega
theorem qYD (p : List UInt8) (w : List (List UInt8)) : ((w.map (p ++ ·)).map fun x => x.length + 1).sum = (w.map fun x => x.length + 1).sum + w.length * p.length := by
 induction w with
 | nil => simp
 | cons a r ih => simp only [List.map_cons,List.sum_cons,ih,List.length_append,List.length_cons,Nat.add_mul];omega
theorem qaZ {p v : List UInt8} (kind : Int) (hv : v.length ≤ 10000) (hp : p.length ≤ 60) :
  (joinL ((qAP kind v).map (p ++ ·))).length ≤ 1000000 ∧ (qAP kind v).length ≤ 10001 ∧ ∀ x ∈ qAP kind v,x.length ≤ 10001 := by
 have h1 := qKL kind v
 obtain ⟨h2,h3⟩ := qXW (qAP kind v)
 refine ⟨?_,by omega,fun x hx => by have := h3 x hx;omega⟩
 have h4 := qU7 ((qAP kind v).map (p ++ ·))
 rw [qYD] at h4
 have h5 : (qAP kind v).length * p.length ≤ 10001 * 60 := Nat.mul_le_mul (by omega) hp
 omega
theorem qaV {p : List UInt8} {k s : Int} {nn nm v : List UInt8} (h : (nm == [105,100] || nm == [110,97,109,101]) = true) : qRZ p k s nn nm v = if v = [] then [] else p ++ v := by
 unfold qRZ
 rw [Bool.or_eq_true,beq_iff_eq,beq_iff_eq] at h
 rw [if_pos h]
theorem qe9 {p : List UInt8} {k s : Int} {nn nm v : List UInt8} (h : (nm == [105,100] || nm == [110,97,109,101]) = false) : qRZ p k s nn nm v = if qAP (qCN k s nn nm) v = [] then v
 else if qCN k s nn nm = 3 then 35 :: (((qAP (qCN k s nn nm) v).map (p ++ ·)).getD 0 [])
 else joinL ((qAP (qCN k s nn nm) v).map (p ++ ·)) := by
 unfold qRZ
 rw [if_neg]
 intro q
 rw [← Bool.not_eq_true,Bool.or_eq_true,beq_iff_eq,beq_iff_eq] at h
 exact h q
theorem len0 {α : Type} {l : List α} : (((l.length : Int) == 0) = true → l = []) ∧ (((l.length : Int) == 0) = false → l ≠ []) := by
 refine ⟨fun h => List.eq_nil_of_length_eq_zero (by have := eq_of_beq h;omega),fun h e => ?_⟩
 subst e
 cases h
theorem qbX {p : List UInt8} {w : List (List UInt8)} {i : Nat} (hw : ∀ x ∈ w,x.length ≤ 10001) (hp : p.length ≤ 60) (j : Nat) : ((qQ9 p w i).getD j []).length ≤ 10061 := by
 rw [List.getD_eq_getElem?_getD]
 cases e : (qQ9 p w i)[j]? with
 | none => simp
 | some x =>
  have hx := List.mem_of_getElem? e
  unfold qQ9 at hx
  rcases List.mem_append.1 hx with h | h
  ·obtain ⟨y,hy,rfl⟩ := List.mem_map.1 h
   have := hw y (List.mem_of_mem_take hy)
   show (p ++ y).length ≤ _
   rw [List.length_append];omega
  ·have := hw x (List.mem_of_mem_drop h)
   show x.length ≤ _
   omega
section
attribute [-instance] rWords rRWords
instance eVal (p : List UInt8) (k s : Int) (nn : List UInt8) (at_ : List qAK) (d : List UInt8) (up : Int) (kids : List Int) (nm v : List UInt8) :
  Fn BB 17 [.str p,.agg [.int .i64 k,.int .i64 s,.str nn,.rd qAJ at_,.str d,.int .i64 up,.rd qAI kids],.agg [.str nm,.str v]] (nn.length ≤ 1000 ∧ v.length ≤ 10000 ∧ p.length ≤ 60) (.str (qRZ p k s nn nm v)) := by
 refine Fn.intro (N := 61) [0,1,2,4,5,6,7,8,9,17,20,35,39,40,41,54] [] Tryz.call17 Tryz.func17 rfl rfl (by kernel_rfl) (fun hpre => ?_)
 obtain ⟨h1,h2,h3⟩ := hpre
 repeat' ((conv => whnf);first|exact qR|intro _|refine WA ?_ ?_|refine WF ?_|refine W1 rfl ?_ ?_|refine W2 rfl ?_ ?_|refine W3 rfl ?_ ?_|refine W4 ?_ ?_|refine W5 rfl ?_ ?_|refine W6 ?_ ?_|refine WN ?_|refine X1 (W1 rfl ?_ ?_)|refine X1 (W2 rfl ?_ ?_)|refine X2 (W7 rfl ?_ ?_)|refine X3 (W7 rfl ?_ ?_)|refine X4 (W7 rfl ?_ ?_)|refine X5 (W7 rfl ?_ ?_))
 all_goals (try (conv => whnf))
 all_goals (try first|exact obA|refine Ob.mk ?_)
 ·rw [qaV ‹_›,if_neg]
  have h : (!v == []) = true := ‹_›
  simpa using h
 ·rw [qaV ‹_›,if_pos]
  have h : (!v == []) = false := ‹_›
  simpa using h
 ·rw [qe9 ‹_›,if_pos (len0.1 ‹_›)]
 have hs := qaZ (p := p) (v := v) (qCN k s nn nm) h2 h3
 have hne := len0.2 (by assumption : (((qAP (qCN k s nn nm) v).length : Int) == 0) = false)
 have hval : qRZ p k s nn nm v = _ := qe9 ‹_›
 rw [if_neg hne] at hval
 revert hs hne hval
 generalize qAP (qCN k s nn nm) v = w
 intro hs hne hval
 have hw0 : 0 < w.length := List.length_pos_iff.2 hne
 refine LoopStop.mk (α := Nat) (fun i => [(40,.int .i64 i)]) (fun i => [(2,.own .str (qQ9 p w i))]) 20 (fun i => i ≤ w.length) (fun i => w.length - i) 0 (Nat.zero_le _) ?_ (fun i hi => ?_)
 ·all_goals exact vcA
 ·have hl := qdR p w i hi
  have hm := fun j => qbX (i := i) hs.2.2 h3 j
  have hend : i = w.length → qQ9 p w i = w.map (p ++ ·) := fun e => by subst e;exact qdV p w
  repeat' ((conv => whnf);first|exact qR|intro _|refine WA ?_ ?_|refine WF ?_|refine W1 rfl ?_ ?_|refine W2 rfl ?_ ?_|refine W3 rfl ?_ ?_|refine W4 ?_ ?_|refine W5 rfl ?_ ?_|refine W6 ?_ ?_|refine WN ?_|refine X1 (W1 rfl ?_ ?_)|refine X1 (W2 rfl ?_ ?_)|refine X2 (W7 rfl ?_ ?_)|refine X3 (W7 rfl ?_ ?_)|refine X4 (W7 rfl ?_ ?_)|refine X5 (W7 rfl ?_ ?_))
  all_goals (try (conv => whnf))
  all_goals (try first|exact obA|refine Ob.mk ?_)
  all_goals (try simp only [ZA,ZB,ZC,ZD,ZE,ZF,ZG,ZH,ZI,ZJ,ZK,ZL,ZM,ZN,ZO,Int.toNat_natCast,UInt8.ofNat_toNat,cast_eq] at *)
  ·have := hm i
   show p.length + ((qQ9 p w i).getD i []).length ≤ _
   omega
  ·refine Rnd.mk ⟨i + 1,by omega,by omega,?_⟩
   rw [← qdQ p w i (by omega)]
   all_goals exact vcA
  all_goals (have e := hend (by omega))
  ·have := hm 0
   show 1 + ((qQ9 p w i).getD 0 []).length ≤ _
   omega
  ·rw [hval,if_pos (by assumption),e];rfl
  ·rw [e]
   exact ⟨hs.1,by rw [List.length_map];omega⟩
  ·rw [hval,if_neg (by assumption),e]
end
end Go.Vc

namespace Go.Vc
open Go.Proofs
open Go.Vc.W
set_option maxRecDepth 10000
set_option maxHeartbeats 8000000
noncomputable abbrev BO : Base := { BB with fo := true }
instance toO_fn {f : FuncId} {args : List SV} {pre : Prop} {res : SV} [h : Fn BB f args pre res] : Fn BO f args pre res := ⟨h.call,h.ok⟩
instance toO_fnM {f : FuncId} {args : List SV} {Φ : Phi} {pre : Prop} {res : SV} {Φ' : Phi} [h : FnM BB f args Φ pre res Φ'] : FnM BO f args Φ pre res Φ' := ⟨h.call,h.ok⟩
instance eCloneN (l : List qAG) : FnM BB 22 [.rd qAB l] [] (l.length ≤ 100000) (.own 0) [(0,.own qAB l)] := by
 refine FnM.intro (N := 8) [0,2,4] [] 1 Tryz.call22 Tryz.func22 rfl rfl (by kernel_rfl) (fun hpre => ?_)
 repeat' ((conv => whnf);first|exact qR|intro _|refine WA ?_ ?_|refine WF ?_|refine W1 rfl ?_ ?_|refine W2 rfl ?_ ?_|refine W3 rfl ?_ ?_|refine W4 ?_ ?_|refine W5 rfl ?_ ?_|refine W6 ?_ ?_|refine WN ?_|refine X1 (W1 rfl ?_ ?_)|refine X1 (W2 rfl ?_ ?_)|refine X2 (W7 rfl ?_ ?_)|refine X3 (W7 rfl ?_ ?_)|refine X4 (W7 rfl ?_ ?_)|refine X5 (W7 rfl ?_ ?_))
 all_goals (try (conv => whnf))
 all_goals (try first|exact obA|refine Ob.mk ?_)
 all_goals (try simp_all)
def qXI (p : List UInt8) (n : qAG) (a : qAK) : qAK := (a.1,qRZ p n.1 n.2.1 n.2.2.1 a.1 a.2)
def qOQ (p : List UInt8) (n : qAG) : qAG := (n.1,n.2.1,n.2.2.1,(if n.1 = 1 then n.2.2.2.1.map (qXI p n) else n.2.2.2.1),n.2.2.2.2.1,n.2.2.2.2.2.1,n.2.2.2.2.2.2)
def qLU (p : List UInt8) (t : List qAG) : List qAG := t.map (qOQ p)
def qFL {α : Type} (f : α → α) (l : List α) (i : Nat) : List α := (l.take i).map f ++ l.drop i
theorem qOW {α : Type} (f : α → α) (l : List α) (i : Nat) (h : i ≤ l.length) : (qFL f l i).length = l.length := by unfold qFL;simp;omega
theorem qPL {α : Type} (f : α → α) (l : List α) (i : Nat) (d : α) (h : i < l.length) : (qFL f l i).getD i d = l.getD i d := by
 unfold qFL
 rw [List.getD_eq_getElem?_getD,List.getElem?_append_right (by simp;omega),List.getElem?_drop,List.getD_eq_getElem?_getD]
 congr 2;simp;omega
theorem qP8 {α : Type} (f : α → α) (l : List α) (i : Nat) (d : α) (h : i < l.length) : (qFL f l i).set i (f (l.getD i d)) = qFL f l (i + 1) := by
 unfold qFL
 have hd : l.drop i = l.getD i d :: l.drop (i + 1) := by rw [List.drop_eq_getElem_cons h];simp [List.getD,List.getElem?_eq_getElem h]
 rw [hd,List.set_append_right _ _ (by simp;omega),take_snoc l i d h,List.map_append,List.append_assoc]
 congr 1
 simp only [List.length_map,List.length_take,Nat.min_eq_left (Nat.le_of_lt h),Nat.sub_self,List.set_cons_zero,List.map_cons,List.map_nil,List.singleton_append]
theorem qPD {α : Type} (f : α → α) (l : List α) : qFL f l l.length = l.map f := by unfold qFL;simp
theorem qfB {α : Type} (f : α → α) (l : List α) : qFL f l 0 = l := by unfold qFL;simp
theorem set_self {α : Type} (l : List α) (i : Nat) (d : α) (h : i < l.length) : l.set i (l.getD i d) = l := by
 rw [show l.getD i d = l[i] by simp [List.getD,List.getElem?_eq_getElem h]];exact List.set_getElem_self h
def qMU (p : List UInt8) (t : List qAG) : Prop := p.length ≤ 60 ∧ t.length ≤ 1000 ∧ ∀ n ∈ t,n.2.2.1.length ≤ 1000 ∧ n.2.2.2.1.length ≤ 1000 ∧ n.2.2.2.2.2.2.length ≤ 1000 ∧ ∀ a ∈ n.2.2.2.1,a.2.length ≤ 10000
theorem qM7 {α : Type} (l : List α) {k : Nat} (h : k < l.length) (d : α) : l.getD k d ∈ l := by
 rw [List.getD_eq_getElem?_getD,List.getElem?_eq_getElem h];exact List.getElem_mem _
theorem qjJ {p : List UInt8} {t : List qAG} (h : qMU p t) {i : Nat} (hi : i < t.length) : (t.getD i qAB.dflt).2.2.1.length ≤ 1000 ∧ (t.getD i qAB.dflt).2.2.2.1.length ≤ 1000 ∧ (t.getD i qAB.dflt).2.2.2.2.2.2.length ≤ 1000 ∧ ∀ k,k < (t.getD i qAB.dflt).2.2.2.1.length → ((t.getD i qAB.dflt).2.2.2.1.getD k qAJ.dflt).2.length ≤ 10000 := by
 have hm : t.getD i qAB.dflt ∈ t := by rw [List.getD_eq_getElem?_getD,List.getElem?_eq_getElem hi];exact List.getElem_mem _
 obtain ⟨h1,h2,h3,h4⟩ := h.2.2 _ hm
 exact ⟨h1,h2,h3,fun k hk => h4 _ (qM7 _ hk _)⟩
theorem qfH (L : List qAG) (i : Nat) (h : i < L.length) : L.set i ((L.getD i qAB.dflt).fst,(L.getD i qAB.dflt).snd.fst,(L.getD i qAB.dflt).snd.snd.fst,(L.getD i qAB.dflt).snd.snd.snd.fst,(L.getD i qAB.dflt).snd.snd.snd.snd.fst,(L.getD i qAB.dflt).snd.snd.snd.snd.snd.fst,(L.getD i qAB.dflt).snd.snd.snd.snd.snd.snd) = L := set_self L i qAB.dflt h
theorem qGY {p : List UInt8} {n : qAG} (h : ¬ n.1 = 1) : qOQ p n = n := by unfold qOQ;rw [if_neg h]
theorem qH3 {p : List UInt8} {n : qAG} (h : n.1 = 1) : qOQ p n = (n.1,n.2.1,n.2.2.1,n.2.2.2.1.map (qXI p n),n.2.2.2.2.1,n.2.2.2.2.2.1,n.2.2.2.2.2.2) := by unfold qOQ;rw [if_pos h]
instance eTreeO (p : List UInt8) (t : List qAG) : Fn BO 10 [.str p,.agg [.rd qAB t]] (qMU p t) (.agg [.rd qAB (qLU p t)]) := by
  refine Fn.intro (N := 73) [0,1,3,4,5,6,7,8,9,16,17,18,44,48,49,50,51] [(6,[0,0,0,0,0,1,2,0,0,0,1,3,0,0,3,0,0,3]),(11,[0,0,0,1,0,0,0,1,0,1,1,1,1,3,3,3])] Tryz.call10 Tryz.func10 rfl rfl (by kernel_rfl) (fun hpre => ?_)
  have hp := hpre
  obtain ⟨h1,h2,h3⟩ := hpre
  repeat' ((conv => whnf);first|exact qR|intro _|refine WA ?_ ?_|refine WF ?_|refine W1 rfl ?_ ?_|refine W2 rfl ?_ ?_|refine W3 rfl ?_ ?_|refine W4 ?_ ?_|refine W5 rfl ?_ ?_|refine W6 ?_ ?_|refine WN ?_|refine X1 (W1 rfl ?_ ?_)|refine X1 (W2 rfl ?_ ?_)|refine X2 (W7 rfl ?_ ?_)|refine X3 (W7 rfl ?_ ?_)|refine X4 (W7 rfl ?_ ?_)|refine X5 (W7 rfl ?_ ?_))
  all_goals (try (conv => whnf))
  all_goals (try first|exact obA|refine Ob.mk ?_)
  refine LoopStop.mk (α := Nat) (fun i => [(17,.int .i64 i)]) (fun i => [(2,.own qAB (qFL (qOQ p) t i))]) 20 (fun i => i ≤ t.length) (fun i => t.length - i) 0 (Nat.zero_le _) ?_ (fun i hi => ?_)
  · all_goals exact vcA
  · have hl := qOW (qOQ p) t i hi
    have hg := fun h : i < t.length => qPL (qOQ p) t i qAB.dflt h
    have hat := fun h : i < t.length => qjJ hp h
    have hset := fun h : i < t.length => qfH (qFL (qOQ p) t i) i (by omega)
    have hnext := fun h : i < t.length => qP8 (qOQ p) t i qAB.dflt h
    repeat' ((conv => whnf);first|exact qR|intro _|refine WA ?_ ?_|refine WF ?_|refine W1 rfl ?_ ?_|refine W2 rfl ?_ ?_|refine W3 rfl ?_ ?_|refine W4 ?_ ?_|refine W5 rfl ?_ ?_|refine W6 ?_ ?_|refine WN ?_|refine X1 (W1 rfl ?_ ?_)|refine X1 (W2 rfl ?_ ?_)|refine X2 (W7 rfl ?_ ?_)|refine X3 (W7 rfl ?_ ?_)|refine X4 (W7 rfl ?_ ?_)|refine X5 (W7 rfl ?_ ?_))
    all_goals (try (conv => whnf))
    all_goals (try first|exact obA|refine Ob.mk ?_)
    all_goals (try simp only [ZA,ZB,ZC,ZD,ZE,ZF,ZG,ZH,ZI,ZJ,ZK,ZL,ZM,ZN,ZO,Int.toNat_natCast,UInt8.ofNat_toNat,cast_eq] at *)
    · rw [hg (by omega)];have := (hat (by omega)).2.1;show (t.getD i qAB.dflt).2.2.2.1.length ≤ _;omega
    · rw [hg (by omega)];have := (hat (by omega)).2.2.1;show (t.getD i qAB.dflt).2.2.2.2.2.2.length ≤ _;omega
    · have hk0 : ¬ (t.getD i qAB.dflt).1 = 1 := by
        have h := ‹¬ (((qFL (qOQ p) t i).set i _).getD i qAB.dflt).fst = 1›
        rw [hset (by omega),hg (by omega)] at h
        exact h
      refine Rnd.mk ⟨i + 1,by omega,by omega,?_⟩
      repeat' ((conv => whnf);first|exact qR|intro _|refine WA ?_ ?_|refine WF ?_|refine W1 rfl ?_ ?_|refine W2 rfl ?_ ?_|refine W3 rfl ?_ ?_|refine W4 ?_ ?_|refine W5 rfl ?_ ?_|refine W6 ?_ ?_|refine WN ?_|refine X1 (W1 rfl ?_ ?_)|refine X1 (W2 rfl ?_ ?_)|refine X2 (W7 rfl ?_ ?_)|refine X3 (W7 rfl ?_ ?_)|refine X4 (W7 rfl ?_ ?_)|refine X5 (W7 rfl ?_ ?_))
      all_goals (try (conv => whnf))
      all_goals (try first|exact obA|refine Ob.mk ?_)
      all_goals
        simp only [cast_eq,hset (by omega)]
        rw [← hnext (by omega),qGY hk0, ← hg (by omega),set_self _ _ _ (by omega)]
    · have hk1 : (t.getD i qAB.dflt).1 = 1 := by
        have h := ‹(((qFL (qOQ p) t i).set i _).getD i qAB.dflt).fst = 1›
        rw [hset (by omega),hg (by omega)] at h
        exact h
      rename_i g _ _ _
      obtain ⟨q1,q2,q3,q4⟩ := hat (by omega)
      refine LoopStop.mk (α := Nat) (fun k => [(50,.int .i64 k)]) (fun k => [(20,.owg qAJ (qFL (qXI p (t.getD i qAB.dflt)) (t.getD i qAB.dflt).2.2.2.1 k) g)]) 40 (fun k => k ≤ (t.getD i qAB.dflt).2.2.2.1.length) (fun k => (t.getD i qAB.dflt).2.2.2.1.length - k) 0 (Nat.zero_le _) ?_ (fun k hk => ?_)
      · repeat' ((conv => whnf);first|exact qR|intro _|refine WA ?_ ?_|refine WF ?_|refine W1 rfl ?_ ?_|refine W2 rfl ?_ ?_|refine W3 rfl ?_ ?_|refine W4 ?_ ?_|refine W5 rfl ?_ ?_|refine W6 ?_ ?_|refine WN ?_|refine X1 (W1 rfl ?_ ?_)|refine X1 (W2 rfl ?_ ?_)|refine X2 (W7 rfl ?_ ?_)|refine X3 (W7 rfl ?_ ?_)|refine X4 (W7 rfl ?_ ?_)|refine X5 (W7 rfl ?_ ?_))
        all_goals (try (conv => whnf))
        all_goals (try first|exact obA|refine Ob.mk ?_)
        all_goals (rw [qfB,hg (by omega)])
      · have hl2 := qOW (qXI p (t.getD i qAB.dflt)) (t.getD i qAB.dflt).2.2.2.1 k hk
        have hg2 := fun h : k < (t.getD i qAB.dflt).2.2.2.1.length => qPL (qXI p (t.getD i qAB.dflt)) (t.getD i qAB.dflt).2.2.2.1 k qAJ.dflt h
        have hn2 := fun h : k < (t.getD i qAB.dflt).2.2.2.1.length => qP8 (qXI p (t.getD i qAB.dflt)) (t.getD i qAB.dflt).2.2.2.1 k qAJ.dflt h
        have hlen : List.length ((qFL (qOQ p) t i).getD i qAB.dflt).snd.snd.snd.fst = (t.getD i qAB.dflt).2.2.2.1.length := by rw [hg (by omega)]
        repeat' ((conv => whnf);first|exact qR|intro _|refine WA ?_ ?_|refine WF ?_|refine W1 rfl ?_ ?_|refine W2 rfl ?_ ?_|refine W3 rfl ?_ ?_|refine W4 ?_ ?_|refine W5 rfl ?_ ?_|refine W6 ?_ ?_|refine WN ?_|refine X1 (W1 rfl ?_ ?_)|refine X1 (W2 rfl ?_ ?_)|refine X2 (W7 rfl ?_ ?_)|refine X3 (W7 rfl ?_ ?_)|refine X4 (W7 rfl ?_ ?_)|refine X5 (W7 rfl ?_ ?_))
        all_goals (try (conv => whnf))
        all_goals (try first|exact obA|refine Ob.mk ?_)
        all_goals (try simp only [ZA,ZB,ZC,ZD,ZE,ZF,ZG,ZH,ZI,ZJ,ZK,ZL,ZM,ZN,ZO,Int.toNat_natCast,UInt8.ofNat_toNat,cast_eq] at *)
        all_goals (try (rw [hlen] at *))
        all_goals (try omega)
        · rw [hg2 (by omega)]
          exact ⟨q1,q4 k (by omega),h1⟩
        · refine Rnd.mk ⟨k + 1,by omega,by omega,?_⟩
          rw [← hn2 (by omega)]
          repeat' ((conv => whnf);first|exact qR|intro _|refine WA ?_ ?_|refine WF ?_|refine W1 rfl ?_ ?_|refine W2 rfl ?_ ?_|refine W3 rfl ?_ ?_|refine W4 ?_ ?_|refine W5 rfl ?_ ?_|refine W6 ?_ ?_|refine WN ?_|refine X1 (W1 rfl ?_ ?_)|refine X1 (W2 rfl ?_ ?_)|refine X2 (W7 rfl ?_ ?_)|refine X3 (W7 rfl ?_ ?_)|refine X4 (W7 rfl ?_ ?_)|refine X5 (W7 rfl ?_ ?_))
          all_goals (try (conv => whnf))
          all_goals (try first|exact obA|refine Ob.mk ?_)
          all_goals (try (rw [hg2 (by omega)]))
          all_goals (try rfl)
          all_goals trace_state
        all_goals
          have ek : k = (t.getD i qAB.dflt).2.2.2.1.length := by omega
          refine Rnd.mk ⟨i + 1,by omega,by omega,?_⟩
          repeat' ((conv => whnf);first|exact qR|intro _|refine WA ?_ ?_|refine WF ?_|refine W1 rfl ?_ ?_|refine W2 rfl ?_ ?_|refine W3 rfl ?_ ?_|refine W4 ?_ ?_|refine W5 rfl ?_ ?_|refine W6 ?_ ?_|refine WN ?_|refine X1 (W1 rfl ?_ ?_)|refine X1 (W2 rfl ?_ ?_)|refine X2 (W7 rfl ?_ ?_)|refine X3 (W7 rfl ?_ ?_)|refine X4 (W7 rfl ?_ ?_)|refine X5 (W7 rfl ?_ ?_))
          all_goals (try (conv => whnf))
          all_goals (try first|exact obA|refine Ob.mk ?_)
          all_goals
            simp only [cast_eq,hset (by omega)]
            rw [← hnext (by omega),qH3 hk1,hg (by omega),ek,qPD]
    all_goals
      have e : i = t.length := by omega
      subst e
      rw [qPD];rfl
end Go.Vc

namespace Go.Vc
open Go.Proofs
open Go.Vc.W
set_option maxRecDepth 10000
set_option maxHeartbeats 8000000
instance eTree (p : List UInt8) (t : List qAG) : Fn BB 10 [.str p,.agg [.rd qAB t]] (qMU p t) (.agg [.rd qAB (qLU p t)]) := ⟨(eTreeO p t).call,(eTreeO p t).ok⟩
end Go.Vc

namespace Go.Vc
open Go.Proofs
open Go.Vc.W
set_option maxRecDepth 10000
def qhL (p : List UInt8) : Prop := ∀ c ∈ p,isSp c.toNat = false
theorem qZG {p w : List UInt8} (hp : qhL p) (h : clean w) : clean (p ++ w) := by
 refine ⟨fun e => h.1 (List.append_eq_nil_iff.1 e).2,fun c hc => ?_⟩
 rcases List.mem_append.1 hc with q | q
 ·exact hp c q
 ·exact h.2 c q
theorem qbK (x : List UInt8) : frL (35 :: x) = (x,true) := by
 unfold frL
 rw [qXN];rfl
theorem qaB {p : List UInt8} (hp : qhL p) (k s : Int) (nn nm v : List UInt8) (hn : ¬ (nm = qOT ∨ nm = qRD)) :
  qAP (qCN k s nn nm) (qRZ p k s nn nm v) = (qAP (qCN k s nn nm) v).map (p ++ ·) := by
 unfold qRZ
 rw [if_neg hn]
 generalize qCN k s nn nm = kind
 by_cases hw : qAP kind v = []
 ·rw [if_pos hw,hw];rfl
 rw [if_neg hw]
 by_cases h3 : kind = 3
 ·subst h3
  rw [if_pos rfl]
  have e : qAP 3 v = [(frL v).1] := by
   unfold qAP at hw ⊢
   rw [if_neg (by decide),if_neg (by decide),if_pos rfl] at hw ⊢
   by_cases q : (frL v).1 = []
   ·rw [if_pos q] at hw;exact absurd rfl hw
   ·rw [if_neg q]
  have hne : (frL v).1 ≠ [] := fun q => by
   unfold qAP at hw
   rw [if_neg (by decide),if_neg (by decide),if_pos rfl,if_pos q] at hw
   exact hw rfl
  rw [e]
  show qAP 3 (35 :: (p ++ (frL v).1)) = [p ++ (frL v).1]
  unfold qAP
  rw [if_neg (by decide),if_neg (by decide),if_pos rfl,qbK,if_neg]
  exact fun q => hne (List.append_eq_nil_iff.1 q).2
 rw [if_neg h3]
 by_cases h2 : kind = 2
 ·subst h2
  show (if (2 : Int) = 2 then spl _ else _) = _
  rw [if_pos rfl]
  have e : qAP 2 v = spl v := by unfold qAP;rw [if_pos rfl]
  rw [e]
  exact qbY _ fun w hw => by
   obtain ⟨x,hx,rfl⟩ := List.mem_map.1 hw
   exact qZG hp ((qHC v).1 x hx)
 by_cases h1 : kind = 1
 ·subst h1
  have hne : v ≠ [] := fun q => by
   unfold qAP at hw
   rw [if_neg (by decide),if_pos rfl,if_pos q] at hw
   exact hw rfl
  have e : qAP 1 v = [v] := by unfold qAP;rw [if_neg (by decide),if_pos rfl,if_neg hne]
  rw [e]
  show qAP 1 (p ++ v) = [p ++ v]
  unfold qAP
  rw [if_neg (by decide),if_pos rfl,if_neg]
  exact fun q => hne (List.append_eq_nil_iff.1 q).2
 ·exact absurd (by unfold qAP;rw [if_neg h2,if_neg h1,if_neg h3]) hw
end Go.Vc

namespace Go.Vc
open Go.Proofs
open Go.Vc.W
set_option maxRecDepth 10000
set_option maxHeartbeats 4000000
instance jRMap (t : List qAG) (v : List UInt8) : Fn BB 48 [.agg [.rd qAB t],.str v] (qBB t 45 = true) (.int .i64 (qGZ t qY3 qcZ v)) := by
 refine Fn.intro (N := 8) [0,1,2,4] [] Tryz.call48 Tryz.func48 rfl rfl (by kernel_rfl) (fun hpre => ?_)
 repeat' ((conv => whnf);first|exact qR|intro _|refine WA ?_ ?_|refine WF ?_|refine W1 rfl ?_ ?_|refine W2 rfl ?_ ?_|refine W3 rfl ?_ ?_|refine W4 ?_ ?_|refine W5 rfl ?_ ?_|refine W6 ?_ ?_|refine WN ?_|refine X1 (W1 rfl ?_ ?_)|refine X1 (W2 rfl ?_ ?_)|refine X2 (W7 rfl ?_ ?_)|refine X3 (W7 rfl ?_ ?_)|refine X4 (W7 rfl ?_ ?_)|refine X5 (W7 rfl ?_ ?_))
 all_goals (try (conv => whnf))
 all_goals (try first|exact obA|refine Ob.mk ?_)
 all_goals (first | exact hpre | rfl | trace_state)
def qW7 (t : List qAG) (v : List UInt8) : Int := if firstT t v = 0 then qGZ t [97] qcZ v else firstT t v
instance jRTarget (t : List qAG) (v : List UInt8) : Fn BB 49 [.agg [.rd qAB t],.str v] (qBB t 45 = true) (.int .i64 (qW7 t v)) := by
 refine Fn.intro (N := 15) [0,1,2,4,5,10] [] Tryz.call49 Tryz.func49 rfl rfl (by kernel_rfl) (fun hpre => ?_)
 repeat' ((conv => whnf);first|exact qR|intro _|refine WA ?_ ?_|refine WF ?_|refine W1 rfl ?_ ?_|refine W2 rfl ?_ ?_|refine W3 rfl ?_ ?_|refine W4 ?_ ?_|refine W5 rfl ?_ ?_|refine W6 ?_ ?_|refine WN ?_|refine X1 (W1 rfl ?_ ?_)|refine X1 (W2 rfl ?_ ?_)|refine X2 (W7 rfl ?_ ?_)|refine X3 (W7 rfl ?_ ?_)|refine X4 (W7 rfl ?_ ?_)|refine X5 (W7 rfl ?_ ?_))
 all_goals (try (conv => whnf))
 all_goals (try first|exact obA|refine Ob.mk ?_)
 all_goals (try simp only [ZA,ZB,ZC,ZD,ZE,ZF,ZG,ZH,ZI,ZJ,ZK,ZL,ZM,ZN,ZO,Bool.and_eq_false_iff,Bool.or_eq_false_iff,ge_iff_le,gt_iff_lt,Int.toNat_natCast,UInt8.ofNat_toNat,cast_eq] at *)
 all_goals (first | exact hpre | exact ⟨hpre,by decide⟩ | (unfold qW7;rw [if_pos ‹_›]) | (unfold qW7;rw [if_neg ‹_›]) | trace_state)
theorem qcQ (t : List qAG) (el nm v : List UInt8) (ht : 0 < t.length) : 0 ≤ qGZ t el nm v ∧ qGZ t el nm v < t.length := by
 unfold qGZ
 by_cases h : v = []
 ·rw [if_pos h];omega
 ·rw [if_neg h]
  cases hf : (qCF t).find? fun i => qFB el nm v (nd t i) with
  | none => show 0 ≤ (0 : Int) ∧ (0 : Int) < _;omega
  | some x =>
   have hm := List.mem_of_find?_eq_some hf
   obtain ⟨j,hj,ej⟩ := List.mem_iff_getElem.1 hm
   have hi := qKD t j hj 0
   rw [List.getD_eq_getElem?_getD,List.getElem?_eq_getElem hj] at hi
   simp only [Option.getD_some,ej] at hi
   exact hi
def qOZ (t : List qAG) (i : Int) (nm : List UInt8) : Int := if ((nd t i).1 == 1 && (nd t i).2.1 == 0 && (nd t i).2.2.1 == nm) = true then i else 0
def qGM (n : qAG) (nm : List UInt8) : Int := qCN n.1 n.2.1 n.2.2.1 nm
def toN (t : List qAG) (i : Int) (nm w : List UInt8) : Int :=
 if 0 ≤ i ∧ i < t.length ∧ ¬ qGM (nd t i) nm = 0 then
  if nm = qT7 then qGZ t qY3 qcZ w else if nm = qNR then qW7 t w
  else if nm = qIX then qOZ t (firstT t w) qjR else if nm = qFF then qOZ t (firstT t w) qFF else firstT t w
 else 0
theorem qjW {i n : Int} (h : (decide (i < 0) || decide (i ≥ n)) = false) : 0 ≤ i ∧ i < n := by
 simp only [Bool.or_eq_false_iff,decide_eq_false_iff_not] at h
 omega
theorem quX {t : List qAG} {i : Int} {nm w : List UInt8} (h : (decide (i < 0) || decide (i ≥ (t.length : Int)) || qGM (nd t i) nm == 0) = true) : toN t i nm w = 0 := by
 simp only [Bool.or_eq_true,decide_eq_true_eq,beq_iff_eq] at h
 unfold toN
 rw [if_neg (fun q => by rcases h with (h | h) | h <;> first | exact q.2.2 h | omega)]
theorem qmB {t : List qAG} {i : Int} {nm w : List UInt8} (h : (decide (i < 0) || decide (i ≥ (t.length : Int)) || qGM (nd t i) nm == 0) = false) : (0 ≤ i ∧ i < t.length) ∧ toN t i nm w = (if nm = qT7 then qGZ t qY3 qcZ w else if nm = qNR then qW7 t w
  else if nm = qIX then qOZ t (firstT t w) qjR else if nm = qFF then qOZ t (firstT t w) qFF else firstT t w) := by
 simp only [Bool.or_eq_false_iff,decide_eq_false_iff_not,beq_eq_false_iff_ne] at h
 refine ⟨by omega,?_⟩
 unfold toN
 rw [if_pos ⟨by omega,by omega,h.2⟩]
theorem qdE (t : List qAG) (w : List UInt8) (ht : 0 < t.length) : 0 ≤ firstT t w ∧ firstT t w < t.length := qcQ t [] idT w ht
instance rRTo (t : List qAG) (i : Int) (nm w : List UInt8) : Fn BB 21 [.agg [.rd qAB t],.int .i64 i,.str nm,.str w] (qBB t 45 = true) (.int .i64 (toN t i nm w)) := by
 refine Fn.intro (N := 67) [0,1,2,3,4,8,9,28,30,35,65] [] Tryz.call21 Tryz.func21 rfl rfl (by kernel_rfl) (fun hpre => ?_)
 have hn : (decide (i < 0) || decide (i ≥ (t.length : Int)) || qGM (nd t i) nm == 0) = true → toN t i nm w = 0 := quX
 have hy : (decide (i < 0) || decide (i ≥ (t.length : Int)) || qGM (nd t i) nm == 0) = false → _ := qmB (w := w)
 have hi : (decide (i < 0) || decide (i ≥ (t.length : Int))) = false → (0 ≤ i ∧ i < t.length) ∧ (nd t i).2.2.1.length ≤ 1000 := fun h => ⟨qjW h,Nat.le_trans (qGA (qLR hpre i (qjW h))).1 (by decide)⟩
 have hk : qGM (nd t i) nm = qCN (nd t i).1 (nd t i).2.1 (nd t i).2.2.1 nm := rfl
 rw [hk] at hn hy
 repeat' ((conv => whnf);first|exact qR|intro _|refine WA ?_ ?_|refine WF ?_|refine W1 rfl ?_ ?_|refine W2 rfl ?_ ?_|refine W3 rfl ?_ ?_|refine W4 ?_ ?_|refine W5 rfl ?_ ?_|refine W6 ?_ ?_|refine WN ?_|refine X1 (W1 rfl ?_ ?_)|refine X1 (W2 rfl ?_ ?_)|refine X2 (W7 rfl ?_ ?_)|refine X3 (W7 rfl ?_ ?_)|refine X4 (W7 rfl ?_ ?_)|refine X5 (W7 rfl ?_ ?_))
 all_goals (try (conv => whnf))
 all_goals (try first|exact obA|refine Ob.mk ?_)
 all_goals (try (exact (hi ‹_›).1))
 all_goals (try (exact (hi ‹_›).2))
 all_goals (try (exact (hn ‹_›).symm))
 all_goals (have hq := hy ‹_›)
 all_goals (try (exact qdE t w (by have := hq.1;omega)))
 all_goals (rw [hq.2];clear hq hn hy hi hk)
 all_goals (try simp only [ZA,ZB,ZC,ZD,ZE,ZF,ZG,ZH,ZI,ZJ,ZK,ZL,ZM,ZN,ZO,Bool.and_eq_false_iff,Bool.or_eq_false_iff,ge_iff_le,gt_iff_lt,Int.toNat_natCast,UInt8.ofNat_toNat,cast_eq] at *)
 all_goals (try (simp [*];done))
 all_goals (
  generalize firstT t w = x at *
  rw [if_neg (by assumption),if_neg (by assumption)]
  unfold qOZ nd
  by_cases h1 : nm = qIX
  ·(subst h1;simp_all) <;> (try (intro p1 p2 p3;rename_i hA;rcases hA with (h | h) | h <;> first | exact absurd p1 h | exact absurd p2 h | exact absurd p3 h))
  ·by_cases h2 : nm = qFF
   ·(subst h2;simp_all) <;> (try (intro p1 p2 p3;rename_i hA;rcases hA with (h | h) | h <;> first | exact absurd p1 h | exact absurd p2 h | exact absurd p3 h))
   ·simp_all)
 all_goals trace_state
end Go.Vc

namespace Go.Vc
open Go.Proofs
open Go.Vc.W
set_option maxRecDepth 10000
set_option maxHeartbeats 4000000
abbrev qgW := qG5.T
def qB7 (n : qAG) (a : qAK) : List (List UInt8) := qAP (qGM n a.1) a.2
def qfR (t : List qAG) (i : Int) (a : qAK) (j : Nat) (w : List UInt8) : qgW := (i,a.1,(j : Int),w,toN t i a.1 w)
def qDB (t : List qAG) (i : Int) (a : qAK) : List qgW := (List.range (qB7 (nd t i) a).length).map fun j => qfR t i a j ((qB7 (nd t i) a).getD j [])
def qGG (t : List qAG) (i : Int) : List qgW := (nd t i).2.2.2.1.flatMap (qDB t i)
theorem qQL (t : List qAG) (i : Int) (a : qAK) : (qDB t i a).length = (qB7 (nd t i) a).length := by unfold qDB;rw [List.length_map,List.length_range]
theorem qX7 (t : List qAG) (i : Int) (a : qAK) {j : Nat} (h : j < (qB7 (nd t i) a).length) (d : qgW) : (qDB t i a).getD j d = qfR t i a j ((qB7 (nd t i) a).getD j []) := by
 unfold qDB
 rw [List.getD_eq_getElem?_getD,List.getElem?_map,List.getElem?_range h];rfl
theorem qfN {α : Type} (L : List α) {j : Nat} (h : j < L.length) (d : α) : L.take (j + 1) = L.take j ++ [L.getD j d] := by
 rw [List.take_succ_eq_append_getElem h,List.getD_eq_getElem?_getD,List.getElem?_eq_getElem h];rfl
theorem qZQ {α β : Type} (f : α → List β) (L : List α) {a : Nat} (h : a < L.length) (d : α) : (L.take (a + 1)).flatMap f = (L.take a).flatMap f ++ f (L.getD a d) := by
 rw [List.take_succ_eq_append_getElem h,List.flatMap_append]
 simp [List.getD,List.getElem?_eq_getElem h]
theorem qR5 {n : qAG} (h : qEV n = true) {a : Nat} (ha : a < n.2.2.2.1.length) (d : qAK) : (n.2.2.2.1.getD a d).1.length ≤ 40 ∧ (n.2.2.2.1.getD a d).2.length ≤ 4000 := by
 unfold qEV at h
 rw [Bool.and_eq_true] at h
 have h2 := h.2
 unfold qG9 at h2
 rw [Bool.and_eq_true,List.all_eq_true] at h2
 have hm : n.2.2.2.1.getD a d ∈ n.2.2.2.1 := by rw [List.getD_eq_getElem?_getD,List.getElem?_eq_getElem ha];exact List.getElem_mem _
 have := h2.2 _ hm
 simp only [Bool.and_eq_true,decide_eq_true_eq] at this
 omega
def ofT (t : List qAG) : List qgW := (qCF t).flatMap (qGG t)
theorem qWU (kind : Int) (v : List UInt8) : (qAP kind v).length ≤ v.length + 1 := by
 unfold qAP
 repeat' split
 ·exact Nat.le_trans (qhP _) (qHC v).2
 all_goals simp
theorem qeV {α β : Type} (f : α → List β) {m : Nat} : ∀ L : List α,(∀ x ∈ L,(f x).length ≤ m) → (L.flatMap f).length ≤ L.length * m := by
 intro L
 induction L with
 | nil => intro _;simp
 | cons a L ih =>
  intro h
  rw [List.flatMap_cons,List.length_append,List.length_cons,Nat.succ_mul]
  have := h a List.mem_cons_self
  have := ih fun x hx => h x (List.mem_cons_of_mem _ hx)
  omega
theorem qXZ {t : List qAG} {i : Int} (h : qEV (nd t i) = true) : (qGG t i).length ≤ 14 * 4001 := by
 have h1 := (qGA h).2.1
 refine Nat.le_trans (qeV (m := 4001) _ _ fun a ha => ?_) (Nat.mul_le_mul_right _ h1)
 obtain ⟨j,hj,e⟩ := List.mem_iff_getElem.1 ha
 have h2 := qR5 h hj ([],[])
 rw [List.getD_eq_getElem?_getD,List.getElem?_eq_getElem hj] at h2
 simp only [Option.getD_some,e] at h2
 rw [qQL]
 exact Nat.le_trans (qWU _ _) (by omega)
theorem qVN {t : List qAG} {i : Int} (h : i ∈ qCF t) : 0 ≤ i ∧ i < t.length := by
 obtain ⟨j,hj,e⟩ := List.mem_iff_getElem.1 h
 have hi := qKD t j hj 0
 rw [List.getD_eq_getElem?_getD,List.getElem?_eq_getElem hj] at hi
 simp only [Option.getD_some,e] at hi
 exact hi
theorem qf0 {t : List qAG} (h : qBB t 45 = true) (k : Nat) : (((qCF t).take k).flatMap (qGG t)).length ≤ 45 * (14 * 4001) := by
 have hl := qYI h
 have h2 := qZ4 t
 refine Nat.le_trans (qeV (m := 14 * 4001) _ _ fun a ha => qXZ (qLR h a (qVN (List.mem_of_mem_take ha)))) (Nat.mul_le_mul_right _ ?_)
 rw [List.length_take];omega
end Go.Vc

namespace Go.Vc
open Go.Proofs
open Go.Vc.W
set_option maxRecDepth 10000
theorem qa3 (p : List UInt8) : qOQ p qAB.dflt = qAB.dflt := qGY (by decide)
theorem qVA (p : List UInt8) (t : List qAG) (j : Nat) : (qLU p t).getD j qAB.dflt = qOQ p (t.getD j qAB.dflt) := by
 unfold qLU
 rw [List.getD_eq_getElem?_getD,List.getElem?_map,List.getD_eq_getElem?_getD]
 cases t[j]? with
 | none => exact (qa3 p).symm
 | some x => rfl
theorem qMJ (p : List UInt8) (t : List qAG) (i : Int) : nd (qLU p t) i = qOQ p (nd t i) := qVA p t _
theorem qTC (p : List UInt8) (t : List qAG) : (qLU p t).length = t.length := List.length_map _
theorem qbM (p : List UInt8) (t : List qAG) : qAC (qLU p t) = qAC t := by
 funext i
 unfold qAC
 rw [qVA];rfl
theorem qT9 (p : List UInt8) (t : List qAG) : qCF (qLU p t) = qCF t := by
 unfold qCF
 show qCM (qYE (qAC (qLU p t)) (qLU p t).length).L = qCM (qYE (qAC t) t.length).L
 rw [qbM,qTC]
theorem qiA {p : List UInt8} {k s : Int} {nn nm v : List UInt8} (h : nm = qOT ∨ nm = qRD) : qRZ p k s nn nm v = if v = [] then [] else p ++ v := by
 unfold qRZ
 rw [if_pos h]
theorem qdO (p : List UInt8) (n : qAG) {nm v : List UInt8} (h : nm = qOT ∨ nm = qRD) (hv : v ≠ []) : (qVF (n.2.2.2.1.map (qXI p n)) nm == p ++ v) = (qVF n.2.2.2.1 nm == v) := by
 unfold qVF
 rw [List.find?_map]
 have e : (qM4 nm ∘ qXI p n) = qM4 nm := by funext a;rfl
 rw [e]
 cases hf : n.2.2.2.1.find? (qM4 nm) with
 | none =>
  show (([] : List UInt8) == p ++ v) = (([] : List UInt8) == v)
  rw [beq_eq_false_iff_ne.2,beq_eq_false_iff_ne.2]
  ·exact fun q => hv q.symm
  ·exact fun q => hv (List.append_eq_nil_iff.1 q.symm).2
 | some a =>
  have ha : a.1 = nm := by
   have := List.find?_some hf
   unfold qM4 at this
   simpa using this
  show (qRZ p n.1 n.2.1 n.2.2.1 a.1 a.2 == p ++ v) = (a.2 == v)
  rw [ha,qiA h]
  by_cases q : a.2 = []
  ·rw [if_pos q,q,beq_eq_false_iff_ne.2,beq_eq_false_iff_ne.2]
   ·exact fun q => hv q.symm
   ·exact fun q => hv (List.append_eq_nil_iff.1 q.symm).2
  ·rw [if_neg q,Bool.eq_iff_iff,beq_iff_eq,beq_iff_eq,List.append_cancel_left_eq]
theorem qW6 (p el : List UInt8) {nm v : List UInt8} (h : nm = qOT ∨ nm = qRD) (hv : v ≠ []) (n : qAG) : qFB el nm (p ++ v) (qOQ p n) = qFB el nm v n := by
 by_cases hk : n.1 = 1
 ·unfold qFB
  rw [qH3 hk]
  show (n.1 == 1 && ((el == []) || (n.2.1 == 0 && n.2.2.1 == el)) && (qVF (n.2.2.2.1.map (qXI p n)) nm == p ++ v)) = _
  rw [qdO p n h hv]
 ·unfold qFB
  rw [qGY hk,beq_eq_false_iff_ne.2 hk];rfl
theorem qKR (p : List UInt8) (t : List qAG) (el : List UInt8) {nm v : List UInt8} (h : nm = qOT ∨ nm = qRD) (hv : v ≠ []) : qGZ (qLU p t) el nm (p ++ v) = qGZ t el nm v := by
 unfold qGZ
 rw [if_neg hv,if_neg (fun q => hv (List.append_eq_nil_iff.1 q).2),qT9]
 congr 2
 funext i
 rw [qMJ,qW6 p el h hv]
theorem qW2 (p : List UInt8) (t : List qAG) {v : List UInt8} (hv : v ≠ []) : firstT (qLU p t) (p ++ v) = firstT t v := qKR p t [] (.inl rfl) hv
theorem qQH (p : List UInt8) (t : List qAG) (i : Int) (nm : List UInt8) : qOZ (qLU p t) i nm = qOZ t i nm := by
 unfold qOZ
 rw [qMJ];rfl
theorem qgS (p : List UInt8) (t : List qAG) (i : Int) (nm : List UInt8) {w : List UInt8} (hw : w ≠ []) : toN (qLU p t) i nm (p ++ w) = toN t i nm w := by
 unfold toN qW7
 rw [qTC,qMJ,qKR p t _ (.inr rfl) hw,qKR p t _ (.inr rfl) hw,qW2 p t hw,qQH,qQH]
 rfl
theorem qgX {k s : Int} {nn nm : List UInt8} (h : nm = qOT ∨ nm = qRD) : qCN k s nn nm = 0 := by
 unfold qCN
 rcases h with rfl | rfl
 all_goals
  split
  ·rfl
  ·rw [if_neg (by decide),if_neg (by decide),if_neg (by decide),if_neg (by decide)]
theorem qR7 (v : List UInt8) : qAP 0 v = [] := by unfold qAP;rw [if_neg (by decide),if_neg (by decide),if_neg (by decide)]
theorem qbL (kind : Int) (v : List UInt8) : ∀ w ∈ qAP kind v,w ≠ [] := by
 intro w hw
 unfold qAP at hw
 split at hw
 ·exact ((qHC v).1 w hw).1
 ·split at hw
  ·split at hw
   ·cases hw
   ·rename_i h;rw [List.mem_singleton.1 hw];exact h
  ·split at hw
   ·split at hw
    ·cases hw
    ·rename_i h;rw [List.mem_singleton.1 hw];exact h
   ·cases hw
def qhR (p : List UInt8) (r : qgW) : qgW := (r.1,r.2.1,r.2.2.1,p ++ r.2.2.2.1,r.2.2.2.2)
theorem qWB {p : List UInt8} (hp : qhL p) (n : qAG) (a : qAK) : qB7 (qOQ p n) (qXI p n a) = (qB7 n a).map (p ++ ·) := by
 unfold qB7
 show qAP (qCN n.1 n.2.1 n.2.2.1 a.1) (qRZ p n.1 n.2.1 n.2.2.1 a.1 a.2) = (qAP (qCN n.1 n.2.1 n.2.2.1 a.1) a.2).map (p ++ ·)
 by_cases h : a.1 = qOT ∨ a.1 = qRD
 ·rw [qgX h,qR7,qR7];rfl
 ·exact qaB hp _ _ _ _ _ h
theorem qZO {p : List UInt8} (hp : qhL p) (t : List qAG) (i : Int) (a : qAK) : qDB (qLU p t) i (qXI p (nd t i) a) = (qDB t i a).map (qhR p) := by
 unfold qDB
 rw [qMJ,qWB hp,List.length_map,List.map_map]
 refine List.map_congr_left fun j hj => ?_
 have hj := List.mem_range.1 hj
 have e : ((qB7 (nd t i) a).map (p ++ ·)).getD j [] = p ++ (qB7 (nd t i) a).getD j [] := by
  rw [List.getD_eq_getElem?_getD,List.getElem?_map,List.getElem?_eq_getElem hj,List.getD_eq_getElem?_getD,List.getElem?_eq_getElem hj];rfl
 rw [e]
 unfold qfR
 have hne : (qB7 (nd t i) a).getD j [] ≠ [] := qbL _ _ _ (qM7 _ hj _)
 show (i,a.1,(j : Int),p ++ _,toN (qLU p t) i a.1 (p ++ _)) = (i,a.1,(j : Int),p ++ _,toN t i a.1 _)
 rw [qgS p t i a.1 hne]
theorem qZW {p : List UInt8} (hp : qhL p) (t : List qAG) (i : Int) : qGG (qLU p t) i = (qGG t i).map (qhR p) := by
  unfold qGG
  rw [qMJ]
  by_cases hk : (nd t i).1 = 1
  · rw [qH3 hk]
    show ((nd t i).2.2.2.1.map (qXI p (nd t i))).flatMap (qDB (qLU p t) i) = _
    rw [List.flatMap_map,List.map_flatMap]
    congr 1
    funext a
    exact qZO hp t i a
  · have e0 : ∀ (t' : List qAG) (a : qAK),¬ (nd t' i).1 = 1 → qDB t' i a = [] := fun t' a h => by
      unfold qDB qB7 qGM
      rw [qSE h,qR7];rfl
    rw [qGY hk]
    have z1 : (nd t i).2.2.2.1.flatMap (qDB (qLU p t) i) = [] := List.flatMap_eq_nil_iff.2 fun a _ => e0 _ a (by rw [qMJ,qGY hk];exact hk)
    have z2 : (nd t i).2.2.2.1.flatMap (qDB t i) = [] := List.flatMap_eq_nil_iff.2 fun a _ => e0 _ a hk
    rw [z1,z2];rfl
theorem qfJ {p : List UInt8} (hp : qhL p) (t : List qAG) : ofT (qLU p t) = (ofT t).map (qhR p) := by
 unfold ofT
 rw [qT9,List.map_flatMap]
 congr 1
 funext i
 exact qZW hp t i
end Go.Vc

namespace Go.Vc
open Go.Proofs
set_option maxRecDepth 10000
instance f40 (k s : Int) (nm : List UInt8) (at_ : List qAK) (d : List UInt8) (up : Int) (kids : List Int) (k' s' : Int) (nm' : List UInt8) (at_' : List qAK) (d' : List UInt8) (up' : Int) (kids' : List Int) :
  Fn BB 26 [.agg [.int .i64 k,.int .i64 s,.str nm,.rd qAJ at_,.str d,.int .i64 up,.rd qAI kids],.agg [.int .i64 k',.int .i64 s',.str nm',.rd qAJ at_',.str d',.int .i64 up',.rd qAI kids']]
   True (.bool (eqB (α := qAG) (k,s,nm,at_,d,up,kids) (k',s',nm',at_',d',up',kids'))) := by
 refine Fn.intro (N := 71) [0,1,2,3,4,5,47,52,65] [(6,[0,1,0,1,1,0,1,0,1,1,3])] Tryz.call26 Tryz.func26 rfl rfl (by kernel_rfl) (fun hpre => ?_)
 repeat' ((conv => whnf);first|exact qR|intro _|refine WA ?_ ?_|refine WF ?_|refine W1 rfl ?_ ?_|refine W2 rfl ?_ ?_|refine W3 rfl ?_ ?_|refine W4 ?_ ?_|refine W5 rfl ?_ ?_|refine W6 ?_ ?_|refine WN ?_|refine X1 (W1 rfl ?_ ?_)|refine X1 (W2 rfl ?_ ?_)|refine X2 (W7 rfl ?_ ?_)|refine X3 (W7 rfl ?_ ?_)|refine X4 (W7 rfl ?_ ?_)|refine X5 (W7 rfl ?_ ?_))
 all_goals (try (conv => whnf))
 all_goals (try first|exact obA|refine Ob.mk ?_)
 ·rename_i h
  refine qK2 fun e => ?_
  simp only [Prod.mk.injEq] at e
  obtain ⟨rfl,rfl,rfl,rfl,rfl,rfl,rfl⟩ := e
  simp at h
 ·rename_i h
  simp only [Bool.or_eq_false_iff,bne_eq_false_iff_eq,Bool.not_eq_false',beq_iff_eq] at h
  obtain ⟨⟨⟨⟨⟨rfl,rfl⟩,rfl⟩,rfl⟩,rfl⟩,hl⟩ := h
  refine LoopStop.mk (α := Nat) (fun i => [(5,.int .i64 i)]) (fun _ => []) 20 (fun i => i ≤ kids.length ∧ kids.take i = kids'.take i) (fun i => kids.length - i) 0 (by simp) ?_ (fun i hi => ?_)
  ·repeat' ((conv => whnf);first|exact qR|intro _|refine WA ?_ ?_|refine WF ?_|refine W1 rfl ?_ ?_|refine W2 rfl ?_ ?_|refine W3 rfl ?_ ?_|refine W4 ?_ ?_|refine W5 rfl ?_ ?_|refine W6 ?_ ?_|refine WN ?_|refine X1 (W1 rfl ?_ ?_)|refine X1 (W2 rfl ?_ ?_)|refine X2 (W7 rfl ?_ ?_)|refine X3 (W7 rfl ?_ ?_)|refine X4 (W7 rfl ?_ ?_)|refine X5 (W7 rfl ?_ ?_))
   all_goals (try (conv => whnf))
   all_goals (try rfl)
  ·obtain ⟨hi,ha⟩ := hi
   repeat' ((conv => whnf);first|exact qR|intro _|refine WA ?_ ?_|refine WF ?_|refine W1 rfl ?_ ?_|refine W2 rfl ?_ ?_|refine W3 rfl ?_ ?_|refine W4 ?_ ?_|refine W5 rfl ?_ ?_|refine W6 ?_ ?_|refine WN ?_|refine X1 (W1 rfl ?_ ?_)|refine X1 (W2 rfl ?_ ?_)|refine X2 (W7 rfl ?_ ?_)|refine X3 (W7 rfl ?_ ?_)|refine X4 (W7 rfl ?_ ?_)|refine X5 (W7 rfl ?_ ?_))
   all_goals (try (conv => whnf))
   all_goals (try first|exact obA|refine Ob.mk ?_)
   all_goals (simp only [decide_eq_true_eq,decide_eq_false_iff_not,bne_eq_false_iff_eq,bne_iff_ne,ne_eq,Bool.not_eq_true',Bool.not_eq_false',Bool.and_true] at *)
   ·rename_i h
    refine qK2 fun e => h ?_
    simp only [Prod.mk.injEq] at e
    rw [e.2.2.2.2.2.2]
   ·rename_i h
    have hil : i < kids.length := by omega
    refine Rnd.mk ⟨i + 1,?_,?_,?_⟩
    ·exact ⟨by omega,qJB (d := qAI.dflt) hil (by omega) ha h⟩
    ·omega
    ·all_goals exact vcA
   ·have hk : i = kids.length := by omega
    subst hk
    rw [List.take_length,List.take_of_length_le (by omega)] at ha
    subst ha
    by_cases he : at_ = at_'
    ·subst he;rw [decide_eq_true rfl];exact qdB rfl
    ·rw [decide_eq_false he];refine qK2 fun e => he ?_
     simp only [Prod.mk.injEq] at e
     exact e.2.2.2.1
end Go.Vc

namespace Go.Vc
open Go.Proofs
open Go.Vc.W
set_option maxRecDepth 10000
set_option maxHeartbeats 4000000
instance rROf (t : List qAG) : Fn BB 9 [.agg [.rd qAB t]] (qBB t 45 = true) (.rd qG5 (ofT t)) := by
 refine Fn.intro (N := 90) [0,1,2,3,4,5,6,7,8,9,15,30,51] [(6,[0,0,0,0,0,0,0,0,6,6]),(10,[1,0,1,0,1,1,1,1,0,1,0,1,1,1,3,3]),(14,[0,0,0,1,1,0,1,0,1,1,1,0,0,0,1,1,1,0,0,1,1,0,1,0,1,1,1,0,0,1,1,1,3,3,3,3])] Tryz.call9 Tryz.func9 rfl rfl (by kernel_rfl) (fun hpre => ?_)
 have ht := hpre
 have hl := qYI ht
 repeat' ((conv => whnf);first|exact qR|intro _|refine WA ?_ ?_|refine WF ?_|refine W1 rfl ?_ ?_|refine W2 rfl ?_ ?_|refine W3 rfl ?_ ?_|refine W4 ?_ ?_|refine W5 rfl ?_ ?_|refine W6 ?_ ?_|refine WN ?_|refine X1 (W1 rfl ?_ ?_)|refine X1 (W2 rfl ?_ ?_)|refine X2 (W7 rfl ?_ ?_)|refine X3 (W7 rfl ?_ ?_)|refine X4 (W7 rfl ?_ ?_)|refine X5 (W7 rfl ?_ ?_))
 all_goals (try (conv => whnf))
 all_goals (try first|exact obA|refine Ob.mk ?_)
 refine LoopStop.mk (α := Nat) (fun k => [(5,.int .i64 k),(3,.own 20)]) (fun k => [(20,.own qG5 (((qCF t).take k).flatMap (qGG t)))]) 40 (fun k => k ≤ (qCF t).length) (fun k => (qCF t).length - k) 0 (Nat.zero_le _) ?_ (fun k hk => ?_)
 ·repeat' ((conv => whnf);first|exact qR|intro _|refine WA ?_ ?_|refine WF ?_|refine W1 rfl ?_ ?_|refine W2 rfl ?_ ?_|refine W3 rfl ?_ ?_|refine W4 ?_ ?_|refine W5 rfl ?_ ?_|refine W6 ?_ ?_|refine WN ?_|refine X1 (W1 rfl ?_ ?_)|refine X1 (W2 rfl ?_ ?_)|refine X2 (W7 rfl ?_ ?_)|refine X3 (W7 rfl ?_ ?_)|refine X4 (W7 rfl ?_ ?_)|refine X5 (W7 rfl ?_ ?_))
  all_goals (try (conv => whnf))
  all_goals (try first|exact obA|refine Ob.mk ?_)
  all_goals (try rfl)
  all_goals trace_state
 ·by_cases hkl : k < (qCF t).length
  ·obtain ⟨i,hie⟩ : ∃ i,i = (qCM (fin t).L).getD k qAI.dflt := ⟨_,rfl⟩
   have hat : 0 ≤ i ∧ i < t.length := by rw [hie];exact qKD t k hkl _
   have hF : ((qCF t).take (k + 1)).flatMap (qGG t) = ((qCF t).take k).flatMap (qGG t) ++ qGG t i := by rw [hie];exact qZQ (qGG t) (qCM (fin t).L) hkl qAI.dflt
   have hL := qf0 ht (k + 1)
   rw [hF,List.length_append] at hL
   have hn := qLR ht i hat
   have hna := qGA hn
   have hie2 : (qCM (fin t).L).getD ((k : Int)).toNat qAI.dflt = i := by rw [Int.toNat_natCast];exact hie.symm
   repeat' ((conv => whnf);first|exact qR|intro _|refine WA ?_ ?_|refine WF ?_|refine W1 rfl ?_ ?_|refine W2 rfl ?_ ?_|refine W3 rfl ?_ ?_|refine W4 ?_ ?_|refine W5 rfl ?_ ?_|refine W6 ?_ ?_|refine WN ?_|refine X1 (W1 rfl ?_ ?_)|refine X1 (W2 rfl ?_ ?_)|refine X2 (W7 rfl ?_ ?_)|refine X3 (W7 rfl ?_ ?_)|refine X4 (W7 rfl ?_ ?_)|refine X5 (W7 rfl ?_ ?_))
   all_goals (try (conv => whnf))
   all_goals (try first|exact obA|refine Ob.mk ?_)
   all_goals (try simp only [Int.toNat_natCast, ← hie])
   all_goals (try (exact absurd (Int.ofNat_lt.mpr hkl) (of_decide_eq_false (by assumption))))
   all_goals (try (exact hat))
   refine LoopStop.mk (α := Nat) (fun a => [(7,.int .i64 a),(3,.own 20)]) (fun a => [(20,.own qG5 (((qCF t).take k).flatMap (qGG t) ++ ((nd t i).2.2.2.1.take a).flatMap (qDB t i)))]) 60 (fun a => a ≤ (nd t i).2.2.2.1.length) (fun a => (nd t i).2.2.2.1.length - a) 0 (Nat.zero_le _) ?_ (fun a ha => ?_)
   ·repeat' ((conv => whnf);first|exact qR|intro _|refine WA ?_ ?_|refine WF ?_|refine W1 rfl ?_ ?_|refine W2 rfl ?_ ?_|refine W3 rfl ?_ ?_|refine W4 ?_ ?_|refine W5 rfl ?_ ?_|refine W6 ?_ ?_|refine WN ?_|refine X1 (W1 rfl ?_ ?_)|refine X1 (W2 rfl ?_ ?_)|refine X2 (W7 rfl ?_ ?_)|refine X3 (W7 rfl ?_ ?_)|refine X4 (W7 rfl ?_ ?_)|refine X5 (W7 rfl ?_ ?_))
    all_goals (try (conv => whnf))
    all_goals (try first|exact obA|refine Ob.mk ?_)
    all_goals (first | (rw [List.take_zero,List.flatMap_nil,List.append_nil];done) | rfl | trace_state)
   ·by_cases hal : a < (nd t i).2.2.2.1.length
    ·have hAo := qR5 hn hal qAJ.dflt
     have hA : ((nd t i).2.2.2.1.take (a + 1)).flatMap (qDB t i) = ((nd t i).2.2.2.1.take a).flatMap (qDB t i) ++ qDB t i ((nd t i).2.2.2.1.getD a qAJ.dflt) := qZQ (qDB t i) _ hal qAJ.dflt
     have hAl : (((nd t i).2.2.2.1.take (a + 1)).flatMap (qDB t i)).length ≤ (qGG t i).length := by
      unfold qGG
      conv => rhs;rw [← List.take_append_drop (a + 1) (nd t i).2.2.2.1,List.flatMap_append,List.length_append]
      omega
     rw [hA,List.length_append] at hAl
     have hWl := qQL t i ((nd t i).2.2.2.1.getD a qAJ.dflt)
     have hG := fun j hj => qX7 t i ((nd t i).2.2.2.1.getD a qAJ.dflt) (j := j) hj qG5.dflt
     repeat' ((conv => whnf);first|exact qR|intro _|refine WA ?_ ?_|refine WF ?_|refine W1 rfl ?_ ?_|refine W2 rfl ?_ ?_|refine W3 rfl ?_ ?_|refine W4 ?_ ?_|refine W5 rfl ?_ ?_|refine W6 ?_ ?_|refine WN ?_|refine X1 (W1 rfl ?_ ?_)|refine X1 (W2 rfl ?_ ?_)|refine X2 (W7 rfl ?_ ?_)|refine X3 (W7 rfl ?_ ?_)|refine X4 (W7 rfl ?_ ?_)|refine X5 (W7 rfl ?_ ?_))
     all_goals (try (conv => whnf))
     all_goals (try first|exact obA|refine Ob.mk ?_)
     all_goals (try simp only [Int.toNat_natCast] at *)
     all_goals (try (exact absurd (Int.ofNat_lt.mpr hal) (of_decide_eq_false (by assumption))))
     all_goals (try (first | exact Nat.le_trans hna.1 (by decide) | exact Nat.le_trans hAo.2 (by decide)))
     refine LoopStop.mk (α := Nat) (fun j => [(9,.int .i64 j),(3,.own 20)]) (fun j => [(20,.own qG5 (((qCF t).take k).flatMap (qGG t) ++ ((nd t i).2.2.2.1.take a).flatMap (qDB t i) ++ (qDB t i ((nd t i).2.2.2.1.getD a qAJ.dflt)).take j))]) 80 (fun j => j ≤ (qB7 (nd t i) ((nd t i).2.2.2.1.getD a qAJ.dflt)).length) (fun j => (qB7 (nd t i) ((nd t i).2.2.2.1.getD a qAJ.dflt)).length - j) 0 (Nat.zero_le _) ?_ (fun j hj => ?_)
     ·repeat' ((conv => whnf);first|exact qR|intro _|refine WA ?_ ?_|refine WF ?_|refine W1 rfl ?_ ?_|refine W2 rfl ?_ ?_|refine W3 rfl ?_ ?_|refine W4 ?_ ?_|refine W5 rfl ?_ ?_|refine W6 ?_ ?_|refine WN ?_|refine X1 (W1 rfl ?_ ?_)|refine X1 (W2 rfl ?_ ?_)|refine X2 (W7 rfl ?_ ?_)|refine X3 (W7 rfl ?_ ?_)|refine X4 (W7 rfl ?_ ?_)|refine X5 (W7 rfl ?_ ?_))
      all_goals (try (conv => whnf))
      all_goals (try first|exact obA|refine Ob.mk ?_)
      all_goals (first | (rw [List.take_zero,List.append_nil];done) | rfl | trace_state)
     ·by_cases hjl : j < (qB7 (nd t i) ((nd t i).2.2.2.1.getD a qAJ.dflt)).length
      ·have hg := hG j hjl
       have hT := qfN (qDB t i ((nd t i).2.2.2.1.getD a qAJ.dflt)) (by rw [hWl];exact hjl) qG5.dflt
       rw [hg] at hT
       have hTl : ((qDB t i ((nd t i).2.2.2.1.getD a qAJ.dflt)).take j).length ≤ j := by rw [List.length_take];omega
       repeat' ((conv => whnf);first|exact qR|intro _|refine WA ?_ ?_|refine WF ?_|refine W1 rfl ?_ ?_|refine W2 rfl ?_ ?_|refine W3 rfl ?_ ?_|refine W4 ?_ ?_|refine W5 rfl ?_ ?_|refine W6 ?_ ?_|refine WN ?_|refine X1 (W1 rfl ?_ ?_)|refine X1 (W2 rfl ?_ ?_)|refine X2 (W7 rfl ?_ ?_)|refine X3 (W7 rfl ?_ ?_)|refine X4 (W7 rfl ?_ ?_)|refine X5 (W7 rfl ?_ ?_))
       all_goals (try (conv => whnf))
       all_goals (try first|exact obA|refine Ob.mk ?_)
       all_goals (try (exact absurd (Int.ofNat_lt.mpr hjl) (of_decide_eq_false (by assumption))))
       all_goals (try (simp only [cast_eq,qgJ,qb5,List.length_append,List.length_cons,List.length_nil] at *;omega))
       all_goals (refine Rnd.mk ⟨j + 1,by omega,by omega,?_⟩)
       repeat' ((conv => whnf);first|exact qR|intro _|refine WA ?_ ?_|refine WF ?_|refine W1 rfl ?_ ?_|refine W2 rfl ?_ ?_|refine W3 rfl ?_ ?_|refine W4 ?_ ?_|refine W5 rfl ?_ ?_|refine W6 ?_ ?_|refine WN ?_|refine X1 (W1 rfl ?_ ?_)|refine X1 (W2 rfl ?_ ?_)|refine X2 (W7 rfl ?_ ?_)|refine X3 (W7 rfl ?_ ?_)|refine X4 (W7 rfl ?_ ?_)|refine X5 (W7 rfl ?_ ?_))
       all_goals (try (conv => whnf))
       all_goals (try first|exact obA|refine Ob.mk ?_)
       all_goals (have hie4 : (qCM (fin t).L).getD ((k : Int)).toNat qAI.dflt = i := by rw [Int.toNat_natCast];exact hie.symm)
       all_goals (try simp only [hie4])
       all_goals (first | rfl | (rw [hT, ← List.append_assoc];exact congrArg (Chunk.own qG5) (congrArg (HAppend.hAppend _) rfl)) | trace_state)
      ·have ej : j = (qB7 (nd t i) ((nd t i).2.2.2.1.getD a qAJ.dflt)).length := by omega
       repeat' ((conv => whnf);first|exact qR|intro _|refine WA ?_ ?_|refine WF ?_|refine W1 rfl ?_ ?_|refine W2 rfl ?_ ?_|refine W3 rfl ?_ ?_|refine W4 ?_ ?_|refine W5 rfl ?_ ?_|refine W6 ?_ ?_|refine WN ?_|refine X1 (W1 rfl ?_ ?_)|refine X1 (W2 rfl ?_ ?_)|refine X2 (W7 rfl ?_ ?_)|refine X3 (W7 rfl ?_ ?_)|refine X4 (W7 rfl ?_ ?_)|refine X5 (W7 rfl ?_ ?_))
       all_goals (try (conv => whnf))
       all_goals (try first|exact obA|refine Ob.mk ?_)
       all_goals (try (exact absurd (of_decide_eq_true (by assumption)) (fun h => hjl (Int.ofNat_lt.mp h))))
       all_goals (try (refine Rnd.mk ⟨a + 1,by omega,by omega,?_⟩))
       repeat' ((conv => whnf);first|exact qR|intro _|refine WA ?_ ?_|refine WF ?_|refine W1 rfl ?_ ?_|refine W2 rfl ?_ ?_|refine W3 rfl ?_ ?_|refine W4 ?_ ?_|refine W5 rfl ?_ ?_|refine W6 ?_ ?_|refine WN ?_|refine X1 (W1 rfl ?_ ?_)|refine X1 (W2 rfl ?_ ?_)|refine X2 (W7 rfl ?_ ?_)|refine X3 (W7 rfl ?_ ?_)|refine X4 (W7 rfl ?_ ?_)|refine X5 (W7 rfl ?_ ?_))
       all_goals (try (conv => whnf))
       all_goals (try first|exact obA|refine Ob.mk ?_)
       all_goals (first | (rw [hA,ej, ← hWl,List.take_length,List.append_assoc];done) | rfl | trace_state)
    ·have ea : a = (nd t i).2.2.2.1.length := by omega
     repeat' ((conv => whnf);first|exact qR|intro _|refine WA ?_ ?_|refine WF ?_|refine W1 rfl ?_ ?_|refine W2 rfl ?_ ?_|refine W3 rfl ?_ ?_|refine W4 ?_ ?_|refine W5 rfl ?_ ?_|refine W6 ?_ ?_|refine WN ?_|refine X1 (W1 rfl ?_ ?_)|refine X1 (W2 rfl ?_ ?_)|refine X2 (W7 rfl ?_ ?_)|refine X3 (W7 rfl ?_ ?_)|refine X4 (W7 rfl ?_ ?_)|refine X5 (W7 rfl ?_ ?_))
     all_goals (try (conv => whnf))
     all_goals (try first|exact obA|refine Ob.mk ?_)
     all_goals (try (exact absurd (of_decide_eq_true (by assumption)) (fun h => hal (Int.ofNat_lt.mp h))))
     all_goals (try (refine Rnd.mk ⟨k + 1,by omega,by omega,?_⟩))
     repeat' ((conv => whnf);first|exact qR|intro _|refine WA ?_ ?_|refine WF ?_|refine W1 rfl ?_ ?_|refine W2 rfl ?_ ?_|refine W3 rfl ?_ ?_|refine W4 ?_ ?_|refine W5 rfl ?_ ?_|refine W6 ?_ ?_|refine WN ?_|refine X1 (W1 rfl ?_ ?_)|refine X1 (W2 rfl ?_ ?_)|refine X2 (W7 rfl ?_ ?_)|refine X3 (W7 rfl ?_ ?_)|refine X4 (W7 rfl ?_ ?_)|refine X5 (W7 rfl ?_ ?_))
     all_goals (try (conv => whnf))
     all_goals (try first|exact obA|refine Ob.mk ?_)
     all_goals (first | (rw [hF,ea,List.take_length];rfl) | rfl | trace_state)
  ·have e : k = (qCM (fin t).L).length := by have h : (qCF t).length = (qCM (fin t).L).length := rfl;omega
   repeat' ((conv => whnf);first|exact qR|intro _|refine WA ?_ ?_|refine WF ?_|refine W1 rfl ?_ ?_|refine W2 rfl ?_ ?_|refine W3 rfl ?_ ?_|refine W4 ?_ ?_|refine W5 rfl ?_ ?_|refine W6 ?_ ?_|refine WN ?_|refine X1 (W1 rfl ?_ ?_)|refine X1 (W2 rfl ?_ ?_)|refine X2 (W7 rfl ?_ ?_)|refine X3 (W7 rfl ?_ ?_)|refine X4 (W7 rfl ?_ ?_)|refine X5 (W7 rfl ?_ ?_))
   all_goals (try (conv => whnf))
   all_goals (try first|exact obA|refine Ob.mk ?_)
   all_goals (try (exact absurd (of_decide_eq_true (by assumption)) (by omega)))
   all_goals (unfold ofT;rw [e,show qCF t = qCM (fin t).L from rfl,List.take_length])
end Go.Vc

namespace Go.Vc
open Go.Proofs
open Go.Vc.W
set_option maxRecDepth 10000
set_option maxHeartbeats 4000000
theorem Fn.wk {B : Base} {f : FuncId} {args args' : List SV} {pre : Prop} {res : SV} (F : Fn B f args pre res) (h : ∀ r β vs,qAU r β args' vs → qAU r β args vs) : Fn B f args' pre res :=
 ⟨F.call,fun hp r β w vs hG m hl => F.ok hp r β w vs hG m (h r β vs hl)⟩
theorem qdX {r : Mem} {β : qAY} {v : Value} {a b c e f : SV} (h : Rel r β (.agg [a,b,c,.nils,e,f,.nils]) v) : Rel r β (.agg [a,b,c,.rd qAJ [],e,f,.rd qAI []]) v := by
 cases h with
 | agg hl h =>
  refine .agg hl fun i sv v h1 h2 => ?_
  match i,h1 with
  | 0,h1 => exact h 0 _ _ h1 h2
  | 1,h1 => exact h 1 _ _ h1 h2
  | 2,h1 => exact h 2 _ _ h1 h2
  | 3,h1 => cases h1;exact qX0 (h 3 _ _ rfl h2)
  | 4,h1 => exact h 4 _ _ h1 h2
  | 5,h1 => exact h 5 _ _ h1 h2
  | 6,h1 => cases h1;exact qX0 (h 6 _ _ rfl h2)
  | n + 7,h1 => cases h1
theorem qfV {r : Mem} {β : qAY} {xs ys : List SV} (hl : xs.length = ys.length) (h : ∀ (i : Nat) (x y : SV),xs[i]? = some x → ys[i]? = some y → ∀ v,Rel r β x v → Rel r β y v) (vs : List Value) (q : qAU r β xs vs) : qAU r β ys vs := by
 refine ⟨by rw [q.1,hl],fun i y v h1 h2 => ?_⟩
 have hi : i < ys.length := by
  rcases Nat.lt_or_ge i ys.length with h | h
  ·exact h
  ·rw [List.getElem?_eq_none h] at h1;cases h1
 exact h i (xs[i]'(by omega)) y (List.getElem?_eq_getElem _) h1 v (q.2 i _ v (List.getElem?_eq_getElem _) h2)
end Go.Vc

namespace Go.Vc
open Go.Proofs
set_option maxRecDepth 10000
def qiJ (l : List Int) : Nat → Nat
 | 0 => 0
 | k + 1 => bif l.getD k 0 == -1 then k + 1 else qiJ l k
def quQ (l : List Int) : Nat := qiJ l l.length
instance a43 (l : List Int) : Fn BB 247 [.rd qAI l] True (.int .i64 (quQ l)) := by
 refine Fn.intro (N := 18) [0,2,3,8,15] [] Tryz.call247 Tryz.func247 rfl rfl (by kernel_rfl) (fun hpre => ?_)
 repeat' ((conv => whnf);first|exact qR|intro _|refine WA ?_ ?_|refine WF ?_|refine W1 rfl ?_ ?_|refine W2 rfl ?_ ?_|refine W3 rfl ?_ ?_|refine W4 ?_ ?_|refine W5 rfl ?_ ?_|refine W6 ?_ ?_|refine WN ?_|refine X1 (W1 rfl ?_ ?_)|refine X1 (W2 rfl ?_ ?_)|refine X2 (W7 rfl ?_ ?_)|refine X3 (W7 rfl ?_ ?_)|refine X4 (W7 rfl ?_ ?_)|refine X5 (W7 rfl ?_ ?_))
 all_goals (try (conv => whnf))
 all_goals (try first|exact obA|refine Ob.mk ?_)
 refine LoopStop.mk (α := Nat) (fun i => [(3,.int .i64 ((l.length : Int) - 1 - i))]) (fun i => []) 20 (fun i => i ≤ l.length ∧ quQ l = qiJ l (l.length - i)) (fun i => l.length - i) 0 (by simp [quQ]) ?_ (fun i hC => ?_)
 ·all_goals exact vcA
 ·obtain ⟨hi,hC⟩ := hC
  repeat' ((conv => whnf);first|exact qR|intro _|refine WA ?_ ?_|refine WF ?_|refine W1 rfl ?_ ?_|refine W2 rfl ?_ ?_|refine W3 rfl ?_ ?_|refine W4 ?_ ?_|refine W5 rfl ?_ ?_|refine W6 ?_ ?_|refine WN ?_|refine X1 (W1 rfl ?_ ?_)|refine X1 (W2 rfl ?_ ?_)|refine X2 (W7 rfl ?_ ?_)|refine X3 (W7 rfl ?_ ?_)|refine X4 (W7 rfl ?_ ?_)|refine X5 (W7 rfl ?_ ?_))
  all_goals (try (conv => whnf))
  all_goals (try first|exact obA|refine Ob.mk ?_)
  ·rename_i hp h
   have hp : (l.length : Int) - 1 - i ≥ 0 := by simpa using hp
   obtain ⟨k,hk⟩ : ∃ k,l.length - i = k + 1 := ⟨l.length - i - 1,by omega⟩
   rw [hk,qiJ] at hC
   have h : (l.getD k 0 == -1) = true := by rw [← h,show ((l.length : Int) - 1 - i).toNat = k by omega];rfl
   rw [h,cond_true] at hC
   rw [hC];omega
  ·rename_i hp h
   have hp : (l.length : Int) - 1 - i ≥ 0 := by simpa using hp
   obtain ⟨k,hk⟩ : ∃ k,l.length - i = k + 1 := ⟨l.length - i - 1,by omega⟩
   rw [hk,qiJ] at hC
   have h : (l.getD k 0 == -1) = false := by rw [← h,show ((l.length : Int) - 1 - i).toNat = k by omega];rfl
   rw [h,cond_false] at hC
   refine Rnd.mk ⟨i + 1,⟨by omega,by rw [hC];congr 1;omega⟩,by omega,?_,?_,?_⟩
   all_goals exact vcA
  ·(try simp only [ZA,ZB,ZC,ZD,ZE,ZF,ZG,ZH,ZI,ZJ,ZK,ZL,ZM,ZN,ZO,Int.toNat_natCast,UInt8.ofNat_toNat,cast_eq] at *)
   rw [hC,show l.length - i = 0 by omega];rfl
instance a46 (l : List qAG) (i : Int) : Fn BB 250 [.agg [.rd qAB l],.int .i64 i] True (.bool (isT l i)) := by
 refine Fn.intro (N := 14) [0,1,2,4] [] Tryz.call250 Tryz.func250 rfl rfl (by kernel_rfl) (fun hpre => ?_)
 repeat' ((conv => whnf);first|exact qR|intro _|refine WA ?_ ?_|refine WF ?_|refine W1 rfl ?_ ?_|refine W2 rfl ?_ ?_|refine W3 rfl ?_ ?_|refine W4 ?_ ?_|refine W5 rfl ?_ ?_|refine W6 ?_ ?_|refine WN ?_|refine X1 (W1 rfl ?_ ?_)|refine X1 (W2 rfl ?_ ?_)|refine X2 (W7 rfl ?_ ?_)|refine X3 (W7 rfl ?_ ?_)|refine X4 (W7 rfl ?_ ?_)|refine X5 (W7 rfl ?_ ?_))
 all_goals (try (conv => whnf))
 all_goals (try first|exact obA|refine Ob.mk ?_)
 all_goals (simp_all [isT];done)
end Go.Vc

namespace Go.Vc.W
open Go.Proofs
set_option maxRecDepth 10000
def qhI : List UInt8 := [97,32,98,32,98,105,103,32,99,111,100,101,32,101,109,32,102,111,110,116,32,105,32,110,111,98,114,32,115,32,115,109,97,108,108,32,115,116,114,105,107,101,32,115,116,114,111,110,103,32,116,116,32,117]
def qtE : List UInt8 := [104,49,32,104,50,32,104,51,32,104,52,32,104,53,32,104,54]
def cImpl : List UInt8 := [100,100,32,100,116,32,108,105,32,111,112,116,103,114,111,117,112,32,111,112,116,105,111,110,32,112,32,114,98,32,114,112,32,114,116,32,114,116,99]
def qk3 : List UInt8 := [97,100,100,114,101,115,115,32,97,114,116,105,99,108,101,32,97,115,105,100,101,32,98,108,111,99,107,113,117,111,116,101,32,99,101,110,116,101,114,32,100,101,116,97,105,108,115,32,100,105,97,108,111,103,32,100,105,114,32,100,105,118,32,100,108,32,102,105,101,108,100,115,101,116,32,102,105,103,99,97,112,116,105,111,110,32,102,105,103,117,114,101,32,102,111,111,116,101,114,32,104,101,97,100,101,114,32,104,103,114,111,117,112,32,108,105,115,116,105,110,103,32,109,97,105,110,32,109,101,110,117,32,110,97,118,32,111,108,32,112,32,112,114,101,32,115,101,97,114,99,104,32,115,101,99,116,105,111,110,32,115,117,109,109,97,114,121,32,117,108]
def cRc : List UInt8 := [116,101,120,116,97,114,101,97,32,116,105,116,108,101]
def qwL : List UInt8 := [105,102,114,97,109,101,32,110,111,101,109,98,101,100,32,110,111,102,114,97,109,101,115,32,115,116,121,108,101,32,120,109,112]
def qYB : List UInt8 := [115,99,114,105,112,116]
def qe2 : List UInt8 := [112,108,97,105,110,116,101,120,116]
def has (c nm : List UInt8) : Bool := (spl c).contains nm
def kHtml (sp : Int) (nm c : List UInt8) : Bool := sp == 0 && has c nm
def qfA (nm : List UInt8) : Int := if has cRc nm then 1 else if has qwL nm then 2 else if nm = qYB then 3 else if nm = qe2 then 4 else 0
instance f28 (sp : Int) (nm c : List UInt8) : Fn BB 184 [.int .i64 sp,.str nm,.str c] (nm.length ≤ 60 ∧ c.length ≤ 100000) (.bool (kHtml sp nm c)) := by
 refine Fn.intro (N := 14) [0,1,2,6] [] Tryz.call184 Tryz.func184 rfl rfl (by kernel_rfl) (fun hpre => ?_)
 all_goals exact vcA
end Go.Vc.W

namespace Go.Vc.W
open Go.Proofs
set_option maxRecDepth 10000
instance f9 (sp : Int) (nm : List UInt8) : Fn BB 127 [.int .i64 sp,.str nm] (nm.length ≤ 60) (.bool (kHtml sp nm qhI)) := by
 refine Fn.intro (N := 8) [0,1,4] [] Tryz.call127 Tryz.func127 rfl rfl (by kernel_rfl) (fun hpre => ?_)
 all_goals exact vcA
instance f13 (sp : Int) (nm : List UInt8) : Fn BB 171 [.int .i64 sp,.str nm] (nm.length ≤ 60) (.bool (kHtml sp nm qtE)) := by
 refine Fn.intro (N := 8) [0,1,4] [] Tryz.call171 Tryz.func171 rfl rfl (by kernel_rfl) (fun hpre => ?_)
 all_goals exact vcA
instance f15 (sp : Int) (nm : List UInt8) : Fn BB 264 [.int .i64 sp,.str nm] (nm.length ≤ 60) (.bool (kHtml sp nm cImpl)) := by
 refine Fn.intro (N := 8) [0,1,4] [] Tryz.call264 Tryz.func264 rfl rfl (by kernel_rfl) (fun hpre => ?_)
 all_goals exact vcA
instance f17 (nm : List UInt8) : Fn BB 167 [.str nm] (nm.length ≤ 60) (.bool (has qk3 nm)) := by
 refine Fn.intro (N := 5) [0,2] [] Tryz.call167 Tryz.func167 rfl rfl (by kernel_rfl) (fun hpre => ?_)
 all_goals exact vcA
instance f25 (nm : List UInt8) : Fn BB 61 [.str nm] (nm.length ≤ 60) (.int .i64 (qfA nm)) := by
 refine Fn.intro (N := 11) [0,2,4,6,8,10] [] Tryz.call61 Tryz.func61 rfl rfl (by kernel_rfl) (fun hpre => ?_)
 repeat' ((conv => whnf);first|exact qR|intro _|refine WA ?_ ?_|refine WF ?_|refine W1 rfl ?_ ?_|refine W2 rfl ?_ ?_|refine W3 rfl ?_ ?_|refine W4 ?_ ?_|refine W5 rfl ?_ ?_|refine W6 ?_ ?_|refine WN ?_|refine X1 (W1 rfl ?_ ?_)|refine X1 (W2 rfl ?_ ?_)|refine X2 (W7 rfl ?_ ?_)|refine X3 (W7 rfl ?_ ?_)|refine X4 (W7 rfl ?_ ?_)|refine X5 (W7 rfl ?_ ?_))
 all_goals (try (conv => whnf))
 all_goals (try first|exact obA|refine Ob.mk ?_)
 all_goals (unfold qfA has cRc qwL;simp_all [qYB,qe2];done)
end Go.Vc.W

namespace Go.Vc
open Go.Proofs
set_option maxRecDepth 10000
def qh8 : qAG := ((1 : Int),(0 : Int),([] : List UInt8),([] : List qAK),([] : List UInt8),(0 : Int),([] : List Int))
def qFC (l : List qAG) (i : Int) : qAG := bif isT l i then l.getD i.toNat qAB.dflt else qh8
theorem qUZ {l : List qAG} {i : Int} (h : isT l i = true) : qFC l i = l.getD i.toNat qAB.dflt := by rw [qFC,h];rfl
theorem qRY {l : List qAG} {i : Int} (h : isT l i = false) : qFC l i = qh8 := by rw [qFC,h];rfl
instance s103 (l : List qAG) (i : Int) : Fn BB 222 [.agg [.rd qAB l],.int .i64 i] True (.agg (qAB.enc (qFC l i))) := by
 cases h : isT l i with
 | true =>
  rw [qUZ h]
  refine Fn.intro (N := 20) [0,1,2,4,13] [] Tryz.call222 Tryz.func222 rfl rfl (by kernel_rfl) (fun hpre => ?_)
  repeat' ((conv => whnf);first|exact qR|intro _|refine WA ?_ ?_|refine WF ?_|refine W1 rfl ?_ ?_|refine W2 rfl ?_ ?_|refine W3 rfl ?_ ?_|refine W4 ?_ ?_|refine W5 rfl ?_ ?_|refine W6 ?_ ?_|refine WN ?_|refine X1 (W1 rfl ?_ ?_)|refine X1 (W2 rfl ?_ ?_)|refine X2 (W7 rfl ?_ ?_)|refine X3 (W7 rfl ?_ ?_)|refine X4 (W7 rfl ?_ ?_)|refine X5 (W7 rfl ?_ ?_))
  all_goals (try (conv => whnf))
  all_goals (try first|exact obA|refine Ob.mk ?_)
  all_goals (try (first | (exact rfl) | (rename_i hx;exact qAF hx) | (rename_i hx;exact qAD hx)))
  all_goals (first | (simp_all [isT];done) | (exfalso;simp_all [isT];omega))
 | false =>
  rw [qRY h]
  refine Fn.intro (N := 20) [0,1,2,4,13] [] Tryz.call222 Tryz.func222 rfl rfl (by kernel_rfl) (fun hpre => ?_)
  repeat' ((conv => whnf);first|exact qR|intro _|refine WA ?_ ?_|refine WF ?_|refine W1 rfl ?_ ?_|refine W2 rfl ?_ ?_|refine W3 rfl ?_ ?_|refine W4 ?_ ?_|refine W5 rfl ?_ ?_|refine W6 ?_ ?_|refine WN ?_|refine X1 (W1 rfl ?_ ?_)|refine X1 (W2 rfl ?_ ?_)|refine X2 (W7 rfl ?_ ?_)|refine X3 (W7 rfl ?_ ?_)|refine X4 (W7 rfl ?_ ?_)|refine X5 (W7 rfl ?_ ?_))
  all_goals (try (conv => whnf))
  all_goals (try first|exact obA|refine Ob.mk ?_)
  all_goals (try (first | (exact rfl) | (rename_i hx;exact qAF hx) | (rename_i hx;exact qAD hx)))
  all_goals (exfalso;rename_i hx;simp only [isT] at h;(try simp only [ZA,ZB,ZC,ZD,ZE,ZF,ZG,ZH,ZI,ZJ,ZK,ZL,ZM,ZN,ZO,Bool.and_eq_false_iff,Bool.or_eq_false_iff,ge_iff_le,gt_iff_lt,Int.toNat_natCast,UInt8.ofNat_toNat,cast_eq] at *);omega)
def qeW (l : List qAG) : Prop := ∀ i : Int,(qFC l i).2.2.1.length ≤ 60
def isE (l : List qAG) (i : Int) (nm : List UInt8) : Bool := isT l i && ((qFC l i).1 == 1 && ((qFC l i).2.1 == 0 && (W.spl nm).contains (qFC l i).2.2.1))
instance s49 (l : List qAG) (i : Int) (nm : List UInt8) : Fn BB 154 [.agg [.rd qAB l],.int .i64 i,.str nm] (nm.length ≤ 100000) (.bool (isE l i nm)) := by
 refine Fn.intro (N := 36) [0,1,2,3,6,7] [] Tryz.call154 Tryz.func154 rfl rfl (by kernel_rfl) (fun hpre => ?_)
 repeat' ((conv => whnf);first|exact qR|intro _|refine WA ?_ ?_|refine WF ?_|refine W1 rfl ?_ ?_|refine W2 rfl ?_ ?_|refine W3 rfl ?_ ?_|refine W4 ?_ ?_|refine W5 rfl ?_ ?_|refine W6 ?_ ?_|refine WN ?_|refine X1 (W1 rfl ?_ ?_)|refine X1 (W2 rfl ?_ ?_)|refine X2 (W7 rfl ?_ ?_)|refine X3 (W7 rfl ?_ ?_)|refine X4 (W7 rfl ?_ ?_)|refine X5 (W7 rfl ?_ ?_))
 all_goals (try (conv => whnf))
 all_goals (try first|exact obA|refine Ob.mk ?_)
 all_goals (simp only [isE,isT,ge_iff_le,Bool.and_assoc])
end Go.Vc

namespace Go.Vc
open Go.Proofs
set_option maxRecDepth 10000
def qvW (l : List Int) : Int := bif decide (l.length = 0) then -1 else l.getD (l.length - 1) 0
instance s47 (l : List Int) : Fn BB 83 [.rd qAI l] True (.int .i64 (qvW l)) := by
  refine Fn.intro (N := 12) [0,2,5] [] Tryz.call83 Tryz.func83 rfl rfl (by kernel_rfl) (fun hpre => ?_)
  repeat' ((conv => whnf);first|exact qR|intro _|refine WA ?_ ?_|refine WF ?_|refine W1 rfl ?_ ?_|refine W2 rfl ?_ ?_|refine W3 rfl ?_ ?_|refine W4 ?_ ?_|refine W5 rfl ?_ ?_|refine W6 ?_ ?_|refine WN ?_|refine X1 (W1 rfl ?_ ?_)|refine X1 (W2 rfl ?_ ?_)|refine X2 (W7 rfl ?_ ?_)|refine X3 (W7 rfl ?_ ?_)|refine X4 (W7 rfl ?_ ?_)|refine X5 (W7 rfl ?_ ?_))
  all_goals (try (conv => whnf))
  all_goals (try first|exact obA|refine Ob.mk ?_)
  · rename_i h
    have : l.length = 0 := by simpa using h
    rw [qvW,decide_eq_true this];rfl
  · have : ¬ l.length = 0 := by
      have h : (((l.length : Nat) : Int) == 0) = false := ‹_›
      simpa using h
    rw [qvW,decide_eq_false this,cond_false];congr 1;omega
end Go.Vc

namespace Go.Vc
open Go.Proofs
set_option maxRecDepth 10000
def qQU (t : List qAG) (but : List UInt8) (x : Int) : Bool := (qFC t x).1 == 1 && (W.kHtml (qFC t x).2.1 (qFC t x).2.2.1 W.cImpl && !(W.spl but).contains (qFC t x).2.2.1)
def qXL (q : Int → Bool) (l : List Int) : Nat → Nat
 | 0 => 0
 | 1 => 1
 | k + 2 => bif q (l.getD (k + 1) 0) then qXL q l (k + 1) else k + 2
def qYN (p : Int → Bool) (l : List Int) : Nat → Nat
 | 0 => 0
 | 1 => 1
 | k + 2 => bif p (l.getD (k + 1) 0) then k + 1 else qYN p l (k + 1)
theorem qQ3 {q : Int → Bool} {l : List Int} {n : Nat} (h : 1 < n) : qXL q l n = bif q (l.getD (n - 1) 0) then qXL q l (n - 1) else n := by
 obtain ⟨k,rfl⟩ : ∃ k,n = k + 2 := ⟨n - 2,by omega⟩
 rw [qXL];rfl
theorem qP5 {q : Int → Bool} {l : List Int} {n : Nat} (h : 1 < n) : qYN q l n = bif q (l.getD (n - 1) 0) then n - 1 else qYN q l (n - 1) := by
 obtain ⟨k,rfl⟩ : ∃ k,n = k + 2 := ⟨n - 2,by omega⟩
 rw [qYN];rfl
theorem qbU {q : Int → Bool} {l : List Int} {n : Nat} (h : ¬ 1 < n) : qXL q l n = n := by
 match n,h with
 | 0,_ => rfl
 | 1,_ => rfl
 | k + 2,h => omega
theorem qdL {q : Int → Bool} {l : List Int} {n : Nat} (h : ¬ 1 < n) : qYN q l n = n := by
 match n,h with
 | 0,_ => rfl
 | 1,_ => rfl
 | k + 2,h => omega
theorem qgC {q : Int → Bool} {l : List Int} {n : Nat} (h : 1 < n) (hq : q (l.getD (n - 1) 0) = true) : qXL q l n = qXL q l (n - 1) := by rw [qQ3 h,hq];rfl
theorem qaU {q : Int → Bool} {l : List Int} {n : Nat} (h : 1 < n) (hq : q (l.getD (n - 1) 0) = false) : qXL q l n = n := by rw [qQ3 h,hq];rfl
end Go.Vc

namespace Go.Vc
open Go.Proofs
set_option maxRecDepth 10000
theorem qUK {l : List Int} {n : Nat} (h : n ≤ l.length) : (l.take n).length = n := by simp;omega
theorem qO0 {l : List Int} {n k : Nat} (h : k < n) : (l.take n).getD k 0 = l.getD k 0 := by
 simp [List.getD,List.getElem?_take,h]
theorem qQY {l : List Int} {n : Nat} : (l.take n).take (n - 1) = l.take (n - 1) := by rw [List.take_take];congr 1;omega
theorem qRR (t : List qAG) (but : List UInt8) (x : Int) : (!qQU t but x) = ((qFC t x).1 != 1 || !W.kHtml (qFC t x).2.1 (qFC t x).2.2.1 W.cImpl || (W.spl but).contains (qFC t x).2.2.1) := by
 simp only [qQU,Bool.not_and,Bool.not_not,bne,Bool.or_assoc]
theorem qcT {q : Int → Bool} {l : List Int} {n : Nat} (h : 1 < n) (hq : q (l.getD (n - 1) 0) = true) : qYN q l n = n - 1 := by rw [qP5 h,hq];rfl
theorem qhM {q : Int → Bool} {l : List Int} {n : Nat} (h : 1 < n) (hq : q (l.getD (n - 1) 0) = false) : qYN q l n = qYN q l (n - 1) := by rw [qP5 h,hq];rfl
end Go.Vc

namespace Go.Vc
open Go.Proofs
set_option maxRecDepth 10000
def okI (n : Nat) (i : Int) : Prop := 0 ≤ i ∧ i < n
structure Ti (n : Nat) (U : Int → Int) (K : Int → List Int) : Prop where
 pos : 0 < n
 root : U 0 = -1
 kid : ∀ i,okI n i → ∀ k ∈ K i,okI n k ∧ U k = i
 up : ∀ i,okI n i → U i = -1 ∨ (okI n (U i) ∧ (K (U i)).count i = 1)
 dep : ∃ d : Int → Nat,∀ i,okI n i → U i ≠ -1 → d (U i) < d i
inductive Ds (U : Int → Int) (r : Int) : Int → Prop
 | here : Ds U r r
 | up {x : Int} : U x ≠ -1 → Ds U r (U x) → Ds U r x
theorem qPA {l : List Int} {p q : Int → Bool} (h : ∀ x ∈ l,p x = true → q x = true) (y : Int) (hy : y ∈ l) (hp : p y = false) (hq : q y = true) : l.countP p < l.countP q := by
 induction l with
 | nil => cases hy
 | cons a l ih =>
  have hle : l.countP p ≤ l.countP q := List.countP_mono_left fun x hx => h x (List.mem_cons_of_mem _ hx)
  rw [List.countP_cons,List.countP_cons]
  rcases List.mem_cons.1 hy with rfl | hy
  ·rw [hp,hq];simp;omega
  ·have := ih (fun x hx => h x (List.mem_cons_of_mem _ hx)) hy
   have ha := h a List.mem_cons_self
   cases hpa : p a
   ·simp;omega
   ·rw [ha hpa];simp;omega
theorem Ti.rank {n : Nat} {U : Int → Int} {K : Int → List Int} (h : Ti n U K) : ∃ d : Int → Nat,(∀ i,okI n i → d i < n) ∧ ∀ i,okI n i → U i ≠ -1 → d (U i) < d i := by
 obtain ⟨d,hd⟩ := h.dep
 let L : List Int := (List.range n).map fun (k : Nat) => (k : Int)
 have hL : ∀ i,okI n i → i ∈ L := fun i hi => List.mem_map.2 ⟨i.toNat,List.mem_range.2 (by have := hi.2;have := hi.1;omega),by have := hi.1;omega⟩
 refine ⟨fun i => L.countP fun y => decide (d y < d i),fun i hi => ?_,fun i hi hu => ?_⟩
 ·have h1 : L.countP (fun y => decide (d y < d i)) < L.countP (fun _ => true) := qPA (fun _ _ _ => rfl) i (hL i hi) (decide_eq_false (Nat.lt_irrefl _)) rfl
  have h2 : L.countP (fun _ => true) = n := by simp [L]
  show L.countP (fun y => decide (d y < d i)) < n
  omega
 ·have hd := hd i hi hu
  rcases h.up i hi with q | q
  ·exact absurd q hu
  ·exact qPA (fun x _ hx => decide_eq_true (Nat.lt_trans (of_decide_eq_true hx) hd)) (U i) (hL _ q.1) (decide_eq_false (Nat.lt_irrefl _)) (decide_eq_true hd)
theorem Ds.le {n : Nat} {U : Int → Int} {K : Int → List Int} (h : Ti n U K) {d : Int → Nat} (hd : ∀ i,okI n i → U i ≠ -1 → d (U i) < d i) {r x : Int} (s : Ds U r x) : okI n x → d r ≤ d x := by
 induction s with
 | here => intro _;exact Nat.le_refl _
 | @up x hu _ ih =>
  intro hx
  rcases h.up x hx with q | q
  ·exact absurd q hu
  ·exact Nat.le_trans (ih q.1) (Nat.le_of_lt (hd x hx hu))
theorem Ds.self {n : Nat} {U : Int → Int} {K : Int → List Int} (h : Ti n U K) {r : Int} (hr : okI n r) (hu : U r ≠ -1) : ¬ Ds U r (U r) := by
 obtain ⟨d,hd⟩ := h.dep
 intro s
 rcases h.up r hr with q | q
 ·exact hu q
 ·have h1 := s.le h hd q.1
  have h2 := hd r hr hu
  omega
theorem qUY {n : Nat} {U : Int → Int} {K : Int → List Int} (h : Ti n U K) {i k : Int} (hi : okI n i) : k ∈ K i ↔ okI n k ∧ U k = i := by
 refine ⟨h.kid i hi k,fun ⟨hk,e⟩ => ?_⟩
 rcases h.up k hk with q | q
 ·have := hi.1;omega
 ·have h2 := q.2
  rw [e] at h2
  exact List.count_pos_iff.1 (by omega)
theorem qbR {n : Nat} {U : Int → Int} {K : Int → List Int} (h : Ti n U K) {i : Int} (hi : okI n i) (k : Int) : (K i).count k ≤ 1 := by
 by_cases hk : k ∈ K i
 ·have hk' := (qUY h hi).1 hk
  rcases h.up k hk'.1 with q | q
  ·have := hi.1;omega
  ·have h2 := q.2;rw [hk'.2] at h2;omega
 ·rw [List.count_eq_zero_of_not_mem hk];omega
theorem qM2 : ∀ (n : Nat) (l : List Int),(∀ x ∈ l,0 ≤ x ∧ x < (n : Int)) → (∀ x,l.count x ≤ 1) → l.length ≤ n
 | 0,l,h,_ => by
  cases l with
  | nil => exact Nat.le_refl _
  | cons a l => have := h a List.mem_cons_self;omega
 | n + 1,l,h,h1 => by
  have h2 := qM2 n (l.erase (n : Int)) (fun x hx => by
   have hm := h x (List.mem_of_mem_erase hx)
   have : x ≠ (n : Int) := fun e => by
    subst e
    have := List.count_pos_iff.2 hx
    rw [List.count_erase_self] at this
    have := h1 (n : Int);omega
   omega) (fun x => Nat.le_trans (List.Sublist.count_le _ List.erase_sublist) (h1 x))
  have h3 := List.length_erase (a := (n : Int)) (l := l)
  split at h3 <;> omega
theorem Ti.len {n : Nat} {U : Int → Int} {K : Int → List Int} (h : Ti n U K) {i : Int} (hi : okI n i) : (K i).length ≤ n :=
 qM2 n (K i) (fun x hx => (h.kid i hi x hx).1) (qbR h hi)
theorem Ti.add {n : Nat} {U U' : Int → Int} {K K' : Int → List Int} (h : Ti n U K) (hU : ∀ i,okI n i → U' i = U i) (hK : ∀ i,okI n i → K' i = K i) (hn : U' n = -1) (hk : K' n = []) : Ti (n + 1) U' K' := by
 have hs : ∀ i,okI (n + 1) i → okI n i ∨ i = n := fun i hi => by have := hi.1;have := hi.2;rcases Int.lt_or_le i n with q | q;exact .inl ⟨by omega,by omega⟩;exact .inr (by omega)
 have ho : ∀ i,okI n i → okI (n + 1) i := fun i hi => ⟨hi.1,by have := hi.2;omega⟩
 have h0 : okI n 0 := ⟨by omega,by have := h.pos;omega⟩
 obtain ⟨d,hd⟩ := h.dep
 refine ⟨by omega,by rw [hU 0 h0];exact h.root,fun i hi k hk' => ?_,fun i hi => ?_,d,fun i hi hu => ?_⟩
 ·rcases hs i hi with q | rfl
  ·rw [hK i q] at hk'
   have := h.kid i q k hk'
   exact ⟨ho _ this.1,by rw [hU _ this.1];exact this.2⟩
  ·rw [hk] at hk';cases hk'
 ·rcases hs i hi with q | rfl
  ·rw [hU i q]
   rcases h.up i q with q' | q'
   ·exact .inl q'
   ·exact .inr ⟨ho _ q'.1,by rw [hK _ q'.1];exact q'.2⟩
  ·exact .inl hn
 ·rcases hs i hi with q | rfl
  ·rw [hU i q] at hu ⊢;exact hd i q hu
  ·exact absurd hn hu
theorem Ti.congr {n : Nat} {U U' : Int → Int} {K K' : Int → List Int} (h : Ti n U K) (hU : ∀ i,okI n i → U' i = U i) (hK : ∀ i,okI n i → K' i = K i) : Ti n U' K' := by
 have h0 : okI n 0 := ⟨by omega,by have := h.pos;omega⟩
 obtain ⟨d,hd⟩ := h.dep
 refine ⟨h.pos,by rw [hU 0 h0];exact h.root,fun i hi k hk' => ?_,fun i hi => ?_,d,fun i hi hu => ?_⟩
 ·rw [hK i hi] at hk'
  have := h.kid i hi k hk'
  exact ⟨this.1,by rw [hU k this.1];exact this.2⟩
 ·rw [hU i hi]
  rcases h.up i hi with q | q
  ·exact .inl q
  ·exact .inr ⟨q.1,by rw [hK _ q.1];exact q.2⟩
 ·rw [hU i hi] at hu ⊢;exact hd i hi hu
theorem Ti.cut {n : Nat} {U U' : Int → Int} {K K' : Int → List Int} (h : Ti n U K) {kid : Int} (hk : okI n kid) (hu : U kid ≠ -1) (hU : ∀ i,okI n i → U' i = if i = kid then -1 else U i) (hK : ∀ i,okI n i → i ≠ U kid → K' i = K i)
  (hKp : ∀ k,(K' (U kid)).count k + (if k = kid then 1 else 0) = (K (U kid)).count k) : Ti n U' K' := by
 have h0 : okI n 0 := ⟨by omega,by have := h.pos;omega⟩
 have hp : okI n (U kid) ∧ (K (U kid)).count kid = 1 := (h.up kid hk).resolve_left hu
 obtain ⟨d,hd⟩ := h.dep
 have hne : ∀ i,okI n i → ∀ k,k ∈ K' i → k ∈ K i ∧ k ≠ kid := fun i hi k hk' => by
  by_cases e : i = U kid
  ·subst e
   have h1 := List.count_pos_iff.2 hk'
   have h2 := hKp k
   by_cases e' : k = kid
   ·subst e';rw [if_pos rfl,hp.2] at h2;omega
   ·rw [if_neg e'] at h2
    exact ⟨List.count_pos_iff.1 (by omega),e'⟩
  ·rw [hK i hi e] at hk'
   refine ⟨hk',fun e' => ?_⟩
   subst e'
   exact e (h.kid i hi _ hk').2.symm
 refine ⟨h.pos,?_,fun i hi k hk' => ?_,fun i hi => ?_,d,fun i hi hu' => ?_⟩
 ·rw [hU 0 h0];split
  ·rfl
  ·exact h.root
 ·obtain ⟨a,b⟩ := hne i hi k hk'
  have := h.kid i hi k a
  exact ⟨this.1,by rw [hU k this.1,if_neg b];exact this.2⟩
 ·rw [hU i hi]
  split
  ·exact .inl rfl
  ·rename_i e
   rcases h.up i hi with q | q
   ·exact .inl q
   ·refine .inr ⟨q.1,?_⟩
    by_cases e2 : U i = U kid
    ·have h2 := hKp i
     rw [if_neg e,Nat.add_zero] at h2
     rw [e2,h2, ← e2];exact q.2
    ·rw [hK _ q.1 e2];exact q.2
 ·rw [hU i hi] at hu' ⊢
  split at hu'
  ·exact absurd rfl hu'
  ·rename_i e;rw [if_neg e];exact hd i hi hu'
open Classical in
theorem Ti.put {n : Nat} {U U' : Int → Int} {K K' : Int → List Int} (h : Ti n U K) {kid p : Int} (hk : okI n kid) (hk0 : kid ≠ 0) (hp : okI n p) (hu : U kid = -1) (hd' : ¬ Ds U kid p) (hU : ∀ i,okI n i → U' i = if i = kid then p else U i)
  (hK : ∀ i,okI n i → i ≠ p → K' i = K i) (hKp : ∀ k,(K' p).count k = (K p).count k + if k = kid then 1 else 0) : Ti n U' K' := by
 have h0 : okI n 0 := ⟨by omega,by have := h.pos;omega⟩
 obtain ⟨d,hd⟩ := h.dep
 have hno : kid ∉ K p := fun q => by have := (h.kid p hp _ q).2;have := hp.1;omega
 refine ⟨h.pos,by rw [hU 0 h0,if_neg (Ne.symm hk0)];exact h.root,fun i hi k hk' => ?_,fun i hi => ?_,fun x => if Ds U kid x then d x + d p + 1 else d x,fun i hi hu' => ?_⟩
 ·by_cases e : i = p
  ·subst e
   have hc := List.count_pos_iff.2 hk'
   rw [hKp] at hc
   by_cases ek : k = kid
   ·subst ek;exact ⟨hk,by rw [hU k hk,if_pos rfl]⟩
   ·rw [if_neg ek] at hc
    have := h.kid i hi k (List.count_pos_iff.1 (by omega))
    exact ⟨this.1,by rw [hU k this.1,if_neg ek];exact this.2⟩
  ·rw [hK i hi e] at hk'
   have := h.kid i hi k hk'
   exact ⟨this.1,by rw [hU k this.1,if_neg (fun ek => by subst ek;have := hi.1;omega)];exact this.2⟩
 ·rw [hU i hi]
  split
  ·rename_i e
   subst e
   exact .inr ⟨hp,by rw [hKp,if_pos rfl,List.count_eq_zero_of_not_mem hno]⟩
  ·rename_i e
   rcases h.up i hi with q | q
   ·exact .inl q
   ·refine .inr ⟨q.1,?_⟩
    by_cases eq : U i = p
    ·rw [eq,hKp,if_neg e,Nat.add_zero, ← eq];exact q.2
    ·rw [hK _ q.1 eq];exact q.2
 ·rw [hU i hi] at hu' ⊢
  by_cases e : i = kid
  ·subst e
   simp only [if_true]
   rw [if_neg hd',if_pos Ds.here];omega
  ·rw [if_neg e] at hu' ⊢
   have hlt := hd i hi hu'
   have hiff : Ds U kid i ↔ Ds U kid (U i) := ⟨fun s => by cases s with | here => exact absurd rfl e | up _ s => exact s,fun s => .up hu' s⟩
   simp only
   by_cases hs : Ds U kid i
   ·rw [if_pos hs,if_pos (hiff.1 hs)];omega
   ·rw [if_neg hs,if_neg (fun q => hs (hiff.2 q))];exact hlt
open Classical in
theorem Ti.move {n : Nat} {U U' : Int → Int} {K K' : Int → List Int} (h : Ti n U K) {a b : Int} (ha : okI n a) (hb : okI n b) (hd' : ¬ Ds U a b) (hU : ∀ i,okI n i → U' i = if i ∈ K a then b else U i)
    (hKa : K' a = []) (hKb : K' b = K b ++ K a) (hK : ∀ i,okI n i → i ≠ a → i ≠ b → K' i = K i) : Ti n U' K' := by
  have h0 : okI n 0 := ⟨by omega,by have := h.pos;omega⟩
  have hab : b ≠ a := fun e => hd' (by rw [e];exact .here)
  obtain ⟨d,hd⟩ := h.dep
  have hm : ∀ i,okI n i → (i ∈ K a ↔ U i = a) := fun i hi => by rw [qUY h ha];exact ⟨fun q => q.2,fun q => ⟨hi,q⟩⟩
  have hU2 : ∀ i,okI n i → U' i = if U i = a then b else U i := fun i hi => by
    rw [hU i hi]
    by_cases q : i ∈ K a
    · rw [if_pos q,if_pos ((hm i hi).1 q)]
    · rw [if_neg q,if_neg (fun e => q ((hm i hi).2 e))]
  refine ⟨h.pos,by rw [hU2 0 h0,h.root,if_neg (by have := ha.1;omega)],fun i hi k hk' => ?_,fun i hi => ?_,fun x => if Ds U a x ∧ x ≠ a then d x + d b + 1 else d x,fun i hi hu' => ?_⟩
  · by_cases ea : i = a
    · subst ea;rw [hKa] at hk';cases hk'
    · by_cases eb : i = b
      · subst eb
        rw [hKb] at hk'
        rcases List.mem_append.1 hk' with q | q
        · have := h.kid i hi k q
          exact ⟨this.1,by rw [hU2 k this.1,this.2,if_neg hab]⟩
        · have := h.kid a ha k q
          exact ⟨this.1,by rw [hU2 k this.1,if_pos this.2]⟩
      · rw [hK i hi ea eb] at hk'
        have := h.kid i hi k hk'
        exact ⟨this.1,by rw [hU2 k this.1,this.2,if_neg ea]⟩
  · rw [hU2 i hi]
    by_cases e : U i = a
    · rw [if_pos e]
      refine .inr ⟨hb,?_⟩
      rw [hKb,List.count_append,List.count_eq_zero_of_not_mem (fun q => hab ((h.kid b hb i q).2.symm.trans e))]
      rcases h.up i hi with q | q
      · have := ha.1;omega
      · have h2 := q.2;rw [e] at h2;omega
    · rw [if_neg e]
      rcases h.up i hi with q | q
      · exact .inl q
      · refine .inr ⟨q.1,?_⟩
        by_cases eb : U i = b
        · rw [eb,hKb,List.count_append,List.count_eq_zero_of_not_mem (l := K a) (fun q' => e ((hm i hi).1 q'))]
          have h2 := q.2;rw [eb] at h2;omega
        · rw [hK _ q.1 e eb];exact q.2
  · rw [hU2 i hi] at hu' ⊢
    by_cases e : U i = a
    · rw [if_pos e]
      have hi2 : i ≠ a := fun q => by
        have hlt := hd i hi (by rw [e];have := ha.1;omega)
        rw [e,q] at hlt;omega
      simp only
      rw [if_neg (fun q => hd' q.1),if_pos ⟨.up (by rw [e];have := ha.1;omega) (by rw [e];exact .here),hi2⟩]
      omega
    · rw [if_neg e] at hu' ⊢
      have hlt := hd i hi hu'
      simp only
      by_cases hs : Ds U a i ∧ i ≠ a
      · have hs2 : Ds U a (U i) := by
          cases hs.1 with
          | here => exact absurd rfl hs.2
          | up _ s => exact s
        rw [if_pos hs,if_pos ⟨hs2,e⟩];omega
      · rw [if_neg hs]
        split
        · rename_i q
          by_cases hi2 : i = a
          · subst hi2
            exact absurd q.1 (Ds.self h hi hu')
          · exact absurd ⟨.up hu' q.1,hi2⟩ hs
        · exact hlt
end Go.Vc

namespace Go.Vc
open Go.Proofs
set_option maxRecDepth 10000
set_option maxHeartbeats 4000000
instance hNew : FnM BB 57 [] [] True (.agg [.own 0]) [(0,.own qAB [qZ8])] := by
 refine FnM.intro (N := 4) [0] [] 0 Tryz.call57 Tryz.func57 rfl rfl (by kernel_rfl) (fun hpre => ?_)
 all_goals exact vcA
instance hIs (l : List qAG) (i : Int) : Fn BB 78 [.agg [.rd qAB l],.int .i64 i] True (.bool (isT l i)) := by
 refine Fn.intro (N := 14) [0,1,2,4] [] Tryz.call78 Tryz.func78 rfl rfl (by kernel_rfl) (fun hpre => ?_)
 all_goals exact vcA
instance hHolds (l : List qAG) (up kid : Int) : Fn BB 79 [.agg [.rd qAB l],.int .i64 up,.int .i64 kid] (l.length ≤ 100000) (.bool (qMD l up kid)) := by
  refine Fn.intro (N := 34) [0,1,2,3,6,7,22,27] [] Tryz.call79 Tryz.func79 rfl rfl (by kernel_rfl) (fun hpre => ?_)
  repeat' ((conv => whnf);first|exact qR|intro _|refine WA ?_ ?_|refine WF ?_|refine W1 rfl ?_ ?_|refine W2 rfl ?_ ?_|refine W3 rfl ?_ ?_|refine W4 ?_ ?_|refine W5 rfl ?_ ?_|refine W6 ?_ ?_|refine WN ?_|refine X1 (W1 rfl ?_ ?_)|refine X1 (W2 rfl ?_ ?_)|refine X2 (W7 rfl ?_ ?_)|refine X3 (W7 rfl ?_ ?_)|refine X4 (W7 rfl ?_ ?_)|refine X5 (W7 rfl ?_ ?_))
  all_goals (try (conv => whnf))
  all_goals (try first|exact obA|refine Ob.mk ?_)
  refine LoopStop.mk (α := Nat × Int) (fun a => [(7,.int .i64 (a.1 : Nat)),(2,.int .i64 a.2)]) (fun _ => []) 30 (fun a => a.1 ≤ l.length + 1 ∧ (isT l up && qHV (l.length + 1 - a.1) l up a.2) = qMD l up kid) (fun a => l.length + 1 - a.1) (0,kid) ⟨by simp,rfl⟩ ?_ (fun a ha => ?_)
  · all_goals exact vcA
  · obtain ⟨k,x⟩ := a
    obtain ⟨h1,h2⟩ := ha
    dsimp only at h1 h2
    have c1 : (decide ((k : Int) ≤ (l.length : Int)) && isT l x && isT l up) = true → k ≤ l.length ∧ isT l x = true ∧ isT l up = true ∧ qHV (l.length + 1 - k) l up x = qMD l up kid := fun h => by
      simp only [Bool.and_eq_true] at h
      have h3 := of_decide_eq_true h.1.1
      rw [h.2,Bool.true_and] at h2
      exact ⟨by omega,h.1.2,h.2,h2⟩
    have c0 : (decide ((k : Int) ≤ (l.length : Int)) && isT l x && isT l up) = false → false = qMD l up kid := fun h => by
      rw [← h2]
      by_cases hu : isT l up = true
      · by_cases hx : isT l x = true
        · rw [hu,hx,Bool.and_true,Bool.and_true] at h
          have := of_decide_eq_false h
          rw [show l.length + 1 - k = 0 by omega,hu];rfl
        · have : qHV (l.length + 1 - k) l up x = false := by
            cases l.length + 1 - k with
            | zero => rfl
            | succ m => rw [qHV,if_neg hx]
          rw [this,Bool.and_false]
      · rw [show isT l up = false by simpa using hu];rfl
    have c2 : (decide ((k : Int) ≤ (l.length : Int)) && isT l x && isT l up) = true → (x == up) = true → true = qMD l up kid := fun h h' => by
      obtain ⟨q1,q2,q3,q4⟩ := c1 h
      rw [← q4,show l.length + 1 - k = (l.length - k) + 1 by omega,qHV,if_pos q2,if_pos (by simpa using h')]
    have c3 : (decide ((k : Int) ≤ (l.length : Int)) && isT l x && isT l up) = true → (x == up) = false → k ≤ l.length ∧ (isT l up && qHV (l.length + 1 - (k + 1)) l up (nd l x).up) = qMD l up kid := fun h h' => by
      obtain ⟨q1,q2,q3,q4⟩ := c1 h
      rw [← q4,show l.length + 1 - k = (l.length - k) + 1 by omega,qHV,if_pos q2,if_neg (by simpa using h'),q3,Bool.true_and,show l.length + 1 - (k + 1) = l.length - k by omega]
      exact ⟨q1,rfl⟩
    repeat' ((conv => whnf);first|exact qR|intro _|refine WA ?_ ?_|refine WF ?_|refine W1 rfl ?_ ?_|refine W2 rfl ?_ ?_|refine W3 rfl ?_ ?_|refine W4 ?_ ?_|refine W5 rfl ?_ ?_|refine W6 ?_ ?_|refine WN ?_|refine X1 (W1 rfl ?_ ?_)|refine X1 (W2 rfl ?_ ?_)|refine X2 (W7 rfl ?_ ?_)|refine X3 (W7 rfl ?_ ?_)|refine X4 (W7 rfl ?_ ?_)|refine X5 (W7 rfl ?_ ?_))
    all_goals (try (conv => whnf))
    all_goals (try first|exact obA|refine Ob.mk ?_)
    all_goals (try dsimp only at *)
    all_goals (first | exact c2 ‹_› ‹_› | exact c0 ‹_› | exact qD7.1 (c1 ‹_›).2.1 | (have := (c1 ‹_›).1;omega) | skip)
    obtain ⟨q1,q2⟩ := c3 ‹_› ‹_›
    refine Rnd.mk ⟨(k + 1,(nd l x).up),⟨by simp only;omega,q2⟩,by simp only;omega,?_⟩
    repeat' ((conv => whnf);first|exact qR|intro _|refine WA ?_ ?_|refine WF ?_|refine W1 rfl ?_ ?_|refine W2 rfl ?_ ?_|refine W3 rfl ?_ ?_|refine W4 ?_ ?_|refine W5 rfl ?_ ?_|refine W6 ?_ ?_|refine WN ?_|refine X1 (W1 rfl ?_ ?_)|refine X1 (W2 rfl ?_ ?_)|refine X2 (W7 rfl ?_ ?_)|refine X3 (W7 rfl ?_ ?_)|refine X4 (W7 rfl ?_ ?_)|refine X5 (W7 rfl ?_ ?_))
    all_goals (try (conv => whnf))
    all_goals (try first|exact obA|refine Ob.mk ?_)
    all_goals (first | rfl | omega | trace_state)
end Go.Vc

namespace Go.Vc
open Go.Proofs
set_option maxRecDepth 10000
set_option maxHeartbeats 4000000
theorem qOJ (l : List Int) (i : Nat) (h : i < l.length) : l.take (i + 1) = l.take i ++ [l.getD i 0] := by
 rw [List.take_succ_eq_append_getElem h];simp [List.getD,List.getElem?_eq_getElem h]
def qbI (l : List Int) (a : Nat) (n : Int) (i : Nat) : List Int := (l.take a).take i ++ ((if a < i then [n] else []) ++ (l.take i).drop a)
theorem qZZ (l : List Int) (a : Nat) (n : Int) (i : Nat) (h : i ≤ l.length) (ha : a ≤ l.length) : qbI l a n (i + 1) = (if i = a then qbI l a n i ++ [n] else qbI l a n i) ++ (if i < l.length then [l.getD i 0] else []) := by
 unfold qbI
 rcases Nat.lt_trichotomy i a with q | q | q
 ·rw [if_neg (show ¬ a < i + 1 by omega),if_neg (show ¬ a < i by omega),if_neg (show ¬ i = a by omega),if_pos (by omega),List.take_take,List.take_take,Nat.min_eq_left (by omega),Nat.min_eq_left (by omega),List.drop_eq_nil_of_le (by rw [List.length_take];omega),List.drop_eq_nil_of_le (by rw [List.length_take];omega)]
  simp only [List.append_nil]
  exact qOJ l i (by omega)
 ·subst q
  have hdr : (l.take i).drop i = [] := List.drop_eq_nil_of_le (by rw [List.length_take];omega)
  rw [if_pos (show i < i + 1 by omega),if_neg (show ¬ i < i by omega),if_pos rfl,List.take_take,List.take_take,Nat.min_eq_right (by omega),Nat.min_self,hdr]
  simp only [List.append_nil,List.append_assoc]
  congr 2
  by_cases hl : i < l.length
  ·rw [if_pos hl,qOJ l i hl,List.drop_append_of_le_length (by rw [List.length_take];omega),List.drop_eq_nil_of_le (by rw [List.length_take];omega)];rfl
  ·rw [if_neg hl,List.drop_eq_nil_of_le (by rw [List.length_take];omega)]
 ·rw [if_pos (show a < i + 1 by omega),if_pos (show a < i by omega),if_neg (show ¬ i = a by omega),List.take_take,List.take_take,Nat.min_eq_right (by omega),Nat.min_eq_right (by omega)]
  by_cases hl : i < l.length
  ·rw [if_pos hl,qOJ l i hl,List.drop_append_of_le_length (by rw [List.length_take];omega)]
   simp only [List.append_assoc]
  ·rw [if_neg hl,List.append_nil,List.take_of_length_le (l := l) (i := i + 1) (by omega),List.take_of_length_le (l := l) (i := i) (by omega)]
theorem qcY (l : List Int) (a : Nat) (n : Int) (h : a ≤ l.length) : qbI l a n (l.length + 1) = l.take a ++ n :: l.drop a := by
 unfold qbI
 rw [if_pos (by omega),List.take_take,List.take_of_length_le (l := l) (i := l.length + 1) (by omega),Nat.min_eq_right (by omega)]
 rfl
theorem qeB (l : List Int) (a : Nat) (n : Int) (i : Nat) : (qbI l a n i).length ≤ i + 1 + i := by
 unfold qbI;simp only [List.length_append,List.length_take,List.length_drop];split <;> simp <;> omega
instance hPlace (l : List qAG) (kid : Int) : Fn BB 106 [.agg [.rd qAB l],.int .i64 kid] True (.int .i64 (qPT l kid)) := by
 refine Fn.intro (N := 46) [0,1,2,4,5,6,21,36,44] [(1,[1,0,1,1,1,1,1,1,1,1,1,1,3,3,3]),(3,[0,1,0,1,0,1,1,1,3,3,3,3])] Tryz.call106 Tryz.func106 rfl rfl (by kernel_rfl) (fun hpre => ?_)
 have p0 : (!isT l kid || !isT l (nd l kid).up) = true → (-1 : Int) = qPT l kid := fun h => by
  have h := qSY h
  unfold qPT;rw [h];rfl
 have p1 : (!isT l kid || !isT l (nd l kid).up) = false → (0 ≤ kid ∧ kid < l.length) ∧ (0 ≤ (nd l kid).up ∧ (nd l kid).up < l.length) ∧ qPT l kid = qQX (nd l (nd l kid).up).kids kid := fun h => by
  obtain ⟨h1,h2⟩ := qP7 h
  refine ⟨qD7.1 h1,qD7.1 h2,?_⟩
  unfold qPT;rw [h1,h2];rfl
 repeat' ((conv => whnf);first|exact qR|intro _|refine WA ?_ ?_|refine WF ?_|refine W1 rfl ?_ ?_|refine W2 rfl ?_ ?_|refine W3 rfl ?_ ?_|refine W4 ?_ ?_|refine W5 rfl ?_ ?_|refine W6 ?_ ?_|refine WN ?_|refine X1 (W1 rfl ?_ ?_)|refine X1 (W2 rfl ?_ ?_)|refine X2 (W7 rfl ?_ ?_)|refine X3 (W7 rfl ?_ ?_)|refine X4 (W7 rfl ?_ ?_)|refine X5 (W7 rfl ?_ ?_))
 all_goals (try (conv => whnf))
 all_goals (try first|exact obA|refine Ob.mk ?_)
 all_goals (try (have q := p0 ‹(!isT l kid || !isT l (nd l kid).up) = true›))
 all_goals (try (have q := p1 ‹(!isT l kid || !isT l (nd l kid).up) = false›;obtain ⟨q1,q2,q3⟩ := q))
 all_goals (first | exact q | exact q1 | exact q2 | (exact qD7.1 (by simp_all;done)) | skip)
 generalize hks : (nd l (nd l kid).up).kids = ks at *
 have hks' : (l.getD (l.getD kid.toNat qAB.dflt).2.2.2.2.2.1.toNat qAB.dflt).2.2.2.2.2.2 = ks := hks
 try rw [hks']
 refine LoopStop.mk (α := Nat) (fun i => [(6,.int .i64 i)]) (fun _ => []) 20 (fun i => i ≤ ks.length ∧ (ks.take i).contains kid = false) (fun i => ks.length - i) 0 (by simp) ?_ (fun i hi => ?_)
 ·all_goals exact vcA
 ·obtain ⟨hi,ha⟩ := hi
  repeat' ((conv => whnf);first|exact qR|intro _|refine WA ?_ ?_|refine WF ?_|refine W1 rfl ?_ ?_|refine W2 rfl ?_ ?_|refine W3 rfl ?_ ?_|refine W4 ?_ ?_|refine W5 rfl ?_ ?_|refine W6 ?_ ?_|refine WN ?_|refine X1 (W1 rfl ?_ ?_)|refine X1 (W2 rfl ?_ ?_)|refine X2 (W7 rfl ?_ ?_)|refine X3 (W7 rfl ?_ ?_)|refine X4 (W7 rfl ?_ ?_)|refine X5 (W7 rfl ?_ ?_))
  all_goals (try (conv => whnf))
  all_goals (try first|exact obA|refine Ob.mk ?_)
  all_goals (try (have b1 := of_decide_eq_true ‹decide ((i : Int) < (ks.length : Int)) = true›))
  all_goals (try (have b1 := of_decide_eq_false ‹decide ((i : Int) < (ks.length : Int)) = false›))
  all_goals (try simp only [Int.toNat_natCast] at *)
  ·rw [q3,qNX (i := i) (by omega) ha (eq_of_beq (show (ks.getD i 0 == kid) = true from ‹_›)).symm]
  ·have h : (ks.getD i 0 == kid) = false := ‹_›
   refine Rnd.mk ⟨i + 1,⟨by omega,by rw [qHP ks i kid (by omega),ha,h];rfl⟩,by omega,?_⟩
   repeat' ((conv => whnf);first|exact qR|intro _|refine WA ?_ ?_|refine WF ?_|refine W1 rfl ?_ ?_|refine W2 rfl ?_ ?_|refine W3 rfl ?_ ?_|refine W4 ?_ ?_|refine W5 rfl ?_ ?_|refine W6 ?_ ?_|refine WN ?_|refine X1 (W1 rfl ?_ ?_)|refine X1 (W2 rfl ?_ ?_)|refine X2 (W7 rfl ?_ ?_)|refine X3 (W7 rfl ?_ ?_)|refine X4 (W7 rfl ?_ ?_)|refine X5 (W7 rfl ?_ ?_))
   all_goals (try (conv => whnf))
   all_goals (try first|exact obA|refine Ob.mk ?_)
   all_goals (first | rfl | omega | trace_state)
  ·obtain rfl : i = ks.length := by omega
   rw [q3,qHB (by rw [List.take_length] at ha;exact ha)]
instance hWith (l : List Int) (at_ n : Int) : Fn BB 81 [.rd qAI l,.int .i64 at_,.int .i64 n] (0 ≤ at_ ∧ at_ ≤ l.length ∧ l.length ≤ 100000) (.rd qAI (l.take at_.toNat ++ n :: l.drop at_.toNat)) := by
 refine Fn.intro (N := 34) [0,1,2,6,7,8,12,17,25] [] Tryz.call81 Tryz.func81 rfl rfl (by kernel_rfl) (fun hpre => ?_)
 obtain ⟨p1,p2,p3⟩ := hpre
 obtain ⟨a,rfl⟩ := Int.eq_ofNat_of_zero_le p1
 have hen := qcY l a n (by omega)
 rw [Int.toNat_natCast]
 repeat' ((conv => whnf);first|exact qR|intro _|refine WA ?_ ?_|refine WF ?_|refine W1 rfl ?_ ?_|refine W2 rfl ?_ ?_|refine W3 rfl ?_ ?_|refine W4 ?_ ?_|refine W5 rfl ?_ ?_|refine W6 ?_ ?_|refine WN ?_|refine X1 (W1 rfl ?_ ?_)|refine X1 (W2 rfl ?_ ?_)|refine X2 (W7 rfl ?_ ?_)|refine X3 (W7 rfl ?_ ?_)|refine X4 (W7 rfl ?_ ?_)|refine X5 (W7 rfl ?_ ?_))
 all_goals (try (conv => whnf))
 all_goals (try first|exact obA|refine Ob.mk ?_)
 refine LoopStop.mk (α := Nat) (fun i => [(8,.int .i64 i),(7,.own 20)]) (fun i => [(20,.own qAI (qbI l a n i))]) 30 (fun i => i ≤ l.length + 1) (fun i => l.length + 1 - i) 0 (by simp) ?_ (fun i hi => ?_)
 ·repeat' ((conv => whnf);first|exact qR|intro _|refine WA ?_ ?_|refine WF ?_|refine W1 rfl ?_ ?_|refine W2 rfl ?_ ?_|refine W3 rfl ?_ ?_|refine W4 ?_ ?_|refine W5 rfl ?_ ?_|refine W6 ?_ ?_|refine WN ?_|refine X1 (W1 rfl ?_ ?_)|refine X1 (W2 rfl ?_ ?_)|refine X2 (W7 rfl ?_ ?_)|refine X3 (W7 rfl ?_ ?_)|refine X4 (W7 rfl ?_ ?_)|refine X5 (W7 rfl ?_ ?_))
  all_goals (try (conv => whnf))
  all_goals (try first|exact obA|refine Ob.mk ?_)
  all_goals (first | rfl | (simp [qbI];done) | trace_state)
 ·have hl := qeB l a n i
  have hst := qZZ l a n i
  repeat' ((conv => whnf);first|exact qR|intro _|refine WA ?_ ?_|refine WF ?_|refine W1 rfl ?_ ?_|refine W2 rfl ?_ ?_|refine W3 rfl ?_ ?_|refine W4 ?_ ?_|refine W5 rfl ?_ ?_|refine W6 ?_ ?_|refine WN ?_|refine X1 (W1 rfl ?_ ?_)|refine X1 (W2 rfl ?_ ?_)|refine X2 (W7 rfl ?_ ?_)|refine X3 (W7 rfl ?_ ?_)|refine X4 (W7 rfl ?_ ?_)|refine X5 (W7 rfl ?_ ?_))
  all_goals (try (conv => whnf))
  all_goals (try first|exact obA|refine Ob.mk ?_)
  all_goals (try (have b := of_decide_eq_true ‹decide ((i : Int) ≤ (l.length : Int)) = true›;have hs := hst (by omega) (by omega)))
  all_goals (try (have e1 : i = a := by (have h : ((i : Int) == (a : Int)) = true := ‹_›;have := eq_of_beq h;omega)))
  all_goals (try (have e1 : ¬ i = a := by (have h : ((i : Int) == (a : Int)) = false := ‹_›;rw [beq_eq_false_iff_ne] at h;omega)))
  all_goals (try (have b2 : i < l.length := by (have h := of_decide_eq_true ‹decide ((i : Int) < (l.length : Int)) = true›;omega)))
  all_goals (try (have b2 : ¬ i < l.length := by (have h := of_decide_eq_false ‹decide ((i : Int) < (l.length : Int)) = false›;omega)))
  all_goals (try rw [if_pos e1] at hs)
  all_goals (try rw [if_neg e1] at hs)
  all_goals (try rw [if_pos b2] at hs)
  all_goals (try rw [if_neg b2,List.append_nil] at hs)
  all_goals (try simp only [Int.toNat_natCast] at *)
  all_goals (try (refine Rnd.mk ⟨i + 1,by omega,by omega,?_⟩))
  all_goals (first | omega | exact ⟨by omega,by omega⟩ | (show _ * 8 ≤ _ ∧ _ ≤ _;exact ⟨by simp only [List.length_append,List.length_cons,List.length_nil];omega,by simp only [List.length_append,List.length_cons,List.length_nil];omega⟩) | skip)
  all_goals (try (have b := of_decide_eq_false ‹decide ((i : Int) ≤ (l.length : Int)) = false›;rw [show i = l.length + 1 by omega,hen]))
  repeat' ((conv => whnf);first|exact qR|intro _|refine WA ?_ ?_|refine WF ?_|refine W1 rfl ?_ ?_|refine W2 rfl ?_ ?_|refine W3 rfl ?_ ?_|refine W4 ?_ ?_|refine W5 rfl ?_ ?_|refine W6 ?_ ?_|refine WN ?_|refine X1 (W1 rfl ?_ ?_)|refine X1 (W2 rfl ?_ ?_)|refine X2 (W7 rfl ?_ ?_)|refine X3 (W7 rfl ?_ ?_)|refine X4 (W7 rfl ?_ ?_)|refine X5 (W7 rfl ?_ ?_))
  all_goals (try (conv => whnf))
  all_goals (try first|exact obA|refine Ob.mk ?_)
  all_goals (first | rfl | omega | (rw [hs];done) | (rw [hs];rfl) | trace_state)
end Go.Vc

namespace Go.Vc
open Go.Proofs
set_option autoImplicit false
def qkK (n : qAG) (k : Int) : qAG := (n.1,n.2.1,n.2.2.1,n.2.2.2.1,n.2.2.2.2.1,n.2.2.2.2.2.1,n.2.2.2.2.2.2 ++ [k])
def mkN (n : qAG) (up : Int) : qAG := (n.1,n.2.1,n.2.2.1,n.2.2.2.1,n.2.2.2.2.1,up,[])
def qDP (out : List qAG) (p : Nat) (k : Int) : List qAG := out.set p (qkK (out.getD p qAB.dflt) k)
structure PSt where
 out : List qAG
 P : List Nat
def PSt.step (t : List qAG) (x : PSt) (e : Ev) : PSt :=
 match e.2.2.2,x.P with
 | true,P => { out := x.out,P := P.tail }
 | false,[] => { out := x.out ++ [mkN (t.getD e.1 qAB.dflt) (-1)],P := [x.out.length] }
 | false,p :: P => { out := qDP x.out p x.out.length ++ [mkN (t.getD e.1 qAB.dflt) p],P := x.out.length :: p :: P }
def PSt.run (t : List qAG) : PSt → List Ev → PSt
 | x,[] => x
 | x,e :: l => PSt.run t (x.step t e) l
theorem qGB (t : List qAG) : ∀ (l l' : List Ev) (x : PSt),x.run t (l ++ l') = (x.run t l).run t l' := by
 intro l
 induction l with
 | nil => intro l' x;rfl
 | cons e l ih => intro l' x;exact ih l' (x.step t e)
def pS (t : List qAG) (K : Nat → List Int) (out : List qAG) (s : List Bool) (p i j : Nat) : List qAG := (({ out := out,P := [p] } : PSt).run t (dfs K s i j 0).1).out
def sS (K : Nat → List Int) (s : List Bool) (i j : Nat) : List Bool := (dfs K s i j 0).2.1
variable {K : Nat → List Int} {t : List qAG}
theorem qEM (out : List qAG) (p : Nat) (k : Int) : (qDP out p k).length = out.length := by unfold qDP;exact List.length_set ..
theorem qlY : ∀ (s : List Bool) (i j c : Nat),∀ c',(dfs K s i j c).2.1 = (dfs K s i j c').2.1 ∧ ∀ x : PSt,x.run t (dfs K s i j c).1 = x.run t (dfs K s i j c').1 := by
 refine qG2 (K := K) ?_ ?_ ?_
 ·intro s i j c h c';rw [qDJ h,qDJ h];exact ⟨rfl,fun x => rfl⟩
 ·intro s i j c h hk ih c';rw [qDN h hk,qDN h hk];exact ih c'
 ·intro s i j c h hk i1 i2 c'
  rw [qGK h hk,qGK h hk]
  dsimp only
  obtain ⟨a1,a2⟩ := i1 (c' + 1)
  rw [← a1]
  obtain ⟨b1,b2⟩ := i2 (dfs K (s.set ((K i).getD j 0).toNat true) ((K i).getD j 0).toNat 0 (c' + 1)).2.2
  refine ⟨b1,fun x => ?_⟩
  show ((x.step t _).run t _) = ((x.step t _).run t _)
  rw [qGB,qGB]
  have e : x.step t (((K i).getD j 0).toNat,(i : Int),c,false) = x.step t (((K i).getD j 0).toNat,(i : Int),c',false) := rfl
  rw [e,a2,b2]
theorem qUP : ∀ (s : List Bool) (i j c : Nat),∀ (out : List qAG) (p : Nat) (P : List Nat),
  ({ out := out,P := p :: P } : PSt).run t (dfs K s i j c).1 = { out := (({ out := out,P := [p] } : PSt).run t (dfs K s i j c).1).out,P := P } := by
 refine qG2 (K := K) ?_ ?_ ?_
 ·intro s i j c h out p P;rw [qDJ h];rfl
 ·intro s i j c h hk ih out p P;rw [qDN h hk];exact ih out p P
 ·intro s i j c h hk i1 i2 out p P
  rw [qGK h hk]
  dsimp only
  have e : ∀ Q,({ out := out,P := p :: Q } : PSt).step t (((K i).getD j 0).toNat,(i : Int),c,false) =
   { out := qDP out p out.length ++ [mkN (t.getD ((K i).getD j 0).toNat qAB.dflt) p],P := out.length :: p :: Q } := fun Q => rfl
  show PSt.run t (PSt.step t _ _) _ = { out := (PSt.run t (PSt.step t _ _) _).out,P := P }
  rw [e,e,qGB,qGB,i1 _ out.length (p :: P),i1 _ out.length [p],i2 _ p P]
theorem qeP {out s p i j} (h : ¬ j < (K i).length) : pS t K out s p i j = out ∧ sS K s i j = s := by
 unfold pS sS;rw [qDJ h];exact ⟨rfl,rfl⟩
theorem qe4 {out s p i j} (h : j < (K i).length) (hk : okK s ((K i).getD j 0) = false) : pS t K out s p i j = pS t K out s p i (j + 1) ∧ sS K s i j = sS K s i (j + 1) := by
 unfold pS sS;rw [qDN h hk];exact ⟨rfl,rfl⟩
def qOR (t : List qAG) (K : Nat → List Int) (out : List qAG) (s : List Bool) (k : Nat) (up : Int) : List qAG := pS t K (out ++ [mkN (t.getD k qAB.dflt) up]) (s.set k true) out.length k 0
def qYW (K : Nat → List Int) (s : List Bool) (k : Nat) : List Bool := sS K (s.set k true) k 0
theorem qlG {out s p i j} (h : j < (K i).length) (hk : okK s ((K i).getD j 0) = true) :
    pS t K out s p i j = pS t K (qOR t K (qDP out p out.length) s ((K i).getD j 0).toNat p) (qYW K s ((K i).getD j 0).toNat) p i (j + 1) ∧ sS K s i j = sS K (qYW K s ((K i).getD j 0).toNat) i (j + 1) := by
  have a := fun c => qlY (t := t) (K := K) (s.set ((K i).getD j 0).toNat true) ((K i).getD j 0).toNat 0 c 0
  unfold pS sS qOR qYW pS sS
  rw [qGK h hk]
  dsimp only
  rw [(a 1).1]
  have b := fun c => qlY (t := t) (K := K) (dfs K (s.set ((K i).getD j 0).toNat true) ((K i).getD j 0).toNat 0 0).2.1 i (j + 1) c 0
  refine ⟨?_,(b _).1⟩
  show (PSt.run t (PSt.step t _ _) _).out = _
  have e : ({ out := out,P := [p] } : PSt).step t (((K i).getD j 0).toNat,(i : Int),0,false) =
      { out := qDP out p out.length ++ [mkN (t.getD ((K i).getD j 0).toNat qAB.dflt) p],P := out.length :: [p] } := rfl
  rw [e,qGB,qUP,(b _).2,(a 1).2,qEM]
theorem qkC : ∀ (s : List Bool) (i j c : Nat),∀ (out : List qAG) (p : Nat),
  out.length ≤ (({ out := out,P := [p] } : PSt).run t (dfs K s i j c).1).out.length ∧ (({ out := out,P := [p] } : PSt).run t (dfs K s i j c).1).out.length + unseen (dfs K s i j c).2.1 = out.length + unseen s ∧
   (∀ q,q < out.length → q ≠ p → (({ out := out,P := [p] } : PSt).run t (dfs K s i j c).1).out.getD q qAB.dflt = out.getD q qAB.dflt) ∧ (dfs K s i j c).2.1.length = s.length := by
 refine qG2 (K := K) ?_ ?_ ?_
 ·intro s i j c h out p;rw [qDJ h];exact ⟨Nat.le_refl _,rfl,fun q _ _ => rfl,rfl⟩
 ·intro s i j c h hk ih out p;rw [qDN h hk];exact ih out p
 ·intro s i j c h hk i1 i2 out p
  rw [qGK h hk]
  dsimp only
  have e : ({ out := out,P := [p] } : PSt).step t (((K i).getD j 0).toNat,(i : Int),c,false) =
   { out := qDP out p out.length ++ [mkN (t.getD ((K i).getD j 0).toNat qAB.dflt) p],P := out.length :: [p] } := rfl
  have er : ∀ l,({ out := out,P := [p] } : PSt).run t ((((K i).getD j 0).toNat,(i : Int),c,false) :: l) =
   ({ out := qDP out p out.length ++ [mkN (t.getD ((K i).getD j 0).toNat qAB.dflt) p],P := out.length :: [p] } : PSt).run t l := fun l => by rw [← e];rfl
  have er2 : ∀ l1 l2 c1,l1 = (dfs K (s.set ((K i).getD j 0).toNat true) ((K i).getD j 0).toNat 0 c1).1 → (({ out := out,P := [p] } : PSt).run t ((((K i).getD j 0).toNat,(i : Int),c,false) :: (l1 ++ l2))).out =
   (({ out := (({ out := qDP out p out.length ++ [mkN (t.getD ((K i).getD j 0).toNat qAB.dflt) p],P := [out.length] } : PSt).run t l1).out,P := [p] } : PSt).run t l2).out := fun l1 l2 c1 hl => by
   rw [er,qGB,hl,qUP]
  rw [er2 _ _ _ rfl]
  have hl : (qDP out p out.length ++ [mkN (t.getD ((K i).getD j 0).toNat qAB.dflt) p]).length = out.length + 1 := by rw [List.length_append,qEM];rfl
  have hu := qBA (qBW hk).2.2
  obtain ⟨a1,a2,a3,a4⟩ := i1 (qDP out p out.length ++ [mkN (t.getD ((K i).getD j 0).toNat qAB.dflt) p]) out.length
  rw [hl] at a1 a2 a3
  generalize (({ out := qDP out p out.length ++ [mkN (t.getD ((K i).getD j 0).toNat qAB.dflt) p],P := [out.length] } : PSt).run t (dfs K (s.set ((K i).getD j 0).toNat true) ((K i).getD j 0).toNat 0 (c + 1)).1).out = y at *
  obtain ⟨b1,b2,b3,b4⟩ := i2 y p
  refine ⟨by omega,by omega,fun q hq hp => ?_,?_⟩
  ·rw [b3 q (by omega) hp,a3 q (by omega) (by omega)]
   unfold qDP
   rw [List.getD_eq_getElem?_getD,List.getElem?_append_left (by rw [List.length_set];exact hq),List.getElem?_set,if_neg (fun h => hp h.symm),List.getD_eq_getElem?_getD]
  ·rw [b4,a4,List.length_set]
theorem qOM (out : List qAG) (s : List Bool) (k : Nat) (up : Int) : out.length + 1 ≤ (qOR t K out s k up).length ∧ (qOR t K out s k up).length + unseen (qYW K s k) = out.length + 1 + unseen (s.set k true) ∧
  (∀ q,q < out.length → (qOR t K out s k up).getD q qAB.dflt = out.getD q qAB.dflt) ∧ (qYW K s k).length = s.length := by
 obtain ⟨h1,h2,h3,h4⟩ := qkC (t := t) (K := K) (s.set k true) k 0 0 (out ++ [mkN (t.getD k qAB.dflt) up]) out.length
 rw [List.length_append,List.length_singleton] at h1 h2 h3
 refine ⟨h1,h2,fun q hq => ?_,by rw [List.length_set] at h4;exact h4⟩
 show (PSt.run t _ _).out.getD q _ = _
 rw [h3 q (by omega) (by omega),List.getD_eq_getElem?_getD,List.getElem?_append_left hq,List.getD_eq_getElem?_getD]
end Go.Vc

namespace Go.Vc
open Go.Proofs
set_option maxRecDepth 10000
set_option maxHeartbeats 4000000
noncomputable abbrev BN : Base := { BB with np := fun t => bif Nat.beq t 41 then some 6 else none }
instance toN_fn {f : FuncId} {args : List SV} {pre : Prop} {res : SV} [h : Fn BB f args pre res] : Fn BN f args pre res := ⟨h.call,h.ok⟩
instance toN_fnM {f : FuncId} {args : List SV} {Φ : Phi} {pre : Prop} {res : SV} {Φ' : Phi} [h : FnM BB f args Φ pre res Φ'] : FnM BN f args Φ pre res Φ' := ⟨h.call,h.ok⟩
def qkL (t out : List qAG) (s : List Bool) (k : Int) : Prop := qFT t = true ∧ s.length = t.length ∧ (0 ≤ k ∧ k < t.length) ∧ out.length + unseen (s.set k.toNat true) + 1 ≤ 5000
theorem qdW {q : List Bool} {n : Nat} (hq : q.length = n) (k : Int) : (decide (k ≥ 0) && decide (k < (n : Int)) && !q.getD k.toNat false) = okK q k := by
  unfold okK
  by_cases h1 : k < 0
  · rw [decide_eq_false (by omega : ¬ k ≥ 0)];rfl
  · rw [decide_eq_true (by omega : k ≥ 0)]
    by_cases h2 : k < (n : Int)
    · rw [decide_eq_true h2]
      have hl : k.toNat < q.length := by omega
      simp [List.getD,hl]
    · have : q.getD k.toNat true = true := by
        rw [List.getD_eq_getElem?_getD,List.getElem?_eq_none (by omega)];rfl
      rw [decide_eq_false h2,this];rfl
theorem qMI (o : List qAG) (p : Nat) (k : Int) (h : p < o.length) : ((qDP o p k).getD p qAB.dflt).kids = (o.getD p qAB.dflt).kids ++ [k] := by
 unfold qDP
 rw [List.getD_eq_getElem?_getD,List.getElem?_set,if_pos rfl,if_pos h];rfl
theorem qRQ (o : List qAG) (n : Nat) (k : Int) (h : n < o.length) :
  (o.set n ((o.getD n qAB.dflt).1,(o.getD n qAB.dflt).2.1,(o.getD n qAB.dflt).2.2.1,(o.getD n qAB.dflt).2.2.2.1,(o.getD n qAB.dflt).2.2.2.2.1,(o.getD n qAB.dflt).2.2.2.2.2.1,(o.getD n qAB.dflt).2.2.2.2.2.2 ++ [k])).set n
   ((o.set n ((o.getD n qAB.dflt).1,(o.getD n qAB.dflt).2.1,(o.getD n qAB.dflt).2.2.1,(o.getD n qAB.dflt).2.2.2.1,(o.getD n qAB.dflt).2.2.2.2.1,(o.getD n qAB.dflt).2.2.2.2.2.1,(o.getD n qAB.dflt).2.2.2.2.2.2 ++ [k])).getD n qAB.dflt) = qDP o n k := by
 rw [List.set_set]
 unfold qDP
 congr 1
 rw [List.getD_eq_getElem?_getD,List.getElem?_set,if_pos rfl,if_pos h]
 rfl
theorem qtU (N : Nat) : ∀ (t out : List qAG) (s : List Bool) (k up : Int),
  FnM BN 66 [.agg [.rd qAB t],.int .i64 k,.int .i64 up,.agg [.own 0],.own 1] [(0,.nst qAB 6 out none),(1,.ow .bool s)]
   (qkL t out s k ∧ unseen (s.set k.toNat true) < N)
   (.agg [.own 0]) [(0,.nst qAB 6 (qOR t (qAC t) out s k.toNat up) none),(1,.ow .bool (qYW (qAC t) s k.toNat))] := by
 induction N with
 | zero => intro t out s k up;exact ⟨Tryz.call66,fun h => absurd h.2 (Nat.not_lt_zero _)⟩
 | succ N ih =>
  intro t out s k up
  refine FnM.intro (N := 99) [0,1,2,3,4,5,8,10,11,12,13,14,48,75] [(12,[0,7,0,0,7,0,4,4,4,0,7,4,4,4,4,4,4]),(3000012,[454,519,779,840,844,909,974,1039])] 2 Tryz.call66 Tryz.func66 rfl rfl (by kernel_rfl) (fun hpre => ?_)
  obtain ⟨⟨hsm,hsl,hk,hlen⟩,hN⟩ := hpre
  repeat' ((conv => whnf);first|exact qR|intro _|refine WA ?_ ?_|refine WF ?_|refine W1 rfl ?_ ?_|refine W2 rfl ?_ ?_|refine W3 rfl ?_ ?_|refine W4 ?_ ?_|refine W5 rfl ?_ ?_|refine W6 ?_ ?_|refine WN ?_|refine X1 (W1 rfl ?_ ?_)|refine X1 (W2 rfl ?_ ?_)|refine X2 (W7 rfl ?_ ?_)|refine X3 (W7 rfl ?_ ?_)|refine X4 (W7 rfl ?_ ?_)|refine X5 (W7 rfl ?_ ?_))
  all_goals (try (conv => whnf))
  all_goals (try first|exact obA|refine Ob.mk ?_)
  all_goals (try simp only [qZR,qVD,qYS,qUF,List.length_singleton] at *)
  ·have h64 := (qKB hsm k (qD7.2 hk)).1
   simp only [cast_eq,List.length_nil,Nat.zero_add]
   change ((nd t k).2.2.2.1.length * 32 ≤ _ ∧ (nd t k).2.2.2.1.length ≤ _)
   omega
  refine LoopStop.mk (α := List qAG × List Bool × Nat) (fun a => [(13,.int .i64 a.2.2)]) (fun a => [(0,.nst qAB 6 a.1 none),(1,.ow .bool a.2.1)]) 20
   (fun a => pS t (qAC t) a.1 a.2.1 out.length k.toNat a.2.2 = qOR t (qAC t) out s k.toNat up ∧ sS (qAC t) a.2.1 k.toNat a.2.2 = qYW (qAC t) s k.toNat ∧ a.2.1.length = t.length ∧ a.1.length + unseen a.2.1 ≤ 5000 ∧
    out.length < a.1.length ∧ (a.1.getD out.length qAB.dflt).kids.length ≤ a.2.2 ∧ a.2.2 ≤ (qAC t k.toNat).length ∧ unseen a.2.1 ≤ N)
   (fun a => (qAC t k.toNat).length - a.2.2) (out ++ [mkN (t.getD k.toNat qAB.dflt) up],s.set k.toNat true,0) ⟨rfl,rfl,by simpa using hsl,by simp only [List.length_append,List.length_singleton];omega,by simp,by simp [mkN,qAG.kids],Nat.zero_le _,by show unseen (s.set k.toNat true) ≤ N;omega⟩ ?_ (fun a ha => ?_)
  ·all_goals exact vcA
  ·obtain ⟨o,q,j⟩ := a
   dsimp only at ha ⊢
   obtain ⟨h1,h2,h3,h4,h5,h6,h7,h8⟩ := ha
   repeat' ((conv => whnf);first|exact qR|intro _|refine WA ?_ ?_|refine WF ?_|refine W1 rfl ?_ ?_|refine W2 rfl ?_ ?_|refine W3 rfl ?_ ?_|refine W4 ?_ ?_|refine W5 rfl ?_ ?_|refine W6 ?_ ?_|refine WN ?_|refine X1 (W1 rfl ?_ ?_)|refine X1 (W2 rfl ?_ ?_)|refine X2 (W7 rfl ?_ ?_)|refine X3 (W7 rfl ?_ ?_)|refine X4 (W7 rfl ?_ ?_)|refine X5 (W7 rfl ?_ ?_))
   all_goals (try (conv => whnf))
   all_goals (try first|exact obA|refine Ob.mk ?_)
   all_goals (try simp only [Int.toNat_natCast] at *)
   ·rename_i c1 c2 c3
    have hj : j < (qAC t k.toNat).length := by have h := of_decide_eq_true c2;exact Int.ofNat_lt.mp h
    have hc : okK q ((qAC t k.toNat).getD j 0) = true := by rw [← qdW h3];exact c3
    refine ZStop.mk [] [(0,.nst qAB 6 (qDP o out.length o.length) none)] 60 ?_
    have o1 : Ob (0 ≤ (out.length : Int) ∧ (out.length : Int) < o.length) := Ob.mk ⟨by omega,by omega⟩
    have o2 : Ob ((out.length : Int).toNat < o.length) := Ob.mk (by omega)
    have hkl : (qAC t k.toNat).length ≤ 1000 := (qKB hsm k (qD7.2 hk)).2
    have o3 : Ob (out.length < o.length ∧ ((o.getD out.length qAB.dflt).kids.length + 1) * 8 ≤ 70368744177664 ∧ (o.getD out.length qAB.dflt).kids.length + 1 ≤ 70368744177664) := Ob.mk ⟨h5,by omega,by omega⟩
    have hok := qBW hc
    have hu := qBA hok.2.2
    repeat' ((conv => whnf);first|exact qR|intro _|refine WA ?_ ?_|refine WF ?_|refine W1 rfl ?_ ?_|refine W2 rfl ?_ ?_|refine W3 rfl ?_ ?_|refine W4 ?_ ?_|refine W5 rfl ?_ ?_|refine W6 ?_ ?_|refine WN ?_|refine X1 (W1 rfl ?_ ?_)|refine X1 (W2 rfl ?_ ?_)|refine X2 (W7 rfl ?_ ?_)|refine X3 (W7 rfl ?_ ?_)|refine X4 (W7 rfl ?_ ?_)|refine X5 (W7 rfl ?_ ?_))
    all_goals (try (conv => whnf))
    all_goals (first | exact o1 | exact o2 | exact o3 | exact Ob.mk rfl | (refine Ob.mk ?_;rw [List.length_set];first | exact o1.h | exact o2.h) | skip)
    any_goals (refine Rnd.mk (p := qHY _ _ _ _ _) ?_)
    repeat' ((conv => whnf);first|exact qR|intro _|refine WA ?_ ?_|refine WF ?_|refine W1 rfl ?_ ?_|refine W2 rfl ?_ ?_|refine W3 rfl ?_ ?_|refine W4 ?_ ?_|refine W5 rfl ?_ ?_|refine W6 ?_ ?_|refine WN ?_|refine X1 (W1 rfl ?_ ?_)|refine X1 (W2 rfl ?_ ?_)|refine X2 (W7 rfl ?_ ?_)|refine X3 (W7 rfl ?_ ?_)|refine X4 (W7 rfl ?_ ?_)|refine X5 (W7 rfl ?_ ?_))
    all_goals (try (conv => whnf))
    all_goals (try exact congrArg (fun l => Chunk.nst qAB 6 l none) (qRQ o out.length o.length h5))
    ·refine Ob.mk ⟨⟨hsm,h3,⟨hok.1,by have h := hok.2.1;rw [h3] at h;exact (by omega : (qAC t k.toNat).getD j 0 < (t.length : Int))⟩,by rw [qEM];change o.length + unseen (q.set ((qAC t k.toNat).getD j 0).toNat true) + 1 ≤ _;omega⟩,by change unseen (q.set ((qAC t k.toNat).getD j 0).toNat true) < N;omega⟩
    ·exact Ob.mk ⟨by omega,by omega⟩
    obtain ⟨e1,e2⟩ := qlG (t := t) (out := o) (p := out.length) hj hc
    rw [e1] at h1;rw [e2] at h2
    obtain ⟨l1,l2,l3,l4⟩ := qOM (t := t) (K := qAC t) (qDP o out.length o.length) q ((qAC t k.toNat).getD j 0).toNat out.length
    rw [qEM] at l1 l2 l3
    refine Rnd.mk ⟨(qOR t (qAC t) (qDP o out.length o.length) q ((qAC t k.toNat).getD j 0).toNat out.length,qYW (qAC t) q ((qAC t k.toNat).getD j 0).toNat,j + 1),⟨h1,h2,l4.trans h3,by dsimp only;omega,by dsimp only;omega,?_,by show j + 1 ≤ _;omega,by dsimp only;omega⟩,by show _ - (j + 1) < _;omega,?_⟩
    ·dsimp only
     rw [l3 _ h5,qMI _ _ _ h5,List.length_append,List.length_singleton]
     exact Nat.succ_le_succ h6
    ·all_goals exact vcA
   ·rename_i c1 c2 c3
    have hj : j < (qAC t k.toNat).length := by have h := of_decide_eq_true c2;exact Int.ofNat_lt.mp h
    have hc : okK q ((qAC t k.toNat).getD j 0) = false := by rw [← qdW h3];exact c3
    obtain ⟨e1,e2⟩ := qe4 (t := t) (out := o) (p := out.length) hj hc
    rw [e1] at h1;rw [e2] at h2
    refine Rnd.mk ⟨(o,q,j + 1),⟨h1,h2,h3,h4,h5,Nat.le_succ_of_le h6,by show j + 1 ≤ _;omega,h8⟩,by show _ - (j + 1) < _;omega,?_⟩
    all_goals exact vcA
   all_goals (rename_i c1 c2)
   all_goals (have hj : ¬ j < (qAC t k.toNat).length := by have h := of_decide_eq_false c2;exact fun q => h (Int.ofNat_lt.mpr q))
   all_goals (obtain ⟨e1,e2⟩ := qeP (t := t) (out := o) (p := out.length) (s := q) hj;rw [e1] at h1;rw [e2] at h2)
   ·rw [h1]
   ·rw [h2]
instance hPut14 (t out : List qAG) (s : List Bool) (k up : Int) :
  FnM BN 66 [.agg [.rd qAB t],.int .i64 k,.int .i64 up,.agg [.own 0],.own 1] [(0,.nst qAB 6 out none),(1,.ow .bool s)] (qkL t out s k)
   (.agg [.own 0]) [(0,.nst qAB 6 (qOR t (qAC t) out s k.toNat up) none),(1,.ow .bool (qYW (qAC t) s k.toNat))] :=
 have h := qtU (unseen (s.set k.toNat true) + 1) t out s k up
 ⟨h.call,fun hp => h.ok ⟨hp,Nat.lt_succ_self _⟩⟩
end Go.Vc

namespace Go.Vc
open Go.Proofs
set_option maxRecDepth 10000
set_option maxHeartbeats 4000000
instance hPut0 (t : List qAG) (s : List Bool) (k up : Int) :
  FnM BN 66 [.agg [.rd qAB t],.int .i64 k,.int .i64 up,.agg [.nils],.own 0] [(0,.own .bool s)] (qkL t [] s k)
   (.agg [.own 1]) [(1,.nst qAB 6 (qOR t (qAC t) [] s k.toNat up) none)] := by
  refine FnM.intro (N := 99) [0,1,2,3,4,5,8,10,11,12,13,14,48,75] [(12,[0,7,0,0,7,0,4,4,4,0,7,4,4,4,4,4,4]),(3000012,[454,519,779,840,844,909,974,1039]),(2000000,[0])] 1 Tryz.call66 Tryz.func66 rfl rfl (by kernel_rfl) (fun hpre => ?_)
  obtain ⟨hsm,hsl,hk,hlen⟩ := hpre
  simp only [List.length_nil,Nat.zero_add] at hlen
  repeat' ((conv => whnf);first|exact qR|intro _|refine WA ?_ ?_|refine WF ?_|refine W1 rfl ?_ ?_|refine W2 rfl ?_ ?_|refine W3 rfl ?_ ?_|refine W4 ?_ ?_|refine W5 rfl ?_ ?_|refine W6 ?_ ?_|refine AppN.ns ?_|refine X1 (W1 rfl ?_ ?_)|refine X1 (W2 rfl ?_ ?_)|refine X2 (W7 rfl ?_ ?_)|refine X3 (W7 rfl ?_ ?_)|refine X4 (W7 rfl ?_ ?_)|refine X5 (W7 rfl ?_ ?_))
  all_goals (try (conv => whnf))
  all_goals (try first|exact obA|refine Ob.mk ?_)
  all_goals (try simp only [qZR,qVD,qYS,qUF,List.length_singleton] at *)
  ·have h64 := (qKB hsm k (qD7.2 hk)).1
   simp only [cast_eq,List.length_nil,Nat.zero_add]
   change ((nd t k).2.2.2.1.length * 32 ≤ _ ∧ (nd t k).2.2.2.1.length ≤ _)
   omega
  refine LoopStop.mk (α := List qAG × List Bool × Nat) (fun a => [(13,.int .i64 a.2.2)]) (fun a => [(6,.nst qAB 6 a.1 none),(0,.ow .bool a.2.1)]) 20
   (fun a => pS t (qAC t) a.1 a.2.1 0 k.toNat a.2.2 = qOR t (qAC t) [] s k.toNat up ∧ sS (qAC t) a.2.1 k.toNat a.2.2 = qYW (qAC t) s k.toNat ∧ a.2.1.length = t.length ∧ a.1.length + unseen a.2.1 ≤ 5000 ∧
    0 < a.1.length ∧ (a.1.getD 0 qAB.dflt).kids.length ≤ a.2.2 ∧ a.2.2 ≤ (qAC t k.toNat).length)
   (fun a => (qAC t k.toNat).length - a.2.2) ([] ++ [mkN (t.getD k.toNat qAB.dflt) up],s.set k.toNat true,0) ⟨rfl,rfl,by simpa using hsl,by simp only [List.length_append,List.length_singleton,List.length_nil];omega,by simp,by simp [mkN,qAG.kids],Nat.zero_le _⟩ ?_ (fun a ha => ?_)
  ·all_goals exact vcA
  ·obtain ⟨o,q,j⟩ := a
   dsimp only at ha ⊢
   obtain ⟨h1,h2,h3,h4,h5,h6,h7⟩ := ha
   repeat' ((conv => whnf);first|exact qR|intro _|refine WA ?_ ?_|refine WF ?_|refine W1 rfl ?_ ?_|refine W2 rfl ?_ ?_|refine W3 rfl ?_ ?_|refine W4 ?_ ?_|refine W5 rfl ?_ ?_|refine W6 ?_ ?_|refine WN ?_|refine X1 (W1 rfl ?_ ?_)|refine X1 (W2 rfl ?_ ?_)|refine X2 (W7 rfl ?_ ?_)|refine X3 (W7 rfl ?_ ?_)|refine X4 (W7 rfl ?_ ?_)|refine X5 (W7 rfl ?_ ?_))
   all_goals (try (conv => whnf))
   all_goals (try first|exact obA|refine Ob.mk ?_)
   all_goals (try simp only [Int.toNat_natCast] at *)
   ·rename_i c1 c2 c3
    have hj : j < (qAC t k.toNat).length := by have h := of_decide_eq_true c2;exact Int.ofNat_lt.mp h
    have hc : okK q ((qAC t k.toNat).getD j 0) = true := by rw [← qdW h3];exact c3
    refine ZStop.mk [] [(6,.nst qAB 6 (qDP o 0 o.length) none)] 60 ?_
    have o1 : Ob (0 ≤ (0 : Int) ∧ (0 : Int) < o.length) := Ob.mk ⟨by omega,by omega⟩
    have o2 : Ob ((0 : Int).toNat < o.length) := Ob.mk (by omega)
    have hkl : (qAC t k.toNat).length ≤ 1000 := (qKB hsm k (qD7.2 hk)).2
    have o3 : Ob (0 < o.length ∧ ((o.getD 0 qAB.dflt).kids.length + 1) * 8 ≤ 70368744177664 ∧ (o.getD 0 qAB.dflt).kids.length + 1 ≤ 70368744177664) := Ob.mk ⟨h5,by omega,by omega⟩
    have hok := qBW hc
    have hu := qBA hok.2.2
    repeat' ((conv => whnf);first|exact qR|intro _|refine WA ?_ ?_|refine WF ?_|refine W1 rfl ?_ ?_|refine W2 rfl ?_ ?_|refine W3 rfl ?_ ?_|refine W4 ?_ ?_|refine W5 rfl ?_ ?_|refine W6 ?_ ?_|refine WN ?_|refine X1 (W1 rfl ?_ ?_)|refine X1 (W2 rfl ?_ ?_)|refine X2 (W7 rfl ?_ ?_)|refine X3 (W7 rfl ?_ ?_)|refine X4 (W7 rfl ?_ ?_)|refine X5 (W7 rfl ?_ ?_))
    all_goals (try (conv => whnf))
    all_goals (first | exact o1 | exact o2 | exact o3 | exact Ob.mk rfl | (refine Ob.mk ?_;rw [List.length_set];first | exact o1.h | exact o2.h) | skip)
    any_goals (refine Rnd.mk (p := qHY _ _ _ _ _) ?_)
    repeat' ((conv => whnf);first|exact qR|intro _|refine WA ?_ ?_|refine WF ?_|refine W1 rfl ?_ ?_|refine W2 rfl ?_ ?_|refine W3 rfl ?_ ?_|refine W4 ?_ ?_|refine W5 rfl ?_ ?_|refine W6 ?_ ?_|refine WN ?_|refine X1 (W1 rfl ?_ ?_)|refine X1 (W2 rfl ?_ ?_)|refine X2 (W7 rfl ?_ ?_)|refine X3 (W7 rfl ?_ ?_)|refine X4 (W7 rfl ?_ ?_)|refine X5 (W7 rfl ?_ ?_))
    all_goals (try (conv => whnf))
    all_goals (try exact congrArg (fun l => Chunk.nst qAB 6 l none) (qRQ o 0 o.length h5))
    ·refine Ob.mk ⟨hsm,h3,⟨hok.1,by have h := hok.2.1;rw [h3] at h;exact (by omega : (qAC t k.toNat).getD j 0 < (t.length : Int))⟩,by rw [qEM];change o.length + unseen (q.set ((qAC t k.toNat).getD j 0).toNat true) + 1 ≤ _;omega⟩
    ·exact Ob.mk ⟨by omega,by omega⟩
    obtain ⟨e1,e2⟩ := qlG (t := t) (out := o) (p := 0) hj hc
    rw [e1] at h1;rw [e2] at h2
    obtain ⟨l1,l2,l3,l4⟩ := qOM (t := t) (K := qAC t) (qDP o 0 o.length) q ((qAC t k.toNat).getD j 0).toNat 0
    rw [qEM] at l1 l2 l3
    refine Rnd.mk ⟨(qOR t (qAC t) (qDP o 0 o.length) q ((qAC t k.toNat).getD j 0).toNat 0,qYW (qAC t) q ((qAC t k.toNat).getD j 0).toNat,j + 1),⟨h1,h2,l4.trans h3,by dsimp only;omega,by dsimp only;omega,?_,by show j + 1 ≤ _;omega⟩,by show _ - (j + 1) < _;omega,?_⟩
    ·dsimp only
     rw [l3 _ h5,qMI _ _ _ h5,List.length_append,List.length_singleton]
     exact Nat.succ_le_succ h6
    ·all_goals exact vcA
   ·rename_i c1 c2 c3
    have hj : j < (qAC t k.toNat).length := by have h := of_decide_eq_true c2;exact Int.ofNat_lt.mp h
    have hc : okK q ((qAC t k.toNat).getD j 0) = false := by rw [← qdW h3];exact c3
    obtain ⟨e1,e2⟩ := qe4 (t := t) (out := o) (p := 0) hj hc
    rw [e1] at h1;rw [e2] at h2
    refine Rnd.mk ⟨(o,q,j + 1),⟨h1,h2,h3,h4,h5,Nat.le_succ_of_le h6,by show j + 1 ≤ _;omega⟩,by show _ - (j + 1) < _;omega,?_⟩
    all_goals exact vcA
   all_goals (rename_i c1 c2)
   all_goals (have hj : ¬ j < (qAC t k.toNat).length := by have h := of_decide_eq_false c2;exact fun q => h (Int.ofNat_lt.mpr q))
   all_goals (obtain ⟨e1,e2⟩ := qeP (t := t) (out := o) (p := 0) (s := q) hj;rw [e1] at h1;rw [e2] at h2)
   ·rw [h1]
end Go.Vc

namespace Go.Vc
open Go.Proofs
set_option maxRecDepth 10000
set_option maxHeartbeats 4000000
def qD8 (t : List qAG) : List qAG := if t = [] then [qZ8] else qOR t (qAC t) [] (List.replicate t.length false) 0 (-1)
theorem qJI (s : List Bool) : unseen s ≤ s.length := List.count_le_length
theorem qXP {t : List qAG} (h : qFT t = true) (h0 : ¬ ((t.length : Int) == 0) = true) : qkL t [] (List.replicate t.length false) 0 := by
 have h1 : 0 < t.length := by
  rcases Nat.eq_zero_or_pos t.length with h | h
  ·exact absurd (by rw [h];rfl) h0
  ·exact h
 have h2 := qQ4 h
 have h3 := qJI ((List.replicate t.length false).set 0 true)
 rw [List.length_set,List.length_replicate] at h3
 refine ⟨h,List.length_replicate,⟨Int.le_refl 0,by omega⟩,?_⟩
 show 0 + unseen ((List.replicate t.length false).set 0 true) + 1 ≤ 5000
 omega
theorem qcH {t : List qAG} (h0 : ((t.length : Int) == 0) = true) : qD8 t = [qZ8] := by
 have h1 : t.length = 0 := by have := eq_of_beq h0;omega
 unfold qD8;rw [if_pos (List.length_eq_zero_iff.1 h1)]
theorem qf3 {t : List qAG} (h0 : ¬ ((t.length : Int) == 0) = true) : qD8 t = qOR t (qAC t) [] (List.replicate t.length false) 0 (-1) := by
 unfold qD8;rw [if_neg (fun h => h0 (by rw [h];rfl))]
instance hTidyN (t : List qAG) : FnM BN 65 [.agg [.rd qAB t]] [] (qFT t = true) (.agg [.rd qAB (qD8 t)]) [] := by
 refine FnM.intro (N := 15) [0,1,2,6] [(3,[4,4,0,4,4,4,4,4])] 0 Tryz.call65 Tryz.func65 rfl rfl (by kernel_rfl) (fun hpre => ?_)
 repeat' ((conv => whnf);first|exact qR|intro _|refine WA ?_ ?_|refine WF ?_|refine W1 rfl ?_ ?_|refine W2 rfl ?_ ?_|refine W3 rfl ?_ ?_|refine W4 ?_ ?_|refine W5 rfl ?_ ?_|refine W6 ?_ ?_|refine WN ?_|refine X1 (W1 rfl ?_ ?_)|refine X1 (W2 rfl ?_ ?_)|refine X2 (W7 rfl ?_ ?_)|refine X3 (W7 rfl ?_ ?_)|refine X4 (W7 rfl ?_ ?_)|refine X5 (W7 rfl ?_ ?_))
 all_goals (try (conv => whnf))
 all_goals (try first|exact obA|refine Ob.mk ?_)
 ·rw [qcH ‹_›]
 all_goals (have h0 : ¬ ((t.length : Int) == 0) = true := by rw [show ((t.length : Int) == 0) = false from by assumption];decide)
 all_goals (first | exact qXP hpre h0 | (rw [qf3 h0];rfl) | (have := qQ4 hpre;refine ⟨by omega,by omega,?_,by omega⟩;show (t.length : Int) * ((1 : Nat) : Int) ≤ _;omega))
end Go.Vc

namespace Go.Vc
open Go.Proofs
set_option maxRecDepth 10000
set_option maxHeartbeats 4000000
def qlX (l : List qAG) : List qAG := l.set 0 (0,0,[],[],[], -1,(l.getD 0 qAB.dflt).kids)
def qhO (x : List qAG) (k : Nat) : List qAG := qlX (qOR x (qAC x) [] (List.replicate x.length false) k (-1))
def qV3 (l : List Int) (i : Int) : Option Nat := (List.range l.length).find? fun k => l.getD k 0 == i
def qeE (t : List qAG) (i : Int) : List qAG := match qV3 (qCM (fin t).L) i with | some k => qhO (qD8 t) k | none => [qZ8]
theorem qc8 {l : List Int} {i : Int} {k : Nat} (hk : k < l.length) (h : l.getD k 0 = i) (h0 : ∀ j,j < k → l.getD j 0 ≠ i) : qV3 l i = some k := by
 unfold qV3
 rw [List.find?_eq_some_iff_append]
 refine ⟨by rw [h];simp,List.range k,(List.range' (k + 1) (l.length - (k + 1))),?_,fun a ha => ?_⟩
 ·rw [List.range_eq_range',List.range_eq_range',show l.length = k + (1 + (l.length - (k + 1))) by omega, ← List.range'_append_1, ← List.range'_append_1]
  simp
  omega
 ·simpa using h0 a (by simpa using ha)
theorem qMA {l : List Int} {i : Int} (h0 : ∀ j,j < l.length → l.getD j 0 ≠ i) : qV3 l i = none := by
 unfold qV3
 rw [List.find?_eq_none]
 intro a ha
 simpa using h0 a (by simpa using ha)
def qUJ (t : List qAG) : Prop := qFT t = true ∧ t.length ≤ 45 ∧ qFT (qD8 t) = true ∧ (fin t).L.length ≤ (qD8 t).length ∧ (qD8 t).length ≤ 1000
instance hSubN (t : List qAG) (i : Int) : FnM BN 38 [.agg [.rd qAB t],.int .i64 i] [] (qUJ t) (.agg [.rd qAB (qeE t i)]) [] := by
 refine FnM.intro (N := 67) [0,1,2,4,5,7,8,9,10,30,39,47] [(10,[0,0,6,0,0,0,6,6,6,6]),(11,[0,1,0,1,1,1,1,1,3,3])] 0 Tryz.call38 Tryz.func38 rfl rfl (by kernel_rfl) (fun hpre => ?_)
 obtain ⟨h1,h2,h3,h4,h5⟩ := hpre
 have d := qN2 (qAC t) t.length
 have hlI : (fin t).I.length = t.length := d.lI
 have hll : (qCM (fin t).L).length = (fin t).L.length := by unfold qCM;rw [List.length_map]
 have hL : (fin t).L.length ≤ 45 := by have := qVJ d.nod d.lt;have e : (qYE (qAC t) t.length).L = (fin t).L := rfl;rw [e] at this;omega
 have pp : ∀ k : Nat,k < (fin t).L.length → qkL (qD8 t) [] (List.replicate (qD8 t).length false) (k : Int) := fun k hk => by
  have h := qJI ((List.replicate (qD8 t).length false).set (k : Int).toNat true)
  rw [List.length_set,List.length_replicate] at h
  exact ⟨h3,List.length_replicate,⟨by omega,by omega⟩,by show 0 + _ + 1 ≤ 5000;omega⟩
 have hin : ∀ j,j < (qCM (fin t).L).length → (qCM (fin t).L).getD j 0 = i → 0 ≤ i ∧ i < ((fin t).I.length : Int) ∧ ¬ (fin t).I.getD i.toNat qAI.dflt < 0 := fun j hj e => by
  rw [hll] at hj
  have hm : (fin t).L.getD j 0 ∈ (fin t).L := by rw [List.getD_eq_getElem?_getD,List.getElem?_eq_getElem hj];exact List.getElem_mem _
  have e2 : (qCM (fin t).L).getD j 0 = ((fin t).L.getD j 0 : Nat) := by unfold qCM;simp [List.getD,hj]
  have e3 : i.toNat = (fin t).L.getD j 0 := by omega
  have hlt := d.lt _ hm
  have hr := d.rI _ hm
  have e4 : (fin t).I.getD i.toNat qAI.dflt = (qYE (qAC t) t.length).I.getD ((fin t).L.getD j 0) (-1) := by
   rw [e3]
   show (fin t).I.getD _ _ = (fin t).I.getD _ _
   simp [List.getD,show (fin t).L[j]?.getD 0 < (fin t).I.length by rw [hlI];exact hlt]
  rw [e4,hlI]
  have hlt2 : (fin t).L.getD j 0 < t.length := hlt
  omega
 repeat' ((conv => whnf);first|exact qR|intro _|refine WA ?_ ?_|refine WF ?_|refine W1 rfl ?_ ?_|refine W2 rfl ?_ ?_|refine W3 rfl ?_ ?_|refine W4 ?_ ?_|refine W5 rfl ?_ ?_|refine W6 ?_ ?_|refine WN ?_|refine X1 (W1 rfl ?_ ?_)|refine X1 (W2 rfl ?_ ?_)|refine X2 (W7 rfl ?_ ?_)|refine X3 (W7 rfl ?_ ?_)|refine X4 (W7 rfl ?_ ?_)|refine X5 (W7 rfl ?_ ?_))
 all_goals (try (conv => whnf))
 all_goals (try first|exact obA|refine Ob.mk ?_)
 ·have h := ‹(decide (i < 0) || decide (i ≥ ((fin t).I.length : Int))) = false›
  simp only [Bool.or_eq_false_iff,decide_eq_false_iff_not] at h
  omega
 ·have h := ‹(decide (i < 0) || decide (i ≥ ((fin t).I.length : Int)) || decide ((fin t).I.getD i.toNat qAI.dflt < 0)) = true›
  simp only [Bool.or_eq_true,decide_eq_true_eq] at h
  unfold qeE
  rw [qMA (fun j hj e => by have := hin j hj e;omega)]
 refine LoopStop.mk (α := Nat) (fun k => [(9,.int .i64 k)]) (fun _ => []) 20 (fun k => k ≤ (qCM (fin t).L).length ∧ ∀ j,j < k → (qCM (fin t).L).getD j 0 ≠ i) (fun k => (qCM (fin t).L).length - k) 0 ⟨Nat.zero_le _,fun j hj => absurd hj (Nat.not_lt_zero _)⟩ ?_ (fun k hk => ?_)
 ·all_goals exact vcA
 ·obtain ⟨hk,ha⟩ := hk
  repeat' ((conv => whnf);first|exact qR|intro _|refine WA ?_ ?_|refine WF ?_|refine W1 rfl ?_ ?_|refine W2 rfl ?_ ?_|refine W3 rfl ?_ ?_|refine W4 ?_ ?_|refine W5 rfl ?_ ?_|refine W6 ?_ ?_|refine WN ?_|refine X1 (W1 rfl ?_ ?_)|refine X1 (W2 rfl ?_ ?_)|refine X2 (W7 rfl ?_ ?_)|refine X3 (W7 rfl ?_ ?_)|refine X4 (W7 rfl ?_ ?_)|refine X5 (W7 rfl ?_ ?_))
  all_goals (try (conv => whnf))
  all_goals (try first|exact obA|refine Ob.mk ?_)
  all_goals (try simp only [Int.toNat_natCast] at *)
  all_goals (try (have hp : k < (qCM (fin t).L).length := by have h := of_decide_eq_true ‹decide ((k : Int) < ((qCM (fin t).L).length : Int)) = true›;omega))
  all_goals (try (exact pp k (by omega)))
  all_goals (try (have hlen := qOM (t := qD8 t) (K := qAC (qD8 t)) [] (List.replicate (qD8 t).length false) k (-1)))
  all_goals (try (have hl1 : 1 ≤ (qOR (qD8 t) (qAC (qD8 t)) [] (List.replicate (qD8 t).length false) k (-1)).length := hlen.1))
  all_goals clear hlen
  all_goals (try (first | omega | (constructor <;> omega)))
  ·unfold qeE
   rw [qc8 hp (show (qCM (fin t).L).getD k qAI.dflt = i from beq_iff_eq.1 ‹((qCM (fin t).L).getD k qAI.dflt == i) = true›) ha]
   rfl
  ·refine Rnd.mk ⟨k + 1,⟨by omega,fun j hj => ?_⟩,by omega,?_⟩
   ·rcases Nat.lt_or_ge j k with q | q
    ·exact ha j q
    ·have e : j = k := by omega
     rw [e];exact fun (q : (qCM (fin t).L).getD k qAI.dflt = i) => absurd (beq_iff_eq.2 q) (by rw [‹((qCM (fin t).L).getD k qAI.dflt == i) = false›];decide)
   ·all_goals exact vcA
  ·have e : k = (qCM (fin t).L).length := by have h := of_decide_eq_false ‹decide ((k : Int) < ((qCM (fin t).L).length : Int)) = false›;omega
   unfold qeE
   rw [qMA (fun j hj => ha j (by omega))]
instance hSub14 (t : List qAG) (i : Int) : Fn BB 38 [.agg [.rd qAB t],.int .i64 i] (qUJ t) (.agg [.rd qAB (qeE t i)]) :=
 have h := hSubN t i
 ⟨h.call,h.ok⟩
end Go.Vc

namespace Go.Vc
open Go.Proofs
set_option maxRecDepth 10000
instance xAt16 (l : List Int) (w : Int) : Fn BB 238 [.rd qAI l,.int .i64 w] True (.int .i64 (qQX l w)) := by
 refine Fn.intro (N := 19) [0,1,4,5,9,17] [] Tryz.call238 Tryz.func238 rfl rfl (by kernel_rfl) (fun hpre => ?_)
 repeat' ((conv => whnf);first|exact qR|intro _|refine WA ?_ ?_|refine WF ?_|refine W1 rfl ?_ ?_|refine W2 rfl ?_ ?_|refine W3 rfl ?_ ?_|refine W4 ?_ ?_|refine W5 rfl ?_ ?_|refine W6 ?_ ?_|refine WN ?_|refine X1 (W1 rfl ?_ ?_)|refine X1 (W2 rfl ?_ ?_)|refine X2 (W7 rfl ?_ ?_)|refine X3 (W7 rfl ?_ ?_)|refine X4 (W7 rfl ?_ ?_)|refine X5 (W7 rfl ?_ ?_))
 all_goals (try (conv => whnf))
 all_goals (try first|exact obA|refine Ob.mk ?_)
 refine LoopStop.mk (α := Nat) (fun i => [(5,.int .i64 i)]) (fun i => []) 20 (fun i => i ≤ l.length ∧ (l.take i).contains w = false) (fun i => l.length - i) 0 (by simp) ?_ (fun i hi => ?_)
 ·repeat' ((conv => whnf);first|exact qR|intro _|refine WA ?_ ?_|refine WF ?_|refine W1 rfl ?_ ?_|refine W2 rfl ?_ ?_|refine W3 rfl ?_ ?_|refine W4 ?_ ?_|refine W5 rfl ?_ ?_|refine W6 ?_ ?_|refine WN ?_|refine X1 (W1 rfl ?_ ?_)|refine X1 (W2 rfl ?_ ?_)|refine X2 (W7 rfl ?_ ?_)|refine X3 (W7 rfl ?_ ?_)|refine X4 (W7 rfl ?_ ?_)|refine X5 (W7 rfl ?_ ?_))
  all_goals (try (conv => whnf))
  all_goals (try rfl)
 ·obtain ⟨hi,ha⟩ := hi
  repeat' ((conv => whnf);first|exact qR|intro _|refine WA ?_ ?_|refine WF ?_|refine W1 rfl ?_ ?_|refine W2 rfl ?_ ?_|refine W3 rfl ?_ ?_|refine W4 ?_ ?_|refine W5 rfl ?_ ?_|refine W6 ?_ ?_|refine WN ?_|refine X1 (W1 rfl ?_ ?_)|refine X1 (W2 rfl ?_ ?_)|refine X2 (W7 rfl ?_ ?_)|refine X3 (W7 rfl ?_ ?_)|refine X4 (W7 rfl ?_ ?_)|refine X5 (W7 rfl ?_ ?_))
  all_goals (try (conv => whnf))
  all_goals (try first|exact obA|refine Ob.mk ?_)
  all_goals (try simp only [ZA,ZB,ZC,ZD,ZE,ZF,ZG,ZH,ZI,ZJ,ZK,ZL,ZM,ZN,ZO,Int.toNat_natCast,UInt8.ofNat_toNat,cast_eq] at *)
  ·rw [qNX (i := i) (by omega) (by simpa using ha) (by symm;assumption)]
  ·have h : i < l.length := by omega
   refine Rnd.mk ⟨i + 1,?_,?_,?_⟩
   ·refine ⟨by omega,?_⟩
    rw [qHP l i w h,Bool.or_eq_false_iff]
    refine ⟨by simpa using ha,beq_eq_false_iff_ne.2 fun e => ?_⟩
    simp_all
   ·omega
   ·all_goals exact vcA
  ·have : i = l.length := by omega
   subst this
   rw [qHB (by simpa using ha)]
instance xIn19 (l : List Int) (w : Int) : Fn BB 164 [.rd qAI l,.int .i64 w] True (.int .i64 (qQX l w)) := by
 refine Fn.intro (N := 8) [0,1,4] [] Tryz.call164 Tryz.func164 rfl rfl (by kernel_rfl) (fun hpre => ?_)
 all_goals exact vcA
end Go.Vc

namespace Go.Vc
open Go.Proofs
set_option maxRecDepth 10000
set_option maxHeartbeats 8000000
def qkO (l : List qAK) (a : qAK) : List qAK := if l.any (qM4 a.1) = true then l else l ++ [a]
instance gGet (l : List qAK) (nm : List UInt8) : FnM BB 152 [.own 0,.str nm] [(0,.ro qAJ l)] (l.length ≤ 100000) (.tup [.str (qVF l nm),.bool (l.any (qM4 nm))]) [(0,.ro qAJ l)] := by
 refine FnM.intro (N := 25) [0,1,4,5,6,10,19] [] 1 Tryz.call152 Tryz.func152 rfl rfl (by kernel_rfl) (fun hpre => ?_)
 repeat' ((conv => whnf);first|exact qR|intro _|refine WA ?_ ?_|refine WF ?_|refine W1 rfl ?_ ?_|refine W2 rfl ?_ ?_|refine W3 rfl ?_ ?_|refine W4 ?_ ?_|refine W5 rfl ?_ ?_|refine W6 ?_ ?_|refine WN ?_|refine X1 (W1 rfl ?_ ?_)|refine X1 (W2 rfl ?_ ?_)|refine X2 (W7 rfl ?_ ?_)|refine X3 (W7 rfl ?_ ?_)|refine X4 (W7 rfl ?_ ?_)|refine X5 (W7 rfl ?_ ?_))
 all_goals (try (conv => whnf))
 all_goals (try first|exact obA|refine Ob.mk ?_)
 refine LoopStop.mk (α := Nat) (fun k => [(6,.int .i64 k)]) (fun _ => []) 20 (fun k => k ≤ l.length ∧ (l.take k).all (fun x => !qM4 nm x) = true) (fun k => l.length - k) 0 (by simp) ?_ (fun k hk => ?_)
 ·all_goals exact vcA
 ·obtain ⟨hk,ha⟩ := hk
  repeat' ((conv => whnf);first|exact qR|intro _|refine WA ?_ ?_|refine WF ?_|refine W1 rfl ?_ ?_|refine W2 rfl ?_ ?_|refine W3 rfl ?_ ?_|refine W4 ?_ ?_|refine W5 rfl ?_ ?_|refine W6 ?_ ?_|refine WN ?_|refine X1 (W1 rfl ?_ ?_)|refine X1 (W2 rfl ?_ ?_)|refine X2 (W7 rfl ?_ ?_)|refine X3 (W7 rfl ?_ ?_)|refine X4 (W7 rfl ?_ ?_)|refine X5 (W7 rfl ?_ ?_))
  all_goals (try (conv => whnf))
  all_goals (try first|exact obA|refine Ob.mk ?_)
  all_goals (try simp only [Int.toNat_natCast] at *)
  all_goals (try (have hp : k < l.length := by have h := of_decide_eq_true ‹decide ((k : Int) < (l.length : Int)) = true›;omega))
  all_goals (try (have hh := qaG (nm := nm) hp ha (show ((l.getD k qAJ.dflt).1 == nm) = true from ‹_›)))
  all_goals (try (have hz : k = l.length := by have h := of_decide_eq_false ‹decide ((k : Int) < (l.length : Int)) = false›;omega))
  all_goals (first | omega | (rw [hh.1];done) | (rw [hh.2];done) | (subst hz;rw [List.take_length] at ha;rw [(qHF ha).1];done) | (subst hz;rw [List.take_length] at ha;rw [(qHF ha).2];done) | skip)
  have h : ((l.getD k qAJ.dflt).1 == nm) = false := ‹_›
  refine Rnd.mk ⟨k + 1,⟨by omega,?_⟩,by omega,?_⟩
  ·rw [qF1 (fun x => !qM4 nm x) l k qAJ.dflt hp,ha]
   show (true && !((l.getD k qAJ.dflt).1 == nm)) = true
   rw [h];rfl
  ·all_goals exact vcA
instance gGetN (nm : List UInt8) : Fn BB 152 [.nils,.str nm] True (.tup [.str [],.bool false]) := by
 refine Fn.intro (N := 25) [0,1,4,5,6,10,19] [] Tryz.call152 Tryz.func152 rfl rfl (by kernel_rfl) (fun hpre => ?_)
 repeat' ((conv => whnf);first|exact qR|intro _|refine WA ?_ ?_|refine WF ?_|refine W1 rfl ?_ ?_|refine W2 rfl ?_ ?_|refine W3 rfl ?_ ?_|refine W4 ?_ ?_|refine W5 rfl ?_ ?_|refine W6 ?_ ?_|refine WN ?_|refine X1 (W1 rfl ?_ ?_)|refine X1 (W2 rfl ?_ ?_)|refine X2 (W7 rfl ?_ ?_)|refine X3 (W7 rfl ?_ ?_)|refine X4 (W7 rfl ?_ ?_)|refine X5 (W7 rfl ?_ ?_))
 all_goals (try (conv => whnf))
 all_goals (try first|exact obA|refine Ob.mk ?_)
 refine LoopStop.mk (α := Unit) (fun k => [(6,.int .i64 0)]) (fun _ => []) 20 (fun k => True) (fun k => 0) () True.intro ?_ (fun k hk => ?_)
 ·all_goals exact vcA
 ·repeat' ((conv => whnf);first|exact qR|intro _|refine WA ?_ ?_|refine WF ?_|refine W1 rfl ?_ ?_|refine W2 rfl ?_ ?_|refine W3 rfl ?_ ?_|refine W4 ?_ ?_|refine W5 rfl ?_ ?_|refine W6 ?_ ?_|refine WN ?_|refine X1 (W1 rfl ?_ ?_)|refine X1 (W2 rfl ?_ ?_)|refine X2 (W7 rfl ?_ ?_)|refine X3 (W7 rfl ?_ ?_)|refine X4 (W7 rfl ?_ ?_)|refine X5 (W7 rfl ?_ ?_))
  all_goals (try (conv => whnf))
  all_goals (try first|exact obA|refine Ob.mk ?_)
  all_goals (first | (exfalso;exact absurd ‹decide ((0 : Int) < 0) = true› (by decide)) | rfl | trace_state)
instance gAdd (l : List qAK) (a b : List UInt8) : FnM BB 228 [.own 0,.agg [.str a,.str b]] [(0,.ro qAJ l)] (l.length ≤ 50000) (.own 1) [(0,.ro qAJ l),(1,.own qAJ (qkO l (a,b)))] := by
 refine FnM.intro (N := 25) [0,1,3,4,5,7,19] [] 1 Tryz.call228 Tryz.func228 rfl rfl (by kernel_rfl) (fun hpre => ?_)
 have e1 : (!l.any (qM4 a)) = true → qkO l (a,b) = l ++ [(a,b)] := fun h => by unfold qkO;rw [if_neg (by simpa using h)]
 have e2 : (!l.any (qM4 a)) = false → qkO l (a,b) = l := fun h => by unfold qkO;rw [if_pos (by simpa using h)]
 repeat' ((conv => whnf);first|exact qR|intro _|refine WA ?_ ?_|refine WF ?_|refine W1 rfl ?_ ?_|refine W2 rfl ?_ ?_|refine W3 rfl ?_ ?_|refine W4 ?_ ?_|refine W5 rfl ?_ ?_|refine W6 ?_ ?_|refine WN ?_|refine X1 (W1 rfl ?_ ?_)|refine X1 (W2 rfl ?_ ?_)|refine X2 (W7 rfl ?_ ?_)|refine X3 (W7 rfl ?_ ?_)|refine X4 (W7 rfl ?_ ?_)|refine X5 (W7 rfl ?_ ?_))
 all_goals (try (conv => whnf))
 all_goals (try first|exact obA|refine Ob.mk ?_)
 all_goals (first | (rw [e1 ‹_›];rfl) | (rw [e2 ‹_›];rfl) | trace_state)
instance gAddN (a b : List UInt8) : FnM BB 228 [.nils,.agg [.str a,.str b]] [] True (.own 0) [(0,.own qAJ [(a,b)])] := by
 refine FnM.intro (N := 25) [0,1,3,4,5,7,19] [] 0 Tryz.call228 Tryz.func228 rfl rfl (by kernel_rfl) (fun hpre => ?_)
 repeat' ((conv => whnf);first|exact qR|intro _|refine WA ?_ ?_|refine WF ?_|refine W1 rfl ?_ ?_|refine W2 rfl ?_ ?_|refine W3 rfl ?_ ?_|refine W4 ?_ ?_|refine W5 rfl ?_ ?_|refine W6 ?_ ?_|refine WN ?_|refine X1 (W1 rfl ?_ ?_)|refine X1 (W2 rfl ?_ ?_)|refine X2 (W7 rfl ?_ ?_)|refine X3 (W7 rfl ?_ ?_)|refine X4 (W7 rfl ?_ ?_)|refine X5 (W7 rfl ?_ ?_))
 all_goals (try (conv => whnf))
 all_goals (try first|exact obA|refine Ob.mk ?_)
 ·rfl
 ·exact absurd ‹(!false) = false› (by decide)
end Go.Vc

namespace Go.Vc
open Go.Proofs
set_option maxRecDepth 10000
set_option maxHeartbeats 4000000
def qYJ (l : List qAG) : Bool := l.all fun n => decide (n.2.2.1.length ≤ 60)
theorem qZ9 {l : List qAG} (h : qYJ l = true) : qeW l := fun i => by
 cases hi : isT l i with
 | false => rw [qRY hi];exact Nat.zero_le _
 | true =>
  rw [qUZ hi]
  have h2 := qD7.1 hi
  unfold qYJ at h
  rw [List.all_eq_true] at h
  have hm : nd l i ∈ l := by
   have e : nd l i = l[i.toNat] := by unfold nd;rw [List.getD_eq_getElem?_getD,List.getElem?_eq_getElem (by omega)];rfl
   rw [e];exact List.getElem_mem _
  simpa using h _ hm
instance s56m (t : List qAG) (l : List Int) (nm : List UInt8) : FnM BB 207 [.agg [.rd qAB t],.rd qAI l,.str nm] [] (nm.length ≤ 100000 ∧ l.length ≤ 100000) (.own 0) [(0,.own qAI (l.take (qYN (fun x => isE t x nm) l l.length)))] := by
 refine FnM.intro (N := 29) [0,1,2,3,6,7,10,25] [] 0 Tryz.call207 Tryz.func207 rfl rfl (by kernel_rfl) (fun hpre => ?_)
 repeat' ((conv => whnf);first|exact qR|intro _|refine WA ?_ ?_|refine WF ?_|refine W1 rfl ?_ ?_|refine W2 rfl ?_ ?_|refine W3 rfl ?_ ?_|refine W4 ?_ ?_|refine W5 rfl ?_ ?_|refine W6 ?_ ?_|refine WN ?_|refine X1 (W1 rfl ?_ ?_)|refine X1 (W2 rfl ?_ ?_)|refine X2 (W7 rfl ?_ ?_)|refine X3 (W7 rfl ?_ ?_)|refine X4 (W7 rfl ?_ ?_)|refine X5 (W7 rfl ?_ ?_))
 all_goals (try (conv => whnf))
 all_goals (try first|exact obA|refine Ob.mk ?_)
 refine LoopStop.mk (α := Nat) (fun n => [(1,.rd qAI (l.take n))]) (fun _ => []) 20 (fun n => n ≤ l.length ∧ qYN (fun x => isE t x nm) l l.length = qYN (fun x => isE t x nm) l n) (fun n => n) l.length (by simp) ?_ (fun n hC => ?_)
 ·repeat' ((conv => whnf);first|exact qR|intro _|refine WA ?_ ?_|refine WF ?_|refine W1 rfl ?_ ?_|refine W2 rfl ?_ ?_|refine W3 rfl ?_ ?_|refine W4 ?_ ?_|refine W5 rfl ?_ ?_|refine W6 ?_ ?_|refine WN ?_|refine X1 (W1 rfl ?_ ?_)|refine X1 (W2 rfl ?_ ?_)|refine X2 (W7 rfl ?_ ?_)|refine X3 (W7 rfl ?_ ?_)|refine X4 (W7 rfl ?_ ?_)|refine X5 (W7 rfl ?_ ?_))
  all_goals (try (conv => whnf))
  all_goals (try first|exact obA|refine Ob.mk ?_)
  all_goals (first | rfl | (rw [List.take_of_length_le (Nat.le_refl _)];done))
 ·obtain ⟨hn,hC⟩ := hC
  have e0 := qUK hn
  have e1 : ((n : Int) - 1).toNat = n - 1 := by omega
  have e2 : 1 < n → (l.take n).getD (n - 1) qAI.dflt = l.getD (n - 1) 0 := fun h => qO0 (by omega)
  repeat' ((conv => whnf);first|exact qR|intro _|refine WA ?_ ?_|refine WF ?_|refine W1 rfl ?_ ?_|refine W2 rfl ?_ ?_|refine W3 rfl ?_ ?_|refine W4 ?_ ?_|refine W5 rfl ?_ ?_|refine W6 ?_ ?_|refine WN ?_|refine X1 (W1 rfl ?_ ?_)|refine X1 (W2 rfl ?_ ?_)|refine X2 (W7 rfl ?_ ?_)|refine X3 (W7 rfl ?_ ?_)|refine X4 (W7 rfl ?_ ?_)|refine X5 (W7 rfl ?_ ?_))
  all_goals (try (conv => whnf))
  all_goals (try rw [e0] at *)
  all_goals (try rw [e1] at *)
  all_goals (try rw [qQY] at *)
  all_goals (try first|exact obA|refine Ob.mk ?_)
  ·rename_i h
   have h1 : 1 < n := by have := of_decide_eq_true ‹decide ((n : Int) > 1) = true›;omega
   rw [e2 h1] at h
   rw [hC.trans (qcT h1 h)];rfl
  ·rename_i h
   have h1 : 1 < n := by have := of_decide_eq_true ‹decide ((n : Int) > 1) = true›;omega
   rw [e2 h1] at h
   refine Rnd.mk ⟨n - 1,⟨by omega,hC.trans (qhM h1 h)⟩,by omega,?_,?_,?_⟩
   all_goals exact vcA
  ·have h1 : ¬ 1 < n := by have := of_decide_eq_false ‹decide ((n : Int) > 1) = false›;omega
   rw [hC.trans (qdL h1)];rfl
instance s58m (t : List qAG) (l : List Int) (nm : List UInt8) : FnM BB 248 [.agg [.rd qAB t],.rd qAI l,.str nm] [] (qeW t ∧ nm.length ≤ 100000 ∧ l.length ≤ 100000) (.own 0) [(0,.own qAI (l.take (qXL (qQU t nm) l l.length)))] := by
 refine FnM.intro (N := 44) [0,1,2,3,6,7,10,35] [(2,[0,0,0,0,0,0,0,6,6,6])] 0 Tryz.call248 Tryz.func248 rfl rfl (by kernel_rfl) (fun hpre => ?_)
 repeat' ((conv => whnf);first|exact qR|intro _|refine WA ?_ ?_|refine WF ?_|refine W1 rfl ?_ ?_|refine W2 rfl ?_ ?_|refine W3 rfl ?_ ?_|refine W4 ?_ ?_|refine W5 rfl ?_ ?_|refine W6 ?_ ?_|refine WN ?_|refine X1 (W1 rfl ?_ ?_)|refine X1 (W2 rfl ?_ ?_)|refine X2 (W7 rfl ?_ ?_)|refine X3 (W7 rfl ?_ ?_)|refine X4 (W7 rfl ?_ ?_)|refine X5 (W7 rfl ?_ ?_))
 all_goals (try (conv => whnf))
 all_goals (try first|exact obA|refine Ob.mk ?_)
 refine LoopStop.mk (α := Nat) (fun n => [(1,.rd qAI (l.take n))]) (fun _ => []) 20 (fun n => n ≤ l.length ∧ qXL (qQU t nm) l l.length = qXL (qQU t nm) l n) (fun n => n) l.length (by simp) ?_ (fun n hC => ?_)
 ·repeat' ((conv => whnf);first|exact qR|intro _|refine WA ?_ ?_|refine WF ?_|refine W1 rfl ?_ ?_|refine W2 rfl ?_ ?_|refine W3 rfl ?_ ?_|refine W4 ?_ ?_|refine W5 rfl ?_ ?_|refine W6 ?_ ?_|refine WN ?_|refine X1 (W1 rfl ?_ ?_)|refine X1 (W2 rfl ?_ ?_)|refine X2 (W7 rfl ?_ ?_)|refine X3 (W7 rfl ?_ ?_)|refine X4 (W7 rfl ?_ ?_)|refine X5 (W7 rfl ?_ ?_))
  all_goals (try (conv => whnf))
  all_goals (try first|exact obA|refine Ob.mk ?_)
  all_goals (first | rfl | (rw [List.take_of_length_le (Nat.le_refl _)];done))
 ·obtain ⟨hn,hC⟩ := hC
  have e0 := qUK hn
  have e1 : ((n : Int) - 1).toNat = n - 1 := by omega
  have e2 : 1 < n → (l.take n).getD (n - 1) qAI.dflt = l.getD (n - 1) 0 := fun h => qO0 (by omega)
  have e3 := hpre.1 ((l.take n).getD (n - 1) qAI.dflt)
  repeat' ((conv => whnf);first|exact qR|intro _|refine WA ?_ ?_|refine WF ?_|refine W1 rfl ?_ ?_|refine W2 rfl ?_ ?_|refine W3 rfl ?_ ?_|refine W4 ?_ ?_|refine W5 rfl ?_ ?_|refine W6 ?_ ?_|refine WN ?_|refine X1 (W1 rfl ?_ ?_)|refine X1 (W2 rfl ?_ ?_)|refine X2 (W7 rfl ?_ ?_)|refine X3 (W7 rfl ?_ ?_)|refine X4 (W7 rfl ?_ ?_)|refine X5 (W7 rfl ?_ ?_))
  all_goals (try (conv => whnf))
  all_goals (try rw [e0] at *)
  all_goals (try rw [e1] at *)
  all_goals (try rw [qQY] at *)
  all_goals (try first|exact obA|refine Ob.mk ?_)
  ·rename_i h1 h
   have h1 : 1 < n := by have := of_decide_eq_true h1;omega
   have h : (!qQU t nm ((l.take n).getD (n - 1) qAI.dflt)) = true := by rw [qRR];exact h
   rw [e2 h1] at h
   rw [hC.trans (qaU h1 (by simpa using h))];rfl
  ·rename_i h1 h hz
   have h1 : 1 < n := by have := of_decide_eq_true h1;omega
   have h : (!qQU t nm ((l.take n).getD (n - 1) qAI.dflt)) = false := by rw [qRR];exact h
   rw [e2 h1] at h
   refine Rnd.mk ⟨n - 1,⟨by omega,hC.trans (qgC h1 (by simpa using h))⟩,by omega,?_,?_,?_⟩
   all_goals exact vcA
  ·rename_i h1
   have h1 : ¬ 1 < n := by have := of_decide_eq_false h1;omega
   rw [hC.trans (qbU h1)];rfl
instance (priority := 3000) qAImplied (t : List qAG) (op : List Int) (nm : List UInt8) (md bk lx fm hd : Int) (fo sk : Bool) (ins : List UInt8) :
  FnM BB 182 [.loc 0 0,.str nm] [(0,.box [.own 1,.own 2,.nils,.int .i64 md,.int .i64 bk,.int .i64 lx,.int .i64 fm,.int .i64 hd,.bool fo,.bool sk,.str ins]),(1,.own qAB t),(2,.own qAI (op))] (qYJ t = true ∧ nm.length ≤ 100000 ∧ op.length ≤ 100000)
   (.tup []) [(0,.box [.own 1,.own 2,.nils,.int .i64 md,.int .i64 bk,.int .i64 lx,.int .i64 fm,.int .i64 hd,.bool fo,.bool sk,.str ins]),(1,.own qAB t),(2,.own qAI (op.take (qXL (qQU t nm) op op.length)))] := by
 refine FnM.intro (N := 17) [0,1] [(0,[0,0,0,0,1,0,0,0,1,0,3,0,0,3])] 3 Tryz.call182 Tryz.func182 rfl rfl (by kernel_rfl) (fun hpre => ?_)
 obtain ⟨h1,h2,h3⟩ := hpre
 have h1 := qZ9 h1
 repeat' ((conv => whnf);first|exact qR|intro _|refine WA ?_ ?_|refine WF ?_|refine W1 rfl ?_ ?_|refine W2 rfl ?_ ?_|refine W3 rfl ?_ ?_|refine W4 ?_ ?_|refine W5 rfl ?_ ?_|refine W6 ?_ ?_|refine WN ?_|refine X1 (W1 rfl ?_ ?_)|refine X1 (W2 rfl ?_ ?_)|refine X2 (W7 rfl ?_ ?_)|refine X3 (W7 rfl ?_ ?_)|refine X4 (W7 rfl ?_ ?_)|refine X5 (W7 rfl ?_ ?_))
 all_goals (try (conv => whnf))
 all_goals (try first|exact obA|refine Ob.mk ?_)
 all_goals (first | exact ⟨h1,h2,h3⟩ | exact ⟨h2,h3⟩ | rfl | trace_state)
end Go.Vc

namespace Go.Vc
open Go.Proofs
set_option maxRecDepth 100000
set_option maxHeartbeats 40000000
noncomputable abbrev BA : Base := { BB with al := true }
instance (priority := 100) fnA {f : FuncId} {args : List SV} {pre : Prop} {res : SV} [h : Fn BB f args pre res] : Fn BA f args pre res := ⟨h.call,h.ok⟩
instance (priority := 100) fnmA {f : FuncId} {args : List SV} {Φ : Phi} {pre : Prop} {res : SV} {Φ' : Phi} [h : FnM BB f args Φ pre res Φ'] : FnM BA f args Φ pre res Φ' := ⟨h.call,h.ok⟩
@[simp] theorem qwR (t : TypeId) : qAA BA.P t = qAA BB.P t := rfl
noncomputable section
open Tryz
@[reducible] def iM {f : FuncId} {fn : Func} {c : Code} (N : Nat) (L : List Nat) (pl : List (Nat × List Nat)) (call : ∀ (vs : Array Value) (w : World),(callFunc f vs).run BA.P w = .ok (.enter f vs) w) (hf : BA.P.funcs[f]? = some fn) (hb : fn.body = some c) (hN : fn.ntmps = N) (hok : codeOk N pl c = true := by kernel_rfl) : Inl BA f := Inl.make (N := N) L pl call hf hb hN hok
instance : Inl BA 9 := iM 90 [0,1,2,3,4,5,6,7,8,9,15,30,51] [(6,[0,0,0,0,0,0,0,0,6,6]),(10,[1,0,1,0,1,1,1,1,0,1,0,1,1,1,3,3]),(14,[0,0,0,1,1,0,1,0,1,1,1,0,0,0,1,1,1,0,0,1,1,0,1,0,1,1,1,0,0,1,1,1,3,3,3,3])] call9 func9 rfl rfl
instance : Inl BA 12 := iM 32 [0,1,2,3,4,5,12,17,31] [(6,[0,1,0,1,1,0,1,0,1,1,3,3])] call12 func12 rfl rfl
instance : Inl BA 15 := iM 28 [0,1,4,5,7] [(5,[0,0,0,1,0,0,0,0,1,1,1,1,1,1,3,3])] call15 func15 rfl rfl
instance : Inl BA 19 := iM 35 [0,1,4,5,6,12,16,32] [] call19 func19 rfl rfl
instance : Inl BA 20 := iM 48 [0,1,2,4,13,31,41,47] [] call20 func20 rfl rfl
instance : Inl BA 21 := iM 67 [0,1,2,3,4,8,9,28,30,35,65] [] call21 func21 rfl rfl
instance : Inl BA 26 := iM 71 [0,1,2,3,4,5,47,52,65] [(6,[0,1,0,1,1,0,1,0,1,1,3])] call26 func26 rfl rfl
instance : Inl BA 36 := iM 34 [0,2,3,4,10] [] call36 func36 rfl rfl
instance : Inl BA 37 := iM 46 [0,1,4,5,6,7,35,42,44,45] [] call37 func37 rfl rfl
instance : Inl BA 44 := iM 13 [0,2,3,10] [] call44 func44 rfl rfl
instance : Inl BA 45 := iM 58 [0,1,2,4,5,6,7,12,16,24,42] [(9,[0,1,1,1,1,1,1,1,1,1,3,3,3])] call45 func45 rfl rfl
instance : Inl BA 46 := iM 19 [0,1,2,4] [] call46 func46 rfl rfl
instance : Inl BA 48 := iM 8 [0,1,2,4] [] call48 func48 rfl rfl
instance : Inl BA 49 := iM 15 [0,1,2,4,5,10] [] call49 func49 rfl rfl
instance : Inl BA 50 := iM 8 [0,1,2,4] [] call50 func50 rfl rfl
instance : Inl BA 57 := iM 4 [0] [] call57 func57 rfl rfl
instance : Inl BA 58 := iM 28 [0,1,3,4] [(3,[0,0,0,0,1,1,1,3,0,0,3]),(5000003,[3])] call58 func58 rfl rfl
instance : Inl BA 59 := iM 69 [0,1,2,3,8,34] [(3,[0,0,0,1,0,0,0,0,1,1,1,0,1,3,3,3])] call59 func59 rfl rfl
instance : Inl BA 60 := iM 63 [0,2,3,4,5,16,42,50,58] [(4,[0,0,0,0,0,0,0,0,0,0,0,0,0,0,6,6])] call60 func60 rfl rfl
instance : Inl BA 62 := iM 43 [0,1,4,5,10] [(3,[0,0,0,0,1,0,0,0,1,1,3,3,3,3]),(4,[0,0,0,0,7,0,0,0,0,4,4,4,4,4,4,4,4,4,4,4]),(3000004,[649,714,779,844,909,974,1039,1104,1169,1234])] call62 func62 rfl rfl
instance : Inl BA 63 := iM 57 [0,1,4,15,20,35,50] [] call63 func63 rfl rfl
instance : Inl BA 74 := iM 65 [0,1,2,3,4,8,9,10,11,21,60] [(5,[0,0,0,0,0,0,0,0,6,6]),(6,[0,1,1,1,1,1,1,1,1,1,1,1,1,1,1,1,1,1,1,1,1,1,1,1,1,1,1,3,3])] call74 func74 rfl rfl
instance : Inl BA 80 := iM 77 [0,1,4,5,6,7,14,33,38,69] [] call80 func80 rfl rfl
instance : Inl BA 82 := iM 71 [0,1,2,3,8,9,10,11,17,25,40,42,52,58,67,69,70] [] call82 func82 rfl rfl
instance : Inl BA 84 := iM 93 [0,1,2,3,8,9,10,11,12,14,16,18,27,39,49,57,71] [] call84 func84 rfl rfl
instance : Inl BA 85 := iM 38 [0,2,3,16,28] [] call85 func85 rfl rfl
instance : Inl BA 86 := iM 77 [0,1,3,4,5,23,45,63] [] call86 func86 rfl rfl
instance : Inl BA 87 := iM 132 [0,1,4,5,6,11,22,40,44,50,73,94,115] [(11,[0,0,0,0,1,0,0,0,1,1,1,1,1,3]),(13,[0,1,0,0,0,1,0,0,0,1,1,1,1,3,0,0,3]),(20,[0,1,0,0,0,1,0,0,0,1,1,1,1,3,0,0,3])] call87 func87 rfl rfl
instance : Inl BA 88 := iM 92 [0,1,4,9,22,33,41,46,72,77,85] [] call88 func88 rfl rfl
instance : Inl BA 89 := iM 55 [0,1,4,9,17,25,33,41] [] call89 func89 rfl rfl
instance : Inl BA 90 := iM 109 [0,1,4,16,42,56,65,76,87,95] [] call90 func90 rfl rfl
instance : Inl BA 91 := iM 70 [0,1,4,9,17,25,33,41,49] [] call91 func91 rfl rfl
instance : Inl BA 101 := iM 30 [0,1,2,3,6,7,17] [] call101 func101 rfl rfl
instance : Inl BA 107 := iM 23 [0,1,4,5,8,22] [(4,[0,0,0,1,0,0,0,1,0,1,1,3])] call107 func107 rfl rfl
instance : Inl BA 108 := iM 72 [0,1,2,6,7,8,9,10,15,25,42,57] [] call108 func108 rfl rfl
instance : Inl BA 109 := iM 27 [0,1,4,5,6,7,8,9,17] [] call109 func109 rfl rfl
instance : Inl BA 110 := iM 39 [0,1,4,5,6,7,8,12,22] [] call110 func110 rfl rfl
instance : Inl BA 111 := iM 16 [0,1,2] [] call111 func111 rfl rfl
instance : Inl BA 112 := iM 48 [0,1,2,3,4,17] [] call112 func112 rfl rfl
instance : Inl BA 113 := iM 73 [0,1,4,5,6,22,24,47] [(6,[0,0,0,0,0,0,0,0,0,3,3,3])] call113 func113 rfl rfl
instance : Inl BA 114 := iM 51 [0,1,2,6,18] [(4,[0,0,0,0,0,0,0,0,0,3,3,3])] call114 func114 rfl rfl
instance : Inl BA 115 := iM 51 [0,1,2,4,6,8,11,22] [] call115 func115 rfl rfl
instance : Inl BA 116 := iM 64 [0,1,4,5,6,14,35,63] [(4,[0,0,0,0,1,0,0,0,1,0,1,1,1,1,1,3]),(8,[0,0,0,0,1,0,0,0,1,0,0,1,1,3,3,3,3])] call116 func116 rfl rfl
instance : Inl BA 117 := iM 50 [0,1,2,4,6,7,8,9] [(2,[0,0,0,0,0,1,0,1,3,3,3])] call117 func117 rfl rfl
instance : Inl BA 118 := iM 43 [0,1,2,4,5,6,7,9,17,26] [] call118 func118 rfl rfl
instance : Inl BA 119 := iM 100 [0,2,3,4,32,55,64] [(2,[0,0,0,1,1,1,1,1,1,1,1,1,1,1,1,1,1,1,3,3,3]),(3,[0,0,0,1,1,1,1,1,1,1,1,1,1,1,1,1,1,1,1,1,3,3,3]),(7,[0,0,0,0,0,1,0,0,0,1,0,1,1,3,3,3,3,3]),(8,[0,0,0,0,1,0,0,0,1,0,1,1,0,3,0,0,3])] call119 func119 rfl rfl
instance : Inl BA 120 := iM 124 [0,1,4,5,14,20,23,38,43,47,50,57,67,73,78,81,86,89,99] [(32,[0,1,0,0,0,1,0,0,0,1,1,1,1,3,0,0,3])] call120 func120 rfl rfl
instance : Inl BA 121 := iM 73 [0,1,4,17,55] [(2,[0,0,0,0,1,1,1,0,0,0,1,3]),(3,[0,0,0,1,1,1,1,1,1,1,1,1,1,1,1,1,1,1,1,1,1,1,1,1,3,3]),(4,[0,0,0,0,1,1,1,0,0,0,1,3])] call121 func121 rfl rfl
instance : Inl BA 122 := iM 26 [0,1,4,9,14,22] [] call122 func122 rfl rfl
instance : Inl BA 123 := iM 78 [0,1,4,5,6,7,25,34,41,50,54,63,68,74] [] call123 func123 rfl rfl
instance : Inl BA 124 := iM 31 [0,1,4,10,15,27] [] call124 func124 rfl rfl
instance : Inl BA 125 := iM 34 [0,1,4,10,12,24] [] call125 func125 rfl rfl
instance : Inl BA 126 := iM 84 [0,1,4,5,6,11,19,48,76] [(6,[0,0,0,0,1,0,0,0,1,0,1,1,1,1,1,3]),(7,[0,0,0,1,0,0,0,1,0,1,1,0,3]),(10,[0,1,0,1,1,1,1,1,1,1,1,1,1,1,1,1,1,3,3,3])] call126 func126 rfl rfl
instance : Inl BA 128 := iM 77 [0,1,4,5,23,54] [(0,[0,0,0,1,0,0,0,1,3,3]),(10,[0,0,0,0,1,0,0,0,1,0,3,0,0,3])] call128 func128 rfl rfl
instance : Inl BA 129 := iM 122 [0,1,4,5,15,29,37,39,53,57,65,69,82,115] [] call129 func129 rfl rfl
instance : Inl BA 130 := iM 90 [0,1,4,20,29,34,40,45,49,55,57,62,71,76] [] call130 func130 rfl rfl
instance : Inl BA 131 := iM 40 [0,1,4,11,14,36] [] call131 func131 rfl rfl
instance : Inl BA 132 := iM 68 [0,1,4,5,6,11,24,31,40,45,59] [] call132 func132 rfl rfl
instance : Inl BA 133 := iM 55 [0,1,4,5,7,18,28,44,51] [] call133 func133 rfl rfl
instance : Inl BA 134 := iM 45 [0,1,4,6,17,25,29,41] [] call134 func134 rfl rfl
instance : Inl BA 135 := iM 47 [0,1,4,5,7,13,26,35,39,43] [] call135 func135 rfl rfl
instance : Inl BA 136 := iM 18 [0,1,2,6] [(1,[0,0,0,1,0,0,0,1,0,0,3,3])] call136 func136 rfl rfl
instance : Inl BA 138 := iM 63 [0,1,4,9,24,31,43,50] [] call138 func138 rfl rfl
instance : Inl BA 139 := iM 54 [0,1,4,9,35,44,51] [(2,[0,1,1,1,1,1,1,1,1,1,1,1,1,1,1,1,1,1,1,3,3])] call139 func139 rfl rfl
instance : Inl BA 140 := iM 53 [0,1,4,6,7,13,18,32] [(9,[0,0,0,0,0,0,3,3,3,3]),(10,[0,0,0,0,0,0,0,3,3,0,3])] call140 func140 rfl rfl
instance : Inl BA 141 := iM 57 [0,1,4,6,23,28,49] [] call141 func141 rfl rfl
instance : Inl BA 142 := iM 55 [0,1,4,6,7,8,18,25,41] [] call142 func142 rfl rfl
instance : Inl BA 143 := iM 64 [0,1,4,5,6,7,8,35,42,46] [] call143 func143 rfl rfl
instance : Inl BA 144 := iM 109 [0,1,4,5,6,7,8,35,42,56,101] [(8,[0,0,0,1,1,1,1,1,1,1,1,3,3]),(9,[0,1,0,0,0,1,1,0,0,0,1,1,3,0,0,3]),(11,[0,0,0,0,1,0,0,0,1,3,0,0,3])] call144 func144 rfl rfl
instance : Inl BA 145 := iM 45 [0,1,4,9,27] [] call145 func145 rfl rfl
instance : Inl BA 146 := iM 117 [0,1,4,5,6,7,19,36,54,66,74,81,86,105,110] [(2,[0,0,0,0,1,0,0,0,1,1,1,3])] call146 func146 rfl rfl
instance : Inl BA 155 := iM 37 [0,1,2,6,7,9,11,20,26,33] [] call155 func155 rfl rfl
instance : Inl BA 156 := iM 151 [0,2,3,4,5,6,7,8,9,10,19,36,61,76,103,117,122,130,141] [] call156 func156 rfl rfl
instance : Inl BA 157 := iM 92 [0,1,4,5,6,7,9,28,38,42,57,64,71,85] [] call157 func157 rfl rfl
instance : Inl BA 158 := iM 77 [0,1,4,5,6,7,8,15,23,33,45,73] [] call158 func158 rfl rfl
instance : Inl BA 159 := iM 10 [0,1,4] [] call159 func159 rfl rfl
instance : Inl BA 160 := iM 126 [0,1,4,5,6,7,8,20,31,69,114] [(2,[0,0,0,1,0,0,0,1,3,3]),(4,[0,0,0,1,1,1,0,0,0,0,1,0,0,0,1,1,1,1,1,1,1,1,3]),(5,[0,0,0,0,1,0,0,0,1,0,1,1,3,3,3,3]),(7,[0,0,0,0,1,0,0,0,1,0,1,1,3,0,3]),(9,[0,0,0,0,0,3,0,3,3,3,3,0,3]),(12,[0,0,0,0,0,3,0,3,3,3,3,0,3])] call160 func160 rfl rfl
instance : Inl BA 162 := iM 33 [0,2,3,4,10,24] [] call162 func162 rfl rfl
instance : Inl BA 163 := iM 24 [0,1,4,5,9,18] [] call163 func163 rfl rfl
instance : Inl BA 165 := iM 8 [0,1,2] [] call165 func165 rfl rfl
instance : Inl BA 166 := iM 29 [0,1,2,6,7,8,15,23] [] call166 func166 rfl rfl
instance : Inl BA 168 := iM 20 [0,1,2,3,8,13] [] call168 func168 rfl rfl
instance : Inl BA 169 := iM 28 [0,2,16] [] call169 func169 rfl rfl
instance : Inl BA 170 := iM 6 [0] [] call170 func170 rfl rfl
instance : Inl BA 172 := iM 1 [0] [] call172 func172 rfl rfl
instance : Inl BA 173 := iM 206 [0,1,4,5,6,7,8,9,10,11,12,13,14,15,16,33,38,52,60,73,78,166] [(8,[0,0,0,1,0,0,0,1,0,3,3]),(22,[0,0,0,1,0,1,1,0,0,0,1,0,0,1,1,1,1,3]),(34,[0,0,0,0,1,0,0,0,1,0,1,1,0,3,0,0,3]),(5000019,[2000])] call173 func173 rfl rfl
instance : Inl BA 174 := iM 72 [0,1,4,5,6,14,30,41,71] [(9,[0,0,0,0,1,0,1,1,1,0,0,0,0,1,0,1,1,1,3])] call174 func174 rfl rfl
instance : Inl BA 175 := iM 11 [0,2] [] call175 func175 rfl rfl
instance : Inl BA 176 := iM 35 [0,1,2,6,10] [(3,[0,0,0,0,1,0,0,0,0,0,1,0,1,1,1,0,0,1,1,1,3,3,3])] call176 func176 rfl rfl
instance : Inl BA 177 := iM 11 [0,1] [] call177 func177 rfl rfl
instance : Inl BA 178 := iM 27 [0,1] [] call178 func178 rfl rfl
instance : Inl BA 179 := iM 6 [0,3] [] call179 func179 rfl rfl
instance : Inl BA 180 := iM 16 [0,1,4] [(1,[0,0,0,1,0,0,0,1,1,0,3,3])] call180 func180 rfl rfl
instance : Inl BA 185 := iM 64 [0,1,2,3,6,7,14,59] [(4,[1,0,0,1,1,1,1,1,1,1,1,1,1,1,1,1,1,1,1,1,1,1,1,1,1,1,1,1,1,1,1,1,1,1,1,1,1,1,1,1,1,3,3])] call185 func185 rfl rfl
instance : Inl BA 186 := iM 27 [0,1,4,5,6,10,18] [] call186 func186 rfl rfl
instance : Inl BA 187 := iM 31 [0,1,4,5,6,10,22] [] call187 func187 rfl rfl
instance : Inl BA 188 := iM 55 [0,1,2,3,6,7,8,9,10,11,18,27,34,43] [(5,[1,0,0,1,1,0,3])] call188 func188 rfl rfl
instance : Inl BA 189 := iM 12 [0,1,4] [] call189 func189 rfl rfl
instance : Inl BA 190 := iM 15 [0,2,3,7,14] [] call190 func190 rfl rfl
instance : Inl BA 191 := iM 28 [0,1,4,9] [] call191 func191 rfl rfl
instance : Inl BA 192 := iM 18 [0,1,4] [] call192 func192 rfl rfl
instance : Inl BA 193 := iM 1 [0] [] call193 func193 rfl rfl
instance : Inl BA 194 := iM 50 [0,1,4,11,23,33,41] [] call194 func194 rfl rfl
instance : Inl BA 195 := iM 10 [0,2,5] [] call195 func195 rfl rfl
instance : Inl BA 196 := iM 18 [0,1,4] [] call196 func196 rfl rfl
instance : Inl BA 197 := iM 22 [0,2,3,4] [] call197 func197 rfl rfl
instance : Inl BA 198 := iM 18 [0] [(0,[0,1,0,0,0,1,0,0,0,1,1,1,1,3,0,0,3])] call198 func198 rfl rfl
instance : Inl BA 199 := iM 16 [0,1,4,5] [] call199 func199 rfl rfl
instance : Inl BA 200 := iM 23 [0,2,3,4,14] [(4,[0,0,0,0,0,0,0,0])] call200 func200 rfl rfl
instance : Inl BA 202 := iM 13 [0,1,2,4] [] call202 func202 rfl rfl
instance : Inl BA 203 := iM 22 [0,1,2,3,8,12] [] call203 func203 rfl rfl
instance : Inl BA 204 := iM 13 [0] [] call204 func204 rfl rfl
instance : Inl BA 205 := iM 20 [0,1] [] call205 func205 rfl rfl
instance : Inl BA 208 := iM 31 [0,1,14] [(1,[0,1,0,0,0,1,0,0,0,1,1,1,1,3,0,0,3])] call208 func208 rfl rfl
instance : Inl BA 209 := iM 10 [0,2,5] [] call209 func209 rfl rfl
instance : Inl BA 210 := iM 26 [0,2,3,4,5,10] [] call210 func210 rfl rfl
instance : Inl BA 211 := iM 19 [0,1,4] [] call211 func211 rfl rfl
instance : Inl BA 212 := iM 9 [0,1,4] [] call212 func212 rfl rfl
instance : Inl BA 213 := iM 44 [0,1,4,5,10,28] [] call213 func213 rfl rfl
instance : Inl BA 214 := iM 24 [0,7] [(1,[0,1,0,0,0,1,0,0,0,1,1,1,1,3,0,0,3])] call214 func214 rfl rfl
instance : Inl BA 215 := iM 1 [0] [] call215 func215 rfl rfl
instance : Inl BA 223 := iM 53 [0,1,4,5,6,7,11,21,28,36,42,48] [] call223 func223 rfl rfl
instance : Inl BA 224 := iM 51 [0,1,4,5,34] [] call224 func224 rfl rfl
instance : Inl BA 225 := iM 17 [0,2] [] call225 func225 rfl rfl
instance : Inl BA 226 := iM 18 [0,1,4,14] [] call226 func226 rfl rfl
instance : Inl BA 227 := iM 82 [0,1,4,5,6,7,8,9,10,11,42,63] [] call227 func227 rfl rfl
instance : Inl BA 229 := iM 18 [0,1,4] [] call229 func229 rfl rfl
instance : Inl BA 230 := iM 51 [0,2,3,4,5,6,7,10,13,28,44] [] call230 func230 rfl rfl
instance : Inl BA 231 := iM 46 [0,2,3,4,5,6,7,20,33] [] call231 func231 rfl rfl
instance : Inl BA 232 := iM 30 [0,1,2,6,7,15,26] [] call232 func232 rfl rfl
instance : Inl BA 233 := iM 21 [0,1,4,5,6,7] [] call233 func233 rfl rfl
instance : Inl BA 234 := iM 64 [0,2,3,4,5,6,7,8,21,26,37,48,58] [] call234 func234 rfl rfl
instance : Inl BA 235 := iM 44 [0,2,3,4,5,6,7,15,38] [] call235 func235 rfl rfl
instance : Inl BA 236 := iM 13 [0,2] [] call236 func236 rfl rfl
instance : Inl BA 239 := iM 45 [0,1,4,5,6,14,25,44] [(6,[0,0,0,0,1,0,0,0,1,0,1,1,1,1,1,3])] call239 func239 rfl rfl
instance : Inl BA 240 := iM 37 [0,1,4,5,6,15,36] [(4,[0,0,0,0,1,0,0,0,1,0,1,1,1,1,1,3])] call240 func240 rfl rfl
instance : Inl BA 241 := iM 38 [0,1,4,5,6,15,36] [(4,[0,0,0,0,1,0,0,0,1,0,1,1,1,1,1,3])] call241 func241 rfl rfl
instance : Inl BA 242 := iM 119 [0,1,2,3,8,9,10,11,12,13,14,15,36,50,62,71,106] [] call242 func242 rfl rfl
instance : Inl BA 243 := iM 25 [0,1,4,5] [(2,[0,0,0,0,1,0,1,0,1,3,3,3])] call243 func243 rfl rfl
instance : Inl BA 244 := iM 89 [0,1,2,6,7,29,41,51] [(5,[0,0,1,0,0,1,1,3]),(6,[0,0,0,1,0,0,1,1,0,3,3,3]),(7,[0,0,0,1,0,1,0,0,0,1,0,1,1,1,1,0,1,3,3,3])] call244 func244 rfl rfl
instance : Inl BA 245 := iM 22 [0,1,2] [(0,[0,0,0,0,0,0,0,0,3,0,3,3,3,3,0,3])] call245 func245 rfl rfl
instance : Inl BA 246 := iM 24 [0,1,2,6] [(2,[1,0,0,0,1,0,1,3,0,0,0,3,3])] call246 func246 rfl rfl
instance : Inl BA 247 := iM 18 [0,2,3,8,15] [] call247 func247 rfl rfl
instance : Inl BA 250 := iM 14 [0,1,2,4] [] call250 func250 rfl rfl
instance : Inl BA 251 := iM 48 [0,1,2,3,6,7,8,18] [(3,[0,1,0,1,1,0,1,0,1,1,1,1,1,3])] call251 func251 rfl rfl
instance : Inl BA 256 := iM 18 [0,1,4] [] call256 func256 rfl rfl
instance : Inl BA 257 := iM 31 [0,2] [] call257 func257 rfl rfl
instance : Inl BA 258 := iM 72 [0,1,4,5,6,7,8,12,23,29,38,64] [(7,[0,0,0,0,0,0,0])] call258 func258 rfl rfl
instance : Inl BA 259 := iM 52 [0,2,13,29,45] [] call259 func259 rfl rfl
instance : Inl BA 260 := iM 32 [0,2,8,17,27] [] call260 func260 rfl rfl
instance : Inl BA 261 := iM 29 [0,2,3,4,5,11,19,26] [] call261 func261 rfl rfl
instance : Inl BA 262 := iM 4 [0,1] [] call262 func262 rfl rfl
instance : Inl BA 263 := iM 20 [0,2,16] [] call263 func263 rfl rfl
instance : Inl BA 265 := iM 20 [0,1,4] [] call265 func265 rfl rfl
instance : Inl BA 267 := iM 34 [0,1,4,5,6,7,11,17,33] [(8,[0,0,1,1,1,1,1,1,1,1,3,3,3])] call267 func267 rfl rfl
end
end Go.Vc

namespace Go.Vc
open Go.Proofs
set_option maxRecDepth 100000
set_option maxHeartbeats 40000000
set_option pp.deepTerms true
set_option pp.maxSteps 2000000
instance (priority := 5000) ZN_0 : FnM BA 62 [.loc 0 0,.loc 3 0] [(0,.box [.own 1,.own 2,.nils,.int .i64 5,.int .i64 0,.int .i64 0,.int .i64 0,.int .i64 0,.bool false,.bool false,.str [100,105,118]]),(1,.own qAB [((0 : Int),(0 : Int),([] : List UInt8),([] : List qAK),([] : List UInt8),(-1 : Int),([1] : List Int)),((1 : Int),(0 : Int),([104,116,109,108] : List UInt8),([] : List qAK),([] : List UInt8),(0 : Int),([] : List Int))]),(2,.own qAI [1]),(3,.box [.str (60 :: 111 :: 117 :: 116 :: 112 :: 117 :: 116 :: 32 :: 102 :: 111 :: 114 :: 61 :: 39 :: 97 :: 32 :: 98 :: 39 :: 62 :: 60 :: 47 :: 111 :: 117 :: 116 :: 112 :: 117 :: 116 :: 62 :: 60 :: 97 :: 32 :: 104 :: 114 :: 101 :: 102 :: 61 :: 35 :: 99 :: 32 :: 110 :: 97 :: 109 :: 101 :: 61 :: 100 :: 62 :: 60 :: 47 :: 97 :: 62 :: [])])] True (.agg [.int .i64 1,.str [111,117,116,112,117,116],.rd qAJ [([102,111,114],[97,32,98])],.bool false,.str []]) [(0,.box [.own 1,.own 2,.nils,.int .i64 5,.int .i64 0,.int .i64 0,.int .i64 0,.int .i64 0,.bool false,.bool false,.str [100,105,118]]),(1,.own qAB [((0 : Int),(0 : Int),([] : List UInt8),([] : List qAK),([] : List UInt8),(-1 : Int),([1] : List Int)),((1 : Int),(0 : Int),([104,116,109,108] : List UInt8),([] : List qAK),([] : List UInt8),(0 : Int),([] : List Int))]),(2,.own qAI [1]),(3,.box [.str [60,47,111,117,116,112,117,116,62,60,97,32,104,114,101,102,61,35,99,32,110,97,109,101,61,100,62,60,47,97,62]])] := by
 refine FnM.intro (N := 43) [0,1,4,5,10] [(3,[0,0,0,0,1,0,0,0,1,1,3,3,3,3]),(4,[0,0,0,0,7,0,0,0,0,4,4,4,4,4,4,4,4,4,4,4]),(3000004,[649,714,779,844,909,974,1039,1104,1169,1234])] 4 Tryz.call62 Tryz.func62 rfl rfl (by kernel_rfl) (fun hpre => ?_)
 repeat' ((conv => whnf);first|exact qR|(intro hq;first|(exfalso;revert hq;decide +kernel)|clear hq|skip)|refine WA ?_ ?_|refine WF ?_|refine W1 rfl ?_ ?_|refine W2 rfl ?_ ?_|refine W3 rfl ?_ ?_|refine W4 ?_ ?_|refine W5 rfl ?_ ?_|refine W6 ?_ ?_|refine WN ?_|refine X1 (W1 rfl ?_ ?_)|refine X1 (W2 rfl ?_ ?_)|refine X2 (W7 rfl ?_ ?_)|refine X3 (W7 rfl ?_ ?_)|refine X4 (W7 rfl ?_ ?_)|refine X5 (W7 rfl ?_ ?_)|refine X7 (by conv => lhs;cbv) rfl ?_|refine X8 (by conv => lhs;cbv) ?_|refine LoopStop.ug 500 ?_|refine ZStop.dir ?_|(refine Ob.mk ?_;decide +kernel))
 all_goals (first | rfl | decide +kernel)
end Go.Vc

namespace Go.Vc
open Go.Proofs
set_option maxRecDepth 100000
set_option maxHeartbeats 40000000
set_option pp.deepTerms true
set_option pp.maxSteps 2000000
instance (priority := 5000) ZN_1 : FnM BA 63 [.loc 0 0,.loc 3 0] [(0,.box [.own 1,.own 2,.nils,.int .i64 5,.int .i64 0,.int .i64 0,.int .i64 0,.int .i64 0,.bool false,.bool false,.str [100,105,118]]),(1,.own qAB [((0 : Int),(0 : Int),([] : List UInt8),([] : List qAK),([] : List UInt8),(-1 : Int),([1] : List Int)),((1 : Int),(0 : Int),([104,116,109,108] : List UInt8),([] : List qAK),([] : List UInt8),(0 : Int),([] : List Int))]),(2,.own qAI [1]),(3,.box [.int .i64 1,.str [111,117,116,112,117,116],.rd qAJ [([102,111,114],[97,32,98])],.bool false,.str []])] True (.bool false) [(0,.box [.own 1,.own 4,.nils,.int .i64 5,.int .i64 0,.int .i64 0,.int .i64 0,.int .i64 0,.bool false,.bool false,.str [100,105,118]]),(1,.own qAB [((0 : Int),(0 : Int),([] : List UInt8),([] : List qAK),([] : List UInt8),(-1 : Int),([1] : List Int)),((1 : Int),(0 : Int),([104,116,109,108] : List UInt8),([] : List qAK),([] : List UInt8),(0 : Int),([2] : List Int)),((1 : Int),(0 : Int),([111,117,116,112,117,116] : List UInt8),([([102,111,114],[97,32,98])] : List qAK),([] : List UInt8),(1 : Int),([] : List Int))]),(4,.own qAI [1,2]),(3,.box [.int .i64 1,.str [111,117,116,112,117,116],.rd qAJ [([102,111,114],[97,32,98])],.bool false,.str []])] := by
 refine FnM.intro (N := 57) [0,1,4,15,20,35,50] [] 4 Tryz.call63 Tryz.func63 rfl rfl (by kernel_rfl) (fun hpre => ?_)
 repeat' ((conv => whnf);first|exact qR|(intro hq;first|(exfalso;revert hq;decide +kernel)|clear hq|skip)|refine WA ?_ ?_|refine WF ?_|refine W1 rfl ?_ ?_|refine W2 rfl ?_ ?_|refine W3 rfl ?_ ?_|refine W4 ?_ ?_|refine W5 rfl ?_ ?_|refine W6 ?_ ?_|refine WN ?_|refine X1 (W1 rfl ?_ ?_)|refine X1 (W2 rfl ?_ ?_)|refine X2 (W7 rfl ?_ ?_)|refine X3 (W7 rfl ?_ ?_)|refine X4 (W7 rfl ?_ ?_)|refine X5 (W7 rfl ?_ ?_)|refine X7 (by conv => lhs;cbv) rfl ?_|refine X8 (by conv => lhs;cbv) ?_|refine LoopStop.ug 500 ?_|refine ZStop.dir ?_|(refine Ob.mk ?_;decide +kernel))
 all_goals (first | rfl | decide +kernel)
end Go.Vc

namespace Go.Vc
open Go.Proofs
set_option maxRecDepth 100000
set_option maxHeartbeats 40000000
set_option pp.deepTerms true
set_option pp.maxSteps 2000000
instance (priority := 5000) ZN_2 : FnM BA 62 [.loc 0 0,.loc 3 0] [(0,.box [.own 1,.own 2,.nils,.int .i64 5,.int .i64 0,.int .i64 0,.int .i64 0,.int .i64 0,.bool false,.bool false,.str [100,105,118]]),(1,.own qAB [((0 : Int),(0 : Int),([] : List UInt8),([] : List qAK),([] : List UInt8),(-1 : Int),([1] : List Int)),((1 : Int),(0 : Int),([104,116,109,108] : List UInt8),([] : List qAK),([] : List UInt8),(0 : Int),([2] : List Int)),((1 : Int),(0 : Int),([111,117,116,112,117,116] : List UInt8),([([102,111,114],[97,32,98])] : List qAK),([] : List UInt8),(1 : Int),([] : List Int))]),(2,.own qAI [1,2]),(3,.box [.str [60,47,111,117,116,112,117,116,62,60,97,32,104,114,101,102,61,35,99,32,110,97,109,101,61,100,62,60,47,97,62]])] True (.agg [.int .i64 2,.str [111,117,116,112,117,116],.nils,.bool false,.str []]) [(0,.box [.own 1,.own 2,.nils,.int .i64 5,.int .i64 0,.int .i64 0,.int .i64 0,.int .i64 0,.bool false,.bool false,.str [100,105,118]]),(1,.own qAB [((0 : Int),(0 : Int),([] : List UInt8),([] : List qAK),([] : List UInt8),(-1 : Int),([1] : List Int)),((1 : Int),(0 : Int),([104,116,109,108] : List UInt8),([] : List qAK),([] : List UInt8),(0 : Int),([2] : List Int)),((1 : Int),(0 : Int),([111,117,116,112,117,116] : List UInt8),([([102,111,114],[97,32,98])] : List qAK),([] : List UInt8),(1 : Int),([] : List Int))]),(2,.own qAI [1,2]),(3,.box [.str [60,97,32,104,114,101,102,61,35,99,32,110,97,109,101,61,100,62,60,47,97,62]])] := by
 refine FnM.intro (N := 43) [0,1,4,5,10] [(3,[0,0,0,0,1,0,0,0,1,1,3,3,3,3]),(4,[0,0,0,0,7,0,0,0,0,4,4,4,4,4,4,4,4,4,4,4]),(3000004,[649,714,779,844,909,974,1039,1104,1169,1234])] 4 Tryz.call62 Tryz.func62 rfl rfl (by kernel_rfl) (fun hpre => ?_)
 repeat' ((conv => whnf);first|exact qR|(intro hq;first|(exfalso;revert hq;decide +kernel)|clear hq|skip)|refine WA ?_ ?_|refine WF ?_|refine W1 rfl ?_ ?_|refine W2 rfl ?_ ?_|refine W3 rfl ?_ ?_|refine W4 ?_ ?_|refine W5 rfl ?_ ?_|refine W6 ?_ ?_|refine WN ?_|refine X1 (W1 rfl ?_ ?_)|refine X1 (W2 rfl ?_ ?_)|refine X2 (W7 rfl ?_ ?_)|refine X3 (W7 rfl ?_ ?_)|refine X4 (W7 rfl ?_ ?_)|refine X5 (W7 rfl ?_ ?_)|refine X7 (by conv => lhs;cbv) rfl ?_|refine X8 (by conv => lhs;cbv) ?_|refine LoopStop.ug 500 ?_|refine ZStop.dir ?_|(refine Ob.mk ?_;decide +kernel))
 all_goals (first | rfl | decide +kernel)
end Go.Vc

namespace Go.Vc
open Go.Proofs
set_option maxRecDepth 100000
set_option maxHeartbeats 40000000
set_option pp.deepTerms true
set_option pp.maxSteps 2000000
instance (priority := 5000) ZN_3 : FnM BA 63 [.loc 0 0,.loc 3 0] [(0,.box [.own 1,.own 2,.nils,.int .i64 5,.int .i64 0,.int .i64 0,.int .i64 0,.int .i64 0,.bool false,.bool false,.str [100,105,118]]),(1,.own qAB [((0 : Int),(0 : Int),([] : List UInt8),([] : List qAK),([] : List UInt8),(-1 : Int),([1] : List Int)),((1 : Int),(0 : Int),([104,116,109,108] : List UInt8),([] : List qAK),([] : List UInt8),(0 : Int),([2] : List Int)),((1 : Int),(0 : Int),([111,117,116,112,117,116] : List UInt8),([([102,111,114],[97,32,98])] : List qAK),([] : List UInt8),(1 : Int),([] : List Int))]),(2,.own qAI [1,2]),(3,.box [.int .i64 2,.str [111,117,116,112,117,116],.nils,.bool false,.str []])] True (.bool false) [(0,.box [.own 1,.own 4,.nils,.int .i64 5,.int .i64 0,.int .i64 0,.int .i64 0,.int .i64 0,.bool false,.bool false,.str [100,105,118]]),(1,.own qAB [((0 : Int),(0 : Int),([] : List UInt8),([] : List qAK),([] : List UInt8),(-1 : Int),([1] : List Int)),((1 : Int),(0 : Int),([104,116,109,108] : List UInt8),([] : List qAK),([] : List UInt8),(0 : Int),([2] : List Int)),((1 : Int),(0 : Int),([111,117,116,112,117,116] : List UInt8),([([102,111,114],[97,32,98])] : List qAK),([] : List UInt8),(1 : Int),([] : List Int))]),(4,.own qAI [1]),(3,.box [.int .i64 2,.str [111,117,116,112,117,116],.nils,.bool false,.str []])] := by
 refine FnM.intro (N := 57) [0,1,4,15,20,35,50] [] 4 Tryz.call63 Tryz.func63 rfl rfl (by kernel_rfl) (fun hpre => ?_)
 repeat' ((conv => whnf);first|exact qR|(intro hq;first|(exfalso;revert hq;decide +kernel)|clear hq|skip)|refine WA ?_ ?_|refine WF ?_|refine W1 rfl ?_ ?_|refine W2 rfl ?_ ?_|refine W3 rfl ?_ ?_|refine W4 ?_ ?_|refine W5 rfl ?_ ?_|refine W6 ?_ ?_|refine WN ?_|refine X1 (W1 rfl ?_ ?_)|refine X1 (W2 rfl ?_ ?_)|refine X2 (W7 rfl ?_ ?_)|refine X3 (W7 rfl ?_ ?_)|refine X4 (W7 rfl ?_ ?_)|refine X5 (W7 rfl ?_ ?_)|refine X7 (by conv => lhs;cbv) rfl ?_|refine X8 (by conv => lhs;cbv) ?_|refine LoopStop.ug 500 ?_|refine ZStop.dir ?_|(refine Ob.mk ?_;decide +kernel))
 all_goals (first | rfl | decide +kernel)
end Go.Vc

namespace Go.Vc
open Go.Proofs
set_option maxRecDepth 100000
set_option maxHeartbeats 40000000
set_option pp.deepTerms true
set_option pp.maxSteps 2000000
instance (priority := 5000) ZN_4 : FnM BA 62 [.loc 0 0,.loc 3 0] [(0,.box [.own 1,.own 2,.nils,.int .i64 5,.int .i64 0,.int .i64 0,.int .i64 0,.int .i64 0,.bool false,.bool false,.str [100,105,118]]),(1,.own qAB [((0 : Int),(0 : Int),([] : List UInt8),([] : List qAK),([] : List UInt8),(-1 : Int),([1] : List Int)),((1 : Int),(0 : Int),([104,116,109,108] : List UInt8),([] : List qAK),([] : List UInt8),(0 : Int),([2] : List Int)),((1 : Int),(0 : Int),([111,117,116,112,117,116] : List UInt8),([([102,111,114],[97,32,98])] : List qAK),([] : List UInt8),(1 : Int),([] : List Int))]),(2,.own qAI [1]),(3,.box [.str [60,97,32,104,114,101,102,61,35,99,32,110,97,109,101,61,100,62,60,47,97,62]])] True (.agg [.int .i64 1,.str [97],.rd qAJ [([104,114,101,102],[35,99]),([110,97,109,101],[100])],.bool false,.str []]) [(0,.box [.own 1,.own 2,.nils,.int .i64 5,.int .i64 0,.int .i64 0,.int .i64 0,.int .i64 0,.bool false,.bool false,.str [100,105,118]]),(1,.own qAB [((0 : Int),(0 : Int),([] : List UInt8),([] : List qAK),([] : List UInt8),(-1 : Int),([1] : List Int)),((1 : Int),(0 : Int),([104,116,109,108] : List UInt8),([] : List qAK),([] : List UInt8),(0 : Int),([2] : List Int)),((1 : Int),(0 : Int),([111,117,116,112,117,116] : List UInt8),([([102,111,114],[97,32,98])] : List qAK),([] : List UInt8),(1 : Int),([] : List Int))]),(2,.own qAI [1]),(3,.box [.str [60,47,97,62]])] := by
 refine FnM.intro (N := 43) [0,1,4,5,10] [(3,[0,0,0,0,1,0,0,0,1,1,3,3,3,3]),(4,[0,0,0,0,7,0,0,0,0,4,4,4,4,4,4,4,4,4,4,4]),(3000004,[649,714,779,844,909,974,1039,1104,1169,1234])] 4 Tryz.call62 Tryz.func62 rfl rfl (by kernel_rfl) (fun hpre => ?_)
 repeat' ((conv => whnf);first|exact qR|(intro hq;first|(exfalso;revert hq;decide +kernel)|clear hq|skip)|refine WA ?_ ?_|refine WF ?_|refine W1 rfl ?_ ?_|refine W2 rfl ?_ ?_|refine W3 rfl ?_ ?_|refine W4 ?_ ?_|refine W5 rfl ?_ ?_|refine W6 ?_ ?_|refine WN ?_|refine X1 (W1 rfl ?_ ?_)|refine X1 (W2 rfl ?_ ?_)|refine X2 (W7 rfl ?_ ?_)|refine X3 (W7 rfl ?_ ?_)|refine X4 (W7 rfl ?_ ?_)|refine X5 (W7 rfl ?_ ?_)|refine X7 (by conv => lhs;cbv) rfl ?_|refine X8 (by conv => lhs;cbv) ?_|refine LoopStop.ug 500 ?_|refine ZStop.dir ?_|(refine Ob.mk ?_;decide +kernel))
 all_goals (first | rfl | decide +kernel)
end Go.Vc

namespace Go.Vc
open Go.Proofs
set_option maxRecDepth 100000
set_option maxHeartbeats 40000000
set_option pp.deepTerms true
set_option pp.maxSteps 2000000
instance (priority := 5000) ZN_5 : FnM BA 63 [.loc 0 0,.loc 3 0] [(0,.box [.own 1,.own 2,.nils,.int .i64 5,.int .i64 0,.int .i64 0,.int .i64 0,.int .i64 0,.bool false,.bool false,.str [100,105,118]]),(1,.own qAB [((0 : Int),(0 : Int),([] : List UInt8),([] : List qAK),([] : List UInt8),(-1 : Int),([1] : List Int)),((1 : Int),(0 : Int),([104,116,109,108] : List UInt8),([] : List qAK),([] : List UInt8),(0 : Int),([2] : List Int)),((1 : Int),(0 : Int),([111,117,116,112,117,116] : List UInt8),([([102,111,114],[97,32,98])] : List qAK),([] : List UInt8),(1 : Int),([] : List Int))]),(2,.own qAI [1]),(3,.box [.int .i64 1,.str [97],.rd qAJ [([104,114,101,102],[35,99]),([110,97,109,101],[100])],.bool false,.str []])] True (.bool false) [(0,.box [.own 1,.own 4,.own 5,.int .i64 5,.int .i64 0,.int .i64 0,.int .i64 0,.int .i64 0,.bool false,.bool false,.str [100,105,118]]),(1,.own qAB [((0 : Int),(0 : Int),([] : List UInt8),([] : List qAK),([] : List UInt8),(-1 : Int),([1] : List Int)),((1 : Int),(0 : Int),([104,116,109,108] : List UInt8),([] : List qAK),([] : List UInt8),(0 : Int),([2,3] : List Int)),((1 : Int),(0 : Int),([111,117,116,112,117,116] : List UInt8),([([102,111,114],[97,32,98])] : List qAK),([] : List UInt8),(1 : Int),([] : List Int)),((1 : Int),(0 : Int),([97] : List UInt8),([([104,114,101,102],[35,99]),([110,97,109,101],[100])] : List qAK),([] : List UInt8),(1 : Int),([] : List Int))]),(4,.own qAI [1,3]),(5,.own qAI [3]),(3,.box [.int .i64 1,.str [97],.rd qAJ [([104,114,101,102],[35,99]),([110,97,109,101],[100])],.bool false,.str []])] := by
 refine FnM.intro (N := 57) [0,1,4,15,20,35,50] [] 4 Tryz.call63 Tryz.func63 rfl rfl (by kernel_rfl) (fun hpre => ?_)
 repeat' ((conv => whnf);first|exact qR|(intro hq;first|(exfalso;revert hq;decide +kernel)|clear hq|skip)|refine WA ?_ ?_|refine WF ?_|refine W1 rfl ?_ ?_|refine W2 rfl ?_ ?_|refine W3 rfl ?_ ?_|refine W4 ?_ ?_|refine W5 rfl ?_ ?_|refine W6 ?_ ?_|refine WN ?_|refine X1 (W1 rfl ?_ ?_)|refine X1 (W2 rfl ?_ ?_)|refine X2 (W7 rfl ?_ ?_)|refine X3 (W7 rfl ?_ ?_)|refine X4 (W7 rfl ?_ ?_)|refine X5 (W7 rfl ?_ ?_)|refine X7 (by conv => lhs;cbv) rfl ?_|refine X8 (by conv => lhs;cbv) ?_|refine LoopStop.ug 500 ?_|refine ZStop.dir ?_|(refine Ob.mk ?_;decide +kernel))
 all_goals (first | rfl | decide +kernel)
end Go.Vc

namespace Go.Vc
open Go.Proofs
set_option maxRecDepth 100000
set_option maxHeartbeats 40000000
set_option pp.deepTerms true
set_option pp.maxSteps 2000000
instance (priority := 5000) ZN_6 : FnM BA 62 [.loc 0 0,.loc 4 0] [(0,.box [.own 1,.own 2,.own 3,.int .i64 5,.int .i64 0,.int .i64 0,.int .i64 0,.int .i64 0,.bool false,.bool false,.str [100,105,118]]),(1,.own qAB [((0 : Int),(0 : Int),([] : List UInt8),([] : List qAK),([] : List UInt8),(-1 : Int),([1] : List Int)),((1 : Int),(0 : Int),([104,116,109,108] : List UInt8),([] : List qAK),([] : List UInt8),(0 : Int),([2,3] : List Int)),((1 : Int),(0 : Int),([111,117,116,112,117,116] : List UInt8),([([102,111,114],[97,32,98])] : List qAK),([] : List UInt8),(1 : Int),([] : List Int)),((1 : Int),(0 : Int),([97] : List UInt8),([([104,114,101,102],[35,99]),([110,97,109,101],[100])] : List qAK),([] : List UInt8),(1 : Int),([] : List Int))]),(2,.own qAI [1,3]),(3,.own qAI [3]),(4,.box [.str [60,47,97,62]])] True (.agg [.int .i64 2,.str [97],.nils,.bool false,.str []]) [(0,.box [.own 1,.own 2,.own 3,.int .i64 5,.int .i64 0,.int .i64 0,.int .i64 0,.int .i64 0,.bool false,.bool false,.str [100,105,118]]),(1,.own qAB [((0 : Int),(0 : Int),([] : List UInt8),([] : List qAK),([] : List UInt8),(-1 : Int),([1] : List Int)),((1 : Int),(0 : Int),([104,116,109,108] : List UInt8),([] : List qAK),([] : List UInt8),(0 : Int),([2,3] : List Int)),((1 : Int),(0 : Int),([111,117,116,112,117,116] : List UInt8),([([102,111,114],[97,32,98])] : List qAK),([] : List UInt8),(1 : Int),([] : List Int)),((1 : Int),(0 : Int),([97] : List UInt8),([([104,114,101,102],[35,99]),([110,97,109,101],[100])] : List qAK),([] : List UInt8),(1 : Int),([] : List Int))]),(2,.own qAI [1,3]),(3,.own qAI [3]),(4,.box [.str []])] := by
 refine FnM.intro (N := 43) [0,1,4,5,10] [(3,[0,0,0,0,1,0,0,0,1,1,3,3,3,3]),(4,[0,0,0,0,7,0,0,0,0,4,4,4,4,4,4,4,4,4,4,4]),(3000004,[649,714,779,844,909,974,1039,1104,1169,1234])] 5 Tryz.call62 Tryz.func62 rfl rfl (by kernel_rfl) (fun hpre => ?_)
 repeat' ((conv => whnf);first|exact qR|(intro hq;first|(exfalso;revert hq;decide +kernel)|clear hq|skip)|refine WA ?_ ?_|refine WF ?_|refine W1 rfl ?_ ?_|refine W2 rfl ?_ ?_|refine W3 rfl ?_ ?_|refine W4 ?_ ?_|refine W5 rfl ?_ ?_|refine W6 ?_ ?_|refine WN ?_|refine X1 (W1 rfl ?_ ?_)|refine X1 (W2 rfl ?_ ?_)|refine X2 (W7 rfl ?_ ?_)|refine X3 (W7 rfl ?_ ?_)|refine X4 (W7 rfl ?_ ?_)|refine X5 (W7 rfl ?_ ?_)|refine X7 (by conv => lhs;cbv) rfl ?_|refine X8 (by conv => lhs;cbv) ?_|refine LoopStop.ug 500 ?_|refine ZStop.dir ?_|(refine Ob.mk ?_;decide +kernel))
 all_goals (first | rfl | decide +kernel)
end Go.Vc

namespace Go.Vc
open Go.Proofs
set_option maxRecDepth 100000
set_option maxHeartbeats 40000000
set_option pp.deepTerms true
set_option pp.maxSteps 2000000
instance (priority := 5000) ZN_7 : FnM BA 63 [.loc 0 0,.loc 4 0] [(0,.box [.own 1,.own 2,.own 3,.int .i64 5,.int .i64 0,.int .i64 0,.int .i64 0,.int .i64 0,.bool false,.bool false,.str [100,105,118]]),(1,.own qAB [((0 : Int),(0 : Int),([] : List UInt8),([] : List qAK),([] : List UInt8),(-1 : Int),([1] : List Int)),((1 : Int),(0 : Int),([104,116,109,108] : List UInt8),([] : List qAK),([] : List UInt8),(0 : Int),([2,3] : List Int)),((1 : Int),(0 : Int),([111,117,116,112,117,116] : List UInt8),([([102,111,114],[97,32,98])] : List qAK),([] : List UInt8),(1 : Int),([] : List Int)),((1 : Int),(0 : Int),([97] : List UInt8),([([104,114,101,102],[35,99]),([110,97,109,101],[100])] : List qAK),([] : List UInt8),(1 : Int),([] : List Int))]),(2,.own qAI [1,3]),(3,.own qAI [3]),(4,.box [.int .i64 2,.str [97],.nils,.bool false,.str []])] True (.bool false) [(0,.box [.own 1,.own 5,.nils,.int .i64 5,.int .i64 0,.int .i64 0,.int .i64 0,.int .i64 0,.bool false,.bool false,.str [100,105,118]]),(1,.own qAB [((0 : Int),(0 : Int),([] : List UInt8),([] : List qAK),([] : List UInt8),(-1 : Int),([1] : List Int)),((1 : Int),(0 : Int),([104,116,109,108] : List UInt8),([] : List qAK),([] : List UInt8),(0 : Int),([2,3] : List Int)),((1 : Int),(0 : Int),([111,117,116,112,117,116] : List UInt8),([([102,111,114],[97,32,98])] : List qAK),([] : List UInt8),(1 : Int),([] : List Int)),((1 : Int),(0 : Int),([97] : List UInt8),([([104,114,101,102],[35,99]),([110,97,109,101],[100])] : List qAK),([] : List UInt8),(1 : Int),([] : List Int))]),(5,.own qAI [1]),(4,.box [.int .i64 2,.str [97],.nils,.bool false,.str []])] := by
 refine FnM.intro (N := 57) [0,1,4,15,20,35,50] [] 5 Tryz.call63 Tryz.func63 rfl rfl (by kernel_rfl) (fun hpre => ?_)
 repeat' ((conv => whnf);first|exact qR|(intro hq;first|(exfalso;revert hq;decide +kernel)|clear hq|skip)|refine WA ?_ ?_|refine WF ?_|refine W1 rfl ?_ ?_|refine W2 rfl ?_ ?_|refine W3 rfl ?_ ?_|refine W4 ?_ ?_|refine W5 rfl ?_ ?_|refine W6 ?_ ?_|refine WN ?_|refine X1 (W1 rfl ?_ ?_)|refine X1 (W2 rfl ?_ ?_)|refine X2 (W7 rfl ?_ ?_)|refine X3 (W7 rfl ?_ ?_)|refine X4 (W7 rfl ?_ ?_)|refine X5 (W7 rfl ?_ ?_)|refine X7 (by conv => lhs;cbv) rfl ?_|refine X8 (by conv => lhs;cbv) ?_|refine LoopStop.ug 500 ?_|refine ZStop.dir ?_|(refine Ob.mk ?_;decide +kernel))
 all_goals (first | rfl | decide +kernel)
end Go.Vc

namespace Go.Vc
open Go.Proofs
set_option maxRecDepth 100000
set_option maxHeartbeats 40000000
set_option pp.deepTerms true
set_option pp.maxSteps 2000000
instance (priority := 5000) ZN_8 : FnM BA 62 [.loc 0 0,.loc 3 0] [(0,.box [.own 1,.own 2,.nils,.int .i64 5,.int .i64 0,.int .i64 0,.int .i64 0,.int .i64 0,.bool false,.bool false,.str [100,105,118]]),(1,.own qAB [((0 : Int),(0 : Int),([] : List UInt8),([] : List qAK),([] : List UInt8),(-1 : Int),([1] : List Int)),((1 : Int),(0 : Int),([104,116,109,108] : List UInt8),([] : List qAK),([] : List UInt8),(0 : Int),([2,3] : List Int)),((1 : Int),(0 : Int),([111,117,116,112,117,116] : List UInt8),([([102,111,114],[97,32,98])] : List qAK),([] : List UInt8),(1 : Int),([] : List Int)),((1 : Int),(0 : Int),([97] : List UInt8),([([104,114,101,102],[35,99]),([110,97,109,101],[100])] : List qAK),([] : List UInt8),(1 : Int),([] : List Int))]),(2,.own qAI [1]),(3,.box [.str []])] True (.agg [.int .i64 0,.str [],.nils,.bool false,.str []]) [(0,.box [.own 1,.own 2,.nils,.int .i64 5,.int .i64 0,.int .i64 0,.int .i64 0,.int .i64 0,.bool false,.bool false,.str [100,105,118]]),(1,.own qAB [((0 : Int),(0 : Int),([] : List UInt8),([] : List qAK),([] : List UInt8),(-1 : Int),([1] : List Int)),((1 : Int),(0 : Int),([104,116,109,108] : List UInt8),([] : List qAK),([] : List UInt8),(0 : Int),([2,3] : List Int)),((1 : Int),(0 : Int),([111,117,116,112,117,116] : List UInt8),([([102,111,114],[97,32,98])] : List qAK),([] : List UInt8),(1 : Int),([] : List Int)),((1 : Int),(0 : Int),([97] : List UInt8),([([104,114,101,102],[35,99]),([110,97,109,101],[100])] : List qAK),([] : List UInt8),(1 : Int),([] : List Int))]),(2,.own qAI [1]),(3,.box [.str []])] := by
 refine FnM.intro (N := 43) [0,1,4,5,10] [(3,[0,0,0,0,1,0,0,0,1,1,3,3,3,3]),(4,[0,0,0,0,7,0,0,0,0,4,4,4,4,4,4,4,4,4,4,4]),(3000004,[649,714,779,844,909,974,1039,1104,1169,1234])] 4 Tryz.call62 Tryz.func62 rfl rfl (by kernel_rfl) (fun hpre => ?_)
 repeat' ((conv => whnf);first|exact qR|(intro hq;first|(exfalso;revert hq;decide +kernel)|clear hq|skip)|refine WA ?_ ?_|refine WF ?_|refine W1 rfl ?_ ?_|refine W2 rfl ?_ ?_|refine W3 rfl ?_ ?_|refine W4 ?_ ?_|refine W5 rfl ?_ ?_|refine W6 ?_ ?_|refine WN ?_|refine X1 (W1 rfl ?_ ?_)|refine X1 (W2 rfl ?_ ?_)|refine X2 (W7 rfl ?_ ?_)|refine X3 (W7 rfl ?_ ?_)|refine X4 (W7 rfl ?_ ?_)|refine X5 (W7 rfl ?_ ?_)|refine X7 (by conv => lhs;cbv) rfl ?_|refine X8 (by conv => lhs;cbv) ?_|refine LoopStop.ug 500 ?_|refine ZStop.dir ?_|(refine Ob.mk ?_;decide +kernel))
 all_goals (first | rfl | decide +kernel)
end Go.Vc

namespace Go.Vc
open Go.Proofs
set_option maxRecDepth 100000
set_option maxHeartbeats 40000000
set_option pp.deepTerms true
set_option pp.maxSteps 2000000
instance (priority := 5000) ZN_9 : FnM BA 63 [.loc 0 0,.loc 3 0] [(0,.box [.own 1,.own 2,.nils,.int .i64 5,.int .i64 0,.int .i64 0,.int .i64 0,.int .i64 0,.bool false,.bool false,.str [100,105,118]]),(1,.own qAB [((0 : Int),(0 : Int),([] : List UInt8),([] : List qAK),([] : List UInt8),(-1 : Int),([1] : List Int)),((1 : Int),(0 : Int),([104,116,109,108] : List UInt8),([] : List qAK),([] : List UInt8),(0 : Int),([2,3] : List Int)),((1 : Int),(0 : Int),([111,117,116,112,117,116] : List UInt8),([([102,111,114],[97,32,98])] : List qAK),([] : List UInt8),(1 : Int),([] : List Int)),((1 : Int),(0 : Int),([97] : List UInt8),([([104,114,101,102],[35,99]),([110,97,109,101],[100])] : List qAK),([] : List UInt8),(1 : Int),([] : List Int))]),(2,.own qAI [1]),(3,.box [.int .i64 0,.str [],.nils,.bool false,.str []])] True (.bool false) [(0,.box [.own 1,.own 2,.nils,.int .i64 5,.int .i64 0,.int .i64 0,.int .i64 0,.int .i64 0,.bool false,.bool false,.str [100,105,118]]),(1,.own qAB [((0 : Int),(0 : Int),([] : List UInt8),([] : List qAK),([] : List UInt8),(-1 : Int),([1] : List Int)),((1 : Int),(0 : Int),([104,116,109,108] : List UInt8),([] : List qAK),([] : List UInt8),(0 : Int),([2,3] : List Int)),((1 : Int),(0 : Int),([111,117,116,112,117,116] : List UInt8),([([102,111,114],[97,32,98])] : List qAK),([] : List UInt8),(1 : Int),([] : List Int)),((1 : Int),(0 : Int),([97] : List UInt8),([([104,114,101,102],[35,99]),([110,97,109,101],[100])] : List qAK),([] : List UInt8),(1 : Int),([] : List Int))]),(2,.own qAI [1]),(3,.box [.int .i64 0,.str [],.nils,.bool false,.str []])] := by
 refine FnM.intro (N := 57) [0,1,4,15,20,35,50] [] 4 Tryz.call63 Tryz.func63 rfl rfl (by kernel_rfl) (fun hpre => ?_)
 repeat' ((conv => whnf);first|exact qR|(intro hq;first|(exfalso;revert hq;decide +kernel)|clear hq|skip)|refine WA ?_ ?_|refine WF ?_|refine W1 rfl ?_ ?_|refine W2 rfl ?_ ?_|refine W3 rfl ?_ ?_|refine W4 ?_ ?_|refine W5 rfl ?_ ?_|refine W6 ?_ ?_|refine WN ?_|refine X1 (W1 rfl ?_ ?_)|refine X1 (W2 rfl ?_ ?_)|refine X2 (W7 rfl ?_ ?_)|refine X3 (W7 rfl ?_ ?_)|refine X4 (W7 rfl ?_ ?_)|refine X5 (W7 rfl ?_ ?_)|refine X7 (by conv => lhs;cbv) rfl ?_|refine X8 (by conv => lhs;cbv) ?_|refine LoopStop.ug 500 ?_|refine ZStop.dir ?_|(refine Ob.mk ?_;decide +kernel))
 all_goals (first | rfl | decide +kernel)
end Go.Vc
