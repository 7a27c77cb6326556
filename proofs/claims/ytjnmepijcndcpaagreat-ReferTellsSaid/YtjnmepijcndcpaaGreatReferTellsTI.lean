/- A part of the proof: lemmas and walks that the last text of the claim joins; no condition. -/
import Derived.Test.YtjnmepijcndcpaaGreatReferTellsTH
import Derived.Test.YtjnmepijcndcpaaGreatReferTellsTG
import Derived.Shelf.Vars
import Derived.Test.YtjnmepijcndcpaaGreatRows
set_option linter.unusedVariables false
set_option linter.unusedSimpArgs false
set_option maxHeartbeats 8000000
namespace Go.Vc
open Go.Proofs
set_option maxRecDepth 100000
set_option maxHeartbeats 40000000
set_option pp.deepTerms true
set_option pp.maxSteps 2000000
instance (priority := 5000) ZR_8 : FnM BA 154 [.loc 0 0,.loc 4 0] [(0,.box [.own 1,.own 2,.own 3,.int .i64 5,.int .i64 0,.int .i64 0,.int .i64 0,.int .i64 0,.bool false,.bool false,.str [100,105,118]]),(1,.own qAC [((0 : Int),(0 : Int),([] : List UInt8),([] : List qAJ),([] : List UInt8),(-1 : Int),([1] : List Int)),((1 : Int),(0 : Int),([104,116,109,108] : List UInt8),([] : List qAJ),([] : List UInt8),(0 : Int),([2,3,4] : List Int)),((1 : Int),(0 : Int),([108,97,98,101,108] : List UInt8),([([102,111,114],[97])] : List qAJ),([] : List UInt8),(1 : Int),([] : List Int)),((1 : Int),(0 : Int),([105,110,112,117,116] : List UInt8),([([105,100],[97])] : List qAJ),([] : List UInt8),(1 : Int),([] : List Int)),((1 : Int),(0 : Int),([97] : List UInt8),([([104,114,101,102],[35,98])] : List qAJ),([] : List UInt8),(1 : Int),([] : List Int))]),(2,.own qAH [1,4]),(3,.own qAH [4]),(4,.box [.str [60,47,97,62]])] True (.agg [.int .i64 2,.str [97],.nils,.bool false,.str []]) [(0,.box [.own 1,.own 2,.own 3,.int .i64 5,.int .i64 0,.int .i64 0,.int .i64 0,.int .i64 0,.bool false,.bool false,.str [100,105,118]]),(1,.own qAC [((0 : Int),(0 : Int),([] : List UInt8),([] : List qAJ),([] : List UInt8),(-1 : Int),([1] : List Int)),((1 : Int),(0 : Int),([104,116,109,108] : List UInt8),([] : List qAJ),([] : List UInt8),(0 : Int),([2,3,4] : List Int)),((1 : Int),(0 : Int),([108,97,98,101,108] : List UInt8),([([102,111,114],[97])] : List qAJ),([] : List UInt8),(1 : Int),([] : List Int)),((1 : Int),(0 : Int),([105,110,112,117,116] : List UInt8),([([105,100],[97])] : List qAJ),([] : List UInt8),(1 : Int),([] : List Int)),((1 : Int),(0 : Int),([97] : List UInt8),([([104,114,101,102],[35,98])] : List qAJ),([] : List UInt8),(1 : Int),([] : List Int))]),(2,.own qAH [1,4]),(3,.own qAH [4]),(4,.box [.str []])] := by
 refine FnM.intro (N := 43) [0,1,4,5,10] [(3,[0,0,0,0,1,0,0,0,1,1,3,3,3,3]),(4,[0,0,0,0,7,0,0,0,0,4,4,4,4,4,4,4,4,4,4,4]),(3000004,[649,714,779,844,909,974,1039,1104,1169,1234])] 5 Tryz.call154 Tryz.func154 rfl rfl (by kernel_rfl) (fun hpre => ?_)
 repeat' ((conv => whnf);first|(with_reducible first|rfl|exact qAE|exact qAD)|exact True.intro|(intro hq;first|(exfalso;revert hq;decide +kernel)|clear hq|skip)|refine WA ?_ ?_|refine WF ?_|refine W1 rfl ?_ ?_|refine W2 rfl ?_ ?_|refine W3 rfl ?_ ?_|refine W4 ?_ ?_|refine W5 rfl ?_ ?_|refine W6 ?_ ?_|refine WN ?_|refine X1 (W1 rfl ?_ ?_)|refine X1 (W2 rfl ?_ ?_)|refine X2 (W7 rfl ?_ ?_)|refine X3 (W7 rfl ?_ ?_)|refine X4 (W7 rfl ?_ ?_)|refine X5 (W7 rfl ?_ ?_)|refine X7 (by conv => lhs;cbv) rfl ?_|refine X8 (by conv => lhs;cbv) ?_|refine LoopStop.ug 500 ?_|refine ZStop.dir ?_|(refine Ob.mk ?_;decide +kernel))
 all_goals (first | rfl | decide +kernel)
end Go.Vc

namespace Go.Vc
open Go.Proofs
set_option maxRecDepth 100000
set_option maxHeartbeats 40000000
set_option pp.deepTerms true
set_option pp.maxSteps 2000000
instance (priority := 5000) ZR_9 : FnM BA 155 [.loc 0 0,.loc 4 0] [(0,.box [.own 1,.own 2,.own 3,.int .i64 5,.int .i64 0,.int .i64 0,.int .i64 0,.int .i64 0,.bool false,.bool false,.str [100,105,118]]),(1,.own qAC [((0 : Int),(0 : Int),([] : List UInt8),([] : List qAJ),([] : List UInt8),(-1 : Int),([1] : List Int)),((1 : Int),(0 : Int),([104,116,109,108] : List UInt8),([] : List qAJ),([] : List UInt8),(0 : Int),([2,3,4] : List Int)),((1 : Int),(0 : Int),([108,97,98,101,108] : List UInt8),([([102,111,114],[97])] : List qAJ),([] : List UInt8),(1 : Int),([] : List Int)),((1 : Int),(0 : Int),([105,110,112,117,116] : List UInt8),([([105,100],[97])] : List qAJ),([] : List UInt8),(1 : Int),([] : List Int)),((1 : Int),(0 : Int),([97] : List UInt8),([([104,114,101,102],[35,98])] : List qAJ),([] : List UInt8),(1 : Int),([] : List Int))]),(2,.own qAH [1,4]),(3,.own qAH [4]),(4,.box [.int .i64 2,.str [97],.nils,.bool false,.str []])] True (.bool false) [(0,.box [.own 1,.own 5,.nils,.int .i64 5,.int .i64 0,.int .i64 0,.int .i64 0,.int .i64 0,.bool false,.bool false,.str [100,105,118]]),(1,.own qAC [((0 : Int),(0 : Int),([] : List UInt8),([] : List qAJ),([] : List UInt8),(-1 : Int),([1] : List Int)),((1 : Int),(0 : Int),([104,116,109,108] : List UInt8),([] : List qAJ),([] : List UInt8),(0 : Int),([2,3,4] : List Int)),((1 : Int),(0 : Int),([108,97,98,101,108] : List UInt8),([([102,111,114],[97])] : List qAJ),([] : List UInt8),(1 : Int),([] : List Int)),((1 : Int),(0 : Int),([105,110,112,117,116] : List UInt8),([([105,100],[97])] : List qAJ),([] : List UInt8),(1 : Int),([] : List Int)),((1 : Int),(0 : Int),([97] : List UInt8),([([104,114,101,102],[35,98])] : List qAJ),([] : List UInt8),(1 : Int),([] : List Int))]),(5,.own qAH [1]),(4,.box [.int .i64 2,.str [97],.nils,.bool false,.str []])] := by
 refine FnM.intro (N := 57) [0,1,4,15,20,35,50] [] 5 Tryz.call155 Tryz.func155 rfl rfl (by kernel_rfl) (fun hpre => ?_)
 repeat' ((conv => whnf);first|(with_reducible first|rfl|exact qAE|exact qAD)|exact True.intro|(intro hq;first|(exfalso;revert hq;decide +kernel)|clear hq|skip)|refine WA ?_ ?_|refine WF ?_|refine W1 rfl ?_ ?_|refine W2 rfl ?_ ?_|refine W3 rfl ?_ ?_|refine W4 ?_ ?_|refine W5 rfl ?_ ?_|refine W6 ?_ ?_|refine WN ?_|refine X1 (W1 rfl ?_ ?_)|refine X1 (W2 rfl ?_ ?_)|refine X2 (W7 rfl ?_ ?_)|refine X3 (W7 rfl ?_ ?_)|refine X4 (W7 rfl ?_ ?_)|refine X5 (W7 rfl ?_ ?_)|refine X7 (by conv => lhs;cbv) rfl ?_|refine X8 (by conv => lhs;cbv) ?_|refine LoopStop.ug 500 ?_|refine ZStop.dir ?_|(refine Ob.mk ?_;decide +kernel))
 all_goals (first | rfl | decide +kernel)
end Go.Vc

namespace Go.Vc
open Go.Proofs
set_option maxRecDepth 100000
set_option maxHeartbeats 40000000
set_option pp.deepTerms true
set_option pp.maxSteps 2000000
instance (priority := 5000) ZR_10 : FnM BA 154 [.loc 0 0,.loc 3 0] [(0,.box [.own 1,.own 2,.nils,.int .i64 5,.int .i64 0,.int .i64 0,.int .i64 0,.int .i64 0,.bool false,.bool false,.str [100,105,118]]),(1,.own qAC [((0 : Int),(0 : Int),([] : List UInt8),([] : List qAJ),([] : List UInt8),(-1 : Int),([1] : List Int)),((1 : Int),(0 : Int),([104,116,109,108] : List UInt8),([] : List qAJ),([] : List UInt8),(0 : Int),([2,3,4] : List Int)),((1 : Int),(0 : Int),([108,97,98,101,108] : List UInt8),([([102,111,114],[97])] : List qAJ),([] : List UInt8),(1 : Int),([] : List Int)),((1 : Int),(0 : Int),([105,110,112,117,116] : List UInt8),([([105,100],[97])] : List qAJ),([] : List UInt8),(1 : Int),([] : List Int)),((1 : Int),(0 : Int),([97] : List UInt8),([([104,114,101,102],[35,98])] : List qAJ),([] : List UInt8),(1 : Int),([] : List Int))]),(2,.own qAH [1]),(3,.box [.str []])] True (.agg [.int .i64 0,.str [],.nils,.bool false,.str []]) [(0,.box [.own 1,.own 2,.nils,.int .i64 5,.int .i64 0,.int .i64 0,.int .i64 0,.int .i64 0,.bool false,.bool false,.str [100,105,118]]),(1,.own qAC [((0 : Int),(0 : Int),([] : List UInt8),([] : List qAJ),([] : List UInt8),(-1 : Int),([1] : List Int)),((1 : Int),(0 : Int),([104,116,109,108] : List UInt8),([] : List qAJ),([] : List UInt8),(0 : Int),([2,3,4] : List Int)),((1 : Int),(0 : Int),([108,97,98,101,108] : List UInt8),([([102,111,114],[97])] : List qAJ),([] : List UInt8),(1 : Int),([] : List Int)),((1 : Int),(0 : Int),([105,110,112,117,116] : List UInt8),([([105,100],[97])] : List qAJ),([] : List UInt8),(1 : Int),([] : List Int)),((1 : Int),(0 : Int),([97] : List UInt8),([([104,114,101,102],[35,98])] : List qAJ),([] : List UInt8),(1 : Int),([] : List Int))]),(2,.own qAH [1]),(3,.box [.str []])] := by
 refine FnM.intro (N := 43) [0,1,4,5,10] [(3,[0,0,0,0,1,0,0,0,1,1,3,3,3,3]),(4,[0,0,0,0,7,0,0,0,0,4,4,4,4,4,4,4,4,4,4,4]),(3000004,[649,714,779,844,909,974,1039,1104,1169,1234])] 4 Tryz.call154 Tryz.func154 rfl rfl (by kernel_rfl) (fun hpre => ?_)
 repeat' ((conv => whnf);first|(with_reducible first|rfl|exact qAE|exact qAD)|exact True.intro|(intro hq;first|(exfalso;revert hq;decide +kernel)|clear hq|skip)|refine WA ?_ ?_|refine WF ?_|refine W1 rfl ?_ ?_|refine W2 rfl ?_ ?_|refine W3 rfl ?_ ?_|refine W4 ?_ ?_|refine W5 rfl ?_ ?_|refine W6 ?_ ?_|refine WN ?_|refine X1 (W1 rfl ?_ ?_)|refine X1 (W2 rfl ?_ ?_)|refine X2 (W7 rfl ?_ ?_)|refine X3 (W7 rfl ?_ ?_)|refine X4 (W7 rfl ?_ ?_)|refine X5 (W7 rfl ?_ ?_)|refine X7 (by conv => lhs;cbv) rfl ?_|refine X8 (by conv => lhs;cbv) ?_|refine LoopStop.ug 500 ?_|refine ZStop.dir ?_|(refine Ob.mk ?_;decide +kernel))
 all_goals (first | rfl | decide +kernel)
end Go.Vc

namespace Go.Vc
open Go.Proofs
set_option maxRecDepth 100000
set_option maxHeartbeats 40000000
set_option pp.deepTerms true
set_option pp.maxSteps 2000000
instance (priority := 5000) ZR_11 : FnM BA 155 [.loc 0 0,.loc 3 0] [(0,.box [.own 1,.own 2,.nils,.int .i64 5,.int .i64 0,.int .i64 0,.int .i64 0,.int .i64 0,.bool false,.bool false,.str [100,105,118]]),(1,.own qAC [((0 : Int),(0 : Int),([] : List UInt8),([] : List qAJ),([] : List UInt8),(-1 : Int),([1] : List Int)),((1 : Int),(0 : Int),([104,116,109,108] : List UInt8),([] : List qAJ),([] : List UInt8),(0 : Int),([2,3,4] : List Int)),((1 : Int),(0 : Int),([108,97,98,101,108] : List UInt8),([([102,111,114],[97])] : List qAJ),([] : List UInt8),(1 : Int),([] : List Int)),((1 : Int),(0 : Int),([105,110,112,117,116] : List UInt8),([([105,100],[97])] : List qAJ),([] : List UInt8),(1 : Int),([] : List Int)),((1 : Int),(0 : Int),([97] : List UInt8),([([104,114,101,102],[35,98])] : List qAJ),([] : List UInt8),(1 : Int),([] : List Int))]),(2,.own qAH [1]),(3,.box [.int .i64 0,.str [],.nils,.bool false,.str []])] True (.bool false) [(0,.box [.own 1,.own 2,.nils,.int .i64 5,.int .i64 0,.int .i64 0,.int .i64 0,.int .i64 0,.bool false,.bool false,.str [100,105,118]]),(1,.own qAC [((0 : Int),(0 : Int),([] : List UInt8),([] : List qAJ),([] : List UInt8),(-1 : Int),([1] : List Int)),((1 : Int),(0 : Int),([104,116,109,108] : List UInt8),([] : List qAJ),([] : List UInt8),(0 : Int),([2,3,4] : List Int)),((1 : Int),(0 : Int),([108,97,98,101,108] : List UInt8),([([102,111,114],[97])] : List qAJ),([] : List UInt8),(1 : Int),([] : List Int)),((1 : Int),(0 : Int),([105,110,112,117,116] : List UInt8),([([105,100],[97])] : List qAJ),([] : List UInt8),(1 : Int),([] : List Int)),((1 : Int),(0 : Int),([97] : List UInt8),([([104,114,101,102],[35,98])] : List qAJ),([] : List UInt8),(1 : Int),([] : List Int))]),(2,.own qAH [1]),(3,.box [.int .i64 0,.str [],.nils,.bool false,.str []])] := by
 refine FnM.intro (N := 57) [0,1,4,15,20,35,50] [] 4 Tryz.call155 Tryz.func155 rfl rfl (by kernel_rfl) (fun hpre => ?_)
 repeat' ((conv => whnf);first|(with_reducible first|rfl|exact qAE|exact qAD)|exact True.intro|(intro hq;first|(exfalso;revert hq;decide +kernel)|clear hq|skip)|refine WA ?_ ?_|refine WF ?_|refine W1 rfl ?_ ?_|refine W2 rfl ?_ ?_|refine W3 rfl ?_ ?_|refine W4 ?_ ?_|refine W5 rfl ?_ ?_|refine W6 ?_ ?_|refine WN ?_|refine X1 (W1 rfl ?_ ?_)|refine X1 (W2 rfl ?_ ?_)|refine X2 (W7 rfl ?_ ?_)|refine X3 (W7 rfl ?_ ?_)|refine X4 (W7 rfl ?_ ?_)|refine X5 (W7 rfl ?_ ?_)|refine X7 (by conv => lhs;cbv) rfl ?_|refine X8 (by conv => lhs;cbv) ?_|refine LoopStop.ug 500 ?_|refine ZStop.dir ?_|(refine Ob.mk ?_;decide +kernel))
 all_goals (first | rfl | decide +kernel)
end Go.Vc

namespace Go.Vc
open Go.Proofs
set_option maxRecDepth 10000
instance decN1 : DecidableEq (List UInt8) := inferInstance
instance decN2 : DecidableEq (List UInt8 × List UInt8) := instDecidableEqProd
instance decN3 : DecidableEq (Int × List Int) := instDecidableEqProd
instance decN4 : DecidableEq (List (List UInt8 × List UInt8)) := instDecidableEqList
instance decN5 : DecidableEq (List UInt8 × Int × List Int) := instDecidableEqProd
instance decNode : DecidableEq qAG := (instDecidableEqProd : DecidableEq (Int × Int × List UInt8 × List (List UInt8 × List UInt8) × List UInt8 × Int × List Int))
def qd8 (K : Nat → List Int) : Nat → List Bool → Nat → Nat → Nat → Option (List Ev × List Bool × Nat)
 | 0,_,_,_,_ => none
 | f + 1,s,i,j,c =>
  if j < (K i).length then
   if okK s ((K i).getD j 0) = true then
    match qd8 K f (s.set ((K i).getD j 0).toNat true) ((K i).getD j 0).toNat 0 (c + 1) with
    | none => none
    | some r1 =>
     match qd8 K f r1.2.1 i (j + 1) r1.2.2 with
     | none => none
     | some r2 => some ((((K i).getD j 0).toNat,(i : Int),c,false) :: (r1.1 ++ r2.1),r2.2.1,r2.2.2)
   else qd8 K f s i (j + 1) c
  else some ([(i,0,c,true)],s,c + 1)
theorem qVV {K : Nat → List Int} : ∀ (f : Nat) (s : List Bool) (i j c : Nat) (r : List Ev × List Bool × Nat),qd8 K f s i j c = some r → dfs K s i j c = r := by
 intro f
 induction f with
 | zero => intro s i j c r h;cases h
 | succ f ih =>
  intro s i j c r h
  rw [qd8] at h
  split at h
  ·rename_i hj
   split at h
   ·rename_i hk
    split at h
    ·cases h
    ·rename_i r1 h1
     split at h
     ·cases h
     ·rename_i r2 h2
      cases h
      rw [qFE hj hk,ih _ _ _ _ _ h1,ih _ _ _ _ _ h2]
   ·rename_i hk
    rw [qC1 hj (by simpa using hk)]
    exact ih _ _ _ _ _ h
  ·rename_i hj
   cases h
   exact qCZ hj
def qfJ (t : List qAG) (f : Nat) : Option St :=
 if t.length = 0 then none else
 match qd8 (qAB t) f ((List.replicate t.length false).set 0 true) 0 0 1 with
 | some r => some ((st0 t.length).run ((0, -1,0,false) :: r.1))
 | none => none
theorem qW9 {t : List qAG} {f : Nat} {y : St} (h : qfJ t f = some y) : fin t = y := by
 unfold qfJ at h
 split at h
 ·cases h
 ·rename_i h0
  split at h
  ·rename_i r hr
   cases h
   unfold fin qTU qQQ
   rw [if_neg h0,qJH,qJH,List.append_nil,qVV _ _ _ _ _ _ hr]
  ·cases h
def qoW (t : List qAG) (k f : Nat) : Option (List qAG) :=
 match qd8 (qAB t) f ((List.replicate t.length false).set k true) k 0 0 with
 | some r => some (({ out := [mkN (t.getD k qAC.dflt) (-1)],P := [0] } : PSt).run t r.1).out
 | none => none
theorem qYV {t : List qAG} {k f : Nat} {x : List qAG} (h : qoW t k f = some x) : qNS t (qAB t) [] (List.replicate t.length false) k (-1) = x := by
 unfold qoW at h
 split at h
 ·rename_i r hr
  cases h
  unfold qNS pS
  rw [qVV _ _ _ _ _ _ hr]
  rfl
 ·cases h
def qwY (t : List qAG) (i : Int) (f : Nat) : Option (List qAG) :=
 match qfJ t f,qoW t 0 f with
 | some y,some x =>
  if qFQ t && decide (t.length ≤ 45) && qFQ x && decide (y.L.length ≤ x.length) && decide (x.length ≤ 1000) && decide (0 < t.length) then
   match qU2 (qA9 y.L) i with
   | none => some [qWF]
   | some k => match qoW x k f with | some z => some (qk1 z) | none => none
  else none
 | _,_ => none
theorem qeH {t : List qAG} {i : Int} {f : Nat} {T : List qAG} (h : qwY t i f = some T) : qS9 t ∧ qcI t i = T := by
 unfold qwY at h
 split at h
 ·rename_i y x hy hx
  split at h
  ·rename_i hc
   simp only [Bool.and_eq_true,decide_eq_true_eq] at hc
   have e1 := qW9 hy
   have e0 : ¬ t = [] := fun e => by rw [e] at hc;exact absurd hc.2 (by decide)
   have e2 : qD9 t = x := by unfold qD9;rw [if_neg e0];exact qYV hx
   refine ⟨⟨hc.1.1.1.1.1,hc.1.1.1.1.2,by rw [e2];exact hc.1.1.1.2,by rw [e1,e2];exact hc.1.1.2,by rw [e2];exact hc.1.2⟩,?_⟩
   unfold qcI
   rw [e1,e2]
   split at h
   ·rename_i hk;rw [hk];exact Option.some.inj h
   ·rename_i k hk
    rw [hk]
    split at h
    ·rename_i z hz
     show qeT x k = T
     unfold qeT
     rw [qYV hz]
     exact Option.some.inj h
    ·cases h
  ·cases h
 ·cases h
end Go.Vc

namespace Go.Vc
open Go.Proofs
set_option maxRecDepth 100000
set_option maxHeartbeats 40000000
abbrev qtG : List qAG := [((0 : Int),(0 : Int),([] : List UInt8),([] : List qAJ),([] : List UInt8),(-1 : Int),([1] : List Int)),((1 : Int),(0 : Int),([104,116,109,108] : List UInt8),([] : List qAJ),([] : List UInt8),(0 : Int),([2,3,4] : List Int)),((1 : Int),(0 : Int),([108,97,98,101,108] : List UInt8),([([102,111,114],[97])] : List qAJ),([] : List UInt8),(1 : Int),([] : List Int)),((1 : Int),(0 : Int),([105,110,112,117,116] : List UInt8),([([105,100],[97])] : List qAJ),([] : List UInt8),(1 : Int),([] : List Int)),((1 : Int),(0 : Int),([97] : List UInt8),([([104,114,101,102],[35,98])] : List qAJ),([] : List UInt8),(1 : Int),([] : List Int))]
abbrev qdE : List qAG := [((0 : Int),(0 : Int),([] : List UInt8),([] : List qAJ),([] : List UInt8),(-1 : Int),([1,2,3] : List Int)),((1 : Int),(0 : Int),([108,97,98,101,108] : List UInt8),([([102,111,114],[97])] : List qAJ),([] : List UInt8),(0 : Int),([] : List Int)),((1 : Int),(0 : Int),([105,110,112,117,116] : List UInt8),([([105,100],[97])] : List qAJ),([] : List UInt8),(0 : Int),([] : List Int)),((1 : Int),(0 : Int),([97] : List UInt8),([([104,114,101,102],[35,98])] : List qAJ),([] : List UInt8),(0 : Int),([] : List Int))]
instance (priority := 5000) ZR_new : FnM BA 114 [.str [100,105,118]] [] True (.loc 0 0) [(0,.box [.own 1,.own 2,.nils,.int .i64 5,.int .i64 0,.int .i64 0,.int .i64 0,.int .i64 0,.bool false,.bool false,.str [100,105,118]]),(1,.own qAC [((0 : Int),(0 : Int),([] : List UInt8),([] : List qAJ),([] : List UInt8),(-1 : Int),([1] : List Int)),((1 : Int),(0 : Int),([104,116,109,108] : List UInt8),([] : List qAJ),([] : List UInt8),(0 : Int),([] : List Int))]),(2,.own qAH [1])] := by
 refine FnM.intro (N := 34) [0,2,3,4,10] [] 0 Tryz.call114 Tryz.func114 rfl rfl (by kernel_rfl) (fun hpre => ?_)
 repeat' ((conv => whnf);first|(with_reducible first|rfl|exact qAE|exact qAD)|exact True.intro|(intro hq;first|(exfalso;revert hq;decide +kernel)|clear hq|skip)|refine WA ?_ ?_|refine WF ?_|refine W1 rfl ?_ ?_|refine W2 rfl ?_ ?_|refine W3 rfl ?_ ?_|refine W4 ?_ ?_|refine W5 rfl ?_ ?_|refine W6 ?_ ?_|refine WN ?_|refine X1 (W1 rfl ?_ ?_)|refine X1 (W2 rfl ?_ ?_)|refine X2 (W7 rfl ?_ ?_)|refine X3 (W7 rfl ?_ ?_)|refine X4 (W7 rfl ?_ ?_)|refine X5 (W7 rfl ?_ ?_)|refine X7 (by conv => lhs;cbv) rfl ?_|refine X8 (by conv => lhs;cbv) ?_|refine LoopStop.ug 500 ?_|refine ZStop.dir ?_|(refine Ob.mk ?_;decide +kernel))
 all_goals (first | rfl | decide +kernel)
instance (priority := 5000) ZR_run : FnM BA 115 [.loc 0 0,.str (60 :: 108 :: 97 :: 98 :: 101 :: 108 :: 32 :: 102 :: 111 :: 114 :: 61 :: 97 :: 62 :: 60 :: 47 :: 108 :: 97 :: 98 :: 101 :: 108 :: 62 :: 60 :: 105 :: 110 :: 112 :: 117 :: 116 :: 32 :: 105 :: 100 :: 61 :: 97 :: 62 :: 60 :: 97 :: 32 :: 104 :: 114 :: 101 :: 102 :: 61 :: 35 :: 98 :: 62 :: 60 :: 47 :: 97 :: 62 :: [])] [(0,.box [.own 1,.own 2,.nils,.int .i64 5,.int .i64 0,.int .i64 0,.int .i64 0,.int .i64 0,.bool false,.bool false,.str [100,105,118]]),(1,.own qAC [((0 : Int),(0 : Int),([] : List UInt8),([] : List qAJ),([] : List UInt8),(-1 : Int),([1] : List Int)),((1 : Int),(0 : Int),([104,116,109,108] : List UInt8),([] : List qAJ),([] : List UInt8),(0 : Int),([] : List Int))]),(2,.own qAH [1])] True (.tup []) [(0,.box [.own 1,.own 3,.nils,.int .i64 5,.int .i64 0,.int .i64 0,.int .i64 0,.int .i64 0,.bool false,.bool false,.str [100,105,118]]),(1,.own qAC qtG),(3,.own qAH [1])] := by
 refine FnM.intro (N := 46) [0,1,4,5,6,7,35,42,44,45] [] 3 Tryz.call115 Tryz.func115 rfl rfl (by kernel_rfl) (fun hpre => ?_)
 repeat' ((conv => whnf);first|(with_reducible first|rfl|exact qAE|exact qAD)|exact True.intro|(intro hq;first|(exfalso;revert hq;decide +kernel)|clear hq|skip)|refine WA ?_ ?_|refine WF ?_|refine W1 rfl ?_ ?_|refine W2 rfl ?_ ?_|refine W3 rfl ?_ ?_|refine W4 ?_ ?_|refine W5 rfl ?_ ?_|refine W6 ?_ ?_|refine WN ?_|refine X1 (W1 rfl ?_ ?_)|refine X1 (W2 rfl ?_ ?_)|refine X2 (W7 rfl ?_ ?_)|refine X3 (W7 rfl ?_ ?_)|refine X4 (W7 rfl ?_ ?_)|refine X5 (W7 rfl ?_ ?_)|refine X7 (by conv => lhs;cbv) rfl ?_|refine X8 (by conv => lhs;cbv) ?_|refine LoopStop.ug 500 ?_|refine ZStop.dir ?_|(refine Ob.mk ?_;decide +kernel))
 all_goals (first | rfl | decide +kernel)
theorem qY2 : qS9 qtG ∧ qcI qtG 1 = qdE := qeH (f := 100) (by decide +kernel)
instance ZR_fragA : FnM BA 59 [.str (60 :: 108 :: 97 :: 98 :: 101 :: 108 :: 32 :: 102 :: 111 :: 114 :: 61 :: 97 :: 62 :: 60 :: 47 :: 108 :: 97 :: 98 :: 101 :: 108 :: 62 :: 60 :: 105 :: 110 :: 112 :: 117 :: 116 :: 32 :: 105 :: 100 :: 61 :: 97 :: 62 :: 60 :: 97 :: 32 :: 104 :: 114 :: 101 :: 102 :: 61 :: 35 :: 98 :: 62 :: 60 :: 47 :: 97 :: 62 :: []),.str [100,105,118]] [] True (.agg [.rd qAC qdE]) [] := by
 refine FnM.intro (N := 28) [0,1,4,5,7] [(5,[0,0,0,1,0,0,0,0,1,1,1,1,1,1,3,3]),(5000005,[5])] 0 Tryz.call59 Tryz.func59 rfl rfl (by kernel_rfl) (fun hpre => ?_)
 repeat' ((conv => whnf);first|(with_reducible first|rfl|exact qAE|exact qAD)|exact True.intro|(intro hq;first|(exfalso;revert hq;decide +kernel)|clear hq|skip)|refine WA ?_ ?_|refine WF ?_|refine W1 rfl ?_ ?_|refine W2 rfl ?_ ?_|refine W3 rfl ?_ ?_|refine W4 ?_ ?_|refine W5 rfl ?_ ?_|refine W6 ?_ ?_|refine WN ?_|refine X1 (W1 rfl ?_ ?_)|refine X1 (W2 rfl ?_ ?_)|refine X2 (W7 rfl ?_ ?_)|refine X3 (W7 rfl ?_ ?_)|refine X4 (W7 rfl ?_ ?_)|refine X5 (W7 rfl ?_ ?_)|refine X7 (by conv => lhs;cbv) rfl ?_|refine X8 (by conv => lhs;cbv) ?_|refine LoopStop.ug 500 ?_|refine ZStop.dir ?_|(refine Ob.mk ?_;decide +kernel))
 all_goals (first | exact Ob.mk qY2.1 | exact qY2.1 | exact congrArg (fun l => SV.rd qAC l) qY2.2 | rfl | decide +kernel | trace_state)
instance ZR_frag : Fn BB 59 [.str (60 :: 108 :: 97 :: 98 :: 101 :: 108 :: 32 :: 102 :: 111 :: 114 :: 61 :: 97 :: 62 :: 60 :: 47 :: 108 :: 97 :: 98 :: 101 :: 108 :: 62 :: 60 :: 105 :: 110 :: 112 :: 117 :: 116 :: 32 :: 105 :: 100 :: 61 :: 97 :: 62 :: 60 :: 97 :: 32 :: 104 :: 114 :: 101 :: 102 :: 61 :: 35 :: 98 :: 62 :: 60 :: 47 :: 97 :: 62 :: []),.str [100,105,118]] True (.agg [.rd qAC qdE]) :=
 ⟨ZR_fragA.call,ZR_fragA.ok⟩
end Go.Vc

namespace Go.Vc
open Go.Proofs
open Go.Vc.W
set_option maxRecDepth 10000
set_option maxHeartbeats 4000000
def qRO (L : List Int) (t : List qAG) (el nm v : List UInt8) : Int := if v = [] then 0 else (L.find? fun i => qGD el nm v (nd t i)).getD 0
def qwM (L : List Int) (t : List qAG) (v : List UInt8) : Int := if qRO L t [] idT v = 0 then qRO L t [97] qIF v else qRO L t [] idT v
def toL (L : List Int) (t : List qAG) (i : Int) (nm w : List UInt8) : Int :=
 if 0 ≤ i ∧ i < t.length ∧ ¬ qFI (nd t i) nm = 0 then
  if nm = qPB then qRO L t qPL qIF w else if nm = qIJ then qwM L t w
  else if nm = qGE then qLA t (qRO L t [] idT w) qeF else if nm = qDY then qLA t (qRO L t [] idT w) qDY else qRO L t [] idT w
 else 0
def ofL (L : List Int) (t : List qAG) : List qVR := L.flatMap fun i => (nd t i).2.2.2.1.flatMap fun a => (List.range (qCL (nd t i) a).length).map fun (j : Nat) => (i,a.1,(j : Int),(qCL (nd t i) a).getD j [],toL L t i a.1 ((qCL (nd t i) a).getD j []))
theorem qwS (t : List qAG) : ofT t = ofL (qAY t) t := rfl
theorem qvY {t : List qAG} {f : Nat} {l : List Int} (h : (qfJ t f).map (fun y => qA9 y.L) = some l) : qAY t = l := by
 cases e : qfJ t f with
 | none => rw [e] at h;cases h
 | some y => rw [e] at h;unfold qAY;rw [qW9 e];exact Option.some.inj h
theorem qeC : qAY qdE = [0,1,2,3] := qvY (f := 60) (by decide +kernel)
theorem qlB : ofT qdE = [(1,qL9,0,[97],2),(3,qIJ,0,[98],0)] := by
 rw [qwS,qeC]
 show (ofL [0,1,2,3] qdE : List (Int × List UInt8 × Int × List UInt8 × Int)) = _
 decide +kernel
theorem qtQ : qA1 qdE 45 = true := by decide +kernel
instance rAwake : Fn BB 45 [] True (.bool true) := by
 refine Fn.intro (N := 31) [0,1] [] Tryz.call45 Tryz.func45 rfl rfl (by kernel_rfl) (fun hpre => ?_)
 repeat' ((conv => whnf);first|(with_reducible first|rfl|exact qAE|exact qAD)|exact True.intro|intro _|refine WA ?_ ?_|refine WF ?_|refine W1 rfl ?_ ?_|refine W2 rfl ?_ ?_|refine W3 rfl ?_ ?_|refine W4 ?_ ?_|refine W5 rfl ?_ ?_|refine W6 ?_ ?_|refine WN ?_|refine X1 (W1 rfl ?_ ?_)|refine X1 (W2 rfl ?_ ?_)|refine X2 (W7 rfl ?_ ?_)|refine X3 (W7 rfl ?_ ?_)|refine X4 (W7 rfl ?_ ?_)|refine X5 (W7 rfl ?_ ?_))
 all_goals (try (conv => whnf))
 all_goals (try first|exact obA|refine Ob.mk ?_)
 all_goals (first | exact qtQ | (rw [qlB];decide +kernel) | (rw [qlB];decide) | trace_state)
end Go.Vc

namespace Go.Vc
open Go.Proofs
open Go.Vc.W
set_option maxRecDepth 10000
set_option maxHeartbeats 4000000
theorem qV3 {t : List qAG} {m n : Int} (h : qA1 t m = true) (hm : m ≤ n) : qA1 t n = true := by
 unfold qA1 at *
 rw [Bool.and_eq_true,decide_eq_true_eq] at *
 exact ⟨by omega,h.2⟩
instance rTells (t : List qAG) (k s : Int) (nn : List UInt8) (at_ : List qAK.T) (dt : List UInt8) (up : Int) (kids : List Int) (nm w : List UInt8) (i kind : Int) :
  Fn BB 9 [.agg [.rd qAC t],.agg [.int .i64 k,.int .i64 s,.str nn,.rd qAK at_,.str dt,.int .i64 up,.rd qAH kids],.str nm,.str w,.int .i64 i,.int .i64 kind] True (.bool true) := by
 refine Fn.intro (N := 73) [0,1,2,3,4,5,6,7,12,13,31] [(3,[1,0,1,1,0,1,1,1,1,1,1,1,1,1,1,1,1,1,1,1,1,1,1,1,1,1,3,3,3,3]),(4,[0,0,1,1,1,3,3,3,3,3,3,3])] Tryz.call9 Tryz.func9 rfl rfl (by kernel_rfl) (fun hpre => ?_)
 have hp : (!qA1 t 40 || !qF7 (k,s,nn,at_,dt,up,kids) || decide ((nm.length : Int) > 100) || decide ((w.length : Int) > 100)) = false → qA1 t 45 = true ∧ nn.length ≤ 1000 ∧ w.length ≤ 100000 := fun h => by
  simp only [Bool.or_eq_false_iff,Bool.not_eq_false',decide_eq_false_iff_not] at h
  exact ⟨qV3 h.1.1.1 (by decide),Nat.le_trans (qB9 h.1.1.2).1 (by decide),by omega⟩
 repeat' ((conv => whnf);first|(with_reducible first|rfl|exact qAE|exact qAD)|exact True.intro|intro _|refine WA ?_ ?_|refine WF ?_|refine W1 rfl ?_ ?_|refine W2 rfl ?_ ?_|refine W3 rfl ?_ ?_|refine W4 ?_ ?_|refine W5 rfl ?_ ?_|refine W6 ?_ ?_|refine WN ?_|refine X1 (W1 rfl ?_ ?_)|refine X1 (W2 rfl ?_ ?_)|refine X2 (W7 rfl ?_ ?_)|refine X3 (W7 rfl ?_ ?_)|refine X4 (W7 rfl ?_ ?_)|refine X5 (W7 rfl ?_ ?_))
 all_goals (try (conv => whnf))
 all_goals (try first|exact obA|refine Ob.mk ?_)
 all_goals (first | exact (hp ‹_›).1 | exact (hp ‹_›).2.1 | exact (hp ‹_›).2.2 | simp)
end Go.Vc

namespace Go.Vc
open Go.Proofs
set_option maxRecDepth 100000
theorem qeO (W : World) (hsh : W.ShapedOpen Tryz.prog) : BB.G fun b => W.heap[b]? := by
 obtain ⟨m,hm⟩ := Go.Proofs.cell_of_shapedOpen_int (g := 0) (zero := #[.int .i64 0]) (t := 3) hsh (of_decide_eq_true (by kernel_rfl)) (by kernel_rfl) rfl (by kernel_rfl) (by kernel_rfl) Tryz.underlying3
 have hm' : W.cell? ⟨0,0,none⟩ = some (.int .i64 m) := hm
 unfold World.cell? at hm'
 show ∃ c T fr m,W.heap[0]? = some (.cells c T fr) ∧ c[0]? = some (.int .i64 m)
 cases h : W.heap[0]? with
 | none => simp [h] at hm'
 | some o =>
  cases o with
  | cells c T fr => exact ⟨c,T,fr,m,rfl,by simpa [h] using hm'⟩
  | _ => simp [h] at hm'
end Go.Vc
