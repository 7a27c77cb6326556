/- A part of the proof: lemmas and walks that the last text of the claim joins; no condition. -/
import Derived.Test.YtjnmepijcndcpaaGreatReferLeadsTH
import Derived.Test.YtjnmepijcndcpaaGreatReferLeadsTG
import Derived.Shelf.Vars
import Derived.Test.YtjnmepijcndcpaaGreatRows
set_option linter.unusedVariables false
set_option linter.unusedSimpArgs false
set_option maxHeartbeats 8000000
namespace Go.Vc
open Go.Proofs
set_option maxRecDepth 100000
set_option maxHeartbeats 40000000
set_option pp.deepTerms true
set_option pp.maxSteps 2000000
instance (priority := 5000) ZR_11 : FnM BA 155 [.loc 0 0,.loc 3 0] [(0,.box [.own 1,.own 2,.nils,.int .i64 5,.int .i64 0,.int .i64 0,.int .i64 0,.int .i64 0,.bool false,.bool false,.str [100,105,118]]),(1,.own qAC [((0 : Int),(0 : Int),([] : List UInt8),([] : List qAJ),([] : List UInt8),(-1 : Int),([1] : List Int)),((1 : Int),(0 : Int),([104,116,109,108] : List UInt8),([] : List qAJ),([] : List UInt8),(0 : Int),([2,3,4] : List Int)),((1 : Int),(0 : Int),([108,97,98,101,108] : List UInt8),([([102,111,114],[97])] : List qAJ),([] : List UInt8),(1 : Int),([] : List Int)),((1 : Int),(0 : Int),([105,110,112,117,116] : List UInt8),([([105,100],[97])] : List qAJ),([] : List UInt8),(1 : Int),([] : List Int)),((1 : Int),(0 : Int),([97] : List UInt8),([([104,114,101,102],[35,98])] : List qAJ),([] : List UInt8),(1 : Int),([] : List Int))]),(2,.own qAH [1]),(3,.box [.int .i64 0,.str [],.nils,.bool false,.str []])] True (.bool false) [(0,.box [.own 1,.own 2,.nils,.int .i64 5,.int .i64 0,.int .i64 0,.int .i64 0,.int .i64 0,.bool false,.bool false,.str [100,105,118]]),(1,.own qAC [((0 : Int),(0 : Int),([] : List UInt8),([] : List qAJ),([] : List UInt8),(-1 : Int),([1] : List Int)),((1 : Int),(0 : Int),([104,116,109,108] : List UInt8),([] : List qAJ),([] : List UInt8),(0 : Int),([2,3,4] : List Int)),((1 : Int),(0 : Int),([108,97,98,101,108] : List UInt8),([([102,111,114],[97])] : List qAJ),([] : List UInt8),(1 : Int),([] : List Int)),((1 : Int),(0 : Int),([105,110,112,117,116] : List UInt8),([([105,100],[97])] : List qAJ),([] : List UInt8),(1 : Int),([] : List Int)),((1 : Int),(0 : Int),([97] : List UInt8),([([104,114,101,102],[35,98])] : List qAJ),([] : List UInt8),(1 : Int),([] : List Int))]),(2,.own qAH [1]),(3,.box [.int .i64 0,.str [],.nils,.bool false,.str []])] := by
 refine FnM.intro (N := 57) [0,1,4,15,20,35,50] [] 4 Tryz.call155 Tryz.func155 rfl rfl (by kernel_rfl) (fun hpre => ?_)
 repeat' ((conv => whnf);first|(with_reducible first|rfl|exact qAF|exact qAG)|exact True.intro|(intro hq;first|(exfalso;revert hq;decide +kernel)|clear hq|skip)|refine WA ?_ ?_|refine WF ?_|refine W1 rfl ?_ ?_|refine W2 rfl ?_ ?_|refine W3 rfl ?_ ?_|refine W4 ?_ ?_|refine W5 rfl ?_ ?_|refine W6 ?_ ?_|refine WN ?_|refine X1 (W1 rfl ?_ ?_)|refine X1 (W2 rfl ?_ ?_)|refine X2 (W7 rfl ?_ ?_)|refine X3 (W7 rfl ?_ ?_)|refine X4 (W7 rfl ?_ ?_)|refine X5 (W7 rfl ?_ ?_)|refine X7 (by conv => lhs;cbv) rfl ?_|refine X8 (by conv => lhs;cbv) ?_|refine LoopStop.ug 500 ?_|refine ZStop.dir ?_|(refine Ob.mk ?_;decide +kernel))
 all_goals (first | rfl | decide +kernel)
end Go.Vc

namespace Go.Vc
open Go.Proofs
set_option maxRecDepth 10000
instance decN1 : DecidableEq (List UInt8) := inferInstance
instance decN2 : DecidableEq (List UInt8 × List UInt8) := instDecidableEqProd
instance decN3 : DecidableEq (Int × List Int) := instDecidableEqProd
instance decN4 : DecidableEq (List (List UInt8 × List UInt8)) := instDecidableEqList
instance decN5 : DecidableEq (List UInt8 × Int × List Int) := instDecidableEqProd
instance decNode : DecidableEq qAE := (instDecidableEqProd : DecidableEq (Int × Int × List UInt8 × List (List UInt8 × List UInt8) × List UInt8 × Int × List Int))
def qeJ (K : Nat → List Int) : Nat → List Bool → Nat → Nat → Nat → Option (List Ev × List Bool × Nat)
 | 0,_,_,_,_ => none
 | f + 1,s,i,j,c =>
  if j < (K i).length then
   if okK s ((K i).getD j 0) = true then
    match qeJ K f (s.set ((K i).getD j 0).toNat true) ((K i).getD j 0).toNat 0 (c + 1) with
    | none => none
    | some r1 =>
     match qeJ K f r1.2.1 i (j + 1) r1.2.2 with
     | none => none
     | some r2 => some ((((K i).getD j 0).toNat,(i : Int),c,false) :: (r1.1 ++ r2.1),r2.2.1,r2.2.2)
   else qeJ K f s i (j + 1) c
  else some ([(i,0,c,true)],s,c + 1)
theorem qWG {K : Nat → List Int} : ∀ (f : Nat) (s : List Bool) (i j c : Nat) (r : List Ev × List Bool × Nat),qeJ K f s i j c = some r → dfs K s i j c = r := by
 intro f
 induction f with
 | zero => intro s i j c r h;cases h
 | succ f ih =>
  intro s i j c r h
  rw [qeJ] at h
  split at h
  ·rename_i hj
   split at h
   ·rename_i hk
    split at h
    ·cases h
    ·rename_i r1 h1
     split at h
     ·cases h
     ·rename_i r2 h2
      cases h
      rw [qE8 hj hk,ih _ _ _ _ _ h1,ih _ _ _ _ _ h2]
   ·rename_i hk
    rw [qC0 hj (by simpa using hk)]
    exact ih _ _ _ _ _ h
  ·rename_i hj
   cases h
   exact qCZ hj
def qlD (t : List qAE) (f : Nat) : Option St :=
 if t.length = 0 then none else
 match qeJ (qAB t) f ((List.replicate t.length false).set 0 true) 0 0 1 with
 | some r => some ((st0 t.length).run ((0, -1,0,false) :: r.1))
 | none => none
theorem qVV {t : List qAE} {f : Nat} {y : St} (h : qlD t f = some y) : fin t = y := by
 unfold qlD at h
 split at h
 ·cases h
 ·rename_i h0
  split at h
  ·rename_i r hr
   cases h
   unfold fin qTB qQM
   rw [if_neg h0,qI9,qI9,List.append_nil,qWG _ _ _ _ _ _ hr]
  ·cases h
def qpP (t : List qAE) (k f : Nat) : Option (List qAE) :=
 match qeJ (qAB t) f ((List.replicate t.length false).set k true) k 0 0 with
 | some r => some (({ out := [mkN (t.getD k qAC.dflt) (-1)],P := [0] } : PSt).run t r.1).out
 | none => none
theorem qV4 {t : List qAE} {k f : Nat} {x : List qAE} (h : qpP t k f = some x) : qNS t (qAB t) [] (List.replicate t.length false) k (-1) = x := by
 unfold qpP at h
 split at h
 ·rename_i r hr
  cases h
  unfold qNS pS
  rw [qWG _ _ _ _ _ _ hr]
  rfl
 ·cases h
def qxF (t : List qAE) (i : Int) (f : Nat) : Option (List qAE) :=
 match qlD t f,qpP t 0 f with
 | some y,some x =>
  if qE9 t && decide (t.length ≤ 45) && qE9 x && decide (y.L.length ≤ x.length) && decide (x.length ≤ 1000) && decide (0 < t.length) then
   match qUD (qBK y.L) i with
   | none => some [qY0]
   | some k => match qpP x k f with | some z => some (qlJ z) | none => none
  else none
 | _,_ => none
theorem qeC {t : List qAE} {i : Int} {f : Nat} {T : List qAE} (h : qxF t i f = some T) : qTU t ∧ qb8 t i = T := by
 unfold qxF at h
 split at h
 ·rename_i y x hy hx
  split at h
  ·rename_i hc
   simp only [Bool.and_eq_true,decide_eq_true_eq] at hc
   have e1 := qVV hy
   have e0 : ¬ t = [] := fun e => by rw [e] at hc;exact absurd hc.2 (by decide)
   have e2 : qD9 t = x := by unfold qD9;rw [if_neg e0];exact qV4 hx
   refine ⟨⟨hc.1.1.1.1.1,hc.1.1.1.1.2,by rw [e2];exact hc.1.1.1.2,by rw [e1,e2];exact hc.1.1.2,by rw [e2];exact hc.1.2⟩,?_⟩
   unfold qb8
   rw [e1,e2]
   split at h
   ·rename_i hk;rw [hk];exact Option.some.inj h
   ·rename_i k hk
    rw [hk]
    split at h
    ·rename_i z hz
     show qdV x k = T
     unfold qdV
     rw [qV4 hz]
     exact Option.some.inj h
    ·cases h
  ·cases h
 ·cases h
end Go.Vc

namespace Go.Vc
open Go.Proofs
set_option maxRecDepth 100000
set_option maxHeartbeats 40000000
abbrev quQ : List qAE := [((0 : Int),(0 : Int),([] : List UInt8),([] : List qAJ),([] : List UInt8),(-1 : Int),([1] : List Int)),((1 : Int),(0 : Int),([104,116,109,108] : List UInt8),([] : List qAJ),([] : List UInt8),(0 : Int),([2,3,4] : List Int)),((1 : Int),(0 : Int),([108,97,98,101,108] : List UInt8),([([102,111,114],[97])] : List qAJ),([] : List UInt8),(1 : Int),([] : List Int)),((1 : Int),(0 : Int),([105,110,112,117,116] : List UInt8),([([105,100],[97])] : List qAJ),([] : List UInt8),(1 : Int),([] : List Int)),((1 : Int),(0 : Int),([97] : List UInt8),([([104,114,101,102],[35,98])] : List qAJ),([] : List UInt8),(1 : Int),([] : List Int))]
abbrev qeM : List qAE := [((0 : Int),(0 : Int),([] : List UInt8),([] : List qAJ),([] : List UInt8),(-1 : Int),([1,2,3] : List Int)),((1 : Int),(0 : Int),([108,97,98,101,108] : List UInt8),([([102,111,114],[97])] : List qAJ),([] : List UInt8),(0 : Int),([] : List Int)),((1 : Int),(0 : Int),([105,110,112,117,116] : List UInt8),([([105,100],[97])] : List qAJ),([] : List UInt8),(0 : Int),([] : List Int)),((1 : Int),(0 : Int),([97] : List UInt8),([([104,114,101,102],[35,98])] : List qAJ),([] : List UInt8),(0 : Int),([] : List Int))]
instance (priority := 5000) ZR_new : FnM BA 114 [.str [100,105,118]] [] True (.loc 0 0) [(0,.box [.own 1,.own 2,.nils,.int .i64 5,.int .i64 0,.int .i64 0,.int .i64 0,.int .i64 0,.bool false,.bool false,.str [100,105,118]]),(1,.own qAC [((0 : Int),(0 : Int),([] : List UInt8),([] : List qAJ),([] : List UInt8),(-1 : Int),([1] : List Int)),((1 : Int),(0 : Int),([104,116,109,108] : List UInt8),([] : List qAJ),([] : List UInt8),(0 : Int),([] : List Int))]),(2,.own qAH [1])] := by
 refine FnM.intro (N := 34) [0,2,3,4,10] [] 0 Tryz.call114 Tryz.func114 rfl rfl (by kernel_rfl) (fun hpre => ?_)
 repeat' ((conv => whnf);first|(with_reducible first|rfl|exact qAF|exact qAG)|exact True.intro|(intro hq;first|(exfalso;revert hq;decide +kernel)|clear hq|skip)|refine WA ?_ ?_|refine WF ?_|refine W1 rfl ?_ ?_|refine W2 rfl ?_ ?_|refine W3 rfl ?_ ?_|refine W4 ?_ ?_|refine W5 rfl ?_ ?_|refine W6 ?_ ?_|refine WN ?_|refine X1 (W1 rfl ?_ ?_)|refine X1 (W2 rfl ?_ ?_)|refine X2 (W7 rfl ?_ ?_)|refine X3 (W7 rfl ?_ ?_)|refine X4 (W7 rfl ?_ ?_)|refine X5 (W7 rfl ?_ ?_)|refine X7 (by conv => lhs;cbv) rfl ?_|refine X8 (by conv => lhs;cbv) ?_|refine LoopStop.ug 500 ?_|refine ZStop.dir ?_|(refine Ob.mk ?_;decide +kernel))
 all_goals (first | rfl | decide +kernel)
instance (priority := 5000) ZR_run : FnM BA 115 [.loc 0 0,.str (60 :: 108 :: 97 :: 98 :: 101 :: 108 :: 32 :: 102 :: 111 :: 114 :: 61 :: 97 :: 62 :: 60 :: 47 :: 108 :: 97 :: 98 :: 101 :: 108 :: 62 :: 60 :: 105 :: 110 :: 112 :: 117 :: 116 :: 32 :: 105 :: 100 :: 61 :: 97 :: 62 :: 60 :: 97 :: 32 :: 104 :: 114 :: 101 :: 102 :: 61 :: 35 :: 98 :: 62 :: 60 :: 47 :: 97 :: 62 :: [])] [(0,.box [.own 1,.own 2,.nils,.int .i64 5,.int .i64 0,.int .i64 0,.int .i64 0,.int .i64 0,.bool false,.bool false,.str [100,105,118]]),(1,.own qAC [((0 : Int),(0 : Int),([] : List UInt8),([] : List qAJ),([] : List UInt8),(-1 : Int),([1] : List Int)),((1 : Int),(0 : Int),([104,116,109,108] : List UInt8),([] : List qAJ),([] : List UInt8),(0 : Int),([] : List Int))]),(2,.own qAH [1])] True (.tup []) [(0,.box [.own 1,.own 3,.nils,.int .i64 5,.int .i64 0,.int .i64 0,.int .i64 0,.int .i64 0,.bool false,.bool false,.str [100,105,118]]),(1,.own qAC quQ),(3,.own qAH [1])] := by
 refine FnM.intro (N := 46) [0,1,4,5,6,7,35,42,44,45] [] 3 Tryz.call115 Tryz.func115 rfl rfl (by kernel_rfl) (fun hpre => ?_)
 repeat' ((conv => whnf);first|(with_reducible first|rfl|exact qAF|exact qAG)|exact True.intro|(intro hq;first|(exfalso;revert hq;decide +kernel)|clear hq|skip)|refine WA ?_ ?_|refine WF ?_|refine W1 rfl ?_ ?_|refine W2 rfl ?_ ?_|refine W3 rfl ?_ ?_|refine W4 ?_ ?_|refine W5 rfl ?_ ?_|refine W6 ?_ ?_|refine WN ?_|refine X1 (W1 rfl ?_ ?_)|refine X1 (W2 rfl ?_ ?_)|refine X2 (W7 rfl ?_ ?_)|refine X3 (W7 rfl ?_ ?_)|refine X4 (W7 rfl ?_ ?_)|refine X5 (W7 rfl ?_ ?_)|refine X7 (by conv => lhs;cbv) rfl ?_|refine X8 (by conv => lhs;cbv) ?_|refine LoopStop.ug 500 ?_|refine ZStop.dir ?_|(refine Ob.mk ?_;decide +kernel))
 all_goals (first | rfl | decide +kernel)
theorem qX6 : qTU quQ ∧ qb8 quQ 1 = qeM := qeC (f := 100) (by decide +kernel)
instance ZR_fragA : FnM BA 59 [.str (60 :: 108 :: 97 :: 98 :: 101 :: 108 :: 32 :: 102 :: 111 :: 114 :: 61 :: 97 :: 62 :: 60 :: 47 :: 108 :: 97 :: 98 :: 101 :: 108 :: 62 :: 60 :: 105 :: 110 :: 112 :: 117 :: 116 :: 32 :: 105 :: 100 :: 61 :: 97 :: 62 :: 60 :: 97 :: 32 :: 104 :: 114 :: 101 :: 102 :: 61 :: 35 :: 98 :: 62 :: 60 :: 47 :: 97 :: 62 :: []),.str [100,105,118]] [] True (.agg [.rd qAC qeM]) [] := by
 refine FnM.intro (N := 28) [0,1,4,5,7] [(5,[0,0,0,1,0,0,0,0,1,1,1,1,1,1,3,3]),(5000005,[5])] 0 Tryz.call59 Tryz.func59 rfl rfl (by kernel_rfl) (fun hpre => ?_)
 repeat' ((conv => whnf);first|(with_reducible first|rfl|exact qAF|exact qAG)|exact True.intro|(intro hq;first|(exfalso;revert hq;decide +kernel)|clear hq|skip)|refine WA ?_ ?_|refine WF ?_|refine W1 rfl ?_ ?_|refine W2 rfl ?_ ?_|refine W3 rfl ?_ ?_|refine W4 ?_ ?_|refine W5 rfl ?_ ?_|refine W6 ?_ ?_|refine WN ?_|refine X1 (W1 rfl ?_ ?_)|refine X1 (W2 rfl ?_ ?_)|refine X2 (W7 rfl ?_ ?_)|refine X3 (W7 rfl ?_ ?_)|refine X4 (W7 rfl ?_ ?_)|refine X5 (W7 rfl ?_ ?_)|refine X7 (by conv => lhs;cbv) rfl ?_|refine X8 (by conv => lhs;cbv) ?_|refine LoopStop.ug 500 ?_|refine ZStop.dir ?_|(refine Ob.mk ?_;decide +kernel))
 all_goals (first | exact Ob.mk qX6.1 | exact qX6.1 | exact congrArg (fun l => SV.rd qAC l) qX6.2 | rfl | decide +kernel | trace_state)
instance ZR_frag : Fn BB 59 [.str (60 :: 108 :: 97 :: 98 :: 101 :: 108 :: 32 :: 102 :: 111 :: 114 :: 61 :: 97 :: 62 :: 60 :: 47 :: 108 :: 97 :: 98 :: 101 :: 108 :: 62 :: 60 :: 105 :: 110 :: 112 :: 117 :: 116 :: 32 :: 105 :: 100 :: 61 :: 97 :: 62 :: 60 :: 97 :: 32 :: 104 :: 114 :: 101 :: 102 :: 61 :: 35 :: 98 :: 62 :: 60 :: 47 :: 97 :: 62 :: []),.str [100,105,118]] True (.agg [.rd qAC qeM]) :=
 ⟨ZR_fragA.call,ZR_fragA.ok⟩
end Go.Vc

namespace Go.Vc
open Go.Proofs
open Go.Vc.W
set_option maxRecDepth 10000
set_option maxHeartbeats 4000000
def qR2 (L : List Int) (t : List qAE) (el nm v : List UInt8) : Int := if v = [] then 0 else (L.find? fun i => qG1 el nm v (nd t i)).getD 0
def qvR (L : List Int) (t : List qAE) (v : List UInt8) : Int := if qR2 L t [] idT v = 0 then qR2 L t [97] qIJ v else qR2 L t [] idT v
def toL (L : List Int) (t : List qAE) (i : Int) (nm w : List UInt8) : Int :=
 if 0 ≤ i ∧ i < t.length ∧ ¬ qHH (nd t i) nm = 0 then
  if nm = qN3 then qR2 L t qTV qIJ w else if nm = qHU then qvR L t w
  else if nm = qJ1 then qJG t (qR2 L t [] idT w) qZS else if nm = qES then qJG t (qR2 L t [] idT w) qES else qR2 L t [] idT w
 else 0
def ofL (L : List Int) (t : List qAE) : List qTC := L.flatMap fun i => (nd t i).2.2.2.1.flatMap fun a => (List.range (qBX (nd t i) a).length).map fun (j : Nat) => (i,a.1,(j : Int),(qBX (nd t i) a).getD j [],toL L t i a.1 ((qBX (nd t i) a).getD j []))
theorem qt9 (t : List qAE) : ofT t = ofL (qA9 t) t := rfl
theorem qwM {t : List qAE} {f : Nat} {l : List Int} (h : (qlD t f).map (fun y => qBK y.L) = some l) : qA9 t = l := by
 cases e : qlD t f with
 | none => rw [e] at h;cases h
 | some y => rw [e] at h;unfold qA9;rw [qVV e];exact Option.some.inj h
theorem qcY : qA9 qeM = [0,1,2,3] := qwM (f := 60) (by decide +kernel)
theorem qj4 : ofT qeM = [(1,qVR,0,[97],2),(3,qHU,0,[98],0)] := by
 rw [qt9,qcY]
 show (ofL [0,1,2,3] qeM : List (Int × List UInt8 × Int × List UInt8 × Int)) = _
 decide +kernel
theorem qv7 : qA4 qeM 45 = true := by decide +kernel
instance rAwake : Fn BB 45 [] True (.bool true) := by
 refine Fn.intro (N := 31) [0,1] [] Tryz.call45 Tryz.func45 rfl rfl (by kernel_rfl) (fun hpre => ?_)
 repeat' ((conv => whnf);first|(with_reducible first|rfl|exact qAF|exact qAG)|exact True.intro|intro _|refine WA ?_ ?_|refine WF ?_|refine W1 rfl ?_ ?_|refine W2 rfl ?_ ?_|refine W3 rfl ?_ ?_|refine W4 ?_ ?_|refine W5 rfl ?_ ?_|refine W6 ?_ ?_|refine WN ?_|refine X1 (W1 rfl ?_ ?_)|refine X1 (W2 rfl ?_ ?_)|refine X2 (W7 rfl ?_ ?_)|refine X3 (W7 rfl ?_ ?_)|refine X4 (W7 rfl ?_ ?_)|refine X5 (W7 rfl ?_ ?_))
 all_goals (try (conv => whnf))
 all_goals (try first|exact obA|refine Ob.mk ?_)
 all_goals (first | exact qv7 | (rw [qj4];decide +kernel) | (rw [qj4];decide) | trace_state)
end Go.Vc

namespace Go.Vc
open Go.Proofs
open Go.Vc.W
set_option maxRecDepth 10000
set_option maxHeartbeats 4000000
theorem qXM {t : List qAE} {m n : Int} (h : qA4 t m = true) (hm : m ≤ n) : qA4 t n = true := by
 unfold qA4 at *
 rw [Bool.and_eq_true,decide_eq_true_eq] at *
 exact ⟨by omega,h.2⟩
theorem take_any {α : Type} (p : α → Bool) (l : List α) (i : Nat) (d : α) (h : i < l.length) : (l.take (i + 1)).any p = ((l.take i).any p || p (l.getD i d)) := by
 rw [qXW l h d,List.any_append];simp
instance rLeads (t : List qAE) : Fn BB 10 [.agg [.rd qAC t]] True (.bool true) := by
 refine Fn.intro (N := 123) [0,1,2,4,5,7,8,11,14,15,16,17,63,70,71,72,73,120] [(12,[0,1,0,1,1,1,0,1,1,0,1,3,3]),(13,[0,0,1,1,1,1,1,1,1,1,1,1,1,1,1,1,1,1,1,1,1,1,1,1,1,1,1,3,3,3,3])] Tryz.call10 Tryz.func10 rfl rfl (by kernel_rfl) (fun hpre => ?_)
 have hp : (!(qA4 t 40 && qE4 t)) = false → qA4 t 45 = true ∧ qE4 t = true := fun h => by
  simp only [Bool.not_eq_false',Bool.and_eq_true] at h
  exact ⟨qXM h.1 (by decide),h.2⟩
 repeat' ((conv => whnf);first|(with_reducible first|rfl|exact qAF|exact qAG)|exact True.intro|intro _|refine WA ?_ ?_|refine WF ?_|refine W1 rfl ?_ ?_|refine W2 rfl ?_ ?_|refine W3 rfl ?_ ?_|refine W4 ?_ ?_|refine W5 rfl ?_ ?_|refine W6 ?_ ?_|refine WN ?_|refine X1 (W1 rfl ?_ ?_)|refine X1 (W2 rfl ?_ ?_)|refine X2 (W7 rfl ?_ ?_)|refine X3 (W7 rfl ?_ ?_)|refine X4 (W7 rfl ?_ ?_)|refine X5 (W7 rfl ?_ ?_))
 all_goals (try (conv => whnf))
 all_goals (try first|exact obA|refine Ob.mk ?_)
 all_goals (try (exact (hp ‹_›).1))
 have hq := hp ‹_›
 obtain ⟨ht,hr⟩ := hq
 refine LoopStop.mk (α := Nat) (fun k => [(16,.int .i64 k)]) (fun _ => []) 30 (fun k => k ≤ (ofT t).length) (fun k => (ofT t).length - k) 0 (Nat.zero_le _) ?_ (fun k hk => ?_)
 ·all_goals exact vcA
 ·by_cases hkl : k < (ofT t).length
  ·obtain ⟨R,hR⟩ : ∃ R,R = (ofT t).getD k qMA.dflt := ⟨_,rfl⟩
   have hok := qg9 hr (show R ∈ ofT t by rw [hR];exact qYB hkl _)
   have hn := qIX ht R.1 ⟨Int.le_of_lt hok.1.1,hok.1.2⟩
   have hna := qCW hn
   have hC : (decide (R.1 ≤ 0) || decide (R.1 ≥ (t.length : Int)) || decide (R.2.2.2.2 < 0) || decide (R.2.2.2.2 ≥ (t.length : Int)) || (decide (R.2.2.2.2 > 0) && (nd t R.2.2.2.2).1 != 1) || R.2.2.2.1 == []) = false := by
    rw [decide_eq_false (fun h => absurd hok.1.1 (Int.not_lt.2 h)),decide_eq_false (fun h => absurd hok.1.2 (Int.not_lt.2 h)),decide_eq_false (Int.not_lt.2 hok.2.1.1),decide_eq_false (fun h => absurd hok.2.1.2 (Int.not_lt.2 h))]
    rcases hok.2.2.1 with h | h
    ·rw [h,beq_eq_false_iff_ne.2 hok.2.2.2.1];rfl
    ·rw [h,beq_eq_false_iff_ne.2 hok.2.2.2.1];simp
   have hI : 0 ≤ R.1 ∧ R.1 < t.length := ⟨Int.le_of_lt hok.1.1,hok.1.2⟩
   repeat' ((conv => whnf);first|(with_reducible first|rfl|exact qAF|exact qAG)|exact True.intro|intro _|refine WA ?_ ?_|refine WF ?_|refine W1 rfl ?_ ?_|refine W2 rfl ?_ ?_|refine W3 rfl ?_ ?_|refine W4 ?_ ?_|refine W5 rfl ?_ ?_|refine W6 ?_ ?_|refine WN ?_|refine X1 (W1 rfl ?_ ?_)|refine X1 (W2 rfl ?_ ?_)|refine X2 (W7 rfl ?_ ?_)|refine X3 (W7 rfl ?_ ?_)|refine X4 (W7 rfl ?_ ?_)|refine X5 (W7 rfl ?_ ?_))
   all_goals (try (conv => whnf))
   all_goals (try first|exact obA|refine Ob.mk ?_)
   all_goals (try simp only [Int.toNat_natCast, ← hR] at *)
   all_goals (try (first | exact hok.2.1 | exact hI))
   all_goals (try (exact Bool.noConfusion (hC.symm.trans (by assumption))))
   all_goals (try (exact absurd (Int.ofNat_lt.mpr hkl) (of_decide_eq_false (by assumption))))
   refine LoopStop.mk (α := Nat) (fun a => [(72,.int .i64 a),(5,.bool (((nd t R.1).2.2.2.1.take a).any (qlO (nd t R.1) R)))]) (fun _ => []) 60 (fun a => a ≤ (nd t R.1).2.2.2.1.length) (fun a => (nd t R.1).2.2.2.1.length - a) 0 (Nat.zero_le _) ?_ (fun a ha => ?_)
   ·repeat' ((conv => whnf);first|(with_reducible first|rfl|exact qAF|exact qAG)|exact True.intro|intro _|refine WA ?_ ?_|refine WF ?_|refine W1 rfl ?_ ?_|refine W2 rfl ?_ ?_|refine W3 rfl ?_ ?_|refine W4 ?_ ?_|refine W5 rfl ?_ ?_|refine W6 ?_ ?_|refine WN ?_|refine X1 (W1 rfl ?_ ?_)|refine X1 (W2 rfl ?_ ?_)|refine X2 (W7 rfl ?_ ?_)|refine X3 (W7 rfl ?_ ?_)|refine X4 (W7 rfl ?_ ?_)|refine X5 (W7 rfl ?_ ?_))
    all_goals (try (conv => whnf))
    all_goals (try first|exact obA|refine Ob.mk ?_)
    all_goals (try simp only [Int.toNat_natCast, ← hR] at *)
    all_goals (first | rfl | trace_state)
   ·by_cases hal : a < (nd t R.1).2.2.2.1.length
    ·have hAo := qYK hn hal qAP.dflt
     have hT := take_any (qlO (nd t R.1) R) (nd t R.1).2.2.2.1 a qAP.dflt hal
     repeat' ((conv => whnf);first|(with_reducible first|rfl|exact qAF|exact qAG)|exact True.intro|intro _|refine WA ?_ ?_|refine WF ?_|refine W1 rfl ?_ ?_|refine W2 rfl ?_ ?_|refine W3 rfl ?_ ?_|refine W4 ?_ ?_|refine W5 rfl ?_ ?_|refine W6 ?_ ?_|refine WN ?_|refine X1 (W1 rfl ?_ ?_)|refine X1 (W2 rfl ?_ ?_)|refine X2 (W7 rfl ?_ ?_)|refine X3 (W7 rfl ?_ ?_)|refine X4 (W7 rfl ?_ ?_)|refine X5 (W7 rfl ?_ ?_))
     all_goals (try (conv => whnf))
     all_goals (try first|exact obA|refine Ob.mk ?_)
     all_goals (try simp only [Int.toNat_natCast, ← hR] at *)
     all_goals (try (first | exact Nat.le_trans hna.1 (by decide) | exact Nat.le_trans hAo.2 (by decide)))
     all_goals (try (exact absurd (Int.ofNat_lt.mpr hal) (of_decide_eq_false (by assumption))))
     all_goals (refine Rnd.mk ⟨a + 1,by omega,by omega,?_⟩)
     repeat' ((conv => whnf);first|(with_reducible first|rfl|exact qAF|exact qAG)|exact True.intro|intro _|refine WA ?_ ?_|refine WF ?_|refine W1 rfl ?_ ?_|refine W2 rfl ?_ ?_|refine W3 rfl ?_ ?_|refine W4 ?_ ?_|refine W5 rfl ?_ ?_|refine W6 ?_ ?_|refine WN ?_|refine X1 (W1 rfl ?_ ?_)|refine X1 (W2 rfl ?_ ?_)|refine X2 (W7 rfl ?_ ?_)|refine X3 (W7 rfl ?_ ?_)|refine X4 (W7 rfl ?_ ?_)|refine X5 (W7 rfl ?_ ?_))
     all_goals (try (conv => whnf))
     all_goals (try first|exact obA|refine Ob.mk ?_)
     all_goals (try rw [hT])
     all_goals (first | rfl | trace_state)
    ·have ea : a = (nd t R.1).2.2.2.1.length := by omega
     have hany : ((nd t R.1).2.2.2.1.take a).any (qlO (nd t R.1) R) = true := by rw [ea,List.take_length];exact hok.2.2.2.2
     repeat' ((conv => whnf);first|(with_reducible first|rfl|exact qAF|exact qAG)|exact True.intro|intro _|refine WA ?_ ?_|refine WF ?_|refine W1 rfl ?_ ?_|refine W2 rfl ?_ ?_|refine W3 rfl ?_ ?_|refine W4 ?_ ?_|refine W5 rfl ?_ ?_|refine W6 ?_ ?_|refine WN ?_|refine X1 (W1 rfl ?_ ?_)|refine X1 (W2 rfl ?_ ?_)|refine X2 (W7 rfl ?_ ?_)|refine X3 (W7 rfl ?_ ?_)|refine X4 (W7 rfl ?_ ?_)|refine X5 (W7 rfl ?_ ?_))
     all_goals (try (conv => whnf))
     all_goals (try first|exact obA|refine Ob.mk ?_)
     all_goals (try simp only [Int.toNat_natCast, ← hR] at *)
     all_goals (try (exact absurd (of_decide_eq_true (by assumption)) (fun h => hal (Int.ofNat_lt.mp h))))
     all_goals (try (have h := (by assumption : (!((nd t R.1).2.2.2.1.take a).any (qlO (nd t R.1) R)) = true);rw [hany] at h;exact h))
     all_goals (try (refine Rnd.mk ⟨k + 1,by omega,by omega,?_⟩))
     all_goals exact vcA
  ·repeat' ((conv => whnf);first|(with_reducible first|rfl|exact qAF|exact qAG)|exact True.intro|intro _|refine WA ?_ ?_|refine WF ?_|refine W1 rfl ?_ ?_|refine W2 rfl ?_ ?_|refine W3 rfl ?_ ?_|refine W4 ?_ ?_|refine W5 rfl ?_ ?_|refine W6 ?_ ?_|refine WN ?_|refine X1 (W1 rfl ?_ ?_)|refine X1 (W2 rfl ?_ ?_)|refine X2 (W7 rfl ?_ ?_)|refine X3 (W7 rfl ?_ ?_)|refine X4 (W7 rfl ?_ ?_)|refine X5 (W7 rfl ?_ ?_))
   all_goals (try (conv => whnf))
   all_goals (try first|exact obA|refine Ob.mk ?_)
   all_goals (try (exact absurd (of_decide_eq_true (by assumption)) (fun h => hkl (Int.ofNat_lt.mp h))))
   all_goals (first | rfl | trace_state)
end Go.Vc

namespace Go.Vc
open Go.Proofs
set_option maxRecDepth 100000
theorem qdW (W : World) (hsh : W.ShapedOpen Tryz.prog) : BB.G fun b => W.heap[b]? := by
 obtain ⟨m,hm⟩ := Go.Proofs.cell_of_shapedOpen_int (g := 0) (zero := #[.int .i64 0]) (t := 3) hsh (of_decide_eq_true (by kernel_rfl)) (by kernel_rfl) rfl (by kernel_rfl) (by kernel_rfl) Tryz.underlying3
 have hm' : W.cell? ⟨0,0,none⟩ = some (.int .i64 m) := hm
 unfold World.cell? at hm'
 show ∃ c T fr m,W.heap[0]? = some (.cells c T fr) ∧ c[0]? = some (.int .i64 m)
 cases h : W.heap[0]? with
 | none => simp [h] at hm'
 | some o =>
  cases o with
  | cells c T fr => exact ⟨c,T,fr,m,rfl,by simpa [h] using hm'⟩
  | _ => simp [h] at hm'
end Go.Vc
