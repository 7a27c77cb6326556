/- A part of the proof: lemmas and walks that the last text of the claim joins; no condition. -/
import Derived.Test.YtjnmepijcndcpaaGreatDoorRenameKeepsTH
import Derived.Shelf.Strings.SlTrimAscii
import Derived.Test.YtjnmepijcndcpaaGreatDoorRenameKeepsTG
import Derived.Lib.LaidU8T
import Derived.PinnedBridge
import Derived.Test.YtjnmepijcndcpaaGreatDoorRows
set_option linter.unusedVariables false
set_option linter.unusedSimpArgs false
set_option maxHeartbeats 8000000
namespace Go.Vc
open Go.Proofs
set_option maxRecDepth 10000
instance decN1 : DecidableEq (List UInt8) := inferInstance
instance decN2 : DecidableEq (List UInt8 × List UInt8) := instDecidableEqProd
instance decN3 : DecidableEq (Int × List Int) := instDecidableEqProd
instance decN4 : DecidableEq (List (List UInt8 × List UInt8)) := instDecidableEqList
instance decN5 : DecidableEq (List UInt8 × Int × List Int) := instDecidableEqProd
instance decNode : DecidableEq qAG := (instDecidableEqProd : DecidableEq (Int × Int × List UInt8 × List (List UInt8 × List UInt8) × List UInt8 × Int × List Int))
def qgP (K : Nat → List Int) : Nat → List Bool → Nat → Nat → Nat → Option (List Ev × List Bool × Nat)
 | 0,_,_,_,_ => none
 | f + 1,s,i,j,c =>
  if j < (K i).length then
   if okK s ((K i).getD j 0) = true then
    match qgP K f (s.set ((K i).getD j 0).toNat true) ((K i).getD j 0).toNat 0 (c + 1) with
    | none => none
    | some r1 =>
     match qgP K f r1.2.1 i (j + 1) r1.2.2 with
     | none => none
     | some r2 => some ((((K i).getD j 0).toNat,(i : Int),c,false) :: (r1.1 ++ r2.1),r2.2.1,r2.2.2)
   else qgP K f s i (j + 1) c
  else some ([(i,0,c,true)],s,c + 1)
theorem qZI {K : Nat → List Int} : ∀ (f : Nat) (s : List Bool) (i j c : Nat) (r : List Ev × List Bool × Nat),qgP K f s i j c = some r → dfs K s i j c = r := by
 intro f
 induction f with
 | zero => intro s i j c r h;cases h
 | succ f ih =>
  intro s i j c r h
  rw [qgP] at h
  split at h
  ·rename_i hj
   split at h
   ·rename_i hk
    split at h
    ·cases h
    ·rename_i r1 h1
     split at h
     ·cases h
     ·rename_i r2 h2
      cases h
      rw [qGK hj hk,ih _ _ _ _ _ h1,ih _ _ _ _ _ h2]
   ·rename_i hk
    rw [qDN hj (by simpa using hk)]
    exact ih _ _ _ _ _ h
  ·rename_i hj
   cases h
   exact qDJ hj
def qvI (t : List qAG) (f : Nat) : Option St :=
 if t.length = 0 then none else
 match qgP (qAC t) f ((List.replicate t.length false).set 0 true) 0 0 1 with
 | some r => some ((st0 t.length).run ((0, -1,0,false) :: r.1))
 | none => none
theorem qgY {t : List qAG} {f : Nat} {y : St} (h : qvI t f = some y) : fin t = y := by
 unfold qvI at h
 split at h
 ·cases h
 ·rename_i h0
  split at h
  ·rename_i r hr
   cases h
   unfold fin qYE qf7
   rw [if_neg h0,qd5,qd5,List.append_nil,qZI _ _ _ _ _ _ hr]
  ·cases h
def qr2 (t : List qAG) (k f : Nat) : Option (List qAG) :=
 match qgP (qAC t) f ((List.replicate t.length false).set k true) k 0 0 with
 | some r => some (({ out := [mkN (t.getD k qAB.dflt) (-1)],P := [0] } : PSt).run t r.1).out
 | none => none
theorem qZ6 {t : List qAG} {k f : Nat} {x : List qAG} (h : qr2 t k f = some x) : qOR t (qAC t) [] (List.replicate t.length false) k (-1) = x := by
 unfold qr2 at h
 split at h
 ·rename_i r hr
  cases h
  unfold qOR pS
  rw [qZI _ _ _ _ _ _ hr]
  rfl
 ·cases h
def qwO (t : List qAG) (i : Int) (f : Nat) : Option (List qAG) :=
 match qvI t f,qr2 t 0 f with
 | some y,some x =>
  if qFT t && decide (t.length ≤ 45) && qFT x && decide (y.L.length ≤ x.length) && decide (x.length ≤ 1000) && decide (0 < t.length) then
   match qV3 (qCM y.L) i with
   | none => some [qZ8]
   | some k => match qr2 x k f with | some z => some (qlX z) | none => none
  else none
 | _,_ => none
theorem qgB {t : List qAG} {i : Int} {f : Nat} {T : List qAG} (h : qwO t i f = some T) : qUJ t ∧ qeE t i = T := by
 unfold qwO at h
 split at h
 ·rename_i y x hy hx
  split at h
  ·rename_i hc
   simp only [Bool.and_eq_true,decide_eq_true_eq] at hc
   have e1 := qgY hy
   have e0 : ¬ t = [] := fun e => by rw [e] at hc;exact absurd hc.2 (by decide)
   have e2 : qD8 t = x := by unfold qD8;rw [if_neg e0];exact qZ6 hx
   refine ⟨⟨hc.1.1.1.1.1,hc.1.1.1.1.2,by rw [e2];exact hc.1.1.1.2,by rw [e1,e2];exact hc.1.1.2,by rw [e2];exact hc.1.2⟩,?_⟩
   unfold qeE
   rw [e1,e2]
   split at h
   ·rename_i hk;rw [hk];exact Option.some.inj h
   ·rename_i k hk
    rw [hk]
    split at h
    ·rename_i z hz
     show qhO x k = T
     unfold qhO
     rw [qZ6 hz]
     exact Option.some.inj h
    ·cases h
  ·cases h
 ·cases h
end Go.Vc

namespace Go.Vc
open Go.Proofs
set_option maxRecDepth 100000
set_option maxHeartbeats 40000000
abbrev qvS : List qAG := [((0 : Int),(0 : Int),([] : List UInt8),([] : List qAK),([] : List UInt8),(-1 : Int),([1] : List Int)),((1 : Int),(0 : Int),([104,116,109,108] : List UInt8),([] : List qAK),([] : List UInt8),(0 : Int),([2,3] : List Int)),((1 : Int),(0 : Int),([111,117,116,112,117,116] : List UInt8),([([102,111,114],[97,32,98])] : List qAK),([] : List UInt8),(1 : Int),([] : List Int)),((1 : Int),(0 : Int),([97] : List UInt8),([([104,114,101,102],[35,99]),([110,97,109,101],[100])] : List qAK),([] : List UInt8),(1 : Int),([] : List Int))]
abbrev qnE : List qAG := [((0 : Int),(0 : Int),([] : List UInt8),([] : List qAK),([] : List UInt8),(-1 : Int),([1,2] : List Int)),((1 : Int),(0 : Int),([111,117,116,112,117,116] : List UInt8),([([102,111,114],[97,32,98])] : List qAK),([] : List UInt8),(0 : Int),([] : List Int)),((1 : Int),(0 : Int),([97] : List UInt8),([([104,114,101,102],[35,99]),([110,97,109,101],[100])] : List qAK),([] : List UInt8),(0 : Int),([] : List Int))]
instance (priority := 5000) ZN_new : FnM BA 36 [.str [100,105,118]] [] True (.loc 0 0) [(0,.box [.own 1,.own 2,.nils,.int .i64 5,.int .i64 0,.int .i64 0,.int .i64 0,.int .i64 0,.bool false,.bool false,.str [100,105,118]]),(1,.own qAB [((0 : Int),(0 : Int),([] : List UInt8),([] : List qAK),([] : List UInt8),(-1 : Int),([1] : List Int)),((1 : Int),(0 : Int),([104,116,109,108] : List UInt8),([] : List qAK),([] : List UInt8),(0 : Int),([] : List Int))]),(2,.own qAI [1])] := by
 refine FnM.intro (N := 34) [0,2,3,4,10] [] 0 Tryz.call36 Tryz.func36 rfl rfl (by kernel_rfl) (fun hpre => ?_)
 repeat' ((conv => whnf);first|exact qR|(intro hq;first|(exfalso;revert hq;decide +kernel)|clear hq|skip)|refine WA ?_ ?_|refine WF ?_|refine W1 rfl ?_ ?_|refine W2 rfl ?_ ?_|refine W3 rfl ?_ ?_|refine W4 ?_ ?_|refine W5 rfl ?_ ?_|refine W6 ?_ ?_|refine WN ?_|refine X1 (W1 rfl ?_ ?_)|refine X1 (W2 rfl ?_ ?_)|refine X2 (W7 rfl ?_ ?_)|refine X3 (W7 rfl ?_ ?_)|refine X4 (W7 rfl ?_ ?_)|refine X5 (W7 rfl ?_ ?_)|refine X7 (by conv => lhs;cbv) rfl ?_|refine X8 (by conv => lhs;cbv) ?_|refine LoopStop.ug 500 ?_|refine ZStop.dir ?_|(refine Ob.mk ?_;decide +kernel))
 all_goals (first | rfl | decide +kernel)
instance (priority := 5000) ZN_run : FnM BA 37 [.loc 0 0,.str (60 :: 111 :: 117 :: 116 :: 112 :: 117 :: 116 :: 32 :: 102 :: 111 :: 114 :: 61 :: 39 :: 97 :: 32 :: 98 :: 39 :: 62 :: 60 :: 47 :: 111 :: 117 :: 116 :: 112 :: 117 :: 116 :: 62 :: 60 :: 97 :: 32 :: 104 :: 114 :: 101 :: 102 :: 61 :: 35 :: 99 :: 32 :: 110 :: 97 :: 109 :: 101 :: 61 :: 100 :: 62 :: 60 :: 47 :: 97 :: 62 :: [])] [(0,.box [.own 1,.own 2,.nils,.int .i64 5,.int .i64 0,.int .i64 0,.int .i64 0,.int .i64 0,.bool false,.bool false,.str [100,105,118]]),(1,.own qAB [((0 : Int),(0 : Int),([] : List UInt8),([] : List qAK),([] : List UInt8),(-1 : Int),([1] : List Int)),((1 : Int),(0 : Int),([104,116,109,108] : List UInt8),([] : List qAK),([] : List UInt8),(0 : Int),([] : List Int))]),(2,.own qAI [1])] True (.tup []) [(0,.box [.own 1,.own 3,.nils,.int .i64 5,.int .i64 0,.int .i64 0,.int .i64 0,.int .i64 0,.bool false,.bool false,.str [100,105,118]]),(1,.own qAB qvS),(3,.own qAI [1])] := by
 refine FnM.intro (N := 46) [0,1,4,5,6,7,35,42,44,45] [] 3 Tryz.call37 Tryz.func37 rfl rfl (by kernel_rfl) (fun hpre => ?_)
 repeat' ((conv => whnf);first|exact qR|(intro hq;first|(exfalso;revert hq;decide +kernel)|clear hq|skip)|refine WA ?_ ?_|refine WF ?_|refine W1 rfl ?_ ?_|refine W2 rfl ?_ ?_|refine W3 rfl ?_ ?_|refine W4 ?_ ?_|refine W5 rfl ?_ ?_|refine W6 ?_ ?_|refine WN ?_|refine X1 (W1 rfl ?_ ?_)|refine X1 (W2 rfl ?_ ?_)|refine X2 (W7 rfl ?_ ?_)|refine X3 (W7 rfl ?_ ?_)|refine X4 (W7 rfl ?_ ?_)|refine X5 (W7 rfl ?_ ?_)|refine X7 (by conv => lhs;cbv) rfl ?_|refine X8 (by conv => lhs;cbv) ?_|refine LoopStop.ug 500 ?_|refine ZStop.dir ?_|(refine Ob.mk ?_;decide +kernel))
 all_goals (first | rfl | decide +kernel)
theorem qZY : qUJ qvS ∧ qeE qvS 1 = qnE := qgB (f := 100) (by decide +kernel)
instance ZN_fragA : FnM BA 15 [.str (60 :: 111 :: 117 :: 116 :: 112 :: 117 :: 116 :: 32 :: 102 :: 111 :: 114 :: 61 :: 39 :: 97 :: 32 :: 98 :: 39 :: 62 :: 60 :: 47 :: 111 :: 117 :: 116 :: 112 :: 117 :: 116 :: 62 :: 60 :: 97 :: 32 :: 104 :: 114 :: 101 :: 102 :: 61 :: 35 :: 99 :: 32 :: 110 :: 97 :: 109 :: 101 :: 61 :: 100 :: 62 :: 60 :: 47 :: 97 :: 62 :: []),.str [100,105,118]] [] True (.agg [.rd qAB qnE]) [] := by
 refine FnM.intro (N := 28) [0,1,4,5,7] [(5,[0,0,0,1,0,0,0,0,1,1,1,1,1,1,3,3]),(5000005,[5])] 0 Tryz.call15 Tryz.func15 rfl rfl (by kernel_rfl) (fun hpre => ?_)
 repeat' ((conv => whnf);first|exact qR|(intro hq;first|(exfalso;revert hq;decide +kernel)|clear hq|skip)|refine WA ?_ ?_|refine WF ?_|refine W1 rfl ?_ ?_|refine W2 rfl ?_ ?_|refine W3 rfl ?_ ?_|refine W4 ?_ ?_|refine W5 rfl ?_ ?_|refine W6 ?_ ?_|refine WN ?_|refine X1 (W1 rfl ?_ ?_)|refine X1 (W2 rfl ?_ ?_)|refine X2 (W7 rfl ?_ ?_)|refine X3 (W7 rfl ?_ ?_)|refine X4 (W7 rfl ?_ ?_)|refine X5 (W7 rfl ?_ ?_)|refine X7 (by conv => lhs;cbv) rfl ?_|refine X8 (by conv => lhs;cbv) ?_|refine LoopStop.ug 500 ?_|refine ZStop.dir ?_|(refine Ob.mk ?_;decide +kernel))
 all_goals (first | exact Ob.mk qZY.1 | exact qZY.1 | exact congrArg (fun l => SV.rd qAB l) qZY.2 | rfl | decide +kernel | trace_state)
instance ZN_frag : Fn BB 15 [.str (60 :: 111 :: 117 :: 116 :: 112 :: 117 :: 116 :: 32 :: 102 :: 111 :: 114 :: 61 :: 39 :: 97 :: 32 :: 98 :: 39 :: 62 :: 60 :: 47 :: 111 :: 117 :: 116 :: 112 :: 117 :: 116 :: 62 :: 60 :: 97 :: 32 :: 104 :: 114 :: 101 :: 102 :: 61 :: 35 :: 99 :: 32 :: 110 :: 97 :: 109 :: 101 :: 61 :: 100 :: 62 :: 60 :: 47 :: 97 :: 62 :: []),.str [100,105,118]] True (.agg [.rd qAB qnE]) :=
 ⟨ZN_fragA.call,ZN_fragA.ok⟩
end Go.Vc

namespace Go.Vc
open Go.Proofs
open Go.Vc.W
set_option maxRecDepth 100000
set_option maxHeartbeats 8000000
abbrev qaI : List UInt8 := [97,98,99,100,101,102,103,104,105,106,107,108,109,110,111,112,113,114,115,116,117,118,119,120,121,122,65,66,67,68,69,70,71,72,73,74,75,76,77,78,79,80,81,82,83,84,85,86,87,88,89,90]
def qV6 (c : UInt8) : Bool := qaI.contains c
def qJM (l : List UInt8) : List UInt8 := ((l.reverse.dropWhile qV6).reverse).dropWhile qV6
theorem qdY (l : List UInt8) : Lib.trimS l qaI = qJM l := rfl
theorem qZ7 (l : List UInt8) : (qJM l).length ≤ l.length := by
 unfold qJM
 have h1 := (List.dropWhile_sublist qV6 (l := (l.reverse.dropWhile qV6).reverse)).length_le
 have h2 := (List.dropWhile_sublist qV6 (l := l.reverse)).length_le
 simp at h1 h2 ⊢
 omega
theorem qf2 (p : UInt8 → Bool) (l : List UInt8) : l.dropWhile p = [] ↔ ∀ x ∈ l,p x = true := by
 induction l with
 | nil => simp
 | cons c r ih =>
  rw [List.dropWhile_cons]
  split
  ·rename_i h;rw [ih];simp [h]
  ·rename_i h;simp [h]
theorem qV8 {l : List UInt8} (h : qJM l = []) : ∀ x ∈ l,qV6 x = true := by
 unfold qJM at h
 have h1 := (qf2 qV6 _).1 h
 intro x hx
 have key : ∀ (m : List UInt8),(∀ y ∈ m.dropWhile qV6,qV6 y = true) → ∀ y ∈ m,qV6 y = true := by
  intro m
  induction m with
  | nil => intro _ y hy;cases hy
  | cons c r ih =>
   intro hm y hy
   rw [List.dropWhile_cons] at hm
   by_cases hc : qV6 c = true
   ·rw [if_pos hc] at hm
    rcases List.mem_cons.1 hy with rfl | hy
    ·exact hc
    ·exact ih hm y hy
   ·rw [if_neg hc] at hm;exact hm y hy
 exact key l.reverse (fun y hy => h1 y (List.mem_reverse.2 hy)) x (List.mem_reverse.2 hx)
theorem qcA : ∀ c : UInt8,qV6 c = true → isSp c.toNat = false := by
 have key : ∀ k : _root_.Fin 256,(qV6 (UInt8.ofNat k.val) = true → isSp (k.val : Int) = false) := by decide +kernel
 intro c hc
 have := key ⟨c.toNat,c.toNat_lt⟩
 simp only [UInt8.ofNat_toNat] at this
 exact this hc
def qJ7 (s : List UInt8) : Bool := !(s == []) && decide ((s.length : Int) ≤ 20) && (qJM s == [])
theorem qV4 {s : List UInt8} (h : qJ7 s = true) : s ≠ [] ∧ s.length ≤ 20 ∧ qhL s := by
 unfold qJ7 at h
 simp only [Bool.and_eq_true,Bool.not_eq_true',beq_eq_false_iff_ne,decide_eq_true_eq,beq_iff_eq] at h
 exact ⟨h.1.1,by omega,fun c hc => qcA c (qV8 h.2 c hc)⟩
end Go.Vc

namespace Go.Vc
open Go.Proofs
set_option maxRecDepth 10000
set_option maxHeartbeats 8000000
def qmX (l : List qAK) (i : Nat) : Bool := (l.take i).all fun b => !((l.getD i qAJ.dflt).1 == b.1)
def qLI (l : List qAK) : Bool := (List.range l.length).all (qmX l)
def qaQ (t : List qAG) : Bool := t.all fun n => qLI n.2.2.2.1
theorem qaH (p : Nat → Bool) (k : Nat) : (List.range (k + 1)).all p = ((List.range k).all p && p k) := by rw [List.range_succ,List.all_append];simp
theorem qd7 {p : Nat → Bool} {n k : Nat} (h : k < n) (hp : p k = false) : (List.range n).all p = false := by
 rw [List.all_eq_false];exact ⟨k,List.mem_range.2 h,by rw [hp];decide⟩
instance rSingle (t : List qAG) : Fn BB 7 [.agg [.rd qAB t]] True (.bool (qaQ t)) := by
 refine Fn.intro (N := 41) [0,1,2,4,5,6,8,10,11,12,13,17,18,19,20,27,28,29,30,37] [] Tryz.call7 Tryz.func7 rfl rfl (by kernel_rfl) (fun hpre => ?_)
 repeat' ((conv => whnf);first|exact qR|intro _|refine WA ?_ ?_|refine WF ?_|refine W1 rfl ?_ ?_|refine W2 rfl ?_ ?_|refine W3 rfl ?_ ?_|refine W4 ?_ ?_|refine W5 rfl ?_ ?_|refine W6 ?_ ?_|refine WN ?_|refine X1 (W1 rfl ?_ ?_)|refine X1 (W2 rfl ?_ ?_)|refine X2 (W7 rfl ?_ ?_)|refine X3 (W7 rfl ?_ ?_)|refine X4 (W7 rfl ?_ ?_)|refine X5 (W7 rfl ?_ ?_))
 all_goals (try (conv => whnf))
 all_goals (try first|exact obA|refine Ob.mk ?_)
 refine LoopStop.mk (α := Nat) (fun i => [(12,.int .i64 i)]) (fun _ => []) 20 (fun i => i ≤ t.length ∧ (t.take i).all (fun n => qLI n.2.2.2.1) = true) (fun i => t.length - i) 0 ⟨Nat.zero_le _,rfl⟩ ?_ (fun i hi => ?_)
 ·all_goals exact vcA
 ·obtain ⟨hi,hal⟩ := hi
  repeat' ((conv => whnf);first|exact qR|intro _|refine WA ?_ ?_|refine WF ?_|refine W1 rfl ?_ ?_|refine W2 rfl ?_ ?_|refine W3 rfl ?_ ?_|refine W4 ?_ ?_|refine W5 rfl ?_ ?_|refine W6 ?_ ?_|refine WN ?_|refine X1 (W1 rfl ?_ ?_)|refine X1 (W2 rfl ?_ ?_)|refine X2 (W7 rfl ?_ ?_)|refine X3 (W7 rfl ?_ ?_)|refine X4 (W7 rfl ?_ ?_)|refine X5 (W7 rfl ?_ ?_))
  all_goals (try (conv => whnf))
  all_goals (try first|exact obA|refine Ob.mk ?_)
  all_goals (try simp only [ZA,ZB,ZC,ZD,ZE,ZF,ZG,ZH,ZI,ZJ,ZK,ZL,ZM,ZN,ZO,Int.toNat_natCast,UInt8.ofNat_toNat,cast_eq] at *)
  ·obtain ⟨l,hl⟩ : ∃ l,l = (t.getD i qAB.dflt).2.2.2.1 := ⟨_,rfl⟩
   refine LoopStop.mk (α := Nat) (fun k => [(19,.int .i64 k)]) (fun _ => []) 40 (fun k => k ≤ (t.getD i qAB.dflt).2.2.2.1.length ∧ (List.range k).all (qmX (t.getD i qAB.dflt).2.2.2.1) = true) (fun k => (t.getD i qAB.dflt).2.2.2.1.length - k) 0 ⟨Nat.zero_le _,rfl⟩ ?_ (fun k hk => ?_)
   ·all_goals exact vcA
   ·obtain ⟨hk,hka⟩ := hk
    repeat' ((conv => whnf);first|exact qR|intro _|refine WA ?_ ?_|refine WF ?_|refine W1 rfl ?_ ?_|refine W2 rfl ?_ ?_|refine W3 rfl ?_ ?_|refine W4 ?_ ?_|refine W5 rfl ?_ ?_|refine W6 ?_ ?_|refine WN ?_|refine X1 (W1 rfl ?_ ?_)|refine X1 (W2 rfl ?_ ?_)|refine X2 (W7 rfl ?_ ?_)|refine X3 (W7 rfl ?_ ?_)|refine X4 (W7 rfl ?_ ?_)|refine X5 (W7 rfl ?_ ?_))
    all_goals (try (conv => whnf))
    all_goals (try first|exact obA|refine Ob.mk ?_)
    all_goals (try simp only [ZA,ZB,ZC,ZD,ZE,ZF,ZG,ZH,ZI,ZJ,ZK,ZL,ZM,ZN,ZO,Int.toNat_natCast,UInt8.ofNat_toNat,cast_eq] at *)
    all_goals (try omega)
    ·have hkl : k < (t.getD i qAB.dflt).2.2.2.1.length := by omega
     refine LoopStop.mk (α := Nat) (fun j => [(29,.int .i64 j)]) (fun _ => []) 60 (fun j => j ≤ ((t.getD i qAB.dflt).2.2.2.1.take k).length ∧ (((t.getD i qAB.dflt).2.2.2.1.take k).take j).all (fun b => !(((t.getD i qAB.dflt).2.2.2.1.getD k qAJ.dflt).1 == b.1)) = true) (fun j => ((t.getD i qAB.dflt).2.2.2.1.take k).length - j) 0 ⟨Nat.zero_le _,rfl⟩ ?_ (fun j hj => ?_)
     ·all_goals exact vcA
     ·obtain ⟨hj,hja⟩ := hj
      repeat' ((conv => whnf);first|exact qR|intro _|refine WA ?_ ?_|refine WF ?_|refine W1 rfl ?_ ?_|refine W2 rfl ?_ ?_|refine W3 rfl ?_ ?_|refine W4 ?_ ?_|refine W5 rfl ?_ ?_|refine W6 ?_ ?_|refine WN ?_|refine X1 (W1 rfl ?_ ?_)|refine X1 (W2 rfl ?_ ?_)|refine X2 (W7 rfl ?_ ?_)|refine X3 (W7 rfl ?_ ?_)|refine X4 (W7 rfl ?_ ?_)|refine X5 (W7 rfl ?_ ?_))
      all_goals (try (conv => whnf))
      all_goals (try first|exact obA|refine Ob.mk ?_)
      all_goals (try simp only [ZA,ZB,ZC,ZD,ZE,ZF,ZG,ZH,ZI,ZJ,ZK,ZL,ZM,ZN,ZO,Int.toNat_natCast,UInt8.ofNat_toNat,cast_eq] at *)
      all_goals (try omega)
      ·have hjl : j < ((t.getD i qAB.dflt).2.2.2.1.take k).length := by omega
       have he := ‹(List.getD _ k qAJ.dflt).fst = (List.getD _ j qAJ.dflt).fst›
       have h1 : qmX (t.getD i qAB.dflt).2.2.2.1 k = false := by
        unfold qmX
        refine qD1 hjl (d := qAJ.dflt) ?_
        rw [← he,beq_self_eq_true];rfl
       have h2 : qLI (t.getD i qAB.dflt).2.2.2.1 = false := qd7 hkl h1
       exact (qD1 (by omega : i < t.length) (d := qAB.dflt) h2).symm
      ·have hjl : j < ((t.getD i qAB.dflt).2.2.2.1.take k).length := by omega
       have he := ‹¬ (List.getD _ k qAJ.dflt).fst = (List.getD _ j qAJ.dflt).fst›
       refine Rnd.mk ⟨j + 1,⟨hjl,?_⟩,by omega,?_⟩
       ·rw [qF1 _ _ j qAJ.dflt hjl,hja,Bool.true_and,beq_eq_false_iff_ne.2 he];rfl
       ·all_goals exact vcA
      all_goals
       have hje : j = ((t.getD i qAB.dflt).2.2.2.1.take k).length := by omega
       refine Rnd.mk ⟨k + 1,⟨hkl,?_⟩,by omega,?_⟩
       ·rw [qaH,hka,Bool.true_and]
        unfold qmX
        rw [hje,List.take_length] at hja
        exact hja
       ·all_goals exact vcA
    all_goals
     have hlt : i < t.length := by omega
     have hke : k = (t.getD i qAB.dflt).2.2.2.1.length := by omega
     refine Rnd.mk ⟨i + 1,⟨hlt,?_⟩,by omega,?_⟩
     ·rw [qF1 _ t i qAB.dflt hlt,hal,Bool.true_and]
      show qLI (t.getD i qAB.dflt).2.2.2.1 = true
      unfold qLI
      rw [← hke];exact hka
     ·all_goals exact vcA
  all_goals
   have e : i = t.length := by omega
   subst e
   rw [List.take_length] at hal
   exact hal.symm
end Go.Vc

namespace Go.Vc
open Go.Proofs
open Go.Vc.W
set_option maxRecDepth 10000
theorem qkQ {p v : List UInt8} (k s : Int) (nn nm : List UInt8) (hv : v.length ≤ 150) (hp : p.length ≤ 20) : (qRZ p k s nn nm v).length ≤ 4000 := by
  unfold qRZ
  generalize qCN k s nn nm = kind
  have h1 := qKL kind v
  obtain ⟨h2,h3⟩ := qXW (qAP kind v)
  split
  · split
    · simp
    · rw [List.length_append];omega
  · split
    · omega
    · split
      · have : (((qAP kind v).map (p ++ ·)).getD 0 []).length ≤ 171 := by
          rw [List.getD_eq_getElem?_getD,List.getElem?_map]
          cases e : (qAP kind v)[0]? with
          | none => simp
          | some x =>
            have := h3 x (List.mem_of_getElem? e)
            show (p ++ x).length ≤ _
            rw [List.length_append];omega
        rw [List.length_cons];omega
      · have h4 := qU7 ((qAP kind v).map (p ++ ·))
        rw [qYD] at h4
        have h5 : (qAP kind v).length * p.length ≤ 151 * 20 := Nat.mul_le_mul (by omega) hp
        omega
theorem qX1 {p : List UInt8} {t : List qAG} (hp : p.length ≤ 20) (ht : t.length ≤ 45) (h : ∀ n ∈ t,n.2.2.1.length ≤ 40 ∧ n.2.2.2.1.length ≤ 14 ∧ n.2.2.2.2.2.2.length ≤ 60 ∧ ∀ a ∈ n.2.2.2.1,a.1.length ≤ 40 ∧ a.2.length ≤ 150) :
  ∀ n ∈ qLU p t,n.2.2.1.length ≤ 40 ∧ n.2.2.2.1.length ≤ 14 ∧ n.2.2.2.2.2.2.length ≤ 60 ∧ ∀ a ∈ n.2.2.2.1,a.1.length ≤ 40 ∧ a.2.length ≤ 4000 := by
 intro n hn
 obtain ⟨m,hm,rfl⟩ := List.mem_map.1 hn
 obtain ⟨h1,h2,h3,h4⟩ := h m hm
 by_cases hk : m.1 = 1
 ·rw [qH3 hk]
  refine ⟨h1,by show (m.2.2.2.1.map _).length ≤ _;rw [List.length_map];exact h2,h3,fun a ha => ?_⟩
  obtain ⟨b,hb,rfl⟩ := List.mem_map.1 ha
  exact ⟨(h4 b hb).1,qkQ _ _ _ _ (h4 b hb).2 hp⟩
 ·rw [qGY hk]
  exact ⟨h1,h2,h3,fun a ha => ⟨(h4 a ha).1,by have := (h4 a ha).2;omega⟩⟩
end Go.Vc

namespace Go.Vc
open Go.Proofs
open Go.Vc.W
set_option maxRecDepth 100000
set_option maxHeartbeats 8000000
def qgN (n p : Int) : Int := if n < 0 ∨ p < 0 ∨ n > 1048576 ∨ p > 20 then 0 else 3 * n * (6 + p)
theorem qj0 {n p : Int} (h : n < 0 ∨ p < 0 ∨ n > 1048576 ∨ p > 20) : qgN n p = 0 := if_pos h
theorem qkX {n p : Int} (h : ¬ (n < 0 ∨ p < 0 ∨ n > 1048576 ∨ p > 20)) : qgN n p = 3 * n * (6 + p) := if_neg h
theorem qhA (n p : Int) : (6 + p) * 3 * n = 3 * n * (6 + p) := by rw [Int.mul_comm (6 + p) 3,Int.mul_assoc,Int.mul_comm (6 + p) n, ← Int.mul_assoc]
theorem qj1 {n p : Int} (h : ¬ (n < 0 ∨ p < 0 ∨ n > 1048576 ∨ p > 20)) : qM5 (3 * n * (6 + p)) ∧ qM5 (3 * n) ∧ qM5 (6 + p) ∧ qM5 ((6 + p) * 3) := by
 have h1 : 0 ≤ 3 * n * (6 + p) := Int.mul_nonneg (by omega) (by omega)
 have h2 : 3 * n * (6 + p) ≤ 3145728 * 26 := Int.mul_le_mul (by omega) (by omega) (by omega) (by omega)
 refine ⟨?_,?_,?_,?_⟩
 ·revert h1 h2
  generalize 3 * n * (6 + p) = z
  intro h1 h2
  unfold qM5;omega
 all_goals (unfold qM5;omega)
instance eMost (n p : Int) : Fn BB 16 [.int .i64 n,.int .i64 p] True (.int .i64 (qgN n p)) := by
 refine Fn.intro (N := 24) [0,1,4,5,12] [] Tryz.call16 Tryz.func16 rfl rfl (by kernel_rfl) (fun hpre => ?_)
 repeat' ((conv => whnf);first|exact qR|intro _|refine WA ?_ ?_|refine WF ?_|refine W1 rfl ?_ ?_|refine W2 rfl ?_ ?_|refine W3 rfl ?_ ?_|refine W4 ?_ ?_|refine W5 rfl ?_ ?_|refine W6 ?_ ?_|refine WN ?_|refine X1 (W1 rfl ?_ ?_)|refine X1 (W2 rfl ?_ ?_)|refine X2 (W7 rfl ?_ ?_)|refine X3 (W7 rfl ?_ ?_)|refine X4 (W7 rfl ?_ ?_)|refine X5 (W7 rfl ?_ ?_))
 all_goals (try (conv => whnf))
 all_goals (try first|exact obA|refine Ob.mk ?_)
 all_goals (try simp only [ZA,ZB,ZC,ZD,ZE,ZF,ZG,ZH,ZI,ZJ,ZK,ZL,ZM,ZN,ZO,Int.toNat_natCast,UInt8.ofNat_toNat,cast_eq] at *)
 all_goals (try (have h1 : ¬ (n < 0 ∨ n > 1048576) := by (have h := ‹(decide (n < 0) || decide (n > 1048576)) = false›;simpa using h)))
 all_goals (try (have h2 : ¬ (p < 0 ∨ p > 20) := by (have h := ‹(decide (p < 0) || decide (p > 20)) = false›;simpa using h)))
 all_goals (first | exact (qj0 (by omega)).symm | skip)
 all_goals (have hm : ¬ (n < 0 ∨ p < 0 ∨ n > 1048576 ∨ p > 20) := by omega)
 all_goals (have hb := qj1 hm)
 all_goals (first | exact hb.2.2.1 | exact hb.2.2.2 | (rw [qhA];first | exact hb.1 | exact (qkX hm).symm))
instance nVal (p : List UInt8) (k s : Int) (nn d : List UInt8) (up : Int) (nm v : List UInt8) :
  Fn BB 17 [.str p,.agg [.int .i64 k,.int .i64 s,.str nn,.nils,.str d,.int .i64 up,.nils],.agg [.str nm,.str v]] (nn.length ≤ 1000 ∧ v.length ≤ 10000 ∧ p.length ≤ 60) (.str (qRZ p k s nn nm v)) :=
 Fn.wk (eVal p k s nn [] d up [] nm v) fun r β => qfV rfl fun i x y h1 h2 v hv => by
  match i,h1,h2 with
  | 0,h1,h2 => cases h1;cases h2;exact hv
  | 1,h1,h2 => cases h1;cases h2;exact qdX hv
  | 2,h1,h2 => cases h1;cases h2;exact hv
theorem qiT : qMU [117] qnE := by unfold qMU;decide +kernel
instance eAwake : Fn BB 8 [] True (.bool true) := by
 refine Fn.intro (N := 69) [0,1] [] Tryz.call8 Tryz.func8 rfl rfl (by kernel_rfl) (fun hpre => ?_)
 repeat' ((conv => whnf);first|exact qR|intro _|refine WA ?_ ?_|refine WF ?_|refine W1 rfl ?_ ?_|refine W2 rfl ?_ ?_|refine W3 rfl ?_ ?_|refine W4 ?_ ?_|refine W5 rfl ?_ ?_|refine W6 ?_ ?_|refine WN ?_|refine X1 (W1 rfl ?_ ?_)|refine X1 (W2 rfl ?_ ?_)|refine X2 (W7 rfl ?_ ?_)|refine X3 (W7 rfl ?_ ?_)|refine X4 (W7 rfl ?_ ?_)|refine X5 (W7 rfl ?_ ?_))
 all_goals (try (conv => whnf))
 all_goals (try first|exact obA|refine Ob.mk ?_)
 all_goals (try exact qiT)
 all_goals (try (exact ⟨by decide,by decide,by decide⟩))
 all_goals (try (first | decide +kernel | rfl))
 all_goals trace_state
theorem qmC {p : List UInt8} {t : List qAG} (h : qBZ t 40 = true) (hp : p.length ≤ 40) : qMU p t := by
 unfold qBZ at h
 rw [Bool.and_eq_true,decide_eq_true_eq,List.all_eq_true] at h
 refine ⟨by omega,by omega,fun n hn => ?_⟩
 have := h.2 n hn
 unfold qGJ qE1 at this
 simp only [Bool.and_eq_true,decide_eq_true_eq,List.all_eq_true] at this
 refine ⟨by omega,by omega,?_,fun a ha => by have := (this.2.2 a ha).2;omega⟩
 have h4 : n.2.2.2.2.2.2 = n.kids := rfl
 rw [h4];omega
end Go.Vc

namespace Go.Vc
open Go.Proofs
open Go.Vc.W
set_option maxRecDepth 100000
set_option maxHeartbeats 8000000
instance kTrim (s : List UInt8) : Fn BB 14 [.str s,.str qaI] True (.str (qJM s)) := by
 refine Fn.liftB Tryz.call14 fun hp r β w vs hG m h => ?_
 obtain ⟨rfl,h1,h2⟩ := h.str2
 refine ⟨_,(Any.strings_Trim_laid Tryz.lays160 (by kernel_rfl) ⟨s.toArray⟩ ⟨qaI.toArray⟩ w (by show s.toArray.size ≤ _;simpa using h1) (by decide) (fun j b hb => ?_)).mono fun e w' hh => ?_,.str (by have := qZ7 s;omega)⟩
 ·have h3 : ∀ b ∈ qaI,b < 128 := by decide
  exact h3 b (List.mem_of_getElem? hb)
 ·obtain ⟨rfl,hb⟩ := hh
  refine ⟨?_,hb⟩
  show _ = Ending.returned (Value.string ⟨(qJM s).toArray⟩)
  rw [← qdY]
instance kLetters (s : List UInt8) : Fn BB 6 [.str s] True (.bool (qJ7 s)) := by
 refine Fn.intro (N := 15) [0,2] [] Tryz.call6 Tryz.func6 rfl rfl (by kernel_rfl) (fun hpre => ?_)
 repeat' ((conv => whnf);first|exact qR|intro _|refine WA ?_ ?_|refine WF ?_|refine W1 rfl ?_ ?_|refine W2 rfl ?_ ?_|refine W3 rfl ?_ ?_|refine W4 ?_ ?_|refine W5 rfl ?_ ?_|refine W6 ?_ ?_|refine WN ?_|refine X1 (W1 rfl ?_ ?_)|refine X1 (W2 rfl ?_ ?_)|refine X2 (W7 rfl ?_ ?_)|refine X3 (W7 rfl ?_ ?_)|refine X4 (W7 rfl ?_ ?_)|refine X5 (W7 rfl ?_ ?_))
 all_goals (try (conv => whnf))
 all_goals (try first|exact obA|refine Ob.mk ?_)
 all_goals (try rfl)
 all_goals trace_state
theorem qdF {t : List qAG} (h : qBZ t 40 = true) : t.length ≤ 45 ∧ ∀ n ∈ t,n.2.2.1.length ≤ 40 ∧ n.2.2.2.1.length ≤ 14 ∧ n.2.2.2.2.2.2.length ≤ 60 ∧ ∀ a ∈ n.2.2.2.1,a.1.length ≤ 40 ∧ a.2.length ≤ 150 := by
 unfold qBZ at h
 rw [Bool.and_eq_true,decide_eq_true_eq,List.all_eq_true] at h
 refine ⟨by omega,fun n hn => ?_⟩
 have := h.2 n hn
 unfold qGJ qE1 at this
 simp only [Bool.and_eq_true,decide_eq_true_eq,List.all_eq_true] at this
 have h4 : n.2.2.2.2.2.2 = n.kids := rfl
 exact ⟨by omega,by omega,by rw [h4];omega,fun a ha => this.2.2 a ha⟩
end Go.Vc

namespace Go.Vc
open Go.Proofs
open Go.Vc.W
set_option maxRecDepth 100000
set_option maxHeartbeats 8000000
theorem qU1 {t : List qAG} {m k : Int} (h : qBB t m = true) (hm : m ≤ k) : qBB t k = true := by
 unfold qBB at h ⊢
 rw [Bool.and_eq_true,decide_eq_true_eq] at h ⊢
 exact ⟨by omega,h.2⟩
theorem qf5 {p : List UInt8} {t : List qAG} (h : qBZ t 40 = true) (hp : p.length ≤ 20) : qBB (qLU p t) 45 = true := by
 obtain ⟨h1,h2⟩ := qdF h
 have h3 := qX1 hp h1 h2
 have hd : ∀ n ∈ t,(n.2.2.2.2.1.length : Int) ≤ 300 := fun n hn => by
  unfold qBZ at h
  rw [Bool.and_eq_true,List.all_eq_true] at h
  have := h.2 n hn
  unfold qGJ at this
  simp only [Bool.and_eq_true,decide_eq_true_eq] at this
  omega
 unfold qBB
 rw [Bool.and_eq_true,decide_eq_true_eq,List.all_eq_true]
 refine ⟨by rw [qTC];omega,fun n hn => ?_⟩
 obtain ⟨q1,q2,q3,q4⟩ := h3 n hn
 have hdn : (n.2.2.2.2.1.length : Int) ≤ 300 := by
  obtain ⟨m,hm,rfl⟩ := List.mem_map.1 hn
  have := hd m hm
  by_cases hk : m.1 = 1
  ·rw [qH3 hk];exact this
  ·rw [qGY hk];exact this
 unfold qEV qG9
 simp only [Bool.and_eq_true,decide_eq_true_eq,List.all_eq_true]
 have h4 : n.2.2.2.2.2.2 = n.kids := rfl
 rw [h4] at q3
 exact ⟨⟨⟨by omega,hdn⟩,by omega⟩,by omega,fun a ha => ⟨by have := (q4 a ha).1;omega,by have := (q4 a ha).2;omega⟩⟩
theorem qdS {t : List qAG} (h : qBB t 45 = true) (i : Nat) : ((ofT t).getD i qG5.dflt).2.2.2.1.length ≤ 100000 := by
 rcases Nat.lt_or_ge i (ofT t).length with hl | hl
 ·have hm : (ofT t).getD i qG5.dflt ∈ ofT t := by rw [List.getD_eq_getElem?_getD,List.getElem?_eq_getElem hl];exact List.getElem_mem _
  generalize (ofT t).getD i qG5.dflt = r at hm
  unfold ofT at hm
  obtain ⟨k,hk,hr⟩ := List.mem_flatMap.1 hm
  unfold qGG at hr
  obtain ⟨a,ha,hr⟩ := List.mem_flatMap.1 hr
  unfold qDB at hr
  obtain ⟨j,hj,rfl⟩ := List.mem_map.1 hr
  have hj := List.mem_range.1 hj
  have hn := qLR h k (qVN hk)
  obtain ⟨q,hq,e⟩ := List.mem_iff_getElem.1 ha
  have h2 := qR5 hn hq ([],[])
  rw [List.getD_eq_getElem?_getD,List.getElem?_eq_getElem hq] at h2
  simp only [Option.getD_some,e] at h2
  show ((qB7 (nd t k) a).getD j []).length ≤ 100000
  have hw : (qB7 (nd t k) a).getD j [] ∈ qB7 (nd t k) a := qM7 _ hj _
  unfold qB7 at hw ⊢
  have h1 := qKL (qGM (nd t k) a.1) a.2
  have h3 := (qXW (qAP (qGM (nd t k) a.1) a.2)).2 _ hw
  omega
 ·rw [List.getD_eq_getElem?_getD,List.getElem?_eq_none hl];decide
theorem qcV {a b c d : Bool} (h : (!(a && b) || !c || !d) = false) : a = true ∧ b = true ∧ c = true ∧ d = true := by
 cases a <;> cases b <;> cases c <;> cases d <;> simp_all
instance kKeeps (p : List UInt8) (t : List qAG) : Fn BB 3 [.str p,.agg [.rd qAB t]] True (.bool true) := by
  refine Fn.intro (N := 83) [0,1,3,4,5,6,7,8,9,22,34,35,36,37,38,80] [(3,[1,1,0,1,3,3,3,3])] Tryz.call3 Tryz.func3 rfl rfl (by kernel_rfl) (fun hpre => ?_)
  repeat' ((conv => whnf);first|exact qR|intro _|refine WA ?_ ?_|refine WF ?_|refine W1 rfl ?_ ?_|refine W2 rfl ?_ ?_|refine W3 rfl ?_ ?_|refine W4 ?_ ?_|refine W5 rfl ?_ ?_|refine W6 ?_ ?_|refine WN ?_|refine X1 (W1 rfl ?_ ?_)|refine X1 (W2 rfl ?_ ?_)|refine X2 (W7 rfl ?_ ?_)|refine X3 (W7 rfl ?_ ?_)|refine X4 (W7 rfl ?_ ?_)|refine X5 (W7 rfl ?_ ?_))
  all_goals (try (conv => whnf))
  all_goals (try first|exact obA|refine Ob.mk ?_)
  all_goals (have hh := qcV ‹(!(qBZ t 40 && qK9 t) || !qJ7 p || !qaQ t) = false›)
  all_goals (obtain ⟨hh1,hh2,hh3,hh4⟩ := hh)
  all_goals (have la := qV4 hh3)
  all_goals (have e := qfJ la.2.2 t)
  all_goals (first | exact qU1 (qeJ hh1) (by decide) | exact qf5 hh1 la.2.1 | exact qmC hh1 (by omega) | skip)
  · exfalso
    have h := ‹((_ : Int) != _) = true›
    rw [e,List.length_map,bne_self_eq_false] at h
    cases h
  · rw [e]
    clear e
    have hw := qdS (qU1 (qeJ hh1) (by decide))
    generalize ofT t = L at *
    refine LoopStop.mk (α := Nat) (fun i => [(37,.int .i64 i)]) (fun _ => []) 40 (fun i => i ≤ L.length) (fun i => L.length - i) 0 (Nat.zero_le _) ?_ (fun i hi => ?_)
    · all_goals exact vcA
    · by_cases hl : i < L.length
      · have hg : (List.map (qhR p) L).getD i qG5.dflt = qhR p (L.getD i qG5.dflt) := by
          rw [List.getD_eq_getElem?_getD,List.getElem?_map,List.getD_eq_getElem?_getD,List.getElem?_eq_getElem hl];rfl
        repeat' ((conv => whnf);first|exact qR|intro _|refine WA ?_ ?_|refine WF ?_|refine W1 rfl ?_ ?_|refine W2 rfl ?_ ?_|refine W3 rfl ?_ ?_|refine W4 ?_ ?_|refine W5 rfl ?_ ?_|refine W6 ?_ ?_|refine WN ?_|refine X1 (W1 rfl ?_ ?_)|refine X1 (W2 rfl ?_ ?_)|refine X2 (W7 rfl ?_ ?_)|refine X3 (W7 rfl ?_ ?_)|refine X4 (W7 rfl ?_ ?_)|refine X5 (W7 rfl ?_ ?_))
        all_goals (try (conv => whnf))
        all_goals (try first|exact obA|refine Ob.mk ?_)
        all_goals (try simp only [Int.toNat_natCast,List.length_map,hg] at *)
        all_goals (try (exact absurd (Int.ofNat_lt.mpr hl) (of_decide_eq_false (by assumption))))
        all_goals (try omega)
        all_goals (try (have hwi := hw i;have hpl := la.2.1;(show p.length + List.length (L.getD i qG5.dflt).2.2.2.1 ≤ 9223372036854775807);omega))
        all_goals (try (exfalso;simp [qhR] at *;done))
        all_goals (try (refine Rnd.mk ⟨i + 1,by omega,by omega,?_⟩))
        all_goals exact vcA
      · repeat' ((conv => whnf);first|exact qR|intro _|refine WA ?_ ?_|refine WF ?_|refine W1 rfl ?_ ?_|refine W2 rfl ?_ ?_|refine W3 rfl ?_ ?_|refine W4 ?_ ?_|refine W5 rfl ?_ ?_|refine W6 ?_ ?_|refine WN ?_|refine X1 (W1 rfl ?_ ?_)|refine X1 (W2 rfl ?_ ?_)|refine X2 (W7 rfl ?_ ?_)|refine X3 (W7 rfl ?_ ?_)|refine X4 (W7 rfl ?_ ?_)|refine X5 (W7 rfl ?_ ?_))
        all_goals (try (conv => whnf))
        all_goals (try first|exact obA|refine Ob.mk ?_)
        all_goals (try (exact absurd (of_decide_eq_true (by assumption)) (fun h => hl (Int.ofNat_lt.mp h))))
        all_goals (first | rfl | trace_state)
end Go.Vc

namespace Go.Vc
open Go.Proofs
set_option maxRecDepth 100000
abbrev qu0 : List (String × DataW Unit) := [("unicode/utf8.acceptRanges", YtjnmepijcndcpaaGreatDoor.Rows.laid_unicode_utf8_acceptRanges), ("unicode/utf8.first", YtjnmepijcndcpaaGreatDoor.Rows.laid_unicode_utf8_first)]
theorem qiK : (YtjnmepijcndcpaaGreatDoor.Rows.laid_unicode_utf8_acceptRanges : DataW Unit) = Lib.acceptData := by kernel_rfl
theorem qJ9 (W : World) (b o : Nat) (v : Value) (h : W.cell? ⟨b,o,none⟩ = some v) : qK5 (fun b => W.heap[b]?) b o = some v := by
 unfold qK5
 simp only [World.cell?] at h
 cases hb : W.heap[b]? with
 | none => rw [hb] at h;cases h
 | some x =>
  rw [hb] at h
  simp only [hb]
  cases x <;> first | exact h | (cases h)
theorem qhN (W : World) (hL : laidMetH Tryz.prog qu0 W) (hsh : W.ShapedOpen Tryz.prog) : BB.G fun b => W.heap[b]? := by
 have h3 := Lib.laidMet.reads hL (.tail _ (.head _))
 have h4 := Lib.laidMet.reads hL (.head _)
 have h3' : Lib.VarReads Tryz.prog W "unicode/utf8.first" Lib.firstData := by
  have e : (YtjnmepijcndcpaaGreatDoor.Rows.laid_unicode_utf8_first : DataW Unit) = Lib.firstData := Pinned.utf8First_eq
  rw [← e];exact h3
 have h4' : Lib.VarReads Tryz.prog W "unicode/utf8.acceptRanges" Lib.acceptData := by rw [← qiK]; exact h4
 have ht : Lib.Utf8Tabs 0 1 W := utf8Tabs_of_readsT (ρ := Tryz.lays260_ren) (U8Types.of260 Tryz.lays260) ⟨by kernel_rfl,by kernel_rfl,by kernel_rfl,by kernel_rfl,by kernel_rfl,by kernel_rfl,by kernel_rfl⟩ h3' h4'
 obtain ⟨m,hm⟩ := Tryz.laysM143.s1_3 W hsh
 exact ⟨fun c hc => qJ9 W _ _ _ (ht.1 c hc),fun i hi => ⟨qJ9 W _ _ _ (ht.2 i hi).1,qJ9 W _ _ _ (ht.2 i hi).2⟩,⟨m,qJ9 W _ _ _ hm⟩⟩
end Go.Vc
