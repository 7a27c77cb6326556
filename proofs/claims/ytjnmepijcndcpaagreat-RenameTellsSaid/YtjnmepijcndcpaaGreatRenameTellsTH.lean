/- A part of the proof: lemmas and walks that the last text of the claim joins; no condition. -/
import Derived.Test.YtjnmepijcndcpaaGreatRenameTellsTG
import Derived.Shelf.Spec.SlicesGrow
import Derived.Laws.AppendOwn
import Derived.Shelf.Vars
import Derived.Test.YtjnmepijcndcpaaGreatRows
set_option linter.unusedVariables false
set_option linter.unusedSimpArgs false
set_option maxHeartbeats 8000000
namespace Go.Vc
open Go.Proofs
open Go.Vc.W
set_option maxRecDepth 10000
set_option maxHeartbeats 8000000
abbrev kFC : List UInt8 := [105,100]
abbrev kEL : List UInt8 := [110,97,109,101]
def jjI (p : List UInt8) (k s : Int) (nn nm v : List UInt8) : List UInt8 :=
 if nm = kFC ∨ nm = kEL then (if v = [] then [] else p ++ v)
 else if jK1 (jNT k s nn nm) v = [] then v
 else if jNT k s nn nm = 3 then 35 :: (((jK1 (jNT k s nn nm) v).map (p ++ ·)).getD 0 [])
 else joinL ((jK1 (jNT k s nn nm) v).map (p ++ ·))
def jU6 (p : List UInt8) (w : List (List UInt8)) (i : Nat) : List (List UInt8) := (w.take i).map (p ++ ·) ++ w.drop i
theorem jd0 (p : List UInt8) (w : List (List UInt8)) (i : Nat) (h : i ≤ w.length) : (jU6 p w i).length = w.length := by unfold jU6;simp;omega
theorem jdE (p : List UInt8) (w : List (List UInt8)) (i : Nat) (h : i < w.length) : (jU6 p w i).set i (p ++ (jU6 p w i).getD i []) = jU6 p w (i + 1) := by
 have e : (jU6 p w i).getD i [] = w.getD i [] := by
  unfold jU6
  rw [List.getD_eq_getElem?_getD,List.getElem?_append_right (by simp;omega),List.getElem?_drop,List.getD_eq_getElem?_getD]
  congr 2;simp;omega
 rw [e]
 unfold jU6
 have hd : w.drop i = w.getD i [] :: w.drop (i + 1) := by rw [List.drop_eq_getElem_cons h];simp [List.getD,List.getElem?_eq_getElem h]
 rw [hd,List.set_append_right _ _ (by simp;omega),take_snoc w i [] h,List.map_append,List.append_assoc]
 congr 1
 simp only [List.length_map,List.length_take,Nat.min_eq_left (Nat.le_of_lt h),Nat.sub_self,List.set_cons_zero,List.map_cons,List.map_nil,List.singleton_append]
theorem jdP (p : List UInt8) (w : List (List UInt8)) : jU6 p w w.length = w.map (p ++ ·) := by unfold jU6;simp
theorem jiO (kind : Int) (v : List UInt8) : ((jK1 kind v).map fun w => w.length + 1).sum ≤ v.length + 1 := by
 unfold jK1
 have hf : (frL v).1.length ≤ v.length := by
  unfold frL
  cases jU3 v [35] <;> simp
 split
 ·exact (jg3 v).2
 ·split
  ·split <;> simp
  ·split
   ·split
    ·simp
    ·simp;exact hf
   ·simp
theorem jrE (w : List (List UInt8)) : w.length ≤ (w.map fun x => x.length + 1).sum ∧ ∀ x ∈ w,x.length ≤ (w.map fun x => x.length + 1).sum := by
 induction w with
 | nil => exact ⟨by simp,fun x h => by cases h⟩
 | cons a r ih =>
  refine ⟨by simp;omega,fun x hx => ?_⟩
  simp only [List.map_cons,List.sum_cons]
  rcases List.mem_cons.1 hx with rfl | hx
  ·omega
  ·have := ih.2 x hx;omega
theorem jmW (p : List UInt8) (w : List (List UInt8)) : ((w.map (p ++ ·)).map fun x => x.length + 1).sum = (w.map fun x => x.length + 1).sum + w.length * p.length := by
 induction w with
 | nil => simp
 | cons a r ih => simp only [List.map_cons,List.sum_cons,ih,List.length_append,List.length_cons,Nat.add_mul];omega
theorem jaF {p v : List UInt8} (kind : Int) (hv : v.length ≤ 10000) (hp : p.length ≤ 60) :
  (joinL ((jK1 kind v).map (p ++ ·))).length ≤ 1000000 ∧ (jK1 kind v).length ≤ 10001 ∧ ∀ x ∈ jK1 kind v,x.length ≤ 10001 := by
 have h1 := jiO kind v
 obtain ⟨h2,h3⟩ := jrE (jK1 kind v)
 refine ⟨?_,by omega,fun x hx => by have := h3 x hx;omega⟩
 have h4 := jjR ((jK1 kind v).map (p ++ ·))
 rw [jmW] at h4
 have h5 : (jK1 kind v).length * p.length ≤ 10001 * 60 := Nat.mul_le_mul (by omega) hp
 omega
theorem jWT {p : List UInt8} {k s : Int} {nn nm v : List UInt8} (h : (nm == [105,100] || nm == [110,97,109,101]) = true) : jjI p k s nn nm v = if v = [] then [] else p ++ v := by
 unfold jjI
 rw [Bool.or_eq_true,beq_iff_eq,beq_iff_eq] at h
 rw [if_pos h]
theorem jdF {p : List UInt8} {k s : Int} {nn nm v : List UInt8} (h : (nm == [105,100] || nm == [110,97,109,101]) = false) : jjI p k s nn nm v = if jK1 (jNT k s nn nm) v = [] then v
 else if jNT k s nn nm = 3 then 35 :: (((jK1 (jNT k s nn nm) v).map (p ++ ·)).getD 0 [])
 else joinL ((jK1 (jNT k s nn nm) v).map (p ++ ·)) := by
 unfold jjI
 rw [if_neg]
 intro q
 rw [← Bool.not_eq_true,Bool.or_eq_true,beq_iff_eq,beq_iff_eq] at h
 exact h q
theorem len0 {α : Type} {l : List α} : (((l.length : Int) == 0) = true → l = []) ∧ (((l.length : Int) == 0) = false → l ≠ []) := by
 refine ⟨fun h => List.eq_nil_of_length_eq_zero (by have := eq_of_beq h;omega),fun h e => ?_⟩
 subst e
 cases h
theorem jdJ {p : List UInt8} {w : List (List UInt8)} {i : Nat} (hw : ∀ x ∈ w,x.length ≤ 10001) (hp : p.length ≤ 60) (j : Nat) : ((jU6 p w i).getD j []).length ≤ 10061 := by
 rw [List.getD_eq_getElem?_getD]
 cases e : (jU6 p w i)[j]? with
 | none => simp
 | some x =>
  have hx := List.mem_of_getElem? e
  unfold jU6 at hx
  rcases List.mem_append.1 hx with h | h
  ·obtain ⟨y,hy,rfl⟩ := List.mem_map.1 h
   have := hw y (List.mem_of_mem_take hy)
   show (p ++ y).length ≤ _
   rw [List.length_append];omega
  ·have := hw x (List.mem_of_mem_drop h)
   show x.length ≤ _
   omega
section
attribute [-instance] rWords rRWords
instance eVal (p : List UInt8) (k s : Int) (nn : List UInt8) (at_ : List jKK) (d : List UInt8) (up : Int) (kids : List Int) (nm v : List UInt8) :
  Fn BB 41 [.str p,.agg [.int .i64 k,.int .i64 s,.str nn,.rd jKP at_,.str d,.int .i64 up,.rd jKG kids],.agg [.str nm,.str v]] (nn.length ≤ 1000 ∧ v.length ≤ 10000 ∧ p.length ≤ 60) (.str (jjI p k s nn nm v)) := by
 refine Fn.intro (N := 61) [0,1,2,4,5,6,7,8,9,17,20,35,39,40,41,54] [] Tryz.call41 Tryz.func41 rfl rfl (by kernel_rfl) (fun hpre => ?_)
 obtain ⟨h1,h2,h3⟩ := hpre
 repeat' ((conv => whnf);first|(with_reducible first|rfl|exact jKE|exact jKD)|exact True.intro|intro _|refine WA ?_ ?_|refine WF ?_|refine W1 rfl ?_ ?_|refine W2 rfl ?_ ?_|refine W3 rfl ?_ ?_|refine W4 ?_ ?_|refine W5 rfl ?_ ?_|refine W6 ?_ ?_|refine WN ?_|refine X1 (W1 rfl ?_ ?_)|refine X1 (W2 rfl ?_ ?_)|refine X2 (W7 rfl ?_ ?_)|refine X3 (W7 rfl ?_ ?_)|refine X4 (W7 rfl ?_ ?_)|refine X5 (W7 rfl ?_ ?_))
 all_goals (try (conv => whnf))
 all_goals (try first|exact obA|refine Ob.mk ?_)
 ·rw [jWT ‹_›,if_neg]
  have h : (!v == []) = true := ‹_›
  simpa using h
 ·rw [jWT ‹_›,if_pos]
  have h : (!v == []) = false := ‹_›
  simpa using h
 ·rw [jdF ‹_›,if_pos (len0.1 ‹_›)]
 have hs := jaF (p := p) (v := v) (jNT k s nn nm) h2 h3
 have hne := len0.2 (by assumption : (((jK1 (jNT k s nn nm) v).length : Int) == 0) = false)
 have hval : jjI p k s nn nm v = _ := jdF ‹_›
 rw [if_neg hne] at hval
 revert hs hne hval
 generalize jK1 (jNT k s nn nm) v = w
 intro hs hne hval
 have hw0 : 0 < w.length := List.length_pos_iff.2 hne
 refine LoopStop.mk (α := Nat) (fun i => [(40,.int .i64 i)]) (fun i => [(2,.own .str (jU6 p w i))]) 20 (fun i => i ≤ w.length) (fun i => w.length - i) 0 (Nat.zero_le _) ?_ (fun i hi => ?_)
 ·all_goals exact vcA
 ·have hl := jd0 p w i hi
  have hm := fun j => jdJ (i := i) hs.2.2 h3 j
  have hend : i = w.length → jU6 p w i = w.map (p ++ ·) := fun e => by subst e;exact jdP p w
  repeat' ((conv => whnf);first|(with_reducible first|rfl|exact jKE|exact jKD)|exact True.intro|intro _|refine WA ?_ ?_|refine WF ?_|refine W1 rfl ?_ ?_|refine W2 rfl ?_ ?_|refine W3 rfl ?_ ?_|refine W4 ?_ ?_|refine W5 rfl ?_ ?_|refine W6 ?_ ?_|refine WN ?_|refine X1 (W1 rfl ?_ ?_)|refine X1 (W2 rfl ?_ ?_)|refine X2 (W7 rfl ?_ ?_)|refine X3 (W7 rfl ?_ ?_)|refine X4 (W7 rfl ?_ ?_)|refine X5 (W7 rfl ?_ ?_))
  all_goals (try (conv => whnf))
  all_goals (try first|exact obA|refine Ob.mk ?_)
  all_goals (try simp only [ZA,ZB,ZC,ZD,ZE,ZF,ZG,ZH,ZI,ZJ,ZK,ZL,ZM,ZN,ZO,Int.toNat_natCast,UInt8.ofNat_toNat,cast_eq] at *)
  ·have := hm i
   show p.length + ((jU6 p w i).getD i []).length ≤ _
   omega
  ·refine Rnd.mk ⟨i + 1,by omega,by omega,?_⟩
   rw [← jdE p w i (by omega)]
   all_goals exact vcA
  all_goals (have e := hend (by omega))
  ·have := hm 0
   show 1 + ((jU6 p w i).getD 0 []).length ≤ _
   omega
  ·rw [hval,if_pos (by assumption),e];rfl
  ·rw [e]
   exact ⟨hs.1,by rw [List.length_map];omega⟩
  ·rw [hval,if_neg (by assumption),e]
instance hVal (p : List UInt8) (k s : Int) (nn : List UInt8) (at_ : List jKK) (d : List UInt8) (up : Int) (kids : List Int) (nm v : List UInt8) :
  Fn BB 42 [.str p,.agg [.int .i64 k,.int .i64 s,.str nn,.rd jKP at_,.str d,.int .i64 up,.rd jKG kids],.agg [.str nm,.str v]] (nn.length ≤ 1000 ∧ v.length ≤ 10000 ∧ p.length ≤ 60) (.str (jjI p k s nn nm v)) := by
 refine Fn.intro (N := 61) [0,1,2,4,5,6,7,8,9,25,28,35,41,54] [] Tryz.call42 Tryz.func42 rfl rfl (by kernel_rfl) (fun hpre => ?_)
 obtain ⟨h1,h2,h3⟩ := hpre
 repeat' ((conv => whnf);first|(with_reducible first|rfl|exact jKE|exact jKD)|exact True.intro|intro _|refine WA ?_ ?_|refine WF ?_|refine W1 rfl ?_ ?_|refine W2 rfl ?_ ?_|refine W3 rfl ?_ ?_|refine W4 ?_ ?_|refine W5 rfl ?_ ?_|refine W6 ?_ ?_|refine WN ?_|refine X1 (W1 rfl ?_ ?_)|refine X1 (W2 rfl ?_ ?_)|refine X2 (W7 rfl ?_ ?_)|refine X3 (W7 rfl ?_ ?_)|refine X4 (W7 rfl ?_ ?_)|refine X5 (W7 rfl ?_ ?_))
 all_goals (try (conv => whnf))
 all_goals (try first|exact obA|refine Ob.mk ?_)
 ·rw [jWT ‹_›,if_pos]
  have h : (v == []) = true := ‹_›
  simpa using h
 ·rw [jWT ‹_›,if_neg]
  have h : (v == []) = false := ‹_›
  simpa using h
 ·rw [jdF ‹_›,if_pos (len0.1 ‹_›)]
 have hs := jaF (p := p) (v := v) (jNT k s nn nm) h2 h3
 have hne := len0.2 (by assumption : (((jK1 (jNT k s nn nm) v).length : Int) == 0) = false)
 have hval : jjI p k s nn nm v = _ := jdF ‹_›
 rw [if_neg hne] at hval
 revert hs hne hval
 generalize jK1 (jNT k s nn nm) v = w
 intro hs hne hval
 have hw0 : 0 < w.length := List.length_pos_iff.2 hne
 refine LoopStop.mk (α := Nat) (fun i => [(9,.int .i64 i)]) (fun i => [(2,.own .str (jU6 p w i))]) 20 (fun i => i ≤ w.length) (fun i => w.length - i) 0 (Nat.zero_le _) ?_ (fun i hi => ?_)
 ·all_goals exact vcA
 ·have hl := jd0 p w i hi
  have hm := fun j => jdJ (i := i) hs.2.2 h3 j
  have hend : i = w.length → jU6 p w i = w.map (p ++ ·) := fun e => by subst e;exact jdP p w
  repeat' ((conv => whnf);first|(with_reducible first|rfl|exact jKE|exact jKD)|exact True.intro|intro _|refine WA ?_ ?_|refine WF ?_|refine W1 rfl ?_ ?_|refine W2 rfl ?_ ?_|refine W3 rfl ?_ ?_|refine W4 ?_ ?_|refine W5 rfl ?_ ?_|refine W6 ?_ ?_|refine WN ?_|refine X1 (W1 rfl ?_ ?_)|refine X1 (W2 rfl ?_ ?_)|refine X2 (W7 rfl ?_ ?_)|refine X3 (W7 rfl ?_ ?_)|refine X4 (W7 rfl ?_ ?_)|refine X5 (W7 rfl ?_ ?_))
  all_goals (try (conv => whnf))
  all_goals (try first|exact obA|refine Ob.mk ?_)
  all_goals (try simp only [ZA,ZB,ZC,ZD,ZE,ZF,ZG,ZH,ZI,ZJ,ZK,ZL,ZM,ZN,ZO,Int.toNat_natCast,UInt8.ofNat_toNat,cast_eq] at *)
  ·have := hm i
   show p.length + ((jU6 p w i).getD i []).length ≤ _
   omega
  ·refine Rnd.mk ⟨i + 1,by omega,by omega,?_⟩
   rw [← jdE p w i (by omega)]
   all_goals exact vcA
  all_goals (have e := hend (by omega))
  ·have := hm 0
   show 1 + ((jU6 p w i).getD 0 []).length ≤ _
   omega
  ·rw [hval,if_pos (by assumption),e];rfl
  ·rw [e]
   exact hs.1
  ·rw [hval,if_neg (by assumption),e]
end
end Go.Vc

namespace Go.Vc
open Go.Proofs
open Go.Vc.W
set_option maxRecDepth 10000
set_option maxHeartbeats 8000000
noncomputable abbrev BO : Base := { BB with fo := true }
instance toO_fn {f : FuncId} {args : List SV} {pre : Prop} {res : SV} [h : Fn BB f args pre res] : Fn BO f args pre res := ⟨h.call,h.ok⟩
instance toO_fnM {f : FuncId} {args : List SV} {Φ : Phi} {pre : Prop} {res : SV} {Φ' : Phi} [h : FnM BB f args Φ pre res Φ'] : FnM BO f args Φ pre res Φ' := ⟨h.call,h.ok⟩
instance eCloneN (l : List jKH) : FnM BB 94 [.rd jKA l] [] (l.length ≤ 100000) (.own 0) [(0,.own jKA l)] := by
 refine FnM.intro (N := 8) [0,2,4] [] 1 Tryz.call94 Tryz.func94 rfl rfl (by kernel_rfl) (fun hpre => ?_)
 repeat' ((conv => whnf);first|(with_reducible first|rfl|exact jKE|exact jKD)|exact True.intro|intro _|refine WA ?_ ?_|refine WF ?_|refine W1 rfl ?_ ?_|refine W2 rfl ?_ ?_|refine W3 rfl ?_ ?_|refine W4 ?_ ?_|refine W5 rfl ?_ ?_|refine W6 ?_ ?_|refine WN ?_|refine X1 (W1 rfl ?_ ?_)|refine X1 (W2 rfl ?_ ?_)|refine X2 (W7 rfl ?_ ?_)|refine X3 (W7 rfl ?_ ?_)|refine X4 (W7 rfl ?_ ?_)|refine X5 (W7 rfl ?_ ?_))
 all_goals (try (conv => whnf))
 all_goals (try first|exact obA|refine Ob.mk ?_)
 all_goals (try simp_all)
def jh3 (p : List UInt8) (n : jKH) (a : jKK) : jKK := (a.1,jjI p n.1 n.2.1 n.2.2.1 a.1 a.2)
def jWQ (p : List UInt8) (n : jKH) : jKH := (n.1,n.2.1,n.2.2.1,(if n.1 = 1 then n.2.2.2.1.map (jh3 p n) else n.2.2.2.1),n.2.2.2.2.1,n.2.2.2.2.2.1,n.2.2.2.2.2.2)
def kD5 (p : List UInt8) (t : List jKH) : List jKH := t.map (jWQ p)
def jOI {α : Type} (f : α → α) (l : List α) (i : Nat) : List α := (l.take i).map f ++ l.drop i
theorem jU1 {α : Type} (f : α → α) (l : List α) (i : Nat) (h : i ≤ l.length) : (jOI f l i).length = l.length := by unfold jOI;simp;omega
theorem jUZ {α : Type} (f : α → α) (l : List α) (i : Nat) (d : α) (h : i < l.length) : (jOI f l i).getD i d = l.getD i d := by
 unfold jOI
 rw [List.getD_eq_getElem?_getD,List.getElem?_append_right (by simp;omega),List.getElem?_drop,List.getD_eq_getElem?_getD]
 congr 2;simp;omega
theorem jUL {α : Type} (f : α → α) (l : List α) (i : Nat) (d : α) (h : i < l.length) : (jOI f l i).set i (f (l.getD i d)) = jOI f l (i + 1) := by
 unfold jOI
 have hd : l.drop i = l.getD i d :: l.drop (i + 1) := by rw [List.drop_eq_getElem_cons h];simp [List.getD,List.getElem?_eq_getElem h]
 rw [hd,List.set_append_right _ _ (by simp;omega),take_snoc l i d h,List.map_append,List.append_assoc]
 congr 1
 simp only [List.length_map,List.length_take,Nat.min_eq_left (Nat.le_of_lt h),Nat.sub_self,List.set_cons_zero,List.map_cons,List.map_nil,List.singleton_append]
theorem jTT {α : Type} (f : α → α) (l : List α) : jOI f l l.length = l.map f := by unfold jOI;simp
theorem jc0 {α : Type} (f : α → α) (l : List α) : jOI f l 0 = l := by unfold jOI;simp
theorem set_self {α : Type} (l : List α) (i : Nat) (d : α) (h : i < l.length) : l.set i (l.getD i d) = l := by
 rw [show l.getD i d = l[i] by simp [List.getD,List.getElem?_eq_getElem h]];exact List.set_getElem_self h
def jTZ (p : List UInt8) (t : List jKH) : Prop := p.length ≤ 60 ∧ t.length ≤ 1000 ∧ ∀ n ∈ t,n.2.2.1.length ≤ 1000 ∧ n.2.2.2.1.length ≤ 1000 ∧ n.2.2.2.2.2.2.length ≤ 1000 ∧ ∀ a ∈ n.2.2.2.1,a.2.length ≤ 10000
theorem jk5 {α : Type} (l : List α) {k : Nat} (h : k < l.length) (d : α) : l.getD k d ∈ l := by
 rw [List.getD_eq_getElem?_getD,List.getElem?_eq_getElem h];exact List.getElem_mem _
theorem jl1 {p : List UInt8} {t : List jKH} (h : jTZ p t) {i : Nat} (hi : i < t.length) : (t.getD i jKA.dflt).2.2.1.length ≤ 1000 ∧ (t.getD i jKA.dflt).2.2.2.1.length ≤ 1000 ∧ (t.getD i jKA.dflt).2.2.2.2.2.2.length ≤ 1000 ∧ ∀ k,k < (t.getD i jKA.dflt).2.2.2.1.length → ((t.getD i jKA.dflt).2.2.2.1.getD k jKP.dflt).2.length ≤ 10000 := by
 have hm : t.getD i jKA.dflt ∈ t := by rw [List.getD_eq_getElem?_getD,List.getElem?_eq_getElem hi];exact List.getElem_mem _
 obtain ⟨h1,h2,h3,h4⟩ := h.2.2 _ hm
 exact ⟨h1,h2,h3,fun k hk => h4 _ (jk5 _ hk _)⟩
theorem joF (L : List jKH) (i : Nat) (h : i < L.length) : L.set i ((L.getD i jKA.dflt).fst,(L.getD i jKA.dflt).snd.fst,(L.getD i jKA.dflt).snd.snd.fst,(L.getD i jKA.dflt).snd.snd.snd.fst,(L.getD i jKA.dflt).snd.snd.snd.snd.fst,(L.getD i jKA.dflt).snd.snd.snd.snd.snd.fst,(L.getD i jKA.dflt).snd.snd.snd.snd.snd.snd) = L := set_self L i jKA.dflt h
theorem jiZ {p : List UInt8} {n : jKH} (h : ¬ n.1 = 1) : jWQ p n = n := by unfold jWQ;rw [if_neg h]
theorem jd1 {p : List UInt8} {n : jKH} (h : n.1 = 1) : jWQ p n = (n.1,n.2.1,n.2.2.1,n.2.2.2.1.map (jh3 p n),n.2.2.2.2.1,n.2.2.2.2.2.1,n.2.2.2.2.2.2) := by unfold jWQ;rw [if_pos h]
instance eTreeO (p : List UInt8) (t : List jKH) : Fn BO 39 [.str p,.agg [.rd jKA t]] (jTZ p t) (.agg [.rd jKA (kD5 p t)]) := by
  refine Fn.intro (N := 73) [0,1,3,4,5,6,7,8,9,16,17,18,44,48,49,50,51] [(6,[0,0,0,0,0,1,2,0,0,0,1,3,0,0,3,0,0,3]),(11,[0,0,0,1,0,0,0,1,0,1,1,1,1,3,3,3])] Tryz.call39 Tryz.func39 rfl rfl (by kernel_rfl) (fun hpre => ?_)
  have hp := hpre
  obtain ⟨h1,h2,h3⟩ := hpre
  repeat' ((conv => whnf);first|(with_reducible first|rfl|exact jKE|exact jKD)|exact True.intro|intro _|refine WA ?_ ?_|refine WF ?_|refine W1 rfl ?_ ?_|refine W2 rfl ?_ ?_|refine W3 rfl ?_ ?_|refine W4 ?_ ?_|refine W5 rfl ?_ ?_|refine W6 ?_ ?_|refine WN ?_|refine X1 (W1 rfl ?_ ?_)|refine X1 (W2 rfl ?_ ?_)|refine X2 (W7 rfl ?_ ?_)|refine X3 (W7 rfl ?_ ?_)|refine X4 (W7 rfl ?_ ?_)|refine X5 (W7 rfl ?_ ?_))
  all_goals (try (conv => whnf))
  all_goals (try first|exact obA|refine Ob.mk ?_)
  refine LoopStop.mk (α := Nat) (fun i => [(17,.int .i64 i)]) (fun i => [(2,.own jKA (jOI (jWQ p) t i))]) 20 (fun i => i ≤ t.length) (fun i => t.length - i) 0 (Nat.zero_le _) ?_ (fun i hi => ?_)
  · all_goals exact vcA
  · have hl := jU1 (jWQ p) t i hi
    have hg := fun h : i < t.length => jUZ (jWQ p) t i jKA.dflt h
    have hat := fun h : i < t.length => jl1 hp h
    have hset := fun h : i < t.length => joF (jOI (jWQ p) t i) i (by omega)
    have hnext := fun h : i < t.length => jUL (jWQ p) t i jKA.dflt h
    repeat' ((conv => whnf);first|(with_reducible first|rfl|exact jKE|exact jKD)|exact True.intro|intro _|refine WA ?_ ?_|refine WF ?_|refine W1 rfl ?_ ?_|refine W2 rfl ?_ ?_|refine W3 rfl ?_ ?_|refine W4 ?_ ?_|refine W5 rfl ?_ ?_|refine W6 ?_ ?_|refine WN ?_|refine X1 (W1 rfl ?_ ?_)|refine X1 (W2 rfl ?_ ?_)|refine X2 (W7 rfl ?_ ?_)|refine X3 (W7 rfl ?_ ?_)|refine X4 (W7 rfl ?_ ?_)|refine X5 (W7 rfl ?_ ?_))
    all_goals (try (conv => whnf))
    all_goals (try first|exact obA|refine Ob.mk ?_)
    all_goals (try simp only [ZA,ZB,ZC,ZD,ZE,ZF,ZG,ZH,ZI,ZJ,ZK,ZL,ZM,ZN,ZO,Int.toNat_natCast,UInt8.ofNat_toNat,cast_eq] at *)
    · rw [hg (by omega)];have := (hat (by omega)).2.1;show (t.getD i jKA.dflt).2.2.2.1.length ≤ _;omega
    · rw [hg (by omega)];have := (hat (by omega)).2.2.1;show (t.getD i jKA.dflt).2.2.2.2.2.2.length ≤ _;omega
    · have hk0 : ¬ (t.getD i jKA.dflt).1 = 1 := by
        have h := ‹¬ (((jOI (jWQ p) t i).set i _).getD i jKA.dflt).fst = 1›
        rw [hset (by omega),hg (by omega)] at h
        exact h
      refine Rnd.mk ⟨i + 1,by omega,by omega,?_⟩
      repeat' ((conv => whnf);first|(with_reducible first|rfl|exact jKE|exact jKD)|exact True.intro|intro _|refine WA ?_ ?_|refine WF ?_|refine W1 rfl ?_ ?_|refine W2 rfl ?_ ?_|refine W3 rfl ?_ ?_|refine W4 ?_ ?_|refine W5 rfl ?_ ?_|refine W6 ?_ ?_|refine WN ?_|refine X1 (W1 rfl ?_ ?_)|refine X1 (W2 rfl ?_ ?_)|refine X2 (W7 rfl ?_ ?_)|refine X3 (W7 rfl ?_ ?_)|refine X4 (W7 rfl ?_ ?_)|refine X5 (W7 rfl ?_ ?_))
      all_goals (try (conv => whnf))
      all_goals (try first|exact obA|refine Ob.mk ?_)
      all_goals
        simp only [cast_eq,hset (by omega)]
        rw [← hnext (by omega),jiZ hk0, ← hg (by omega),set_self _ _ _ (by omega)]
    · have hk1 : (t.getD i jKA.dflt).1 = 1 := by
        have h := ‹(((jOI (jWQ p) t i).set i _).getD i jKA.dflt).fst = 1›
        rw [hset (by omega),hg (by omega)] at h
        exact h
      rename_i g _ _ _
      obtain ⟨q1,q2,q3,q4⟩ := hat (by omega)
      refine LoopStop.mk (α := Nat) (fun k => [(50,.int .i64 k)]) (fun k => [(20,.owg jKP (jOI (jh3 p (t.getD i jKA.dflt)) (t.getD i jKA.dflt).2.2.2.1 k) g)]) 40 (fun k => k ≤ (t.getD i jKA.dflt).2.2.2.1.length) (fun k => (t.getD i jKA.dflt).2.2.2.1.length - k) 0 (Nat.zero_le _) ?_ (fun k hk => ?_)
      · repeat' ((conv => whnf);first|(with_reducible first|rfl|exact jKE|exact jKD)|exact True.intro|intro _|refine WA ?_ ?_|refine WF ?_|refine W1 rfl ?_ ?_|refine W2 rfl ?_ ?_|refine W3 rfl ?_ ?_|refine W4 ?_ ?_|refine W5 rfl ?_ ?_|refine W6 ?_ ?_|refine WN ?_|refine X1 (W1 rfl ?_ ?_)|refine X1 (W2 rfl ?_ ?_)|refine X2 (W7 rfl ?_ ?_)|refine X3 (W7 rfl ?_ ?_)|refine X4 (W7 rfl ?_ ?_)|refine X5 (W7 rfl ?_ ?_))
        all_goals (try (conv => whnf))
        all_goals (try first|exact obA|refine Ob.mk ?_)
        all_goals (rw [jc0,hg (by omega)])
      · have hl2 := jU1 (jh3 p (t.getD i jKA.dflt)) (t.getD i jKA.dflt).2.2.2.1 k hk
        have hg2 := fun h : k < (t.getD i jKA.dflt).2.2.2.1.length => jUZ (jh3 p (t.getD i jKA.dflt)) (t.getD i jKA.dflt).2.2.2.1 k jKP.dflt h
        have hn2 := fun h : k < (t.getD i jKA.dflt).2.2.2.1.length => jUL (jh3 p (t.getD i jKA.dflt)) (t.getD i jKA.dflt).2.2.2.1 k jKP.dflt h
        have hlen : List.length ((jOI (jWQ p) t i).getD i jKA.dflt).snd.snd.snd.fst = (t.getD i jKA.dflt).2.2.2.1.length := by rw [hg (by omega)]
        repeat' ((conv => whnf);first|(with_reducible first|rfl|exact jKE|exact jKD)|exact True.intro|intro _|refine WA ?_ ?_|refine WF ?_|refine W1 rfl ?_ ?_|refine W2 rfl ?_ ?_|refine W3 rfl ?_ ?_|refine W4 ?_ ?_|refine W5 rfl ?_ ?_|refine W6 ?_ ?_|refine WN ?_|refine X1 (W1 rfl ?_ ?_)|refine X1 (W2 rfl ?_ ?_)|refine X2 (W7 rfl ?_ ?_)|refine X3 (W7 rfl ?_ ?_)|refine X4 (W7 rfl ?_ ?_)|refine X5 (W7 rfl ?_ ?_))
        all_goals (try (conv => whnf))
        all_goals (try first|exact obA|refine Ob.mk ?_)
        all_goals (try simp only [ZA,ZB,ZC,ZD,ZE,ZF,ZG,ZH,ZI,ZJ,ZK,ZL,ZM,ZN,ZO,Int.toNat_natCast,UInt8.ofNat_toNat,cast_eq] at *)
        all_goals (try (rw [hlen] at *))
        all_goals (try omega)
        · rw [hg2 (by omega)]
          exact ⟨q1,q4 k (by omega),h1⟩
        · refine Rnd.mk ⟨k + 1,by omega,by omega,?_⟩
          rw [← hn2 (by omega)]
          repeat' ((conv => whnf);first|(with_reducible first|rfl|exact jKE|exact jKD)|exact True.intro|intro _|refine WA ?_ ?_|refine WF ?_|refine W1 rfl ?_ ?_|refine W2 rfl ?_ ?_|refine W3 rfl ?_ ?_|refine W4 ?_ ?_|refine W5 rfl ?_ ?_|refine W6 ?_ ?_|refine WN ?_|refine X1 (W1 rfl ?_ ?_)|refine X1 (W2 rfl ?_ ?_)|refine X2 (W7 rfl ?_ ?_)|refine X3 (W7 rfl ?_ ?_)|refine X4 (W7 rfl ?_ ?_)|refine X5 (W7 rfl ?_ ?_))
          all_goals (try (conv => whnf))
          all_goals (try first|exact obA|refine Ob.mk ?_)
          all_goals (try (rw [hg2 (by omega)]))
          all_goals (try rfl)
          all_goals trace_state
        all_goals
          have ek : k = (t.getD i jKA.dflt).2.2.2.1.length := by omega
          refine Rnd.mk ⟨i + 1,by omega,by omega,?_⟩
          repeat' ((conv => whnf);first|(with_reducible first|rfl|exact jKE|exact jKD)|exact True.intro|intro _|refine WA ?_ ?_|refine WF ?_|refine W1 rfl ?_ ?_|refine W2 rfl ?_ ?_|refine W3 rfl ?_ ?_|refine W4 ?_ ?_|refine W5 rfl ?_ ?_|refine W6 ?_ ?_|refine WN ?_|refine X1 (W1 rfl ?_ ?_)|refine X1 (W2 rfl ?_ ?_)|refine X2 (W7 rfl ?_ ?_)|refine X3 (W7 rfl ?_ ?_)|refine X4 (W7 rfl ?_ ?_)|refine X5 (W7 rfl ?_ ?_))
          all_goals (try (conv => whnf))
          all_goals (try first|exact obA|refine Ob.mk ?_)
          all_goals
            simp only [cast_eq,hset (by omega)]
            rw [← hnext (by omega),jd1 hk1,hg (by omega),ek,jTT]
    all_goals
      have e : i = t.length := by omega
      subst e
      rw [jTT];rfl
end Go.Vc

namespace Go.Vc
open Go.Proofs
open Go.Vc.W
set_option maxRecDepth 10000
set_option maxHeartbeats 8000000
instance eTree (p : List UInt8) (t : List jKH) : Fn BB 39 [.str p,.agg [.rd jKA t]] (jTZ p t) (.agg [.rd jKA (kD5 p t)]) := ⟨(eTreeO p t).call,(eTreeO p t).ok⟩
instance hTree37 (p : List UInt8) (t : List jKH) : Fn BB 40 [.str p,.agg [.rd jKA t]] (jTZ p t) (.agg [.rd jKA (kD5 p t)]) := by
 refine Fn.intro (N := 62) [0,1,3,4,5,6,7,8,9,14,34] [(10,[0,0,0,1,0,0,1,1,3,3,3,3])] Tryz.call40 Tryz.func40 rfl rfl (by kernel_rfl) (fun hpre => ?_)
 have hp := hpre
 obtain ⟨h1,h2,h3⟩ := hpre
 repeat' ((conv => whnf);first|(with_reducible first|rfl|exact jKE|exact jKD)|exact True.intro|intro _|refine WA ?_ ?_|refine WF ?_|refine W1 rfl ?_ ?_|refine W2 rfl ?_ ?_|refine W3 rfl ?_ ?_|refine W4 ?_ ?_|refine W5 rfl ?_ ?_|refine W6 ?_ ?_|refine WN ?_|refine X1 (W1 rfl ?_ ?_)|refine X1 (W2 rfl ?_ ?_)|refine X2 (W7 rfl ?_ ?_)|refine X3 (W7 rfl ?_ ?_)|refine X4 (W7 rfl ?_ ?_)|refine X5 (W7 rfl ?_ ?_))
 all_goals (try (conv => whnf))
 all_goals (try first|exact obA|refine Ob.mk ?_)
 refine LoopStop.mk (α := Nat) (fun i => [(6,.int .i64 i)]) (fun i => [(2,.bx none [.own 3]),(3,.own jKA ((t.take i).map (jWQ p)))]) 20 (fun i => i ≤ t.length) (fun i => t.length - i) 0 (Nat.zero_le _) ?_ (fun i hi => ?_)
 ·repeat' ((conv => whnf);first|(with_reducible first|rfl|exact jKE|exact jKD)|exact True.intro|intro _|refine WA ?_ ?_|refine WF ?_|refine W1 rfl ?_ ?_|refine W2 rfl ?_ ?_|refine W3 rfl ?_ ?_|refine W4 ?_ ?_|refine W5 rfl ?_ ?_|refine W6 ?_ ?_|refine WN ?_|refine X1 (W1 rfl ?_ ?_)|refine X1 (W2 rfl ?_ ?_)|refine X2 (W7 rfl ?_ ?_)|refine X3 (W7 rfl ?_ ?_)|refine X4 (W7 rfl ?_ ?_)|refine X5 (W7 rfl ?_ ?_))
  all_goals (try (conv => whnf))
  all_goals (try first|exact obA|refine Ob.mk ?_)
  all_goals (try rfl)
  all_goals trace_state
 ·have hl : ((t.take i).map (jWQ p)).length = i := by simp;omega
  have hat := fun h : i < t.length => jl1 hp h
  repeat' ((conv => whnf);first|(with_reducible first|rfl|exact jKE|exact jKD)|exact True.intro|intro _|refine WA ?_ ?_|refine WF ?_|refine W1 rfl ?_ ?_|refine W2 rfl ?_ ?_|refine W3 rfl ?_ ?_|refine W4 ?_ ?_|refine W5 rfl ?_ ?_|refine W6 ?_ ?_|refine WN ?_|refine X1 (W1 rfl ?_ ?_)|refine X1 (W2 rfl ?_ ?_)|refine X2 (W7 rfl ?_ ?_)|refine X3 (W7 rfl ?_ ?_)|refine X4 (W7 rfl ?_ ?_)|refine X5 (W7 rfl ?_ ?_))
  all_goals (try (conv => whnf))
  all_goals (try first|exact obA|refine Ob.mk ?_)
  all_goals (try simp only [ZA,ZB,ZC,ZD,ZE,ZF,ZG,ZH,ZI,ZJ,ZK,ZL,ZM,ZN,ZO,Int.toNat_natCast,UInt8.ofNat_toNat,cast_eq] at *)
  ·have := (hat (by omega)).2.1
   have e0 : ([] : List jKK).length = 0 := rfl
   simp only [jbT,jXL,jaY,jXE,e0]
   show (0 + (t.getD i jKA.dflt).2.2.2.1.length) * _ ≤ _ ∧ 0 + (t.getD i jKA.dflt).2.2.2.1.length ≤ _
   omega
  ·obtain ⟨q1,q2,q3,q4⟩ := hat (by omega)
   refine LoopStop.mk (α := Nat) (fun k => [(9,.int .i64 k)]) (fun k => [(21,.own jKP (jOI (jh3 p (t.getD i jKA.dflt)) (t.getD i jKA.dflt).2.2.2.1 k))]) 40 (fun k => k ≤ (t.getD i jKA.dflt).2.2.2.1.length ∧ (0 < k → (t.getD i jKA.dflt).1 = 1)) (fun k => (t.getD i jKA.dflt).2.2.2.1.length - k) 0 ⟨Nat.zero_le _,fun h => absurd h (by omega)⟩ ?_ (fun k hk => ?_)
   ·repeat' ((conv => whnf);first|(with_reducible first|rfl|exact jKE|exact jKD)|exact True.intro|intro _|refine WA ?_ ?_|refine WF ?_|refine W1 rfl ?_ ?_|refine W2 rfl ?_ ?_|refine W3 rfl ?_ ?_|refine W4 ?_ ?_|refine W5 rfl ?_ ?_|refine W6 ?_ ?_|refine WN ?_|refine X1 (W1 rfl ?_ ?_)|refine X1 (W2 rfl ?_ ?_)|refine X2 (W7 rfl ?_ ?_)|refine X3 (W7 rfl ?_ ?_)|refine X4 (W7 rfl ?_ ?_)|refine X5 (W7 rfl ?_ ?_))
    all_goals (try (conv => whnf))
    all_goals (try first|exact obA|refine Ob.mk ?_)
    all_goals (try (rw [jc0]))
    all_goals (try rfl)
    all_goals trace_state
   ·obtain ⟨hk,hk1⟩ := hk
    have hl2 := jU1 (jh3 p (t.getD i jKA.dflt)) (t.getD i jKA.dflt).2.2.2.1 k hk
    have hg2 := fun h : k < (t.getD i jKA.dflt).2.2.2.1.length => jUZ (jh3 p (t.getD i jKA.dflt)) (t.getD i jKA.dflt).2.2.2.1 k jKP.dflt h
    have hn2 := fun h : k < (t.getD i jKA.dflt).2.2.2.1.length => jUL (jh3 p (t.getD i jKA.dflt)) (t.getD i jKA.dflt).2.2.2.1 k jKP.dflt h
    repeat' ((conv => whnf);first|(with_reducible first|rfl|exact jKE|exact jKD)|exact True.intro|intro _|refine WA ?_ ?_|refine WF ?_|refine W1 rfl ?_ ?_|refine W2 rfl ?_ ?_|refine W3 rfl ?_ ?_|refine W4 ?_ ?_|refine W5 rfl ?_ ?_|refine W6 ?_ ?_|refine WN ?_|refine X1 (W1 rfl ?_ ?_)|refine X1 (W2 rfl ?_ ?_)|refine X2 (W7 rfl ?_ ?_)|refine X3 (W7 rfl ?_ ?_)|refine X4 (W7 rfl ?_ ?_)|refine X5 (W7 rfl ?_ ?_))
    all_goals (try (conv => whnf))
    all_goals (try first|exact obA|refine Ob.mk ?_)
    all_goals (try simp only [ZA,ZB,ZC,ZD,ZE,ZF,ZG,ZH,ZI,ZJ,ZK,ZL,ZM,ZN,ZO,Int.toNat_natCast,UInt8.ofNat_toNat,cast_eq] at *)
    ·have hh := ‹(k : Int) < _ ∧ _›
     rw [hg2 (by omega)]
     exact ⟨q1,q4 k (by omega),h1⟩
    ·have hh := ‹(k : Int) < _ ∧ _›
     refine Rnd.mk ⟨k + 1,⟨by omega,fun _ => hh.2⟩,by omega,?_⟩
     rw [← hn2 (by omega)]
     repeat' ((conv => whnf);first|(with_reducible first|rfl|exact jKE|exact jKD)|exact True.intro|intro _|refine WA ?_ ?_|refine WF ?_|refine W1 rfl ?_ ?_|refine W2 rfl ?_ ?_|refine W3 rfl ?_ ?_|refine W4 ?_ ?_|refine W5 rfl ?_ ?_|refine W6 ?_ ?_|refine WN ?_|refine X1 (W1 rfl ?_ ?_)|refine X1 (W2 rfl ?_ ?_)|refine X2 (W7 rfl ?_ ?_)|refine X3 (W7 rfl ?_ ?_)|refine X4 (W7 rfl ?_ ?_)|refine X5 (W7 rfl ?_ ?_))
     all_goals (try (conv => whnf))
     all_goals (try first|exact obA|refine Ob.mk ?_)
     all_goals (try (rw [hg2 (by omega)]))
     all_goals (try rfl)
     all_goals trace_state
    ·have e0 : ([] : List Int).length = 0 := rfl
     have e1 : jJ9 Tryz.prog 3 = 8 := rfl
     simp only [e0,e1]
     show (0 + (t.getD i jKA.dflt).2.2.2.2.2.2.length) * _ ≤ _ ∧ 0 + (t.getD i jKA.dflt).2.2.2.2.2.2.length ≤ _
     omega
    all_goals
     have hren : jWQ p (t.getD i jKA.dflt) = ((t.getD i jKA.dflt).1,(t.getD i jKA.dflt).2.1,(t.getD i jKA.dflt).2.2.1,jOI (jh3 p (t.getD i jKA.dflt)) (t.getD i jKA.dflt).2.2.2.1 k,(t.getD i jKA.dflt).2.2.2.2.1,(t.getD i jKA.dflt).2.2.2.2.2.1,(t.getD i jKA.dflt).2.2.2.2.2.2) := by
      by_cases hk0 : (t.getD i jKA.dflt).1 = 1
      ·have hh := ‹(decide ((k : Int) < _) && _) = false›
       have hkk : k = (t.getD i jKA.dflt).2.2.2.1.length := by
        rw [show ((t.getD i jKA.dflt).1 == 1) = true from by rw [hk0];rfl,Bool.and_true] at hh
        have := of_decide_eq_false hh
        omega
       rw [jd1 hk0,hkk,jTT]
      ·have hkk : k = 0 := Nat.eq_zero_of_not_pos fun h => hk0 (hk1 h)
       rw [jiZ hk0,hkk,jc0]
     have htk : (t.take (i + 1)).map (jWQ p) = (t.take i).map (jWQ p) ++ [jWQ p (t.getD i jKA.dflt)] := by rw [take_snoc t i jKA.dflt (by omega),List.map_append];rfl
     refine Rnd.mk ⟨i + 1,by omega,by omega,?_⟩
     rw [htk,hren]
     repeat' ((conv => whnf);first|(with_reducible first|rfl|exact jKE|exact jKD)|exact True.intro|intro _|refine WA ?_ ?_|refine WF ?_|refine W1 rfl ?_ ?_|refine W2 rfl ?_ ?_|refine W3 rfl ?_ ?_|refine W4 ?_ ?_|refine W5 rfl ?_ ?_|refine W6 ?_ ?_|refine WN ?_|refine X1 (W1 rfl ?_ ?_)|refine X1 (W2 rfl ?_ ?_)|refine X2 (W7 rfl ?_ ?_)|refine X3 (W7 rfl ?_ ?_)|refine X4 (W7 rfl ?_ ?_)|refine X5 (W7 rfl ?_ ?_))
     all_goals (try (conv => whnf))
     all_goals (try first|exact obA|refine Ob.mk ?_)
     all_goals (try rfl)
     all_goals trace_state
  all_goals
   have e : i = t.length := by omega
   subst e
   rw [List.take_length];rfl
end Go.Vc

namespace Go.Vc
open Go.Proofs
open Go.Vc.W
set_option maxRecDepth 10000
set_option maxHeartbeats 4000000
theorem Fn.wk {B : Base} {f : FuncId} {args args' : List SV} {pre : Prop} {res : SV} (F : Fn B f args pre res) (h : ∀ r β vs,jKS r β args' vs → jKS r β args vs) : Fn B f args' pre res :=
 ⟨F.call,fun hp r β w vs hG m hl => F.ok hp r β w vs hG m (h r β vs hl)⟩
theorem jlI {r : Mem} {β : jKW} {v : Value} {a b c e f : SV} (h : Rel r β (.agg [a,b,c,.nils,e,f,.nils]) v) : Rel r β (.agg [a,b,c,.rd jKP [],e,f,.rd jKG []]) v := by
 cases h with
 | agg hl h =>
  refine .agg hl fun i sv v h1 h2 => ?_
  match i,h1 with
  | 0,h1 => exact h 0 _ _ h1 h2
  | 1,h1 => exact h 1 _ _ h1 h2
  | 2,h1 => exact h 2 _ _ h1 h2
  | 3,h1 => cases h1;exact jiP (h 3 _ _ rfl h2)
  | 4,h1 => exact h 4 _ _ h1 h2
  | 5,h1 => exact h 5 _ _ h1 h2
  | 6,h1 => cases h1;exact jiP (h 6 _ _ rfl h2)
  | n + 7,h1 => cases h1
theorem jmP {r : Mem} {β : jKW} {xs ys : List SV} (hl : xs.length = ys.length) (h : ∀ (i : Nat) (x y : SV),xs[i]? = some x → ys[i]? = some y → ∀ v,Rel r β x v → Rel r β y v) (vs : List Value) (q : jKS r β xs vs) : jKS r β ys vs := by
 refine ⟨by rw [q.1,hl],fun i y v h1 h2 => ?_⟩
 have hi : i < ys.length := by
  rcases Nat.lt_or_ge i ys.length with h | h
  ·exact h
  ·rw [List.getElem?_eq_none h] at h1;cases h1
 exact h i (xs[i]'(by omega)) y (List.getElem?_eq_getElem _) h1 v (q.2 i _ v (List.getElem?_eq_getElem _) h2)
end Go.Vc

namespace Go.Vc
open Go.Proofs
set_option maxRecDepth 10000
instance f40 (k s : Int) (nm : List UInt8) (at_ : List jKK) (d : List UInt8) (up : Int) (kids : List Int) (k' s' : Int) (nm' : List UInt8) (at_' : List jKK) (d' : List UInt8) (up' : Int) (kids' : List Int) :
  Fn BB 82 [.agg [.int .i64 k,.int .i64 s,.str nm,.rd jKP at_,.str d,.int .i64 up,.rd jKG kids],.agg [.int .i64 k',.int .i64 s',.str nm',.rd jKP at_',.str d',.int .i64 up',.rd jKG kids']]
   True (.bool (eqB (α := jKH) (k,s,nm,at_,d,up,kids) (k',s',nm',at_',d',up',kids'))) := by
 refine Fn.intro (N := 71) [0,1,2,3,4,5,47,52,65] [(6,[0,1,0,1,1,0,1,0,1,1,3])] Tryz.call82 Tryz.func82 rfl rfl (by kernel_rfl) (fun hpre => ?_)
 repeat' ((conv => whnf);first|(with_reducible first|rfl|exact jKE|exact jKD)|exact True.intro|intro _|refine WA ?_ ?_|refine WF ?_|refine W1 rfl ?_ ?_|refine W2 rfl ?_ ?_|refine W3 rfl ?_ ?_|refine W4 ?_ ?_|refine W5 rfl ?_ ?_|refine W6 ?_ ?_|refine WN ?_|refine X1 (W1 rfl ?_ ?_)|refine X1 (W2 rfl ?_ ?_)|refine X2 (W7 rfl ?_ ?_)|refine X3 (W7 rfl ?_ ?_)|refine X4 (W7 rfl ?_ ?_)|refine X5 (W7 rfl ?_ ?_))
 all_goals (try (conv => whnf))
 all_goals (try first|exact obA|refine Ob.mk ?_)
 ·rename_i h
  refine jPN fun e => ?_
  simp only [Prod.mk.injEq] at e
  obtain ⟨rfl,rfl,rfl,rfl,rfl,rfl,rfl⟩ := e
  simp at h
 ·rename_i h
  simp only [Bool.or_eq_false_iff,bne_eq_false_iff_eq,Bool.not_eq_false',beq_iff_eq] at h
  obtain ⟨⟨⟨⟨⟨rfl,rfl⟩,rfl⟩,rfl⟩,rfl⟩,hl⟩ := h
  refine LoopStop.mk (α := Nat) (fun i => [(5,.int .i64 i)]) (fun _ => []) 20 (fun i => i ≤ kids.length ∧ kids.take i = kids'.take i) (fun i => kids.length - i) 0 (by simp) ?_ (fun i hi => ?_)
  ·repeat' ((conv => whnf);first|(with_reducible first|rfl|exact jKE|exact jKD)|exact True.intro|intro _|refine WA ?_ ?_|refine WF ?_|refine W1 rfl ?_ ?_|refine W2 rfl ?_ ?_|refine W3 rfl ?_ ?_|refine W4 ?_ ?_|refine W5 rfl ?_ ?_|refine W6 ?_ ?_|refine WN ?_|refine X1 (W1 rfl ?_ ?_)|refine X1 (W2 rfl ?_ ?_)|refine X2 (W7 rfl ?_ ?_)|refine X3 (W7 rfl ?_ ?_)|refine X4 (W7 rfl ?_ ?_)|refine X5 (W7 rfl ?_ ?_))
   all_goals (try (conv => whnf))
   all_goals (try rfl)
  ·obtain ⟨hi,ha⟩ := hi
   repeat' ((conv => whnf);first|(with_reducible first|rfl|exact jKE|exact jKD)|exact True.intro|intro _|refine WA ?_ ?_|refine WF ?_|refine W1 rfl ?_ ?_|refine W2 rfl ?_ ?_|refine W3 rfl ?_ ?_|refine W4 ?_ ?_|refine W5 rfl ?_ ?_|refine W6 ?_ ?_|refine WN ?_|refine X1 (W1 rfl ?_ ?_)|refine X1 (W2 rfl ?_ ?_)|refine X2 (W7 rfl ?_ ?_)|refine X3 (W7 rfl ?_ ?_)|refine X4 (W7 rfl ?_ ?_)|refine X5 (W7 rfl ?_ ?_))
   all_goals (try (conv => whnf))
   all_goals (try first|exact obA|refine Ob.mk ?_)
   all_goals (simp only [decide_eq_true_eq,decide_eq_false_iff_not,bne_eq_false_iff_eq,bne_iff_ne,ne_eq,Bool.not_eq_true',Bool.not_eq_false',Bool.and_true] at *)
   ·rename_i h
    refine jPN fun e => h ?_
    simp only [Prod.mk.injEq] at e
    rw [e.2.2.2.2.2.2]
   ·rename_i h
    have hil : i < kids.length := by omega
    refine Rnd.mk ⟨i + 1,?_,?_,?_⟩
    ·exact ⟨by omega,jPC (d := jKG.dflt) hil (by omega) ha h⟩
    ·omega
    ·all_goals exact vcA
   ·have hk : i = kids.length := by omega
    subst hk
    rw [List.take_length,List.take_of_length_le (by omega)] at ha
    subst ha
    by_cases he : at_ = at_'
    ·subst he;rw [decide_eq_true rfl];exact jd7 rfl
    ·rw [decide_eq_false he];refine jPN fun e => he ?_
     simp only [Prod.mk.injEq] at e
     exact e.2.2.2.1
instance f16 (a b : List jKH) : Fn BB 21 [.agg [.rd jKA a],.agg [.rd jKA b]] True (.bool (eqB a b)) := by
 refine Fn.intro (N := 32) [0,1,2,3,4,5,12,17,31] [(6,[0,1,0,1,1,0,1,0,1,1,3,3])] Tryz.call21 Tryz.func21 rfl rfl (by kernel_rfl) (fun hpre => ?_)
 repeat' ((conv => whnf);first|(with_reducible first|rfl|exact jKE|exact jKD)|exact True.intro|intro _|refine WA ?_ ?_|refine WF ?_|refine W1 rfl ?_ ?_|refine W2 rfl ?_ ?_|refine W3 rfl ?_ ?_|refine W4 ?_ ?_|refine W5 rfl ?_ ?_|refine W6 ?_ ?_|refine WN ?_|refine X1 (W1 rfl ?_ ?_)|refine X1 (W2 rfl ?_ ?_)|refine X2 (W7 rfl ?_ ?_)|refine X3 (W7 rfl ?_ ?_)|refine X4 (W7 rfl ?_ ?_)|refine X5 (W7 rfl ?_ ?_))
 all_goals (try (conv => whnf))
 ·refine jPN fun e => ?_
  subst e;simp_all
 ·refine LoopStop.mk (α := Nat) (fun i => [(5,.int .i64 i)]) (fun _ => []) 20 (fun i => i ≤ a.length ∧ a.take i = b.take i) (fun i => a.length - i) 0 (by simp) ?_ (fun i hi => ?_)
  ·repeat' ((conv => whnf);first|(with_reducible first|rfl|exact jKE|exact jKD)|exact True.intro|intro _|refine WA ?_ ?_|refine WF ?_|refine W1 rfl ?_ ?_|refine W2 rfl ?_ ?_|refine W3 rfl ?_ ?_|refine W4 ?_ ?_|refine W5 rfl ?_ ?_|refine W6 ?_ ?_|refine WN ?_|refine X1 (W1 rfl ?_ ?_)|refine X1 (W2 rfl ?_ ?_)|refine X2 (W7 rfl ?_ ?_)|refine X3 (W7 rfl ?_ ?_)|refine X4 (W7 rfl ?_ ?_)|refine X5 (W7 rfl ?_ ?_))
   all_goals (try (conv => whnf))
   all_goals (try rfl)
  ·obtain ⟨hi,ha⟩ := hi
   repeat' ((conv => whnf);first|(with_reducible first|rfl|exact jKE|exact jKD)|exact True.intro|intro _|refine WA ?_ ?_|refine WF ?_|refine W1 rfl ?_ ?_|refine W2 rfl ?_ ?_|refine W3 rfl ?_ ?_|refine W4 ?_ ?_|refine W5 rfl ?_ ?_|refine W6 ?_ ?_|refine WN ?_|refine X1 (W1 rfl ?_ ?_)|refine X1 (W2 rfl ?_ ?_)|refine X2 (W7 rfl ?_ ?_)|refine X3 (W7 rfl ?_ ?_)|refine X4 (W7 rfl ?_ ?_)|refine X5 (W7 rfl ?_ ?_))
   all_goals (try (conv => whnf))
   all_goals (try first|exact obA|refine Ob.mk ?_)
   all_goals (simp only [decide_eq_true_eq,decide_eq_false_iff_not,bne_eq_false_iff_eq,bne_iff_ne,ne_eq,Bool.not_eq_true',Bool.not_eq_false',Bool.and_true] at *)
   ·rename_i h
    have h := jsZ.1 h
    refine jPN fun e => h ?_
    rw [e]
   ·rename_i h
    have h := jh8.1 h
    have hil : i < a.length := by omega
    refine Rnd.mk ⟨i + 1,?_,?_,?_⟩
    ·exact ⟨by omega,jPC (d := jKA.dflt) hil (by omega) ha h⟩
    ·omega
    ·all_goals exact vcA
   ·have hk : i = a.length := by omega
    subst hk
    rw [List.take_length,List.take_of_length_le (by omega)] at ha
    exact jd7 ha
end Go.Vc

namespace Go.Vc
open Go.Proofs
set_option maxRecDepth 10000
def jtC (l : List Int) : Nat → Nat
 | 0 => 0
 | k + 1 => bif l.getD k 0 == -1 then k + 1 else jtC l k
def kE9 (l : List Int) : Nat := jtC l l.length
instance a43 (l : List Int) : Fn BB 339 [.rd jKG l] True (.int .i64 (kE9 l)) := by
 refine Fn.intro (N := 18) [0,2,3,8,15] [] Tryz.call339 Tryz.func339 rfl rfl (by kernel_rfl) (fun hpre => ?_)
 repeat' ((conv => whnf);first|(with_reducible first|rfl|exact jKE|exact jKD)|exact True.intro|intro _|refine WA ?_ ?_|refine WF ?_|refine W1 rfl ?_ ?_|refine W2 rfl ?_ ?_|refine W3 rfl ?_ ?_|refine W4 ?_ ?_|refine W5 rfl ?_ ?_|refine W6 ?_ ?_|refine WN ?_|refine X1 (W1 rfl ?_ ?_)|refine X1 (W2 rfl ?_ ?_)|refine X2 (W7 rfl ?_ ?_)|refine X3 (W7 rfl ?_ ?_)|refine X4 (W7 rfl ?_ ?_)|refine X5 (W7 rfl ?_ ?_))
 all_goals (try (conv => whnf))
 all_goals (try first|exact obA|refine Ob.mk ?_)
 refine LoopStop.mk (α := Nat) (fun i => [(3,.int .i64 ((l.length : Int) - 1 - i))]) (fun i => []) 20 (fun i => i ≤ l.length ∧ kE9 l = jtC l (l.length - i)) (fun i => l.length - i) 0 (by simp [kE9]) ?_ (fun i hC => ?_)
 ·all_goals exact vcA
 ·obtain ⟨hi,hC⟩ := hC
  repeat' ((conv => whnf);first|(with_reducible first|rfl|exact jKE|exact jKD)|exact True.intro|intro _|refine WA ?_ ?_|refine WF ?_|refine W1 rfl ?_ ?_|refine W2 rfl ?_ ?_|refine W3 rfl ?_ ?_|refine W4 ?_ ?_|refine W5 rfl ?_ ?_|refine W6 ?_ ?_|refine WN ?_|refine X1 (W1 rfl ?_ ?_)|refine X1 (W2 rfl ?_ ?_)|refine X2 (W7 rfl ?_ ?_)|refine X3 (W7 rfl ?_ ?_)|refine X4 (W7 rfl ?_ ?_)|refine X5 (W7 rfl ?_ ?_))
  all_goals (try (conv => whnf))
  all_goals (try first|exact obA|refine Ob.mk ?_)
  ·rename_i hp h
   have hp : (l.length : Int) - 1 - i ≥ 0 := by simpa using hp
   obtain ⟨k,hk⟩ : ∃ k,l.length - i = k + 1 := ⟨l.length - i - 1,by omega⟩
   rw [hk,jtC] at hC
   have h : (l.getD k 0 == -1) = true := by rw [← h,show ((l.length : Int) - 1 - i).toNat = k by omega];rfl
   rw [h,cond_true] at hC
   rw [hC];omega
  ·rename_i hp h
   have hp : (l.length : Int) - 1 - i ≥ 0 := by simpa using hp
   obtain ⟨k,hk⟩ : ∃ k,l.length - i = k + 1 := ⟨l.length - i - 1,by omega⟩
   rw [hk,jtC] at hC
   have h : (l.getD k 0 == -1) = false := by rw [← h,show ((l.length : Int) - 1 - i).toNat = k by omega];rfl
   rw [h,cond_false] at hC
   refine Rnd.mk ⟨i + 1,⟨by omega,by rw [hC];congr 1;omega⟩,by omega,?_,?_,?_⟩
   all_goals exact vcA
  ·(try simp only [ZA,ZB,ZC,ZD,ZE,ZF,ZG,ZH,ZI,ZJ,ZK,ZL,ZM,ZN,ZO,Int.toNat_natCast,UInt8.ofNat_toNat,cast_eq] at *)
   rw [hC,show l.length - i = 0 by omega];rfl
instance a46 (l : List jKH) (i : Int) : Fn BB 341 [.agg [.rd jKA l],.int .i64 i] True (.bool (isT l i)) := by
 refine Fn.intro (N := 14) [0,1,2,4] [] Tryz.call341 Tryz.func341 rfl rfl (by kernel_rfl) (fun hpre => ?_)
 repeat' ((conv => whnf);first|(with_reducible first|rfl|exact jKE|exact jKD)|exact True.intro|intro _|refine WA ?_ ?_|refine WF ?_|refine W1 rfl ?_ ?_|refine W2 rfl ?_ ?_|refine W3 rfl ?_ ?_|refine W4 ?_ ?_|refine W5 rfl ?_ ?_|refine W6 ?_ ?_|refine WN ?_|refine X1 (W1 rfl ?_ ?_)|refine X1 (W2 rfl ?_ ?_)|refine X2 (W7 rfl ?_ ?_)|refine X3 (W7 rfl ?_ ?_)|refine X4 (W7 rfl ?_ ?_)|refine X5 (W7 rfl ?_ ?_))
 all_goals (try (conv => whnf))
 all_goals (try first|exact obA|refine Ob.mk ?_)
 all_goals (simp_all [isT];done)
end Go.Vc

namespace Go.Vc.W
open Go.Proofs
set_option maxRecDepth 10000
def jmM : List UInt8 := [97,32,98,32,98,105,103,32,99,111,100,101,32,101,109,32,102,111,110,116,32,105,32,110,111,98,114,32,115,32,115,109,97,108,108,32,115,116,114,105,107,101,32,115,116,114,111,110,103,32,116,116,32,117]
def kGG : List UInt8 := [104,49,32,104,50,32,104,51,32,104,52,32,104,53,32,104,54]
def cImpl : List UInt8 := [100,100,32,100,116,32,108,105,32,111,112,116,103,114,111,117,112,32,111,112,116,105,111,110,32,112,32,114,98,32,114,112,32,114,116,32,114,116,99]
def jsG : List UInt8 := [97,100,100,114,101,115,115,32,97,114,116,105,99,108,101,32,97,115,105,100,101,32,98,108,111,99,107,113,117,111,116,101,32,99,101,110,116,101,114,32,100,101,116,97,105,108,115,32,100,105,97,108,111,103,32,100,105,114,32,100,105,118,32,100,108,32,102,105,101,108,100,115,101,116,32,102,105,103,99,97,112,116,105,111,110,32,102,105,103,117,114,101,32,102,111,111,116,101,114,32,104,101,97,100,101,114,32,104,103,114,111,117,112,32,108,105,115,116,105,110,103,32,109,97,105,110,32,109,101,110,117,32,110,97,118,32,111,108,32,112,32,112,114,101,32,115,101,97,114,99,104,32,115,101,99,116,105,111,110,32,115,117,109,109,97,114,121,32,117,108]
def cRc : List UInt8 := [116,101,120,116,97,114,101,97,32,116,105,116,108,101]
def kGV : List UInt8 := [105,102,114,97,109,101,32,110,111,101,109,98,101,100,32,110,111,102,114,97,109,101,115,32,115,116,121,108,101,32,120,109,112]
def jhE : List UInt8 := [115,99,114,105,112,116]
def jlQ : List UInt8 := [112,108,97,105,110,116,101,120,116]
def has (c nm : List UInt8) : Bool := (spl c).contains nm
def kHtml (sp : Int) (nm c : List UInt8) : Bool := sp == 0 && has c nm
def jmH (nm : List UInt8) : Int := if has cRc nm then 1 else if has kGV nm then 2 else if nm = jhE then 3 else if nm = jlQ then 4 else 0
instance f28 (sp : Int) (nm c : List UInt8) : Fn BB 171 [.int .i64 sp,.str nm,.str c] (nm.length ≤ 60 ∧ c.length ≤ 100000) (.bool (kHtml sp nm c)) := by
 refine Fn.intro (N := 14) [0,1,2,6] [] Tryz.call171 Tryz.func171 rfl rfl (by kernel_rfl) (fun hpre => ?_)
 all_goals exact vcA
end Go.Vc.W

namespace Go.Vc.W
open Go.Proofs
set_option maxRecDepth 10000
instance f9 (sp : Int) (nm : List UInt8) : Fn BB 229 [.int .i64 sp,.str nm] (nm.length ≤ 60) (.bool (kHtml sp nm jmM)) := by
 refine Fn.intro (N := 8) [0,1,4] [] Tryz.call229 Tryz.func229 rfl rfl (by kernel_rfl) (fun hpre => ?_)
 all_goals exact vcA
instance f13 (sp : Int) (nm : List UInt8) : Fn BB 195 [.int .i64 sp,.str nm] (nm.length ≤ 60) (.bool (kHtml sp nm kGG)) := by
 refine Fn.intro (N := 8) [0,1,4] [] Tryz.call195 Tryz.func195 rfl rfl (by kernel_rfl) (fun hpre => ?_)
 all_goals exact vcA
instance f15 (sp : Int) (nm : List UInt8) : Fn BB 351 [.int .i64 sp,.str nm] (nm.length ≤ 60) (.bool (kHtml sp nm cImpl)) := by
 refine Fn.intro (N := 8) [0,1,4] [] Tryz.call351 Tryz.func351 rfl rfl (by kernel_rfl) (fun hpre => ?_)
 all_goals exact vcA
instance f17 (nm : List UInt8) : Fn BB 196 [.str nm] (nm.length ≤ 60) (.bool (has jsG nm)) := by
 refine Fn.intro (N := 5) [0,2] [] Tryz.call196 Tryz.func196 rfl rfl (by kernel_rfl) (fun hpre => ?_)
 all_goals exact vcA
instance f25 (nm : List UInt8) : Fn BB 153 [.str nm] (nm.length ≤ 60) (.int .i64 (jmH nm)) := by
 refine Fn.intro (N := 11) [0,2,4,6,8,10] [] Tryz.call153 Tryz.func153 rfl rfl (by kernel_rfl) (fun hpre => ?_)
 repeat' ((conv => whnf);first|(with_reducible first|rfl|exact jKE|exact jKD)|exact True.intro|intro _|refine WA ?_ ?_|refine WF ?_|refine W1 rfl ?_ ?_|refine W2 rfl ?_ ?_|refine W3 rfl ?_ ?_|refine W4 ?_ ?_|refine W5 rfl ?_ ?_|refine W6 ?_ ?_|refine WN ?_|refine X1 (W1 rfl ?_ ?_)|refine X1 (W2 rfl ?_ ?_)|refine X2 (W7 rfl ?_ ?_)|refine X3 (W7 rfl ?_ ?_)|refine X4 (W7 rfl ?_ ?_)|refine X5 (W7 rfl ?_ ?_))
 all_goals (try (conv => whnf))
 all_goals (try first|exact obA|refine Ob.mk ?_)
 all_goals (unfold jmH has cRc kGV;simp_all [jhE,jlQ];done)
end Go.Vc.W

namespace Go.Vc
open Go.Proofs
set_option maxRecDepth 10000
def juO : jKH := ((1 : Int),(0 : Int),([] : List UInt8),([] : List jKK),([] : List UInt8),(0 : Int),([] : List Int))
def jPS (l : List jKH) (i : Int) : jKH := bif isT l i then l.getD i.toNat jKA.dflt else juO
theorem jdM {l : List jKH} {i : Int} (h : isT l i = true) : jPS l i = l.getD i.toNat jKA.dflt := by rw [jPS,h];rfl
theorem jZL {l : List jKH} {i : Int} (h : isT l i = false) : jPS l i = juO := by rw [jPS,h];rfl
instance s103 (l : List jKH) (i : Int) : Fn BB 314 [.agg [.rd jKA l],.int .i64 i] True (.agg (jKA.enc (jPS l i))) := by
 cases h : isT l i with
 | true =>
  rw [jdM h]
  refine Fn.intro (N := 20) [0,1,2,4,13] [] Tryz.call314 Tryz.func314 rfl rfl (by kernel_rfl) (fun hpre => ?_)
  repeat' ((conv => whnf);first|(with_reducible first|rfl|exact jKE|exact jKD)|exact True.intro|intro _|refine WA ?_ ?_|refine WF ?_|refine W1 rfl ?_ ?_|refine W2 rfl ?_ ?_|refine W3 rfl ?_ ?_|refine W4 ?_ ?_|refine W5 rfl ?_ ?_|refine W6 ?_ ?_|refine WN ?_|refine X1 (W1 rfl ?_ ?_)|refine X1 (W2 rfl ?_ ?_)|refine X2 (W7 rfl ?_ ?_)|refine X3 (W7 rfl ?_ ?_)|refine X4 (W7 rfl ?_ ?_)|refine X5 (W7 rfl ?_ ?_))
  all_goals (try (conv => whnf))
  all_goals (try first|exact obA|refine Ob.mk ?_)
  all_goals (try (first | (exact rfl) | (rename_i hx;exact jKD hx) | (rename_i hx;exact jKE hx)))
  all_goals (first | (simp_all [isT];done) | (exfalso;simp_all [isT];omega))
 | false =>
  rw [jZL h]
  refine Fn.intro (N := 20) [0,1,2,4,13] [] Tryz.call314 Tryz.func314 rfl rfl (by kernel_rfl) (fun hpre => ?_)
  repeat' ((conv => whnf);first|(with_reducible first|rfl|exact jKE|exact jKD)|exact True.intro|intro _|refine WA ?_ ?_|refine WF ?_|refine W1 rfl ?_ ?_|refine W2 rfl ?_ ?_|refine W3 rfl ?_ ?_|refine W4 ?_ ?_|refine W5 rfl ?_ ?_|refine W6 ?_ ?_|refine WN ?_|refine X1 (W1 rfl ?_ ?_)|refine X1 (W2 rfl ?_ ?_)|refine X2 (W7 rfl ?_ ?_)|refine X3 (W7 rfl ?_ ?_)|refine X4 (W7 rfl ?_ ?_)|refine X5 (W7 rfl ?_ ?_))
  all_goals (try (conv => whnf))
  all_goals (try first|exact obA|refine Ob.mk ?_)
  all_goals (try (first | (exact rfl) | (rename_i hx;exact jKD hx) | (rename_i hx;exact jKE hx)))
  all_goals (exfalso;rename_i hx;simp only [isT] at h;(try simp only [ZA,ZB,ZC,ZD,ZE,ZF,ZG,ZH,ZI,ZJ,ZK,ZL,ZM,ZN,ZO,Bool.and_eq_false_iff,Bool.or_eq_false_iff,ge_iff_le,gt_iff_lt,Int.toNat_natCast,UInt8.ofNat_toNat,cast_eq] at *);omega)
def jl8 (l : List jKH) : Prop := ∀ i : Int,(jPS l i).2.2.1.length ≤ 60
def isE (l : List jKH) (i : Int) (nm : List UInt8) : Bool := isT l i && ((jPS l i).1 == 1 && ((jPS l i).2.1 == 0 && (W.spl nm).contains (jPS l i).2.2.1))
instance s49 (l : List jKH) (i : Int) (nm : List UInt8) : Fn BB 258 [.agg [.rd jKA l],.int .i64 i,.str nm] (nm.length ≤ 100000) (.bool (isE l i nm)) := by
 refine Fn.intro (N := 36) [0,1,2,3,6,7] [] Tryz.call258 Tryz.func258 rfl rfl (by kernel_rfl) (fun hpre => ?_)
 repeat' ((conv => whnf);first|(with_reducible first|rfl|exact jKE|exact jKD)|exact True.intro|intro _|refine WA ?_ ?_|refine WF ?_|refine W1 rfl ?_ ?_|refine W2 rfl ?_ ?_|refine W3 rfl ?_ ?_|refine W4 ?_ ?_|refine W5 rfl ?_ ?_|refine W6 ?_ ?_|refine WN ?_|refine X1 (W1 rfl ?_ ?_)|refine X1 (W2 rfl ?_ ?_)|refine X2 (W7 rfl ?_ ?_)|refine X3 (W7 rfl ?_ ?_)|refine X4 (W7 rfl ?_ ?_)|refine X5 (W7 rfl ?_ ?_))
 all_goals (try (conv => whnf))
 all_goals (try first|exact obA|refine Ob.mk ?_)
 all_goals (simp only [isE,isT,ge_iff_le,Bool.and_assoc])
end Go.Vc

namespace Go.Vc
open Go.Proofs
set_option maxRecDepth 10000
def kGH (l : List Int) : Int := bif decide (l.length = 0) then -1 else l.getD (l.length - 1) 0
instance s47 (l : List Int) : Fn BB 183 [.rd jKG l] True (.int .i64 (kGH l)) := by
  refine Fn.intro (N := 12) [0,2,5] [] Tryz.call183 Tryz.func183 rfl rfl (by kernel_rfl) (fun hpre => ?_)
  repeat' ((conv => whnf);first|(with_reducible first|rfl|exact jKE|exact jKD)|exact True.intro|intro _|refine WA ?_ ?_|refine WF ?_|refine W1 rfl ?_ ?_|refine W2 rfl ?_ ?_|refine W3 rfl ?_ ?_|refine W4 ?_ ?_|refine W5 rfl ?_ ?_|refine W6 ?_ ?_|refine WN ?_|refine X1 (W1 rfl ?_ ?_)|refine X1 (W2 rfl ?_ ?_)|refine X2 (W7 rfl ?_ ?_)|refine X3 (W7 rfl ?_ ?_)|refine X4 (W7 rfl ?_ ?_)|refine X5 (W7 rfl ?_ ?_))
  all_goals (try (conv => whnf))
  all_goals (try first|exact obA|refine Ob.mk ?_)
  · rename_i h
    have : l.length = 0 := by simpa using h
    rw [kGH,decide_eq_true this];rfl
  · have : ¬ l.length = 0 := by
      have h : (((l.length : Nat) : Int) == 0) = false := ‹_›
      simpa using h
    rw [kGH,decide_eq_false this,cond_false];congr 1;omega
end Go.Vc

namespace Go.Vc
open Go.Proofs
set_option maxRecDepth 10000
def jZF (t : List jKH) (but : List UInt8) (x : Int) : Bool := (jPS t x).1 == 1 && (W.kHtml (jPS t x).2.1 (jPS t x).2.2.1 W.cImpl && !(W.spl but).contains (jPS t x).2.2.1)
def jf1 (q : Int → Bool) (l : List Int) : Nat → Nat
 | 0 => 0
 | 1 => 1
 | k + 2 => bif q (l.getD (k + 1) 0) then jf1 q l (k + 1) else k + 2
def jjC (p : Int → Bool) (l : List Int) : Nat → Nat
 | 0 => 0
 | 1 => 1
 | k + 2 => bif p (l.getD (k + 1) 0) then k + 1 else jjC p l (k + 1)
theorem jZ9 {q : Int → Bool} {l : List Int} {n : Nat} (h : 1 < n) : jf1 q l n = bif q (l.getD (n - 1) 0) then jf1 q l (n - 1) else n := by
 obtain ⟨k,rfl⟩ : ∃ k,n = k + 2 := ⟨n - 2,by omega⟩
 rw [jf1];rfl
theorem jZD {q : Int → Bool} {l : List Int} {n : Nat} (h : 1 < n) : jjC q l n = bif q (l.getD (n - 1) 0) then n - 1 else jjC q l (n - 1) := by
 obtain ⟨k,rfl⟩ : ∃ k,n = k + 2 := ⟨n - 2,by omega⟩
 rw [jjC];rfl
theorem jjJ {q : Int → Bool} {l : List Int} {n : Nat} (h : ¬ 1 < n) : jf1 q l n = n := by
 match n,h with
 | 0,_ => rfl
 | 1,_ => rfl
 | k + 2,h => omega
theorem jk1 {q : Int → Bool} {l : List Int} {n : Nat} (h : ¬ 1 < n) : jjC q l n = n := by
 match n,h with
 | 0,_ => rfl
 | 1,_ => rfl
 | k + 2,h => omega
theorem jnA {q : Int → Bool} {l : List Int} {n : Nat} (h : 1 < n) (hq : q (l.getD (n - 1) 0) = true) : jf1 q l n = jf1 q l (n - 1) := by rw [jZ9 h,hq];rfl
theorem jhH {q : Int → Bool} {l : List Int} {n : Nat} (h : 1 < n) (hq : q (l.getD (n - 1) 0) = false) : jf1 q l n = n := by rw [jZ9 h,hq];rfl
end Go.Vc

namespace Go.Vc
open Go.Proofs
set_option maxRecDepth 10000
theorem jdR {l : List Int} {n : Nat} (h : n ≤ l.length) : (l.take n).length = n := by simp;omega
theorem jX6 {l : List Int} {n k : Nat} (h : k < n) : (l.take n).getD k 0 = l.getD k 0 := by
 simp [List.getD,List.getElem?_take,h]
theorem jYH {l : List Int} {n : Nat} : (l.take n).take (n - 1) = l.take (n - 1) := by rw [List.take_take];congr 1;omega
theorem jZY (t : List jKH) (but : List UInt8) (x : Int) : (!jZF t but x) = ((jPS t x).1 != 1 || !W.kHtml (jPS t x).2.1 (jPS t x).2.2.1 W.cImpl || (W.spl but).contains (jPS t x).2.2.1) := by
 simp only [jZF,Bool.not_and,Bool.not_not,bne,Bool.or_assoc]
theorem jlB {q : Int → Bool} {l : List Int} {n : Nat} (h : 1 < n) (hq : q (l.getD (n - 1) 0) = true) : jjC q l n = n - 1 := by rw [jZD h,hq];rfl
theorem jnF {q : Int → Bool} {l : List Int} {n : Nat} (h : 1 < n) (hq : q (l.getD (n - 1) 0) = false) : jjC q l n = jjC q l (n - 1) := by rw [jZD h,hq];rfl
end Go.Vc

namespace Go.Vc
open Go.Proofs
set_option maxRecDepth 10000
def okI (n : Nat) (i : Int) : Prop := 0 ≤ i ∧ i < n
structure Ti (n : Nat) (U : Int → Int) (K : Int → List Int) : Prop where
 pos : 0 < n
 root : U 0 = -1
 kid : ∀ i,okI n i → ∀ k ∈ K i,okI n k ∧ U k = i
 up : ∀ i,okI n i → U i = -1 ∨ (okI n (U i) ∧ (K (U i)).count i = 1)
 dep : ∃ d : Int → Nat,∀ i,okI n i → U i ≠ -1 → d (U i) < d i
inductive Ds (U : Int → Int) (r : Int) : Int → Prop
 | here : Ds U r r
 | up {x : Int} : U x ≠ -1 → Ds U r (U x) → Ds U r x
theorem jYP {l : List Int} {p q : Int → Bool} (h : ∀ x ∈ l,p x = true → q x = true) (y : Int) (hy : y ∈ l) (hp : p y = false) (hq : q y = true) : l.countP p < l.countP q := by
 induction l with
 | nil => cases hy
 | cons a l ih =>
  have hle : l.countP p ≤ l.countP q := List.countP_mono_left fun x hx => h x (List.mem_cons_of_mem _ hx)
  rw [List.countP_cons,List.countP_cons]
  rcases List.mem_cons.1 hy with rfl | hy
  ·rw [hp,hq];simp;omega
  ·have := ih (fun x hx => h x (List.mem_cons_of_mem _ hx)) hy
   have ha := h a List.mem_cons_self
   cases hpa : p a
   ·simp;omega
   ·rw [ha hpa];simp;omega
theorem Ti.rank {n : Nat} {U : Int → Int} {K : Int → List Int} (h : Ti n U K) : ∃ d : Int → Nat,(∀ i,okI n i → d i < n) ∧ ∀ i,okI n i → U i ≠ -1 → d (U i) < d i := by
 obtain ⟨d,hd⟩ := h.dep
 let L : List Int := (List.range n).map fun (k : Nat) => (k : Int)
 have hL : ∀ i,okI n i → i ∈ L := fun i hi => List.mem_map.2 ⟨i.toNat,List.mem_range.2 (by have := hi.2;have := hi.1;omega),by have := hi.1;omega⟩
 refine ⟨fun i => L.countP fun y => decide (d y < d i),fun i hi => ?_,fun i hi hu => ?_⟩
 ·have h1 : L.countP (fun y => decide (d y < d i)) < L.countP (fun _ => true) := jYP (fun _ _ _ => rfl) i (hL i hi) (decide_eq_false (Nat.lt_irrefl _)) rfl
  have h2 : L.countP (fun _ => true) = n := by simp [L]
  show L.countP (fun y => decide (d y < d i)) < n
  omega
 ·have hd := hd i hi hu
  rcases h.up i hi with q | q
  ·exact absurd q hu
  ·exact jYP (fun x _ hx => decide_eq_true (Nat.lt_trans (of_decide_eq_true hx) hd)) (U i) (hL _ q.1) (decide_eq_false (Nat.lt_irrefl _)) (decide_eq_true hd)
theorem Ds.le {n : Nat} {U : Int → Int} {K : Int → List Int} (h : Ti n U K) {d : Int → Nat} (hd : ∀ i,okI n i → U i ≠ -1 → d (U i) < d i) {r x : Int} (s : Ds U r x) : okI n x → d r ≤ d x := by
 induction s with
 | here => intro _;exact Nat.le_refl _
 | @up x hu _ ih =>
  intro hx
  rcases h.up x hx with q | q
  ·exact absurd q hu
  ·exact Nat.le_trans (ih q.1) (Nat.le_of_lt (hd x hx hu))
theorem Ds.self {n : Nat} {U : Int → Int} {K : Int → List Int} (h : Ti n U K) {r : Int} (hr : okI n r) (hu : U r ≠ -1) : ¬ Ds U r (U r) := by
 obtain ⟨d,hd⟩ := h.dep
 intro s
 rcases h.up r hr with q | q
 ·exact hu q
 ·have h1 := s.le h hd q.1
  have h2 := hd r hr hu
  omega
theorem jc3 {n : Nat} {U : Int → Int} {K : Int → List Int} (h : Ti n U K) {i k : Int} (hi : okI n i) : k ∈ K i ↔ okI n k ∧ U k = i := by
 refine ⟨h.kid i hi k,fun ⟨hk,e⟩ => ?_⟩
 rcases h.up k hk with q | q
 ·have := hi.1;omega
 ·have h2 := q.2
  rw [e] at h2
  exact List.count_pos_iff.1 (by omega)
theorem jkW {n : Nat} {U : Int → Int} {K : Int → List Int} (h : Ti n U K) {i : Int} (hi : okI n i) (k : Int) : (K i).count k ≤ 1 := by
 by_cases hk : k ∈ K i
 ·have hk' := (jc3 h hi).1 hk
  rcases h.up k hk'.1 with q | q
  ·have := hi.1;omega
  ·have h2 := q.2;rw [hk'.2] at h2;omega
 ·rw [List.count_eq_zero_of_not_mem hk];omega
theorem jV2 : ∀ (n : Nat) (l : List Int),(∀ x ∈ l,0 ≤ x ∧ x < (n : Int)) → (∀ x,l.count x ≤ 1) → l.length ≤ n
 | 0,l,h,_ => by
  cases l with
  | nil => exact Nat.le_refl _
  | cons a l => have := h a List.mem_cons_self;omega
 | n + 1,l,h,h1 => by
  have h2 := jV2 n (l.erase (n : Int)) (fun x hx => by
   have hm := h x (List.mem_of_mem_erase hx)
   have : x ≠ (n : Int) := fun e => by
    subst e
    have := List.count_pos_iff.2 hx
    rw [List.count_erase_self] at this
    have := h1 (n : Int);omega
   omega) (fun x => Nat.le_trans (List.Sublist.count_le _ List.erase_sublist) (h1 x))
  have h3 := List.length_erase (a := (n : Int)) (l := l)
  split at h3 <;> omega
theorem Ti.len {n : Nat} {U : Int → Int} {K : Int → List Int} (h : Ti n U K) {i : Int} (hi : okI n i) : (K i).length ≤ n :=
 jV2 n (K i) (fun x hx => (h.kid i hi x hx).1) (jkW h hi)
theorem Ti.add {n : Nat} {U U' : Int → Int} {K K' : Int → List Int} (h : Ti n U K) (hU : ∀ i,okI n i → U' i = U i) (hK : ∀ i,okI n i → K' i = K i) (hn : U' n = -1) (hk : K' n = []) : Ti (n + 1) U' K' := by
 have hs : ∀ i,okI (n + 1) i → okI n i ∨ i = n := fun i hi => by have := hi.1;have := hi.2;rcases Int.lt_or_le i n with q | q;exact .inl ⟨by omega,by omega⟩;exact .inr (by omega)
 have ho : ∀ i,okI n i → okI (n + 1) i := fun i hi => ⟨hi.1,by have := hi.2;omega⟩
 have h0 : okI n 0 := ⟨by omega,by have := h.pos;omega⟩
 obtain ⟨d,hd⟩ := h.dep
 refine ⟨by omega,by rw [hU 0 h0];exact h.root,fun i hi k hk' => ?_,fun i hi => ?_,d,fun i hi hu => ?_⟩
 ·rcases hs i hi with q | rfl
  ·rw [hK i q] at hk'
   have := h.kid i q k hk'
   exact ⟨ho _ this.1,by rw [hU _ this.1];exact this.2⟩
  ·rw [hk] at hk';cases hk'
 ·rcases hs i hi with q | rfl
  ·rw [hU i q]
   rcases h.up i q with q' | q'
   ·exact .inl q'
   ·exact .inr ⟨ho _ q'.1,by rw [hK _ q'.1];exact q'.2⟩
  ·exact .inl hn
 ·rcases hs i hi with q | rfl
  ·rw [hU i q] at hu ⊢;exact hd i q hu
  ·exact absurd hn hu
theorem Ti.congr {n : Nat} {U U' : Int → Int} {K K' : Int → List Int} (h : Ti n U K) (hU : ∀ i,okI n i → U' i = U i) (hK : ∀ i,okI n i → K' i = K i) : Ti n U' K' := by
 have h0 : okI n 0 := ⟨by omega,by have := h.pos;omega⟩
 obtain ⟨d,hd⟩ := h.dep
 refine ⟨h.pos,by rw [hU 0 h0];exact h.root,fun i hi k hk' => ?_,fun i hi => ?_,d,fun i hi hu => ?_⟩
 ·rw [hK i hi] at hk'
  have := h.kid i hi k hk'
  exact ⟨this.1,by rw [hU k this.1];exact this.2⟩
 ·rw [hU i hi]
  rcases h.up i hi with q | q
  ·exact .inl q
  ·exact .inr ⟨q.1,by rw [hK _ q.1];exact q.2⟩
 ·rw [hU i hi] at hu ⊢;exact hd i hi hu
theorem Ti.cut {n : Nat} {U U' : Int → Int} {K K' : Int → List Int} (h : Ti n U K) {kid : Int} (hk : okI n kid) (hu : U kid ≠ -1) (hU : ∀ i,okI n i → U' i = if i = kid then -1 else U i) (hK : ∀ i,okI n i → i ≠ U kid → K' i = K i)
  (hKp : ∀ k,(K' (U kid)).count k + (if k = kid then 1 else 0) = (K (U kid)).count k) : Ti n U' K' := by
 have h0 : okI n 0 := ⟨by omega,by have := h.pos;omega⟩
 have hp : okI n (U kid) ∧ (K (U kid)).count kid = 1 := (h.up kid hk).resolve_left hu
 obtain ⟨d,hd⟩ := h.dep
 have hne : ∀ i,okI n i → ∀ k,k ∈ K' i → k ∈ K i ∧ k ≠ kid := fun i hi k hk' => by
  by_cases e : i = U kid
  ·subst e
   have h1 := List.count_pos_iff.2 hk'
   have h2 := hKp k
   by_cases e' : k = kid
   ·subst e';rw [if_pos rfl,hp.2] at h2;omega
   ·rw [if_neg e'] at h2
    exact ⟨List.count_pos_iff.1 (by omega),e'⟩
  ·rw [hK i hi e] at hk'
   refine ⟨hk',fun e' => ?_⟩
   subst e'
   exact e (h.kid i hi _ hk').2.symm
 refine ⟨h.pos,?_,fun i hi k hk' => ?_,fun i hi => ?_,d,fun i hi hu' => ?_⟩
 ·rw [hU 0 h0];split
  ·rfl
  ·exact h.root
 ·obtain ⟨a,b⟩ := hne i hi k hk'
  have := h.kid i hi k a
  exact ⟨this.1,by rw [hU k this.1,if_neg b];exact this.2⟩
 ·rw [hU i hi]
  split
  ·exact .inl rfl
  ·rename_i e
   rcases h.up i hi with q | q
   ·exact .inl q
   ·refine .inr ⟨q.1,?_⟩
    by_cases e2 : U i = U kid
    ·have h2 := hKp i
     rw [if_neg e,Nat.add_zero] at h2
     rw [e2,h2, ← e2];exact q.2
    ·rw [hK _ q.1 e2];exact q.2
 ·rw [hU i hi] at hu' ⊢
  split at hu'
  ·exact absurd rfl hu'
  ·rename_i e;rw [if_neg e];exact hd i hi hu'
open Classical in
theorem Ti.put {n : Nat} {U U' : Int → Int} {K K' : Int → List Int} (h : Ti n U K) {kid p : Int} (hk : okI n kid) (hk0 : kid ≠ 0) (hp : okI n p) (hu : U kid = -1) (hd' : ¬ Ds U kid p) (hU : ∀ i,okI n i → U' i = if i = kid then p else U i)
  (hK : ∀ i,okI n i → i ≠ p → K' i = K i) (hKp : ∀ k,(K' p).count k = (K p).count k + if k = kid then 1 else 0) : Ti n U' K' := by
 have h0 : okI n 0 := ⟨by omega,by have := h.pos;omega⟩
 obtain ⟨d,hd⟩ := h.dep
 have hno : kid ∉ K p := fun q => by have := (h.kid p hp _ q).2;have := hp.1;omega
 refine ⟨h.pos,by rw [hU 0 h0,if_neg (Ne.symm hk0)];exact h.root,fun i hi k hk' => ?_,fun i hi => ?_,fun x => if Ds U kid x then d x + d p + 1 else d x,fun i hi hu' => ?_⟩
 ·by_cases e : i = p
  ·subst e
   have hc := List.count_pos_iff.2 hk'
   rw [hKp] at hc
   by_cases ek : k = kid
   ·subst ek;exact ⟨hk,by rw [hU k hk,if_pos rfl]⟩
   ·rw [if_neg ek] at hc
    have := h.kid i hi k (List.count_pos_iff.1 (by omega))
    exact ⟨this.1,by rw [hU k this.1,if_neg ek];exact this.2⟩
  ·rw [hK i hi e] at hk'
   have := h.kid i hi k hk'
   exact ⟨this.1,by rw [hU k this.1,if_neg (fun ek => by subst ek;have := hi.1;omega)];exact this.2⟩
 ·rw [hU i hi]
  split
  ·rename_i e
   subst e
   exact .inr ⟨hp,by rw [hKp,if_pos rfl,List.count_eq_zero_of_not_mem hno]⟩
  ·rename_i e
   rcases h.up i hi with q | q
   ·exact .inl q
   ·refine .inr ⟨q.1,?_⟩
    by_cases eq : U i = p
    ·rw [eq,hKp,if_neg e,Nat.add_zero, ← eq];exact q.2
    ·rw [hK _ q.1 eq];exact q.2
 ·rw [hU i hi] at hu' ⊢
  by_cases e : i = kid
  ·subst e
   simp only [if_true]
   rw [if_neg hd',if_pos Ds.here];omega
  ·rw [if_neg e] at hu' ⊢
   have hlt := hd i hi hu'
   have hiff : Ds U kid i ↔ Ds U kid (U i) := ⟨fun s => by cases s with | here => exact absurd rfl e | up _ s => exact s,fun s => .up hu' s⟩
   simp only
   by_cases hs : Ds U kid i
   ·rw [if_pos hs,if_pos (hiff.1 hs)];omega
   ·rw [if_neg hs,if_neg (fun q => hs (hiff.2 q))];exact hlt
open Classical in
theorem Ti.move {n : Nat} {U U' : Int → Int} {K K' : Int → List Int} (h : Ti n U K) {a b : Int} (ha : okI n a) (hb : okI n b) (hd' : ¬ Ds U a b) (hU : ∀ i,okI n i → U' i = if i ∈ K a then b else U i)
    (hKa : K' a = []) (hKb : K' b = K b ++ K a) (hK : ∀ i,okI n i → i ≠ a → i ≠ b → K' i = K i) : Ti n U' K' := by
  have h0 : okI n 0 := ⟨by omega,by have := h.pos;omega⟩
  have hab : b ≠ a := fun e => hd' (by rw [e];exact .here)
  obtain ⟨d,hd⟩ := h.dep
  have hm : ∀ i,okI n i → (i ∈ K a ↔ U i = a) := fun i hi => by rw [jc3 h ha];exact ⟨fun q => q.2,fun q => ⟨hi,q⟩⟩
  have hU2 : ∀ i,okI n i → U' i = if U i = a then b else U i := fun i hi => by
    rw [hU i hi]
    by_cases q : i ∈ K a
    · rw [if_pos q,if_pos ((hm i hi).1 q)]
    · rw [if_neg q,if_neg (fun e => q ((hm i hi).2 e))]
  refine ⟨h.pos,by rw [hU2 0 h0,h.root,if_neg (by have := ha.1;omega)],fun i hi k hk' => ?_,fun i hi => ?_,fun x => if Ds U a x ∧ x ≠ a then d x + d b + 1 else d x,fun i hi hu' => ?_⟩
  · by_cases ea : i = a
    · subst ea;rw [hKa] at hk';cases hk'
    · by_cases eb : i = b
      · subst eb
        rw [hKb] at hk'
        rcases List.mem_append.1 hk' with q | q
        · have := h.kid i hi k q
          exact ⟨this.1,by rw [hU2 k this.1,this.2,if_neg hab]⟩
        · have := h.kid a ha k q
          exact ⟨this.1,by rw [hU2 k this.1,if_pos this.2]⟩
      · rw [hK i hi ea eb] at hk'
        have := h.kid i hi k hk'
        exact ⟨this.1,by rw [hU2 k this.1,this.2,if_neg ea]⟩
  · rw [hU2 i hi]
    by_cases e : U i = a
    · rw [if_pos e]
      refine .inr ⟨hb,?_⟩
      rw [hKb,List.count_append,List.count_eq_zero_of_not_mem (fun q => hab ((h.kid b hb i q).2.symm.trans e))]
      rcases h.up i hi with q | q
      · have := ha.1;omega
      · have h2 := q.2;rw [e] at h2;omega
    · rw [if_neg e]
      rcases h.up i hi with q | q
      · exact .inl q
      · refine .inr ⟨q.1,?_⟩
        by_cases eb : U i = b
        · rw [eb,hKb,List.count_append,List.count_eq_zero_of_not_mem (l := K a) (fun q' => e ((hm i hi).1 q'))]
          have h2 := q.2;rw [eb] at h2;omega
        · rw [hK _ q.1 e eb];exact q.2
  · rw [hU2 i hi] at hu' ⊢
    by_cases e : U i = a
    · rw [if_pos e]
      have hi2 : i ≠ a := fun q => by
        have hlt := hd i hi (by rw [e];have := ha.1;omega)
        rw [e,q] at hlt;omega
      simp only
      rw [if_neg (fun q => hd' q.1),if_pos ⟨.up (by rw [e];have := ha.1;omega) (by rw [e];exact .here),hi2⟩]
      omega
    · rw [if_neg e] at hu' ⊢
      have hlt := hd i hi hu'
      simp only
      by_cases hs : Ds U a i ∧ i ≠ a
      · have hs2 : Ds U a (U i) := by
          cases hs.1 with
          | here => exact absurd rfl hs.2
          | up _ s => exact s
        rw [if_pos hs,if_pos ⟨hs2,e⟩];omega
      · rw [if_neg hs]
        split
        · rename_i q
          by_cases hi2 : i = a
          · subst hi2
            exact absurd q.1 (Ds.self h hi hu')
          · exact absurd ⟨.up hu' q.1,hi2⟩ hs
        · exact hlt
end Go.Vc

namespace Go.Vc
open Go.Proofs
set_option maxRecDepth 10000
set_option maxHeartbeats 4000000
instance hNew : FnM BB 74 [] [] True (.agg [.own 0]) [(0,.own jKA [jiB])] := by
 refine FnM.intro (N := 4) [0] [] 0 Tryz.call74 Tryz.func74 rfl rfl (by kernel_rfl) (fun hpre => ?_)
 all_goals exact vcA
instance hIs (l : List jKH) (i : Int) : Fn BB 166 [.agg [.rd jKA l],.int .i64 i] True (.bool (isT l i)) := by
 refine Fn.intro (N := 14) [0,1,2,4] [] Tryz.call166 Tryz.func166 rfl rfl (by kernel_rfl) (fun hpre => ?_)
 all_goals exact vcA
instance hHolds (l : List jKH) (up kid : Int) : Fn BB 168 [.agg [.rd jKA l],.int .i64 up,.int .i64 kid] (l.length ≤ 100000) (.bool (jVR l up kid)) := by
  refine Fn.intro (N := 34) [0,1,2,3,6,7,22,27] [] Tryz.call168 Tryz.func168 rfl rfl (by kernel_rfl) (fun hpre => ?_)
  repeat' ((conv => whnf);first|(with_reducible first|rfl|exact jKE|exact jKD)|exact True.intro|intro _|refine WA ?_ ?_|refine WF ?_|refine W1 rfl ?_ ?_|refine W2 rfl ?_ ?_|refine W3 rfl ?_ ?_|refine W4 ?_ ?_|refine W5 rfl ?_ ?_|refine W6 ?_ ?_|refine WN ?_|refine X1 (W1 rfl ?_ ?_)|refine X1 (W2 rfl ?_ ?_)|refine X2 (W7 rfl ?_ ?_)|refine X3 (W7 rfl ?_ ?_)|refine X4 (W7 rfl ?_ ?_)|refine X5 (W7 rfl ?_ ?_))
  all_goals (try (conv => whnf))
  all_goals (try first|exact obA|refine Ob.mk ?_)
  refine LoopStop.mk (α := Nat × Int) (fun a => [(7,.int .i64 (a.1 : Nat)),(2,.int .i64 a.2)]) (fun _ => []) 30 (fun a => a.1 ≤ l.length + 1 ∧ (isT l up && jRH (l.length + 1 - a.1) l up a.2) = jVR l up kid) (fun a => l.length + 1 - a.1) (0,kid) ⟨by simp,rfl⟩ ?_ (fun a ha => ?_)
  · all_goals exact vcA
  · obtain ⟨k,x⟩ := a
    obtain ⟨h1,h2⟩ := ha
    dsimp only at h1 h2
    have c1 : (decide ((k : Int) ≤ (l.length : Int)) && isT l x && isT l up) = true → k ≤ l.length ∧ isT l x = true ∧ isT l up = true ∧ jRH (l.length + 1 - k) l up x = jVR l up kid := fun h => by
      simp only [Bool.and_eq_true] at h
      have h3 := of_decide_eq_true h.1.1
      rw [h.2,Bool.true_and] at h2
      exact ⟨by omega,h.1.2,h.2,h2⟩
    have c0 : (decide ((k : Int) ≤ (l.length : Int)) && isT l x && isT l up) = false → false = jVR l up kid := fun h => by
      rw [← h2]
      by_cases hu : isT l up = true
      · by_cases hx : isT l x = true
        · rw [hu,hx,Bool.and_true,Bool.and_true] at h
          have := of_decide_eq_false h
          rw [show l.length + 1 - k = 0 by omega,hu];rfl
        · have : jRH (l.length + 1 - k) l up x = false := by
            cases l.length + 1 - k with
            | zero => rfl
            | succ m => rw [jRH,if_neg hx]
          rw [this,Bool.and_false]
      · rw [show isT l up = false by simpa using hu];rfl
    have c2 : (decide ((k : Int) ≤ (l.length : Int)) && isT l x && isT l up) = true → (x == up) = true → true = jVR l up kid := fun h h' => by
      obtain ⟨q1,q2,q3,q4⟩ := c1 h
      rw [← q4,show l.length + 1 - k = (l.length - k) + 1 by omega,jRH,if_pos q2,if_pos (by simpa using h')]
    have c3 : (decide ((k : Int) ≤ (l.length : Int)) && isT l x && isT l up) = true → (x == up) = false → k ≤ l.length ∧ (isT l up && jRH (l.length + 1 - (k + 1)) l up (nd l x).up) = jVR l up kid := fun h h' => by
      obtain ⟨q1,q2,q3,q4⟩ := c1 h
      rw [← q4,show l.length + 1 - k = (l.length - k) + 1 by omega,jRH,if_pos q2,if_neg (by simpa using h'),q3,Bool.true_and,show l.length + 1 - (k + 1) = l.length - k by omega]
      exact ⟨q1,rfl⟩
    repeat' ((conv => whnf);first|(with_reducible first|rfl|exact jKE|exact jKD)|exact True.intro|intro _|refine WA ?_ ?_|refine WF ?_|refine W1 rfl ?_ ?_|refine W2 rfl ?_ ?_|refine W3 rfl ?_ ?_|refine W4 ?_ ?_|refine W5 rfl ?_ ?_|refine W6 ?_ ?_|refine WN ?_|refine X1 (W1 rfl ?_ ?_)|refine X1 (W2 rfl ?_ ?_)|refine X2 (W7 rfl ?_ ?_)|refine X3 (W7 rfl ?_ ?_)|refine X4 (W7 rfl ?_ ?_)|refine X5 (W7 rfl ?_ ?_))
    all_goals (try (conv => whnf))
    all_goals (try first|exact obA|refine Ob.mk ?_)
    all_goals (try dsimp only at *)
    all_goals (first | exact c2 ‹_› ‹_› | exact c0 ‹_› | exact jNY.1 (c1 ‹_›).2.1 | (have := (c1 ‹_›).1;omega) | skip)
    obtain ⟨q1,q2⟩ := c3 ‹_› ‹_›
    refine Rnd.mk ⟨(k + 1,(nd l x).up),⟨by simp only;omega,q2⟩,by simp only;omega,?_⟩
    repeat' ((conv => whnf);first|(with_reducible first|rfl|exact jKE|exact jKD)|exact True.intro|intro _|refine WA ?_ ?_|refine WF ?_|refine W1 rfl ?_ ?_|refine W2 rfl ?_ ?_|refine W3 rfl ?_ ?_|refine W4 ?_ ?_|refine W5 rfl ?_ ?_|refine W6 ?_ ?_|refine WN ?_|refine X1 (W1 rfl ?_ ?_)|refine X1 (W2 rfl ?_ ?_)|refine X2 (W7 rfl ?_ ?_)|refine X3 (W7 rfl ?_ ?_)|refine X4 (W7 rfl ?_ ?_)|refine X5 (W7 rfl ?_ ?_))
    all_goals (try (conv => whnf))
    all_goals (try first|exact obA|refine Ob.mk ?_)
    all_goals (first | rfl | omega | trace_state)
end Go.Vc

namespace Go.Vc
open Go.Proofs
set_option maxRecDepth 10000
set_option maxHeartbeats 4000000
theorem jWI (l : List Int) (i : Nat) (h : i < l.length) : l.take (i + 1) = l.take i ++ [l.getD i 0] := by
 rw [List.take_succ_eq_append_getElem h];simp [List.getD,List.getElem?_eq_getElem h]
def jjH (l : List Int) (a : Nat) (n : Int) (i : Nat) : List Int := (l.take a).take i ++ ((if a < i then [n] else []) ++ (l.take i).drop a)
theorem jf7 (l : List Int) (a : Nat) (n : Int) (i : Nat) (h : i ≤ l.length) (ha : a ≤ l.length) : jjH l a n (i + 1) = (if i = a then jjH l a n i ++ [n] else jjH l a n i) ++ (if i < l.length then [l.getD i 0] else []) := by
 unfold jjH
 rcases Nat.lt_trichotomy i a with q | q | q
 ·rw [if_neg (show ¬ a < i + 1 by omega),if_neg (show ¬ a < i by omega),if_neg (show ¬ i = a by omega),if_pos (by omega),List.take_take,List.take_take,Nat.min_eq_left (by omega),Nat.min_eq_left (by omega),List.drop_eq_nil_of_le (by rw [List.length_take];omega),List.drop_eq_nil_of_le (by rw [List.length_take];omega)]
  simp only [List.append_nil]
  exact jWI l i (by omega)
 ·subst q
  have hdr : (l.take i).drop i = [] := List.drop_eq_nil_of_le (by rw [List.length_take];omega)
  rw [if_pos (show i < i + 1 by omega),if_neg (show ¬ i < i by omega),if_pos rfl,List.take_take,List.take_take,Nat.min_eq_right (by omega),Nat.min_self,hdr]
  simp only [List.append_nil,List.append_assoc]
  congr 2
  by_cases hl : i < l.length
  ·rw [if_pos hl,jWI l i hl,List.drop_append_of_le_length (by rw [List.length_take];omega),List.drop_eq_nil_of_le (by rw [List.length_take];omega)];rfl
  ·rw [if_neg hl,List.drop_eq_nil_of_le (by rw [List.length_take];omega)]
 ·rw [if_pos (show a < i + 1 by omega),if_pos (show a < i by omega),if_neg (show ¬ i = a by omega),List.take_take,List.take_take,Nat.min_eq_right (by omega),Nat.min_eq_right (by omega)]
  by_cases hl : i < l.length
  ·rw [if_pos hl,jWI l i hl,List.drop_append_of_le_length (by rw [List.length_take];omega)]
   simp only [List.append_assoc]
  ·rw [if_neg hl,List.append_nil,List.take_of_length_le (l := l) (i := i + 1) (by omega),List.take_of_length_le (l := l) (i := i) (by omega)]
theorem jkL (l : List Int) (a : Nat) (n : Int) (h : a ≤ l.length) : jjH l a n (l.length + 1) = l.take a ++ n :: l.drop a := by
 unfold jjH
 rw [if_pos (by omega),List.take_take,List.take_of_length_le (l := l) (i := l.length + 1) (by omega),Nat.min_eq_right (by omega)]
 rfl
theorem jk7 (l : List Int) (a : Nat) (n : Int) (i : Nat) : (jjH l a n i).length ≤ i + 1 + i := by
 unfold jjH;simp only [List.length_append,List.length_take,List.length_drop];split <;> simp <;> omega
instance hPlace (l : List jKH) (kid : Int) : Fn BB 127 [.agg [.rd jKA l],.int .i64 kid] True (.int .i64 (jY9 l kid)) := by
 refine Fn.intro (N := 46) [0,1,2,4,5,6,21,36,44] [(1,[1,0,1,1,1,1,1,1,1,1,1,1,3,3,3]),(3,[0,1,0,1,0,1,1,1,3,3,3,3])] Tryz.call127 Tryz.func127 rfl rfl (by kernel_rfl) (fun hpre => ?_)
 have p0 : (!isT l kid || !isT l (nd l kid).up) = true → (-1 : Int) = jY9 l kid := fun h => by
  have h := jbE h
  unfold jY9;rw [h];rfl
 have p1 : (!isT l kid || !isT l (nd l kid).up) = false → (0 ≤ kid ∧ kid < l.length) ∧ (0 ≤ (nd l kid).up ∧ (nd l kid).up < l.length) ∧ jY9 l kid = jXQ (nd l (nd l kid).up).kids kid := fun h => by
  obtain ⟨h1,h2⟩ := jaJ h
  refine ⟨jNY.1 h1,jNY.1 h2,?_⟩
  unfold jY9;rw [h1,h2];rfl
 repeat' ((conv => whnf);first|(with_reducible first|rfl|exact jKE|exact jKD)|exact True.intro|intro _|refine WA ?_ ?_|refine WF ?_|refine W1 rfl ?_ ?_|refine W2 rfl ?_ ?_|refine W3 rfl ?_ ?_|refine W4 ?_ ?_|refine W5 rfl ?_ ?_|refine W6 ?_ ?_|refine WN ?_|refine X1 (W1 rfl ?_ ?_)|refine X1 (W2 rfl ?_ ?_)|refine X2 (W7 rfl ?_ ?_)|refine X3 (W7 rfl ?_ ?_)|refine X4 (W7 rfl ?_ ?_)|refine X5 (W7 rfl ?_ ?_))
 all_goals (try (conv => whnf))
 all_goals (try first|exact obA|refine Ob.mk ?_)
 all_goals (try (have q := p0 ‹(!isT l kid || !isT l (nd l kid).up) = true›))
 all_goals (try (have q := p1 ‹(!isT l kid || !isT l (nd l kid).up) = false›;obtain ⟨q1,q2,q3⟩ := q))
 all_goals (first | exact q | exact q1 | exact q2 | (exact jNY.1 (by simp_all;done)) | skip)
 generalize hks : (nd l (nd l kid).up).kids = ks at *
 have hks' : (l.getD (l.getD kid.toNat jKA.dflt).2.2.2.2.2.1.toNat jKA.dflt).2.2.2.2.2.2 = ks := hks
 try rw [hks']
 refine LoopStop.mk (α := Nat) (fun i => [(6,.int .i64 i)]) (fun _ => []) 20 (fun i => i ≤ ks.length ∧ (ks.take i).contains kid = false) (fun i => ks.length - i) 0 (by simp) ?_ (fun i hi => ?_)
 ·all_goals exact vcA
 ·obtain ⟨hi,ha⟩ := hi
  repeat' ((conv => whnf);first|(with_reducible first|rfl|exact jKE|exact jKD)|exact True.intro|intro _|refine WA ?_ ?_|refine WF ?_|refine W1 rfl ?_ ?_|refine W2 rfl ?_ ?_|refine W3 rfl ?_ ?_|refine W4 ?_ ?_|refine W5 rfl ?_ ?_|refine W6 ?_ ?_|refine WN ?_|refine X1 (W1 rfl ?_ ?_)|refine X1 (W2 rfl ?_ ?_)|refine X2 (W7 rfl ?_ ?_)|refine X3 (W7 rfl ?_ ?_)|refine X4 (W7 rfl ?_ ?_)|refine X5 (W7 rfl ?_ ?_))
  all_goals (try (conv => whnf))
  all_goals (try first|exact obA|refine Ob.mk ?_)
  all_goals (try (have b1 := of_decide_eq_true ‹decide ((i : Int) < (ks.length : Int)) = true›))
  all_goals (try (have b1 := of_decide_eq_false ‹decide ((i : Int) < (ks.length : Int)) = false›))
  all_goals (try simp only [Int.toNat_natCast] at *)
  ·rw [q3,jUQ (i := i) (by omega) ha (eq_of_beq (show (ks.getD i 0 == kid) = true from ‹_›)).symm]
  ·have h : (ks.getD i 0 == kid) = false := ‹_›
   refine Rnd.mk ⟨i + 1,⟨by omega,by rw [jP2 ks i kid (by omega),ha,h];rfl⟩,by omega,?_⟩
   repeat' ((conv => whnf);first|(with_reducible first|rfl|exact jKE|exact jKD)|exact True.intro|intro _|refine WA ?_ ?_|refine WF ?_|refine W1 rfl ?_ ?_|refine W2 rfl ?_ ?_|refine W3 rfl ?_ ?_|refine W4 ?_ ?_|refine W5 rfl ?_ ?_|refine W6 ?_ ?_|refine WN ?_|refine X1 (W1 rfl ?_ ?_)|refine X1 (W2 rfl ?_ ?_)|refine X2 (W7 rfl ?_ ?_)|refine X3 (W7 rfl ?_ ?_)|refine X4 (W7 rfl ?_ ?_)|refine X5 (W7 rfl ?_ ?_))
   all_goals (try (conv => whnf))
   all_goals (try first|exact obA|refine Ob.mk ?_)
   all_goals (first | rfl | omega | trace_state)
  ·obtain rfl : i = ks.length := by omega
   rw [q3,jPD (by rw [List.take_length] at ha;exact ha)]
instance hWith (l : List Int) (at_ n : Int) : Fn BB 170 [.rd jKG l,.int .i64 at_,.int .i64 n] (0 ≤ at_ ∧ at_ ≤ l.length ∧ l.length ≤ 100000) (.rd jKG (l.take at_.toNat ++ n :: l.drop at_.toNat)) := by
 refine Fn.intro (N := 34) [0,1,2,6,7,8,12,17,25] [] Tryz.call170 Tryz.func170 rfl rfl (by kernel_rfl) (fun hpre => ?_)
 obtain ⟨p1,p2,p3⟩ := hpre
 obtain ⟨a,rfl⟩ := Int.eq_ofNat_of_zero_le p1
 have hen := jkL l a n (by omega)
 rw [Int.toNat_natCast]
 repeat' ((conv => whnf);first|(with_reducible first|rfl|exact jKE|exact jKD)|exact True.intro|intro _|refine WA ?_ ?_|refine WF ?_|refine W1 rfl ?_ ?_|refine W2 rfl ?_ ?_|refine W3 rfl ?_ ?_|refine W4 ?_ ?_|refine W5 rfl ?_ ?_|refine W6 ?_ ?_|refine WN ?_|refine X1 (W1 rfl ?_ ?_)|refine X1 (W2 rfl ?_ ?_)|refine X2 (W7 rfl ?_ ?_)|refine X3 (W7 rfl ?_ ?_)|refine X4 (W7 rfl ?_ ?_)|refine X5 (W7 rfl ?_ ?_))
 all_goals (try (conv => whnf))
 all_goals (try first|exact obA|refine Ob.mk ?_)
 refine LoopStop.mk (α := Nat) (fun i => [(8,.int .i64 i),(7,.own 20)]) (fun i => [(20,.own jKG (jjH l a n i))]) 30 (fun i => i ≤ l.length + 1) (fun i => l.length + 1 - i) 0 (by simp) ?_ (fun i hi => ?_)
 ·repeat' ((conv => whnf);first|(with_reducible first|rfl|exact jKE|exact jKD)|exact True.intro|intro _|refine WA ?_ ?_|refine WF ?_|refine W1 rfl ?_ ?_|refine W2 rfl ?_ ?_|refine W3 rfl ?_ ?_|refine W4 ?_ ?_|refine W5 rfl ?_ ?_|refine W6 ?_ ?_|refine WN ?_|refine X1 (W1 rfl ?_ ?_)|refine X1 (W2 rfl ?_ ?_)|refine X2 (W7 rfl ?_ ?_)|refine X3 (W7 rfl ?_ ?_)|refine X4 (W7 rfl ?_ ?_)|refine X5 (W7 rfl ?_ ?_))
  all_goals (try (conv => whnf))
  all_goals (try first|exact obA|refine Ob.mk ?_)
  all_goals (first | rfl | (simp [jjH];done) | trace_state)
 ·have hl := jk7 l a n i
  have hst := jf7 l a n i
  repeat' ((conv => whnf);first|(with_reducible first|rfl|exact jKE|exact jKD)|exact True.intro|intro _|refine WA ?_ ?_|refine WF ?_|refine W1 rfl ?_ ?_|refine W2 rfl ?_ ?_|refine W3 rfl ?_ ?_|refine W4 ?_ ?_|refine W5 rfl ?_ ?_|refine W6 ?_ ?_|refine WN ?_|refine X1 (W1 rfl ?_ ?_)|refine X1 (W2 rfl ?_ ?_)|refine X2 (W7 rfl ?_ ?_)|refine X3 (W7 rfl ?_ ?_)|refine X4 (W7 rfl ?_ ?_)|refine X5 (W7 rfl ?_ ?_))
  all_goals (try (conv => whnf))
  all_goals (try first|exact obA|refine Ob.mk ?_)
  all_goals (try (have b := of_decide_eq_true ‹decide ((i : Int) ≤ (l.length : Int)) = true›;have hs := hst (by omega) (by omega)))
  all_goals (try (have e1 : i = a := by (have h : ((i : Int) == (a : Int)) = true := ‹_›;have := eq_of_beq h;omega)))
  all_goals (try (have e1 : ¬ i = a := by (have h : ((i : Int) == (a : Int)) = false := ‹_›;rw [beq_eq_false_iff_ne] at h;omega)))
  all_goals (try (have b2 : i < l.length := by (have h := of_decide_eq_true ‹decide ((i : Int) < (l.length : Int)) = true›;omega)))
  all_goals (try (have b2 : ¬ i < l.length := by (have h := of_decide_eq_false ‹decide ((i : Int) < (l.length : Int)) = false›;omega)))
  all_goals (try rw [if_pos e1] at hs)
  all_goals (try rw [if_neg e1] at hs)
  all_goals (try rw [if_pos b2] at hs)
  all_goals (try rw [if_neg b2,List.append_nil] at hs)
  all_goals (try simp only [Int.toNat_natCast] at *)
  all_goals (try (refine Rnd.mk ⟨i + 1,by omega,by omega,?_⟩))
  all_goals (first | omega | exact ⟨by omega,by omega⟩ | (show _ * 8 ≤ _ ∧ _ ≤ _;exact ⟨by simp only [List.length_append,List.length_cons,List.length_nil];omega,by simp only [List.length_append,List.length_cons,List.length_nil];omega⟩) | skip)
  all_goals (try (have b := of_decide_eq_false ‹decide ((i : Int) ≤ (l.length : Int)) = false›;rw [show i = l.length + 1 by omega,hen]))
  repeat' ((conv => whnf);first|(with_reducible first|rfl|exact jKE|exact jKD)|exact True.intro|intro _|refine WA ?_ ?_|refine WF ?_|refine W1 rfl ?_ ?_|refine W2 rfl ?_ ?_|refine W3 rfl ?_ ?_|refine W4 ?_ ?_|refine W5 rfl ?_ ?_|refine W6 ?_ ?_|refine WN ?_|refine X1 (W1 rfl ?_ ?_)|refine X1 (W2 rfl ?_ ?_)|refine X2 (W7 rfl ?_ ?_)|refine X3 (W7 rfl ?_ ?_)|refine X4 (W7 rfl ?_ ?_)|refine X5 (W7 rfl ?_ ?_))
  all_goals (try (conv => whnf))
  all_goals (try first|exact obA|refine Ob.mk ?_)
  all_goals (first | rfl | omega | (rw [hs];done) | (rw [hs];rfl) | trace_state)
end Go.Vc

namespace Go.Vc
open Go.Proofs
set_option autoImplicit false
def jpW (n : jKH) (k : Int) : jKH := (n.1,n.2.1,n.2.2.1,n.2.2.2.1,n.2.2.2.2.1,n.2.2.2.2.2.1,n.2.2.2.2.2.2 ++ [k])
def mkN (n : jKH) (up : Int) : jKH := (n.1,n.2.1,n.2.2.1,n.2.2.2.1,n.2.2.2.2.1,up,[])
def jNF (out : List jKH) (p : Nat) (k : Int) : List jKH := out.set p (jpW (out.getD p jKA.dflt) k)
structure PSt where
 out : List jKH
 P : List Nat
def PSt.step (t : List jKH) (x : PSt) (e : Ev) : PSt :=
 match e.2.2.2,x.P with
 | true,P => { out := x.out,P := P.tail }
 | false,[] => { out := x.out ++ [mkN (t.getD e.1 jKA.dflt) (-1)],P := [x.out.length] }
 | false,p :: P => { out := jNF x.out p x.out.length ++ [mkN (t.getD e.1 jKA.dflt) p],P := x.out.length :: p :: P }
def PSt.run (t : List jKH) : PSt → List Ev → PSt
 | x,[] => x
 | x,e :: l => PSt.run t (x.step t e) l
theorem jP0 (t : List jKH) : ∀ (l l' : List Ev) (x : PSt),x.run t (l ++ l') = (x.run t l).run t l' := by
 intro l
 induction l with
 | nil => intro l' x;rfl
 | cons e l ih => intro l' x;exact ih l' (x.step t e)
def pS (t : List jKH) (K : Nat → List Int) (out : List jKH) (s : List Bool) (p i j : Nat) : List jKH := (({ out := out,P := [p] } : PSt).run t (dfs K s i j 0).1).out
def sS (K : Nat → List Int) (s : List Bool) (i j : Nat) : List Bool := (dfs K s i j 0).2.1
variable {K : Nat → List Int} {t : List jKH}
theorem jOA (out : List jKH) (p : Nat) (k : Int) : (jNF out p k).length = out.length := by unfold jNF;exact List.length_set ..
theorem jsA : ∀ (s : List Bool) (i j c : Nat),∀ c',(dfs K s i j c).2.1 = (dfs K s i j c').2.1 ∧ ∀ x : PSt,x.run t (dfs K s i j c).1 = x.run t (dfs K s i j c').1 := by
 refine jQT (K := K) ?_ ?_ ?_
 ·intro s i j c h c';rw [jND h,jND h];exact ⟨rfl,fun x => rfl⟩
 ·intro s i j c h hk ih c';rw [jNI h hk,jNI h hk];exact ih c'
 ·intro s i j c h hk i1 i2 c'
  rw [jQC h hk,jQC h hk]
  dsimp only
  obtain ⟨a1,a2⟩ := i1 (c' + 1)
  rw [← a1]
  obtain ⟨b1,b2⟩ := i2 (dfs K (s.set ((K i).getD j 0).toNat true) ((K i).getD j 0).toNat 0 (c' + 1)).2.2
  refine ⟨b1,fun x => ?_⟩
  show ((x.step t _).run t _) = ((x.step t _).run t _)
  rw [jP0,jP0]
  have e : x.step t (((K i).getD j 0).toNat,(i : Int),c,false) = x.step t (((K i).getD j 0).toNat,(i : Int),c',false) := rfl
  rw [e,a2,b2]
theorem jd2 : ∀ (s : List Bool) (i j c : Nat),∀ (out : List jKH) (p : Nat) (P : List Nat),
  ({ out := out,P := p :: P } : PSt).run t (dfs K s i j c).1 = { out := (({ out := out,P := [p] } : PSt).run t (dfs K s i j c).1).out,P := P } := by
 refine jQT (K := K) ?_ ?_ ?_
 ·intro s i j c h out p P;rw [jND h];rfl
 ·intro s i j c h hk ih out p P;rw [jNI h hk];exact ih out p P
 ·intro s i j c h hk i1 i2 out p P
  rw [jQC h hk]
  dsimp only
  have e : ∀ Q,({ out := out,P := p :: Q } : PSt).step t (((K i).getD j 0).toNat,(i : Int),c,false) =
   { out := jNF out p out.length ++ [mkN (t.getD ((K i).getD j 0).toNat jKA.dflt) p],P := out.length :: p :: Q } := fun Q => rfl
  show PSt.run t (PSt.step t _ _) _ = { out := (PSt.run t (PSt.step t _ _) _).out,P := P }
  rw [e,e,jP0,jP0,i1 _ out.length (p :: P),i1 _ out.length [p],i2 _ p P]
theorem jlO {out s p i j} (h : ¬ j < (K i).length) : pS t K out s p i j = out ∧ sS K s i j = s := by
 unfold pS sS;rw [jND h];exact ⟨rfl,rfl⟩
theorem jmE {out s p i j} (h : j < (K i).length) (hk : okK s ((K i).getD j 0) = false) : pS t K out s p i j = pS t K out s p i (j + 1) ∧ sS K s i j = sS K s i (j + 1) := by
 unfold pS sS;rw [jNI h hk];exact ⟨rfl,rfl⟩
def jXW (t : List jKH) (K : Nat → List Int) (out : List jKH) (s : List Bool) (k : Nat) (up : Int) : List jKH := pS t K (out ++ [mkN (t.getD k jKA.dflt) up]) (s.set k true) out.length k 0
def jhB (K : Nat → List Int) (s : List Bool) (k : Nat) : List Bool := sS K (s.set k true) k 0
theorem juS {out s p i j} (h : j < (K i).length) (hk : okK s ((K i).getD j 0) = true) :
    pS t K out s p i j = pS t K (jXW t K (jNF out p out.length) s ((K i).getD j 0).toNat p) (jhB K s ((K i).getD j 0).toNat) p i (j + 1) ∧ sS K s i j = sS K (jhB K s ((K i).getD j 0).toNat) i (j + 1) := by
  have a := fun c => jsA (t := t) (K := K) (s.set ((K i).getD j 0).toNat true) ((K i).getD j 0).toNat 0 c 0
  unfold pS sS jXW jhB pS sS
  rw [jQC h hk]
  dsimp only
  rw [(a 1).1]
  have b := fun c => jsA (t := t) (K := K) (dfs K (s.set ((K i).getD j 0).toNat true) ((K i).getD j 0).toNat 0 0).2.1 i (j + 1) c 0
  refine ⟨?_,(b _).1⟩
  show (PSt.run t (PSt.step t _ _) _).out = _
  have e : ({ out := out,P := [p] } : PSt).step t (((K i).getD j 0).toNat,(i : Int),0,false) =
      { out := jNF out p out.length ++ [mkN (t.getD ((K i).getD j 0).toNat jKA.dflt) p],P := out.length :: [p] } := rfl
  rw [e,jP0,jd2,(b _).2,(a 1).2,jOA]
theorem jqI : ∀ (s : List Bool) (i j c : Nat),∀ (out : List jKH) (p : Nat),
  out.length ≤ (({ out := out,P := [p] } : PSt).run t (dfs K s i j c).1).out.length ∧ (({ out := out,P := [p] } : PSt).run t (dfs K s i j c).1).out.length + unseen (dfs K s i j c).2.1 = out.length + unseen s ∧
   (∀ q,q < out.length → q ≠ p → (({ out := out,P := [p] } : PSt).run t (dfs K s i j c).1).out.getD q jKA.dflt = out.getD q jKA.dflt) ∧ (dfs K s i j c).2.1.length = s.length := by
 refine jQT (K := K) ?_ ?_ ?_
 ·intro s i j c h out p;rw [jND h];exact ⟨Nat.le_refl _,rfl,fun q _ _ => rfl,rfl⟩
 ·intro s i j c h hk ih out p;rw [jNI h hk];exact ih out p
 ·intro s i j c h hk i1 i2 out p
  rw [jQC h hk]
  dsimp only
  have e : ({ out := out,P := [p] } : PSt).step t (((K i).getD j 0).toNat,(i : Int),c,false) =
   { out := jNF out p out.length ++ [mkN (t.getD ((K i).getD j 0).toNat jKA.dflt) p],P := out.length :: [p] } := rfl
  have er : ∀ l,({ out := out,P := [p] } : PSt).run t ((((K i).getD j 0).toNat,(i : Int),c,false) :: l) =
   ({ out := jNF out p out.length ++ [mkN (t.getD ((K i).getD j 0).toNat jKA.dflt) p],P := out.length :: [p] } : PSt).run t l := fun l => by rw [← e];rfl
  have er2 : ∀ l1 l2 c1,l1 = (dfs K (s.set ((K i).getD j 0).toNat true) ((K i).getD j 0).toNat 0 c1).1 → (({ out := out,P := [p] } : PSt).run t ((((K i).getD j 0).toNat,(i : Int),c,false) :: (l1 ++ l2))).out =
   (({ out := (({ out := jNF out p out.length ++ [mkN (t.getD ((K i).getD j 0).toNat jKA.dflt) p],P := [out.length] } : PSt).run t l1).out,P := [p] } : PSt).run t l2).out := fun l1 l2 c1 hl => by
   rw [er,jP0,hl,jd2]
  rw [er2 _ _ _ rfl]
  have hl : (jNF out p out.length ++ [mkN (t.getD ((K i).getD j 0).toNat jKA.dflt) p]).length = out.length + 1 := by rw [List.length_append,jOA];rfl
  have hu := jK9 (jLV hk).2.2
  obtain ⟨a1,a2,a3,a4⟩ := i1 (jNF out p out.length ++ [mkN (t.getD ((K i).getD j 0).toNat jKA.dflt) p]) out.length
  rw [hl] at a1 a2 a3
  generalize (({ out := jNF out p out.length ++ [mkN (t.getD ((K i).getD j 0).toNat jKA.dflt) p],P := [out.length] } : PSt).run t (dfs K (s.set ((K i).getD j 0).toNat true) ((K i).getD j 0).toNat 0 (c + 1)).1).out = y at *
  obtain ⟨b1,b2,b3,b4⟩ := i2 y p
  refine ⟨by omega,by omega,fun q hq hp => ?_,?_⟩
  ·rw [b3 q (by omega) hp,a3 q (by omega) (by omega)]
   unfold jNF
   rw [List.getD_eq_getElem?_getD,List.getElem?_append_left (by rw [List.length_set];exact hq),List.getElem?_set,if_neg (fun h => hp h.symm),List.getD_eq_getElem?_getD]
  ·rw [b4,a4,List.length_set]
theorem jW8 (out : List jKH) (s : List Bool) (k : Nat) (up : Int) : out.length + 1 ≤ (jXW t K out s k up).length ∧ (jXW t K out s k up).length + unseen (jhB K s k) = out.length + 1 + unseen (s.set k true) ∧
  (∀ q,q < out.length → (jXW t K out s k up).getD q jKA.dflt = out.getD q jKA.dflt) ∧ (jhB K s k).length = s.length := by
 obtain ⟨h1,h2,h3,h4⟩ := jqI (t := t) (K := K) (s.set k true) k 0 0 (out ++ [mkN (t.getD k jKA.dflt) up]) out.length
 rw [List.length_append,List.length_singleton] at h1 h2 h3
 refine ⟨h1,h2,fun q hq => ?_,by rw [List.length_set] at h4;exact h4⟩
 show (PSt.run t _ _).out.getD q _ = _
 rw [h3 q (by omega) (by omega),List.getD_eq_getElem?_getD,List.getElem?_append_left hq,List.getD_eq_getElem?_getD]
end Go.Vc

namespace Go.Vc
open Go.Proofs
set_option maxRecDepth 10000
set_option maxHeartbeats 4000000
noncomputable abbrev BN : Base := { BB with np := fun t => bif Nat.beq t 49 then some 6 else none }
instance toN_fn {f : FuncId} {args : List SV} {pre : Prop} {res : SV} [h : Fn BB f args pre res] : Fn BN f args pre res := ⟨h.call,h.ok⟩
instance toN_fnM {f : FuncId} {args : List SV} {Φ : Phi} {pre : Prop} {res : SV} {Φ' : Phi} [h : FnM BB f args Φ pre res Φ'] : FnM BN f args Φ pre res Φ' := ⟨h.call,h.ok⟩
def pPre (t out : List jKH) (s : List Bool) (k : Int) : Prop := jO7 t = true ∧ s.length = t.length ∧ (0 ≤ k ∧ k < t.length) ∧ out.length + unseen (s.set k.toNat true) + 1 ≤ 5000
theorem jk8 {q : List Bool} {n : Nat} (hq : q.length = n) (k : Int) : (decide (k ≥ 0) && decide (k < (n : Int)) && !q.getD k.toNat false) = okK q k := by
  unfold okK
  by_cases h1 : k < 0
  · rw [decide_eq_false (by omega : ¬ k ≥ 0)];rfl
  · rw [decide_eq_true (by omega : k ≥ 0)]
    by_cases h2 : k < (n : Int)
    · rw [decide_eq_true h2]
      have hl : k.toNat < q.length := by omega
      simp [List.getD,hl]
    · have : q.getD k.toNat true = true := by
        rw [List.getD_eq_getElem?_getD,List.getElem?_eq_none (by omega)];rfl
      rw [decide_eq_false h2,this];rfl
theorem jVZ (o : List jKH) (p : Nat) (k : Int) (h : p < o.length) : ((jNF o p k).getD p jKA.dflt).kids = (o.getD p jKA.dflt).kids ++ [k] := by
 unfold jNF
 rw [List.getD_eq_getElem?_getD,List.getElem?_set,if_pos rfl,if_pos h];rfl
theorem jaO (o : List jKH) (n : Nat) (k : Int) (h : n < o.length) :
  (o.set n ((o.getD n jKA.dflt).1,(o.getD n jKA.dflt).2.1,(o.getD n jKA.dflt).2.2.1,(o.getD n jKA.dflt).2.2.2.1,(o.getD n jKA.dflt).2.2.2.2.1,(o.getD n jKA.dflt).2.2.2.2.2.1,(o.getD n jKA.dflt).2.2.2.2.2.2 ++ [k])).set n
   ((o.set n ((o.getD n jKA.dflt).1,(o.getD n jKA.dflt).2.1,(o.getD n jKA.dflt).2.2.1,(o.getD n jKA.dflt).2.2.2.1,(o.getD n jKA.dflt).2.2.2.2.1,(o.getD n jKA.dflt).2.2.2.2.2.1,(o.getD n jKA.dflt).2.2.2.2.2.2 ++ [k])).getD n jKA.dflt) = jNF o n k := by
 rw [List.set_set]
 unfold jNF
 congr 1
 rw [List.getD_eq_getElem?_getD,List.getElem?_set,if_pos rfl,if_pos h]
 rfl
theorem kDP (N : Nat) : ∀ (t out : List jKH) (s : List Bool) (k up : Int),
  FnM BN 122 [.agg [.rd jKA t],.int .i64 k,.int .i64 up,.agg [.own 0],.own 1] [(0,.nst jKA 6 out none),(1,.ow .bool s)]
   (pPre t out s k ∧ unseen (s.set k.toNat true) < N)
   (.agg [.own 0]) [(0,.nst jKA 6 (jXW t (jKB t) out s k.toNat up) none),(1,.ow .bool (jhB (jKB t) s k.toNat))] := by
 induction N with
 | zero => intro t out s k up;exact ⟨Tryz.call122,fun h => absurd h.2 (Nat.not_lt_zero _)⟩
 | succ N ih =>
  intro t out s k up
  refine FnM.intro (N := 99) [0,1,2,3,4,5,8,10,11,12,13,14,48,75] [(12,[0,7,0,0,7,0,4,4,4,0,7,4,4,4,4,4,4]),(3000012,[454,519,779,840,844,909,974,1039])] 2 Tryz.call122 Tryz.func122 rfl rfl (by kernel_rfl) (fun hpre => ?_)
  obtain ⟨⟨hsm,hsl,hk,hlen⟩,hN⟩ := hpre
  repeat' ((conv => whnf);first|(with_reducible first|rfl|exact jKE|exact jKD)|exact True.intro|intro _|refine WA ?_ ?_|refine WF ?_|refine W1 rfl ?_ ?_|refine W2 rfl ?_ ?_|refine W3 rfl ?_ ?_|refine W4 ?_ ?_|refine W5 rfl ?_ ?_|refine W6 ?_ ?_|refine WN ?_|refine X1 (W1 rfl ?_ ?_)|refine X1 (W2 rfl ?_ ?_)|refine X2 (W7 rfl ?_ ?_)|refine X3 (W7 rfl ?_ ?_)|refine X4 (W7 rfl ?_ ?_)|refine X5 (W7 rfl ?_ ?_))
  all_goals (try (conv => whnf))
  all_goals (try first|exact obA|refine Ob.mk ?_)
  all_goals (try simp only [jbT,jXL,jaY,jXE,List.length_singleton] at *)
  ·have h64 := (jTM hsm k (jNY.2 hk)).1
   simp only [cast_eq,List.length_nil,Nat.zero_add]
   change ((nd t k).2.2.2.1.length * 32 ≤ _ ∧ (nd t k).2.2.2.1.length ≤ _)
   omega
  refine LoopStop.mk (α := List jKH × List Bool × Nat) (fun a => [(13,.int .i64 a.2.2)]) (fun a => [(0,.nst jKA 6 a.1 none),(1,.ow .bool a.2.1)]) 20
   (fun a => pS t (jKB t) a.1 a.2.1 out.length k.toNat a.2.2 = jXW t (jKB t) out s k.toNat up ∧ sS (jKB t) a.2.1 k.toNat a.2.2 = jhB (jKB t) s k.toNat ∧ a.2.1.length = t.length ∧ a.1.length + unseen a.2.1 ≤ 5000 ∧
    out.length < a.1.length ∧ (a.1.getD out.length jKA.dflt).kids.length ≤ a.2.2 ∧ a.2.2 ≤ (jKB t k.toNat).length ∧ unseen a.2.1 ≤ N)
   (fun a => (jKB t k.toNat).length - a.2.2) (out ++ [mkN (t.getD k.toNat jKA.dflt) up],s.set k.toNat true,0) ⟨rfl,rfl,by simpa using hsl,by simp only [List.length_append,List.length_singleton];omega,by simp,by simp [mkN,jKH.kids],Nat.zero_le _,by show unseen (s.set k.toNat true) ≤ N;omega⟩ ?_ (fun a ha => ?_)
  ·all_goals exact vcA
  ·obtain ⟨o,q,j⟩ := a
   dsimp only at ha ⊢
   obtain ⟨h1,h2,h3,h4,h5,h6,h7,h8⟩ := ha
   repeat' ((conv => whnf);first|(with_reducible first|rfl|exact jKE|exact jKD)|exact True.intro|intro _|refine WA ?_ ?_|refine WF ?_|refine W1 rfl ?_ ?_|refine W2 rfl ?_ ?_|refine W3 rfl ?_ ?_|refine W4 ?_ ?_|refine W5 rfl ?_ ?_|refine W6 ?_ ?_|refine WN ?_|refine X1 (W1 rfl ?_ ?_)|refine X1 (W2 rfl ?_ ?_)|refine X2 (W7 rfl ?_ ?_)|refine X3 (W7 rfl ?_ ?_)|refine X4 (W7 rfl ?_ ?_)|refine X5 (W7 rfl ?_ ?_))
   all_goals (try (conv => whnf))
   all_goals (try first|exact obA|refine Ob.mk ?_)
   all_goals (try simp only [Int.toNat_natCast] at *)
   ·rename_i c1 c2 c3
    have hj : j < (jKB t k.toNat).length := by have h := of_decide_eq_true c2;exact Int.ofNat_lt.mp h
    have hc : okK q ((jKB t k.toNat).getD j 0) = true := by rw [← jk8 h3];exact c3
    refine ZStop.mk [] [(0,.nst jKA 6 (jNF o out.length o.length) none)] 60 ?_
    have o1 : Ob (0 ≤ (out.length : Int) ∧ (out.length : Int) < o.length) := Ob.mk ⟨by omega,by omega⟩
    have o2 : Ob ((out.length : Int).toNat < o.length) := Ob.mk (by omega)
    have hkl : (jKB t k.toNat).length ≤ 1000 := (jTM hsm k (jNY.2 hk)).2
    have o3 : Ob (out.length < o.length ∧ ((o.getD out.length jKA.dflt).kids.length + 1) * 8 ≤ 70368744177664 ∧ (o.getD out.length jKA.dflt).kids.length + 1 ≤ 70368744177664) := Ob.mk ⟨h5,by omega,by omega⟩
    have hok := jLV hc
    have hu := jK9 hok.2.2
    repeat' ((conv => whnf);first|(with_reducible first|rfl|exact jKE|exact jKD)|exact True.intro|intro _|refine WA ?_ ?_|refine WF ?_|refine W1 rfl ?_ ?_|refine W2 rfl ?_ ?_|refine W3 rfl ?_ ?_|refine W4 ?_ ?_|refine W5 rfl ?_ ?_|refine W6 ?_ ?_|refine WN ?_|refine X1 (W1 rfl ?_ ?_)|refine X1 (W2 rfl ?_ ?_)|refine X2 (W7 rfl ?_ ?_)|refine X3 (W7 rfl ?_ ?_)|refine X4 (W7 rfl ?_ ?_)|refine X5 (W7 rfl ?_ ?_))
    all_goals (try (conv => whnf))
    all_goals (first | exact o1 | exact o2 | exact o3 | exact Ob.mk rfl | (refine Ob.mk ?_;rw [List.length_set];first | exact o1.h | exact o2.h) | skip)
    any_goals (refine Rnd.mk (p := jQ7 _ _ _ _ _) ?_)
    repeat' ((conv => whnf);first|(with_reducible first|rfl|exact jKE|exact jKD)|exact True.intro|intro _|refine WA ?_ ?_|refine WF ?_|refine W1 rfl ?_ ?_|refine W2 rfl ?_ ?_|refine W3 rfl ?_ ?_|refine W4 ?_ ?_|refine W5 rfl ?_ ?_|refine W6 ?_ ?_|refine WN ?_|refine X1 (W1 rfl ?_ ?_)|refine X1 (W2 rfl ?_ ?_)|refine X2 (W7 rfl ?_ ?_)|refine X3 (W7 rfl ?_ ?_)|refine X4 (W7 rfl ?_ ?_)|refine X5 (W7 rfl ?_ ?_))
    all_goals (try (conv => whnf))
    all_goals (try exact congrArg (fun l => Chunk.nst jKA 6 l none) (jaO o out.length o.length h5))
    ·refine Ob.mk ⟨⟨hsm,h3,⟨hok.1,by have h := hok.2.1;rw [h3] at h;exact (by omega : (jKB t k.toNat).getD j 0 < (t.length : Int))⟩,by rw [jOA];change o.length + unseen (q.set ((jKB t k.toNat).getD j 0).toNat true) + 1 ≤ _;omega⟩,by change unseen (q.set ((jKB t k.toNat).getD j 0).toNat true) < N;omega⟩
    ·exact Ob.mk ⟨by omega,by omega⟩
    obtain ⟨e1,e2⟩ := juS (t := t) (out := o) (p := out.length) hj hc
    rw [e1] at h1;rw [e2] at h2
    obtain ⟨l1,l2,l3,l4⟩ := jW8 (t := t) (K := jKB t) (jNF o out.length o.length) q ((jKB t k.toNat).getD j 0).toNat out.length
    rw [jOA] at l1 l2 l3
    refine Rnd.mk ⟨(jXW t (jKB t) (jNF o out.length o.length) q ((jKB t k.toNat).getD j 0).toNat out.length,jhB (jKB t) q ((jKB t k.toNat).getD j 0).toNat,j + 1),⟨h1,h2,l4.trans h3,by dsimp only;omega,by dsimp only;omega,?_,by show j + 1 ≤ _;omega,by dsimp only;omega⟩,by show _ - (j + 1) < _;omega,?_⟩
    ·dsimp only
     rw [l3 _ h5,jVZ _ _ _ h5,List.length_append,List.length_singleton]
     exact Nat.succ_le_succ h6
    ·all_goals exact vcA
   ·rename_i c1 c2 c3
    have hj : j < (jKB t k.toNat).length := by have h := of_decide_eq_true c2;exact Int.ofNat_lt.mp h
    have hc : okK q ((jKB t k.toNat).getD j 0) = false := by rw [← jk8 h3];exact c3
    obtain ⟨e1,e2⟩ := jmE (t := t) (out := o) (p := out.length) hj hc
    rw [e1] at h1;rw [e2] at h2
    refine Rnd.mk ⟨(o,q,j + 1),⟨h1,h2,h3,h4,h5,Nat.le_succ_of_le h6,by show j + 1 ≤ _;omega,h8⟩,by show _ - (j + 1) < _;omega,?_⟩
    all_goals exact vcA
   all_goals (rename_i c1 c2)
   all_goals (have hj : ¬ j < (jKB t k.toNat).length := by have h := of_decide_eq_false c2;exact fun q => h (Int.ofNat_lt.mpr q))
   all_goals (obtain ⟨e1,e2⟩ := jlO (t := t) (out := o) (p := out.length) (s := q) hj;rw [e1] at h1;rw [e2] at h2)
   ·rw [h1]
   ·rw [h2]
instance hPut14 (t out : List jKH) (s : List Bool) (k up : Int) :
  FnM BN 122 [.agg [.rd jKA t],.int .i64 k,.int .i64 up,.agg [.own 0],.own 1] [(0,.nst jKA 6 out none),(1,.ow .bool s)] (pPre t out s k)
   (.agg [.own 0]) [(0,.nst jKA 6 (jXW t (jKB t) out s k.toNat up) none),(1,.ow .bool (jhB (jKB t) s k.toNat))] :=
 have h := kDP (unseen (s.set k.toNat true) + 1) t out s k up
 ⟨h.call,fun hp => h.ok ⟨hp,Nat.lt_succ_self _⟩⟩
end Go.Vc

namespace Go.Vc
open Go.Proofs
set_option maxRecDepth 10000
set_option maxHeartbeats 4000000
instance hPut0 (t : List jKH) (s : List Bool) (k up : Int) :
  FnM BN 122 [.agg [.rd jKA t],.int .i64 k,.int .i64 up,.agg [.nils],.own 0] [(0,.own .bool s)] (pPre t [] s k)
   (.agg [.own 1]) [(1,.nst jKA 6 (jXW t (jKB t) [] s k.toNat up) none)] := by
  refine FnM.intro (N := 99) [0,1,2,3,4,5,8,10,11,12,13,14,48,75] [(12,[0,7,0,0,7,0,4,4,4,0,7,4,4,4,4,4,4]),(3000012,[454,519,779,840,844,909,974,1039]),(2000000,[0])] 1 Tryz.call122 Tryz.func122 rfl rfl (by kernel_rfl) (fun hpre => ?_)
  obtain ⟨hsm,hsl,hk,hlen⟩ := hpre
  simp only [List.length_nil,Nat.zero_add] at hlen
  repeat' ((conv => whnf);first|(with_reducible first|rfl|exact jKE|exact jKD)|exact True.intro|intro _|refine WA ?_ ?_|refine WF ?_|refine W1 rfl ?_ ?_|refine W2 rfl ?_ ?_|refine W3 rfl ?_ ?_|refine W4 ?_ ?_|refine W5 rfl ?_ ?_|refine W6 ?_ ?_|refine AppN.ns ?_|refine X1 (W1 rfl ?_ ?_)|refine X1 (W2 rfl ?_ ?_)|refine X2 (W7 rfl ?_ ?_)|refine X3 (W7 rfl ?_ ?_)|refine X4 (W7 rfl ?_ ?_)|refine X5 (W7 rfl ?_ ?_))
  all_goals (try (conv => whnf))
  all_goals (try first|exact obA|refine Ob.mk ?_)
  all_goals (try simp only [jbT,jXL,jaY,jXE,List.length_singleton] at *)
  ·have h64 := (jTM hsm k (jNY.2 hk)).1
   simp only [cast_eq,List.length_nil,Nat.zero_add]
   change ((nd t k).2.2.2.1.length * 32 ≤ _ ∧ (nd t k).2.2.2.1.length ≤ _)
   omega
  refine LoopStop.mk (α := List jKH × List Bool × Nat) (fun a => [(13,.int .i64 a.2.2)]) (fun a => [(6,.nst jKA 6 a.1 none),(0,.ow .bool a.2.1)]) 20
   (fun a => pS t (jKB t) a.1 a.2.1 0 k.toNat a.2.2 = jXW t (jKB t) [] s k.toNat up ∧ sS (jKB t) a.2.1 k.toNat a.2.2 = jhB (jKB t) s k.toNat ∧ a.2.1.length = t.length ∧ a.1.length + unseen a.2.1 ≤ 5000 ∧
    0 < a.1.length ∧ (a.1.getD 0 jKA.dflt).kids.length ≤ a.2.2 ∧ a.2.2 ≤ (jKB t k.toNat).length)
   (fun a => (jKB t k.toNat).length - a.2.2) ([] ++ [mkN (t.getD k.toNat jKA.dflt) up],s.set k.toNat true,0) ⟨rfl,rfl,by simpa using hsl,by simp only [List.length_append,List.length_singleton,List.length_nil];omega,by simp,by simp [mkN,jKH.kids],Nat.zero_le _⟩ ?_ (fun a ha => ?_)
  ·all_goals exact vcA
  ·obtain ⟨o,q,j⟩ := a
   dsimp only at ha ⊢
   obtain ⟨h1,h2,h3,h4,h5,h6,h7⟩ := ha
   repeat' ((conv => whnf);first|(with_reducible first|rfl|exact jKE|exact jKD)|exact True.intro|intro _|refine WA ?_ ?_|refine WF ?_|refine W1 rfl ?_ ?_|refine W2 rfl ?_ ?_|refine W3 rfl ?_ ?_|refine W4 ?_ ?_|refine W5 rfl ?_ ?_|refine W6 ?_ ?_|refine WN ?_|refine X1 (W1 rfl ?_ ?_)|refine X1 (W2 rfl ?_ ?_)|refine X2 (W7 rfl ?_ ?_)|refine X3 (W7 rfl ?_ ?_)|refine X4 (W7 rfl ?_ ?_)|refine X5 (W7 rfl ?_ ?_))
   all_goals (try (conv => whnf))
   all_goals (try first|exact obA|refine Ob.mk ?_)
   all_goals (try simp only [Int.toNat_natCast] at *)
   ·rename_i c1 c2 c3
    have hj : j < (jKB t k.toNat).length := by have h := of_decide_eq_true c2;exact Int.ofNat_lt.mp h
    have hc : okK q ((jKB t k.toNat).getD j 0) = true := by rw [← jk8 h3];exact c3
    refine ZStop.mk [] [(6,.nst jKA 6 (jNF o 0 o.length) none)] 60 ?_
    have o1 : Ob (0 ≤ (0 : Int) ∧ (0 : Int) < o.length) := Ob.mk ⟨by omega,by omega⟩
    have o2 : Ob ((0 : Int).toNat < o.length) := Ob.mk (by omega)
    have hkl : (jKB t k.toNat).length ≤ 1000 := (jTM hsm k (jNY.2 hk)).2
    have o3 : Ob (0 < o.length ∧ ((o.getD 0 jKA.dflt).kids.length + 1) * 8 ≤ 70368744177664 ∧ (o.getD 0 jKA.dflt).kids.length + 1 ≤ 70368744177664) := Ob.mk ⟨h5,by omega,by omega⟩
    have hok := jLV hc
    have hu := jK9 hok.2.2
    repeat' ((conv => whnf);first|(with_reducible first|rfl|exact jKE|exact jKD)|exact True.intro|intro _|refine WA ?_ ?_|refine WF ?_|refine W1 rfl ?_ ?_|refine W2 rfl ?_ ?_|refine W3 rfl ?_ ?_|refine W4 ?_ ?_|refine W5 rfl ?_ ?_|refine W6 ?_ ?_|refine WN ?_|refine X1 (W1 rfl ?_ ?_)|refine X1 (W2 rfl ?_ ?_)|refine X2 (W7 rfl ?_ ?_)|refine X3 (W7 rfl ?_ ?_)|refine X4 (W7 rfl ?_ ?_)|refine X5 (W7 rfl ?_ ?_))
    all_goals (try (conv => whnf))
    all_goals (first | exact o1 | exact o2 | exact o3 | exact Ob.mk rfl | (refine Ob.mk ?_;rw [List.length_set];first | exact o1.h | exact o2.h) | skip)
    any_goals (refine Rnd.mk (p := jQ7 _ _ _ _ _) ?_)
    repeat' ((conv => whnf);first|(with_reducible first|rfl|exact jKE|exact jKD)|exact True.intro|intro _|refine WA ?_ ?_|refine WF ?_|refine W1 rfl ?_ ?_|refine W2 rfl ?_ ?_|refine W3 rfl ?_ ?_|refine W4 ?_ ?_|refine W5 rfl ?_ ?_|refine W6 ?_ ?_|refine WN ?_|refine X1 (W1 rfl ?_ ?_)|refine X1 (W2 rfl ?_ ?_)|refine X2 (W7 rfl ?_ ?_)|refine X3 (W7 rfl ?_ ?_)|refine X4 (W7 rfl ?_ ?_)|refine X5 (W7 rfl ?_ ?_))
    all_goals (try (conv => whnf))
    all_goals (try exact congrArg (fun l => Chunk.nst jKA 6 l none) (jaO o 0 o.length h5))
    ·refine Ob.mk ⟨hsm,h3,⟨hok.1,by have h := hok.2.1;rw [h3] at h;exact (by omega : (jKB t k.toNat).getD j 0 < (t.length : Int))⟩,by rw [jOA];change o.length + unseen (q.set ((jKB t k.toNat).getD j 0).toNat true) + 1 ≤ _;omega⟩
    ·exact Ob.mk ⟨by omega,by omega⟩
    obtain ⟨e1,e2⟩ := juS (t := t) (out := o) (p := 0) hj hc
    rw [e1] at h1;rw [e2] at h2
    obtain ⟨l1,l2,l3,l4⟩ := jW8 (t := t) (K := jKB t) (jNF o 0 o.length) q ((jKB t k.toNat).getD j 0).toNat 0
    rw [jOA] at l1 l2 l3
    refine Rnd.mk ⟨(jXW t (jKB t) (jNF o 0 o.length) q ((jKB t k.toNat).getD j 0).toNat 0,jhB (jKB t) q ((jKB t k.toNat).getD j 0).toNat,j + 1),⟨h1,h2,l4.trans h3,by dsimp only;omega,by dsimp only;omega,?_,by show j + 1 ≤ _;omega⟩,by show _ - (j + 1) < _;omega,?_⟩
    ·dsimp only
     rw [l3 _ h5,jVZ _ _ _ h5,List.length_append,List.length_singleton]
     exact Nat.succ_le_succ h6
    ·all_goals exact vcA
   ·rename_i c1 c2 c3
    have hj : j < (jKB t k.toNat).length := by have h := of_decide_eq_true c2;exact Int.ofNat_lt.mp h
    have hc : okK q ((jKB t k.toNat).getD j 0) = false := by rw [← jk8 h3];exact c3
    obtain ⟨e1,e2⟩ := jmE (t := t) (out := o) (p := 0) hj hc
    rw [e1] at h1;rw [e2] at h2
    refine Rnd.mk ⟨(o,q,j + 1),⟨h1,h2,h3,h4,h5,Nat.le_succ_of_le h6,by show j + 1 ≤ _;omega⟩,by show _ - (j + 1) < _;omega,?_⟩
    all_goals exact vcA
   all_goals (rename_i c1 c2)
   all_goals (have hj : ¬ j < (jKB t k.toNat).length := by have h := of_decide_eq_false c2;exact fun q => h (Int.ofNat_lt.mpr q))
   all_goals (obtain ⟨e1,e2⟩ := jlO (t := t) (out := o) (p := 0) (s := q) hj;rw [e1] at h1;rw [e2] at h2)
   ·rw [h1]
end Go.Vc

namespace Go.Vc
open Go.Proofs
set_option maxRecDepth 10000
set_option maxHeartbeats 4000000
def jOC (t : List jKH) : List jKH := if t = [] then [jiB] else jXW t (jKB t) [] (List.replicate t.length false) 0 (-1)
theorem jS2 (s : List Bool) : unseen s ≤ s.length := List.count_le_length
theorem jgK {t : List jKH} (h : jO7 t = true) (h0 : ¬ ((t.length : Int) == 0) = true) : pPre t [] (List.replicate t.length false) 0 := by
 have h1 : 0 < t.length := by
  rcases Nat.eq_zero_or_pos t.length with h | h
  ·exact absurd (by rw [h];rfl) h0
  ·exact h
 have h2 := jaN h
 have h3 := jS2 ((List.replicate t.length false).set 0 true)
 rw [List.length_set,List.length_replicate] at h3
 refine ⟨h,List.length_replicate,⟨Int.le_refl 0,by omega⟩,?_⟩
 show 0 + unseen ((List.replicate t.length false).set 0 true) + 1 ≤ 5000
 omega
theorem jlE {t : List jKH} (h0 : ((t.length : Int) == 0) = true) : jOC t = [jiB] := by
 have h1 : t.length = 0 := by have := eq_of_beq h0;omega
 unfold jOC;rw [if_pos (List.length_eq_zero_iff.1 h1)]
theorem jm6 {t : List jKH} (h0 : ¬ ((t.length : Int) == 0) = true) : jOC t = jXW t (jKB t) [] (List.replicate t.length false) 0 (-1) := by
 unfold jOC;rw [if_neg (fun h => h0 (by rw [h];rfl))]
instance hTidyN (t : List jKH) : FnM BN 69 [.agg [.rd jKA t]] [] (jO7 t = true) (.agg [.rd jKA (jOC t)]) [] := by
 refine FnM.intro (N := 15) [0,1,2,6] [(3,[4,4,0,4,4,4,4,4])] 0 Tryz.call69 Tryz.func69 rfl rfl (by kernel_rfl) (fun hpre => ?_)
 repeat' ((conv => whnf);first|(with_reducible first|rfl|exact jKE|exact jKD)|exact True.intro|intro _|refine WA ?_ ?_|refine WF ?_|refine W1 rfl ?_ ?_|refine W2 rfl ?_ ?_|refine W3 rfl ?_ ?_|refine W4 ?_ ?_|refine W5 rfl ?_ ?_|refine W6 ?_ ?_|refine WN ?_|refine X1 (W1 rfl ?_ ?_)|refine X1 (W2 rfl ?_ ?_)|refine X2 (W7 rfl ?_ ?_)|refine X3 (W7 rfl ?_ ?_)|refine X4 (W7 rfl ?_ ?_)|refine X5 (W7 rfl ?_ ?_))
 all_goals (try (conv => whnf))
 all_goals (try first|exact obA|refine Ob.mk ?_)
 ·rw [jlE ‹_›]
 all_goals (have h0 : ¬ ((t.length : Int) == 0) = true := by rw [show ((t.length : Int) == 0) = false from by assumption];decide)
 all_goals (first | exact jgK hpre h0 | (rw [jm6 h0];rfl) | (have := jaN hpre;refine ⟨by omega,by omega,?_,by omega⟩;show (t.length : Int) * ((1 : Nat) : Int) ≤ _;omega))
end Go.Vc

namespace Go.Vc
open Go.Proofs
set_option maxRecDepth 10000
set_option maxHeartbeats 4000000
def jrG (l : List jKH) : List jKH := l.set 0 (0,0,[],[],[], -1,(l.getD 0 jKA.dflt).kids)
def joL (x : List jKH) (k : Nat) : List jKH := jrG (jXW x (jKB x) [] (List.replicate x.length false) k (-1))
def jfU (l : List Int) (i : Int) : Option Nat := (List.range l.length).find? fun k => l.getD k 0 == i
def jmG (t : List jKH) (i : Int) : List jKH := match jfU (jOF (fin t).L) i with | some k => joL (jOC t) k | none => [jiB]
theorem jkC {l : List Int} {i : Int} {k : Nat} (hk : k < l.length) (h : l.getD k 0 = i) (h0 : ∀ j,j < k → l.getD j 0 ≠ i) : jfU l i = some k := by
 unfold jfU
 rw [List.find?_eq_some_iff_append]
 refine ⟨by rw [h];simp,List.range k,(List.range' (k + 1) (l.length - (k + 1))),?_,fun a ha => ?_⟩
 ·rw [List.range_eq_range',List.range_eq_range',show l.length = k + (1 + (l.length - (k + 1))) by omega, ← List.range'_append_1, ← List.range'_append_1]
  simp
  omega
 ·simpa using h0 a (by simpa using ha)
theorem jV8 {l : List Int} {i : Int} (h0 : ∀ j,j < l.length → l.getD j 0 ≠ i) : jfU l i = none := by
 unfold jfU
 rw [List.find?_eq_none]
 intro a ha
 simpa using h0 a (by simpa using ha)
def jd5 (t : List jKH) : Prop := jO7 t = true ∧ t.length ≤ 45 ∧ jO7 (jOC t) = true ∧ (fin t).L.length ≤ (jOC t).length ∧ (jOC t).length ≤ 1000
instance hSubN (t : List jKH) (i : Int) : FnM BN 116 [.agg [.rd jKA t],.int .i64 i] [] (jd5 t) (.agg [.rd jKA (jmG t i)]) [] := by
 refine FnM.intro (N := 67) [0,1,2,4,5,7,8,9,10,30,39,47] [(10,[0,0,6,0,0,0,6,6,6,6]),(11,[0,1,0,1,1,1,1,1,3,3])] 0 Tryz.call116 Tryz.func116 rfl rfl (by kernel_rfl) (fun hpre => ?_)
 obtain ⟨h1,h2,h3,h4,h5⟩ := hpre
 have d := jj1 (jKB t) t.length
 have hlI : (fin t).I.length = t.length := d.lI
 have hll : (jOF (fin t).L).length = (fin t).L.length := by unfold jOF;rw [List.length_map]
 have hL : (fin t).L.length ≤ 45 := by have := jkO d.nod d.lt;have e : (jj6 (jKB t) t.length).L = (fin t).L := rfl;rw [e] at this;omega
 have pp : ∀ k : Nat,k < (fin t).L.length → pPre (jOC t) [] (List.replicate (jOC t).length false) (k : Int) := fun k hk => by
  have h := jS2 ((List.replicate (jOC t).length false).set (k : Int).toNat true)
  rw [List.length_set,List.length_replicate] at h
  exact ⟨h3,List.length_replicate,⟨by omega,by omega⟩,by show 0 + _ + 1 ≤ 5000;omega⟩
 have hin : ∀ j,j < (jOF (fin t).L).length → (jOF (fin t).L).getD j 0 = i → 0 ≤ i ∧ i < ((fin t).I.length : Int) ∧ ¬ (fin t).I.getD i.toNat jKG.dflt < 0 := fun j hj e => by
  rw [hll] at hj
  have hm : (fin t).L.getD j 0 ∈ (fin t).L := by rw [List.getD_eq_getElem?_getD,List.getElem?_eq_getElem hj];exact List.getElem_mem _
  have e2 : (jOF (fin t).L).getD j 0 = ((fin t).L.getD j 0 : Nat) := by unfold jOF;simp [List.getD,hj]
  have e3 : i.toNat = (fin t).L.getD j 0 := by omega
  have hlt := d.lt _ hm
  have hr := d.rI _ hm
  have e4 : (fin t).I.getD i.toNat jKG.dflt = (jj6 (jKB t) t.length).I.getD ((fin t).L.getD j 0) (-1) := by
   rw [e3]
   show (fin t).I.getD _ _ = (fin t).I.getD _ _
   simp [List.getD,show (fin t).L[j]?.getD 0 < (fin t).I.length by rw [hlI];exact hlt]
  rw [e4,hlI]
  have hlt2 : (fin t).L.getD j 0 < t.length := hlt
  omega
 repeat' ((conv => whnf);first|(with_reducible first|rfl|exact jKE|exact jKD)|exact True.intro|intro _|refine WA ?_ ?_|refine WF ?_|refine W1 rfl ?_ ?_|refine W2 rfl ?_ ?_|refine W3 rfl ?_ ?_|refine W4 ?_ ?_|refine W5 rfl ?_ ?_|refine W6 ?_ ?_|refine WN ?_|refine X1 (W1 rfl ?_ ?_)|refine X1 (W2 rfl ?_ ?_)|refine X2 (W7 rfl ?_ ?_)|refine X3 (W7 rfl ?_ ?_)|refine X4 (W7 rfl ?_ ?_)|refine X5 (W7 rfl ?_ ?_))
 all_goals (try (conv => whnf))
 all_goals (try first|exact obA|refine Ob.mk ?_)
 ·have h := ‹(decide (i < 0) || decide (i ≥ ((fin t).I.length : Int))) = false›
  simp only [Bool.or_eq_false_iff,decide_eq_false_iff_not] at h
  omega
 ·have h := ‹(decide (i < 0) || decide (i ≥ ((fin t).I.length : Int)) || decide ((fin t).I.getD i.toNat jKG.dflt < 0)) = true›
  simp only [Bool.or_eq_true,decide_eq_true_eq] at h
  unfold jmG
  rw [jV8 (fun j hj e => by have := hin j hj e;omega)]
 refine LoopStop.mk (α := Nat) (fun k => [(9,.int .i64 k)]) (fun _ => []) 20 (fun k => k ≤ (jOF (fin t).L).length ∧ ∀ j,j < k → (jOF (fin t).L).getD j 0 ≠ i) (fun k => (jOF (fin t).L).length - k) 0 ⟨Nat.zero_le _,fun j hj => absurd hj (Nat.not_lt_zero _)⟩ ?_ (fun k hk => ?_)
 ·all_goals exact vcA
 ·obtain ⟨hk,ha⟩ := hk
  repeat' ((conv => whnf);first|(with_reducible first|rfl|exact jKE|exact jKD)|exact True.intro|intro _|refine WA ?_ ?_|refine WF ?_|refine W1 rfl ?_ ?_|refine W2 rfl ?_ ?_|refine W3 rfl ?_ ?_|refine W4 ?_ ?_|refine W5 rfl ?_ ?_|refine W6 ?_ ?_|refine WN ?_|refine X1 (W1 rfl ?_ ?_)|refine X1 (W2 rfl ?_ ?_)|refine X2 (W7 rfl ?_ ?_)|refine X3 (W7 rfl ?_ ?_)|refine X4 (W7 rfl ?_ ?_)|refine X5 (W7 rfl ?_ ?_))
  all_goals (try (conv => whnf))
  all_goals (try first|exact obA|refine Ob.mk ?_)
  all_goals (try simp only [Int.toNat_natCast] at *)
  all_goals (try (have hp : k < (jOF (fin t).L).length := by have h := of_decide_eq_true ‹decide ((k : Int) < ((jOF (fin t).L).length : Int)) = true›;omega))
  all_goals (try (exact pp k (by omega)))
  all_goals (try (have hlen := jW8 (t := jOC t) (K := jKB (jOC t)) [] (List.replicate (jOC t).length false) k (-1)))
  all_goals (try (have hl1 : 1 ≤ (jXW (jOC t) (jKB (jOC t)) [] (List.replicate (jOC t).length false) k (-1)).length := hlen.1))
  all_goals clear hlen
  all_goals (try (first | omega | (constructor <;> omega)))
  ·unfold jmG
   rw [jkC hp (show (jOF (fin t).L).getD k jKG.dflt = i from beq_iff_eq.1 ‹((jOF (fin t).L).getD k jKG.dflt == i) = true›) ha]
   rfl
  ·refine Rnd.mk ⟨k + 1,⟨by omega,fun j hj => ?_⟩,by omega,?_⟩
   ·rcases Nat.lt_or_ge j k with q | q
    ·exact ha j q
    ·have e : j = k := by omega
     rw [e];exact fun (q : (jOF (fin t).L).getD k jKG.dflt = i) => absurd (beq_iff_eq.2 q) (by rw [‹((jOF (fin t).L).getD k jKG.dflt == i) = false›];decide)
   ·all_goals exact vcA
  ·have e : k = (jOF (fin t).L).length := by have h := of_decide_eq_false ‹decide ((k : Int) < ((jOF (fin t).L).length : Int)) = false›;omega
   unfold jmG
   rw [jV8 (fun j hj => ha j (by omega))]
instance hSub14 (t : List jKH) (i : Int) : Fn BB 116 [.agg [.rd jKA t],.int .i64 i] (jd5 t) (.agg [.rd jKA (jmG t i)]) :=
 have h := hSubN t i
 ⟨h.call,h.ok⟩
end Go.Vc

namespace Go.Vc
open Go.Proofs
set_option maxRecDepth 10000
instance xAt16 (l : List Int) (w : Int) : Fn BB 330 [.rd jKG l,.int .i64 w] True (.int .i64 (jXQ l w)) := by
 refine Fn.intro (N := 19) [0,1,4,5,9,17] [] Tryz.call330 Tryz.func330 rfl rfl (by kernel_rfl) (fun hpre => ?_)
 repeat' ((conv => whnf);first|(with_reducible first|rfl|exact jKE|exact jKD)|exact True.intro|intro _|refine WA ?_ ?_|refine WF ?_|refine W1 rfl ?_ ?_|refine W2 rfl ?_ ?_|refine W3 rfl ?_ ?_|refine W4 ?_ ?_|refine W5 rfl ?_ ?_|refine W6 ?_ ?_|refine WN ?_|refine X1 (W1 rfl ?_ ?_)|refine X1 (W2 rfl ?_ ?_)|refine X2 (W7 rfl ?_ ?_)|refine X3 (W7 rfl ?_ ?_)|refine X4 (W7 rfl ?_ ?_)|refine X5 (W7 rfl ?_ ?_))
 all_goals (try (conv => whnf))
 all_goals (try first|exact obA|refine Ob.mk ?_)
 refine LoopStop.mk (α := Nat) (fun i => [(5,.int .i64 i)]) (fun i => []) 20 (fun i => i ≤ l.length ∧ (l.take i).contains w = false) (fun i => l.length - i) 0 (by simp) ?_ (fun i hi => ?_)
 ·repeat' ((conv => whnf);first|(with_reducible first|rfl|exact jKE|exact jKD)|exact True.intro|intro _|refine WA ?_ ?_|refine WF ?_|refine W1 rfl ?_ ?_|refine W2 rfl ?_ ?_|refine W3 rfl ?_ ?_|refine W4 ?_ ?_|refine W5 rfl ?_ ?_|refine W6 ?_ ?_|refine WN ?_|refine X1 (W1 rfl ?_ ?_)|refine X1 (W2 rfl ?_ ?_)|refine X2 (W7 rfl ?_ ?_)|refine X3 (W7 rfl ?_ ?_)|refine X4 (W7 rfl ?_ ?_)|refine X5 (W7 rfl ?_ ?_))
  all_goals (try (conv => whnf))
  all_goals (try rfl)
 ·obtain ⟨hi,ha⟩ := hi
  repeat' ((conv => whnf);first|(with_reducible first|rfl|exact jKE|exact jKD)|exact True.intro|intro _|refine WA ?_ ?_|refine WF ?_|refine W1 rfl ?_ ?_|refine W2 rfl ?_ ?_|refine W3 rfl ?_ ?_|refine W4 ?_ ?_|refine W5 rfl ?_ ?_|refine W6 ?_ ?_|refine WN ?_|refine X1 (W1 rfl ?_ ?_)|refine X1 (W2 rfl ?_ ?_)|refine X2 (W7 rfl ?_ ?_)|refine X3 (W7 rfl ?_ ?_)|refine X4 (W7 rfl ?_ ?_)|refine X5 (W7 rfl ?_ ?_))
  all_goals (try (conv => whnf))
  all_goals (try first|exact obA|refine Ob.mk ?_)
  all_goals (try simp only [ZA,ZB,ZC,ZD,ZE,ZF,ZG,ZH,ZI,ZJ,ZK,ZL,ZM,ZN,ZO,Int.toNat_natCast,UInt8.ofNat_toNat,cast_eq] at *)
  ·rw [jUQ (i := i) (by omega) (by simpa using ha) (by symm;assumption)]
  ·have h : i < l.length := by omega
   refine Rnd.mk ⟨i + 1,?_,?_,?_⟩
   ·refine ⟨by omega,?_⟩
    rw [jP2 l i w h,Bool.or_eq_false_iff]
    refine ⟨by simpa using ha,beq_eq_false_iff_ne.2 fun e => ?_⟩
    simp_all
   ·omega
   ·all_goals exact vcA
  ·have : i = l.length := by omega
   subst this
   rw [jPD (by simpa using ha)]
instance xIn19 (l : List Int) (w : Int) : Fn BB 266 [.rd jKG l,.int .i64 w] True (.int .i64 (jXQ l w)) := by
 refine Fn.intro (N := 8) [0,1,4] [] Tryz.call266 Tryz.func266 rfl rfl (by kernel_rfl) (fun hpre => ?_)
 all_goals exact vcA
end Go.Vc

namespace Go.Vc
open Go.Proofs
set_option maxRecDepth 10000
set_option maxHeartbeats 8000000
def jqQ (l : List jKK) (a : jKK) : List jKK := if l.any (je6 a.1) = true then l else l ++ [a]
instance gGet (l : List jKK) (nm : List UInt8) : FnM BB 86 [.own 0,.str nm] [(0,.ro jKP l)] (l.length ≤ 100000) (.tup [.str (joX l nm),.bool (l.any (je6 nm))]) [(0,.ro jKP l)] := by
 refine FnM.intro (N := 25) [0,1,4,5,6,10,19] [] 1 Tryz.call86 Tryz.func86 rfl rfl (by kernel_rfl) (fun hpre => ?_)
 repeat' ((conv => whnf);first|(with_reducible first|rfl|exact jKE|exact jKD)|exact True.intro|intro _|refine WA ?_ ?_|refine WF ?_|refine W1 rfl ?_ ?_|refine W2 rfl ?_ ?_|refine W3 rfl ?_ ?_|refine W4 ?_ ?_|refine W5 rfl ?_ ?_|refine W6 ?_ ?_|refine WN ?_|refine X1 (W1 rfl ?_ ?_)|refine X1 (W2 rfl ?_ ?_)|refine X2 (W7 rfl ?_ ?_)|refine X3 (W7 rfl ?_ ?_)|refine X4 (W7 rfl ?_ ?_)|refine X5 (W7 rfl ?_ ?_))
 all_goals (try (conv => whnf))
 all_goals (try first|exact obA|refine Ob.mk ?_)
 refine LoopStop.mk (α := Nat) (fun k => [(6,.int .i64 k)]) (fun _ => []) 20 (fun k => k ≤ l.length ∧ (l.take k).all (fun x => !je6 nm x) = true) (fun k => l.length - k) 0 (by simp) ?_ (fun k hk => ?_)
 ·all_goals exact vcA
 ·obtain ⟨hk,ha⟩ := hk
  repeat' ((conv => whnf);first|(with_reducible first|rfl|exact jKE|exact jKD)|exact True.intro|intro _|refine WA ?_ ?_|refine WF ?_|refine W1 rfl ?_ ?_|refine W2 rfl ?_ ?_|refine W3 rfl ?_ ?_|refine W4 ?_ ?_|refine W5 rfl ?_ ?_|refine W6 ?_ ?_|refine WN ?_|refine X1 (W1 rfl ?_ ?_)|refine X1 (W2 rfl ?_ ?_)|refine X2 (W7 rfl ?_ ?_)|refine X3 (W7 rfl ?_ ?_)|refine X4 (W7 rfl ?_ ?_)|refine X5 (W7 rfl ?_ ?_))
  all_goals (try (conv => whnf))
  all_goals (try first|exact obA|refine Ob.mk ?_)
  all_goals (try simp only [Int.toNat_natCast] at *)
  all_goals (try (have hp : k < l.length := by have h := of_decide_eq_true ‹decide ((k : Int) < (l.length : Int)) = true›;omega))
  all_goals (try (have hh := jmY (nm := nm) hp ha (show ((l.getD k jKP.dflt).1 == nm) = true from ‹_›)))
  all_goals (try (have hz : k = l.length := by have h := of_decide_eq_false ‹decide ((k : Int) < (l.length : Int)) = false›;omega))
  all_goals (first | omega | (rw [hh.1];done) | (rw [hh.2];done) | (subst hz;rw [List.take_length] at ha;rw [(jX1 ha).1];done) | (subst hz;rw [List.take_length] at ha;rw [(jX1 ha).2];done) | skip)
  have h : ((l.getD k jKP.dflt).1 == nm) = false := ‹_›
  refine Rnd.mk ⟨k + 1,⟨by omega,?_⟩,by omega,?_⟩
  ·rw [jWA (fun x => !je6 nm x) l k jKP.dflt hp,ha]
   show (true && !((l.getD k jKP.dflt).1 == nm)) = true
   rw [h];rfl
  ·all_goals exact vcA
instance gGetN (nm : List UInt8) : Fn BB 86 [.nils,.str nm] True (.tup [.str [],.bool false]) := by
 refine Fn.intro (N := 25) [0,1,4,5,6,10,19] [] Tryz.call86 Tryz.func86 rfl rfl (by kernel_rfl) (fun hpre => ?_)
 repeat' ((conv => whnf);first|(with_reducible first|rfl|exact jKE|exact jKD)|exact True.intro|intro _|refine WA ?_ ?_|refine WF ?_|refine W1 rfl ?_ ?_|refine W2 rfl ?_ ?_|refine W3 rfl ?_ ?_|refine W4 ?_ ?_|refine W5 rfl ?_ ?_|refine W6 ?_ ?_|refine WN ?_|refine X1 (W1 rfl ?_ ?_)|refine X1 (W2 rfl ?_ ?_)|refine X2 (W7 rfl ?_ ?_)|refine X3 (W7 rfl ?_ ?_)|refine X4 (W7 rfl ?_ ?_)|refine X5 (W7 rfl ?_ ?_))
 all_goals (try (conv => whnf))
 all_goals (try first|exact obA|refine Ob.mk ?_)
 refine LoopStop.mk (α := Unit) (fun k => [(6,.int .i64 0)]) (fun _ => []) 20 (fun k => True) (fun k => 0) () True.intro ?_ (fun k hk => ?_)
 ·all_goals exact vcA
 ·repeat' ((conv => whnf);first|(with_reducible first|rfl|exact jKE|exact jKD)|exact True.intro|intro _|refine WA ?_ ?_|refine WF ?_|refine W1 rfl ?_ ?_|refine W2 rfl ?_ ?_|refine W3 rfl ?_ ?_|refine W4 ?_ ?_|refine W5 rfl ?_ ?_|refine W6 ?_ ?_|refine WN ?_|refine X1 (W1 rfl ?_ ?_)|refine X1 (W2 rfl ?_ ?_)|refine X2 (W7 rfl ?_ ?_)|refine X3 (W7 rfl ?_ ?_)|refine X4 (W7 rfl ?_ ?_)|refine X5 (W7 rfl ?_ ?_))
  all_goals (try (conv => whnf))
  all_goals (try first|exact obA|refine Ob.mk ?_)
  all_goals (first | (exfalso;exact absurd ‹decide ((0 : Int) < 0) = true› (by decide)) | rfl | trace_state)
instance gAdd (l : List jKK) (a b : List UInt8) : FnM BB 320 [.own 0,.agg [.str a,.str b]] [(0,.ro jKP l)] (l.length ≤ 50000) (.own 1) [(0,.ro jKP l),(1,.own jKP (jqQ l (a,b)))] := by
 refine FnM.intro (N := 25) [0,1,3,4,5,7,19] [] 1 Tryz.call320 Tryz.func320 rfl rfl (by kernel_rfl) (fun hpre => ?_)
 have e1 : (!l.any (je6 a)) = true → jqQ l (a,b) = l ++ [(a,b)] := fun h => by unfold jqQ;rw [if_neg (by simpa using h)]
 have e2 : (!l.any (je6 a)) = false → jqQ l (a,b) = l := fun h => by unfold jqQ;rw [if_pos (by simpa using h)]
 repeat' ((conv => whnf);first|(with_reducible first|rfl|exact jKE|exact jKD)|exact True.intro|intro _|refine WA ?_ ?_|refine WF ?_|refine W1 rfl ?_ ?_|refine W2 rfl ?_ ?_|refine W3 rfl ?_ ?_|refine W4 ?_ ?_|refine W5 rfl ?_ ?_|refine W6 ?_ ?_|refine WN ?_|refine X1 (W1 rfl ?_ ?_)|refine X1 (W2 rfl ?_ ?_)|refine X2 (W7 rfl ?_ ?_)|refine X3 (W7 rfl ?_ ?_)|refine X4 (W7 rfl ?_ ?_)|refine X5 (W7 rfl ?_ ?_))
 all_goals (try (conv => whnf))
 all_goals (try first|exact obA|refine Ob.mk ?_)
 all_goals (first | (rw [e1 ‹_›];rfl) | (rw [e2 ‹_›];rfl) | trace_state)
instance gAddN (a b : List UInt8) : FnM BB 320 [.nils,.agg [.str a,.str b]] [] True (.own 0) [(0,.own jKP [(a,b)])] := by
 refine FnM.intro (N := 25) [0,1,3,4,5,7,19] [] 0 Tryz.call320 Tryz.func320 rfl rfl (by kernel_rfl) (fun hpre => ?_)
 repeat' ((conv => whnf);first|(with_reducible first|rfl|exact jKE|exact jKD)|exact True.intro|intro _|refine WA ?_ ?_|refine WF ?_|refine W1 rfl ?_ ?_|refine W2 rfl ?_ ?_|refine W3 rfl ?_ ?_|refine W4 ?_ ?_|refine W5 rfl ?_ ?_|refine W6 ?_ ?_|refine WN ?_|refine X1 (W1 rfl ?_ ?_)|refine X1 (W2 rfl ?_ ?_)|refine X2 (W7 rfl ?_ ?_)|refine X3 (W7 rfl ?_ ?_)|refine X4 (W7 rfl ?_ ?_)|refine X5 (W7 rfl ?_ ?_))
 all_goals (try (conv => whnf))
 all_goals (try first|exact obA|refine Ob.mk ?_)
 ·rfl
 ·exact absurd ‹(!false) = false› (by decide)
end Go.Vc

namespace Go.Vc
open Go.Proofs
set_option maxRecDepth 10000
set_option maxHeartbeats 4000000
def jh0 (l : List jKH) : Bool := l.all fun n => decide (n.2.2.1.length ≤ 60)
theorem jhD {l : List jKH} (h : jh0 l = true) : jl8 l := fun i => by
 cases hi : isT l i with
 | false => rw [jZL hi];exact Nat.zero_le _
 | true =>
  rw [jdM hi]
  have h2 := jNY.1 hi
  unfold jh0 at h
  rw [List.all_eq_true] at h
  have hm : nd l i ∈ l := by
   have e : nd l i = l[i.toNat] := by unfold nd;rw [List.getD_eq_getElem?_getD,List.getElem?_eq_getElem (by omega)];rfl
   rw [e];exact List.getElem_mem _
  simpa using h _ hm
instance s56m (t : List jKH) (l : List Int) (nm : List UInt8) : FnM BB 304 [.agg [.rd jKA t],.rd jKG l,.str nm] [] (nm.length ≤ 100000 ∧ l.length ≤ 100000) (.own 0) [(0,.own jKG (l.take (jjC (fun x => isE t x nm) l l.length)))] := by
 refine FnM.intro (N := 29) [0,1,2,3,6,7,10,25] [] 0 Tryz.call304 Tryz.func304 rfl rfl (by kernel_rfl) (fun hpre => ?_)
 repeat' ((conv => whnf);first|(with_reducible first|rfl|exact jKE|exact jKD)|exact True.intro|intro _|refine WA ?_ ?_|refine WF ?_|refine W1 rfl ?_ ?_|refine W2 rfl ?_ ?_|refine W3 rfl ?_ ?_|refine W4 ?_ ?_|refine W5 rfl ?_ ?_|refine W6 ?_ ?_|refine WN ?_|refine X1 (W1 rfl ?_ ?_)|refine X1 (W2 rfl ?_ ?_)|refine X2 (W7 rfl ?_ ?_)|refine X3 (W7 rfl ?_ ?_)|refine X4 (W7 rfl ?_ ?_)|refine X5 (W7 rfl ?_ ?_))
 all_goals (try (conv => whnf))
 all_goals (try first|exact obA|refine Ob.mk ?_)
 refine LoopStop.mk (α := Nat) (fun n => [(1,.rd jKG (l.take n))]) (fun _ => []) 20 (fun n => n ≤ l.length ∧ jjC (fun x => isE t x nm) l l.length = jjC (fun x => isE t x nm) l n) (fun n => n) l.length (by simp) ?_ (fun n hC => ?_)
 ·repeat' ((conv => whnf);first|(with_reducible first|rfl|exact jKE|exact jKD)|exact True.intro|intro _|refine WA ?_ ?_|refine WF ?_|refine W1 rfl ?_ ?_|refine W2 rfl ?_ ?_|refine W3 rfl ?_ ?_|refine W4 ?_ ?_|refine W5 rfl ?_ ?_|refine W6 ?_ ?_|refine WN ?_|refine X1 (W1 rfl ?_ ?_)|refine X1 (W2 rfl ?_ ?_)|refine X2 (W7 rfl ?_ ?_)|refine X3 (W7 rfl ?_ ?_)|refine X4 (W7 rfl ?_ ?_)|refine X5 (W7 rfl ?_ ?_))
  all_goals (try (conv => whnf))
  all_goals (try first|exact obA|refine Ob.mk ?_)
  all_goals (first | rfl | (rw [List.take_of_length_le (Nat.le_refl _)];done))
 ·obtain ⟨hn,hC⟩ := hC
  have e0 := jdR hn
  have e1 : ((n : Int) - 1).toNat = n - 1 := by omega
  have e2 : 1 < n → (l.take n).getD (n - 1) jKG.dflt = l.getD (n - 1) 0 := fun h => jX6 (by omega)
  repeat' ((conv => whnf);first|(with_reducible first|rfl|exact jKE|exact jKD)|exact True.intro|intro _|refine WA ?_ ?_|refine WF ?_|refine W1 rfl ?_ ?_|refine W2 rfl ?_ ?_|refine W3 rfl ?_ ?_|refine W4 ?_ ?_|refine W5 rfl ?_ ?_|refine W6 ?_ ?_|refine WN ?_|refine X1 (W1 rfl ?_ ?_)|refine X1 (W2 rfl ?_ ?_)|refine X2 (W7 rfl ?_ ?_)|refine X3 (W7 rfl ?_ ?_)|refine X4 (W7 rfl ?_ ?_)|refine X5 (W7 rfl ?_ ?_))
  all_goals (try (conv => whnf))
  all_goals (try rw [e0] at *)
  all_goals (try rw [e1] at *)
  all_goals (try rw [jYH] at *)
  all_goals (try first|exact obA|refine Ob.mk ?_)
  ·rename_i h
   have h1 : 1 < n := by have := of_decide_eq_true ‹decide ((n : Int) > 1) = true›;omega
   rw [e2 h1] at h
   rw [hC.trans (jlB h1 h)];rfl
  ·rename_i h
   have h1 : 1 < n := by have := of_decide_eq_true ‹decide ((n : Int) > 1) = true›;omega
   rw [e2 h1] at h
   refine Rnd.mk ⟨n - 1,⟨by omega,hC.trans (jnF h1 h)⟩,by omega,?_,?_,?_⟩
   all_goals exact vcA
  ·have h1 : ¬ 1 < n := by have := of_decide_eq_false ‹decide ((n : Int) > 1) = false›;omega
   rw [hC.trans (jk1 h1)];rfl
instance s58m (t : List jKH) (l : List Int) (nm : List UInt8) : FnM BB 340 [.agg [.rd jKA t],.rd jKG l,.str nm] [] (jl8 t ∧ nm.length ≤ 100000 ∧ l.length ≤ 100000) (.own 0) [(0,.own jKG (l.take (jf1 (jZF t nm) l l.length)))] := by
 refine FnM.intro (N := 44) [0,1,2,3,6,7,10,35] [(2,[0,0,0,0,0,0,0,6,6,6])] 0 Tryz.call340 Tryz.func340 rfl rfl (by kernel_rfl) (fun hpre => ?_)
 repeat' ((conv => whnf);first|(with_reducible first|rfl|exact jKE|exact jKD)|exact True.intro|intro _|refine WA ?_ ?_|refine WF ?_|refine W1 rfl ?_ ?_|refine W2 rfl ?_ ?_|refine W3 rfl ?_ ?_|refine W4 ?_ ?_|refine W5 rfl ?_ ?_|refine W6 ?_ ?_|refine WN ?_|refine X1 (W1 rfl ?_ ?_)|refine X1 (W2 rfl ?_ ?_)|refine X2 (W7 rfl ?_ ?_)|refine X3 (W7 rfl ?_ ?_)|refine X4 (W7 rfl ?_ ?_)|refine X5 (W7 rfl ?_ ?_))
 all_goals (try (conv => whnf))
 all_goals (try first|exact obA|refine Ob.mk ?_)
 refine LoopStop.mk (α := Nat) (fun n => [(1,.rd jKG (l.take n))]) (fun _ => []) 20 (fun n => n ≤ l.length ∧ jf1 (jZF t nm) l l.length = jf1 (jZF t nm) l n) (fun n => n) l.length (by simp) ?_ (fun n hC => ?_)
 ·repeat' ((conv => whnf);first|(with_reducible first|rfl|exact jKE|exact jKD)|exact True.intro|intro _|refine WA ?_ ?_|refine WF ?_|refine W1 rfl ?_ ?_|refine W2 rfl ?_ ?_|refine W3 rfl ?_ ?_|refine W4 ?_ ?_|refine W5 rfl ?_ ?_|refine W6 ?_ ?_|refine WN ?_|refine X1 (W1 rfl ?_ ?_)|refine X1 (W2 rfl ?_ ?_)|refine X2 (W7 rfl ?_ ?_)|refine X3 (W7 rfl ?_ ?_)|refine X4 (W7 rfl ?_ ?_)|refine X5 (W7 rfl ?_ ?_))
  all_goals (try (conv => whnf))
  all_goals (try first|exact obA|refine Ob.mk ?_)
  all_goals (first | rfl | (rw [List.take_of_length_le (Nat.le_refl _)];done))
 ·obtain ⟨hn,hC⟩ := hC
  have e0 := jdR hn
  have e1 : ((n : Int) - 1).toNat = n - 1 := by omega
  have e2 : 1 < n → (l.take n).getD (n - 1) jKG.dflt = l.getD (n - 1) 0 := fun h => jX6 (by omega)
  have e3 := hpre.1 ((l.take n).getD (n - 1) jKG.dflt)
  repeat' ((conv => whnf);first|(with_reducible first|rfl|exact jKE|exact jKD)|exact True.intro|intro _|refine WA ?_ ?_|refine WF ?_|refine W1 rfl ?_ ?_|refine W2 rfl ?_ ?_|refine W3 rfl ?_ ?_|refine W4 ?_ ?_|refine W5 rfl ?_ ?_|refine W6 ?_ ?_|refine WN ?_|refine X1 (W1 rfl ?_ ?_)|refine X1 (W2 rfl ?_ ?_)|refine X2 (W7 rfl ?_ ?_)|refine X3 (W7 rfl ?_ ?_)|refine X4 (W7 rfl ?_ ?_)|refine X5 (W7 rfl ?_ ?_))
  all_goals (try (conv => whnf))
  all_goals (try rw [e0] at *)
  all_goals (try rw [e1] at *)
  all_goals (try rw [jYH] at *)
  all_goals (try first|exact obA|refine Ob.mk ?_)
  ·rename_i h1 h
   have h1 : 1 < n := by have := of_decide_eq_true h1;omega
   have h : (!jZF t nm ((l.take n).getD (n - 1) jKG.dflt)) = true := by rw [jZY];exact h
   rw [e2 h1] at h
   rw [hC.trans (jhH h1 (by simpa using h))];rfl
  ·rename_i h1 h hz
   have h1 : 1 < n := by have := of_decide_eq_true h1;omega
   have h : (!jZF t nm ((l.take n).getD (n - 1) jKG.dflt)) = false := by rw [jZY];exact h
   rw [e2 h1] at h
   refine Rnd.mk ⟨n - 1,⟨by omega,hC.trans (jnA h1 (by simpa using h))⟩,by omega,?_,?_,?_⟩
   all_goals exact vcA
  ·rename_i h1
   have h1 : ¬ 1 < n := by have := of_decide_eq_false h1;omega
   rw [hC.trans (jjJ h1)];rfl
instance (priority := 3000) qAImplied (t : List jKH) (op : List Int) (nm : List UInt8) (md bk lx fm hd : Int) (fo sk : Bool) (ins : List UInt8) :
  FnM BB 282 [.loc 0 0,.str nm] [(0,.box [.own 1,.own 2,.nils,.int .i64 md,.int .i64 bk,.int .i64 lx,.int .i64 fm,.int .i64 hd,.bool fo,.bool sk,.str ins]),(1,.own jKA t),(2,.own jKG (op))] (jh0 t = true ∧ nm.length ≤ 100000 ∧ op.length ≤ 100000)
   (.tup []) [(0,.box [.own 1,.own 2,.nils,.int .i64 md,.int .i64 bk,.int .i64 lx,.int .i64 fm,.int .i64 hd,.bool fo,.bool sk,.str ins]),(1,.own jKA t),(2,.own jKG (op.take (jf1 (jZF t nm) op op.length)))] := by
 refine FnM.intro (N := 17) [0,1] [(0,[0,0,0,0,1,0,0,0,1,0,3,0,0,3])] 3 Tryz.call282 Tryz.func282 rfl rfl (by kernel_rfl) (fun hpre => ?_)
 obtain ⟨h1,h2,h3⟩ := hpre
 have h1 := jhD h1
 repeat' ((conv => whnf);first|(with_reducible first|rfl|exact jKE|exact jKD)|exact True.intro|intro _|refine WA ?_ ?_|refine WF ?_|refine W1 rfl ?_ ?_|refine W2 rfl ?_ ?_|refine W3 rfl ?_ ?_|refine W4 ?_ ?_|refine W5 rfl ?_ ?_|refine W6 ?_ ?_|refine WN ?_|refine X1 (W1 rfl ?_ ?_)|refine X1 (W2 rfl ?_ ?_)|refine X2 (W7 rfl ?_ ?_)|refine X3 (W7 rfl ?_ ?_)|refine X4 (W7 rfl ?_ ?_)|refine X5 (W7 rfl ?_ ?_))
 all_goals (try (conv => whnf))
 all_goals (try first|exact obA|refine Ob.mk ?_)
 all_goals (first | exact ⟨h1,h2,h3⟩ | exact ⟨h2,h3⟩ | rfl | trace_state)
end Go.Vc

namespace Go.Vc
open Go.Proofs
set_option maxRecDepth 100000
set_option maxHeartbeats 40000000
noncomputable abbrev BA : Base := { BB with al := true }
instance (priority := 100) fnA {f : FuncId} {args : List SV} {pre : Prop} {res : SV} [h : Fn BB f args pre res] : Fn BA f args pre res := ⟨h.call,h.ok⟩
instance (priority := 100) fnmA {f : FuncId} {args : List SV} {Φ : Phi} {pre : Prop} {res : SV} {Φ' : Phi} [h : FnM BB f args Φ pre res Φ'] : FnM BA f args Φ pre res Φ' := ⟨h.call,h.ok⟩
@[simp] theorem kGW (t : TypeId) : jJ9 BA.P t = jJ9 BB.P t := rfl
noncomputable section
open Tryz
@[reducible] def iM {f : FuncId} {fn : Func} {c : Code} (N : Nat) (L : List Nat) (pl : List (Nat × List Nat)) (call : ∀ (vs : Array Value) (w : World),(callFunc f vs).run BA.P w = .ok (.enter f vs) w) (hf : BA.P.funcs[f]? = some fn) (hb : fn.body = some c) (hN : fn.ntmps = N) (hok : codeOk N pl c = true := by kernel_rfl) : Inl BA f := Inl.make (N := N) L pl call hf hb hN hok
instance : Inl BA 17 := iM 49 [0,1,2,3,4,14,37,42,48] [(1,[1,1,1,1,1,1,1,3,3,3])] call17 func17 rfl rfl
instance : Inl BA 18 := iM 72 [0,1,2,4,5,6,7,27,32,41,46,56,61,71] [] call18 func18 rfl rfl
instance : Inl BA 19 := iM 65 [0,1,2,3,4,5,6,7,8,9,10,11,34,49] [(5,[0,1,0,1,3])] call19 func19 rfl rfl
instance : Inl BA 21 := iM 32 [0,1,2,3,4,5,12,17,31] [(6,[0,1,0,1,1,0,1,0,1,1,3,3])] call21 func21 rfl rfl
instance : Inl BA 26 := iM 60 [0,1,2,4,5,6,7,8,18,36,51] [(6,[0,0,0,0,0,0,0,0,6,6])] call26 func26 rfl rfl
instance : Inl BA 27 := iM 30 [0,1,2,3,6,7,17] [] call27 func27 rfl rfl
instance : Inl BA 28 := iM 8 [0,1,2,4] [] call28 func28 rfl rfl
instance : Inl BA 33 := iM 19 [0,1,2,3,4,9] [] call33 func33 rfl rfl
instance : Inl BA 35 := iM 5 [0,1,2] [] call35 func35 rfl rfl
instance : Inl BA 40 := iM 62 [0,1,3,4,5,6,7,8,9,14,34] [(10,[0,0,0,1,0,0,1,1,3,3,3,3])] call40 func40 rfl rfl
instance : Inl BA 42 := iM 61 [0,1,2,4,5,6,7,8,9,25,28,35,41,54] [] call42 func42 rfl rfl
instance : Inl BA 44 := iM 24 [0,1,4,18] [] call44 func44 rfl rfl
instance : Inl BA 47 := iM 48 [0,1,2,4,13,31,41,47] [] call47 func47 rfl rfl
instance : Inl BA 50 := iM 35 [0,1,4,5,6,12,16,32] [] call50 func50 rfl rfl
instance : Inl BA 52 := iM 67 [0,1,2,3,4,8,9,28,30,35,65] [] call52 func52 rfl rfl
instance : Inl BA 53 := iM 26 [0,1,4,5,10,14,25] [(6,[0,0,1,1,0,0,1,1,3])] call53 func53 rfl rfl
instance : Inl BA 55 := iM 90 [0,1,2,3,4,5,6,7,8,9,15,30,51] [(6,[0,0,0,0,0,0,0,0,6,6]),(10,[1,0,1,0,1,1,1,1,0,1,0,1,1,1,3,3]),(14,[0,0,0,1,1,0,1,0,1,1,1,0,0,0,1,1,1,0,0,1,1,0,1,0,1,1,1,0,0,1,1,1,3,3,3,3])] call55 func55 rfl rfl
instance : Inl BA 59 := iM 28 [0,1,4,5,7] [(5,[0,0,0,1,0,0,0,0,1,1,1,1,1,1,3,3])] call59 func59 rfl rfl
instance : Inl BA 70 := iM 95 [0,1,2,4,5,6,7,18,56,80] [(8,[0,0,0,1,1,1,1,1,1,1,1,1,1,1,1,1,3,3,3,3,3])] call70 func70 rfl rfl
instance : Inl BA 71 := iM 16 [0,2,3,7,13] [] call71 func71 rfl rfl
instance : Inl BA 73 := iM 77 [0,1,2,4,5,6,21,46,51,76] [] call73 func73 rfl rfl
instance : Inl BA 74 := iM 4 [0] [] call74 func74 rfl rfl
instance : Inl BA 75 := iM 21 [0,1,2,5,6,7] [] call75 func75 rfl rfl
instance : Inl BA 76 := iM 53 [0,1,2,3,4,5,12,13,14,15,16,27,34] [(7,[0,1,0,0,1,1,0,0,1,1,1,1,3,0,3])] call76 func76 rfl rfl
instance : Inl BA 77 := iM 13 [0,1,2,7] [] call77 func77 rfl rfl
instance : Inl BA 78 := iM 68 [0,1,2,6,7,8,9,13,34,44] [(10,[0,0,0,1,0,1,1,1,0,1,0,1,1,1,0,1,0,1,1,1,3])] call78 func78 rfl rfl
instance : Inl BA 79 := iM 64 [0,1,2,3,4,7,10,11,20,47] [(7,[0,0,0,0,1,0,1,1,1,1,0,0,3])] call79 func79 rfl rfl
instance : Inl BA 82 := iM 71 [0,1,2,3,4,5,47,52,65] [(6,[0,1,0,1,1,0,1,0,1,1,3])] call82 func82 rfl rfl
instance : Inl BA 85 := iM 15 [0,1,2,4,5] [] call85 func85 rfl rfl
instance : Inl BA 87 := iM 65 [0,1,2,3,4,8,9,10,11,21,60] [(5,[0,0,0,0,0,0,0,0,6,6]),(6,[0,1,1,1,1,1,1,1,1,1,1,1,1,1,1,1,1,1,1,1,1,1,1,1,1,1,1,3,3])] call87 func87 rfl rfl
instance : Inl BA 92 := iM 68 [0,1,2,4,5,6,7,8,9,10,26,35,44,52,63] [(14,[0,1,0,0,1,1,3,3,3])] call92 func92 rfl rfl
instance : Inl BA 93 := iM 19 [0,1,2,4] [] call93 func93 rfl rfl
instance : Inl BA 98 := iM 22 [0,2,3,4,8,12] [] call98 func98 rfl rfl
instance : Inl BA 100 := iM 58 [0,1,2,4,5,6,7,12,16,24,42] [(9,[0,1,1,1,1,1,1,1,1,1,3,3,3])] call100 func100 rfl rfl
instance : Inl BA 101 := iM 19 [0,1,2,4] [] call101 func101 rfl rfl
instance : Inl BA 105 := iM 13 [0,2,3,10] [] call105 func105 rfl rfl
instance : Inl BA 109 := iM 8 [0,1,2,4] [] call109 func109 rfl rfl
instance : Inl BA 110 := iM 15 [0,1,2,4,5,10] [] call110 func110 rfl rfl
instance : Inl BA 114 := iM 34 [0,2,3,4,10] [] call114 func114 rfl rfl
instance : Inl BA 115 := iM 46 [0,1,4,5,6,7,35,42,44,45] [] call115 func115 rfl rfl
instance : Inl BA 123 := iM 29 [0,1,2,4,5,6,7,14] [(6,[0,0,1,0,0,1,1,3,3,3,3,3])] call123 func123 rfl rfl
instance : Inl BA 124 := iM 82 [0,1,3,4,5,6,7,18,23,54,60] [] call124 func124 rfl rfl
instance : Inl BA 125 := iM 50 [0,1,2,3,4,9,31,34,49] [(4,[0,1,0,1,0,1,1,1,1,1,1,1,1,1,3,3,3,3,3,3]),(9,[0,1,0,1,1,1,0,1,0,1,1,1,3])] call125 func125 rfl rfl
instance : Inl BA 126 := iM 34 [0,1,4,5,26] [] call126 func126 rfl rfl
instance : Inl BA 128 := iM 19 [0,1,2,4] [] call128 func128 rfl rfl
instance : Inl BA 129 := iM 13 [0,2,5] [] call129 func129 rfl rfl
instance : Inl BA 130 := iM 8 [0,2] [] call130 func130 rfl rfl
instance : Inl BA 132 := iM 26 [0,1,4] [] call132 func132 rfl rfl
instance : Inl BA 133 := iM 28 [0,1,3,4] [(3,[0,0,0,0,1,1,1,3,0,0,3]),(5000003,[3])] call133 func133 rfl rfl
instance : Inl BA 134 := iM 69 [0,1,2,3,8,34] [(3,[0,0,0,1,0,0,0,0,1,1,1,0,1,3,3,3])] call134 func134 rfl rfl
instance : Inl BA 152 := iM 63 [0,2,3,4,5,16,42,50,58] [(4,[0,0,0,0,0,0,0,0,0,0,0,0,0,0,6,6])] call152 func152 rfl rfl
instance : Inl BA 154 := iM 43 [0,1,4,5,10] [(3,[0,0,0,0,1,0,0,0,1,1,3,3,3,3]),(4,[0,0,0,0,7,0,0,0,0,4,4,4,4,4,4,4,4,4,4,4]),(3000004,[649,714,779,844,909,974,1039,1104,1169,1234])] call154 func154 rfl rfl
instance : Inl BA 155 := iM 57 [0,1,4,15,20,35,50] [] call155 func155 rfl rfl
instance : Inl BA 159 := iM 19 [0,1,4,6,10] [] call159 func159 rfl rfl
instance : Inl BA 160 := iM 19 [0,1,2] [] call160 func160 rfl rfl
instance : Inl BA 161 := iM 55 [0,2,3,4,5,6,7,8,24,31,36,42,50] [(14,[1,0,0,1,1,3])] call161 func161 rfl rfl
instance : Inl BA 162 := iM 89 [0,1,3,4,5,10,24,30,48,62,79] [] call162 func162 rfl rfl
instance : Inl BA 163 := iM 62 [0,1,4,5,6,7,9,11,14,22,26,61] [] call163 func163 rfl rfl
instance : Inl BA 164 := iM 16 [0,2,3,7,13] [] call164 func164 rfl rfl
instance : Inl BA 165 := iM 15 [0,2,3,7,14] [] call165 func165 rfl rfl
instance : Inl BA 167 := iM 64 [0,2,3,4,5,6,10,26,34,50] [] call167 func167 rfl rfl
instance : Inl BA 169 := iM 77 [0,1,4,5,6,7,14,33,38,69] [] call169 func169 rfl rfl
instance : Inl BA 182 := iM 71 [0,1,2,3,8,9,10,11,17,25,40,42,52,58,67,69,70] [] call182 func182 rfl rfl
instance : Inl BA 184 := iM 93 [0,1,2,3,8,9,10,11,12,14,16,18,27,39,49,57,71] [] call184 func184 rfl rfl
instance : Inl BA 185 := iM 38 [0,2,3,16,28] [] call185 func185 rfl rfl
instance : Inl BA 186 := iM 77 [0,1,3,4,5,23,45,63] [] call186 func186 rfl rfl
instance : Inl BA 187 := iM 132 [0,1,4,5,6,11,22,40,44,50,73,94,115] [(11,[0,0,0,0,1,0,0,0,1,1,1,1,1,3]),(13,[0,1,0,0,0,1,0,0,0,1,1,1,1,3,0,0,3]),(20,[0,1,0,0,0,1,0,0,0,1,1,1,1,3,0,0,3])] call187 func187 rfl rfl
instance : Inl BA 188 := iM 92 [0,1,4,9,22,33,41,46,72,77,85] [] call188 func188 rfl rfl
instance : Inl BA 189 := iM 55 [0,1,4,9,17,25,33,41] [] call189 func189 rfl rfl
instance : Inl BA 190 := iM 109 [0,1,4,16,42,56,65,76,87,95] [] call190 func190 rfl rfl
instance : Inl BA 191 := iM 70 [0,1,4,9,17,25,33,41,49] [] call191 func191 rfl rfl
instance : Inl BA 192 := iM 16 [0,1,2] [] call192 func192 rfl rfl
instance : Inl BA 193 := iM 48 [0,1,2,3,4,17] [] call193 func193 rfl rfl
instance : Inl BA 194 := iM 33 [0,1,2,6,7,12,20,32] [(6,[0,0,0,1,1,1,0,0,1,1,1,3])] call194 func194 rfl rfl
instance : Inl BA 197 := iM 15 [0,2,3,7,14] [] call197 func197 rfl rfl
instance : Inl BA 198 := iM 27 [0,2,3,8,21,26] [(4,[0,0,1,1,1,0,0,1,1,1,3])] call198 func198 rfl rfl
instance : Inl BA 199 := iM 38 [0,1,4,5,10,18,37] [(6,[0,0,1,1,1,0,0,1,1,1,1,1,1,1,3,3,3,3,3])] call199 func199 rfl rfl
instance : Inl BA 200 := iM 33 [0,2,3,4,10,24] [] call200 func200 rfl rfl
instance : Inl BA 201 := iM 70 [0,2,3,4,5,6,7,8,13,19,25,31,33,35,37,39,41,44,66] [] call201 func201 rfl rfl
instance : Inl BA 202 := iM 20 [0,2,16] [] call202 func202 rfl rfl
instance : Inl BA 211 := iM 23 [0,1,4,5,8,22] [(4,[0,0,0,1,0,0,0,1,0,1,1,3])] call211 func211 rfl rfl
instance : Inl BA 212 := iM 72 [0,1,2,6,7,8,9,10,15,25,42,57] [] call212 func212 rfl rfl
instance : Inl BA 213 := iM 27 [0,1,4,5,6,7,8,9,17] [] call213 func213 rfl rfl
instance : Inl BA 214 := iM 39 [0,1,4,5,6,7,8,12,22] [] call214 func214 rfl rfl
instance : Inl BA 215 := iM 73 [0,1,4,5,6,22,24,47] [(6,[0,0,0,0,0,0,0,0,0,3,3,3])] call215 func215 rfl rfl
instance : Inl BA 216 := iM 51 [0,1,2,6,18] [(4,[0,0,0,0,0,0,0,0,0,3,3,3])] call216 func216 rfl rfl
instance : Inl BA 217 := iM 51 [0,1,2,4,6,8,11,22] [] call217 func217 rfl rfl
instance : Inl BA 218 := iM 64 [0,1,4,5,6,14,35,63] [(4,[0,0,0,0,1,0,0,0,1,0,1,1,1,1,1,3]),(8,[0,0,0,0,1,0,0,0,1,0,0,1,1,3,3,3,3])] call218 func218 rfl rfl
instance : Inl BA 219 := iM 50 [0,1,2,4,6,7,8,9] [(2,[0,0,0,0,0,1,0,1,3,3,3])] call219 func219 rfl rfl
instance : Inl BA 220 := iM 43 [0,1,2,4,5,6,7,9,17,26] [] call220 func220 rfl rfl
instance : Inl BA 221 := iM 100 [0,2,3,4,32,55,64] [(2,[0,0,0,1,1,1,1,1,1,1,1,1,1,1,1,1,1,1,3,3,3]),(3,[0,0,0,1,1,1,1,1,1,1,1,1,1,1,1,1,1,1,1,1,3,3,3]),(7,[0,0,0,0,0,1,0,0,0,1,0,1,1,3,3,3,3,3]),(8,[0,0,0,0,1,0,0,0,1,0,1,1,0,3,0,0,3])] call221 func221 rfl rfl
instance : Inl BA 222 := iM 124 [0,1,4,5,14,20,23,38,43,47,50,57,67,73,78,81,86,89,99] [(32,[0,1,0,0,0,1,0,0,0,1,1,1,1,3,0,0,3])] call222 func222 rfl rfl
instance : Inl BA 223 := iM 73 [0,1,4,17,55] [(2,[0,0,0,0,1,1,1,0,0,0,1,3]),(3,[0,0,0,1,1,1,1,1,1,1,1,1,1,1,1,1,1,1,1,1,1,1,1,1,3,3]),(4,[0,0,0,0,1,1,1,0,0,0,1,3])] call223 func223 rfl rfl
instance : Inl BA 224 := iM 26 [0,1,4,9,14,22] [] call224 func224 rfl rfl
instance : Inl BA 225 := iM 78 [0,1,4,5,6,7,25,34,41,50,54,63,68,74] [] call225 func225 rfl rfl
instance : Inl BA 226 := iM 31 [0,1,4,10,15,27] [] call226 func226 rfl rfl
instance : Inl BA 227 := iM 34 [0,1,4,10,12,24] [] call227 func227 rfl rfl
instance : Inl BA 228 := iM 84 [0,1,4,5,6,11,19,48,76] [(6,[0,0,0,0,1,0,0,0,1,0,1,1,1,1,1,3]),(7,[0,0,0,1,0,0,0,1,0,1,1,0,3]),(10,[0,1,0,1,1,1,1,1,1,1,1,1,1,1,1,1,1,3,3,3])] call228 func228 rfl rfl
instance : Inl BA 230 := iM 77 [0,1,4,5,23,54] [(0,[0,0,0,1,0,0,0,1,3,3]),(10,[0,0,0,0,1,0,0,0,1,0,3,0,0,3])] call230 func230 rfl rfl
instance : Inl BA 231 := iM 122 [0,1,4,5,15,29,37,39,53,57,65,69,82,115] [] call231 func231 rfl rfl
instance : Inl BA 232 := iM 90 [0,1,4,20,29,34,40,45,49,55,57,62,71,76] [] call232 func232 rfl rfl
instance : Inl BA 233 := iM 40 [0,1,4,11,14,36] [] call233 func233 rfl rfl
instance : Inl BA 234 := iM 68 [0,1,4,5,6,11,24,31,40,45,59] [] call234 func234 rfl rfl
instance : Inl BA 235 := iM 55 [0,1,4,5,7,18,28,44,51] [] call235 func235 rfl rfl
instance : Inl BA 236 := iM 45 [0,1,4,6,17,25,29,41] [] call236 func236 rfl rfl
instance : Inl BA 237 := iM 47 [0,1,4,5,7,13,26,35,39,43] [] call237 func237 rfl rfl
instance : Inl BA 238 := iM 18 [0,1,2,6] [(1,[0,0,0,1,0,0,0,1,0,0,3,3])] call238 func238 rfl rfl
instance : Inl BA 240 := iM 63 [0,1,4,9,24,31,43,50] [] call240 func240 rfl rfl
instance : Inl BA 241 := iM 54 [0,1,4,9,35,44,51] [(2,[0,1,1,1,1,1,1,1,1,1,1,1,1,1,1,1,1,1,1,3,3])] call241 func241 rfl rfl
instance : Inl BA 242 := iM 53 [0,1,4,6,7,13,18,32] [(9,[0,0,0,0,0,0,3,3,3,3]),(10,[0,0,0,0,0,0,0,3,3,0,3])] call242 func242 rfl rfl
instance : Inl BA 243 := iM 57 [0,1,4,6,23,28,49] [] call243 func243 rfl rfl
instance : Inl BA 244 := iM 55 [0,1,4,6,7,8,18,25,41] [] call244 func244 rfl rfl
instance : Inl BA 245 := iM 64 [0,1,4,5,6,7,8,35,42,46] [] call245 func245 rfl rfl
instance : Inl BA 246 := iM 109 [0,1,4,5,6,7,8,35,42,56,101] [(8,[0,0,0,1,1,1,1,1,1,1,1,3,3]),(9,[0,1,0,0,0,1,1,0,0,0,1,1,3,0,0,3]),(11,[0,0,0,0,1,0,0,0,1,3,0,0,3])] call246 func246 rfl rfl
instance : Inl BA 247 := iM 45 [0,1,4,9,27] [] call247 func247 rfl rfl
instance : Inl BA 248 := iM 117 [0,1,4,5,6,7,19,36,54,66,74,81,86,105,110] [(2,[0,0,0,0,1,0,0,0,1,1,1,3])] call248 func248 rfl rfl
instance : Inl BA 249 := iM 10 [0,1,4] [] call249 func249 rfl rfl
instance : Inl BA 259 := iM 37 [0,1,2,6,7,9,11,20,26,33] [] call259 func259 rfl rfl
instance : Inl BA 260 := iM 151 [0,2,3,4,5,6,7,8,9,10,19,36,61,76,103,117,122,130,141] [] call260 func260 rfl rfl
instance : Inl BA 261 := iM 92 [0,1,4,5,6,7,9,28,38,42,57,64,71,85] [] call261 func261 rfl rfl
instance : Inl BA 262 := iM 77 [0,1,4,5,6,7,8,15,23,33,45,73] [] call262 func262 rfl rfl
instance : Inl BA 263 := iM 126 [0,1,4,5,6,7,8,20,31,69,114] [(2,[0,0,0,1,0,0,0,1,3,3]),(4,[0,0,0,1,1,1,0,0,0,0,1,0,0,0,1,1,1,1,1,1,1,1,3]),(5,[0,0,0,0,1,0,0,0,1,0,1,1,3,3,3,3]),(7,[0,0,0,0,1,0,0,0,1,0,1,1,3,0,3]),(9,[0,0,0,0,0,3,0,3,3,3,3,0,3]),(12,[0,0,0,0,0,3,0,3,3,3,3,0,3])] call263 func263 rfl rfl
instance : Inl BA 265 := iM 24 [0,1,4,5,9,18] [] call265 func265 rfl rfl
instance : Inl BA 267 := iM 8 [0,1,2] [] call267 func267 rfl rfl
instance : Inl BA 268 := iM 29 [0,1,2,6,7,8,15,23] [] call268 func268 rfl rfl
instance : Inl BA 269 := iM 20 [0,1,2,3,8,13] [] call269 func269 rfl rfl
instance : Inl BA 270 := iM 28 [0,2,16] [] call270 func270 rfl rfl
instance : Inl BA 271 := iM 6 [0] [] call271 func271 rfl rfl
instance : Inl BA 272 := iM 1 [0] [] call272 func272 rfl rfl
instance : Inl BA 273 := iM 206 [0,1,4,5,6,7,8,9,10,11,12,13,14,15,16,33,38,52,60,73,78,166] [(8,[0,0,0,1,0,0,0,1,0,3,3]),(22,[0,0,0,1,0,1,1,0,0,0,1,0,0,1,1,1,1,3]),(34,[0,0,0,0,1,0,0,0,1,0,1,1,0,3,0,0,3]),(5000019,[2000])] call273 func273 rfl rfl
instance : Inl BA 274 := iM 72 [0,1,4,5,6,14,30,41,71] [(9,[0,0,0,0,1,0,1,1,1,0,0,0,0,1,0,1,1,1,3])] call274 func274 rfl rfl
instance : Inl BA 275 := iM 11 [0,2] [] call275 func275 rfl rfl
instance : Inl BA 276 := iM 35 [0,1,2,6,10] [(3,[0,0,0,0,1,0,0,0,0,0,1,0,1,1,1,0,0,1,1,1,3,3,3])] call276 func276 rfl rfl
instance : Inl BA 277 := iM 11 [0,1] [] call277 func277 rfl rfl
instance : Inl BA 278 := iM 27 [0,1] [] call278 func278 rfl rfl
instance : Inl BA 279 := iM 6 [0,3] [] call279 func279 rfl rfl
instance : Inl BA 280 := iM 16 [0,1,4] [(1,[0,0,0,1,0,0,0,1,1,0,3,3])] call280 func280 rfl rfl
instance : Inl BA 283 := iM 64 [0,1,2,3,6,7,14,59] [(4,[1,0,0,1,1,1,1,1,1,1,1,1,1,1,1,1,1,1,1,1,1,1,1,1,1,1,1,1,1,1,1,1,1,1,1,1,1,1,1,1,1,3,3])] call283 func283 rfl rfl
instance : Inl BA 284 := iM 27 [0,1,4,5,6,10,18] [] call284 func284 rfl rfl
instance : Inl BA 285 := iM 31 [0,1,4,5,6,10,22] [] call285 func285 rfl rfl
instance : Inl BA 286 := iM 55 [0,1,2,3,6,7,8,9,10,11,18,27,34,43] [(5,[1,0,0,1,1,0,3])] call286 func286 rfl rfl
instance : Inl BA 287 := iM 12 [0,1,4] [] call287 func287 rfl rfl
instance : Inl BA 288 := iM 28 [0,1,4,9] [] call288 func288 rfl rfl
instance : Inl BA 289 := iM 18 [0,1,4] [] call289 func289 rfl rfl
instance : Inl BA 290 := iM 1 [0] [] call290 func290 rfl rfl
instance : Inl BA 291 := iM 50 [0,1,4,11,23,33,41] [] call291 func291 rfl rfl
instance : Inl BA 292 := iM 10 [0,2,5] [] call292 func292 rfl rfl
instance : Inl BA 293 := iM 18 [0,1,4] [] call293 func293 rfl rfl
instance : Inl BA 294 := iM 22 [0,2,3,4] [] call294 func294 rfl rfl
instance : Inl BA 295 := iM 18 [0] [(0,[0,1,0,0,0,1,0,0,0,1,1,1,1,3,0,0,3])] call295 func295 rfl rfl
instance : Inl BA 296 := iM 16 [0,1,4,5] [] call296 func296 rfl rfl
instance : Inl BA 297 := iM 23 [0,2,3,4,14] [(4,[0,0,0,0,0,0,0,0])] call297 func297 rfl rfl
instance : Inl BA 299 := iM 13 [0,1,2,4] [] call299 func299 rfl rfl
instance : Inl BA 300 := iM 22 [0,1,2,3,8,12] [] call300 func300 rfl rfl
instance : Inl BA 301 := iM 13 [0] [] call301 func301 rfl rfl
instance : Inl BA 302 := iM 20 [0,1] [] call302 func302 rfl rfl
instance : Inl BA 305 := iM 31 [0,1,14] [(1,[0,1,0,0,0,1,0,0,0,1,1,1,1,3,0,0,3])] call305 func305 rfl rfl
instance : Inl BA 306 := iM 10 [0,2,5] [] call306 func306 rfl rfl
instance : Inl BA 307 := iM 26 [0,2,3,4,5,10] [] call307 func307 rfl rfl
instance : Inl BA 308 := iM 19 [0,1,4] [] call308 func308 rfl rfl
instance : Inl BA 309 := iM 9 [0,1,4] [] call309 func309 rfl rfl
instance : Inl BA 310 := iM 44 [0,1,4,5,10,28] [] call310 func310 rfl rfl
instance : Inl BA 311 := iM 24 [0,7] [(1,[0,1,0,0,0,1,0,0,0,1,1,1,1,3,0,0,3])] call311 func311 rfl rfl
instance : Inl BA 312 := iM 1 [0] [] call312 func312 rfl rfl
instance : Inl BA 315 := iM 53 [0,1,4,5,6,7,11,21,28,36,42,48] [] call315 func315 rfl rfl
instance : Inl BA 316 := iM 51 [0,1,4,5,34] [] call316 func316 rfl rfl
instance : Inl BA 317 := iM 17 [0,2] [] call317 func317 rfl rfl
instance : Inl BA 318 := iM 18 [0,1,4,14] [] call318 func318 rfl rfl
instance : Inl BA 319 := iM 82 [0,1,4,5,6,7,8,9,10,11,42,63] [] call319 func319 rfl rfl
instance : Inl BA 321 := iM 18 [0,1,4] [] call321 func321 rfl rfl
instance : Inl BA 322 := iM 51 [0,2,3,4,5,6,7,10,13,28,44] [] call322 func322 rfl rfl
instance : Inl BA 323 := iM 46 [0,2,3,4,5,6,7,20,33] [] call323 func323 rfl rfl
instance : Inl BA 324 := iM 30 [0,1,2,6,7,15,26] [] call324 func324 rfl rfl
instance : Inl BA 325 := iM 21 [0,1,4,5,6,7] [] call325 func325 rfl rfl
instance : Inl BA 326 := iM 64 [0,2,3,4,5,6,7,8,21,26,37,48,58] [] call326 func326 rfl rfl
instance : Inl BA 327 := iM 44 [0,2,3,4,5,6,7,15,38] [] call327 func327 rfl rfl
instance : Inl BA 328 := iM 13 [0,2] [] call328 func328 rfl rfl
instance : Inl BA 331 := iM 45 [0,1,4,5,6,14,25,44] [(6,[0,0,0,0,1,0,0,0,1,0,1,1,1,1,1,3])] call331 func331 rfl rfl
instance : Inl BA 332 := iM 37 [0,1,4,5,6,15,36] [(4,[0,0,0,0,1,0,0,0,1,0,1,1,1,1,1,3])] call332 func332 rfl rfl
instance : Inl BA 333 := iM 38 [0,1,4,5,6,15,36] [(4,[0,0,0,0,1,0,0,0,1,0,1,1,1,1,1,3])] call333 func333 rfl rfl
instance : Inl BA 334 := iM 119 [0,1,2,3,8,9,10,11,12,13,14,15,36,50,62,71,106] [] call334 func334 rfl rfl
instance : Inl BA 335 := iM 25 [0,1,4,5] [(2,[0,0,0,0,1,0,1,0,1,3,3,3])] call335 func335 rfl rfl
instance : Inl BA 336 := iM 89 [0,1,2,6,7,29,41,51] [(5,[0,0,1,0,0,1,1,3]),(6,[0,0,0,1,0,0,1,1,0,3,3,3]),(7,[0,0,0,1,0,1,0,0,0,1,0,1,1,1,1,0,1,3,3,3])] call336 func336 rfl rfl
instance : Inl BA 337 := iM 22 [0,1,2] [(0,[0,0,0,0,0,0,0,0,3,0,3,3,3,3,0,3])] call337 func337 rfl rfl
instance : Inl BA 338 := iM 24 [0,1,2,6] [(2,[1,0,0,0,1,0,1,3,0,0,0,3,3])] call338 func338 rfl rfl
instance : Inl BA 339 := iM 18 [0,2,3,8,15] [] call339 func339 rfl rfl
instance : Inl BA 341 := iM 14 [0,1,2,4] [] call341 func341 rfl rfl
instance : Inl BA 342 := iM 48 [0,1,2,3,6,7,8,18] [(3,[0,1,0,1,1,0,1,0,1,1,1,1,1,3])] call342 func342 rfl rfl
instance : Inl BA 344 := iM 18 [0,1,4] [] call344 func344 rfl rfl
instance : Inl BA 345 := iM 31 [0,2] [] call345 func345 rfl rfl
instance : Inl BA 346 := iM 72 [0,1,4,5,6,7,8,12,23,29,38,64] [(7,[0,0,0,0,0,0,0])] call346 func346 rfl rfl
instance : Inl BA 347 := iM 52 [0,2,13,29,45] [] call347 func347 rfl rfl
instance : Inl BA 348 := iM 32 [0,2,8,17,27] [] call348 func348 rfl rfl
instance : Inl BA 349 := iM 29 [0,2,3,4,5,11,19,26] [] call349 func349 rfl rfl
instance : Inl BA 350 := iM 4 [0,1] [] call350 func350 rfl rfl
instance : Inl BA 352 := iM 20 [0,1,4] [] call352 func352 rfl rfl
instance : Inl BA 353 := iM 34 [0,1,4,5,6,7,11,17,33] [(8,[0,0,1,1,1,1,1,1,1,1,3,3,3])] call353 func353 rfl rfl
end
end Go.Vc

namespace Go.Vc
open Go.Proofs
set_option maxRecDepth 100000
set_option maxHeartbeats 40000000
set_option pp.deepTerms true
set_option pp.maxSteps 2000000
instance (priority := 5000) ZN_0 : FnM BA 154 [.loc 0 0,.loc 3 0] [(0,.box [.own 1,.own 2,.nils,.int .i64 5,.int .i64 0,.int .i64 0,.int .i64 0,.int .i64 0,.bool false,.bool false,.str [100,105,118]]),(1,.own jKA [((0 : Int),(0 : Int),([] : List UInt8),([] : List jKK),([] : List UInt8),(-1 : Int),([1] : List Int)),((1 : Int),(0 : Int),([104,116,109,108] : List UInt8),([] : List jKK),([] : List UInt8),(0 : Int),([] : List Int))]),(2,.own jKG [1]),(3,.box [.str (60 :: 111 :: 117 :: 116 :: 112 :: 117 :: 116 :: 32 :: 102 :: 111 :: 114 :: 61 :: 39 :: 97 :: 32 :: 98 :: 39 :: 62 :: 60 :: 47 :: 111 :: 117 :: 116 :: 112 :: 117 :: 116 :: 62 :: 60 :: 97 :: 32 :: 104 :: 114 :: 101 :: 102 :: 61 :: 35 :: 99 :: 32 :: 110 :: 97 :: 109 :: 101 :: 61 :: 100 :: 62 :: 60 :: 47 :: 97 :: 62 :: [])])] True (.agg [.int .i64 1,.str [111,117,116,112,117,116],.rd jKP [([102,111,114],[97,32,98])],.bool false,.str []]) [(0,.box [.own 1,.own 2,.nils,.int .i64 5,.int .i64 0,.int .i64 0,.int .i64 0,.int .i64 0,.bool false,.bool false,.str [100,105,118]]),(1,.own jKA [((0 : Int),(0 : Int),([] : List UInt8),([] : List jKK),([] : List UInt8),(-1 : Int),([1] : List Int)),((1 : Int),(0 : Int),([104,116,109,108] : List UInt8),([] : List jKK),([] : List UInt8),(0 : Int),([] : List Int))]),(2,.own jKG [1]),(3,.box [.str [60,47,111,117,116,112,117,116,62,60,97,32,104,114,101,102,61,35,99,32,110,97,109,101,61,100,62,60,47,97,62]])] := by
 refine FnM.intro (N := 43) [0,1,4,5,10] [(3,[0,0,0,0,1,0,0,0,1,1,3,3,3,3]),(4,[0,0,0,0,7,0,0,0,0,4,4,4,4,4,4,4,4,4,4,4]),(3000004,[649,714,779,844,909,974,1039,1104,1169,1234])] 4 Tryz.call154 Tryz.func154 rfl rfl (by kernel_rfl) (fun hpre => ?_)
 repeat' ((conv => whnf);first|(with_reducible first|rfl|exact jKE|exact jKD)|exact True.intro|(intro hq;first|(exfalso;revert hq;decide +kernel)|clear hq|skip)|refine WA ?_ ?_|refine WF ?_|refine W1 rfl ?_ ?_|refine W2 rfl ?_ ?_|refine W3 rfl ?_ ?_|refine W4 ?_ ?_|refine W5 rfl ?_ ?_|refine W6 ?_ ?_|refine WN ?_|refine X1 (W1 rfl ?_ ?_)|refine X1 (W2 rfl ?_ ?_)|refine X2 (W7 rfl ?_ ?_)|refine X3 (W7 rfl ?_ ?_)|refine X4 (W7 rfl ?_ ?_)|refine X5 (W7 rfl ?_ ?_)|refine X7 (by conv => lhs;cbv) rfl ?_|refine X8 (by conv => lhs;cbv) ?_|refine LoopStop.ug 500 ?_|refine ZStop.dir ?_|(refine Ob.mk ?_;decide +kernel))
 all_goals (first | rfl | decide +kernel)
end Go.Vc

namespace Go.Vc
open Go.Proofs
set_option maxRecDepth 100000
set_option maxHeartbeats 40000000
set_option pp.deepTerms true
set_option pp.maxSteps 2000000
instance (priority := 5000) ZN_1 : FnM BA 155 [.loc 0 0,.loc 3 0] [(0,.box [.own 1,.own 2,.nils,.int .i64 5,.int .i64 0,.int .i64 0,.int .i64 0,.int .i64 0,.bool false,.bool false,.str [100,105,118]]),(1,.own jKA [((0 : Int),(0 : Int),([] : List UInt8),([] : List jKK),([] : List UInt8),(-1 : Int),([1] : List Int)),((1 : Int),(0 : Int),([104,116,109,108] : List UInt8),([] : List jKK),([] : List UInt8),(0 : Int),([] : List Int))]),(2,.own jKG [1]),(3,.box [.int .i64 1,.str [111,117,116,112,117,116],.rd jKP [([102,111,114],[97,32,98])],.bool false,.str []])] True (.bool false) [(0,.box [.own 1,.own 4,.nils,.int .i64 5,.int .i64 0,.int .i64 0,.int .i64 0,.int .i64 0,.bool false,.bool false,.str [100,105,118]]),(1,.own jKA [((0 : Int),(0 : Int),([] : List UInt8),([] : List jKK),([] : List UInt8),(-1 : Int),([1] : List Int)),((1 : Int),(0 : Int),([104,116,109,108] : List UInt8),([] : List jKK),([] : List UInt8),(0 : Int),([2] : List Int)),((1 : Int),(0 : Int),([111,117,116,112,117,116] : List UInt8),([([102,111,114],[97,32,98])] : List jKK),([] : List UInt8),(1 : Int),([] : List Int))]),(4,.own jKG [1,2]),(3,.box [.int .i64 1,.str [111,117,116,112,117,116],.rd jKP [([102,111,114],[97,32,98])],.bool false,.str []])] := by
 refine FnM.intro (N := 57) [0,1,4,15,20,35,50] [] 4 Tryz.call155 Tryz.func155 rfl rfl (by kernel_rfl) (fun hpre => ?_)
 repeat' ((conv => whnf);first|(with_reducible first|rfl|exact jKE|exact jKD)|exact True.intro|(intro hq;first|(exfalso;revert hq;decide +kernel)|clear hq|skip)|refine WA ?_ ?_|refine WF ?_|refine W1 rfl ?_ ?_|refine W2 rfl ?_ ?_|refine W3 rfl ?_ ?_|refine W4 ?_ ?_|refine W5 rfl ?_ ?_|refine W6 ?_ ?_|refine WN ?_|refine X1 (W1 rfl ?_ ?_)|refine X1 (W2 rfl ?_ ?_)|refine X2 (W7 rfl ?_ ?_)|refine X3 (W7 rfl ?_ ?_)|refine X4 (W7 rfl ?_ ?_)|refine X5 (W7 rfl ?_ ?_)|refine X7 (by conv => lhs;cbv) rfl ?_|refine X8 (by conv => lhs;cbv) ?_|refine LoopStop.ug 500 ?_|refine ZStop.dir ?_|(refine Ob.mk ?_;decide +kernel))
 all_goals (first | rfl | decide +kernel)
end Go.Vc

namespace Go.Vc
open Go.Proofs
set_option maxRecDepth 100000
set_option maxHeartbeats 40000000
set_option pp.deepTerms true
set_option pp.maxSteps 2000000
instance (priority := 5000) ZN_2 : FnM BA 154 [.loc 0 0,.loc 3 0] [(0,.box [.own 1,.own 2,.nils,.int .i64 5,.int .i64 0,.int .i64 0,.int .i64 0,.int .i64 0,.bool false,.bool false,.str [100,105,118]]),(1,.own jKA [((0 : Int),(0 : Int),([] : List UInt8),([] : List jKK),([] : List UInt8),(-1 : Int),([1] : List Int)),((1 : Int),(0 : Int),([104,116,109,108] : List UInt8),([] : List jKK),([] : List UInt8),(0 : Int),([2] : List Int)),((1 : Int),(0 : Int),([111,117,116,112,117,116] : List UInt8),([([102,111,114],[97,32,98])] : List jKK),([] : List UInt8),(1 : Int),([] : List Int))]),(2,.own jKG [1,2]),(3,.box [.str [60,47,111,117,116,112,117,116,62,60,97,32,104,114,101,102,61,35,99,32,110,97,109,101,61,100,62,60,47,97,62]])] True (.agg [.int .i64 2,.str [111,117,116,112,117,116],.nils,.bool false,.str []]) [(0,.box [.own 1,.own 2,.nils,.int .i64 5,.int .i64 0,.int .i64 0,.int .i64 0,.int .i64 0,.bool false,.bool false,.str [100,105,118]]),(1,.own jKA [((0 : Int),(0 : Int),([] : List UInt8),([] : List jKK),([] : List UInt8),(-1 : Int),([1] : List Int)),((1 : Int),(0 : Int),([104,116,109,108] : List UInt8),([] : List jKK),([] : List UInt8),(0 : Int),([2] : List Int)),((1 : Int),(0 : Int),([111,117,116,112,117,116] : List UInt8),([([102,111,114],[97,32,98])] : List jKK),([] : List UInt8),(1 : Int),([] : List Int))]),(2,.own jKG [1,2]),(3,.box [.str [60,97,32,104,114,101,102,61,35,99,32,110,97,109,101,61,100,62,60,47,97,62]])] := by
 refine FnM.intro (N := 43) [0,1,4,5,10] [(3,[0,0,0,0,1,0,0,0,1,1,3,3,3,3]),(4,[0,0,0,0,7,0,0,0,0,4,4,4,4,4,4,4,4,4,4,4]),(3000004,[649,714,779,844,909,974,1039,1104,1169,1234])] 4 Tryz.call154 Tryz.func154 rfl rfl (by kernel_rfl) (fun hpre => ?_)
 repeat' ((conv => whnf);first|(with_reducible first|rfl|exact jKE|exact jKD)|exact True.intro|(intro hq;first|(exfalso;revert hq;decide +kernel)|clear hq|skip)|refine WA ?_ ?_|refine WF ?_|refine W1 rfl ?_ ?_|refine W2 rfl ?_ ?_|refine W3 rfl ?_ ?_|refine W4 ?_ ?_|refine W5 rfl ?_ ?_|refine W6 ?_ ?_|refine WN ?_|refine X1 (W1 rfl ?_ ?_)|refine X1 (W2 rfl ?_ ?_)|refine X2 (W7 rfl ?_ ?_)|refine X3 (W7 rfl ?_ ?_)|refine X4 (W7 rfl ?_ ?_)|refine X5 (W7 rfl ?_ ?_)|refine X7 (by conv => lhs;cbv) rfl ?_|refine X8 (by conv => lhs;cbv) ?_|refine LoopStop.ug 500 ?_|refine ZStop.dir ?_|(refine Ob.mk ?_;decide +kernel))
 all_goals (first | rfl | decide +kernel)
end Go.Vc

namespace Go.Vc
open Go.Proofs
set_option maxRecDepth 100000
set_option maxHeartbeats 40000000
set_option pp.deepTerms true
set_option pp.maxSteps 2000000
instance (priority := 5000) ZN_3 : FnM BA 155 [.loc 0 0,.loc 3 0] [(0,.box [.own 1,.own 2,.nils,.int .i64 5,.int .i64 0,.int .i64 0,.int .i64 0,.int .i64 0,.bool false,.bool false,.str [100,105,118]]),(1,.own jKA [((0 : Int),(0 : Int),([] : List UInt8),([] : List jKK),([] : List UInt8),(-1 : Int),([1] : List Int)),((1 : Int),(0 : Int),([104,116,109,108] : List UInt8),([] : List jKK),([] : List UInt8),(0 : Int),([2] : List Int)),((1 : Int),(0 : Int),([111,117,116,112,117,116] : List UInt8),([([102,111,114],[97,32,98])] : List jKK),([] : List UInt8),(1 : Int),([] : List Int))]),(2,.own jKG [1,2]),(3,.box [.int .i64 2,.str [111,117,116,112,117,116],.nils,.bool false,.str []])] True (.bool false) [(0,.box [.own 1,.own 4,.nils,.int .i64 5,.int .i64 0,.int .i64 0,.int .i64 0,.int .i64 0,.bool false,.bool false,.str [100,105,118]]),(1,.own jKA [((0 : Int),(0 : Int),([] : List UInt8),([] : List jKK),([] : List UInt8),(-1 : Int),([1] : List Int)),((1 : Int),(0 : Int),([104,116,109,108] : List UInt8),([] : List jKK),([] : List UInt8),(0 : Int),([2] : List Int)),((1 : Int),(0 : Int),([111,117,116,112,117,116] : List UInt8),([([102,111,114],[97,32,98])] : List jKK),([] : List UInt8),(1 : Int),([] : List Int))]),(4,.own jKG [1]),(3,.box [.int .i64 2,.str [111,117,116,112,117,116],.nils,.bool false,.str []])] := by
 refine FnM.intro (N := 57) [0,1,4,15,20,35,50] [] 4 Tryz.call155 Tryz.func155 rfl rfl (by kernel_rfl) (fun hpre => ?_)
 repeat' ((conv => whnf);first|(with_reducible first|rfl|exact jKE|exact jKD)|exact True.intro|(intro hq;first|(exfalso;revert hq;decide +kernel)|clear hq|skip)|refine WA ?_ ?_|refine WF ?_|refine W1 rfl ?_ ?_|refine W2 rfl ?_ ?_|refine W3 rfl ?_ ?_|refine W4 ?_ ?_|refine W5 rfl ?_ ?_|refine W6 ?_ ?_|refine WN ?_|refine X1 (W1 rfl ?_ ?_)|refine X1 (W2 rfl ?_ ?_)|refine X2 (W7 rfl ?_ ?_)|refine X3 (W7 rfl ?_ ?_)|refine X4 (W7 rfl ?_ ?_)|refine X5 (W7 rfl ?_ ?_)|refine X7 (by conv => lhs;cbv) rfl ?_|refine X8 (by conv => lhs;cbv) ?_|refine LoopStop.ug 500 ?_|refine ZStop.dir ?_|(refine Ob.mk ?_;decide +kernel))
 all_goals (first | rfl | decide +kernel)
end Go.Vc

namespace Go.Vc
open Go.Proofs
set_option maxRecDepth 100000
set_option maxHeartbeats 40000000
set_option pp.deepTerms true
set_option pp.maxSteps 2000000
instance (priority := 5000) ZN_4 : FnM BA 154 [.loc 0 0,.loc 3 0] [(0,.box [.own 1,.own 2,.nils,.int .i64 5,.int .i64 0,.int .i64 0,.int .i64 0,.int .i64 0,.bool false,.bool false,.str [100,105,118]]),(1,.own jKA [((0 : Int),(0 : Int),([] : List UInt8),([] : List jKK),([] : List UInt8),(-1 : Int),([1] : List Int)),((1 : Int),(0 : Int),([104,116,109,108] : List UInt8),([] : List jKK),([] : List UInt8),(0 : Int),([2] : List Int)),((1 : Int),(0 : Int),([111,117,116,112,117,116] : List UInt8),([([102,111,114],[97,32,98])] : List jKK),([] : List UInt8),(1 : Int),([] : List Int))]),(2,.own jKG [1]),(3,.box [.str [60,97,32,104,114,101,102,61,35,99,32,110,97,109,101,61,100,62,60,47,97,62]])] True (.agg [.int .i64 1,.str [97],.rd jKP [([104,114,101,102],[35,99]),([110,97,109,101],[100])],.bool false,.str []]) [(0,.box [.own 1,.own 2,.nils,.int .i64 5,.int .i64 0,.int .i64 0,.int .i64 0,.int .i64 0,.bool false,.bool false,.str [100,105,118]]),(1,.own jKA [((0 : Int),(0 : Int),([] : List UInt8),([] : List jKK),([] : List UInt8),(-1 : Int),([1] : List Int)),((1 : Int),(0 : Int),([104,116,109,108] : List UInt8),([] : List jKK),([] : List UInt8),(0 : Int),([2] : List Int)),((1 : Int),(0 : Int),([111,117,116,112,117,116] : List UInt8),([([102,111,114],[97,32,98])] : List jKK),([] : List UInt8),(1 : Int),([] : List Int))]),(2,.own jKG [1]),(3,.box [.str [60,47,97,62]])] := by
 refine FnM.intro (N := 43) [0,1,4,5,10] [(3,[0,0,0,0,1,0,0,0,1,1,3,3,3,3]),(4,[0,0,0,0,7,0,0,0,0,4,4,4,4,4,4,4,4,4,4,4]),(3000004,[649,714,779,844,909,974,1039,1104,1169,1234])] 4 Tryz.call154 Tryz.func154 rfl rfl (by kernel_rfl) (fun hpre => ?_)
 repeat' ((conv => whnf);first|(with_reducible first|rfl|exact jKE|exact jKD)|exact True.intro|(intro hq;first|(exfalso;revert hq;decide +kernel)|clear hq|skip)|refine WA ?_ ?_|refine WF ?_|refine W1 rfl ?_ ?_|refine W2 rfl ?_ ?_|refine W3 rfl ?_ ?_|refine W4 ?_ ?_|refine W5 rfl ?_ ?_|refine W6 ?_ ?_|refine WN ?_|refine X1 (W1 rfl ?_ ?_)|refine X1 (W2 rfl ?_ ?_)|refine X2 (W7 rfl ?_ ?_)|refine X3 (W7 rfl ?_ ?_)|refine X4 (W7 rfl ?_ ?_)|refine X5 (W7 rfl ?_ ?_)|refine X7 (by conv => lhs;cbv) rfl ?_|refine X8 (by conv => lhs;cbv) ?_|refine LoopStop.ug 500 ?_|refine ZStop.dir ?_|(refine Ob.mk ?_;decide +kernel))
 all_goals (first | rfl | decide +kernel)
end Go.Vc

namespace Go.Vc
open Go.Proofs
set_option maxRecDepth 100000
set_option maxHeartbeats 40000000
set_option pp.deepTerms true
set_option pp.maxSteps 2000000
instance (priority := 5000) ZN_5 : FnM BA 155 [.loc 0 0,.loc 3 0] [(0,.box [.own 1,.own 2,.nils,.int .i64 5,.int .i64 0,.int .i64 0,.int .i64 0,.int .i64 0,.bool false,.bool false,.str [100,105,118]]),(1,.own jKA [((0 : Int),(0 : Int),([] : List UInt8),([] : List jKK),([] : List UInt8),(-1 : Int),([1] : List Int)),((1 : Int),(0 : Int),([104,116,109,108] : List UInt8),([] : List jKK),([] : List UInt8),(0 : Int),([2] : List Int)),((1 : Int),(0 : Int),([111,117,116,112,117,116] : List UInt8),([([102,111,114],[97,32,98])] : List jKK),([] : List UInt8),(1 : Int),([] : List Int))]),(2,.own jKG [1]),(3,.box [.int .i64 1,.str [97],.rd jKP [([104,114,101,102],[35,99]),([110,97,109,101],[100])],.bool false,.str []])] True (.bool false) [(0,.box [.own 1,.own 4,.own 5,.int .i64 5,.int .i64 0,.int .i64 0,.int .i64 0,.int .i64 0,.bool false,.bool false,.str [100,105,118]]),(1,.own jKA [((0 : Int),(0 : Int),([] : List UInt8),([] : List jKK),([] : List UInt8),(-1 : Int),([1] : List Int)),((1 : Int),(0 : Int),([104,116,109,108] : List UInt8),([] : List jKK),([] : List UInt8),(0 : Int),([2,3] : List Int)),((1 : Int),(0 : Int),([111,117,116,112,117,116] : List UInt8),([([102,111,114],[97,32,98])] : List jKK),([] : List UInt8),(1 : Int),([] : List Int)),((1 : Int),(0 : Int),([97] : List UInt8),([([104,114,101,102],[35,99]),([110,97,109,101],[100])] : List jKK),([] : List UInt8),(1 : Int),([] : List Int))]),(4,.own jKG [1,3]),(5,.own jKG [3]),(3,.box [.int .i64 1,.str [97],.rd jKP [([104,114,101,102],[35,99]),([110,97,109,101],[100])],.bool false,.str []])] := by
 refine FnM.intro (N := 57) [0,1,4,15,20,35,50] [] 4 Tryz.call155 Tryz.func155 rfl rfl (by kernel_rfl) (fun hpre => ?_)
 repeat' ((conv => whnf);first|(with_reducible first|rfl|exact jKE|exact jKD)|exact True.intro|(intro hq;first|(exfalso;revert hq;decide +kernel)|clear hq|skip)|refine WA ?_ ?_|refine WF ?_|refine W1 rfl ?_ ?_|refine W2 rfl ?_ ?_|refine W3 rfl ?_ ?_|refine W4 ?_ ?_|refine W5 rfl ?_ ?_|refine W6 ?_ ?_|refine WN ?_|refine X1 (W1 rfl ?_ ?_)|refine X1 (W2 rfl ?_ ?_)|refine X2 (W7 rfl ?_ ?_)|refine X3 (W7 rfl ?_ ?_)|refine X4 (W7 rfl ?_ ?_)|refine X5 (W7 rfl ?_ ?_)|refine X7 (by conv => lhs;cbv) rfl ?_|refine X8 (by conv => lhs;cbv) ?_|refine LoopStop.ug 500 ?_|refine ZStop.dir ?_|(refine Ob.mk ?_;decide +kernel))
 all_goals (first | rfl | decide +kernel)
end Go.Vc

namespace Go.Vc
open Go.Proofs
set_option maxRecDepth 100000
set_option maxHeartbeats 40000000
set_option pp.deepTerms true
set_option pp.maxSteps 2000000
instance (priority := 5000) ZN_6 : FnM BA 154 [.loc 0 0,.loc 4 0] [(0,.box [.own 1,.own 2,.own 3,.int .i64 5,.int .i64 0,.int .i64 0,.int .i64 0,.int .i64 0,.bool false,.bool false,.str [100,105,118]]),(1,.own jKA [((0 : Int),(0 : Int),([] : List UInt8),([] : List jKK),([] : List UInt8),(-1 : Int),([1] : List Int)),((1 : Int),(0 : Int),([104,116,109,108] : List UInt8),([] : List jKK),([] : List UInt8),(0 : Int),([2,3] : List Int)),((1 : Int),(0 : Int),([111,117,116,112,117,116] : List UInt8),([([102,111,114],[97,32,98])] : List jKK),([] : List UInt8),(1 : Int),([] : List Int)),((1 : Int),(0 : Int),([97] : List UInt8),([([104,114,101,102],[35,99]),([110,97,109,101],[100])] : List jKK),([] : List UInt8),(1 : Int),([] : List Int))]),(2,.own jKG [1,3]),(3,.own jKG [3]),(4,.box [.str [60,47,97,62]])] True (.agg [.int .i64 2,.str [97],.nils,.bool false,.str []]) [(0,.box [.own 1,.own 2,.own 3,.int .i64 5,.int .i64 0,.int .i64 0,.int .i64 0,.int .i64 0,.bool false,.bool false,.str [100,105,118]]),(1,.own jKA [((0 : Int),(0 : Int),([] : List UInt8),([] : List jKK),([] : List UInt8),(-1 : Int),([1] : List Int)),((1 : Int),(0 : Int),([104,116,109,108] : List UInt8),([] : List jKK),([] : List UInt8),(0 : Int),([2,3] : List Int)),((1 : Int),(0 : Int),([111,117,116,112,117,116] : List UInt8),([([102,111,114],[97,32,98])] : List jKK),([] : List UInt8),(1 : Int),([] : List Int)),((1 : Int),(0 : Int),([97] : List UInt8),([([104,114,101,102],[35,99]),([110,97,109,101],[100])] : List jKK),([] : List UInt8),(1 : Int),([] : List Int))]),(2,.own jKG [1,3]),(3,.own jKG [3]),(4,.box [.str []])] := by
 refine FnM.intro (N := 43) [0,1,4,5,10] [(3,[0,0,0,0,1,0,0,0,1,1,3,3,3,3]),(4,[0,0,0,0,7,0,0,0,0,4,4,4,4,4,4,4,4,4,4,4]),(3000004,[649,714,779,844,909,974,1039,1104,1169,1234])] 5 Tryz.call154 Tryz.func154 rfl rfl (by kernel_rfl) (fun hpre => ?_)
 repeat' ((conv => whnf);first|(with_reducible first|rfl|exact jKE|exact jKD)|exact True.intro|(intro hq;first|(exfalso;revert hq;decide +kernel)|clear hq|skip)|refine WA ?_ ?_|refine WF ?_|refine W1 rfl ?_ ?_|refine W2 rfl ?_ ?_|refine W3 rfl ?_ ?_|refine W4 ?_ ?_|refine W5 rfl ?_ ?_|refine W6 ?_ ?_|refine WN ?_|refine X1 (W1 rfl ?_ ?_)|refine X1 (W2 rfl ?_ ?_)|refine X2 (W7 rfl ?_ ?_)|refine X3 (W7 rfl ?_ ?_)|refine X4 (W7 rfl ?_ ?_)|refine X5 (W7 rfl ?_ ?_)|refine X7 (by conv => lhs;cbv) rfl ?_|refine X8 (by conv => lhs;cbv) ?_|refine LoopStop.ug 500 ?_|refine ZStop.dir ?_|(refine Ob.mk ?_;decide +kernel))
 all_goals (first | rfl | decide +kernel)
end Go.Vc

namespace Go.Vc
open Go.Proofs
set_option maxRecDepth 100000
set_option maxHeartbeats 40000000
set_option pp.deepTerms true
set_option pp.maxSteps 2000000
instance (priority := 5000) ZN_7 : FnM BA 155 [.loc 0 0,.loc 4 0] [(0,.box [.own 1,.own 2,.own 3,.int .i64 5,.int .i64 0,.int .i64 0,.int .i64 0,.int .i64 0,.bool false,.bool false,.str [100,105,118]]),(1,.own jKA [((0 : Int),(0 : Int),([] : List UInt8),([] : List jKK),([] : List UInt8),(-1 : Int),([1] : List Int)),((1 : Int),(0 : Int),([104,116,109,108] : List UInt8),([] : List jKK),([] : List UInt8),(0 : Int),([2,3] : List Int)),((1 : Int),(0 : Int),([111,117,116,112,117,116] : List UInt8),([([102,111,114],[97,32,98])] : List jKK),([] : List UInt8),(1 : Int),([] : List Int)),((1 : Int),(0 : Int),([97] : List UInt8),([([104,114,101,102],[35,99]),([110,97,109,101],[100])] : List jKK),([] : List UInt8),(1 : Int),([] : List Int))]),(2,.own jKG [1,3]),(3,.own jKG [3]),(4,.box [.int .i64 2,.str [97],.nils,.bool false,.str []])] True (.bool false) [(0,.box [.own 1,.own 5,.nils,.int .i64 5,.int .i64 0,.int .i64 0,.int .i64 0,.int .i64 0,.bool false,.bool false,.str [100,105,118]]),(1,.own jKA [((0 : Int),(0 : Int),([] : List UInt8),([] : List jKK),([] : List UInt8),(-1 : Int),([1] : List Int)),((1 : Int),(0 : Int),([104,116,109,108] : List UInt8),([] : List jKK),([] : List UInt8),(0 : Int),([2,3] : List Int)),((1 : Int),(0 : Int),([111,117,116,112,117,116] : List UInt8),([([102,111,114],[97,32,98])] : List jKK),([] : List UInt8),(1 : Int),([] : List Int)),((1 : Int),(0 : Int),([97] : List UInt8),([([104,114,101,102],[35,99]),([110,97,109,101],[100])] : List jKK),([] : List UInt8),(1 : Int),([] : List Int))]),(5,.own jKG [1]),(4,.box [.int .i64 2,.str [97],.nils,.bool false,.str []])] := by
 refine FnM.intro (N := 57) [0,1,4,15,20,35,50] [] 5 Tryz.call155 Tryz.func155 rfl rfl (by kernel_rfl) (fun hpre => ?_)
 repeat' ((conv => whnf);first|(with_reducible first|rfl|exact jKE|exact jKD)|exact True.intro|(intro hq;first|(exfalso;revert hq;decide +kernel)|clear hq|skip)|refine WA ?_ ?_|refine WF ?_|refine W1 rfl ?_ ?_|refine W2 rfl ?_ ?_|refine W3 rfl ?_ ?_|refine W4 ?_ ?_|refine W5 rfl ?_ ?_|refine W6 ?_ ?_|refine WN ?_|refine X1 (W1 rfl ?_ ?_)|refine X1 (W2 rfl ?_ ?_)|refine X2 (W7 rfl ?_ ?_)|refine X3 (W7 rfl ?_ ?_)|refine X4 (W7 rfl ?_ ?_)|refine X5 (W7 rfl ?_ ?_)|refine X7 (by conv => lhs;cbv) rfl ?_|refine X8 (by conv => lhs;cbv) ?_|refine LoopStop.ug 500 ?_|refine ZStop.dir ?_|(refine Ob.mk ?_;decide +kernel))
 all_goals (first | rfl | decide +kernel)
end Go.Vc

namespace Go.Vc
open Go.Proofs
set_option maxRecDepth 100000
set_option maxHeartbeats 40000000
set_option pp.deepTerms true
set_option pp.maxSteps 2000000
instance (priority := 5000) ZN_8 : FnM BA 154 [.loc 0 0,.loc 3 0] [(0,.box [.own 1,.own 2,.nils,.int .i64 5,.int .i64 0,.int .i64 0,.int .i64 0,.int .i64 0,.bool false,.bool false,.str [100,105,118]]),(1,.own jKA [((0 : Int),(0 : Int),([] : List UInt8),([] : List jKK),([] : List UInt8),(-1 : Int),([1] : List Int)),((1 : Int),(0 : Int),([104,116,109,108] : List UInt8),([] : List jKK),([] : List UInt8),(0 : Int),([2,3] : List Int)),((1 : Int),(0 : Int),([111,117,116,112,117,116] : List UInt8),([([102,111,114],[97,32,98])] : List jKK),([] : List UInt8),(1 : Int),([] : List Int)),((1 : Int),(0 : Int),([97] : List UInt8),([([104,114,101,102],[35,99]),([110,97,109,101],[100])] : List jKK),([] : List UInt8),(1 : Int),([] : List Int))]),(2,.own jKG [1]),(3,.box [.str []])] True (.agg [.int .i64 0,.str [],.nils,.bool false,.str []]) [(0,.box [.own 1,.own 2,.nils,.int .i64 5,.int .i64 0,.int .i64 0,.int .i64 0,.int .i64 0,.bool false,.bool false,.str [100,105,118]]),(1,.own jKA [((0 : Int),(0 : Int),([] : List UInt8),([] : List jKK),([] : List UInt8),(-1 : Int),([1] : List Int)),((1 : Int),(0 : Int),([104,116,109,108] : List UInt8),([] : List jKK),([] : List UInt8),(0 : Int),([2,3] : List Int)),((1 : Int),(0 : Int),([111,117,116,112,117,116] : List UInt8),([([102,111,114],[97,32,98])] : List jKK),([] : List UInt8),(1 : Int),([] : List Int)),((1 : Int),(0 : Int),([97] : List UInt8),([([104,114,101,102],[35,99]),([110,97,109,101],[100])] : List jKK),([] : List UInt8),(1 : Int),([] : List Int))]),(2,.own jKG [1]),(3,.box [.str []])] := by
 refine FnM.intro (N := 43) [0,1,4,5,10] [(3,[0,0,0,0,1,0,0,0,1,1,3,3,3,3]),(4,[0,0,0,0,7,0,0,0,0,4,4,4,4,4,4,4,4,4,4,4]),(3000004,[649,714,779,844,909,974,1039,1104,1169,1234])] 4 Tryz.call154 Tryz.func154 rfl rfl (by kernel_rfl) (fun hpre => ?_)
 repeat' ((conv => whnf);first|(with_reducible first|rfl|exact jKE|exact jKD)|exact True.intro|(intro hq;first|(exfalso;revert hq;decide +kernel)|clear hq|skip)|refine WA ?_ ?_|refine WF ?_|refine W1 rfl ?_ ?_|refine W2 rfl ?_ ?_|refine W3 rfl ?_ ?_|refine W4 ?_ ?_|refine W5 rfl ?_ ?_|refine W6 ?_ ?_|refine WN ?_|refine X1 (W1 rfl ?_ ?_)|refine X1 (W2 rfl ?_ ?_)|refine X2 (W7 rfl ?_ ?_)|refine X3 (W7 rfl ?_ ?_)|refine X4 (W7 rfl ?_ ?_)|refine X5 (W7 rfl ?_ ?_)|refine X7 (by conv => lhs;cbv) rfl ?_|refine X8 (by conv => lhs;cbv) ?_|refine LoopStop.ug 500 ?_|refine ZStop.dir ?_|(refine Ob.mk ?_;decide +kernel))
 all_goals (first | rfl | decide +kernel)
end Go.Vc

namespace Go.Vc
open Go.Proofs
set_option maxRecDepth 100000
set_option maxHeartbeats 40000000
set_option pp.deepTerms true
set_option pp.maxSteps 2000000
instance (priority := 5000) ZN_9 : FnM BA 155 [.loc 0 0,.loc 3 0] [(0,.box [.own 1,.own 2,.nils,.int .i64 5,.int .i64 0,.int .i64 0,.int .i64 0,.int .i64 0,.bool false,.bool false,.str [100,105,118]]),(1,.own jKA [((0 : Int),(0 : Int),([] : List UInt8),([] : List jKK),([] : List UInt8),(-1 : Int),([1] : List Int)),((1 : Int),(0 : Int),([104,116,109,108] : List UInt8),([] : List jKK),([] : List UInt8),(0 : Int),([2,3] : List Int)),((1 : Int),(0 : Int),([111,117,116,112,117,116] : List UInt8),([([102,111,114],[97,32,98])] : List jKK),([] : List UInt8),(1 : Int),([] : List Int)),((1 : Int),(0 : Int),([97] : List UInt8),([([104,114,101,102],[35,99]),([110,97,109,101],[100])] : List jKK),([] : List UInt8),(1 : Int),([] : List Int))]),(2,.own jKG [1]),(3,.box [.int .i64 0,.str [],.nils,.bool false,.str []])] True (.bool false) [(0,.box [.own 1,.own 2,.nils,.int .i64 5,.int .i64 0,.int .i64 0,.int .i64 0,.int .i64 0,.bool false,.bool false,.str [100,105,118]]),(1,.own jKA [((0 : Int),(0 : Int),([] : List UInt8),([] : List jKK),([] : List UInt8),(-1 : Int),([1] : List Int)),((1 : Int),(0 : Int),([104,116,109,108] : List UInt8),([] : List jKK),([] : List UInt8),(0 : Int),([2,3] : List Int)),((1 : Int),(0 : Int),([111,117,116,112,117,116] : List UInt8),([([102,111,114],[97,32,98])] : List jKK),([] : List UInt8),(1 : Int),([] : List Int)),((1 : Int),(0 : Int),([97] : List UInt8),([([104,114,101,102],[35,99]),([110,97,109,101],[100])] : List jKK),([] : List UInt8),(1 : Int),([] : List Int))]),(2,.own jKG [1]),(3,.box [.int .i64 0,.str [],.nils,.bool false,.str []])] := by
 refine FnM.intro (N := 57) [0,1,4,15,20,35,50] [] 4 Tryz.call155 Tryz.func155 rfl rfl (by kernel_rfl) (fun hpre => ?_)
 repeat' ((conv => whnf);first|(with_reducible first|rfl|exact jKE|exact jKD)|exact True.intro|(intro hq;first|(exfalso;revert hq;decide +kernel)|clear hq|skip)|refine WA ?_ ?_|refine WF ?_|refine W1 rfl ?_ ?_|refine W2 rfl ?_ ?_|refine W3 rfl ?_ ?_|refine W4 ?_ ?_|refine W5 rfl ?_ ?_|refine W6 ?_ ?_|refine WN ?_|refine X1 (W1 rfl ?_ ?_)|refine X1 (W2 rfl ?_ ?_)|refine X2 (W7 rfl ?_ ?_)|refine X3 (W7 rfl ?_ ?_)|refine X4 (W7 rfl ?_ ?_)|refine X5 (W7 rfl ?_ ?_)|refine X7 (by conv => lhs;cbv) rfl ?_|refine X8 (by conv => lhs;cbv) ?_|refine LoopStop.ug 500 ?_|refine ZStop.dir ?_|(refine Ob.mk ?_;decide +kernel))
 all_goals (first | rfl | decide +kernel)
end Go.Vc

namespace Go.Vc
open Go.Proofs
set_option maxRecDepth 10000
instance decN1 : DecidableEq (List UInt8) := inferInstance
instance decN2 : DecidableEq (List UInt8 × List UInt8) := instDecidableEqProd
instance decN3 : DecidableEq (Int × List Int) := instDecidableEqProd
instance decN4 : DecidableEq (List (List UInt8 × List UInt8)) := instDecidableEqList
instance decN5 : DecidableEq (List UInt8 × Int × List Int) := instDecidableEqProd
instance decNode : DecidableEq jKH := (instDecidableEqProd : DecidableEq (Int × Int × List UInt8 × List (List UInt8 × List UInt8) × List UInt8 × Int × List Int))
def joC (K : Nat → List Int) : Nat → List Bool → Nat → Nat → Nat → Option (List Ev × List Bool × Nat)
 | 0,_,_,_,_ => none
 | f + 1,s,i,j,c =>
  if j < (K i).length then
   if okK s ((K i).getD j 0) = true then
    match joC K f (s.set ((K i).getD j 0).toNat true) ((K i).getD j 0).toNat 0 (c + 1) with
    | none => none
    | some r1 =>
     match joC K f r1.2.1 i (j + 1) r1.2.2 with
     | none => none
     | some r2 => some ((((K i).getD j 0).toNat,(i : Int),c,false) :: (r1.1 ++ r2.1),r2.2.1,r2.2.2)
   else joC K f s i (j + 1) c
  else some ([(i,0,c,true)],s,c + 1)
theorem jhF {K : Nat → List Int} : ∀ (f : Nat) (s : List Bool) (i j c : Nat) (r : List Ev × List Bool × Nat),joC K f s i j c = some r → dfs K s i j c = r := by
 intro f
 induction f with
 | zero => intro s i j c r h;cases h
 | succ f ih =>
  intro s i j c r h
  rw [joC] at h
  split at h
  ·rename_i hj
   split at h
   ·rename_i hk
    split at h
    ·cases h
    ·rename_i r1 h1
     split at h
     ·cases h
     ·rename_i r2 h2
      cases h
      rw [jQC hj hk,ih _ _ _ _ _ h1,ih _ _ _ _ _ h2]
   ·rename_i hk
    rw [jNI hj (by simpa using hk)]
    exact ih _ _ _ _ _ h
  ·rename_i hj
   cases h
   exact jND hj
def kDE (t : List jKH) (f : Nat) : Option St :=
 if t.length = 0 then none else
 match joC (jKB t) f ((List.replicate t.length false).set 0 true) 0 0 1 with
 | some r => some ((st0 t.length).run ((0, -1,0,false) :: r.1))
 | none => none
theorem jnO {t : List jKH} {f : Nat} {y : St} (h : kDE t f = some y) : fin t = y := by
 unfold kDE at h
 split at h
 ·cases h
 ·rename_i h0
  split at h
  ·rename_i r hr
   cases h
   unfold fin jj6 jn0
   rw [if_neg h0,jkX,jkX,List.append_nil,jhF _ _ _ _ _ _ hr]
  ·cases h
def jzI (t : List jKH) (k f : Nat) : Option (List jKH) :=
 match joC (jKB t) f ((List.replicate t.length false).set k true) k 0 0 with
 | some r => some (({ out := [mkN (t.getD k jKA.dflt) (-1)],P := [0] } : PSt).run t r.1).out
 | none => none
theorem jg7 {t : List jKH} {k f : Nat} {x : List jKH} (h : jzI t k f = some x) : jXW t (jKB t) [] (List.replicate t.length false) k (-1) = x := by
 unfold jzI at h
 split at h
 ·rename_i r hr
  cases h
  unfold jXW pS
  rw [jhF _ _ _ _ _ _ hr]
  rfl
 ·cases h
def kGP (t : List jKH) (i : Int) (f : Nat) : Option (List jKH) :=
 match kDE t f,jzI t 0 f with
 | some y,some x =>
  if jO7 t && decide (t.length ≤ 45) && jO7 x && decide (y.L.length ≤ x.length) && decide (x.length ≤ 1000) && decide (0 < t.length) then
   match jfU (jOF y.L) i with
   | none => some [jiB]
   | some k => match jzI x k f with | some z => some (jrG z) | none => none
  else none
 | _,_ => none
theorem jnN {t : List jKH} {i : Int} {f : Nat} {T : List jKH} (h : kGP t i f = some T) : jd5 t ∧ jmG t i = T := by
 unfold kGP at h
 split at h
 ·rename_i y x hy hx
  split at h
  ·rename_i hc
   simp only [Bool.and_eq_true,decide_eq_true_eq] at hc
   have e1 := jnO hy
   have e0 : ¬ t = [] := fun e => by rw [e] at hc;exact absurd hc.2 (by decide)
   have e2 : jOC t = x := by unfold jOC;rw [if_neg e0];exact jg7 hx
   refine ⟨⟨hc.1.1.1.1.1,hc.1.1.1.1.2,by rw [e2];exact hc.1.1.1.2,by rw [e1,e2];exact hc.1.1.2,by rw [e2];exact hc.1.2⟩,?_⟩
   unfold jmG
   rw [e1,e2]
   split at h
   ·rename_i hk;rw [hk];exact Option.some.inj h
   ·rename_i k hk
    rw [hk]
    split at h
    ·rename_i z hz
     show joL x k = T
     unfold joL
     rw [jg7 hz]
     exact Option.some.inj h
    ·cases h
  ·cases h
 ·cases h
end Go.Vc

namespace Go.Vc
open Go.Proofs
set_option maxRecDepth 100000
set_option maxHeartbeats 40000000
abbrev kED : List jKH := [((0 : Int),(0 : Int),([] : List UInt8),([] : List jKK),([] : List UInt8),(-1 : Int),([1] : List Int)),((1 : Int),(0 : Int),([104,116,109,108] : List UInt8),([] : List jKK),([] : List UInt8),(0 : Int),([2,3] : List Int)),((1 : Int),(0 : Int),([111,117,116,112,117,116] : List UInt8),([([102,111,114],[97,32,98])] : List jKK),([] : List UInt8),(1 : Int),([] : List Int)),((1 : Int),(0 : Int),([97] : List UInt8),([([104,114,101,102],[35,99]),([110,97,109,101],[100])] : List jKK),([] : List UInt8),(1 : Int),([] : List Int))]
abbrev jzF : List jKH := [((0 : Int),(0 : Int),([] : List UInt8),([] : List jKK),([] : List UInt8),(-1 : Int),([1,2] : List Int)),((1 : Int),(0 : Int),([111,117,116,112,117,116] : List UInt8),([([102,111,114],[97,32,98])] : List jKK),([] : List UInt8),(0 : Int),([] : List Int)),((1 : Int),(0 : Int),([97] : List UInt8),([([104,114,101,102],[35,99]),([110,97,109,101],[100])] : List jKK),([] : List UInt8),(0 : Int),([] : List Int))]
instance (priority := 5000) ZN_new : FnM BA 114 [.str [100,105,118]] [] True (.loc 0 0) [(0,.box [.own 1,.own 2,.nils,.int .i64 5,.int .i64 0,.int .i64 0,.int .i64 0,.int .i64 0,.bool false,.bool false,.str [100,105,118]]),(1,.own jKA [((0 : Int),(0 : Int),([] : List UInt8),([] : List jKK),([] : List UInt8),(-1 : Int),([1] : List Int)),((1 : Int),(0 : Int),([104,116,109,108] : List UInt8),([] : List jKK),([] : List UInt8),(0 : Int),([] : List Int))]),(2,.own jKG [1])] := by
 refine FnM.intro (N := 34) [0,2,3,4,10] [] 0 Tryz.call114 Tryz.func114 rfl rfl (by kernel_rfl) (fun hpre => ?_)
 repeat' ((conv => whnf);first|(with_reducible first|rfl|exact jKE|exact jKD)|exact True.intro|(intro hq;first|(exfalso;revert hq;decide +kernel)|clear hq|skip)|refine WA ?_ ?_|refine WF ?_|refine W1 rfl ?_ ?_|refine W2 rfl ?_ ?_|refine W3 rfl ?_ ?_|refine W4 ?_ ?_|refine W5 rfl ?_ ?_|refine W6 ?_ ?_|refine WN ?_|refine X1 (W1 rfl ?_ ?_)|refine X1 (W2 rfl ?_ ?_)|refine X2 (W7 rfl ?_ ?_)|refine X3 (W7 rfl ?_ ?_)|refine X4 (W7 rfl ?_ ?_)|refine X5 (W7 rfl ?_ ?_)|refine X7 (by conv => lhs;cbv) rfl ?_|refine X8 (by conv => lhs;cbv) ?_|refine LoopStop.ug 500 ?_|refine ZStop.dir ?_|(refine Ob.mk ?_;decide +kernel))
 all_goals (first | rfl | decide +kernel)
instance (priority := 5000) ZN_run : FnM BA 115 [.loc 0 0,.str (60 :: 111 :: 117 :: 116 :: 112 :: 117 :: 116 :: 32 :: 102 :: 111 :: 114 :: 61 :: 39 :: 97 :: 32 :: 98 :: 39 :: 62 :: 60 :: 47 :: 111 :: 117 :: 116 :: 112 :: 117 :: 116 :: 62 :: 60 :: 97 :: 32 :: 104 :: 114 :: 101 :: 102 :: 61 :: 35 :: 99 :: 32 :: 110 :: 97 :: 109 :: 101 :: 61 :: 100 :: 62 :: 60 :: 47 :: 97 :: 62 :: [])] [(0,.box [.own 1,.own 2,.nils,.int .i64 5,.int .i64 0,.int .i64 0,.int .i64 0,.int .i64 0,.bool false,.bool false,.str [100,105,118]]),(1,.own jKA [((0 : Int),(0 : Int),([] : List UInt8),([] : List jKK),([] : List UInt8),(-1 : Int),([1] : List Int)),((1 : Int),(0 : Int),([104,116,109,108] : List UInt8),([] : List jKK),([] : List UInt8),(0 : Int),([] : List Int))]),(2,.own jKG [1])] True (.tup []) [(0,.box [.own 1,.own 3,.nils,.int .i64 5,.int .i64 0,.int .i64 0,.int .i64 0,.int .i64 0,.bool false,.bool false,.str [100,105,118]]),(1,.own jKA kED),(3,.own jKG [1])] := by
 refine FnM.intro (N := 46) [0,1,4,5,6,7,35,42,44,45] [] 3 Tryz.call115 Tryz.func115 rfl rfl (by kernel_rfl) (fun hpre => ?_)
 repeat' ((conv => whnf);first|(with_reducible first|rfl|exact jKE|exact jKD)|exact True.intro|(intro hq;first|(exfalso;revert hq;decide +kernel)|clear hq|skip)|refine WA ?_ ?_|refine WF ?_|refine W1 rfl ?_ ?_|refine W2 rfl ?_ ?_|refine W3 rfl ?_ ?_|refine W4 ?_ ?_|refine W5 rfl ?_ ?_|refine W6 ?_ ?_|refine WN ?_|refine X1 (W1 rfl ?_ ?_)|refine X1 (W2 rfl ?_ ?_)|refine X2 (W7 rfl ?_ ?_)|refine X3 (W7 rfl ?_ ?_)|refine X4 (W7 rfl ?_ ?_)|refine X5 (W7 rfl ?_ ?_)|refine X7 (by conv => lhs;cbv) rfl ?_|refine X8 (by conv => lhs;cbv) ?_|refine LoopStop.ug 500 ?_|refine ZStop.dir ?_|(refine Ob.mk ?_;decide +kernel))
 all_goals (first | rfl | decide +kernel)
theorem jgY : jd5 kED ∧ jmG kED 1 = jzF := jnN (f := 100) (by decide +kernel)
instance ZN_fragA : FnM BA 59 [.str (60 :: 111 :: 117 :: 116 :: 112 :: 117 :: 116 :: 32 :: 102 :: 111 :: 114 :: 61 :: 39 :: 97 :: 32 :: 98 :: 39 :: 62 :: 60 :: 47 :: 111 :: 117 :: 116 :: 112 :: 117 :: 116 :: 62 :: 60 :: 97 :: 32 :: 104 :: 114 :: 101 :: 102 :: 61 :: 35 :: 99 :: 32 :: 110 :: 97 :: 109 :: 101 :: 61 :: 100 :: 62 :: 60 :: 47 :: 97 :: 62 :: []),.str [100,105,118]] [] True (.agg [.rd jKA jzF]) [] := by
 refine FnM.intro (N := 28) [0,1,4,5,7] [(5,[0,0,0,1,0,0,0,0,1,1,1,1,1,1,3,3]),(5000005,[5])] 0 Tryz.call59 Tryz.func59 rfl rfl (by kernel_rfl) (fun hpre => ?_)
 repeat' ((conv => whnf);first|(with_reducible first|rfl|exact jKE|exact jKD)|exact True.intro|(intro hq;first|(exfalso;revert hq;decide +kernel)|clear hq|skip)|refine WA ?_ ?_|refine WF ?_|refine W1 rfl ?_ ?_|refine W2 rfl ?_ ?_|refine W3 rfl ?_ ?_|refine W4 ?_ ?_|refine W5 rfl ?_ ?_|refine W6 ?_ ?_|refine WN ?_|refine X1 (W1 rfl ?_ ?_)|refine X1 (W2 rfl ?_ ?_)|refine X2 (W7 rfl ?_ ?_)|refine X3 (W7 rfl ?_ ?_)|refine X4 (W7 rfl ?_ ?_)|refine X5 (W7 rfl ?_ ?_)|refine X7 (by conv => lhs;cbv) rfl ?_|refine X8 (by conv => lhs;cbv) ?_|refine LoopStop.ug 500 ?_|refine ZStop.dir ?_|(refine Ob.mk ?_;decide +kernel))
 all_goals (first | exact Ob.mk jgY.1 | exact jgY.1 | exact congrArg (fun l => SV.rd jKA l) jgY.2 | rfl | decide +kernel | trace_state)
instance ZN_frag : Fn BB 59 [.str (60 :: 111 :: 117 :: 116 :: 112 :: 117 :: 116 :: 32 :: 102 :: 111 :: 114 :: 61 :: 39 :: 97 :: 32 :: 98 :: 39 :: 62 :: 60 :: 47 :: 111 :: 117 :: 116 :: 112 :: 117 :: 116 :: 62 :: 60 :: 97 :: 32 :: 104 :: 114 :: 101 :: 102 :: 61 :: 35 :: 99 :: 32 :: 110 :: 97 :: 109 :: 101 :: 61 :: 100 :: 62 :: 60 :: 47 :: 97 :: 62 :: []),.str [100,105,118]] True (.agg [.rd jKA jzF]) :=
 ⟨ZN_fragA.call,ZN_fragA.ok⟩
end Go.Vc

namespace Go.Vc
open Go.Proofs
open Go.Vc.W
set_option maxRecDepth 100000
set_option maxHeartbeats 8000000
def jjQ (n p : Int) : Int := if n < 0 ∨ p < 0 ∨ n > 1048576 ∨ p > 20 then 0 else 3 * n * (6 + p)
theorem jmL {n p : Int} (h : n < 0 ∨ p < 0 ∨ n > 1048576 ∨ p > 20) : jjQ n p = 0 := if_pos h
theorem jlN {n p : Int} (h : ¬ (n < 0 ∨ p < 0 ∨ n > 1048576 ∨ p > 20)) : jjQ n p = 3 * n * (6 + p) := if_neg h
theorem jnU (n p : Int) : (6 + p) * 3 * n = 3 * n * (6 + p) := by rw [Int.mul_comm (6 + p) 3,Int.mul_assoc,Int.mul_comm (6 + p) n, ← Int.mul_assoc]
theorem jlU {n p : Int} (h : ¬ (n < 0 ∨ p < 0 ∨ n > 1048576 ∨ p > 20)) : jXK (3 * n * (6 + p)) ∧ jXK (3 * n) ∧ jXK (6 + p) ∧ jXK ((6 + p) * 3) := by
 have h1 : 0 ≤ 3 * n * (6 + p) := Int.mul_nonneg (by omega) (by omega)
 have h2 : 3 * n * (6 + p) ≤ 3145728 * 26 := Int.mul_le_mul (by omega) (by omega) (by omega) (by omega)
 refine ⟨?_,?_,?_,?_⟩
 ·revert h1 h2
  generalize 3 * n * (6 + p) = z
  intro h1 h2
  unfold jXK;omega
 all_goals (unfold jXK;omega)
instance eMost (n p : Int) : Fn BB 43 [.int .i64 n,.int .i64 p] True (.int .i64 (jjQ n p)) := by
 refine Fn.intro (N := 24) [0,1,4,5,12] [] Tryz.call43 Tryz.func43 rfl rfl (by kernel_rfl) (fun hpre => ?_)
 repeat' ((conv => whnf);first|(with_reducible first|rfl|exact jKE|exact jKD)|exact True.intro|intro _|refine WA ?_ ?_|refine WF ?_|refine W1 rfl ?_ ?_|refine W2 rfl ?_ ?_|refine W3 rfl ?_ ?_|refine W4 ?_ ?_|refine W5 rfl ?_ ?_|refine W6 ?_ ?_|refine WN ?_|refine X1 (W1 rfl ?_ ?_)|refine X1 (W2 rfl ?_ ?_)|refine X2 (W7 rfl ?_ ?_)|refine X3 (W7 rfl ?_ ?_)|refine X4 (W7 rfl ?_ ?_)|refine X5 (W7 rfl ?_ ?_))
 all_goals (try (conv => whnf))
 all_goals (try first|exact obA|refine Ob.mk ?_)
 all_goals (try simp only [ZA,ZB,ZC,ZD,ZE,ZF,ZG,ZH,ZI,ZJ,ZK,ZL,ZM,ZN,ZO,Int.toNat_natCast,UInt8.ofNat_toNat,cast_eq] at *)
 all_goals (try (have h1 : ¬ (n < 0 ∨ n > 1048576) := by (have h := ‹(decide (n < 0) || decide (n > 1048576)) = false›;simpa using h)))
 all_goals (try (have h2 : ¬ (p < 0 ∨ p > 20) := by (have h := ‹(decide (p < 0) || decide (p > 20)) = false›;simpa using h)))
 all_goals (first | exact (jmL (by omega)).symm | skip)
 all_goals (have hm : ¬ (n < 0 ∨ p < 0 ∨ n > 1048576 ∨ p > 20) := by omega)
 all_goals (have hb := jlU hm)
 all_goals (first | exact hb.2.2.1 | exact hb.2.2.2 | (rw [jnU];first | exact hb.1 | exact (jlN hm).symm))
instance hMost (n p : Int) : Fn BB 44 [.int .i64 n,.int .i64 p] True (.int .i64 (jjQ n p)) := by
 refine Fn.intro (N := 24) [0,1,4,18] [] Tryz.call44 Tryz.func44 rfl rfl (by kernel_rfl) (fun hpre => ?_)
 repeat' ((conv => whnf);first|(with_reducible first|rfl|exact jKE|exact jKD)|exact True.intro|intro _|refine WA ?_ ?_|refine WF ?_|refine W1 rfl ?_ ?_|refine W2 rfl ?_ ?_|refine W3 rfl ?_ ?_|refine W4 ?_ ?_|refine W5 rfl ?_ ?_|refine W6 ?_ ?_|refine WN ?_|refine X1 (W1 rfl ?_ ?_)|refine X1 (W2 rfl ?_ ?_)|refine X2 (W7 rfl ?_ ?_)|refine X3 (W7 rfl ?_ ?_)|refine X4 (W7 rfl ?_ ?_)|refine X5 (W7 rfl ?_ ?_))
 all_goals (try (conv => whnf))
 all_goals (try first|exact obA|refine Ob.mk ?_)
 all_goals (try simp only [ZA,ZB,ZC,ZD,ZE,ZF,ZG,ZH,ZI,ZJ,ZK,ZL,ZM,ZN,ZO,Int.toNat_natCast,UInt8.ofNat_toNat,cast_eq] at *)
 all_goals (first | exact (jmL (by omega)).symm | skip)
 all_goals (have hm : ¬ (n < 0 ∨ p < 0 ∨ n > 1048576 ∨ p > 20) := by (have h := ‹(decide (n < 0) || decide (p < 0) || decide (n > 1048576) || decide (p > 20)) = false›;simp only [Bool.or_eq_false_iff,decide_eq_false_iff_not] at h;omega))
 all_goals (have hb := jlU hm)
 all_goals (first | exact hb.1 | exact hb.2.1 | exact hb.2.2.1 | exact (jlN hm).symm)
instance nVal (p : List UInt8) (k s : Int) (nn d : List UInt8) (up : Int) (nm v : List UInt8) :
  Fn BB 41 [.str p,.agg [.int .i64 k,.int .i64 s,.str nn,.nils,.str d,.int .i64 up,.nils],.agg [.str nm,.str v]] (nn.length ≤ 1000 ∧ v.length ≤ 10000 ∧ p.length ≤ 60) (.str (jjI p k s nn nm v)) :=
 Fn.wk (eVal p k s nn [] d up [] nm v) fun r β => jmP rfl fun i x y h1 h2 v hv => by
  match i,h1,h2 with
  | 0,h1,h2 => cases h1;cases h2;exact hv
  | 1,h1,h2 => cases h1;cases h2;exact jlI hv
  | 2,h1,h2 => cases h1;cases h2;exact hv
theorem juC : jTZ [117] jzF := by unfold jTZ;decide +kernel
instance eAwake : Fn BB 38 [] True (.bool true) := by
 refine Fn.intro (N := 69) [0,1] [] Tryz.call38 Tryz.func38 rfl rfl (by kernel_rfl) (fun hpre => ?_)
 repeat' ((conv => whnf);first|(with_reducible first|rfl|exact jKE|exact jKD)|exact True.intro|intro _|refine WA ?_ ?_|refine WF ?_|refine W1 rfl ?_ ?_|refine W2 rfl ?_ ?_|refine W3 rfl ?_ ?_|refine W4 ?_ ?_|refine W5 rfl ?_ ?_|refine W6 ?_ ?_|refine WN ?_|refine X1 (W1 rfl ?_ ?_)|refine X1 (W2 rfl ?_ ?_)|refine X2 (W7 rfl ?_ ?_)|refine X3 (W7 rfl ?_ ?_)|refine X4 (W7 rfl ?_ ?_)|refine X5 (W7 rfl ?_ ?_))
 all_goals (try (conv => whnf))
 all_goals (try first|exact obA|refine Ob.mk ?_)
 all_goals (try exact juC)
 all_goals (try (exact ⟨by decide,by decide,by decide⟩))
 all_goals (try (first | decide +kernel | rfl))
 all_goals trace_state
theorem joH {a b c d : Bool} (h : (!a || b || !c || !d) = false) : a = true ∧ b = false ∧ c = true ∧ d = true := by
 cases a <;> cases b <;> cases c <;> cases d <;> simp_all
theorem jtN {p : List UInt8} {t : List jKH} (h : jT4 t 40 = true) (hp : p.length ≤ 40) : jTZ p t := by
 unfold jT4 at h
 rw [Bool.and_eq_true,decide_eq_true_eq,List.all_eq_true] at h
 refine ⟨by omega,by omega,fun n hn => ?_⟩
 have := h.2 n hn
 unfold jUU jOO at this
 simp only [Bool.and_eq_true,decide_eq_true_eq,List.all_eq_true] at this
 refine ⟨by omega,by omega,?_,fun a ha => by have := (this.2.2 a ha).2;omega⟩
 have h4 : n.2.2.2.2.2.2 = n.kids := rfl
 rw [h4];omega
theorem val_ok {p : List UInt8} {k s : Int} {nn : List UInt8} {at_ : List jKK} {d : List UInt8} {up : Int} {kids : List Int} {nm v : List UInt8} (h1 : jUU (k,s,nn,at_,d,up,kids) = true) (h2 : jOO [(nm,v)] = true) (hp : p.length ≤ 40) : nn.length ≤ 1000 ∧ v.length ≤ 10000 ∧ p.length ≤ 60 := by
 unfold jUU at h1
 unfold jOO at h2
 simp only [Bool.and_eq_true,decide_eq_true_eq,List.all_cons,List.all_nil] at h1 h2
 exact ⟨by omega,by omega,by omega⟩
instance eTells (p : List UInt8) (t : List jKH) (k s : Int) (nn : List UInt8) (at_ : List jKK) (d : List UInt8) (up : Int) (kids : List Int) (nm v : List UInt8) (b c : Int) :
  Fn BB 8 [.str p,.agg [.rd jKA t],.agg [.int .i64 k,.int .i64 s,.str nn,.rd jKP at_,.str d,.int .i64 up,.rd jKG kids],.agg [.str nm,.str v],.int .i64 b,.int .i64 c] True (.bool true) := by
 refine Fn.intro (N := 63) [0,1,2,3,4,5,7,8,9,12,31] [(3,[0,1,1,0,1,1,1,1,1,1,1,1,1,1,1,1,1,1,1,1,1,1,1,1,3,3,3,3,3,3,3])] Tryz.call8 Tryz.func8 rfl rfl (by kernel_rfl) (fun hpre => ?_)
 repeat' ((conv => whnf);first|(with_reducible first|rfl|exact jKE|exact jKD)|exact True.intro|intro _|refine WA ?_ ?_|refine WF ?_|refine W1 rfl ?_ ?_|refine W2 rfl ?_ ?_|refine W3 rfl ?_ ?_|refine W4 ?_ ?_|refine W5 rfl ?_ ?_|refine W6 ?_ ?_|refine WN ?_|refine X1 (W1 rfl ?_ ?_)|refine X1 (W2 rfl ?_ ?_)|refine X2 (W7 rfl ?_ ?_)|refine X3 (W7 rfl ?_ ?_)|refine X4 (W7 rfl ?_ ?_)|refine X5 (W7 rfl ?_ ?_))
 all_goals (try (conv => whnf))
 all_goals (try first|exact obA|refine Ob.mk ?_)
 all_goals (have hh := joH ‹(!jT4 t 40 || decide ((p.length : Int) > 40) || !jUU (k,s,nn,at_,d,up,kids) || !jOO [(nm,v)]) = false›)
 all_goals (have hp : p.length ≤ 40 := by (have := of_decide_eq_false hh.2.1;omega))
 all_goals (have hv : nn.length ≤ 1000 ∧ v.length ≤ 10000 ∧ p.length ≤ 60 := val_ok hh.2.2.1 hh.2.2.2 hp)
 all_goals (first | exact jtN hh.1 hp | exact hv | (rw [jh8.2 rfl];simp))
end Go.Vc

namespace Go.Vc
open Go.Proofs
set_option maxRecDepth 100000
theorem joM (W : World) (hsh : W.ShapedOpen Tryz.prog) : BB.G fun b => W.heap[b]? := by
 obtain ⟨m,hm⟩ := Go.Proofs.cell_of_shapedOpen_int (g := 0) (zero := #[.int .i64 0]) (t := 3) hsh (of_decide_eq_true (by kernel_rfl)) (by kernel_rfl) rfl (by kernel_rfl) (by kernel_rfl) Tryz.underlying3
 have hm' : W.cell? ⟨0,0,none⟩ = some (.int .i64 m) := hm
 unfold World.cell? at hm'
 show ∃ c T fr m,W.heap[0]? = some (.cells c T fr) ∧ c[0]? = some (.int .i64 m)
 cases h : W.heap[0]? with
 | none => simp [h] at hm'
 | some o =>
  cases o with
  | cells c T fr => exact ⟨c,T,fr,m,rfl,by simpa [h] using hm'⟩
  | _ => simp [h] at hm'
end Go.Vc
