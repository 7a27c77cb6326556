/- A part of the proof: lemmas and walks that the last text of the claim joins; no condition. -/
import Derived.Test.YtjnmepijcndcpaaGreatOwnerFormsTF
import Derived.Test.YtjnmepijcndcpaaGreatOwnerFormsTG
import Derived.Shelf.Vars
import Derived.Test.YtjnmepijcndcpaaGreatRows
set_option linter.unusedVariables false
set_option linter.unusedSimpArgs false
set_option maxHeartbeats 8000000
namespace Go.Vc
set_option autoImplicit false
def qFJ (y : St) (i u : Nat) : Bool := decide (0 ≤ y.I.getD i (-1)) && decide (0 ≤ y.I.getD u (-1)) && (decide (y.I.getD u (-1) < y.I.getD i (-1)) && decide (y.O.getD i (-1) < y.O.getD u (-1)))
theorem qHK {y : St} {i u : Nat} : qFJ y i u = true ↔ 0 ≤ y.I.getD i (-1) ∧ 0 ≤ y.I.getD u (-1) ∧ y.I.getD u (-1) < y.I.getD i (-1) ∧ y.O.getD i (-1) < y.O.getD u (-1) := by
 unfold qFJ;simp [and_assoc]
theorem qaW {p : Nat → Bool} : ∀ (S : List Nat) (m : Nat),(∀ i j,i < j → j < S.length → p (S.getD j 0) = true → p (S.getD i 0) = true) → m ≤ S.length →
  (∀ j,m ≤ j → j < S.length → p (S.getD j 0) = false) → (m = 0 ∨ p (S.getD (m - 1) 0) = true) → S.take m = S.filter p := by
 intro S
 induction S with
 | nil => intro m _ _ _ _;simp
 | cons a S ih =>
  intro m hc hm hf ht
  cases m with
  | zero =>
   symm
   rw [List.take_zero,List.filter_eq_nil_iff]
   intro x hx
   obtain ⟨j,hj,e⟩ := List.mem_iff_getElem.1 hx
   have := hf j (Nat.zero_le _) hj
   rw [List.getD_eq_getElem?_getD,List.getElem?_eq_getElem hj] at this
   simp at this
   rw [← e,this];simp
  | succ m =>
   have h0 : p a = true := by
    rcases ht with h | h
    ·cases h
    ·rw [Nat.add_sub_cancel] at h
     cases m with
     | zero => simpa using h
     | succ m => have := hc 0 (m + 1) (by omega) (by omega) h;simpa using this
   rw [List.take_succ_cons,List.filter_cons,if_pos h0]
   congr 1
   refine ih m (fun i j hij hj hp => ?_) (by simpa using hm) (fun j hj hl => ?_) ?_
   ·have := hc (i + 1) (j + 1) (by omega) (by simpa using hj) (by simpa using hp);simpa using this
   ·have := hf (j + 1) (by omega) (by simpa using hl);simpa using this
   ·rcases Nat.eq_zero_or_pos m with h | h
    ·exact .inl h
    ·right
     rcases ht with q | q
     ·cases q
     ·rw [Nat.add_sub_cancel] at q
      obtain ⟨k,rfl⟩ : ∃ k,m = k + 1 := ⟨m - 1,by omega⟩
      simpa using q
theorem qS9 {n : Nat} {y : St} (g : Good n y) {i j : Nat} (h : i < j) (hj : j < y.L.length) : y.I.getD (y.L.getD i 0) (-1) < y.I.getD (y.L.getD j 0) (-1) := by
 have := List.pairwise_iff_getElem.1 g.srt i j (by omega) hj h
 simpa [List.getD,List.getElem?_eq_getElem hj,List.getElem?_eq_getElem (show i < y.L.length by omega)] using this
theorem qMH {y : St} {j : Nat} (hj : j < y.L.length) : y.L.getD j 0 ∈ y.L := by
 rw [List.getD_eq_getElem?_getD,List.getElem?_eq_getElem hj];exact List.getElem_mem _
theorem qa9 {n : Nat} {y : St} (d : Done n y) {k : Nat} (hk : k + 1 < y.L.length) :
  y.L.filter (qFJ y (y.L.getD (k + 1) 0)) = (y.L.filter (qFJ y (y.L.getD k 0)) ++ [y.L.getD k 0]).filter (qFJ y (y.L.getD (k + 1) 0)) := by
 have g := d.toGood
 have hsplit : y.L = y.L.take (k + 1) ++ y.L.drop (k + 1) := (List.take_append_drop _ _).symm
 have hsplit2 : y.L = y.L.take k ++ y.L.drop k := (List.take_append_drop _ _).symm
 have hdrop : ∀ m q,m ≤ q → q < y.L.length → ∀ u ∈ y.L.drop q,qFJ y (y.L.getD m 0) u = false := by
  intro m q hmq hq u hu
  obtain ⟨i,hi,e⟩ := List.mem_iff_getElem.1 hu
  rw [List.length_drop] at hi
  rw [List.getElem_drop] at e
  rw [Bool.eq_false_iff]
  intro h
  rw [qHK] at h
  have e2 : u = y.L.getD (q + i) 0 := by rw [← e,List.getD_eq_getElem?_getD,List.getElem?_eq_getElem (by omega)];rfl
  rcases Nat.eq_or_lt_of_le (show m ≤ q + i by omega) with h2 | h2
  ·rw [e2, ← h2] at h;omega
  ·have := qS9 g h2 (by omega)
   rw [e2] at h;omega
 have f1 : ∀ m,m < y.L.length → y.L.filter (qFJ y (y.L.getD m 0)) = (y.L.take m).filter (qFJ y (y.L.getD m 0)) := by
  intro m hm
  have hs : ∀ p : Nat → Bool,y.L.filter p = (y.L.take m).filter p ++ (y.L.drop m).filter p := fun p => by rw [← List.filter_append,List.take_append_drop]
  have hd : (y.L.drop m).filter (qFJ y (y.L.getD m 0)) = [] := List.filter_eq_nil_iff.2 (fun u hu => by rw [hdrop m m (Nat.le_refl _) hm u hu];simp)
  rw [hs,hd,List.append_nil]
 rw [f1 (k + 1) hk,f1 k (by omega)]
 have ht : y.L.take (k + 1) = y.L.take k ++ [y.L.getD k 0] := by
  rw [List.take_succ_eq_append_getElem (by omega)]
  congr 2
  rw [List.getD_eq_getElem?_getD,List.getElem?_eq_getElem (by omega)];rfl
 rw [ht,List.filter_append,List.filter_append,List.filter_filter]
 congr 1
 apply List.filter_congr
 intro u hu
 have hu' : u ∈ y.L := List.mem_of_mem_take hu
 obtain ⟨i,hi,e⟩ := List.mem_iff_getElem.1 hu
 rw [List.length_take] at hi
 rw [List.getElem_take] at e
 have e2 : u = y.L.getD i 0 := by rw [← e,List.getD_eq_getElem?_getD,List.getElem?_eq_getElem (by omega)];rfl
 have hI1 := qS9 g (show i < k by omega) (by omega)
 have hI2 := qS9 g (show k < k + 1 by omega) hk
 rw [← e2] at hI1
 cases hb : qFJ y (y.L.getD (k + 1) 0) u with
 | false => rw [Bool.false_and]
 | true =>
  rw [Bool.true_and]
  symm
  rw [qHK] at hb ⊢
  have hak := qMH (show k < y.L.length by omega)
  have r1 := g.rI u hu'
  have r2 := g.rI _ hak
  refine ⟨r2.1,r1.1,hI1,?_⟩
  rcases d.nest u hu' _ hak hI1 with q | q | q
  ·exact absurd q (d.o hu')
  ·exfalso
   have r3 := g.rI _ (qMH hk)
   have r4 := (g.rO _ (qMH hk)).resolve_left (d.o (qMH hk))
   omega
  ·exact q.2
theorem qVN {y : St} {a b c : Nat} (h1 : qFJ y a b = true) (h2 : qFJ y b c = true) : qFJ y a c = true := by
 rw [qHK] at *;omega
theorem qWV {n : Nat} {y : St} (d : Done n y) {a u v : Nat} (ha : a ∈ y.L) (hu : u ∈ y.L) (hv : v ∈ y.L) (h1 : qFJ y a u = true) (h2 : qFJ y a v = true ∨ v = a) (h : y.I.getD u (-1) < y.I.getD v (-1)) : qFJ y v u = true := by
 rcases h2 with h2 | h2
 ·rw [qHK] at *
  refine ⟨h2.2.1,h1.2.1,h,?_⟩
  rcases d.nest u hu v hv h with q | q | q
  ·exact absurd q (d.o hu)
  ·exfalso
   have := (d.rO a ha).resolve_left (d.o ha)
   omega
  ·exact q.2
 ·rw [h2];exact h1
def qGA (y : St) (F : Nat → Bool) (a : Nat) : List Nat := (y.L.filter (qFJ y a) ++ [a]).filter F
theorem qS4 {n : Nat} {y : St} (d : Done n y) (F : Nat → Bool) {a b : Nat} (ha : a ∈ y.L) :
  ∀ i j,i < j → j < (qGA y F a).length → qFJ y b ((qGA y F a).getD j 0) = true → qFJ y b ((qGA y F a).getD i 0) = true := by
 intro i j hij hj h
 have hp : (y.L.filter (qFJ y a) ++ [a]).Pairwise (fun u v => qFJ y v u = true) := by
  rw [List.pairwise_append]
  refine ⟨?_,List.pairwise_singleton _ _,fun u hu v hv => ?_⟩
  ·have hs : (y.L.filter (qFJ y a)).Pairwise (fun u v => y.I.getD u (-1) < y.I.getD v (-1)) := d.srt.sublist List.filter_sublist
   refine hs.imp_of_mem fun {u v} hu hv hlt => ?_
   rw [List.mem_filter] at hu hv
   exact qWV d ha hu.1 hv.1 hu.2 (.inl hv.2) hlt
  ·rw [List.mem_singleton] at hv
   rw [List.mem_filter] at hu
   rw [hv];exact hu.2
 have hp2 := hp.sublist (List.filter_sublist (p := F))
 have := List.pairwise_iff_getElem.1 hp2 i j (by show i < (qGA y F a).length;omega) hj hij
 rw [List.getD_eq_getElem?_getD,List.getElem?_eq_getElem hj] at h
 rw [List.getD_eq_getElem?_getD,List.getElem?_eq_getElem (show i < (qGA y F a).length by omega)]
 exact qVN h this
theorem qYG {n : Nat} {y : St} (d : Done n y) (F : Nat → Bool) {k : Nat} (hk : k + 1 < y.L.length) (m : Nat) (hm : m ≤ (qGA y F (y.L.getD k 0)).length)
  (hf : ∀ j,m ≤ j → j < (qGA y F (y.L.getD k 0)).length → qFJ y (y.L.getD (k + 1) 0) ((qGA y F (y.L.getD k 0)).getD j 0) = false)
  (ht : m = 0 ∨ qFJ y (y.L.getD (k + 1) 0) ((qGA y F (y.L.getD k 0)).getD (m - 1) 0) = true) :
  (qGA y F (y.L.getD k 0)).take m = (y.L.filter (qFJ y (y.L.getD (k + 1) 0))).filter F := by
 rw [qaW _ m (qS4 d F (qMH (by omega))) hm hf ht]
 unfold qGA
 rw [qa9 d hk,List.filter_filter,List.filter_filter]
 congr 1
 funext u
 exact Bool.and_comm _ _
theorem qX4 {n : Nat} {y : St} (d : Done n y) (h0 : 0 < y.L.length) : y.L.filter (qFJ y (y.L.getD 0 0)) = [] := by
 rw [List.filter_eq_nil_iff]
 intro u hu h
 rw [qHK] at h
 obtain ⟨i,hi,e⟩ := List.mem_iff_getElem.1 hu
 have e2 : u = y.L.getD i 0 := by rw [← e,List.getD_eq_getElem?_getD,List.getElem?_eq_getElem (by omega)];rfl
 rcases Nat.eq_zero_or_pos i with q | q
 ·rw [e2,q] at h;omega
 ·have := qS9 d.toGood q hi
  rw [e2] at h;omega
end Go.Vc

namespace Go.Vc
open Go.Proofs
set_option maxRecDepth 10000
set_option maxHeartbeats 4000000
theorem qEW (l : List Nat) : (qA7 l).length = l.length := by unfold qA7;simp
def qSY (y : St) (i u : Nat) : Bool := decide (0 ≤ y.I.getD i (-1)) && decide (0 ≤ y.I.getD u (-1)) && (decide (y.I.getD u (-1) < y.I.getD i (-1)) && decide (y.O.getD i (-1) < y.O.getD u (-1)))
theorem qJX (l : List qAE) (i : Nat) : qCJ l i = (fin l).L.filter (qSY (fin l) i) := by
 have d := qDI l
 rw [qZ9]
 split
 ·rename_i h
  unfold qRN qSY
  refine List.filter_congr fun u hu => ?_
  rw [decide_eq_true (d.rI i h).1,decide_eq_true (d.rI u hu).1];rfl
 ·rename_i h
  symm
  rw [List.filter_eq_nil_iff]
  intro u _
  unfold qSY
  rw [(d.out i h).1];simp
theorem qKH (L : List Nat) (j : Nat) (h : j < L.length) (d : Int) : (qA7 L).getD j d = ((L.getD j 0 : Nat) : Int) := by
 unfold qA7;simp [List.getD,h]
theorem qJR {p : Nat → Bool} (L : List Nat) (j : Nat) (h : j < L.length) : (L.take (j + 1)).filter p = (L.take j).filter p ++ (if p (L.getD j 0) = true then [L.getD j 0] else []) := by
 rw [take_snoc L j 0 h,List.filter_append,List.filter_cons]
 split <;> simp
theorem getD_mem (L : List Nat) (j : Nat) (h : j < L.length) : L.getD j 0 ∈ L := by
 have : L.getD j 0 = L[j] := by simp [List.getD,List.getElem?_eq_getElem h]
 rw [this];exact List.getElem_mem h
theorem qTR (l : List qAE) (v : Int) : qCJ l v = if 0 ≤ v then (fin l).L.filter (qSY (fin l) v.toNat) else [] := by
 split
 ·rename_i h
  rw [← qJX l v.toNat,Int.toNat_of_nonneg h]
 ·rename_i h
  unfold qCJ
  rw [qU5 (fun e _ _ => by omega)];rfl
theorem qXF {l : List qAE} {i : Nat} (h : (fin l).I.getD i (-1) < 0) : (fin l).L.filter (qSY (fin l) i) = [] := by
 rw [List.filter_eq_nil_iff]
 intro u _
 unfold qSY
 rw [decide_eq_false (by omega)];simp
theorem qF4 {l : List Int} {i : Nat} (h : i < l.length) (d d' : Int) : l.getD i d = l.getD i d' := by simp [List.getD,h]
instance hPath (l : List qAE) (v : Int) : Fn BB 36 [.agg [.rd qAC l],.int .i64 v] (l.length ≤ 45) (.rd qAI (qA7 (qCJ l v))) := by
 refine Fn.intro (N := 73) [0,1,2,4,5,6,7,8,9,36,64] [(6,[0,0,0,1,1,1,1,0,0,1,1,1,1,1,1,1,1,1,1,1,1,1,1,1,3,3])] Tryz.call36 Tryz.func36 rfl rfl (by kernel_rfl) (fun hpre => ?_)
 have hl := hpre
 have d := qDI l
 have hb := d.bnd hl
 have hn := qEX d.nod d.lt
 repeat' ((conv => whnf);first|(with_reducible first|rfl|exact qAH|exact qAG)|exact True.intro|intro _|refine WA ?_ ?_|refine WF ?_|refine W1 rfl ?_ ?_|refine W2 rfl ?_ ?_|refine W3 rfl ?_ ?_|refine W4 ?_ ?_|refine W5 rfl ?_ ?_|refine W6 ?_ ?_|refine WN ?_|refine X1 (W1 rfl ?_ ?_)|refine X1 (W2 rfl ?_ ?_)|refine X2 (W7 rfl ?_ ?_)|refine X3 (W7 rfl ?_ ?_)|refine X4 (W7 rfl ?_ ?_)|refine X5 (W7 rfl ?_ ?_))
 all_goals (try (conv => whnf))
 all_goals (try first|exact obA|refine Ob.mk ?_)
 all_goals (try (exact hl))
 refine LoopStop.mk (α := Nat) (fun k => [(8,.own 60),(9,.int .i64 k)]) (fun k => [(60,.own qAI (qA7 (((fin l).L.take k).filter (qSY (fin l) v.toNat))))]) 80 (fun k => k ≤ (fin l).L.length ∧ (¬ (0 ≤ v ∧ v < l.length ∧ 0 ≤ (fin l).I.getD v.toNat (-1)) → k = 0)) (fun k => (fin l).L.length - k) 0 ⟨Nat.zero_le _,fun _ => rfl⟩ ?_ (fun k hk => ?_)
 ·all_goals exact vcA
 ·obtain ⟨hk,hk0⟩ := hk
  have hpa := qTR l v
  by_cases hok : 0 ≤ v ∧ v < l.length ∧ 0 ≤ (fin l).I.getD v.toNat (-1)
  ·rw [if_pos hok.1] at hpa
   by_cases hj2 : k < (fin l).L.length
   ·obtain ⟨u,hu⟩ : ∃ u,u = (fin l).L.getD k 0 := ⟨_,rfl⟩
    have huL : u ∈ (fin l).L := by rw [hu];exact getD_mem _ _ hj2
    have hun := d.lt u huL
    have hgu : ∀ dd,(qA7 (fin l).L).getD k dd = (u : Int) := fun dd => by rw [qKH _ _ hj2,hu]
    have hgi : ∀ dd,(fin l).I.getD v.toNat dd = (fin l).I.getD v.toNat (-1) := fun dd => qF4 (by rw [d.lI];omega) _ _
    have hgo : ∀ dd,(fin l).O.getD v.toNat dd = (fin l).O.getD v.toNat (-1) := fun dd => qF4 (by rw [d.lO];omega) _ _
    have hgiu : ∀ dd,(fin l).I.getD u dd = (fin l).I.getD u (-1) := fun dd => qF4 (by rw [d.lI];omega) _ _
    have hgou : ∀ dd,(fin l).O.getD u dd = (fin l).O.getD u (-1) := fun dd => qF4 (by rw [d.lO];omega) _ _
    have hts := qJR (p := qSY (fin l) v.toNat) (fin l).L k hj2
    rw [← hu] at hts
    have hru := d.rI u huL
    have hlI := d.lI
    have hlO := d.lO
    have hins : (decide ((fin l).I.getD u (-1) < (fin l).I.getD v.toNat (-1)) && decide ((fin l).O.getD v.toNat (-1) < (fin l).O.getD u (-1))) = qSY (fin l) v.toNat u := by
     unfold qSY;rw [decide_eq_true hok.2.2,decide_eq_true hru.1];rfl
    have hfl2 : (qA7 (((fin l).L.take k).filter (qSY (fin l) v.toNat))).length ≤ 45 := by
     rw [qEW]
     have h1 := List.length_filter_le (qSY (fin l) v.toNat) ((fin l).L.take k)
     rw [List.length_take] at h1
     omega
    have q1 := hgu qAI.dflt
    have q2 := hgi qAI.dflt
    have q3 := hgo qAI.dflt
    have q4 := hgiu qAI.dflt
    have q5 := hgou qAI.dflt
    repeat' ((conv => whnf);first|(with_reducible first|rfl|exact qAH|exact qAG)|exact True.intro|intro _|refine WA ?_ ?_|refine WF ?_|refine W1 rfl ?_ ?_|refine W2 rfl ?_ ?_|refine W3 rfl ?_ ?_|refine W4 ?_ ?_|refine W5 rfl ?_ ?_|refine W6 ?_ ?_|refine WN ?_|refine X1 (W1 rfl ?_ ?_)|refine X1 (W2 rfl ?_ ?_)|refine X2 (W7 rfl ?_ ?_)|refine X3 (W7 rfl ?_ ?_)|refine X4 (W7 rfl ?_ ?_)|refine X5 (W7 rfl ?_ ?_))
    all_goals (try (conv => whnf))
    all_goals (try first|exact obA|refine Ob.mk ?_)
    all_goals (try simp only [Int.toNat_natCast,q1,q2,q3,q4,q5,hins] at *)
    all_goals (try rw [qEW] at *)
    all_goals (try omega)
    all_goals (try (simp only [bytes3,List.length_singleton];omega))
    all_goals (try (
     exfalso
     have h := ‹(decide ((k : Int) < ((fin l).L.length : Int)) && decide (v ≥ 0) && decide (v < ((fin l).I.length : Int)) && decide ((fin l).I.getD v.toNat (-1) ≥ 0)) = false›
     rw [decide_eq_true (by omega),decide_eq_true hok.1,decide_eq_true (by omega),decide_eq_true hok.2.2] at h
     cases h
     done))
    ·have hi1 : qSY (fin l) v.toNat u = true := by assumption
     rw [if_pos hi1] at hts
     refine Rnd.mk ⟨k + 1,⟨by omega,fun q => absurd hok q⟩,by omega,?_⟩
     repeat' ((conv => whnf);first|(with_reducible first|rfl|exact qAH|exact qAG)|exact True.intro|intro _|refine WA ?_ ?_|refine WF ?_|refine W1 rfl ?_ ?_|refine W2 rfl ?_ ?_|refine W3 rfl ?_ ?_|refine W4 ?_ ?_|refine W5 rfl ?_ ?_|refine W6 ?_ ?_|refine WN ?_|refine X1 (W1 rfl ?_ ?_)|refine X1 (W2 rfl ?_ ?_)|refine X2 (W7 rfl ?_ ?_)|refine X3 (W7 rfl ?_ ?_)|refine X4 (W7 rfl ?_ ?_)|refine X5 (W7 rfl ?_ ?_))
     all_goals (try (conv => whnf))
     all_goals (try first|exact obA|refine Ob.mk ?_)
     all_goals (try rfl)
     rw [hts,qG7]
    ·have hi1 : qSY (fin l) v.toNat u = false := by assumption
     rw [if_neg (by rw [hi1];decide),List.append_nil] at hts
     refine Rnd.mk ⟨k + 1,⟨by omega,fun q => absurd hok q⟩,by omega,?_⟩
     repeat' ((conv => whnf);first|(with_reducible first|rfl|exact qAH|exact qAG)|exact True.intro|intro _|refine WA ?_ ?_|refine WF ?_|refine W1 rfl ?_ ?_|refine W2 rfl ?_ ?_|refine W3 rfl ?_ ?_|refine W4 ?_ ?_|refine W5 rfl ?_ ?_|refine W6 ?_ ?_|refine WN ?_|refine X1 (W1 rfl ?_ ?_)|refine X1 (W2 rfl ?_ ?_)|refine X2 (W7 rfl ?_ ?_)|refine X3 (W7 rfl ?_ ?_)|refine X4 (W7 rfl ?_ ?_)|refine X5 (W7 rfl ?_ ?_))
     all_goals (try (conv => whnf))
     all_goals (try first|exact obA|refine Ob.mk ?_)
     all_goals (try rfl)
     rw [hts]
   ·have : k = (fin l).L.length := by omega
    subst this
    have hlI := d.lI
    repeat' ((conv => whnf);first|(with_reducible first|rfl|exact qAH|exact qAG)|exact True.intro|intro _|refine WA ?_ ?_|refine WF ?_|refine W1 rfl ?_ ?_|refine W2 rfl ?_ ?_|refine W3 rfl ?_ ?_|refine W4 ?_ ?_|refine W5 rfl ?_ ?_|refine W6 ?_ ?_|refine WN ?_|refine X1 (W1 rfl ?_ ?_)|refine X1 (W2 rfl ?_ ?_)|refine X2 (W7 rfl ?_ ?_)|refine X3 (W7 rfl ?_ ?_)|refine X4 (W7 rfl ?_ ?_)|refine X5 (W7 rfl ?_ ?_))
    all_goals (try (conv => whnf))
    all_goals (try first|exact obA|refine Ob.mk ?_)
    all_goals (try rw [qEW] at *)
    all_goals (try omega)
    all_goals (try (
     exfalso
     have h := ‹(decide (((fin l).L.length : Int) < ((fin l).L.length : Int)) && decide (v ≥ 0) && decide (v < ((fin l).I.length : Int)) && decide ((fin l).I.getD v.toNat qAI.dflt ≥ 0)) = true›
     rw [decide_eq_false (by omega)] at h
     simp at h
     done))
    all_goals (try (rw [List.take_length,hpa]))
    all_goals trace_state
  ·have : k = 0 := hk0 hok
   subst this
   have hnil : qCJ l v = [] := by
    rw [hpa]
    split
    ·rename_i h0
     refine qXF ?_
     by_cases h1 : v < l.length
     ·have : ¬ 0 ≤ (fin l).I.getD v.toNat (-1) := fun q => hok ⟨h0,h1,q⟩
      omega
     ·rw [List.getD_eq_getElem?_getD,List.getElem?_eq_none (by rw [d.lI];omega)]
      decide
    ·rfl
   have hlI := d.lI
   repeat' ((conv => whnf);first|(with_reducible first|rfl|exact qAH|exact qAG)|exact True.intro|intro _|refine WA ?_ ?_|refine WF ?_|refine W1 rfl ?_ ?_|refine W2 rfl ?_ ?_|refine W3 rfl ?_ ?_|refine W4 ?_ ?_|refine W5 rfl ?_ ?_|refine W6 ?_ ?_|refine WN ?_|refine X1 (W1 rfl ?_ ?_)|refine X1 (W2 rfl ?_ ?_)|refine X2 (W7 rfl ?_ ?_)|refine X3 (W7 rfl ?_ ?_)|refine X4 (W7 rfl ?_ ?_)|refine X5 (W7 rfl ?_ ?_))
   all_goals (try (conv => whnf))
   all_goals (try first|exact obA|refine Ob.mk ?_)
   all_goals (try rw [qEW] at *)
   all_goals (try (
    exfalso
    have h := ‹(decide (((0 : Nat) : Int) < ((fin l).L.length : Int)) && decide (v ≥ 0) && decide (v < ((fin l).I.length : Int)) && decide ((fin l).I.getD v.toNat qAI.dflt ≥ 0)) = true›
    simp only [Bool.and_eq_true,decide_eq_true_eq] at h
    obtain ⟨⟨⟨_,h1⟩,h2⟩,h3⟩ := h
    rw [qF4 (by omega) qAI.dflt (-1)] at h3
    exact hok ⟨h1,by omega,h3⟩))
   rw [hnil];rfl
end Go.Vc

namespace Go.Vc
open Go.Proofs
open Go.Vc.W
set_option maxRecDepth 10000
set_option maxHeartbeats 4000000
abbrev qBA : List UInt8 := [102,111,114,109]
abbrev qcG : List UInt8 := [105,109,103]
abbrev qE9 : List UInt8 := [98,117,116,116,111,110,32,102,105,101,108,100,115,101,116,32,105,110,112,117,116,32,111,98,106,101,99,116,32,111,117,116,112,117,116,32,115,101,108,101,99,116,32,116,101,120,116,97,114,101,97]
def qZV (k s : Int) (nn c : List UInt8) : Bool := k == 1 && s == 0 && (spl c).contains nn
abbrev qBI (c : List UInt8) (n : qAE) : Bool := qZV n.1 n.2.1 n.2.2.1 c
instance oHtml (k s : Int) (nn : List UInt8) (at_ : List qAD) (d : List UInt8) (up : Int) (kids : List Int) (c : List UInt8) : Fn BB 89 [.agg [.int .i64 k,.int .i64 s,.str nn,.rd qAX at_,.str d,.int .i64 up,.rd qAI kids],.str c] (nn.length ≤ 100000 ∧ c.length ≤ 100000) (.bool (qZV k s nn c)) := by
 refine Fn.intro (N := 19) [0,1,2,4] [] Tryz.call89 Tryz.func89 rfl rfl (by kernel_rfl) (fun hpre => ?_)
 repeat' ((conv => whnf);first|(with_reducible first|rfl|exact qAH|exact qAG)|exact True.intro|intro _|refine WA ?_ ?_|refine WF ?_|refine W1 rfl ?_ ?_|refine W2 rfl ?_ ?_|refine W3 rfl ?_ ?_|refine W4 ?_ ?_|refine W5 rfl ?_ ?_|refine W6 ?_ ?_|refine WN ?_|refine X1 (W1 rfl ?_ ?_)|refine X1 (W2 rfl ?_ ?_)|refine X2 (W7 rfl ?_ ?_)|refine X3 (W7 rfl ?_ ?_)|refine X4 (W7 rfl ?_ ?_)|refine X5 (W7 rfl ?_ ?_))
 all_goals (try (conv => whnf))
 all_goals (try first|exact obA|refine Ob.mk ?_)
 all_goals (first | exact ⟨hpre.2,hpre.1⟩ | exact hpre.2 | rfl | trace_state)
instance oListed (k s : Int) (nn : List UInt8) (at_ : List qAD) (d : List UInt8) (up : Int) (kids : List Int) : Fn BB 34 [.agg [.int .i64 k,.int .i64 s,.str nn,.rd qAX at_,.str d,.int .i64 up,.rd qAI kids]] (nn.length ≤ 100000) (.bool (qZV k s nn qE9)) := by
 refine Fn.intro (N := 5) [0,1,2] [] Tryz.call34 Tryz.func34 rfl rfl (by kernel_rfl) (fun hpre => ?_)
 repeat' ((conv => whnf);first|(with_reducible first|rfl|exact qAH|exact qAG)|exact True.intro|intro _|refine WA ?_ ?_|refine WF ?_|refine W1 rfl ?_ ?_|refine W2 rfl ?_ ?_|refine W3 rfl ?_ ?_|refine W4 ?_ ?_|refine W5 rfl ?_ ?_|refine W6 ?_ ?_|refine WN ?_|refine X1 (W1 rfl ?_ ?_)|refine X1 (W2 rfl ?_ ?_)|refine X2 (W7 rfl ?_ ?_)|refine X3 (W7 rfl ?_ ?_)|refine X4 (W7 rfl ?_ ?_)|refine X5 (W7 rfl ?_ ?_))
 all_goals (try (conv => whnf))
 all_goals (try first|exact obA|refine Ob.mk ?_)
 all_goals (first | exact ⟨hpre,by decide⟩ | rfl | trace_state)
def qVQ (l : List Nat) : Int := ((l.getD (l.length - 1) 0 : Nat) : Int)
def fB (t : List qAE) (u : Nat) : Bool := qBI qBA (nd t u)
def qCY (t : List qAE) (i : Int) : Int := if (qBI qE9 (nd t i) || qBI qcG (nd t i)) = true then qVQ ((qCJ t i).filter (fB t)) else 0
def qPP (t : List qAE) (i : Int) : Int := if qBI qBA (nd t (firstT t (qJ8 (nd t i).2.2.2.1 qBA))) = true then firstT t (qJ8 (nd t i).2.2.2.1 qBA) else 0
def qEU (t : List qAE) (i : Int) : Int := if (qBI qE9 (nd t i) && (nd t i).2.2.2.1.any (qE8 qBA)) = true then qPP t i else qCY t i
theorem qL2 {t : List qAE} (h0 : 0 < t.length) (v : List UInt8) : 0 ≤ firstT t v ∧ firstT t v < t.length := by
 unfold firstT qaP
 by_cases h : v = []
 ·rw [if_pos h];omega
 ·rw [if_neg h]
  cases hf : (qES t).find? fun i => qTW [] idT v (nd t i) with
  | none => show (0 : Int) ≤ 0 ∧ (0 : Int) < t.length;omega
  | some x =>
   obtain ⟨j,hj,e⟩ := List.mem_iff_getElem.1 (List.mem_of_find?_eq_some hf)
   have := qM1 t j hj 0
   rw [List.getD_eq_getElem?_getD,List.getElem?_eq_getElem hj] at this
   show 0 ≤ x ∧ x < t.length
   rw [← e];exact this
theorem qc0 {t : List qAE} {i : Int} {j : Nat} (h : j < (qCJ t i).length) : (qCJ t i).getD j 0 < t.length := by
 have hm : (qCJ t i).getD j 0 ∈ qCJ t i := by rw [List.getD_eq_getElem?_getD,List.getElem?_eq_getElem h];exact List.getElem_mem _
 generalize (qCJ t i).getD j 0 = x at hm
 rw [qTR] at hm
 split at hm
 ·exact (qDI t).lt _ (List.mem_filter.1 hm).1
 ·cases hm
theorem qiS {t : List qAE} {i : Int} (h : (qBI qE9 (nd t i) && (nd t i).2.2.2.1.any (qE8 qBA)) = true) (h2 : qBI qBA (nd t (firstT t (qJ8 (nd t i).2.2.2.1 qBA))) = true) : qEU t i = firstT t (qJ8 (nd t i).2.2.2.1 qBA) := by
 unfold qEU qPP;rw [if_pos h,if_pos h2]
theorem qk0 {t : List qAE} {i : Int} (h : (qBI qE9 (nd t i) && (nd t i).2.2.2.1.any (qE8 qBA)) = true) (h2 : qBI qBA (nd t (firstT t (qJ8 (nd t i).2.2.2.1 qBA))) = false) : qEU t i = 0 := by
 unfold qEU qPP;rw [if_pos h,if_neg (by rw [h2];decide)]
theorem qlI {t : List qAE} {i : Int} (h : (qBI qE9 (nd t i) && (nd t i).2.2.2.1.any (qE8 qBA)) = false) : qEU t i = qCY t i := by
 unfold qEU;rw [if_neg (by rw [h];decide)]
def qSW (t : List qAE) : List Int := (List.range t.length).map fun (u : Nat) => qEU t (u : Int)
end Go.Vc

namespace Go.Vc
open Go.Proofs
set_option maxRecDepth 10000
set_option maxHeartbeats 4000000
def qEK (t : List qAE) (k : Nat) : List Nat := if k = 0 then [] else qGA (fin t) (fB t) ((fin t).L.getD (k - 1) 0)
def qfC (t : List qAE) (i : Nat) : List Nat := ((fin t).L.filter (qFJ (fin t) i)).filter (fB t)
def qOA (t : List qAE) (k : Nat) : List Int := (List.range t.length).map fun (u : Nat) => if ((fin t).L.take k).contains u = true then qCY t (u : Int) else 0
def qNN (t : List qAE) (i : Nat) : List Int := (List.range t.length).map fun (u : Nat) => if u < i then qEU t (u : Int) else qCY t (u : Int)
theorem qbP (t : List qAE) (i : Nat) : (qCJ t (i : Int)).filter (fB t) = qfC t i := by
 rw [qJX];rfl
theorem qeH (t : List qAE) (h : t.length ≤ 45) (k : Nat) : (qEK t k).length ≤ 46 := by
 have d := qDI t
 have hn := qEX d.nod d.lt
 unfold qEK
 split
 ·simp
 ·unfold qGA
  refine Nat.le_trans (List.length_filter_le _ _) ?_
  rw [List.length_append]
  have := List.length_filter_le (qFJ (fin t) ((fin t).L.getD (k - 1) 0)) (fin t).L
  simp only [List.length_singleton];omega
theorem qW9 {t : List qAE} {k : Nat} (hk : k < (fin t).L.length) {m : Nat} (hm : m ≤ (qEK t k).length)
  (hf : ∀ j,m ≤ j → j < (qEK t k).length → qFJ (fin t) ((fin t).L.getD k 0) ((qEK t k).getD j 0) = false)
  (ht : m = 0 ∨ qFJ (fin t) ((fin t).L.getD k 0) ((qEK t k).getD (m - 1) 0) = true) : (qEK t k).take m = qfC t ((fin t).L.getD k 0) := by
 have d := qDI t
 cases k with
 | zero =>
  unfold qfC
  rw [qX4 d hk]
  unfold qEK;simp
 | succ k =>
  have e : qEK t (k + 1) = qGA (fin t) (fB t) ((fin t).L.getD k 0) := by unfold qEK;rw [if_neg (by omega)];rfl
  rw [e] at hm hf ht ⊢
  exact qYG d (fB t) hk m hm hf ht
theorem qTB (t : List qAE) (k : Nat) : qEK t (k + 1) = qfC t ((fin t).L.getD k 0) ++ (if fB t ((fin t).L.getD k 0) = true then [(fin t).L.getD k 0] else []) := by
 unfold qEK
 rw [if_neg (by omega),Nat.add_sub_cancel]
 unfold qGA qfC
 rw [List.filter_append,List.filter_cons]
 split <;> simp
theorem qdD {t : List qAE} {k j : Nat} (hk : k ≤ (fin t).L.length) (h : j < (qEK t k).length) : (qEK t k).getD j 0 ∈ (fin t).L := by
 have hm : (qEK t k).getD j 0 ∈ qEK t k := by rw [List.getD_eq_getElem?_getD,List.getElem?_eq_getElem h];exact List.getElem_mem _
 generalize (qEK t k).getD j 0 = x at hm
 unfold qEK at hm
 split at hm
 ·cases hm
 ·unfold qGA at hm
  have := (List.mem_filter.1 hm).1
  rw [List.mem_append] at this
  rcases this with q | q
  ·exact (List.mem_filter.1 q).1
  ·rw [List.mem_singleton] at q;rw [q];exact qMH (by omega)
theorem qFS (t : List qAE) (k : Nat) : (qOA t k).length = t.length := by unfold qOA;simp
theorem qE1 (t : List qAE) (k : Nat) : (qNN t k).length = t.length := by unfold qNN;simp
theorem qwF (t : List qAE) : qOA t 0 = List.replicate t.length 0 := by
 unfold qOA;simp [List.map_const']
theorem qMN (t : List qAE) (k u : Nat) (h : u < t.length) (d : Int) : (qOA t k).getD u d = if ((fin t).L.take k).contains u = true then qCY t (u : Int) else 0 := by
 unfold qOA;simp [List.getD,h]
theorem qJW (t : List qAE) (k u : Nat) (h : u < t.length) (d : Int) : (qNN t k).getD u d = if u < k then qEU t (u : Int) else qCY t (u : Int) := by
 unfold qNN;simp [List.getD,h]
theorem qGY {a b : List Int} (hl : a.length = b.length) (h : ∀ u < a.length,a.getD u 0 = b.getD u 0) : a = b := by
 apply List.ext_getElem hl
 intro i h1 h2
 have := h i h1
 simpa [List.getD,List.getElem?_eq_getElem h1,List.getElem?_eq_getElem h2] using this
theorem qFP (l : List Int) (i u : Nat) (v : Int) (h : u < l.length) : (l.set i v).getD u 0 = if i = u then v else l.getD u 0 := by
 simp only [List.getD,List.getElem?_set]
 split
 ·rename_i e;subst e;simp [h]
 ·rfl
theorem qXN {t : List qAE} {k : Nat} (hk : k < (fin t).L.length) : (qOA t k).set ((fin t).L.getD k 0) (qCY t (((fin t).L.getD k 0 : Nat) : Int)) = qOA t (k + 1) := by
 refine qGY (by rw [List.length_set,qFS,qFS]) fun u hu => ?_
 rw [List.length_set,qFS] at hu
 rw [qFP _ _ _ _ (by rw [qFS];exact hu),qMN _ _ _ hu,qMN _ _ _ hu,take_snoc (fin t).L k 0 hk]
 split
 ·rename_i e;subst e;simp
 ·rename_i e
  have : (((fin t).L.take k) ++ [(fin t).L.getD k 0]).contains u = ((fin t).L.take k).contains u := by
   rw [Bool.eq_iff_iff];simp only [List.contains_iff_mem,List.mem_append,List.mem_singleton]
   exact ⟨fun h => h.resolve_right (fun q => e q.symm),.inl⟩
  rw [this]
theorem qUH {t : List qAE} {k : Nat} (hk : k < (fin t).L.length) (h : qCY t (((fin t).L.getD k 0 : Nat) : Int) = 0) : qOA t k = qOA t (k + 1) := by
 rw [← qXN hk]
 refine qGY (by rw [List.length_set]) fun u hu => ?_
 rw [qFP _ _ _ _ hu]
 rw [qFS] at hu
 split
 ·rename_i e;subst e
  rw [h,qMN _ _ _ hu];split <;> first | exact h | rfl
 ·rfl
theorem qbW {t : List qAE} {u : Nat} (h : u ∉ (fin t).L) : qCY t (u : Int) = 0 := by
 unfold qCY
 split
 ·have e : qCJ t (u : Int) = [] := by rw [qJX];exact qXF (by have := ((qDI t).out u h).1;omega)
  rw [e];rfl
 ·rfl
theorem qdO (t : List qAE) : qOA t (fin t).L.length = qNN t 0 := by
 refine qGY (by rw [qFS,qE1]) fun u hu => ?_
 rw [qFS] at hu
 rw [qMN _ _ _ hu,qJW _ _ _ hu,List.take_length,if_neg (Nat.not_lt_zero u)]
 split
 ·rfl
 ·rename_i e
  exact (qbW (fun q => e (List.contains_iff_mem.2 q))).symm
theorem qZ1 (t : List qAE) : qNN t t.length = qSW t := by
 unfold qNN qSW
 refine List.map_congr_left fun u hu => ?_
 rw [if_pos (List.mem_range.1 hu)]
theorem qNX {t : List qAE} {i : Nat} (hi : i < t.length) {x : Int} (h : x = qEU t (i : Int)) : (qNN t i).set i x = qNN t (i + 1) := by
 refine qGY (by rw [List.length_set,qE1,qE1]) fun u hu => ?_
 rw [List.length_set,qE1] at hu
 rw [qFP _ _ _ _ (by rw [qE1];exact hu),qJW _ _ _ hu,qJW _ _ _ hu]
 split
 ·rename_i e;subst e;rw [if_pos (by omega)];exact h
 ·rename_i e
  by_cases q : u < i
  ·rw [if_pos q,if_pos (by omega)]
  ·rw [if_neg q,if_neg (by omega)]
theorem qYV {t : List qAE} {i : Nat} (hi : i < t.length) (h : qEU t (i : Int) = qCY t (i : Int)) : qNN t i = qNN t (i + 1) := by
 rw [← qNX hi rfl]
 refine qGY (by rw [List.length_set]) fun u hu => ?_
 rw [qFP _ _ _ _ hu]
 rw [qE1] at hu
 split
 ·rename_i e;subst e;rw [qJW _ _ _ hu,if_neg (by omega),h]
 ·rfl
theorem qTM {t : List qAE} {u : Nat} (h : (qBI qcG (nd t (u : Int)) || qBI qE9 (nd t (u : Int))) = true) : qCY t (u : Int) = qVQ (qfC t u) := by
 unfold qCY
 rw [if_pos (by rw [Bool.or_comm];exact h),qbP]
theorem qZI {t : List qAE} {u : Nat} (h : (qBI qcG (nd t (u : Int)) || qBI qE9 (nd t (u : Int))) = false) : qCY t (u : Int) = 0 := by
 unfold qCY
 rw [if_neg (by rw [Bool.or_comm,h];decide)]
end Go.Vc

namespace Go.Vc
open Go.Proofs
open Go.Vc.W
set_option maxRecDepth 10000
set_option maxHeartbeats 4000000
instance oOf (t : List qAE) : Fn BB 32 [.agg [.rd qAC t]] (qBW t 45 = true) (.rd qAI (qSW t)) := by
 refine Fn.intro (N := 122) [0,1,2,3,4,5,7,8,9,10,11,12,13,21,22,23,24,51,62,66,76,83,84,85,86,100,116] [(8,[0,1,1,1,1,1,1,1,1,1,1,1,1,1,1,1,1,3,3,3]),(23,[0,1,0,0,1,1,3,3,3,3])] Tryz.call32 Tryz.func32 rfl rfl (by kernel_rfl) (fun hpre => ?_)
 have ht := hpre
 have hl := qXW ht
 have d := qDI t
 have hb := d.bnd (by omega : t.length ≤ 45)
 have hn := qEX d.nod d.lt
 have hfl : (flat (fin t)).length = t.length := by rw [qCC];exact d.lI
 have hLl := qEW (fin t).L
 repeat' ((conv => whnf);first|(with_reducible first|rfl|exact qAH|exact qAG)|exact True.intro|intro _|refine WA ?_ ?_|refine WF ?_|refine W1 rfl ?_ ?_|refine W2 rfl ?_ ?_|refine W3 rfl ?_ ?_|refine W4 ?_ ?_|refine W5 rfl ?_ ?_|refine W6 ?_ ?_|refine WN ?_|refine X1 (W1 rfl ?_ ?_)|refine X1 (W2 rfl ?_ ?_)|refine X2 (W7 rfl ?_ ?_)|refine X3 (W7 rfl ?_ ?_)|refine X4 (W7 rfl ?_ ?_)|refine X5 (W7 rfl ?_ ?_))
 all_goals (try (conv => whnf))
 all_goals (try first|exact obA|refine Ob.mk ?_)
 refine LoopStop.mk (α := Nat) (fun k => [(5,.own 60),(23,.int .i64 k)]) (fun k => [(60,.own qAI (qA7 (qEK t k))),(1,.own qAI (qOA t k))]) 80 (fun k => k ≤ (fin t).L.length) (fun k => (fin t).L.length - k) 0 (Nat.zero_le _) ?_ (fun k hk => ?_)
 ·repeat' ((conv => whnf);first|(with_reducible first|rfl|exact qAH|exact qAG)|exact True.intro|intro _|refine WA ?_ ?_|refine WF ?_|refine W1 rfl ?_ ?_|refine W2 rfl ?_ ?_|refine W3 rfl ?_ ?_|refine W4 ?_ ?_|refine W5 rfl ?_ ?_|refine W6 ?_ ?_|refine WN ?_|refine X1 (W1 rfl ?_ ?_)|refine X1 (W2 rfl ?_ ?_)|refine X2 (W7 rfl ?_ ?_)|refine X3 (W7 rfl ?_ ?_)|refine X4 (W7 rfl ?_ ?_)|refine X5 (W7 rfl ?_ ?_))
  all_goals (try (conv => whnf))
  all_goals (try first|exact obA|refine Ob.mk ?_)
  all_goals (try rfl)
  all_goals (rw [qwF,Int.toNat_natCast])
 ·by_cases hk2 : k < (fin t).L.length
  ·obtain ⟨u,hu⟩ : ∃ u,u = (fin t).L.getD k 0 := ⟨_,rfl⟩
   have huL : u ∈ (fin t).L := by rw [hu];exact getD_mem _ _ hk2
   have hun := d.lt u huL
   have hgu : ∀ dd,(qA7 (fin t).L).getD k dd = (u : Int) := fun dd => by rw [qKH _ _ hk2,hu]
   have hgu1 := hgu qAI.dflt
   have hnu := qDH (qKU ht (u : Int) ⟨by omega,by omega⟩)
   have hsl := qeH t (by omega) k
   have hsn := qEW (qEK t k)
   have hol := qFS t k
   repeat' ((conv => whnf);first|(with_reducible first|rfl|exact qAH|exact qAG)|exact True.intro|intro _|refine WA ?_ ?_|refine WF ?_|refine W1 rfl ?_ ?_|refine W2 rfl ?_ ?_|refine W3 rfl ?_ ?_|refine W4 ?_ ?_|refine W5 rfl ?_ ?_|refine W6 ?_ ?_|refine WN ?_|refine X1 (W1 rfl ?_ ?_)|refine X1 (W2 rfl ?_ ?_)|refine X2 (W7 rfl ?_ ?_)|refine X3 (W7 rfl ?_ ?_)|refine X4 (W7 rfl ?_ ?_)|refine X5 (W7 rfl ?_ ?_))
   all_goals (try (conv => whnf))
   all_goals (try first|exact obA|refine Ob.mk ?_)
   all_goals (try simp only [Int.toNat_natCast,hgu1] at *)
   all_goals (try omega)
   all_goals (try (exfalso;have h := of_decide_eq_false ‹decide ((k : Int) < ((qA7 (fin t).L).length : Int)) = false›;omega))
   refine LoopStop.mk (α := Nat) (fun m => [(5,.own 60)]) (fun m => [(60,.own qAI (qA7 ((qEK t k).take m)))]) 100 (fun m => m ≤ (qEK t k).length ∧ ∀ j,m ≤ j → j < (qEK t k).length → qFJ (fin t) u ((qEK t k).getD j 0) = false) (fun m => m) (qEK t k).length ⟨Nat.le_refl _,fun j h1 h2 => by omega⟩ ?_ (fun m hm => ?_)
   ·repeat' ((conv => whnf);first|(with_reducible first|rfl|exact qAH|exact qAG)|exact True.intro|intro _|refine WA ?_ ?_|refine WF ?_|refine W1 rfl ?_ ?_|refine W2 rfl ?_ ?_|refine W3 rfl ?_ ?_|refine W4 ?_ ?_|refine W5 rfl ?_ ?_|refine W6 ?_ ?_|refine WN ?_|refine X1 (W1 rfl ?_ ?_)|refine X1 (W2 rfl ?_ ?_)|refine X2 (W7 rfl ?_ ?_)|refine X3 (W7 rfl ?_ ?_)|refine X4 (W7 rfl ?_ ?_)|refine X5 (W7 rfl ?_ ?_))
    all_goals (try (conv => whnf))
    all_goals (try first|exact obA|refine Ob.mk ?_)
    all_goals (try rfl)
    all_goals (try rw [List.take_length])
    all_goals trace_state
   ·obtain ⟨hm1,hm2⟩ := hm
    have hml : (qA7 ((qEK t k).take m)).length = m := by rw [qEW,List.length_take];omega
    have hlen : ∀ h : Prop,h → h := fun _ h => h
    by_cases hm0 : m = 0
    ·have hp := qW9 hk2 hm1 (by rw [← hu];exact hm2) (.inl hm0)
     have hps := qTB t k
     rw [← hu] at hp hps
     subst hm0
     have hbz : qCY t (u : Int) = 0 := by
      cases h : (qBI qcG (nd t (u : Int)) || qBI qE9 (nd t (u : Int))) with
      | false => exact qZI h
      | true => rw [qTM h, ← hp];rfl
     have E1 : fB t u = true → ([] : List Int) ++ [(u : Int)] = qA7 (qEK t (k + 1)) := fun h => by rw [hps,if_pos h, ← hp];rfl
     have E2 : fB t u = false → ([] : List Int) = qA7 (qEK t (k + 1)) := fun h => by rw [hps,if_neg (by rw [h];decide), ← hp];rfl
     have E4 : qOA t k = qOA t (k + 1) := qUH hk2 (by rw [← hu];exact hbz)
     have hz : decide (((0 : Nat) : Int) > 0) = false := by decide
     have hnil : qA7 [] = [] := rfl
     clear hps hp
     repeat' ((conv => whnf);first|(with_reducible first|rfl|exact qAH|exact qAG)|exact True.intro|intro _|refine WA ?_ ?_|refine WF ?_|refine W1 rfl ?_ ?_|refine W2 rfl ?_ ?_|refine W3 rfl ?_ ?_|refine W4 ?_ ?_|refine W5 rfl ?_ ?_|refine W6 ?_ ?_|refine WN ?_|refine X1 (W1 rfl ?_ ?_)|refine X1 (W2 rfl ?_ ?_)|refine X2 (W7 rfl ?_ ?_)|refine X3 (W7 rfl ?_ ?_)|refine X4 (W7 rfl ?_ ?_)|refine X5 (W7 rfl ?_ ?_))
     all_goals (try (conv => whnf))
     all_goals (try first|exact obA|refine Ob.mk ?_)
     all_goals (try simp only [List.take_zero,hnil,List.length_nil,hz,Bool.false_and,Bool.false_eq_true] at *)
     all_goals (try (first | exact ⟨Nat.le_trans hnu.1 (by decide),by decide⟩ | exact Nat.le_trans hnu.1 (by decide)))
     all_goals (try (simp only [bytes3,List.length_singleton];omega))
     all_goals (try (
      refine Rnd.mk ⟨k + 1,by omega,by omega,?_⟩
      repeat' ((conv => whnf);first|(with_reducible first|rfl|exact qAH|exact qAG)|exact True.intro|intro _|refine WA ?_ ?_|refine WF ?_|refine W1 rfl ?_ ?_|refine W2 rfl ?_ ?_|refine W3 rfl ?_ ?_|refine W4 ?_ ?_|refine W5 rfl ?_ ?_|refine W6 ?_ ?_|refine WN ?_|refine X1 (W1 rfl ?_ ?_)|refine X1 (W2 rfl ?_ ?_)|refine X2 (W7 rfl ?_ ?_)|refine X3 (W7 rfl ?_ ?_)|refine X4 (W7 rfl ?_ ?_)|refine X5 (W7 rfl ?_ ?_))
      all_goals (try (conv => whnf))
      all_goals (try first|exact obA|refine Ob.mk ?_)
      all_goals (try (rw [E1 (by assumption)]))
      all_goals (try (rw [E2 (by assumption)]))
      all_goals (try (rw [E4]))
      done))
     all_goals trace_state
    ·obtain ⟨w,hw⟩ : ∃ w,w = (qEK t k).getD (m - 1) 0 := ⟨_,rfl⟩
     have hwL : w ∈ (fin t).L := by rw [hw];exact qdD (by omega) (by omega)
     have hwn := d.lt w hwL
     have hgw : ∀ dd,(qA7 ((qEK t k).take m)).getD ((m : Int) - 1).toNat dd = (w : Int) := fun dd => by
      rw [show ((m : Int) - 1).toNat = m - 1 by omega,qKH _ _ (by rw [List.length_take];omega),hw]
      congr 1
      simp [List.getD,List.getElem?_take,show m - 1 < m by omega]
     have hfu := flat_get (fin t) u (by rw [d.lI];exact hun) Ty.cpx.dflt
     have hfw := flat_get (fin t) w (by rw [d.lI];exact hwn) Ty.cpx.dflt
     have hgw1 := hgw qAI.dflt
     have hbu := hb u
     have hbw := hb w
     have hpos : decide ((m : Int) > 0) = true := decide_eq_true (by omega)
     have hcnd : (decide (0 ≤ (fin t).I.getD u (-1)) && decide (0 ≤ (fin t).I.getD w (-1)) && (decide ((fin t).I.getD w (-1) < (fin t).I.getD u (-1)) && decide ((fin t).O.getD u (-1) < (fin t).O.getD w (-1)))) = qFJ (fin t) u w := rfl
     by_cases hins : qFJ (fin t) u w = true
     ·have hp := qW9 hk2 hm1 (by rw [← hu];exact hm2) (.inr (by rw [← hu, ← hw];exact hins))
      have hps := qTB t k
      rw [← hu] at hp hps
      have E1 : fB t u = true → qA7 ((qEK t k).take m) ++ [(u : Int)] = qA7 (qEK t (k + 1)) := fun h => by rw [hps,if_pos h, ← hp,qG7]
      have E2 : fB t u = false → qA7 ((qEK t k).take m) = qA7 (qEK t (k + 1)) := fun h => by rw [hps,if_neg (by rw [h];decide), ← hp,List.append_nil]
      have E3 : (qBI qcG (nd t (u : Int)) || qBI qE9 (nd t (u : Int))) = true → (qOA t k).set u (w : Int) = qOA t (k + 1) := fun h => by
       rw [← qXN hk2, ← hu,qTM h, ← hp]
       congr 1
       unfold qVQ
       rw [List.length_take,show min m (qEK t k).length = m by omega,hw]
       congr 1
       simp [List.getD,List.getElem?_take,show m - 1 < m by omega]
      have E5 : (qBI qcG (nd t (u : Int)) || qBI qE9 (nd t (u : Int))) = false → qOA t k = qOA t (k + 1) := fun h => qUH hk2 (by rw [← hu];exact qZI h)
      clear hps hp
      repeat' ((conv => whnf);first|(with_reducible first|rfl|exact qAH|exact qAG)|exact True.intro|intro _|refine WA ?_ ?_|refine WF ?_|refine W1 rfl ?_ ?_|refine W2 rfl ?_ ?_|refine W3 rfl ?_ ?_|refine W4 ?_ ?_|refine W5 rfl ?_ ?_|refine W6 ?_ ?_|refine WN ?_|refine X1 (W1 rfl ?_ ?_)|refine X1 (W2 rfl ?_ ?_)|refine X2 (W7 rfl ?_ ?_)|refine X3 (W7 rfl ?_ ?_)|refine X4 (W7 rfl ?_ ?_)|refine X5 (W7 rfl ?_ ?_))
      all_goals (try (conv => whnf))
      all_goals (try first|exact obA|refine Ob.mk ?_)
      all_goals (try simp only [hml,Int.toNat_natCast,hgw1,hfu,hfw,hcnd,hins,hpos,Bool.not_true,Bool.and_false,Bool.false_eq_true,Bool.true_eq_false] at *)
      all_goals (try omega)
      all_goals (try (first | exact ⟨Nat.le_trans hnu.1 (by decide),by decide⟩ | exact Nat.le_trans hnu.1 (by decide)))
      all_goals (try (simp only [bytes3,List.length_singleton];omega))
      all_goals (try (
       refine Rnd.mk ⟨k + 1,by omega,by omega,?_⟩
       repeat' ((conv => whnf);first|(with_reducible first|rfl|exact qAH|exact qAG)|exact True.intro|intro _|refine WA ?_ ?_|refine WF ?_|refine W1 rfl ?_ ?_|refine W2 rfl ?_ ?_|refine W3 rfl ?_ ?_|refine W4 ?_ ?_|refine W5 rfl ?_ ?_|refine W6 ?_ ?_|refine WN ?_|refine X1 (W1 rfl ?_ ?_)|refine X1 (W2 rfl ?_ ?_)|refine X2 (W7 rfl ?_ ?_)|refine X3 (W7 rfl ?_ ?_)|refine X4 (W7 rfl ?_ ?_)|refine X5 (W7 rfl ?_ ?_))
       all_goals (try (conv => whnf))
       all_goals (try first|exact obA|refine Ob.mk ?_)
       all_goals (try (rw [E1 (by assumption)]))
       all_goals (try (rw [E2 (by assumption)]))
       all_goals (try (rw [E3 (by assumption)]))
       all_goals (try (rw [E5 (by assumption)]))
       done))
      all_goals trace_state
     ·have hinf : qFJ (fin t) u w = false := by rw [Bool.eq_false_iff];exact hins
      have hml1 : List.take ((m : Int) - 1).toNat (qA7 ((qEK t k).take m)) = qA7 ((qEK t k).take (m - 1)) := by
       rw [show ((m : Int) - 1).toNat = m - 1 by omega]
       unfold qA7
       rw [← List.map_take,List.take_take,show min (m - 1) m = m - 1 by omega]
      have hnx : m - 1 ≤ (qEK t k).length ∧ ∀ j,m - 1 ≤ j → j < (qEK t k).length → qFJ (fin t) u ((qEK t k).getD j 0) = false := ⟨by omega,fun j h1 h2 => by
       rcases Nat.eq_or_lt_of_le h1 with h3 | h3
       ·rw [← h3, ← hw];exact hinf
       ·exact hm2 j (by omega) h2⟩
      clear hins
      repeat' ((conv => whnf);first|(with_reducible first|rfl|exact qAH|exact qAG)|exact True.intro|intro _|refine WA ?_ ?_|refine WF ?_|refine W1 rfl ?_ ?_|refine W2 rfl ?_ ?_|refine W3 rfl ?_ ?_|refine W4 ?_ ?_|refine W5 rfl ?_ ?_|refine W6 ?_ ?_|refine WN ?_|refine X1 (W1 rfl ?_ ?_)|refine X1 (W2 rfl ?_ ?_)|refine X2 (W7 rfl ?_ ?_)|refine X3 (W7 rfl ?_ ?_)|refine X4 (W7 rfl ?_ ?_)|refine X5 (W7 rfl ?_ ?_))
      all_goals (try (conv => whnf))
      all_goals (try first|exact obA|refine Ob.mk ?_)
      all_goals (try simp only [hml,Int.toNat_natCast,hgw1,hfu,hfw,hcnd,hinf,hpos,Bool.not_false,Bool.and_true,Bool.true_eq_false] at *)
      all_goals (try omega)
      all_goals (try (
       refine Rnd.mk ⟨m - 1,hnx,by omega,?_⟩
       repeat' ((conv => whnf);first|(with_reducible first|rfl|exact qAH|exact qAG)|exact True.intro|intro _|refine WA ?_ ?_|refine WF ?_|refine W1 rfl ?_ ?_|refine W2 rfl ?_ ?_|refine W3 rfl ?_ ?_|refine W4 ?_ ?_|refine W5 rfl ?_ ?_|refine W6 ?_ ?_|refine WN ?_|refine X1 (W1 rfl ?_ ?_)|refine X1 (W2 rfl ?_ ?_)|refine X2 (W7 rfl ?_ ?_)|refine X3 (W7 rfl ?_ ?_)|refine X4 (W7 rfl ?_ ?_)|refine X5 (W7 rfl ?_ ?_))
       all_goals (try (conv => whnf))
       all_goals (try first|exact obA|refine Ob.mk ?_)
       all_goals (try (rw [hml1]))
       done))
      all_goals trace_state
  ·have : k = (fin t).L.length := by omega
   subst this
   have hE0 := qdO t
   repeat' ((conv => whnf);first|(with_reducible first|rfl|exact qAH|exact qAG)|exact True.intro|intro _|refine WA ?_ ?_|refine WF ?_|refine W1 rfl ?_ ?_|refine W2 rfl ?_ ?_|refine W3 rfl ?_ ?_|refine W4 ?_ ?_|refine W5 rfl ?_ ?_|refine W6 ?_ ?_|refine WN ?_|refine X1 (W1 rfl ?_ ?_)|refine X1 (W2 rfl ?_ ?_)|refine X2 (W7 rfl ?_ ?_)|refine X3 (W7 rfl ?_ ?_)|refine X4 (W7 rfl ?_ ?_)|refine X5 (W7 rfl ?_ ?_))
   all_goals (try (conv => whnf))
   all_goals (try first|exact obA|refine Ob.mk ?_)
   all_goals (try (exfalso;have h := of_decide_eq_true ‹decide (((fin t).L.length : Int) < ((qA7 (fin t).L).length : Int)) = true›;omega))
   refine LoopStop.mk (α := Nat) (fun i => [(85,.int .i64 i)]) (fun i => [(1,.own qAI (qNN t i))]) 140 (fun i => i ≤ t.length) (fun i => t.length - i) 0 (Nat.zero_le _) ?_ (fun i hi => ?_)
   ·repeat' ((conv => whnf);first|(with_reducible first|rfl|exact qAH|exact qAG)|exact True.intro|intro _|refine WA ?_ ?_|refine WF ?_|refine W1 rfl ?_ ?_|refine W2 rfl ?_ ?_|refine W3 rfl ?_ ?_|refine W4 ?_ ?_|refine W5 rfl ?_ ?_|refine W6 ?_ ?_|refine WN ?_|refine X1 (W1 rfl ?_ ?_)|refine X1 (W2 rfl ?_ ?_)|refine X2 (W7 rfl ?_ ?_)|refine X3 (W7 rfl ?_ ?_)|refine X4 (W7 rfl ?_ ?_)|refine X5 (W7 rfl ?_ ?_))
    all_goals (try (conv => whnf))
    all_goals (try first|exact obA|refine Ob.mk ?_)
    all_goals (try rfl)
    all_goals (try (rw [hE0]))
    all_goals trace_state
   ·clear hE0
    have ho2 := qE1 t i
    by_cases hi2 : i < t.length
    ·have hn := qDH (qKU ht (i : Int) ⟨by omega,by omega⟩)
     have hf := qL2 (t := t) (by omega) (qJ8 (nd t i).2.2.2.1 qBA)
     have hnf := qDH (qKU ht _ hf)
     have hsg : ∀ dd,((qNN t i).set i (firstT t (qJ8 (t.getD i qAC.dflt).2.2.2.1 [102,111,114,109]))).getD i dd = firstT t (qJ8 (t.getD i qAC.dflt).2.2.2.1 [102,111,114,109]) := fun dd => by
      rw [qF4 (by rw [List.length_set,ho2];exact hi2) dd 0,qFP _ _ _ _ (by rw [ho2];exact hi2),if_pos rfl]
     have E1 : ((nd t (i : Int)).2.2.2.1.any (qE8 qBA) && qBI qE9 (nd t (i : Int))) = true → (!qBI qBA (nd t (firstT t (qJ8 (nd t i).2.2.2.1 qBA)))) = true → ((qNN t i).set i (firstT t (qJ8 (t.getD i qAC.dflt).2.2.2.1 [102,111,114,109]))).set i 0 = qNN t (i + 1) := fun h1 h2 => by
      rw [List.set_set]
      exact qNX hi2 (qk0 (by rw [Bool.and_comm];exact h1) (by simpa using h2)).symm
     have E2 : ((nd t (i : Int)).2.2.2.1.any (qE8 qBA) && qBI qE9 (nd t (i : Int))) = true → (!qBI qBA (nd t (firstT t (qJ8 (nd t i).2.2.2.1 qBA)))) = false → (qNN t i).set i (firstT t (qJ8 (t.getD i qAC.dflt).2.2.2.1 [102,111,114,109])) = qNN t (i + 1) := fun h1 h2 => by
      exact qNX hi2 (qiS (by rw [Bool.and_comm];exact h1) (by simpa using h2)).symm
     have E3 : ((nd t (i : Int)).2.2.2.1.any (qE8 qBA) && qBI qE9 (nd t (i : Int))) = false → qNN t i = qNN t (i + 1) := fun h1 => by
      exact qYV hi2 (qlI (by rw [Bool.and_comm];exact h1))
     have hsg1 := hsg qAI.dflt
     repeat' ((conv => whnf);first|(with_reducible first|rfl|exact qAH|exact qAG)|exact True.intro|intro _|refine WA ?_ ?_|refine WF ?_|refine W1 rfl ?_ ?_|refine W2 rfl ?_ ?_|refine W3 rfl ?_ ?_|refine W4 ?_ ?_|refine W5 rfl ?_ ?_|refine W6 ?_ ?_|refine WN ?_|refine X1 (W1 rfl ?_ ?_)|refine X1 (W2 rfl ?_ ?_)|refine X2 (W7 rfl ?_ ?_)|refine X3 (W7 rfl ?_ ?_)|refine X4 (W7 rfl ?_ ?_)|refine X5 (W7 rfl ?_ ?_))
     all_goals (try (conv => whnf))
     all_goals (try first|exact obA|refine Ob.mk ?_)
     all_goals (try simp only [Int.toNat_natCast,hsg1,List.length_set,ho2] at *)
     all_goals (try omega)
     all_goals (try (exfalso;have h := of_decide_eq_false ‹decide ((i : Int) < (t.length : Int)) = false›;omega))
     all_goals (try (first | exact ⟨Nat.le_trans hnf.1 (by decide),by decide⟩ | exact ⟨Nat.le_trans hn.1 (by decide),by decide⟩ | exact Nat.le_trans hn.1 (by decide) | exact Nat.le_trans hn.2.1 (by decide) | exact hf))
     all_goals (try (
      refine Rnd.mk ⟨i + 1,by omega,by omega,?_⟩
      repeat' ((conv => whnf);first|(with_reducible first|rfl|exact qAH|exact qAG)|exact True.intro|intro _|refine WA ?_ ?_|refine WF ?_|refine W1 rfl ?_ ?_|refine W2 rfl ?_ ?_|refine W3 rfl ?_ ?_|refine W4 ?_ ?_|refine W5 rfl ?_ ?_|refine W6 ?_ ?_|refine WN ?_|refine X1 (W1 rfl ?_ ?_)|refine X1 (W2 rfl ?_ ?_)|refine X2 (W7 rfl ?_ ?_)|refine X3 (W7 rfl ?_ ?_)|refine X4 (W7 rfl ?_ ?_)|refine X5 (W7 rfl ?_ ?_))
      all_goals (try (conv => whnf))
      all_goals (try first|exact obA|refine Ob.mk ?_)
      all_goals (try (rw [E1 (by assumption) (by assumption)]))
      all_goals (try (rw [E2 (by assumption) (by assumption)]))
      all_goals (try (rw [E3 (by assumption)]))
      done))
     all_goals trace_state
    ·have : i = t.length := by omega
     subst this
     have hE := qZ1 t
     repeat' ((conv => whnf);first|(with_reducible first|rfl|exact qAH|exact qAG)|exact True.intro|intro _|refine WA ?_ ?_|refine WF ?_|refine W1 rfl ?_ ?_|refine W2 rfl ?_ ?_|refine W3 rfl ?_ ?_|refine W4 ?_ ?_|refine W5 rfl ?_ ?_|refine W6 ?_ ?_|refine WN ?_|refine X1 (W1 rfl ?_ ?_)|refine X1 (W2 rfl ?_ ?_)|refine X2 (W7 rfl ?_ ?_)|refine X3 (W7 rfl ?_ ?_)|refine X4 (W7 rfl ?_ ?_)|refine X5 (W7 rfl ?_ ?_))
     all_goals (try (conv => whnf))
     all_goals (try first|exact obA|refine Ob.mk ?_)
     all_goals (try (exfalso;have h := of_decide_eq_true ‹decide ((t.length : Int) < (t.length : Int)) = true›;omega))
     all_goals (try (rw [hE]))
     all_goals trace_state
end Go.Vc

namespace Go.Vc
open Go.Proofs
open Go.Vc.W
set_option maxRecDepth 10000
set_option maxHeartbeats 4000000
theorem qWX {t : List qAE} {m n : Int} (h : qBW t m = true) (hm : m ≤ n) : qBW t n = true := by
 unfold qBW at *
 rw [Bool.and_eq_true,decide_eq_true_eq] at *
 exact ⟨by omega,h.2⟩
theorem qdI (l : List Int) (w : Int) : decide (qMD l w ≥ 0) = l.contains w := by
 unfold qMD
 cases l.contains w with
 | true => exact decide_eq_true (by simp)
 | false => rfl
end Go.Vc

namespace Go.Vc
open Go.Proofs
open Go.Vc.W
set_option maxRecDepth 10000
set_option maxHeartbeats 4000000
def qYU (y : St) (t : List qAE) (v : List UInt8) : Int := if v = [] then 0 else ((qA7 y.L).find? fun i => qTW [] idT v (nd t i)).getD 0
def qgE (y : St) (t : List qAE) (i : Nat) : Int := if (qBI qE9 (nd t (i : Int)) || qBI qcG (nd t (i : Int))) = true then qVQ ((y.L.filter (qSY y i)).filter (fB t)) else 0
def qlW (y : St) (t : List qAE) (i : Nat) : Int := if qBI qBA (nd t (qYU y t (qJ8 (nd t (i : Int)).2.2.2.1 qBA))) = true then qYU y t (qJ8 (nd t (i : Int)).2.2.2.1 qBA) else 0
def qvB (y : St) (t : List qAE) (i : Nat) : Int := if (qBI qE9 (nd t (i : Int)) && (nd t (i : Int)).2.2.2.1.any (qE8 qBA)) = true then qlW y t i else qgE y t i
theorem qkB {t : List qAE} {f : Nat} {l : List Int} (h : (qkT t f).map (fun y => (List.range t.length).map (qvB y t)) = some l) : qSW t = l := by
 cases e : qkT t f with
 | none => rw [e] at h;cases h
 | some y =>
  rw [e] at h
  have ey := qWL e
  have h2 : (List.range t.length).map (qvB y t) = l := Option.some.inj h
  rw [← h2]
  unfold qSW
  refine List.map_congr_left fun u _ => ?_
  rw [← ey]
  unfold qEU qvB qPP qlW qCY qgE firstT qaP qES qYU
  rw [qJX]
theorem qf5 : qSW qfI = [0,0,1,0,1,0,0] := qkB (f := 60) (by decide +kernel)
theorem qwI : qBW qfI 45 = true := by decide +kernel
instance ZO_fragX : Fn BB 59 [.str ([60,102,111,114,109,32,105,100,61,102,62,60,105,110,112,117,116,62,60,112,62,60,47,112,62,60,47,102,111,114,109,62,60].append [105,110,112,117,116,32,102,111,114,109,61,102,62,60,105,110,112,117,116,32,102,111,114,109,61,103,62,60,105,110,112,117,116,62]),.str [100,105,118]] True (.agg [.rd qAC qfI]) := ⟨ZO_frag.call,ZO_frag.ok⟩
instance w40Awake : Fn BB 31 [] True (.bool true) := by
 refine Fn.intro (N := 22) [0,1] [] Tryz.call31 Tryz.func31 rfl rfl (by kernel_rfl) (fun hpre => ?_)
 repeat' ((conv => whnf);first|(with_reducible first|rfl|exact qAH|exact qAG)|exact True.intro|intro _|refine WA ?_ ?_|refine WF ?_|refine W1 rfl ?_ ?_|refine W2 rfl ?_ ?_|refine W3 rfl ?_ ?_|refine W4 ?_ ?_|refine W5 rfl ?_ ?_|refine W6 ?_ ?_|refine WN ?_|refine X1 (W1 rfl ?_ ?_)|refine X1 (W2 rfl ?_ ?_)|refine X2 (W7 rfl ?_ ?_)|refine X3 (W7 rfl ?_ ?_)|refine X4 (W7 rfl ?_ ?_)|refine X5 (W7 rfl ?_ ?_))
 all_goals (try (conv => whnf))
 all_goals (try first|exact obA|refine Ob.mk ?_)
 all_goals (first | exact qwI | (rw [qf5];decide) | exact ⟨by decide,by decide⟩ | decide | trace_state)
end Go.Vc

namespace Go.Vc
open Go.Proofs
open Go.Vc.W
set_option maxRecDepth 10000
set_option maxHeartbeats 4000000
theorem qWO {n : qAE} (h : qBI qBA n = true) : n.1 = 1 ∧ n.2.1 = 0 ∧ n.2.2.1 = qBA := by
 have hs : spl qBA = [qBA] := by decide +kernel
 unfold qBI qZV at h
 rw [hs] at h
 simp only [Bool.and_eq_true,beq_iff_eq,List.contains_iff_mem,List.mem_singleton] at h
 exact ⟨h.1.1,h.1.2,h.2⟩
theorem qd6 (t : List qAE) : (qSW t).length = t.length := by unfold qSW;simp
theorem qY8 (t : List qAE) (k : Nat) (h : k < t.length) (d : Int) : (qSW t).getD k d = qEU t (k : Int) := by unfold qSW;simp [List.getD,h]
theorem qY5 {t : List qAE} {k : Int} (h : ¬ qCY t k = 0) : (0 ≤ qCY t k ∧ qCY t k < t.length) ∧ qBI qBA (nd t (qCY t k)) = true ∧ (qA7 (qCJ t k)).contains (qCY t k) = true := by
 have e : qCY t k = qVQ ((qCJ t k).filter (fB t)) := by
  by_cases q : (qBI qE9 (nd t k) || qBI qcG (nd t k)) = true
  ·unfold qCY;rw [if_pos q]
  ·exact absurd (by unfold qCY;rw [if_neg q]) h
 rw [e] at h ⊢
 by_cases hl : (qCJ t k).filter (fB t) = []
 ·rw [hl] at h;exact absurd rfl h
 have hp := List.length_pos_iff.mpr hl
 have hm : ((qCJ t k).filter (fB t)).getD (((qCJ t k).filter (fB t)).length - 1) 0 ∈ (qCJ t k).filter (fB t) := by
  rw [List.getD_eq_getElem?_getD,List.getElem?_eq_getElem (by omega)];exact List.getElem_mem _
 have hx : qVQ ((qCJ t k).filter (fB t)) = ((((qCJ t k).filter (fB t)).getD (((qCJ t k).filter (fB t)).length - 1) 0 : Nat) : Int) := rfl
 rw [hx]
 generalize ((qCJ t k).filter (fB t)).getD (((qCJ t k).filter (fB t)).length - 1) 0 = x at hm
 have hm2 := List.mem_filter.1 hm
 have hlt : x < t.length := by
  obtain ⟨j,hj,ej⟩ := List.mem_iff_getElem.1 hm2.1
  have := qc0 (t := t) (i := k) hj
  rw [List.getD_eq_getElem?_getD,List.getElem?_eq_getElem hj] at this
  simp only [Option.getD_some,ej] at this
  exact this
 refine ⟨by omega,hm2.2,?_⟩
 rw [List.contains_iff_mem]
 unfold qA7
 exact List.mem_map_of_mem hm2.1
theorem qbG {t : List qAE} {k : Int} (h0 : 0 < t.length) (h : ¬ qEU t k = 0) : (0 ≤ qEU t k ∧ qEU t k < t.length) ∧ qBI qBA (nd t (qEU t k)) = true ∧ ((nd t k).2.2.2.1.any (qE8 qBA) = true ∨ (qA7 (qCJ t k)).contains (qEU t k) = true) := by
 by_cases q : (qBI qE9 (nd t k) && (nd t k).2.2.2.1.any (qE8 qBA)) = true
 ·have e : qEU t k = qPP t k := by unfold qEU;rw [if_pos q]
  rw [e] at h ⊢
  by_cases r : qBI qBA (nd t (firstT t (qJ8 (nd t k).2.2.2.1 qBA))) = true
  ·have e2 : qPP t k = firstT t (qJ8 (nd t k).2.2.2.1 qBA) := by unfold qPP;rw [if_pos r]
   rw [e2]
   rw [Bool.and_eq_true] at q
   exact ⟨qL2 h0 _,r,.inl q.2⟩
  ·exact absurd (by unfold qPP;rw [if_neg r]) h
 ·have e : qEU t k = qCY t k := by unfold qEU;rw [if_neg q]
  rw [e] at h ⊢
  have := qY5 h
  exact ⟨this.1,this.2.1,.inr this.2.2⟩
instance w40Forms (t : List qAE) : Fn BB 7 [.agg [.rd qAC t]] True (.bool true) := by
  refine Fn.intro (N := 96) [0,1,2,3,4,5,6,8,11,20,21,22,23,24,29,65,71,72,73,74,93] [] Tryz.call7 Tryz.func7 rfl rfl (by kernel_rfl) (fun hpre => ?_)
  have hp : (!(qBW t 30 && qIX t)) = false → qBW t 45 = true ∧ qIX t = true := fun h => by
    simp only [Bool.not_eq_false',Bool.and_eq_true] at h
    exact ⟨qWX h.1 (by decide),h.2⟩
  have hol := qd6 t
  repeat' ((conv => whnf);first|(with_reducible first|rfl|exact qAH|exact qAG)|exact True.intro|intro _|refine WA ?_ ?_|refine WF ?_|refine W1 rfl ?_ ?_|refine W2 rfl ?_ ?_|refine W3 rfl ?_ ?_|refine W4 ?_ ?_|refine W5 rfl ?_ ?_|refine W6 ?_ ?_|refine WN ?_|refine X1 (W1 rfl ?_ ?_)|refine X1 (W2 rfl ?_ ?_)|refine X2 (W7 rfl ?_ ?_)|refine X3 (W7 rfl ?_ ?_)|refine X4 (W7 rfl ?_ ?_)|refine X5 (W7 rfl ?_ ?_))
  all_goals (try (conv => whnf))
  all_goals (try first|exact obA|refine Ob.mk ?_)
  all_goals (try (exact (hp ‹_›).1))
  all_goals (try (exfalso;have h := ‹(((qSW t).length : Int) != (t.length : Int)) = true›;rw [hol] at h;simp at h;done))
  have hq := (hp ‹_›).1
  have hl := qXW hq
  refine LoopStop.mk (α := Nat) (fun k => [(23,.int .i64 k)]) (fun _ => []) 30 (fun k => k ≤ (qSW t).length) (fun k => (qSW t).length - k) 0 (Nat.zero_le _) ?_ (fun k hk => ?_)
  · all_goals exact vcA
  · by_cases hkl : k < (qSW t).length
    · have hkt : k < t.length := by omega
      have hg := qY8 t k hkt qAI.dflt
      have hof := qbG (t := t) (k := (k : Int)) (by omega)
      have hnk := qDH (qKU hq (k : Int) ⟨by omega,by omega⟩)
      by_cases hz : qEU t (k : Int) = 0
      · have hx0 : ∀ {p : Prop},(qEU t (k : Int) == 0) = false → p := fun h => by rw [hz] at h;cases h
        repeat' ((conv => whnf);first|(with_reducible first|rfl|exact qAH|exact qAG)|exact True.intro|intro _|refine WA ?_ ?_|refine WF ?_|refine W1 rfl ?_ ?_|refine W2 rfl ?_ ?_|refine W3 rfl ?_ ?_|refine W4 ?_ ?_|refine W5 rfl ?_ ?_|refine W6 ?_ ?_|refine WN ?_|refine X1 (W1 rfl ?_ ?_)|refine X1 (W2 rfl ?_ ?_)|refine X2 (W7 rfl ?_ ?_)|refine X3 (W7 rfl ?_ ?_)|refine X4 (W7 rfl ?_ ?_)|refine X5 (W7 rfl ?_ ?_))
        all_goals (try (conv => whnf))
        all_goals (try first|exact obA|refine Ob.mk ?_)
        all_goals (try simp only [Int.toNat_natCast,hg] at *)
        all_goals (try exact hx0 (by assumption))
        refine Rnd.mk ⟨k + 1,by omega,by omega,?_⟩
        repeat' ((conv => whnf);first|(with_reducible first|rfl|exact qAH|exact qAG)|exact True.intro|intro _|refine WA ?_ ?_|refine WF ?_|refine W1 rfl ?_ ?_|refine W2 rfl ?_ ?_|refine W3 rfl ?_ ?_|refine W4 ?_ ?_|refine W5 rfl ?_ ?_|refine W6 ?_ ?_|refine WN ?_|refine X1 (W1 rfl ?_ ?_)|refine X1 (W2 rfl ?_ ?_)|refine X2 (W7 rfl ?_ ?_)|refine X3 (W7 rfl ?_ ?_)|refine X4 (W7 rfl ?_ ?_)|refine X5 (W7 rfl ?_ ?_))
        all_goals (try (conv => whnf))
        all_goals (try first|exact obA|refine Ob.mk ?_)
        all_goals trace_state
      · have hf := hof hz
        have hfm := qWO hf.2.1
        have hx1 : ∀ {p : Prop},(qEU t (k : Int) == 0) = true → p := fun h => absurd (beq_iff_eq.1 h) hz
        have hbc : (decide (qEU t (k : Int) < 0) || decide (qEU t (k : Int) ≥ (t.length : Int)) || (t.getD (qEU t (k : Int)).toNat qAC.dflt).1 != 1 || (t.getD (qEU t (k : Int)).toNat qAC.dflt).2.1 != 0 || !((t.getD (qEU t (k : Int)).toNat qAC.dflt).2.2.1 == [102,111,114,109])) = false := by
          rw [decide_eq_false (by omega),decide_eq_false (by omega),show (t.getD (qEU t (k : Int)).toNat qAC.dflt).1 = 1 from hfm.1,show (t.getD (qEU t (k : Int)).toNat qAC.dflt).2.1 = 0 from hfm.2.1,show (t.getD (qEU t (k : Int)).toNat qAC.dflt).2.2.1 = [102,111,114,109] from hfm.2.2]
          rfl
        have hx2 : ∀ {p : Prop},(decide (qEU t (k : Int) < 0) || decide (qEU t (k : Int) ≥ (t.length : Int)) || (t.getD (qEU t (k : Int)).toNat qAC.dflt).1 != 1 || (t.getD (qEU t (k : Int)).toNat qAC.dflt).2.1 != 0 || !((t.getD (qEU t (k : Int)).toNat qAC.dflt).2.2.1 == [102,111,114,109])) = true → p := fun h => Bool.noConfusion (hbc.symm.trans h)
        repeat' ((conv => whnf);first|(with_reducible first|rfl|exact qAH|exact qAG)|exact True.intro|intro _|refine WA ?_ ?_|refine WF ?_|refine W1 rfl ?_ ?_|refine W2 rfl ?_ ?_|refine W3 rfl ?_ ?_|refine W4 ?_ ?_|refine W5 rfl ?_ ?_|refine W6 ?_ ?_|refine WN ?_|refine X1 (W1 rfl ?_ ?_)|refine X1 (W2 rfl ?_ ?_)|refine X2 (W7 rfl ?_ ?_)|refine X3 (W7 rfl ?_ ?_)|refine X4 (W7 rfl ?_ ?_)|refine X5 (W7 rfl ?_ ?_))
        all_goals (try (conv => whnf))
        all_goals (try first|exact obA|refine Ob.mk ?_)
        all_goals (try simp only [Int.toNat_natCast,hg] at *)
        all_goals (try exact hx1 (by assumption))
        all_goals (try exact hx2 (by assumption))
        all_goals (try omega)
        have hg := qY8 t k hkt qAI.dflt
        clear hx1 hx2 hbc hof
        refine LoopStop.mk (α := Nat) (fun j => [(6,.bool (((nd t (k : Int)).2.2.2.1.take j).any (qE8 qBA))),(73,.int .i64 j)]) (fun _ => []) 60 (fun j => j ≤ (nd t (k : Int)).2.2.2.1.length) (fun j => (nd t (k : Int)).2.2.2.1.length - j) 0 (Nat.zero_le _) ?_ (fun j hj => ?_)
        · all_goals exact vcA
        · by_cases hj2 : j < (nd t (k : Int)).2.2.2.1.length
          · have hts : ((nd t (k : Int)).2.2.2.1.take (j + 1)).any (qE8 qBA) = (((nd t (k : Int)).2.2.2.1.take j).any (qE8 qBA) || (((nd t (k : Int)).2.2.2.1.getD j qAX.dflt).1 == qBA)) := by
              rw [take_snoc _ j qAX.dflt hj2,List.any_append]
              simp [qE8]
            repeat' ((conv => whnf);first|(with_reducible first|rfl|exact qAH|exact qAG)|exact True.intro|intro _|refine WA ?_ ?_|refine WF ?_|refine W1 rfl ?_ ?_|refine W2 rfl ?_ ?_|refine W3 rfl ?_ ?_|refine W4 ?_ ?_|refine W5 rfl ?_ ?_|refine W6 ?_ ?_|refine WN ?_|refine X1 (W1 rfl ?_ ?_)|refine X1 (W2 rfl ?_ ?_)|refine X2 (W7 rfl ?_ ?_)|refine X3 (W7 rfl ?_ ?_)|refine X4 (W7 rfl ?_ ?_)|refine X5 (W7 rfl ?_ ?_))
            all_goals (try (conv => whnf))
            all_goals (try first|exact obA|refine Ob.mk ?_)
            all_goals (try (exfalso;have h := of_decide_eq_false ‹decide ((j : Int) < ((t.getD k qAC.dflt).2.2.2.1.length : Int)) = false›;exact h (by (have h2 : (j : Int) < ((nd t (k : Int)).2.2.2.1.length : Int) := by omega);exact h2)))
            refine Rnd.mk ⟨j + 1,by omega,by omega,?_⟩
            repeat' ((conv => whnf);first|(with_reducible first|rfl|exact qAH|exact qAG)|exact True.intro|intro _|refine WA ?_ ?_|refine WF ?_|refine W1 rfl ?_ ?_|refine W2 rfl ?_ ?_|refine W3 rfl ?_ ?_|refine W4 ?_ ?_|refine W5 rfl ?_ ?_|refine W6 ?_ ?_|refine WN ?_|refine X1 (W1 rfl ?_ ?_)|refine X1 (W2 rfl ?_ ?_)|refine X2 (W7 rfl ?_ ?_)|refine X3 (W7 rfl ?_ ?_)|refine X4 (W7 rfl ?_ ?_)|refine X5 (W7 rfl ?_ ?_))
            all_goals (try (conv => whnf))
            all_goals (try first|exact obA|refine Ob.mk ?_)
            all_goals (try (rw [hts];rfl))
            all_goals trace_state
          · have hj3 : j = (nd t (k : Int)).2.2.2.1.length := by omega
            subst hj3
            have hfi := hf.2.2
            have hy1 : ∀ {p : Prop},decide (((nd t (k : Int)).2.2.2.1.length : Int) < ((t.getD k qAC.dflt).2.2.2.1.length : Int)) = true → p := fun h => absurd (of_decide_eq_true h) (Int.lt_irrefl _)
            have hy2 : ∀ {p : Prop},(!((nd t (k : Int)).2.2.2.1.take (nd t (k : Int)).2.2.2.1.length).any (qE8 qBA) && !decide (qMD (qA7 (qCJ t (k : Int))) (qEU t (k : Int)) ≥ 0)) = true → p := fun h => by
              rw [List.take_length,qdI] at h
              rcases hfi with q | q
              · rw [q] at h;cases h
              · rw [q,Bool.not_true,Bool.and_false] at h;cases h
            repeat' ((conv => whnf);first|(with_reducible first|rfl|exact qAH|exact qAG)|exact True.intro|intro _|refine WA ?_ ?_|refine WF ?_|refine W1 rfl ?_ ?_|refine W2 rfl ?_ ?_|refine W3 rfl ?_ ?_|refine W4 ?_ ?_|refine W5 rfl ?_ ?_|refine W6 ?_ ?_|refine WN ?_|refine X1 (W1 rfl ?_ ?_)|refine X1 (W2 rfl ?_ ?_)|refine X2 (W7 rfl ?_ ?_)|refine X3 (W7 rfl ?_ ?_)|refine X4 (W7 rfl ?_ ?_)|refine X5 (W7 rfl ?_ ?_))
            all_goals (try (conv => whnf))
            all_goals (try first|exact obA|refine Ob.mk ?_)
            all_goals (try exact hy1 (by assumption))
            all_goals (try (refine Rnd.mk ?_;exact hy1 (by assumption)))
            all_goals (try exact hy2 (by assumption))
            all_goals (try (exact Nat.le_trans (by omega) (by decide)))
            refine Rnd.mk ⟨k + 1,by omega,by omega,?_⟩
            repeat' ((conv => whnf);first|(with_reducible first|rfl|exact qAH|exact qAG)|exact True.intro|intro _|refine WA ?_ ?_|refine WF ?_|refine W1 rfl ?_ ?_|refine W2 rfl ?_ ?_|refine W3 rfl ?_ ?_|refine W4 ?_ ?_|refine W5 rfl ?_ ?_|refine W6 ?_ ?_|refine WN ?_|refine X1 (W1 rfl ?_ ?_)|refine X1 (W2 rfl ?_ ?_)|refine X2 (W7 rfl ?_ ?_)|refine X3 (W7 rfl ?_ ?_)|refine X4 (W7 rfl ?_ ?_)|refine X5 (W7 rfl ?_ ?_))
            all_goals (try (conv => whnf))
            all_goals (try first|exact obA|refine Ob.mk ?_)
            all_goals trace_state
    · have hx : ∀ {p : Prop},decide ((k : Int) < ((qSW t).length : Int)) = true → p := fun h => by have h := of_decide_eq_true h;omega
      repeat' ((conv => whnf);first|(with_reducible first|rfl|exact qAH|exact qAG)|exact True.intro|intro _|refine WA ?_ ?_|refine WF ?_|refine W1 rfl ?_ ?_|refine W2 rfl ?_ ?_|refine W3 rfl ?_ ?_|refine W4 ?_ ?_|refine W5 rfl ?_ ?_|refine W6 ?_ ?_|refine WN ?_|refine X1 (W1 rfl ?_ ?_)|refine X1 (W2 rfl ?_ ?_)|refine X2 (W7 rfl ?_ ?_)|refine X3 (W7 rfl ?_ ?_)|refine X4 (W7 rfl ?_ ?_)|refine X5 (W7 rfl ?_ ?_))
      all_goals (try (conv => whnf))
      all_goals (try first|exact obA|refine Ob.mk ?_)
      all_goals (try exact hx (by assumption))
      all_goals (try (refine Rnd.mk ?_;exact hx (by assumption)))
      all_goals trace_state
end Go.Vc

namespace Go.Vc
open Go.Proofs
set_option maxRecDepth 100000
theorem qeW (W : World) (hsh : W.ShapedOpen Tryz.prog) : BB.G fun b => W.heap[b]? := by
 obtain ⟨m,hm⟩ := Go.Proofs.cell_of_shapedOpen_int (g := 0) (zero := #[.int .i64 0]) (t := 3) hsh (of_decide_eq_true (by kernel_rfl)) (by kernel_rfl) rfl (by kernel_rfl) (by kernel_rfl) Tryz.underlying3
 have hm' : W.cell? ⟨0,0,none⟩ = some (.int .i64 m) := hm
 unfold World.cell? at hm'
 show ∃ c T fr m,W.heap[0]? = some (.cells c T fr) ∧ c[0]? = some (.int .i64 m)
 cases h : W.heap[0]? with
 | none => simp [h] at hm'
 | some o =>
  cases o with
  | cells c T fr => exact ⟨c,T,fr,m,rfl,by simpa [h] using hm'⟩
  | _ => simp [h] at hm'
end Go.Vc
