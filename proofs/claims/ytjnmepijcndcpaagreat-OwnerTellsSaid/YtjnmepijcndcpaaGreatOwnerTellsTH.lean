/- A part of the proof: lemmas and walks that the last text of the claim joins; no condition. -/
import Derived.Test.YtjnmepijcndcpaaGreatOwnerTellsTG
import Derived.Test.YtjnmepijcndcpaaGreatOwnerTellsTF
import Derived.Shelf.Vars
import Derived.Test.YtjnmepijcndcpaaGreatRows
set_option linter.unusedVariables false
set_option linter.unusedSimpArgs false
set_option maxHeartbeats 8000000
namespace Go.Vc
open Go.Proofs
set_option maxRecDepth 10000
set_option maxHeartbeats 4000000
theorem qDM (l : List Nat) : (natI l).length = l.length := by unfold natI; simp
def insB (y : St) (i u : Nat) : Bool := decide (0 ≤ y.I.getD i (-1)) && decide (0 ≤ y.I.getD u (-1)) && (decide (y.I.getD u (-1) < y.I.getD i (-1)) && decide (y.O.getD i (-1) < y.O.getD u (-1)))
theorem qI6 (l : List qAF) (i : Nat) : qCR l i = (fin l).L.filter (insB (fin l) i) := by
 have d := qDE l
 rw [qYI]
 split
 ·rename_i h
  unfold qQC insB
  refine List.filter_congr fun u hu => ?_
  rw [decide_eq_true (d.rI i h).1, decide_eq_true (d.rI u hu).1]; rfl
 ·rename_i h
  symm
  rw [List.filter_eq_nil_iff]
  intro u _
  unfold insB
  rw [(d.out i h).1]; simp
theorem qHC (L : List Nat) (j : Nat) (h : j < L.length) (d : Int) : (natI L).getD j d = ((L.getD j 0 : Nat) : Int) := by
 unfold natI; simp [List.getD, h]
theorem qI3 {p : Nat → Bool} (L : List Nat) (j : Nat) (h : j < L.length) : (L.take (j + 1)).filter p = (L.take j).filter p ++ (if p (L.getD j 0) = true then [L.getD j 0] else []) := by
 rw [take_snoc L j 0 h, List.filter_append, List.filter_cons]
 split <;> simp
theorem getD_mem (L : List Nat) (j : Nat) (h : j < L.length) : L.getD j 0 ∈ L := by
 have : L.getD j 0 = L[j] := by simp [List.getD, List.getElem?_eq_getElem h]
 rw [this]; exact List.getElem_mem h
theorem qRZ (l : List qAF) (v : Int) : qCR l v = if 0 ≤ v then (fin l).L.filter (insB (fin l) v.toNat) else [] := by
 split
 ·rename_i h
  rw [← qI6 l v.toNat, Int.toNat_of_nonneg h]
 ·rename_i h
  unfold qCR
  rw [qUA (fun e _ _ => by omega)]; rfl
theorem qVO {l : List qAF} {i : Nat} (h : (fin l).I.getD i (-1) < 0) : (fin l).L.filter (insB (fin l) i) = [] := by
 rw [List.filter_eq_nil_iff]
 intro u _
 unfold insB
 rw [decide_eq_false (by omega)]; simp
theorem qFL {l : List Int} {i : Nat} (h : i < l.length) (d d' : Int) : l.getD i d = l.getD i d' := by simp [List.getD, h]
instance hPath (l : List qAF) (v : Int) : Fn BB 36 [.agg [.rd qAC l], .int .i64 v] (l.length ≤ 45) (.rd qAI (natI (qCR l v))) := by
 refine Fn.intro (N := 73) [0, 1, 2, 4, 5, 6, 7, 8, 9, 36, 64] [(6, [0, 0, 0, 1, 1, 1, 1, 0, 0, 1, 1, 1, 1, 1, 1, 1, 1, 1, 1, 1, 1, 1, 1, 1, 3, 3])] Tryz.call36 Tryz.func36 rfl rfl (by kernel_rfl) (fun hpre => ?_)
 have hl := hpre
 have d := qDE l
 have hb := d.bnd hl
 have hn := qEO d.nod d.lt
 repeat' ((conv => whnf);first|(with_reducible first|rfl|exact qAH|exact qAG)|exact True.intro|intro _|refine WA ?_ ?_|refine WF ?_|refine W1 rfl ?_ ?_|refine W2 rfl ?_ ?_|refine W3 rfl ?_ ?_|refine W4 ?_ ?_|refine W5 rfl ?_ ?_|refine W6 ?_ ?_|refine WN ?_|refine X1 (W1 rfl ?_ ?_)|refine X1 (W2 rfl ?_ ?_)|refine X2 (W7 rfl ?_ ?_)|refine X3 (W7 rfl ?_ ?_)|refine X4 (W7 rfl ?_ ?_)|refine X5 (W7 rfl ?_ ?_))
 all_goals (try (conv => whnf))
 all_goals (try first|exact obA|refine Ob.mk ?_)
 all_goals (try (exact hl))
 refine LoopStop.mk (α := Nat) (fun k => [(8, .own 60), (9, .int .i64 k)]) (fun k => [(60, .own qAI (natI (((fin l).L.take k).filter (insB (fin l) v.toNat))))]) 80 (fun k => k ≤ (fin l).L.length ∧ (¬ (0 ≤ v ∧ v < l.length ∧ 0 ≤ (fin l).I.getD v.toNat (-1)) → k = 0)) (fun k => (fin l).L.length - k) 0 ⟨Nat.zero_le _, fun _ => rfl⟩ ?_ (fun k hk => ?_)
 ·all_goals exact vcA
 ·obtain ⟨hk, hk0⟩ := hk
  have hpa := qRZ l v
  by_cases hok : 0 ≤ v ∧ v < l.length ∧ 0 ≤ (fin l).I.getD v.toNat (-1)
  ·rw [if_pos hok.1] at hpa
   by_cases hj2 : k < (fin l).L.length
   ·obtain ⟨u, hu⟩ : ∃ u, u = (fin l).L.getD k 0 := ⟨_, rfl⟩
    have huL : u ∈ (fin l).L := by rw [hu]; exact getD_mem _ _ hj2
    have hun := d.lt u huL
    have hgu : ∀ dd, (natI (fin l).L).getD k dd = (u : Int) := fun dd => by rw [qHC _ _ hj2, hu]
    have hgi : ∀ dd, (fin l).I.getD v.toNat dd = (fin l).I.getD v.toNat (-1) := fun dd => qFL (by rw [d.lI]; omega) _ _
    have hgo : ∀ dd, (fin l).O.getD v.toNat dd = (fin l).O.getD v.toNat (-1) := fun dd => qFL (by rw [d.lO]; omega) _ _
    have hgiu : ∀ dd, (fin l).I.getD u dd = (fin l).I.getD u (-1) := fun dd => qFL (by rw [d.lI]; omega) _ _
    have hgou : ∀ dd, (fin l).O.getD u dd = (fin l).O.getD u (-1) := fun dd => qFL (by rw [d.lO]; omega) _ _
    have hts := qI3 (p := insB (fin l) v.toNat) (fin l).L k hj2
    rw [← hu] at hts
    have hru := d.rI u huL
    have hlI := d.lI
    have hlO := d.lO
    have hins : (decide ((fin l).I.getD u (-1) < (fin l).I.getD v.toNat (-1)) && decide ((fin l).O.getD v.toNat (-1) < (fin l).O.getD u (-1))) = insB (fin l) v.toNat u := by
     unfold insB; rw [decide_eq_true hok.2.2, decide_eq_true hru.1]; rfl
    have hfl2 : (natI (((fin l).L.take k).filter (insB (fin l) v.toNat))).length ≤ 45 := by
     rw [qDM]
     have h1 := List.length_filter_le (insB (fin l) v.toNat) ((fin l).L.take k)
     rw [List.length_take] at h1
     omega
    have q1 := hgu qAI.dflt
    have q2 := hgi qAI.dflt
    have q3 := hgo qAI.dflt
    have q4 := hgiu qAI.dflt
    have q5 := hgou qAI.dflt
    repeat' ((conv => whnf);first|(with_reducible first|rfl|exact qAH|exact qAG)|exact True.intro|intro _|refine WA ?_ ?_|refine WF ?_|refine W1 rfl ?_ ?_|refine W2 rfl ?_ ?_|refine W3 rfl ?_ ?_|refine W4 ?_ ?_|refine W5 rfl ?_ ?_|refine W6 ?_ ?_|refine WN ?_|refine X1 (W1 rfl ?_ ?_)|refine X1 (W2 rfl ?_ ?_)|refine X2 (W7 rfl ?_ ?_)|refine X3 (W7 rfl ?_ ?_)|refine X4 (W7 rfl ?_ ?_)|refine X5 (W7 rfl ?_ ?_))
    all_goals (try (conv => whnf))
    all_goals (try first|exact obA|refine Ob.mk ?_)
    all_goals (try simp only [Int.toNat_natCast, q1, q2, q3, q4, q5, hins] at *)
    all_goals (try rw [qDM] at *)
    all_goals (try omega)
    all_goals (try (simp only [bytes3, List.length_singleton]; omega))
    all_goals (try (
     exfalso
     have h := ‹(decide ((k : Int) < ((fin l).L.length : Int)) && decide (v ≥ 0) && decide (v < ((fin l).I.length : Int)) && decide ((fin l).I.getD v.toNat (-1) ≥ 0)) = false›
     rw [decide_eq_true (by omega), decide_eq_true hok.1, decide_eq_true (by omega), decide_eq_true hok.2.2] at h
     cases h
     done))
    ·have hi1 : insB (fin l) v.toNat u = true := by assumption
     rw [if_pos hi1] at hts
     refine Rnd.mk ⟨k + 1, ⟨by omega, fun q => absurd hok q⟩, by omega, ?_⟩
     repeat' ((conv => whnf);first|(with_reducible first|rfl|exact qAH|exact qAG)|exact True.intro|intro _|refine WA ?_ ?_|refine WF ?_|refine W1 rfl ?_ ?_|refine W2 rfl ?_ ?_|refine W3 rfl ?_ ?_|refine W4 ?_ ?_|refine W5 rfl ?_ ?_|refine W6 ?_ ?_|refine WN ?_|refine X1 (W1 rfl ?_ ?_)|refine X1 (W2 rfl ?_ ?_)|refine X2 (W7 rfl ?_ ?_)|refine X3 (W7 rfl ?_ ?_)|refine X4 (W7 rfl ?_ ?_)|refine X5 (W7 rfl ?_ ?_))
     all_goals (try (conv => whnf))
     all_goals (try first|exact obA|refine Ob.mk ?_)
     all_goals (try rfl)
     rw [hts, qG9]
    ·have hi1 : insB (fin l) v.toNat u = false := by assumption
     rw [if_neg (by rw [hi1]; decide), List.append_nil] at hts
     refine Rnd.mk ⟨k + 1, ⟨by omega, fun q => absurd hok q⟩, by omega, ?_⟩
     repeat' ((conv => whnf);first|(with_reducible first|rfl|exact qAH|exact qAG)|exact True.intro|intro _|refine WA ?_ ?_|refine WF ?_|refine W1 rfl ?_ ?_|refine W2 rfl ?_ ?_|refine W3 rfl ?_ ?_|refine W4 ?_ ?_|refine W5 rfl ?_ ?_|refine W6 ?_ ?_|refine WN ?_|refine X1 (W1 rfl ?_ ?_)|refine X1 (W2 rfl ?_ ?_)|refine X2 (W7 rfl ?_ ?_)|refine X3 (W7 rfl ?_ ?_)|refine X4 (W7 rfl ?_ ?_)|refine X5 (W7 rfl ?_ ?_))
     all_goals (try (conv => whnf))
     all_goals (try first|exact obA|refine Ob.mk ?_)
     all_goals (try rfl)
     rw [hts]
   ·have : k = (fin l).L.length := by omega
    subst this
    have hlI := d.lI
    repeat' ((conv => whnf);first|(with_reducible first|rfl|exact qAH|exact qAG)|exact True.intro|intro _|refine WA ?_ ?_|refine WF ?_|refine W1 rfl ?_ ?_|refine W2 rfl ?_ ?_|refine W3 rfl ?_ ?_|refine W4 ?_ ?_|refine W5 rfl ?_ ?_|refine W6 ?_ ?_|refine WN ?_|refine X1 (W1 rfl ?_ ?_)|refine X1 (W2 rfl ?_ ?_)|refine X2 (W7 rfl ?_ ?_)|refine X3 (W7 rfl ?_ ?_)|refine X4 (W7 rfl ?_ ?_)|refine X5 (W7 rfl ?_ ?_))
    all_goals (try (conv => whnf))
    all_goals (try first|exact obA|refine Ob.mk ?_)
    all_goals (try rw [qDM] at *)
    all_goals (try omega)
    all_goals (try (
     exfalso
     have h := ‹(decide (((fin l).L.length : Int) < ((fin l).L.length : Int)) && decide (v ≥ 0) && decide (v < ((fin l).I.length : Int)) && decide ((fin l).I.getD v.toNat qAI.dflt ≥ 0)) = true›
     rw [decide_eq_false (by omega)] at h
     simp at h
     done))
    all_goals (try (rw [List.take_length, hpa]))
    all_goals trace_state
  ·have : k = 0 := hk0 hok
   subst this
   have hnil : qCR l v = [] := by
    rw [hpa]
    split
    ·rename_i h0
     refine qVO ?_
     by_cases h1 : v < l.length
     ·have : ¬ 0 ≤ (fin l).I.getD v.toNat (-1) := fun q => hok ⟨h0, h1, q⟩
      omega
     ·rw [List.getD_eq_getElem?_getD, List.getElem?_eq_none (by rw [d.lI]; omega)]
      decide
    ·rfl
   have hlI := d.lI
   repeat' ((conv => whnf);first|(with_reducible first|rfl|exact qAH|exact qAG)|exact True.intro|intro _|refine WA ?_ ?_|refine WF ?_|refine W1 rfl ?_ ?_|refine W2 rfl ?_ ?_|refine W3 rfl ?_ ?_|refine W4 ?_ ?_|refine W5 rfl ?_ ?_|refine W6 ?_ ?_|refine WN ?_|refine X1 (W1 rfl ?_ ?_)|refine X1 (W2 rfl ?_ ?_)|refine X2 (W7 rfl ?_ ?_)|refine X3 (W7 rfl ?_ ?_)|refine X4 (W7 rfl ?_ ?_)|refine X5 (W7 rfl ?_ ?_))
   all_goals (try (conv => whnf))
   all_goals (try first|exact obA|refine Ob.mk ?_)
   all_goals (try rw [qDM] at *)
   all_goals (try (
    exfalso
    have h := ‹(decide (((0 : Nat) : Int) < ((fin l).L.length : Int)) && decide (v ≥ 0) && decide (v < ((fin l).I.length : Int)) && decide ((fin l).I.getD v.toNat qAI.dflt ≥ 0)) = true›
    simp only [Bool.and_eq_true, decide_eq_true_eq] at h
    obtain ⟨⟨⟨_, h1⟩, h2⟩, h3⟩ := h
    rw [qFL (by omega) qAI.dflt (-1)] at h3
    exact hok ⟨h1, by omega, h3⟩))
   rw [hnil]; rfl
end Go.Vc

namespace Go.Vc
open Go.Proofs
open Go.Vc.W
set_option maxRecDepth 10000
set_option maxHeartbeats 4000000
abbrev qCT : List UInt8 := [102, 111, 114, 109]
abbrev imgW : List UInt8 := [105, 109, 103]
abbrev qDW : List UInt8 := [98, 117, 116, 116, 111, 110, 32, 102, 105, 101, 108, 100, 115, 101, 116, 32, 105, 110, 112, 117, 116, 32, 111, 98, 106, 101, 99, 116, 32, 111, 117, 116, 112, 117, 116, 32, 115, 101, 108, 101, 99, 116, 32, 116, 101, 120, 116, 97, 114, 101, 97]
def qXM (k s : Int) (nn c : List UInt8) : Bool := k == 1 && s == 0 && (spl c).contains nn
abbrev qBE (c : List UInt8) (n : qAF) : Bool := qXM n.1 n.2.1 n.2.2.1 c
instance oHtml (k s : Int) (nn : List UInt8) (at_ : List qAD) (d : List UInt8) (up : Int) (kids : List Int) (c : List UInt8) : Fn BB 89 [.agg [.int .i64 k, .int .i64 s, .str nn, .rd qAT at_, .str d, .int .i64 up, .rd qAI kids], .str c] (nn.length ≤ 100000 ∧ c.length ≤ 100000) (.bool (qXM k s nn c)) := by
 refine Fn.intro (N := 19) [0, 1, 2, 4] [] Tryz.call89 Tryz.func89 rfl rfl (by kernel_rfl) (fun hpre => ?_)
 repeat' ((conv => whnf);first|(with_reducible first|rfl|exact qAH|exact qAG)|exact True.intro|intro _|refine WA ?_ ?_|refine WF ?_|refine W1 rfl ?_ ?_|refine W2 rfl ?_ ?_|refine W3 rfl ?_ ?_|refine W4 ?_ ?_|refine W5 rfl ?_ ?_|refine W6 ?_ ?_|refine WN ?_|refine X1 (W1 rfl ?_ ?_)|refine X1 (W2 rfl ?_ ?_)|refine X2 (W7 rfl ?_ ?_)|refine X3 (W7 rfl ?_ ?_)|refine X4 (W7 rfl ?_ ?_)|refine X5 (W7 rfl ?_ ?_))
 all_goals (try (conv => whnf))
 all_goals (try first|exact obA|refine Ob.mk ?_)
 all_goals (first | exact ⟨hpre.2, hpre.1⟩ | exact hpre.2 | rfl | trace_state)
instance rHtml (k s : Int) (nn : List UInt8) (at_ : List qAD) (d : List UInt8) (up : Int) (kids : List Int) (c : List UInt8) : Fn BB 93 [.agg [.int .i64 k, .int .i64 s, .str nn, .rd qAT at_, .str d, .int .i64 up, .rd qAI kids], .str c] (nn.length ≤ 100000 ∧ c.length ≤ 100000) (.bool (qXM k s nn c)) := by
 refine Fn.intro (N := 19) [0, 1, 2, 4] [] Tryz.call93 Tryz.func93 rfl rfl (by kernel_rfl) (fun hpre => ?_)
 repeat' ((conv => whnf);first|(with_reducible first|rfl|exact qAH|exact qAG)|exact True.intro|intro _|refine WA ?_ ?_|refine WF ?_|refine W1 rfl ?_ ?_|refine W2 rfl ?_ ?_|refine W3 rfl ?_ ?_|refine W4 ?_ ?_|refine W5 rfl ?_ ?_|refine W6 ?_ ?_|refine WN ?_|refine X1 (W1 rfl ?_ ?_)|refine X1 (W2 rfl ?_ ?_)|refine X2 (W7 rfl ?_ ?_)|refine X3 (W7 rfl ?_ ?_)|refine X4 (W7 rfl ?_ ?_)|refine X5 (W7 rfl ?_ ?_))
 all_goals (try (conv => whnf))
 all_goals (try first|exact obA|refine Ob.mk ?_)
 all_goals (first | exact ⟨hpre.2, hpre.1⟩ | exact hpre.2 | rfl | trace_state)
instance oListed (k s : Int) (nn : List UInt8) (at_ : List qAD) (d : List UInt8) (up : Int) (kids : List Int) : Fn BB 34 [.agg [.int .i64 k, .int .i64 s, .str nn, .rd qAT at_, .str d, .int .i64 up, .rd qAI kids]] (nn.length ≤ 100000) (.bool (qXM k s nn qDW)) := by
 refine Fn.intro (N := 5) [0, 1, 2] [] Tryz.call34 Tryz.func34 rfl rfl (by kernel_rfl) (fun hpre => ?_)
 repeat' ((conv => whnf);first|(with_reducible first|rfl|exact qAH|exact qAG)|exact True.intro|intro _|refine WA ?_ ?_|refine WF ?_|refine W1 rfl ?_ ?_|refine W2 rfl ?_ ?_|refine W3 rfl ?_ ?_|refine W4 ?_ ?_|refine W5 rfl ?_ ?_|refine W6 ?_ ?_|refine WN ?_|refine X1 (W1 rfl ?_ ?_)|refine X1 (W2 rfl ?_ ?_)|refine X2 (W7 rfl ?_ ?_)|refine X3 (W7 rfl ?_ ?_)|refine X4 (W7 rfl ?_ ?_)|refine X5 (W7 rfl ?_ ?_))
 all_goals (try (conv => whnf))
 all_goals (try first|exact obA|refine Ob.mk ?_)
 all_goals (first | exact ⟨hpre, by decide⟩ | rfl | trace_state)
instance rListed (k s : Int) (nn : List UInt8) (at_ : List qAD) (d : List UInt8) (up : Int) (kids : List Int) : Fn BB 35 [.agg [.int .i64 k, .int .i64 s, .str nn, .rd qAT at_, .str d, .int .i64 up, .rd qAI kids]] (nn.length ≤ 100000) (.bool (qXM k s nn qDW)) := by
 refine Fn.intro (N := 5) [0, 1, 2] [] Tryz.call35 Tryz.func35 rfl rfl (by kernel_rfl) (fun hpre => ?_)
 repeat' ((conv => whnf);first|(with_reducible first|rfl|exact qAH|exact qAG)|exact True.intro|intro _|refine WA ?_ ?_|refine WF ?_|refine W1 rfl ?_ ?_|refine W2 rfl ?_ ?_|refine W3 rfl ?_ ?_|refine W4 ?_ ?_|refine W5 rfl ?_ ?_|refine W6 ?_ ?_|refine WN ?_|refine X1 (W1 rfl ?_ ?_)|refine X1 (W2 rfl ?_ ?_)|refine X2 (W7 rfl ?_ ?_)|refine X3 (W7 rfl ?_ ?_)|refine X4 (W7 rfl ?_ ?_)|refine X5 (W7 rfl ?_ ?_))
 all_goals (try (conv => whnf))
 all_goals (try first|exact obA|refine Ob.mk ?_)
 all_goals (first | exact ⟨hpre, by decide⟩ | rfl | trace_state)
def qM8 (l : List Nat) : Int := ((l.getD (l.length - 1) 0 : Nat) : Int)
def fB (t : List qAF) (u : Nat) : Bool := qBE qCT (nd t u)
def qDR (t : List qAF) (i : Int) : Int := if (qBE qDW (nd t i) || qBE imgW (nd t i)) = true then qM8 ((qCR t i).filter (fB t)) else 0
def qYH (t : List qAF) (i : Int) : Int := if qBE qCT (nd t (firstT t (getV (nd t i).2.2.2.1 qCT))) = true then firstT t (getV (nd t i).2.2.2.1 qCT) else 0
def oneT (t : List qAF) (i : Int) : Int := if (qBE qDW (nd t i) && (nd t i).2.2.2.1.any (hitN qCT)) = true then qYH t i else qDR t i
theorem qK8 {t : List qAF} (h0 : 0 < t.length) (v : List UInt8) : 0 ≤ firstT t v ∧ firstT t v < t.length := by
 unfold firstT qOS
 by_cases h : v = []
 ·rw [if_pos h]; omega
 ·rw [if_neg h]
  cases hf : (qC1 t).find? fun i => qHD [] idT v (nd t i) with
  | none => show (0 : Int) ≤ 0 ∧ (0 : Int) < t.length; omega
  | some x =>
   obtain ⟨j, hj, e⟩ := List.mem_iff_getElem.1 (List.mem_of_find?_eq_some hf)
   have := qJI t j hj 0
   rw [List.getD_eq_getElem?_getD, List.getElem?_eq_getElem hj] at this
   show 0 ≤ x ∧ x < t.length
   rw [← e]; exact this
theorem qVI {p : Nat → Bool} {l : List Nat} {k : Nat} (h : k < l.length) (hp : p (l.getD k 0) = true) (ha : ∀ j, k < j → j < l.length → p (l.getD j 0) = false) : qM8 (l.filter p) = (l.getD k 0 : Nat) := by
 have e : l = l.take k ++ (l.getD k 0 :: l.drop (k + 1)) := by
  have h2 : l.getD k 0 = l[k] := by simp [List.getD, h]
  rw [h2, List.getElem_cons_drop, List.take_append_drop]
 have hd : (l.drop (k + 1)).filter p = [] := by
  rw [List.filter_eq_nil_iff]
  intro x hx
  obtain ⟨j, hj, ej⟩ := List.mem_iff_getElem.1 hx
  rw [List.length_drop] at hj
  rw [List.getElem_drop] at ej
  have := ha (k + 1 + j) (by omega) (by omega)
  rw [List.getD_eq_getElem?_getD, List.getElem?_eq_getElem (by omega)] at this
  simp only [Option.getD_some, ej] at this
  rw [this]; decide
 have e2 : l.filter p = (l.take k).filter p ++ [l.getD k 0] := by
  conv => lhs; rw [e]
  rw [List.filter_append, List.filter_cons, if_pos hp, hd]
 unfold qM8
 rw [e2]
 simp
theorem last_none {p : Nat → Bool} {l : List Nat} (ha : ∀ j, j < l.length → p (l.getD j 0) = false) : qM8 (l.filter p) = 0 := by
 have : l.filter p = [] := by
  rw [List.filter_eq_nil_iff]
  intro x hx
  obtain ⟨j, hj, ej⟩ := List.mem_iff_getElem.1 hx
  have := ha j hj
  rw [List.getD_eq_getElem?_getD, List.getElem?_eq_getElem hj] at this
  simp only [Option.getD_some, ej] at this
  rw [this]; decide
 rw [this]; rfl
theorem qcG {t : List qAF} {i : Int} {j : Nat} (h : j < (qCR t i).length) : (qCR t i).getD j 0 < t.length := by
 have hm : (qCR t i).getD j 0 ∈ qCR t i := by rw [List.getD_eq_getElem?_getD, List.getElem?_eq_getElem h]; exact List.getElem_mem _
 generalize (qCR t i).getD j 0 = x at hm
 rw [qRZ] at hm
 split at hm
 ·exact (qDE t).lt _ (List.mem_filter.1 hm).1
 ·cases hm
theorem qaF {t : List qAF} {i : Int} (h : (qBE qDW (nd t i) && (nd t i).2.2.2.1.any (hitN qCT)) = true) (h2 : qBE qCT (nd t (firstT t (getV (nd t i).2.2.2.1 qCT))) = true) : oneT t i = firstT t (getV (nd t i).2.2.2.1 qCT) := by
 unfold oneT qYH; rw [if_pos h, if_pos h2]
theorem qaD {t : List qAF} {i : Int} (h : (qBE qDW (nd t i) && (nd t i).2.2.2.1.any (hitN qCT)) = true) (h2 : qBE qCT (nd t (firstT t (getV (nd t i).2.2.2.1 qCT))) = false) : oneT t i = 0 := by
 unfold oneT qYH; rw [if_pos h, if_neg (by rw [h2]; decide)]
theorem qW2 {t : List qAF} {i : Int} (h : (qBE qDW (nd t i) && (nd t i).2.2.2.1.any (hitN qCT)) = false) : oneT t i = qDR t i := by
 unfold oneT; rw [if_neg (by rw [h]; decide)]
theorem qb5 {t : List qAF} {i : Int} (h : (!qBE qDW (nd t i) && !qBE imgW (nd t i)) = true) : qDR t i = 0 := by
 unfold qDR; rw [if_neg]; intro q
 cases h1 : qBE qDW (nd t i) <;> cases h2 : qBE imgW (nd t i) <;> rw [h1, h2] at h q <;> simp at h q
theorem qbX {t : List qAF} {i : Int} (h : (!qBE qDW (nd t i) && !qBE imgW (nd t i)) = false) : qDR t i = qM8 ((qCR t i).filter (fB t)) := by
 unfold qDR; rw [if_pos]
 cases h1 : qBE qDW (nd t i) <;> cases h2 : qBE imgW (nd t i) <;> rw [h1, h2] at h <;> simp at h ⊢
instance rOne (t : List qAF) (i : Int) : Fn BB 92 [.agg [.rd qAC t], .int .i64 i] (qBG t 45 = true ∧ 0 ≤ i ∧ i < t.length) (.int .i64 (oneT t i)) := by
  refine Fn.intro (N := 68) [0, 1, 2, 4, 5, 6, 7, 8, 9, 10, 26, 35, 44, 52, 63] [(14, [0, 1, 0, 0, 1, 1, 3, 3, 3])] Tryz.call92 Tryz.func92 rfl rfl (by kernel_rfl) (fun hpre => ?_)
  obtain ⟨ht, hi⟩ := hpre
  have hl := qTX ht
  have hn := qCD (qIM ht i hi)
  have hf := qK8 (t := t) (by omega) (getV (nd t i).2.2.2.1 qCT)
  have hnf := qCD (qIM ht _ hf)
  repeat' ((conv => whnf);first|(with_reducible first|rfl|exact qAH|exact qAG)|exact True.intro|intro _|refine WA ?_ ?_|refine WF ?_|refine W1 rfl ?_ ?_|refine W2 rfl ?_ ?_|refine W3 rfl ?_ ?_|refine W4 ?_ ?_|refine W5 rfl ?_ ?_|refine W6 ?_ ?_|refine WN ?_|refine X1 (W1 rfl ?_ ?_)|refine X1 (W2 rfl ?_ ?_)|refine X2 (W7 rfl ?_ ?_)|refine X3 (W7 rfl ?_ ?_)|refine X4 (W7 rfl ?_ ?_)|refine X5 (W7 rfl ?_ ?_))
  all_goals (try (conv => whnf))
  all_goals (try first|exact obA|refine Ob.mk ?_)
  all_goals (try (first | exact Nat.le_trans hn.1 (by decide) | exact Nat.le_trans hn.2.1 (by decide) | exact ⟨Nat.le_trans hnf.1 (by decide), by decide⟩ | exact ⟨Nat.le_trans hn.1 (by decide), by decide⟩ | exact (qaF (by assumption) (by assumption)).symm | exact (qaD (by assumption) (by assumption)).symm | exact ((qW2 (by assumption)).trans (qb5 (by assumption))).symm))
  rename_i hq1 hq2 hq3
  have hr : oneT t i = qM8 ((qCR t i).filter (fB t)) := (qW2 hq1).trans (qbX hq2)
  clear hn hf hnf
  have hle := qDM (qCR t i)
  refine LoopStop.mk (α := Nat) (fun m => [(10, .int .i64 ((m : Int) - 1))]) (fun _ => []) 0 (fun m => m ≤ (natI (qCR t i)).length ∧ ∀ j, m ≤ j → j < (qCR t i).length → fB t ((qCR t i).getD j 0) = false) (fun m => m) (natI (qCR t i)).length ⟨Nat.le_refl _, fun j h1 h2 => by omega⟩ ?_ (fun m hm => ?_)
  · all_goals exact vcA
  · obtain ⟨hm1, hm2⟩ := hm
    by_cases hm0 : m = 0
    · subst hm0
      have hz : ((0 : Nat) : Int) - 1 ≥ 0 ↔ False := ⟨fun h => by omega, fun h => h.elim⟩
      repeat' ((conv => whnf);first|(with_reducible first|rfl|exact qAH|exact qAG)|exact True.intro|intro _|refine WA ?_ ?_|refine WF ?_|refine W1 rfl ?_ ?_|refine W2 rfl ?_ ?_|refine W3 rfl ?_ ?_|refine W4 ?_ ?_|refine W5 rfl ?_ ?_|refine W6 ?_ ?_|refine WN ?_|refine X1 (W1 rfl ?_ ?_)|refine X1 (W2 rfl ?_ ?_)|refine X2 (W7 rfl ?_ ?_)|refine X3 (W7 rfl ?_ ?_)|refine X4 (W7 rfl ?_ ?_)|refine X5 (W7 rfl ?_ ?_))
      all_goals (try (conv => whnf))
      all_goals (try first|exact obA|refine Ob.mk ?_)
      all_goals (try (exact absurd (of_decide_eq_true ‹decide (((0 : Nat) : Int) - 1 ≥ 0) = true›) (by omega)))
      rw [hr]; exact (last_none (fun j h => hm2 j (Nat.zero_le _) h)).symm
    · have hg : ∀ d, (natI (qCR t i)).getD ((m : Int) - 1).toNat d = ((qCR t i).getD (m - 1) 0 : Nat) := fun d => by
        rw [show ((m : Int) - 1).toNat = m - 1 by omega]; exact qHC _ _ (by omega) d
      have hpl := qcG (t := t) (i := i) (j := m - 1) (by omega)
      have hnp := qCD (qIM ht (((qCR t i).getD (m - 1) 0 : Nat) : Int) ⟨by omega, by omega⟩)
      have hgd := hg qAI.dflt
      generalize (natI (qCR t i)).getD ((m : Int) - 1).toNat qAI.dflt = x at hgd
      repeat' ((conv => whnf);first|(with_reducible first|rfl|exact qAH|exact qAG)|exact True.intro|intro _|refine WA ?_ ?_|refine WF ?_|refine W1 rfl ?_ ?_|refine W2 rfl ?_ ?_|refine W3 rfl ?_ ?_|refine W4 ?_ ?_|refine W5 rfl ?_ ?_|refine W6 ?_ ?_|refine WN ?_|refine X1 (W1 rfl ?_ ?_)|refine X1 (W2 rfl ?_ ?_)|refine X2 (W7 rfl ?_ ?_)|refine X3 (W7 rfl ?_ ?_)|refine X4 (W7 rfl ?_ ?_)|refine X5 (W7 rfl ?_ ?_))
      all_goals (try (conv => whnf))
      all_goals (try first|exact obA|refine Ob.mk ?_)
      all_goals (try simp only [hg])
      all_goals (try omega)
      all_goals (try exact ⟨Nat.le_trans hnp.1 (by decide), by decide⟩)
      all_goals (try (exact absurd (of_decide_eq_false ‹decide ((m : Int) - 1 ≥ 0) = false›) (by omega)))
      · rename_i q
        simp only [hg] at q
        rw [hr]
        exact (qVI (k := m - 1) (by omega) q (fun j h1 h2 => hm2 j (by omega) h2)).symm
      · rename_i q
        simp only [hg] at q
        refine Rnd.mk ⟨m - 1, ⟨by omega, fun j h1 h2 => ?_⟩, by omega, ?_⟩
        · rcases Nat.eq_or_lt_of_le h1 with h3 | h3
          · rw [← h3]; exact q
          · exact hm2 j (by omega) h2
        · repeat' ((conv => whnf);first|(with_reducible first|rfl|exact qAH|exact qAG)|exact True.intro|intro _|refine WA ?_ ?_|refine WF ?_|refine W1 rfl ?_ ?_|refine W2 rfl ?_ ?_|refine W3 rfl ?_ ?_|refine W4 ?_ ?_|refine W5 rfl ?_ ?_|refine W6 ?_ ?_|refine WN ?_|refine X1 (W1 rfl ?_ ?_)|refine X1 (W2 rfl ?_ ?_)|refine X2 (W7 rfl ?_ ?_)|refine X3 (W7 rfl ?_ ?_)|refine X4 (W7 rfl ?_ ?_)|refine X5 (W7 rfl ?_ ?_))
          all_goals (try (conv => whnf))
          all_goals (try first|exact obA|refine Ob.mk ?_)
          all_goals trace_state
def ownT (t : List qAF) : List Int := (List.range t.length).map fun (u : Nat) => oneT t (u : Int)
theorem qKX (f : Nat → Int) (k : Nat) : (List.range (k + 1)).map f = (List.range k).map f ++ [f k] := by
 rw [List.range_succ, List.map_append]; rfl
instance rOf (t : List qAF) : Fn BB 33 [.agg [.rd qAC t]] (qBG t 45 = true) (.rd qAI (ownT t)) := by
 refine Fn.intro (N := 19) [0, 1, 2, 3, 4, 9] [] Tryz.call33 Tryz.func33 rfl rfl (by kernel_rfl) (fun hpre => ?_)
 have ht := hpre
 have hl := qTX ht
 repeat' ((conv => whnf);first|(with_reducible first|rfl|exact qAH|exact qAG)|exact True.intro|intro _|refine WA ?_ ?_|refine WF ?_|refine W1 rfl ?_ ?_|refine W2 rfl ?_ ?_|refine W3 rfl ?_ ?_|refine W4 ?_ ?_|refine W5 rfl ?_ ?_|refine W6 ?_ ?_|refine WN ?_|refine X1 (W1 rfl ?_ ?_)|refine X1 (W2 rfl ?_ ?_)|refine X2 (W7 rfl ?_ ?_)|refine X3 (W7 rfl ?_ ?_)|refine X4 (W7 rfl ?_ ?_)|refine X5 (W7 rfl ?_ ?_))
 all_goals (try (conv => whnf))
 all_goals (try first|exact obA|refine Ob.mk ?_)
 refine LoopStop.mk (α := Nat) (fun k => [(3, .own 60), (4, .int .i64 k)]) (fun k => [(60, .own qAI ((List.range k).map fun (u : Nat) => oneT t (u : Int)))]) 80 (fun k => k ≤ t.length) (fun k => t.length - k) 0 (Nat.zero_le _) ?_ (fun k hk => ?_)
 ·all_goals exact vcA
 ·have hs := qKX (fun (u : Nat) => oneT t (u : Int)) k
  by_cases hk2 : k < t.length
  ·repeat' ((conv => whnf);first|(with_reducible first|rfl|exact qAH|exact qAG)|exact True.intro|intro _|refine WA ?_ ?_|refine WF ?_|refine W1 rfl ?_ ?_|refine W2 rfl ?_ ?_|refine W3 rfl ?_ ?_|refine W4 ?_ ?_|refine W5 rfl ?_ ?_|refine W6 ?_ ?_|refine WN ?_|refine X1 (W1 rfl ?_ ?_)|refine X1 (W2 rfl ?_ ?_)|refine X2 (W7 rfl ?_ ?_)|refine X3 (W7 rfl ?_ ?_)|refine X4 (W7 rfl ?_ ?_)|refine X5 (W7 rfl ?_ ?_))
   all_goals (try (conv => whnf))
   all_goals (try first|exact obA|refine Ob.mk ?_)
   all_goals (try exact ⟨ht, by omega, by omega⟩)
   all_goals (try (exact absurd (of_decide_eq_false ‹decide ((k : Int) < (t.length : Int)) = false›) (by omega)))
   refine Rnd.mk ⟨k + 1, by omega, by omega, ?_⟩
   repeat' ((conv => whnf);first|(with_reducible first|rfl|exact qAH|exact qAG)|exact True.intro|intro _|refine WA ?_ ?_|refine WF ?_|refine W1 rfl ?_ ?_|refine W2 rfl ?_ ?_|refine W3 rfl ?_ ?_|refine W4 ?_ ?_|refine W5 rfl ?_ ?_|refine W6 ?_ ?_|refine WN ?_|refine X1 (W1 rfl ?_ ?_)|refine X1 (W2 rfl ?_ ?_)|refine X2 (W7 rfl ?_ ?_)|refine X3 (W7 rfl ?_ ?_)|refine X4 (W7 rfl ?_ ?_)|refine X5 (W7 rfl ?_ ?_))
   all_goals (try (conv => whnf))
   all_goals (try first|exact obA|refine Ob.mk ?_)
   all_goals (try (rw [hs]))
  ·have : k = t.length := by omega
   subst this
   repeat' ((conv => whnf);first|(with_reducible first|rfl|exact qAH|exact qAG)|exact True.intro|intro _|refine WA ?_ ?_|refine WF ?_|refine W1 rfl ?_ ?_|refine W2 rfl ?_ ?_|refine W3 rfl ?_ ?_|refine W4 ?_ ?_|refine W5 rfl ?_ ?_|refine W6 ?_ ?_|refine WN ?_|refine X1 (W1 rfl ?_ ?_)|refine X1 (W2 rfl ?_ ?_)|refine X2 (W7 rfl ?_ ?_)|refine X3 (W7 rfl ?_ ?_)|refine X4 (W7 rfl ?_ ?_)|refine X5 (W7 rfl ?_ ?_))
   all_goals (try (conv => whnf))
   all_goals (try first|exact obA|refine Ob.mk ?_)
   all_goals (try (exact absurd (of_decide_eq_true ‹decide ((t.length : Int) < (t.length : Int)) = true›) (by omega)))
   all_goals (try rfl)
end Go.Vc

namespace Go.Vc
open Go.Proofs
set_option maxRecDepth 10000
set_option maxHeartbeats 4000000
def stkF (t : List qAF) (k : Nat) : List Nat := if k = 0 then [] else qFV (fin t) (fB t) ((fin t).L.getD (k - 1) 0)
def popF (t : List qAF) (i : Nat) : List Nat := ((fin t).L.filter (insG (fin t) i)).filter (fB t)
def outF (t : List qAF) (k : Nat) : List Int := (List.range t.length).map fun (u : Nat) => if ((fin t).L.take k).contains u = true then qDR t (u : Int) else 0
def out2 (t : List qAF) (i : Nat) : List Int := (List.range t.length).map fun (u : Nat) => if u < i then oneT t (u : Int) else qDR t (u : Int)
theorem qYF (t : List qAF) (i : Nat) : (qCR t (i : Int)).filter (fB t) = popF t i := by
 rw [qI6]; rfl
theorem qbR (t : List qAF) (h : t.length ≤ 45) (k : Nat) : (stkF t k).length ≤ 46 := by
 have d := qDE t
 have hn := qEO d.nod d.lt
 unfold stkF
 split
 ·simp
 ·unfold qFV
  refine Nat.le_trans (List.length_filter_le _ _) ?_
  rw [List.length_append]
  have := List.length_filter_le (insG (fin t) ((fin t).L.getD (k - 1) 0)) (fin t).L
  simp only [List.length_singleton]; omega
theorem qV1 {t : List qAF} {k : Nat} (hk : k < (fin t).L.length) {m : Nat} (hm : m ≤ (stkF t k).length)
  (hf : ∀ j, m ≤ j → j < (stkF t k).length → insG (fin t) ((fin t).L.getD k 0) ((stkF t k).getD j 0) = false)
  (ht : m = 0 ∨ insG (fin t) ((fin t).L.getD k 0) ((stkF t k).getD (m - 1) 0) = true) : (stkF t k).take m = popF t ((fin t).L.getD k 0) := by
 have d := qDE t
 cases k with
 | zero =>
  unfold popF
  rw [qVV d hk]
  unfold stkF; simp
 | succ k =>
  have e : stkF t (k + 1) = qFV (fin t) (fB t) ((fin t).L.getD k 0) := by unfold stkF; rw [if_neg (by omega)]; rfl
  rw [e] at hm hf ht ⊢
  exact qXC d (fB t) hk m hm hf ht
theorem qSS (t : List qAF) (k : Nat) : stkF t (k + 1) = popF t ((fin t).L.getD k 0) ++ (if fB t ((fin t).L.getD k 0) = true then [(fin t).L.getD k 0] else []) := by
 unfold stkF
 rw [if_neg (by omega), Nat.add_sub_cancel]
 unfold qFV popF
 rw [List.filter_append, List.filter_cons]
 split <;> simp
theorem qcS {t : List qAF} {k j : Nat} (hk : k ≤ (fin t).L.length) (h : j < (stkF t k).length) : (stkF t k).getD j 0 ∈ (fin t).L := by
 have hm : (stkF t k).getD j 0 ∈ stkF t k := by rw [List.getD_eq_getElem?_getD, List.getElem?_eq_getElem h]; exact List.getElem_mem _
 generalize (stkF t k).getD j 0 = x at hm
 unfold stkF at hm
 split at hm
 ·cases hm
 ·unfold qFV at hm
  have := (List.mem_filter.1 hm).1
  rw [List.mem_append] at this
  rcases this with q | q
  ·exact (List.mem_filter.1 q).1
  ·rw [List.mem_singleton] at q; rw [q]; exact qK3 (by omega)
theorem qE8 (t : List qAF) (k : Nat) : (outF t k).length = t.length := by unfold outF; simp
theorem qEM (t : List qAF) (k : Nat) : (out2 t k).length = t.length := by unfold out2; simp
theorem out_0 (t : List qAF) : outF t 0 = List.replicate t.length 0 := by
 unfold outF; simp [List.map_const']
theorem qMP (t : List qAF) (k u : Nat) (h : u < t.length) (d : Int) : (outF t k).getD u d = if ((fin t).L.take k).contains u = true then qDR t (u : Int) else 0 := by
 unfold outF; simp [List.getD, h]
theorem qI7 (t : List qAF) (k u : Nat) (h : u < t.length) (d : Int) : (out2 t k).getD u d = if u < k then oneT t (u : Int) else qDR t (u : Int) := by
 unfold out2; simp [List.getD, h]
theorem qGL {a b : List Int} (hl : a.length = b.length) (h : ∀ u < a.length, a.getD u 0 = b.getD u 0) : a = b := by
 apply List.ext_getElem hl
 intro i h1 h2
 have := h i h1
 simpa [List.getD, List.getElem?_eq_getElem h1, List.getElem?_eq_getElem h2] using this
theorem qFI (l : List Int) (i u : Nat) (v : Int) (h : u < l.length) : (l.set i v).getD u 0 = if i = u then v else l.getD u 0 := by
 simp only [List.getD, List.getElem?_set]
 split
 ·rename_i e; subst e; simp [h]
 ·rfl
theorem qWK {t : List qAF} {k : Nat} (hk : k < (fin t).L.length) : (outF t k).set ((fin t).L.getD k 0) (qDR t (((fin t).L.getD k 0 : Nat) : Int)) = outF t (k + 1) := by
 refine qGL (by rw [List.length_set, qE8, qE8]) fun u hu => ?_
 rw [List.length_set, qE8] at hu
 rw [qFI _ _ _ _ (by rw [qE8]; exact hu), qMP _ _ _ hu, qMP _ _ _ hu, take_snoc (fin t).L k 0 hk]
 split
 ·rename_i e; subst e; simp
 ·rename_i e
  have : (((fin t).L.take k) ++ [(fin t).L.getD k 0]).contains u = ((fin t).L.take k).contains u := by
   rw [Bool.eq_iff_iff]; simp only [List.contains_iff_mem, List.mem_append, List.mem_singleton]
   exact ⟨fun h => h.resolve_right (fun q => e q.symm), .inl⟩
  rw [this]
theorem qS3 {t : List qAF} {k : Nat} (hk : k < (fin t).L.length) (h : qDR t (((fin t).L.getD k 0 : Nat) : Int) = 0) : outF t k = outF t (k + 1) := by
 rw [← qWK hk]
 refine qGL (by rw [List.length_set]) fun u hu => ?_
 rw [qFI _ _ _ _ hu]
 rw [qE8] at hu
 split
 ·rename_i e; subst e
  rw [h, qMP _ _ _ hu]; split <;> first | exact h | rfl
 ·rfl
theorem qYW {t : List qAF} {u : Nat} (h : u ∉ (fin t).L) : qDR t (u : Int) = 0 := by
 unfold qDR
 split
 ·have e : qCR t (u : Int) = [] := by rw [qI6]; exact qVO (by have := ((qDE t).out u h).1; omega)
  rw [e]; rfl
 ·rfl
theorem qbL (t : List qAF) : outF t (fin t).L.length = out2 t 0 := by
 refine qGL (by rw [qE8, qEM]) fun u hu => ?_
 rw [qE8] at hu
 rw [qMP _ _ _ hu, qI7 _ _ _ hu, List.take_length, if_neg (Nat.not_lt_zero u)]
 split
 ·rfl
 ·rename_i e
  exact (qYW (fun q => e (List.contains_iff_mem.2 q))).symm
theorem qYN (t : List qAF) : out2 t t.length = ownT t := by
 unfold out2 ownT
 refine List.map_congr_left fun u hu => ?_
 rw [if_pos (List.mem_range.1 hu)]
theorem qL4 {t : List qAF} {i : Nat} (hi : i < t.length) {x : Int} (h : x = oneT t (i : Int)) : (out2 t i).set i x = out2 t (i + 1) := by
 refine qGL (by rw [List.length_set, qEM, qEM]) fun u hu => ?_
 rw [List.length_set, qEM] at hu
 rw [qFI _ _ _ _ (by rw [qEM]; exact hu), qI7 _ _ _ hu, qI7 _ _ _ hu]
 split
 ·rename_i e; subst e; rw [if_pos (by omega)]; exact h
 ·rename_i e
  by_cases q : u < i
  ·rw [if_pos q, if_pos (by omega)]
  ·rw [if_neg q, if_neg (by omega)]
theorem qU3 {t : List qAF} {i : Nat} (hi : i < t.length) (h : oneT t (i : Int) = qDR t (i : Int)) : out2 t i = out2 t (i + 1) := by
 rw [← qL4 hi rfl]
 refine qGL (by rw [List.length_set]) fun u hu => ?_
 rw [qFI _ _ _ _ hu]
 rw [qEM] at hu
 split
 ·rename_i e; subst e; rw [qI7 _ _ _ hu, if_neg (by omega), h]
 ·rfl
theorem qR4 {t : List qAF} {u : Nat} (h : (qBE imgW (nd t (u : Int)) || qBE qDW (nd t (u : Int))) = true) : qDR t (u : Int) = qM8 (popF t u) := by
 unfold qDR
 rw [if_pos (by rw [Bool.or_comm]; exact h), qYF]
theorem qUY {t : List qAF} {u : Nat} (h : (qBE imgW (nd t (u : Int)) || qBE qDW (nd t (u : Int))) = false) : qDR t (u : Int) = 0 := by
 unfold qDR
 rw [if_neg (by rw [Bool.or_comm, h]; decide)]
end Go.Vc

namespace Go.Vc
open Go.Proofs
open Go.Vc.W
set_option maxRecDepth 10000
set_option maxHeartbeats 4000000
instance oOf (t : List qAF) : Fn BB 32 [.agg [.rd qAC t]] (qBG t 45 = true) (.rd qAI (ownT t)) := by
 refine Fn.intro (N := 122) [0, 1, 2, 3, 4, 5, 7, 8, 9, 10, 11, 12, 13, 21, 22, 23, 24, 51, 62, 66, 76, 83, 84, 85, 86, 100, 116] [(8, [0, 1, 1, 1, 1, 1, 1, 1, 1, 1, 1, 1, 1, 1, 1, 1, 1, 3, 3, 3]), (23, [0, 1, 0, 0, 1, 1, 3, 3, 3, 3])] Tryz.call32 Tryz.func32 rfl rfl (by kernel_rfl) (fun hpre => ?_)
 have ht := hpre
 have hl := qTX ht
 have d := qDE t
 have hb := d.bnd (by omega : t.length ≤ 45)
 have hn := qEO d.nod d.lt
 have hfl : (flat (fin t)).length = t.length := by rw [qB7]; exact d.lI
 have hLl := qDM (fin t).L
 repeat' ((conv => whnf);first|(with_reducible first|rfl|exact qAH|exact qAG)|exact True.intro|intro _|refine WA ?_ ?_|refine WF ?_|refine W1 rfl ?_ ?_|refine W2 rfl ?_ ?_|refine W3 rfl ?_ ?_|refine W4 ?_ ?_|refine W5 rfl ?_ ?_|refine W6 ?_ ?_|refine WN ?_|refine X1 (W1 rfl ?_ ?_)|refine X1 (W2 rfl ?_ ?_)|refine X2 (W7 rfl ?_ ?_)|refine X3 (W7 rfl ?_ ?_)|refine X4 (W7 rfl ?_ ?_)|refine X5 (W7 rfl ?_ ?_))
 all_goals (try (conv => whnf))
 all_goals (try first|exact obA|refine Ob.mk ?_)
 refine LoopStop.mk (α := Nat) (fun k => [(5, .own 60), (23, .int .i64 k)]) (fun k => [(60, .own qAI (natI (stkF t k))), (1, .own qAI (outF t k))]) 80 (fun k => k ≤ (fin t).L.length) (fun k => (fin t).L.length - k) 0 (Nat.zero_le _) ?_ (fun k hk => ?_)
 ·repeat' ((conv => whnf);first|(with_reducible first|rfl|exact qAH|exact qAG)|exact True.intro|intro _|refine WA ?_ ?_|refine WF ?_|refine W1 rfl ?_ ?_|refine W2 rfl ?_ ?_|refine W3 rfl ?_ ?_|refine W4 ?_ ?_|refine W5 rfl ?_ ?_|refine W6 ?_ ?_|refine WN ?_|refine X1 (W1 rfl ?_ ?_)|refine X1 (W2 rfl ?_ ?_)|refine X2 (W7 rfl ?_ ?_)|refine X3 (W7 rfl ?_ ?_)|refine X4 (W7 rfl ?_ ?_)|refine X5 (W7 rfl ?_ ?_))
  all_goals (try (conv => whnf))
  all_goals (try first|exact obA|refine Ob.mk ?_)
  all_goals (try rfl)
  all_goals (rw [out_0, Int.toNat_natCast])
 ·by_cases hk2 : k < (fin t).L.length
  ·obtain ⟨u, hu⟩ : ∃ u, u = (fin t).L.getD k 0 := ⟨_, rfl⟩
   have huL : u ∈ (fin t).L := by rw [hu]; exact getD_mem _ _ hk2
   have hun := d.lt u huL
   have hgu : ∀ dd, (natI (fin t).L).getD k dd = (u : Int) := fun dd => by rw [qHC _ _ hk2, hu]
   have hgu1 := hgu qAI.dflt
   have hnu := qCD (qIM ht (u : Int) ⟨by omega, by omega⟩)
   have hsl := qbR t (by omega) k
   have hsn := qDM (stkF t k)
   have hol := qE8 t k
   repeat' ((conv => whnf);first|(with_reducible first|rfl|exact qAH|exact qAG)|exact True.intro|intro _|refine WA ?_ ?_|refine WF ?_|refine W1 rfl ?_ ?_|refine W2 rfl ?_ ?_|refine W3 rfl ?_ ?_|refine W4 ?_ ?_|refine W5 rfl ?_ ?_|refine W6 ?_ ?_|refine WN ?_|refine X1 (W1 rfl ?_ ?_)|refine X1 (W2 rfl ?_ ?_)|refine X2 (W7 rfl ?_ ?_)|refine X3 (W7 rfl ?_ ?_)|refine X4 (W7 rfl ?_ ?_)|refine X5 (W7 rfl ?_ ?_))
   all_goals (try (conv => whnf))
   all_goals (try first|exact obA|refine Ob.mk ?_)
   all_goals (try simp only [Int.toNat_natCast, hgu1] at *)
   all_goals (try omega)
   all_goals (try (exfalso; have h := of_decide_eq_false ‹decide ((k : Int) < ((natI (fin t).L).length : Int)) = false›; omega))
   refine LoopStop.mk (α := Nat) (fun m => [(5, .own 60)]) (fun m => [(60, .own qAI (natI ((stkF t k).take m)))]) 100 (fun m => m ≤ (stkF t k).length ∧ ∀ j, m ≤ j → j < (stkF t k).length → insG (fin t) u ((stkF t k).getD j 0) = false) (fun m => m) (stkF t k).length ⟨Nat.le_refl _, fun j h1 h2 => by omega⟩ ?_ (fun m hm => ?_)
   ·repeat' ((conv => whnf);first|(with_reducible first|rfl|exact qAH|exact qAG)|exact True.intro|intro _|refine WA ?_ ?_|refine WF ?_|refine W1 rfl ?_ ?_|refine W2 rfl ?_ ?_|refine W3 rfl ?_ ?_|refine W4 ?_ ?_|refine W5 rfl ?_ ?_|refine W6 ?_ ?_|refine WN ?_|refine X1 (W1 rfl ?_ ?_)|refine X1 (W2 rfl ?_ ?_)|refine X2 (W7 rfl ?_ ?_)|refine X3 (W7 rfl ?_ ?_)|refine X4 (W7 rfl ?_ ?_)|refine X5 (W7 rfl ?_ ?_))
    all_goals (try (conv => whnf))
    all_goals (try first|exact obA|refine Ob.mk ?_)
    all_goals (try rfl)
    all_goals (try rw [List.take_length])
    all_goals trace_state
   ·obtain ⟨hm1, hm2⟩ := hm
    have hml : (natI ((stkF t k).take m)).length = m := by rw [qDM, List.length_take]; omega
    have hlen : ∀ h : Prop, h → h := fun _ h => h
    by_cases hm0 : m = 0
    ·have hp := qV1 hk2 hm1 (by rw [← hu]; exact hm2) (.inl hm0)
     have hps := qSS t k
     rw [← hu] at hp hps
     subst hm0
     have hbz : qDR t (u : Int) = 0 := by
      cases h : (qBE imgW (nd t (u : Int)) || qBE qDW (nd t (u : Int))) with
      | false => exact qUY h
      | true => rw [qR4 h, ← hp]; rfl
     have E1 : fB t u = true → ([] : List Int) ++ [(u : Int)] = natI (stkF t (k + 1)) := fun h => by rw [hps, if_pos h, ← hp]; rfl
     have E2 : fB t u = false → ([] : List Int) = natI (stkF t (k + 1)) := fun h => by rw [hps, if_neg (by rw [h]; decide), ← hp]; rfl
     have E4 : outF t k = outF t (k + 1) := qS3 hk2 (by rw [← hu]; exact hbz)
     have hz : decide (((0 : Nat) : Int) > 0) = false := by decide
     have hnil : natI [] = [] := rfl
     clear hps hp
     repeat' ((conv => whnf);first|(with_reducible first|rfl|exact qAH|exact qAG)|exact True.intro|intro _|refine WA ?_ ?_|refine WF ?_|refine W1 rfl ?_ ?_|refine W2 rfl ?_ ?_|refine W3 rfl ?_ ?_|refine W4 ?_ ?_|refine W5 rfl ?_ ?_|refine W6 ?_ ?_|refine WN ?_|refine X1 (W1 rfl ?_ ?_)|refine X1 (W2 rfl ?_ ?_)|refine X2 (W7 rfl ?_ ?_)|refine X3 (W7 rfl ?_ ?_)|refine X4 (W7 rfl ?_ ?_)|refine X5 (W7 rfl ?_ ?_))
     all_goals (try (conv => whnf))
     all_goals (try first|exact obA|refine Ob.mk ?_)
     all_goals (try simp only [List.take_zero, hnil, List.length_nil, hz, Bool.false_and, Bool.false_eq_true] at *)
     all_goals (try (first | exact ⟨Nat.le_trans hnu.1 (by decide), by decide⟩ | exact Nat.le_trans hnu.1 (by decide)))
     all_goals (try (simp only [bytes3, List.length_singleton]; omega))
     all_goals (try (
      refine Rnd.mk ⟨k + 1, by omega, by omega, ?_⟩
      repeat' ((conv => whnf);first|(with_reducible first|rfl|exact qAH|exact qAG)|exact True.intro|intro _|refine WA ?_ ?_|refine WF ?_|refine W1 rfl ?_ ?_|refine W2 rfl ?_ ?_|refine W3 rfl ?_ ?_|refine W4 ?_ ?_|refine W5 rfl ?_ ?_|refine W6 ?_ ?_|refine WN ?_|refine X1 (W1 rfl ?_ ?_)|refine X1 (W2 rfl ?_ ?_)|refine X2 (W7 rfl ?_ ?_)|refine X3 (W7 rfl ?_ ?_)|refine X4 (W7 rfl ?_ ?_)|refine X5 (W7 rfl ?_ ?_))
      all_goals (try (conv => whnf))
      all_goals (try first|exact obA|refine Ob.mk ?_)
      all_goals (try (rw [E1 (by assumption)]))
      all_goals (try (rw [E2 (by assumption)]))
      all_goals (try (rw [E4]))
      done))
     all_goals trace_state
    ·obtain ⟨w, hw⟩ : ∃ w, w = (stkF t k).getD (m - 1) 0 := ⟨_, rfl⟩
     have hwL : w ∈ (fin t).L := by rw [hw]; exact qcS (by omega) (by omega)
     have hwn := d.lt w hwL
     have hgw : ∀ dd, (natI ((stkF t k).take m)).getD ((m : Int) - 1).toNat dd = (w : Int) := fun dd => by
      rw [show ((m : Int) - 1).toNat = m - 1 by omega, qHC _ _ (by rw [List.length_take]; omega), hw]
      congr 1
      simp [List.getD, List.getElem?_take, show m - 1 < m by omega]
     have hfu := flat_get (fin t) u (by rw [d.lI]; exact hun) Ty.cpx.dflt
     have hfw := flat_get (fin t) w (by rw [d.lI]; exact hwn) Ty.cpx.dflt
     have hgw1 := hgw qAI.dflt
     have hbu := hb u
     have hbw := hb w
     have hpos : decide ((m : Int) > 0) = true := decide_eq_true (by omega)
     have hcnd : (decide (0 ≤ (fin t).I.getD u (-1)) && decide (0 ≤ (fin t).I.getD w (-1)) && (decide ((fin t).I.getD w (-1) < (fin t).I.getD u (-1)) && decide ((fin t).O.getD u (-1) < (fin t).O.getD w (-1)))) = insG (fin t) u w := rfl
     by_cases hins : insG (fin t) u w = true
     ·have hp := qV1 hk2 hm1 (by rw [← hu]; exact hm2) (.inr (by rw [← hu, ← hw]; exact hins))
      have hps := qSS t k
      rw [← hu] at hp hps
      have E1 : fB t u = true → natI ((stkF t k).take m) ++ [(u : Int)] = natI (stkF t (k + 1)) := fun h => by rw [hps, if_pos h, ← hp, qG9]
      have E2 : fB t u = false → natI ((stkF t k).take m) = natI (stkF t (k + 1)) := fun h => by rw [hps, if_neg (by rw [h]; decide), ← hp, List.append_nil]
      have E3 : (qBE imgW (nd t (u : Int)) || qBE qDW (nd t (u : Int))) = true → (outF t k).set u (w : Int) = outF t (k + 1) := fun h => by
       rw [← qWK hk2, ← hu, qR4 h, ← hp]
       congr 1
       unfold qM8
       rw [List.length_take, show min m (stkF t k).length = m by omega, hw]
       congr 1
       simp [List.getD, List.getElem?_take, show m - 1 < m by omega]
      have E5 : (qBE imgW (nd t (u : Int)) || qBE qDW (nd t (u : Int))) = false → outF t k = outF t (k + 1) := fun h => qS3 hk2 (by rw [← hu]; exact qUY h)
      clear hps hp
      repeat' ((conv => whnf);first|(with_reducible first|rfl|exact qAH|exact qAG)|exact True.intro|intro _|refine WA ?_ ?_|refine WF ?_|refine W1 rfl ?_ ?_|refine W2 rfl ?_ ?_|refine W3 rfl ?_ ?_|refine W4 ?_ ?_|refine W5 rfl ?_ ?_|refine W6 ?_ ?_|refine WN ?_|refine X1 (W1 rfl ?_ ?_)|refine X1 (W2 rfl ?_ ?_)|refine X2 (W7 rfl ?_ ?_)|refine X3 (W7 rfl ?_ ?_)|refine X4 (W7 rfl ?_ ?_)|refine X5 (W7 rfl ?_ ?_))
      all_goals (try (conv => whnf))
      all_goals (try first|exact obA|refine Ob.mk ?_)
      all_goals (try simp only [hml, Int.toNat_natCast, hgw1, hfu, hfw, hcnd, hins, hpos, Bool.not_true, Bool.and_false, Bool.false_eq_true, Bool.true_eq_false] at *)
      all_goals (try omega)
      all_goals (try (first | exact ⟨Nat.le_trans hnu.1 (by decide), by decide⟩ | exact Nat.le_trans hnu.1 (by decide)))
      all_goals (try (simp only [bytes3, List.length_singleton]; omega))
      all_goals (try (
       refine Rnd.mk ⟨k + 1, by omega, by omega, ?_⟩
       repeat' ((conv => whnf);first|(with_reducible first|rfl|exact qAH|exact qAG)|exact True.intro|intro _|refine WA ?_ ?_|refine WF ?_|refine W1 rfl ?_ ?_|refine W2 rfl ?_ ?_|refine W3 rfl ?_ ?_|refine W4 ?_ ?_|refine W5 rfl ?_ ?_|refine W6 ?_ ?_|refine WN ?_|refine X1 (W1 rfl ?_ ?_)|refine X1 (W2 rfl ?_ ?_)|refine X2 (W7 rfl ?_ ?_)|refine X3 (W7 rfl ?_ ?_)|refine X4 (W7 rfl ?_ ?_)|refine X5 (W7 rfl ?_ ?_))
       all_goals (try (conv => whnf))
       all_goals (try first|exact obA|refine Ob.mk ?_)
       all_goals (try (rw [E1 (by assumption)]))
       all_goals (try (rw [E2 (by assumption)]))
       all_goals (try (rw [E3 (by assumption)]))
       all_goals (try (rw [E5 (by assumption)]))
       done))
      all_goals trace_state
     ·have hinf : insG (fin t) u w = false := by rw [Bool.eq_false_iff]; exact hins
      have hml1 : List.take ((m : Int) - 1).toNat (natI ((stkF t k).take m)) = natI ((stkF t k).take (m - 1)) := by
       rw [show ((m : Int) - 1).toNat = m - 1 by omega]
       unfold natI
       rw [← List.map_take, List.take_take, show min (m - 1) m = m - 1 by omega]
      have hnx : m - 1 ≤ (stkF t k).length ∧ ∀ j, m - 1 ≤ j → j < (stkF t k).length → insG (fin t) u ((stkF t k).getD j 0) = false := ⟨by omega, fun j h1 h2 => by
       rcases Nat.eq_or_lt_of_le h1 with h3 | h3
       ·rw [← h3, ← hw]; exact hinf
       ·exact hm2 j (by omega) h2⟩
      clear hins
      repeat' ((conv => whnf);first|(with_reducible first|rfl|exact qAH|exact qAG)|exact True.intro|intro _|refine WA ?_ ?_|refine WF ?_|refine W1 rfl ?_ ?_|refine W2 rfl ?_ ?_|refine W3 rfl ?_ ?_|refine W4 ?_ ?_|refine W5 rfl ?_ ?_|refine W6 ?_ ?_|refine WN ?_|refine X1 (W1 rfl ?_ ?_)|refine X1 (W2 rfl ?_ ?_)|refine X2 (W7 rfl ?_ ?_)|refine X3 (W7 rfl ?_ ?_)|refine X4 (W7 rfl ?_ ?_)|refine X5 (W7 rfl ?_ ?_))
      all_goals (try (conv => whnf))
      all_goals (try first|exact obA|refine Ob.mk ?_)
      all_goals (try simp only [hml, Int.toNat_natCast, hgw1, hfu, hfw, hcnd, hinf, hpos, Bool.not_false, Bool.and_true, Bool.true_eq_false] at *)
      all_goals (try omega)
      all_goals (try (
       refine Rnd.mk ⟨m - 1, hnx, by omega, ?_⟩
       repeat' ((conv => whnf);first|(with_reducible first|rfl|exact qAH|exact qAG)|exact True.intro|intro _|refine WA ?_ ?_|refine WF ?_|refine W1 rfl ?_ ?_|refine W2 rfl ?_ ?_|refine W3 rfl ?_ ?_|refine W4 ?_ ?_|refine W5 rfl ?_ ?_|refine W6 ?_ ?_|refine WN ?_|refine X1 (W1 rfl ?_ ?_)|refine X1 (W2 rfl ?_ ?_)|refine X2 (W7 rfl ?_ ?_)|refine X3 (W7 rfl ?_ ?_)|refine X4 (W7 rfl ?_ ?_)|refine X5 (W7 rfl ?_ ?_))
       all_goals (try (conv => whnf))
       all_goals (try first|exact obA|refine Ob.mk ?_)
       all_goals (try (rw [hml1]))
       done))
      all_goals trace_state
  ·have : k = (fin t).L.length := by omega
   subst this
   have hE0 := qbL t
   repeat' ((conv => whnf);first|(with_reducible first|rfl|exact qAH|exact qAG)|exact True.intro|intro _|refine WA ?_ ?_|refine WF ?_|refine W1 rfl ?_ ?_|refine W2 rfl ?_ ?_|refine W3 rfl ?_ ?_|refine W4 ?_ ?_|refine W5 rfl ?_ ?_|refine W6 ?_ ?_|refine WN ?_|refine X1 (W1 rfl ?_ ?_)|refine X1 (W2 rfl ?_ ?_)|refine X2 (W7 rfl ?_ ?_)|refine X3 (W7 rfl ?_ ?_)|refine X4 (W7 rfl ?_ ?_)|refine X5 (W7 rfl ?_ ?_))
   all_goals (try (conv => whnf))
   all_goals (try first|exact obA|refine Ob.mk ?_)
   all_goals (try (exfalso; have h := of_decide_eq_true ‹decide (((fin t).L.length : Int) < ((natI (fin t).L).length : Int)) = true›; omega))
   refine LoopStop.mk (α := Nat) (fun i => [(85, .int .i64 i)]) (fun i => [(1, .own qAI (out2 t i))]) 140 (fun i => i ≤ t.length) (fun i => t.length - i) 0 (Nat.zero_le _) ?_ (fun i hi => ?_)
   ·repeat' ((conv => whnf);first|(with_reducible first|rfl|exact qAH|exact qAG)|exact True.intro|intro _|refine WA ?_ ?_|refine WF ?_|refine W1 rfl ?_ ?_|refine W2 rfl ?_ ?_|refine W3 rfl ?_ ?_|refine W4 ?_ ?_|refine W5 rfl ?_ ?_|refine W6 ?_ ?_|refine WN ?_|refine X1 (W1 rfl ?_ ?_)|refine X1 (W2 rfl ?_ ?_)|refine X2 (W7 rfl ?_ ?_)|refine X3 (W7 rfl ?_ ?_)|refine X4 (W7 rfl ?_ ?_)|refine X5 (W7 rfl ?_ ?_))
    all_goals (try (conv => whnf))
    all_goals (try first|exact obA|refine Ob.mk ?_)
    all_goals (try rfl)
    all_goals (try (rw [hE0]))
    all_goals trace_state
   ·clear hE0
    have ho2 := qEM t i
    by_cases hi2 : i < t.length
    ·have hn := qCD (qIM ht (i : Int) ⟨by omega, by omega⟩)
     have hf := qK8 (t := t) (by omega) (getV (nd t i).2.2.2.1 qCT)
     have hnf := qCD (qIM ht _ hf)
     have hsg : ∀ dd, ((out2 t i).set i (firstT t (getV (t.getD i qAC.dflt).2.2.2.1 [102, 111, 114, 109]))).getD i dd = firstT t (getV (t.getD i qAC.dflt).2.2.2.1 [102, 111, 114, 109]) := fun dd => by
      rw [qFL (by rw [List.length_set, ho2]; exact hi2) dd 0, qFI _ _ _ _ (by rw [ho2]; exact hi2), if_pos rfl]
     have E1 : ((nd t (i : Int)).2.2.2.1.any (hitN qCT) && qBE qDW (nd t (i : Int))) = true → (!qBE qCT (nd t (firstT t (getV (nd t i).2.2.2.1 qCT)))) = true → ((out2 t i).set i (firstT t (getV (t.getD i qAC.dflt).2.2.2.1 [102, 111, 114, 109]))).set i 0 = out2 t (i + 1) := fun h1 h2 => by
      rw [List.set_set]
      exact qL4 hi2 (qaD (by rw [Bool.and_comm]; exact h1) (by simpa using h2)).symm
     have E2 : ((nd t (i : Int)).2.2.2.1.any (hitN qCT) && qBE qDW (nd t (i : Int))) = true → (!qBE qCT (nd t (firstT t (getV (nd t i).2.2.2.1 qCT)))) = false → (out2 t i).set i (firstT t (getV (t.getD i qAC.dflt).2.2.2.1 [102, 111, 114, 109])) = out2 t (i + 1) := fun h1 h2 => by
      exact qL4 hi2 (qaF (by rw [Bool.and_comm]; exact h1) (by simpa using h2)).symm
     have E3 : ((nd t (i : Int)).2.2.2.1.any (hitN qCT) && qBE qDW (nd t (i : Int))) = false → out2 t i = out2 t (i + 1) := fun h1 => by
      exact qU3 hi2 (qW2 (by rw [Bool.and_comm]; exact h1))
     have hsg1 := hsg qAI.dflt
     repeat' ((conv => whnf);first|(with_reducible first|rfl|exact qAH|exact qAG)|exact True.intro|intro _|refine WA ?_ ?_|refine WF ?_|refine W1 rfl ?_ ?_|refine W2 rfl ?_ ?_|refine W3 rfl ?_ ?_|refine W4 ?_ ?_|refine W5 rfl ?_ ?_|refine W6 ?_ ?_|refine WN ?_|refine X1 (W1 rfl ?_ ?_)|refine X1 (W2 rfl ?_ ?_)|refine X2 (W7 rfl ?_ ?_)|refine X3 (W7 rfl ?_ ?_)|refine X4 (W7 rfl ?_ ?_)|refine X5 (W7 rfl ?_ ?_))
     all_goals (try (conv => whnf))
     all_goals (try first|exact obA|refine Ob.mk ?_)
     all_goals (try simp only [Int.toNat_natCast, hsg1, List.length_set, ho2] at *)
     all_goals (try omega)
     all_goals (try (exfalso; have h := of_decide_eq_false ‹decide ((i : Int) < (t.length : Int)) = false›; omega))
     all_goals (try (first | exact ⟨Nat.le_trans hnf.1 (by decide), by decide⟩ | exact ⟨Nat.le_trans hn.1 (by decide), by decide⟩ | exact Nat.le_trans hn.1 (by decide) | exact Nat.le_trans hn.2.1 (by decide) | exact hf))
     all_goals (try (
      refine Rnd.mk ⟨i + 1, by omega, by omega, ?_⟩
      repeat' ((conv => whnf);first|(with_reducible first|rfl|exact qAH|exact qAG)|exact True.intro|intro _|refine WA ?_ ?_|refine WF ?_|refine W1 rfl ?_ ?_|refine W2 rfl ?_ ?_|refine W3 rfl ?_ ?_|refine W4 ?_ ?_|refine W5 rfl ?_ ?_|refine W6 ?_ ?_|refine WN ?_|refine X1 (W1 rfl ?_ ?_)|refine X1 (W2 rfl ?_ ?_)|refine X2 (W7 rfl ?_ ?_)|refine X3 (W7 rfl ?_ ?_)|refine X4 (W7 rfl ?_ ?_)|refine X5 (W7 rfl ?_ ?_))
      all_goals (try (conv => whnf))
      all_goals (try first|exact obA|refine Ob.mk ?_)
      all_goals (try (rw [E1 (by assumption) (by assumption)]))
      all_goals (try (rw [E2 (by assumption) (by assumption)]))
      all_goals (try (rw [E3 (by assumption)]))
      done))
     all_goals trace_state
    ·have : i = t.length := by omega
     subst this
     have hE := qYN t
     repeat' ((conv => whnf);first|(with_reducible first|rfl|exact qAH|exact qAG)|exact True.intro|intro _|refine WA ?_ ?_|refine WF ?_|refine W1 rfl ?_ ?_|refine W2 rfl ?_ ?_|refine W3 rfl ?_ ?_|refine W4 ?_ ?_|refine W5 rfl ?_ ?_|refine W6 ?_ ?_|refine WN ?_|refine X1 (W1 rfl ?_ ?_)|refine X1 (W2 rfl ?_ ?_)|refine X2 (W7 rfl ?_ ?_)|refine X3 (W7 rfl ?_ ?_)|refine X4 (W7 rfl ?_ ?_)|refine X5 (W7 rfl ?_ ?_))
     all_goals (try (conv => whnf))
     all_goals (try first|exact obA|refine Ob.mk ?_)
     all_goals (try (exfalso; have h := of_decide_eq_true ‹decide ((t.length : Int) < (t.length : Int)) = true›; omega))
     all_goals (try (rw [hE]))
     all_goals trace_state
end Go.Vc

namespace Go.Vc
open Go.Proofs
open Go.Vc.W
set_option maxRecDepth 10000
set_option maxHeartbeats 4000000
theorem qW3 {t : List qAF} {m n : Int} (h : qBG t m = true) (hm : m ≤ n) : qBG t n = true := by
 unfold qBG at *
 rw [Bool.and_eq_true, decide_eq_true_eq] at *
 exact ⟨by omega, h.2⟩
end Go.Vc

namespace Go.Vc
open Go.Proofs
open Go.Vc.W
set_option maxRecDepth 10000
set_option maxHeartbeats 4000000
def qVQ (y : St) (t : List qAF) (v : List UInt8) : Int := if v = [] then 0 else ((natI y.L).find? fun i => qHD [] idT v (nd t i)).getD 0
def baseY (y : St) (t : List qAF) (i : Nat) : Int := if (qBE qDW (nd t (i : Int)) || qBE imgW (nd t (i : Int))) = true then qM8 ((y.L.filter (insB y i)).filter (fB t)) else 0
def attrY (y : St) (t : List qAF) (i : Nat) : Int := if qBE qCT (nd t (qVQ y t (getV (nd t (i : Int)).2.2.2.1 qCT))) = true then qVQ y t (getV (nd t (i : Int)).2.2.2.1 qCT) else 0
def oneY (y : St) (t : List qAF) (i : Nat) : Int := if (qBE qDW (nd t (i : Int)) && (nd t (i : Int)).2.2.2.1.any (hitN qCT)) = true then attrY y t i else baseY y t i
theorem own_eq {t : List qAF} {f : Nat} {l : List Int} (h : (finF t f).map (fun y => (List.range t.length).map (oneY y t)) = some l) : ownT t = l := by
 cases e : finF t f with
 | none => rw [e] at h; cases h
 | some y =>
  rw [e] at h
  have ey := qVR e
  have h2 : (List.range t.length).map (oneY y t) = l := Option.some.inj h
  rw [← h2]
  unfold ownT
  refine List.map_congr_left fun u _ => ?_
  rw [← ey]
  unfold oneT oneY qYH attrY qDR baseY firstT qOS qC1 qVQ
  rw [qI6]
theorem ZO_own : ownT ZO_T = [0, 0, 1, 0, 1, 0, 0] := own_eq (f := 60) (by decide +kernel)
theorem ZO_ok : qBG ZO_T 45 = true := by decide +kernel
instance ZO_fragX : Fn BB 59 [.str ([60, 102, 111, 114, 109, 32, 105, 100, 61, 102, 62, 60, 105, 110, 112, 117, 116, 62, 60, 112, 62, 60, 47, 112, 62, 60, 47, 102, 111, 114, 109, 62, 60].append [105, 110, 112, 117, 116, 32, 102, 111, 114, 109, 61, 102, 62, 60, 105, 110, 112, 117, 116, 32, 102, 111, 114, 109, 61, 103, 62, 60, 105, 110, 112, 117, 116, 62]), .str [100, 105, 118]] True (.agg [.rd qAC ZO_T]) := ⟨ZO_frag.call, ZO_frag.ok⟩
instance w40Awake : Fn BB 31 [] True (.bool true) := by
 refine Fn.intro (N := 22) [0, 1] [] Tryz.call31 Tryz.func31 rfl rfl (by kernel_rfl) (fun hpre => ?_)
 repeat' ((conv => whnf);first|(with_reducible first|rfl|exact qAH|exact qAG)|exact True.intro|intro _|refine WA ?_ ?_|refine WF ?_|refine W1 rfl ?_ ?_|refine W2 rfl ?_ ?_|refine W3 rfl ?_ ?_|refine W4 ?_ ?_|refine W5 rfl ?_ ?_|refine W6 ?_ ?_|refine WN ?_|refine X1 (W1 rfl ?_ ?_)|refine X1 (W2 rfl ?_ ?_)|refine X2 (W7 rfl ?_ ?_)|refine X3 (W7 rfl ?_ ?_)|refine X4 (W7 rfl ?_ ?_)|refine X5 (W7 rfl ?_ ?_))
 all_goals (try (conv => whnf))
 all_goals (try first|exact obA|refine Ob.mk ?_)
 all_goals (first | exact ZO_ok | (rw [ZO_own]; decide) | exact ⟨by decide, by decide⟩ | decide | trace_state)
instance w40Tells (t : List qAF) (k s : Int) (nn : List UInt8) (at_ : List qAD) (d : List UInt8) (up : Int) (kids : List Int) : Fn BB 6 [.agg [.rd qAC t], .agg [.int .i64 k, .int .i64 s, .str nn, .rd qAT at_, .str d, .int .i64 up, .rd qAI kids]] True (.bool true) := by
 refine Fn.intro (N := 29) [0, 1, 2, 3, 4, 12] [(3, [1, 1, 1, 1, 1, 1, 1, 1, 1, 3, 3, 3, 3, 3, 3, 3])] Tryz.call6 Tryz.func6 rfl rfl (by kernel_rfl) (fun hpre => ?_)
 have hp : (!qBG t 30 || !qIN (k, s, nn, at_, d, up, kids)) = false → qBG t 45 = true ∧ nn.length ≤ 100000 := fun h => by
  simp only [Bool.or_eq_false_iff, Bool.not_eq_false'] at h
  exact ⟨qW3 h.1 (by decide), Nat.le_trans (qCD h.2).1 (by decide)⟩
 repeat' ((conv => whnf);first|(with_reducible first|rfl|exact qAH|exact qAG)|exact True.intro|intro _|refine WA ?_ ?_|refine WF ?_|refine W1 rfl ?_ ?_|refine W2 rfl ?_ ?_|refine W3 rfl ?_ ?_|refine W4 ?_ ?_|refine W5 rfl ?_ ?_|refine W6 ?_ ?_|refine WN ?_|refine X1 (W1 rfl ?_ ?_)|refine X1 (W2 rfl ?_ ?_)|refine X2 (W7 rfl ?_ ?_)|refine X3 (W7 rfl ?_ ?_)|refine X4 (W7 rfl ?_ ?_)|refine X5 (W7 rfl ?_ ?_))
 all_goals (try (conv => whnf))
 all_goals (try first|exact obA|refine Ob.mk ?_)
 all_goals (first | exact (hp ‹_›).1 | exact (hp ‹(!qBG t 30 || !qIN (k, s, nn, at_, d, up, kids)) = false›).2 | simp)
end Go.Vc

namespace Go.Vc
open Go.Proofs
set_option maxRecDepth 100000
theorem qaX (W : World) (hsh : W.ShapedOpen Tryz.prog) : BB.G fun b => W.heap[b]? := by
 obtain ⟨m, hm⟩ := Go.Proofs.cell_of_shapedOpen_int (g := 0) (zero := #[.int .i64 0]) (t := 3) hsh (of_decide_eq_true (by kernel_rfl)) (by kernel_rfl) rfl (by kernel_rfl) (by kernel_rfl) Tryz.underlying3
 have hm' : W.cell? ⟨0, 0, none⟩ = some (.int .i64 m) := hm
 unfold World.cell? at hm'
 show ∃ c T fr m, W.heap[0]? = some (.cells c T fr) ∧ c[0]? = some (.int .i64 m)
 cases h : W.heap[0]? with
 | none => simp [h] at hm'
 | some o =>
  cases o with
  | cells c T fr => exact ⟨c, T, fr, m, rfl, by simpa [h] using hm'⟩
  | _ => simp [h] at hm'
end Go.Vc
