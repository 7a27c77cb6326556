/- A part of the proof: lemmas and walks that the last text of the claim joins; no condition. -/
import Derived.Test.YtjnmepijcndcpaaGreatReferTellsTG
import Derived.Shelf.Spec.SlicesGrow
import Derived.Laws.AppendOwn
set_option linter.unusedVariables false
set_option linter.unusedSimpArgs false
set_option maxHeartbeats 8000000
namespace Go.Vc
open Go.Proofs
open Go.Vc.W
set_option maxRecDepth 10000
set_option maxHeartbeats 4000000
theorem u8b (c : UInt8) (k : Nat) (hk : k < 256) : ((c.toNat : Int) == (k : Int)) = (c == UInt8.ofNat k) := by
 rw [Bool.eq_iff_iff,beq_iff_eq,beq_iff_eq]
 constructor
 ·intro h;apply UInt8.toNat_inj.1;rw [UInt8.toNat_ofNat'];omega
 ·rintro rfl;rw [UInt8.toNat_ofNat'];omega
def qK7 (s p : List UInt8) : Bool := decide ((s.length : Int) ≥ (p.length : Int)) && s.take p.length == p
instance eHPl (s p : List UInt8) : Fn BB 257 [.str s,.str p] True (.bool (qK7 s p)) := by
 refine Fn.intro (N := 18) [0,1,4] [] Tryz.call257 Tryz.func257 rfl rfl (by kernel_rfl) (fun hpre => ?_)
 repeat' ((conv => whnf);first|(with_reducible first|rfl|exact qAE|exact qAD)|exact True.intro|intro _|refine WA ?_ ?_|refine WF ?_|refine W1 rfl ?_ ?_|refine W2 rfl ?_ ?_|refine W3 rfl ?_ ?_|refine W4 ?_ ?_|refine W5 rfl ?_ ?_|refine W6 ?_ ?_|refine WN ?_|refine X1 (W1 rfl ?_ ?_)|refine X1 (W2 rfl ?_ ?_)|refine X2 (W7 rfl ?_ ?_)|refine X3 (W7 rfl ?_ ?_)|refine X4 (W7 rfl ?_ ?_)|refine X5 (W7 rfl ?_ ?_))
 all_goals (try (conv => whnf))
 all_goals (try first|exact obA|refine Ob.mk ?_)
 all_goals (try simp only [ZA,ZB,ZC,ZD,ZE,ZF,ZG,ZH,ZI,ZJ,ZK,ZL,ZM,ZN,ZO,Int.toNat_natCast,UInt8.ofNat_toNat,cast_eq] at *)
 all_goals rfl
theorem qZ5 {s p : List UInt8} (h : qK7 s p = true) : p.length ≤ s.length := by
 unfold qK7 at h
 have := of_decide_eq_true (Bool.and_eq_true_iff.1 h).1
 omega
instance lCPl (s p : List UInt8) : Fn BB 210 [.str s,.str p] True (.tup [.str (bif qK7 s p then s.drop p.length else s),.bool (qK7 s p)]) := by
 refine Fn.intro (N := 15) [0,1,4,5,9] [] Tryz.call210 Tryz.func210 rfl rfl (by kernel_rfl) (fun hpre => ?_)
 have := fun h => qZ5 (s := s) (p := p) h
 cases hh : qK7 s p
 ·repeat' ((conv => whnf);first|(with_reducible first|rfl|exact qAE|exact qAD)|exact True.intro|intro _|refine WA ?_ ?_|refine WF ?_|refine W1 rfl ?_ ?_|refine W2 rfl ?_ ?_|refine W3 rfl ?_ ?_|refine W4 ?_ ?_|refine W5 rfl ?_ ?_|refine W6 ?_ ?_|refine WN ?_|refine X1 (W1 rfl ?_ ?_)|refine X1 (W2 rfl ?_ ?_)|refine X2 (W7 rfl ?_ ?_)|refine X3 (W7 rfl ?_ ?_)|refine X4 (W7 rfl ?_ ?_)|refine X5 (W7 rfl ?_ ?_))
  all_goals (try (conv => whnf))
  all_goals (try first|exact obA|refine Ob.mk ?_)
  all_goals (try (exfalso;have h : (!qK7 s p) = false := ‹_›;rw [hh] at h;cases h))
  all_goals (try rfl)
 ·have := this hh
  repeat' ((conv => whnf);first|(with_reducible first|rfl|exact qAE|exact qAD)|exact True.intro|intro _|refine WA ?_ ?_|refine WF ?_|refine W1 rfl ?_ ?_|refine W2 rfl ?_ ?_|refine W3 rfl ?_ ?_|refine W4 ?_ ?_|refine W5 rfl ?_ ?_|refine W6 ?_ ?_|refine WN ?_|refine X1 (W1 rfl ?_ ?_)|refine X1 (W2 rfl ?_ ?_)|refine X2 (W7 rfl ?_ ?_)|refine X3 (W7 rfl ?_ ?_)|refine X4 (W7 rfl ?_ ?_)|refine X5 (W7 rfl ?_ ?_))
  all_goals (try (conv => whnf))
  all_goals (try first|exact obA|refine Ob.mk ?_)
  all_goals (try (exfalso;have h : (!qK7 s p) = true := ‹_›;rw [hh] at h;cases h))
  all_goals (try rfl)
instance lCP (s p : List UInt8) : Fn BB 180 [.str s,.str p] True (.tup [.str (bif qK7 s p then s.drop p.length else s),.bool (qK7 s p)]) := by
 refine Fn.intro (N := 11) [0,1,4,5] [] Tryz.call180 Tryz.func180 rfl rfl (by kernel_rfl) (fun hpre => ?_)
 all_goals exact vcA
instance lcut (s p : List UInt8) : Fn BB 148 [.str s,.str p] True (.tup [.str (bif qK7 s p then s.drop p.length else []),.bool (qK7 s p)]) := by
 refine Fn.intro (N := 17) [0,1,4,5,6,7,15] [] Tryz.call148 Tryz.func148 rfl rfl (by kernel_rfl) (fun hpre => ?_)
 cases hh : qK7 s p
 ·repeat' ((conv => whnf);first|(with_reducible first|rfl|exact qAE|exact qAD)|exact True.intro|intro _|refine WA ?_ ?_|refine WF ?_|refine W1 rfl ?_ ?_|refine W2 rfl ?_ ?_|refine W3 rfl ?_ ?_|refine W4 ?_ ?_|refine W5 rfl ?_ ?_|refine W6 ?_ ?_|refine WN ?_|refine X1 (W1 rfl ?_ ?_)|refine X1 (W2 rfl ?_ ?_)|refine X2 (W7 rfl ?_ ?_)|refine X3 (W7 rfl ?_ ?_)|refine X4 (W7 rfl ?_ ?_)|refine X5 (W7 rfl ?_ ?_))
  all_goals (try (conv => whnf))
  all_goals (try first|exact obA|refine Ob.mk ?_)
  all_goals (try (exfalso;have h : (!qK7 s p) = false := ‹_›;rw [hh] at h;cases h))
  all_goals (try rfl)
 ·repeat' ((conv => whnf);first|(with_reducible first|rfl|exact qAE|exact qAD)|exact True.intro|intro _|refine WA ?_ ?_|refine WF ?_|refine W1 rfl ?_ ?_|refine W2 rfl ?_ ?_|refine W3 rfl ?_ ?_|refine W4 ?_ ?_|refine W5 rfl ?_ ?_|refine W6 ?_ ?_|refine WN ?_|refine X1 (W1 rfl ?_ ?_)|refine X1 (W2 rfl ?_ ?_)|refine X2 (W7 rfl ?_ ?_)|refine X3 (W7 rfl ?_ ?_)|refine X4 (W7 rfl ?_ ?_)|refine X5 (W7 rfl ?_ ?_))
  all_goals (try (conv => whnf))
  all_goals (try first|exact obA|refine Ob.mk ?_)
  all_goals (try (exfalso;have h : (!qK7 s p) = true := ‹_›;rw [hh] at h;cases h))
  all_goals (try rfl)
  all_goals (rw [hh];rfl)
def frL (s : List UInt8) : List UInt8 × Bool := (bif qK7 s [35] then s.drop 1 else [],qK7 s [35])
instance lFr (s : List UInt8) : Fn BB 103 [.str s] True (.tup [.str (frL s).1,.bool (frL s).2]) := by
 refine Fn.intro (N := 8) [0,2,3] [] Tryz.call103 Tryz.func103 rfl rfl (by kernel_rfl) (fun hpre => ?_)
 all_goals exact vcA
theorem qdT (c : UInt8) (r : List UInt8) : qK7 (c :: r) [35] = (c == 35) := by
 unfold qK7
 have : decide (((c :: r).length : Int) ≥ (([35] : List UInt8).length : Int)) = true := by simp;omega
 rw [this]
 simp
instance lRFr (s : List UInt8) : Fn BB 105 [.str s] True (.tup [.str (frL s).1,.bool (frL s).2]) := by
  refine Fn.intro (N := 13) [0,2,3,10] [] Tryz.call105 Tryz.func105 rfl rfl (by kernel_rfl) (fun hpre => ?_)
  cases s with
  | nil =>
    repeat' ((conv => whnf);first|(with_reducible first|rfl|exact qAE|exact qAD)|exact True.intro|intro _|refine WA ?_ ?_|refine WF ?_|refine W1 rfl ?_ ?_|refine W2 rfl ?_ ?_|refine W3 rfl ?_ ?_|refine W4 ?_ ?_|refine W5 rfl ?_ ?_|refine W6 ?_ ?_|refine WN ?_|refine X1 (W1 rfl ?_ ?_)|refine X1 (W2 rfl ?_ ?_)|refine X2 (W7 rfl ?_ ?_)|refine X3 (W7 rfl ?_ ?_)|refine X4 (W7 rfl ?_ ?_)|refine X5 (W7 rfl ?_ ?_))
    all_goals (try (conv => whnf))
    all_goals (try first|exact obA|refine Ob.mk ?_)
    all_goals (first | (exfalso;have h : (([] : List UInt8) == []) = false := ‹_›;cases h) | (exfalso;have h : ((([] : List UInt8) == []) || _) = false := ‹_›;cases h) | rfl)
  | cons c r =>
    have hc : ((c.toNat : Int) == 35) = (c == 35) := u8b c 35 (by decide)
    have he := qdT c r
    repeat' ((conv => whnf);first|(with_reducible first|rfl|exact qAE|exact qAD)|exact True.intro|intro _|refine WA ?_ ?_|refine WF ?_|refine W1 rfl ?_ ?_|refine W2 rfl ?_ ?_|refine W3 rfl ?_ ?_|refine W4 ?_ ?_|refine W5 rfl ?_ ?_|refine W6 ?_ ?_|refine WN ?_|refine X1 (W1 rfl ?_ ?_)|refine X1 (W2 rfl ?_ ?_)|refine X2 (W7 rfl ?_ ?_)|refine X3 (W7 rfl ?_ ?_)|refine X4 (W7 rfl ?_ ?_)|refine X5 (W7 rfl ?_ ?_))
    all_goals (try (conv => whnf))
    all_goals (try first|exact obA|refine Ob.mk ?_)
    all_goals (try (constructor <;> simp <;> omega))
    all_goals (first
      | (have h := ‹(c :: r == [] || (((c :: r).getD (Int.toNat 0) 0).toNat : Int) != 35) = true›
         have h2 : (c == 35) = false := by
           have h3 : (((c :: r : List UInt8) == []) || !((c.toNat : Int) == 35)) = true := h
           rw [hc] at h3
           simpa using h3
         unfold frL
         rw [he,h2]
         try rfl)
      | (have h := ‹(c :: r == [] || (((c :: r).getD (Int.toNat 0) 0).toNat : Int) != 35) = false›
         have h2 : (c == 35) = true := by
           have h3 : (((c :: r : List UInt8) == []) || !((c.toNat : Int) == 35)) = false := h
           rw [hc] at h3
           simpa using h3
         unfold frL
         rw [he,h2]
         try rfl))
abbrev qL9 : List UInt8 := [102,111,114]
abbrev qT5 : List UInt8 := [108,97,98,101,108]
abbrev qGE : List UInt8 := [108,105,115,116]
abbrev qDY : List UInt8 := [102,111,114,109]
abbrev qWV : List UInt8 := [97,114,105,97,45,97,99,116,105,118,101,100,101,115,99,101,110,100,97,110,116]
abbrev qWW : List UInt8 := [104,101,97,100,101,114,115]
abbrev qOY : List UInt8 := [97,114,105,97,45,108,97,98,101,108,108,101,100,98,121]
abbrev qPX : List UInt8 := [97,114,105,97,45,100,101,115,99,114,105,98,101,100,98,121]
abbrev qKP : List UInt8 := [97,114,105,97,45,99,111,110,116,114,111,108,115]
abbrev qPE : List UInt8 := [97,114,105,97,45,111,119,110,115]
abbrev qPB : List UInt8 := [117,115,101,109,97,112]
abbrev qIJ : List UInt8 := [104,114,101,102]
abbrev qeF : List UInt8 := [100,97,116,97,108,105,115,116]
abbrev qPL : List UInt8 := [109,97,112]
def qJK (k s : Int) (nn nm : List UInt8) : Int :=
 if qF6 k s nn nm = false then 0 else if nm = qL9 then (if nn = qT5 then 1 else 2)
 else if nm = qGE ∨ nm = qDY ∨ nm = qWV then 1
 else if nm = qWW ∨ nm = qOY ∨ nm = qPX ∨ nm = qKP ∨ nm = qPE then 2
 else if nm = qPB ∨ nm = qIJ then 3 else 0
theorem qSS {k s : Int} {nn nm : List UInt8} (h : qF6 k s nn nm = false) : qJK k s nn nm = 0 := by rw [qJK,if_pos h]
theorem qW0 {k s : Int} {nn nm : List UInt8} (h : ¬ k = 1) : qJK k s nn nm = 0 := qSS (qS1 h)
theorem qTF {k s : Int} {nn nm : List UInt8} (h : qF6 k s nn nm = true) : qJK k s nn nm = (if nm = qL9 then (if nn = qT5 then 1 else 2)
 else if nm = qGE ∨ nm = qDY ∨ nm = qWV then 1
 else if nm = qWW ∨ nm = qOY ∨ nm = qPX ∨ nm = qKP ∨ nm = qPE then 2
 else if nm = qPB ∨ nm = qIJ then 3 else 0) := by rw [qJK,if_neg (by rw [h];decide)]
theorem qaN {k s : Int} {nn : List UInt8} (h : qF6 k s nn qL9 = true) : s = 0 := by
 by_cases hk : k = 1
 ·subst hk
  rw [qXL (o := [108,97,98,101,108,32,111,117,116,112,117,116]) rfl] at h
  exact beq_iff_eq.1 (Bool.and_eq_true_iff.1 h).1
 ·rw [qS1 hk] at h;cases h
instance rKind (k s : Int) (nn : List UInt8) (at_ : List qAK.T) (dt : List UInt8) (up : Int) (kids : List Int) (nm : List UInt8) :
    Fn BB 46 [.agg [.int .i64 k,.int .i64 s,.str nn,.rd qAK at_,.str dt,.int .i64 up,.rd qAH kids],.str nm] (nn.length ≤ 1000) (.int .i64 (qJK k s nn nm)) := by
  refine Fn.intro (N := 33) [0,1,2,4,13,14,15,19,20,24,30] [] Tryz.call46 Tryz.func46 rfl rfl (by kernel_rfl) (fun hpre => ?_)
  repeat' ((conv => whnf);first|(with_reducible first|rfl|exact qAE|exact qAD)|exact True.intro|intro _|refine WA ?_ ?_|refine WF ?_|refine W1 rfl ?_ ?_|refine W2 rfl ?_ ?_|refine W3 rfl ?_ ?_|refine W4 ?_ ?_|refine W5 rfl ?_ ?_|refine W6 ?_ ?_|refine WN ?_|refine X1 (W1 rfl ?_ ?_)|refine X1 (W2 rfl ?_ ?_)|refine X2 (W7 rfl ?_ ?_)|refine X3 (W7 rfl ?_ ?_)|refine X4 (W7 rfl ?_ ?_)|refine X5 (W7 rfl ?_ ?_))
  all_goals (try (conv => whnf))
  all_goals (try first|exact obA|refine Ob.mk ?_)
  all_goals (try simp only [ZA,ZB,ZC,ZD,ZE,ZF,ZG,ZH,ZI,ZJ,ZK,ZL,ZM,ZN,ZO,Bool.and_eq_false_iff,Bool.or_eq_false_iff,ge_iff_le,gt_iff_lt,Int.toNat_natCast,UInt8.ofNat_toNat,cast_eq] at *)
  all_goals (try contradiction)
  all_goals (try (have h : ¬k = 1 ∨ qF6 k s nn nm = false := by assumption
                  exact (h.elim qW0 qSS).symm))
  all_goals (try (have hf : k = 1 ∧ qF6 k s nn nm = true := by assumption
                  rw [qTF hf.2];simp [*];done))
instance rIs (k s : Int) (nn : List UInt8) (at_ : List qAK.T) (dt : List UInt8) (up : Int) (kids : List Int) (nm : List UInt8) :
  Fn BB 101 [.agg [.int .i64 k,.int .i64 s,.str nn,.rd qAK at_,.str dt,.int .i64 up,.rd qAH kids],.str nm] True (.bool (k == 1 && s == 0 && nn == nm)) := by
 refine Fn.intro (N := 19) [0,1,2,4] [] Tryz.call101 Tryz.func101 rfl rfl (by kernel_rfl) (fun hpre => ?_)
 repeat' ((conv => whnf);first|(with_reducible first|rfl|exact qAE|exact qAD)|exact True.intro|intro _|refine WA ?_ ?_|refine WF ?_|refine W1 rfl ?_ ?_|refine W2 rfl ?_ ?_|refine W3 rfl ?_ ?_|refine W4 ?_ ?_|refine W5 rfl ?_ ?_|refine W6 ?_ ?_|refine WN ?_|refine X1 (W1 rfl ?_ ?_)|refine X1 (W2 rfl ?_ ?_)|refine X2 (W7 rfl ?_ ?_)|refine X3 (W7 rfl ?_ ?_)|refine X4 (W7 rfl ?_ ?_)|refine X5 (W7 rfl ?_ ?_))
 all_goals (try (conv => whnf))
 all_goals (try first|exact obA|refine Ob.mk ?_)
 all_goals (try rfl)
 all_goals trace_state
abbrev qcQ : List UInt8 := [97,114,105,97,45,108,97,98,101,108,108,101,100,98,121,32,97,114,105,97,45,100,101,115,99,114,105,98,101,100,98,121,32,97,114,105,97,45,99,111,110,116,114,111,108,115,32,97,114,105,97,45,111,119,110,115]
theorem qb8 (nm : List UInt8) : (spl qcQ).contains nm = true ↔ (nm = qOY ∨ nm = qPX ∨ nm = qKP ∨ nm = qPE) := by
 rw [show spl qcQ = [qOY,qPX,qKP,qPE] from by decide +kernel]
 simp
instance rRKind (k s : Int) (nn : List UInt8) (at_ : List qAK.T) (dt : List UInt8) (up : Int) (kids : List Int) (nm : List UInt8) :
    Fn BB 47 [.agg [.int .i64 k,.int .i64 s,.str nn,.rd qAK at_,.str dt,.int .i64 up,.rd qAH kids],.str nm] (nn.length ≤ 1000) (.int .i64 (qJK k s nn nm)) := by
  refine Fn.intro (N := 48) [0,1,2,4,13,31,41,47] [] Tryz.call47 Tryz.func47 rfl rfl (by kernel_rfl) (fun hpre => ?_)
  have hma : (spl qcQ).contains nm = decide (nm = qOY ∨ nm = qPX ∨ nm = qKP ∨ nm = qPE) := by
    rw [Bool.eq_iff_iff,qb8,decide_eq_true_eq]
  repeat' ((conv => whnf);first|(with_reducible first|rfl|exact qAE|exact qAD)|exact True.intro|intro _|refine WA ?_ ?_|refine WF ?_|refine W1 rfl ?_ ?_|refine W2 rfl ?_ ?_|refine W3 rfl ?_ ?_|refine W4 ?_ ?_|refine W5 rfl ?_ ?_|refine W6 ?_ ?_|refine WN ?_|refine X1 (W1 rfl ?_ ?_)|refine X1 (W2 rfl ?_ ?_)|refine X2 (W7 rfl ?_ ?_)|refine X3 (W7 rfl ?_ ?_)|refine X4 (W7 rfl ?_ ?_)|refine X5 (W7 rfl ?_ ?_))
  all_goals (try (conv => whnf))
  all_goals (try first|exact obA|refine Ob.mk ?_)
  all_goals (try simp only [ZA,ZB,ZC,ZD,ZE,ZF,ZG,ZH,ZI,ZJ,ZK,ZL,ZM,ZN,ZO,Bool.and_eq_false_iff,Bool.or_eq_false_iff,ge_iff_le,gt_iff_lt,Int.toNat_natCast,UInt8.ofNat_toNat,cast_eq] at *)
  all_goals (try contradiction)
  all_goals (try (have h : ¬k = 1 ∨ qF6 k s nn nm = false := by assumption
                  exact (h.elim qW0 qSS).symm))
  all_goals (
    obtain ⟨hk,hf⟩ : k = 1 ∧ qF6 k s nn nm = true := by assumption
    subst hk
    have hs : nm = qL9 → s = 0 := fun e => by subst e;exact qaN hf
    rw [qTF hf]
    clear hma hf
    try simp only [← Bool.not_eq_true,qb8] at *
    by_cases h1 : nm = qL9
    · have h2 := hs h1
      subst h1
      simp_all
    · (try simp_all) <;> (try (intro p1 p2 p3;rcases (by assumption : (nm = qGE ∨ nm = qDY) ∨ nm = qWV) with (h | h) | h <;> contradiction)))
  all_goals trace_state
def qFP (kind : Int) (v : List UInt8) : List (List UInt8) :=
 if kind = 2 then spl v else if kind = 1 then (if v = [] then [] else [v]) else if kind = 3 then (if (frL v).1 = [] then [] else [(frL v).1]) else []
theorem qtI {v : List UInt8} (h : (frL v).2 = false) : (frL v).1 = [] := by
 unfold frL at h ⊢
 show (bif qK7 v [35] then _ else _) = _
 rw [show qK7 v [35] = false from h];rfl
instance rWords (kind : Int) (v : List UInt8) : Fn BB 49 [.int .i64 kind,.str v] (v.length ≤ 100000) (.rd .str (qFP kind v)) := by
 refine Fn.intro (N := 23) [0,1,4,5,6,8,12,20] [] Tryz.call49 Tryz.func49 rfl rfl (by kernel_rfl) (fun hpre => ?_)
 repeat' ((conv => whnf);first|(with_reducible first|rfl|exact qAE|exact qAD)|exact True.intro|intro _|refine WA ?_ ?_|refine WF ?_|refine W1 rfl ?_ ?_|refine W2 rfl ?_ ?_|refine W3 rfl ?_ ?_|refine W4 ?_ ?_|refine W5 rfl ?_ ?_|refine W6 ?_ ?_|refine WN ?_|refine X1 (W1 rfl ?_ ?_)|refine X1 (W2 rfl ?_ ?_)|refine X2 (W7 rfl ?_ ?_)|refine X3 (W7 rfl ?_ ?_)|refine X4 (W7 rfl ?_ ?_)|refine X5 (W7 rfl ?_ ?_))
 all_goals (try (conv => whnf))
 all_goals (try first|exact obA|refine Ob.mk ?_)
 all_goals (try simp only [ZA,ZB,ZC,ZD,ZE,ZF,ZG,ZH,ZI,ZJ,ZK,ZL,ZM,ZN,ZO,Bool.and_eq_false_iff,Bool.or_eq_false_iff,ge_iff_le,gt_iff_lt,Int.toNat_natCast,UInt8.ofNat_toNat,cast_eq] at *)
 all_goals (first | (simp [qFP, *];done) | (show SV.rd Ty.str _ = _;simp [qFP, *];done) | trace_state)
instance rRWords (kind : Int) (v : List UInt8) : Fn BB 50 [.int .i64 kind,.str v] (v.length ≤ 100000) (.rd .str (qFP kind v)) := by
 refine Fn.intro (N := 35) [0,1,4,5,6,12,16,32] [] Tryz.call50 Tryz.func50 rfl rfl (by kernel_rfl) (fun hpre => ?_)
 repeat' ((conv => whnf);first|(with_reducible first|rfl|exact qAE|exact qAD)|exact True.intro|intro _|refine WA ?_ ?_|refine WF ?_|refine W1 rfl ?_ ?_|refine W2 rfl ?_ ?_|refine W3 rfl ?_ ?_|refine W4 ?_ ?_|refine W5 rfl ?_ ?_|refine W6 ?_ ?_|refine WN ?_|refine X1 (W1 rfl ?_ ?_)|refine X1 (W2 rfl ?_ ?_)|refine X2 (W7 rfl ?_ ?_)|refine X3 (W7 rfl ?_ ?_)|refine X4 (W7 rfl ?_ ?_)|refine X5 (W7 rfl ?_ ?_))
 all_goals (try (conv => whnf))
 all_goals (try first|exact obA|refine Ob.mk ?_)
 all_goals (try simp only [ZA,ZB,ZC,ZD,ZE,ZF,ZG,ZH,ZI,ZJ,ZK,ZL,ZM,ZN,ZO,Bool.and_eq_false_iff,Bool.or_eq_false_iff,ge_iff_le,gt_iff_lt,Int.toNat_natCast,UInt8.ofNat_toNat,cast_eq] at *)
 all_goals (try (
  have h3 : kind = 3 → (frL v).1 = [] := fun e => by
   rcases (by assumption : (¬kind = 3 ∨ (frL v).snd = false) ∨ (frL v).fst = []) with (h | h) | h
   ·exact absurd e h
   ·exact qtI h
   ·exact h
  have h1 : kind = 1 → v = [] := fun e => (by assumption : ¬kind = 1 ∨ v = []).resolve_left (fun h => h e)
  unfold qFP
  rw [if_neg (by assumption)]
  split
  ·rw [if_pos (h1 (by assumption))]
  ·split
   ·rw [if_pos (h3 (by assumption))]
   ·rfl))
 all_goals (first | (simp [qFP, *];done) | (show SV.rd Ty.str _ = _;simp [qFP, *];done) | trace_state)
end Go.Vc

namespace Go.Vc
open Go.Proofs
open Go.Vc.W
set_option maxRecDepth 10000
set_option maxHeartbeats 4000000
def qdY (el v : List UInt8) (n : qAG) : Bool := n.2.1 == 0 && n.2.2.1 == el && hasB n.2.2.2.1 qIF v
instance jCalled1 (k s : Int) (nn : List UInt8) (at_ : List qAJ) (d : List UInt8) (up : Int) (kids : List Int) (el v : List UInt8) :
  FnM BB 181 [.agg [.int .i64 k,.int .i64 s,.str nn,.rd qAK at_,.str d,.int .i64 up,.rd qAH kids],.loc 0 0,.loc 1 0] [(0,.box [.str el]),(1,.box [.str v])] (at_.length ≤ 100000) (.bool (s == 0 && nn == el && hasB at_ qIF v)) [(0,.box [.str el]),(1,.box [.str v])] := by
 refine FnM.intro (N := 19) [0,1,2,3,4] [] 2 Tryz.call181 Tryz.func181 rfl rfl (by kernel_rfl) (fun hpre => ?_)
 repeat' ((conv => whnf);first|(with_reducible first|rfl|exact qAE|exact qAD)|exact True.intro|intro _|refine WA ?_ ?_|refine WF ?_|refine W1 rfl ?_ ?_|refine W2 rfl ?_ ?_|refine W3 rfl ?_ ?_|refine W4 ?_ ?_|refine W5 rfl ?_ ?_|refine W6 ?_ ?_|refine WN ?_|refine X1 (W1 rfl ?_ ?_)|refine X1 (W2 rfl ?_ ?_)|refine X2 (W7 rfl ?_ ?_)|refine X3 (W7 rfl ?_ ?_)|refine X4 (W7 rfl ?_ ?_)|refine X5 (W7 rfl ?_ ?_))
 all_goals (try (conv => whnf))
 all_goals (try first|exact obA|refine Ob.mk ?_)
 all_goals (try rfl)
 all_goals trace_state
theorem qKZ (t : List qAG) {el : List UInt8} (hel : ¬ el = []) (v : List UInt8) : qE0 t el qIF v = ((qBR t).find? fun i => qdY el v (nd t i)).getD 0 := by
 unfold qE0 qBR
 by_cases h : v = []
 ·rw [if_pos h]
  have : ((qAY t).filter (elB t)).find? (fun i => qdY el v (nd t i)) = none := by
   rw [List.find?_eq_none];intro x _;unfold qdY hasB;rw [h];simp
  rw [this];rfl
 ·rw [if_neg h,List.find?_filter]
  congr 2
  funext i
  unfold qGD qdY hasB elB
  rw [beq_eq_false_iff_ne.2 h,beq_eq_false_iff_ne.2 hel]
  cases ((nd t i).1 == 1) <;> cases (qQR (nd t i).2.2.2.1 qIF == v) <;> cases ((nd t i).2.1 == 0) <;> cases ((nd t i).2.2.1 == el) <;> rfl
theorem qZQ (t : List qAG) : ∀ i,i < (qBR t).length → 0 ≤ (qBR t).getD i qAH.dflt ∧ (qBR t).getD i qAH.dflt < t.length := fun i hi => by
 have hm : (qBR t).getD i qAH.dflt ∈ qAY t := by
  have : (qBR t).getD i qAH.dflt ∈ qBR t := by rw [List.getD_eq_getElem?_getD,List.getElem?_eq_getElem hi];exact List.getElem_mem _
  exact (List.mem_filter.1 this).1
 obtain ⟨j,hj,e⟩ := List.mem_iff_getElem.1 hm
 have := qDT t j hj 0
 rw [List.getD_eq_getElem?_getD,List.getElem?_eq_getElem hj] at this
 rw [← e];exact this
instance jFirstC (t : List qAG) (el v : List UInt8) : FnM BB 141 [.agg [.rd qAC t],.fn 181 [.loc 0 0,.loc 1 0]] [(0,.box [.str el]),(1,.box [.str v])] (qA1 t 45 = true ∧ ¬ el = []) (.int .i64 (qE0 t el qIF v)) [(0,.box [.str el]),(1,.box [.str v])] := by
 refine FnM.intro (N := 15) [0,1,2,3,4,5,6,8,9,10,13] [] 2 Tryz.call141 Tryz.func141 rfl rfl (by kernel_rfl) (fun hpre => ?_)
 obtain ⟨hpre,hel0⟩ := hpre
 have hl := qSE hpre
 repeat' ((conv => whnf);first|(with_reducible first|rfl|exact qAE|exact qAD)|exact True.intro|intro _|refine WA ?_ ?_|refine WF ?_|refine W1 rfl ?_ ?_|refine W2 rfl ?_ ?_|refine W3 rfl ?_ ?_|refine W4 ?_ ?_|refine W5 rfl ?_ ?_|refine W6 ?_ ?_|refine WN ?_|refine X1 (W1 rfl ?_ ?_)|refine X1 (W2 rfl ?_ ?_)|refine X2 (W7 rfl ?_ ?_)|refine X3 (W7 rfl ?_ ?_)|refine X4 (W7 rfl ?_ ?_)|refine X5 (W7 rfl ?_ ?_))
 all_goals (try (conv => whnf))
 all_goals (try first|exact obA|refine Ob.mk ?_)
 have hel := qZQ t
 refine RangeStop.mkF (α := Unit) ⟨hpre⟩ rfl (fun _ => [(2,.box [.und])]) 30 (fun i _ => ∀ j,j < i → qdY el v (nd t ((qBR t).getD j 0)) = false) () (fun j hj => absurd hj (Nat.not_lt_zero _)) ?_ (fun i k hC hi => ?_) (fun k hC => ?_)
 ·all_goals exact vcA
 ·repeat' ((conv => whnf);first|(with_reducible first|rfl|exact qAE|exact qAD)|exact True.intro|intro _|refine WA ?_ ?_|refine WF ?_|refine W1 rfl ?_ ?_|refine W2 rfl ?_ ?_|refine W3 rfl ?_ ?_|refine W4 ?_ ?_|refine W5 rfl ?_ ?_|refine W6 ?_ ?_|refine WN ?_|refine X1 (W1 rfl ?_ ?_)|refine X1 (W2 rfl ?_ ?_)|refine X2 (W7 rfl ?_ ?_)|refine X3 (W7 rfl ?_ ?_)|refine X4 (W7 rfl ?_ ?_)|refine X5 (W7 rfl ?_ ?_))
  all_goals (try (conv => whnf))
  all_goals (try first|exact obA|refine Ob.mk ?_)
  ·exact Nat.le_trans (qB9 (qIW hpre _ (hel i hi))).2.1 (by decide)
  ·rw [qKZ t hel0,qdM (p := fun i => qdY el v (nd t i)) hi hC (by assumption)];rfl
  ·refine Rnd.mk ⟨(),fun j hj => ?_,?_⟩
   ·rcases Nat.lt_or_ge j i with q | q
    ·exact hC j q
    ·have e : j = i := by omega
     rw [e];assumption
   ·all_goals exact vcA
 ·repeat' ((conv => whnf);first|(with_reducible first|rfl|exact qAE|exact qAD)|exact True.intro|intro _|refine WA ?_ ?_|refine WF ?_|refine W1 rfl ?_ ?_|refine W2 rfl ?_ ?_|refine W3 rfl ?_ ?_|refine W4 ?_ ?_|refine W5 rfl ?_ ?_|refine W6 ?_ ?_|refine WN ?_|refine X1 (W1 rfl ?_ ?_)|refine X1 (W2 rfl ?_ ?_)|refine X2 (W7 rfl ?_ ?_)|refine X3 (W7 rfl ?_ ?_)|refine X4 (W7 rfl ?_ ?_)|refine X5 (W7 rfl ?_ ?_))
  all_goals (try (conv => whnf))
  all_goals (try first|exact obA|refine Ob.mk ?_)
  all_goals (rw [qKZ t hel0,qIG (p := fun i => qdY el v (nd t i)) hC];rfl)
instance jCalled (t : List qAG) (el v : List UInt8) : Fn BB 150 [.agg [.rd qAC t],.str el,.str v] (qA1 t 45 = true ∧ ¬ el = []) (.int .i64 (qE0 t el qIF v)) := by
 refine Fn.intro (N := 10) [0,1,2,3,4,5,6] [] Tryz.call150 Tryz.func150 rfl rfl (by kernel_rfl) (fun hpre => ?_)
 repeat' ((conv => whnf);first|(with_reducible first|rfl|exact qAE|exact qAD)|exact True.intro|intro _|refine WA ?_ ?_|refine WF ?_|refine W1 rfl ?_ ?_|refine W2 rfl ?_ ?_|refine W3 rfl ?_ ?_|refine W4 ?_ ?_|refine W5 rfl ?_ ?_|refine W6 ?_ ?_|refine WN ?_|refine X1 (W1 rfl ?_ ?_)|refine X1 (W2 rfl ?_ ?_)|refine X2 (W7 rfl ?_ ?_)|refine X3 (W7 rfl ?_ ?_)|refine X4 (W7 rfl ?_ ?_)|refine X5 (W7 rfl ?_ ?_))
 all_goals (try (conv => whnf))
 all_goals (try first|exact obA|refine Ob.mk ?_)
 all_goals (first | exact hpre | rfl | trace_state)
instance jMap (t : List qAG) (v : List UInt8) : Fn BB 106 [.agg [.rd qAC t],.str v] (qA1 t 45 = true) (.int .i64 (qE0 t qPL qIF v)) := by
 refine Fn.intro (N := 8) [0,1,2,4] [] Tryz.call106 Tryz.func106 rfl rfl (by kernel_rfl) (fun hpre => ?_)
 repeat' ((conv => whnf);first|(with_reducible first|rfl|exact qAE|exact qAD)|exact True.intro|intro _|refine WA ?_ ?_|refine WF ?_|refine W1 rfl ?_ ?_|refine W2 rfl ?_ ?_|refine W3 rfl ?_ ?_|refine W4 ?_ ?_|refine W5 rfl ?_ ?_|refine W6 ?_ ?_|refine WN ?_|refine X1 (W1 rfl ?_ ?_)|refine X1 (W2 rfl ?_ ?_)|refine X2 (W7 rfl ?_ ?_)|refine X3 (W7 rfl ?_ ?_)|refine X4 (W7 rfl ?_ ?_)|refine X5 (W7 rfl ?_ ?_))
 all_goals (try (conv => whnf))
 all_goals (try first|exact obA|refine Ob.mk ?_)
 all_goals (first | exact ⟨hpre,by decide⟩ | rfl | trace_state)
instance jRMap (t : List qAG) (v : List UInt8) : Fn BB 109 [.agg [.rd qAC t],.str v] (qA1 t 45 = true) (.int .i64 (qE0 t qPL qIF v)) := by
 refine Fn.intro (N := 8) [0,1,2,4] [] Tryz.call109 Tryz.func109 rfl rfl (by kernel_rfl) (fun hpre => ?_)
 repeat' ((conv => whnf);first|(with_reducible first|rfl|exact qAE|exact qAD)|exact True.intro|intro _|refine WA ?_ ?_|refine WF ?_|refine W1 rfl ?_ ?_|refine W2 rfl ?_ ?_|refine W3 rfl ?_ ?_|refine W4 ?_ ?_|refine W5 rfl ?_ ?_|refine W6 ?_ ?_|refine WN ?_|refine X1 (W1 rfl ?_ ?_)|refine X1 (W2 rfl ?_ ?_)|refine X2 (W7 rfl ?_ ?_)|refine X3 (W7 rfl ?_ ?_)|refine X4 (W7 rfl ?_ ?_)|refine X5 (W7 rfl ?_ ?_))
 all_goals (try (conv => whnf))
 all_goals (try first|exact obA|refine Ob.mk ?_)
 all_goals (first | exact hpre | rfl | trace_state)
def qO3 (t : List qAG) (v : List UInt8) : Int := if firstT t v = 0 then qE0 t [97] qIF v else firstT t v
instance jTarget (t : List qAG) (v : List UInt8) : Fn BB 107 [.agg [.rd qAC t],.str v] (qA1 t 45 = true) (.int .i64 (qO3 t v)) := by
 refine Fn.intro (N := 15) [0,1,2,4,5,10] [] Tryz.call107 Tryz.func107 rfl rfl (by kernel_rfl) (fun hpre => ?_)
 repeat' ((conv => whnf);first|(with_reducible first|rfl|exact qAE|exact qAD)|exact True.intro|intro _|refine WA ?_ ?_|refine WF ?_|refine W1 rfl ?_ ?_|refine W2 rfl ?_ ?_|refine W3 rfl ?_ ?_|refine W4 ?_ ?_|refine W5 rfl ?_ ?_|refine W6 ?_ ?_|refine WN ?_|refine X1 (W1 rfl ?_ ?_)|refine X1 (W2 rfl ?_ ?_)|refine X2 (W7 rfl ?_ ?_)|refine X3 (W7 rfl ?_ ?_)|refine X4 (W7 rfl ?_ ?_)|refine X5 (W7 rfl ?_ ?_))
 all_goals (try (conv => whnf))
 all_goals (try first|exact obA|refine Ob.mk ?_)
 all_goals (try simp only [ZA,ZB,ZC,ZD,ZE,ZF,ZG,ZH,ZI,ZJ,ZK,ZL,ZM,ZN,ZO,Bool.and_eq_false_iff,Bool.or_eq_false_iff,ge_iff_le,gt_iff_lt,Int.toNat_natCast,UInt8.ofNat_toNat,cast_eq] at *)
 all_goals (first | exact hpre | exact ⟨hpre,by decide⟩ | (unfold qO3;rw [if_pos ‹_›]) | (unfold qO3;rw [if_neg ‹_›]) | trace_state)
instance jRTarget (t : List qAG) (v : List UInt8) : Fn BB 110 [.agg [.rd qAC t],.str v] (qA1 t 45 = true) (.int .i64 (qO3 t v)) := by
 refine Fn.intro (N := 15) [0,1,2,4,5,10] [] Tryz.call110 Tryz.func110 rfl rfl (by kernel_rfl) (fun hpre => ?_)
 repeat' ((conv => whnf);first|(with_reducible first|rfl|exact qAE|exact qAD)|exact True.intro|intro _|refine WA ?_ ?_|refine WF ?_|refine W1 rfl ?_ ?_|refine W2 rfl ?_ ?_|refine W3 rfl ?_ ?_|refine W4 ?_ ?_|refine W5 rfl ?_ ?_|refine W6 ?_ ?_|refine WN ?_|refine X1 (W1 rfl ?_ ?_)|refine X1 (W2 rfl ?_ ?_)|refine X2 (W7 rfl ?_ ?_)|refine X3 (W7 rfl ?_ ?_)|refine X4 (W7 rfl ?_ ?_)|refine X5 (W7 rfl ?_ ?_))
 all_goals (try (conv => whnf))
 all_goals (try first|exact obA|refine Ob.mk ?_)
 all_goals (try simp only [ZA,ZB,ZC,ZD,ZE,ZF,ZG,ZH,ZI,ZJ,ZK,ZL,ZM,ZN,ZO,Bool.and_eq_false_iff,Bool.or_eq_false_iff,ge_iff_le,gt_iff_lt,Int.toNat_natCast,UInt8.ofNat_toNat,cast_eq] at *)
 all_goals (first | exact hpre | exact ⟨hpre,by decide⟩ | (unfold qO3;rw [if_pos ‹_›]) | (unfold qO3;rw [if_neg ‹_›]) | trace_state)
theorem qbG (t : List qAG) (el nm v : List UInt8) (ht : 0 < t.length) : 0 ≤ qE0 t el nm v ∧ qE0 t el nm v < t.length := by
 unfold qE0
 by_cases h : v = []
 ·rw [if_pos h];omega
 ·rw [if_neg h]
  cases hf : (qAY t).find? fun i => qGD el nm v (nd t i) with
  | none => show 0 ≤ (0 : Int) ∧ (0 : Int) < _;omega
  | some x =>
   have hm := List.mem_of_find?_eq_some hf
   obtain ⟨j,hj,ej⟩ := List.mem_iff_getElem.1 hm
   have hi := qDT t j hj 0
   rw [List.getD_eq_getElem?_getD,List.getElem?_eq_getElem hj] at hi
   simp only [Option.getD_some,ej] at hi
   exact hi
def qLA (t : List qAG) (i : Int) (nm : List UInt8) : Int := if ((nd t i).1 == 1 && (nd t i).2.1 == 0 && (nd t i).2.2.1 == nm) = true then i else 0
theorem dm_t {x y z : Bool} (h : (!x || !y || !z) = true) : ¬ (x && y && z) = true := by revert h;cases x <;> cases y <;> cases z <;> decide
theorem dm_f {x y z : Bool} (h : (!x || !y || !z) = false) : (x && y && z) = true := by revert h;cases x <;> cases y <;> cases z <;> decide
instance rOnly (t : List qAG) (i : Int) (nm : List UInt8) : Fn BB 108 [.agg [.rd qAC t],.int .i64 i,.str nm] (0 ≤ i ∧ i < t.length) (.int .i64 (qLA t i nm)) := by
 refine Fn.intro (N := 28) [0,1,2,3,6,7,26] [] Tryz.call108 Tryz.func108 rfl rfl (by kernel_rfl) (fun hpre => ?_)
 repeat' ((conv => whnf);first|(with_reducible first|rfl|exact qAE|exact qAD)|exact True.intro|intro _|refine WA ?_ ?_|refine WF ?_|refine W1 rfl ?_ ?_|refine W2 rfl ?_ ?_|refine W3 rfl ?_ ?_|refine W4 ?_ ?_|refine W5 rfl ?_ ?_|refine W6 ?_ ?_|refine WN ?_|refine X1 (W1 rfl ?_ ?_)|refine X1 (W2 rfl ?_ ?_)|refine X2 (W7 rfl ?_ ?_)|refine X3 (W7 rfl ?_ ?_)|refine X4 (W7 rfl ?_ ?_)|refine X5 (W7 rfl ?_ ?_))
 all_goals (try (conv => whnf))
 all_goals (try first|exact obA|refine Ob.mk ?_)
 all_goals (first | (unfold qLA;rw [if_neg (dm_t ‹_›)];done) | (unfold qLA;rw [if_pos (dm_f ‹_›)];done))
def qFI (n : qAG) (nm : List UInt8) : Int := qJK n.1 n.2.1 n.2.2.1 nm
def toN (t : List qAG) (i : Int) (nm w : List UInt8) : Int :=
 if 0 ≤ i ∧ i < t.length ∧ ¬ qFI (nd t i) nm = 0 then
  if nm = qPB then qE0 t qPL qIF w else if nm = qIJ then qO3 t w
  else if nm = qGE then qLA t (firstT t w) qeF else if nm = qDY then qLA t (firstT t w) qDY else firstT t w
 else 0
theorem qZM {i n : Int} (h : (decide (i < 0) || decide (i ≥ n)) = false) : 0 ≤ i ∧ i < n := by
 simp only [Bool.or_eq_false_iff,decide_eq_false_iff_not] at h
 omega
theorem qi5 {t : List qAG} {i : Int} {nm w : List UInt8} (h : (decide (i < 0) || decide (i ≥ (t.length : Int)) || qFI (nd t i) nm == 0) = true) : toN t i nm w = 0 := by
 simp only [Bool.or_eq_true,decide_eq_true_eq,beq_iff_eq] at h
 unfold toN
 rw [if_neg (fun q => by rcases h with (h | h) | h <;> first | exact q.2.2 h | omega)]
theorem qbV {t : List qAG} {i : Int} {nm w : List UInt8} (h : (decide (i < 0) || decide (i ≥ (t.length : Int)) || qFI (nd t i) nm == 0) = false) : (0 ≤ i ∧ i < t.length) ∧ toN t i nm w = (if nm = qPB then qE0 t qPL qIF w else if nm = qIJ then qO3 t w
  else if nm = qGE then qLA t (firstT t w) qeF else if nm = qDY then qLA t (firstT t w) qDY else firstT t w) := by
 simp only [Bool.or_eq_false_iff,decide_eq_false_iff_not,beq_eq_false_iff_ne] at h
 refine ⟨by omega,?_⟩
 unfold toN
 rw [if_pos ⟨by omega,by omega,h.2⟩]
theorem qTT (t : List qAG) (w : List UInt8) (ht : 0 < t.length) : 0 ≤ firstT t w ∧ firstT t w < t.length := qbG t [] idT w ht
instance rTo (t : List qAG) (i : Int) (nm w : List UInt8) : Fn BB 51 [.agg [.rd qAC t],.int .i64 i,.str nm,.str w] (qA1 t 45 = true) (.int .i64 (toN t i nm w)) := by
 refine Fn.intro (N := 56) [0,1,2,3,4,8,27,28,29,34,39,46] [(9,[1,1,0,1,3,3]),(11,[1,1,0,1,3,3])] Tryz.call51 Tryz.func51 rfl rfl (by kernel_rfl) (fun hpre => ?_)
 have hn : (decide (i < 0) || decide (i ≥ (t.length : Int)) || qFI (nd t i) nm == 0) = true → toN t i nm w = 0 := qi5
 have hy : (decide (i < 0) || decide (i ≥ (t.length : Int)) || qFI (nd t i) nm == 0) = false → _ := qbV (w := w)
 have hi : (decide (i < 0) || decide (i ≥ (t.length : Int))) = false → (0 ≤ i ∧ i < t.length) ∧ (nd t i).2.2.1.length ≤ 1000 := fun h => ⟨qZM h,Nat.le_trans (qB9 (qIW hpre i (qZM h))).1 (by decide)⟩
 have hk : qFI (nd t i) nm = qJK (nd t i).1 (nd t i).2.1 (nd t i).2.2.1 nm := rfl
 rw [hk] at hn hy
 repeat' ((conv => whnf);first|(with_reducible first|rfl|exact qAE|exact qAD)|exact True.intro|intro _|refine WA ?_ ?_|refine WF ?_|refine W1 rfl ?_ ?_|refine W2 rfl ?_ ?_|refine W3 rfl ?_ ?_|refine W4 ?_ ?_|refine W5 rfl ?_ ?_|refine W6 ?_ ?_|refine WN ?_|refine X1 (W1 rfl ?_ ?_)|refine X1 (W2 rfl ?_ ?_)|refine X2 (W7 rfl ?_ ?_)|refine X3 (W7 rfl ?_ ?_)|refine X4 (W7 rfl ?_ ?_)|refine X5 (W7 rfl ?_ ?_))
 all_goals (try (conv => whnf))
 all_goals (try first|exact obA|refine Ob.mk ?_)
 all_goals (try (exact (hi ‹_›).1))
 all_goals (try (exact (hi ‹_›).2))
 all_goals (try (exact (hn ‹_›).symm))
 all_goals (have hq := hy ‹_›)
 all_goals (try (exact qTT t w (by have := hq.1;omega)))
 all_goals (rw [hq.2];clear hq hn hy hi hk)
 all_goals (try simp only [ZA,ZB,ZC,ZD,ZE,ZF,ZG,ZH,ZI,ZJ,ZK,ZL,ZM,ZN,ZO,Bool.and_eq_false_iff,Bool.or_eq_false_iff,ge_iff_le,gt_iff_lt,Int.toNat_natCast,UInt8.ofNat_toNat,cast_eq] at *)
 all_goals (try (simp [*];done))
 all_goals trace_state
instance rRTo (t : List qAG) (i : Int) (nm w : List UInt8) : Fn BB 52 [.agg [.rd qAC t],.int .i64 i,.str nm,.str w] (qA1 t 45 = true) (.int .i64 (toN t i nm w)) := by
 refine Fn.intro (N := 67) [0,1,2,3,4,8,9,28,30,35,65] [] Tryz.call52 Tryz.func52 rfl rfl (by kernel_rfl) (fun hpre => ?_)
 have hn : (decide (i < 0) || decide (i ≥ (t.length : Int)) || qFI (nd t i) nm == 0) = true → toN t i nm w = 0 := qi5
 have hy : (decide (i < 0) || decide (i ≥ (t.length : Int)) || qFI (nd t i) nm == 0) = false → _ := qbV (w := w)
 have hi : (decide (i < 0) || decide (i ≥ (t.length : Int))) = false → (0 ≤ i ∧ i < t.length) ∧ (nd t i).2.2.1.length ≤ 1000 := fun h => ⟨qZM h,Nat.le_trans (qB9 (qIW hpre i (qZM h))).1 (by decide)⟩
 have hk : qFI (nd t i) nm = qJK (nd t i).1 (nd t i).2.1 (nd t i).2.2.1 nm := rfl
 rw [hk] at hn hy
 repeat' ((conv => whnf);first|(with_reducible first|rfl|exact qAE|exact qAD)|exact True.intro|intro _|refine WA ?_ ?_|refine WF ?_|refine W1 rfl ?_ ?_|refine W2 rfl ?_ ?_|refine W3 rfl ?_ ?_|refine W4 ?_ ?_|refine W5 rfl ?_ ?_|refine W6 ?_ ?_|refine WN ?_|refine X1 (W1 rfl ?_ ?_)|refine X1 (W2 rfl ?_ ?_)|refine X2 (W7 rfl ?_ ?_)|refine X3 (W7 rfl ?_ ?_)|refine X4 (W7 rfl ?_ ?_)|refine X5 (W7 rfl ?_ ?_))
 all_goals (try (conv => whnf))
 all_goals (try first|exact obA|refine Ob.mk ?_)
 all_goals (try (exact (hi ‹_›).1))
 all_goals (try (exact (hi ‹_›).2))
 all_goals (try (exact (hn ‹_›).symm))
 all_goals (have hq := hy ‹_›)
 all_goals (try (exact qTT t w (by have := hq.1;omega)))
 all_goals (rw [hq.2];clear hq hn hy hi hk)
 all_goals (try simp only [ZA,ZB,ZC,ZD,ZE,ZF,ZG,ZH,ZI,ZJ,ZK,ZL,ZM,ZN,ZO,Bool.and_eq_false_iff,Bool.or_eq_false_iff,ge_iff_le,gt_iff_lt,Int.toNat_natCast,UInt8.ofNat_toNat,cast_eq] at *)
 all_goals (try (simp [*];done))
 all_goals (
  generalize firstT t w = x at *
  rw [if_neg (by assumption),if_neg (by assumption)]
  unfold qLA nd
  by_cases h1 : nm = qGE
  ·(subst h1;simp_all) <;> (try (intro p1 p2 p3;rename_i hA;rcases hA with (h | h) | h <;> first | exact absurd p1 h | exact absurd p2 h | exact absurd p3 h))
  ·by_cases h2 : nm = qDY
   ·(subst h2;simp_all) <;> (try (intro p1 p2 p3;rename_i hA;rcases hA with (h | h) | h <;> first | exact absurd p1 h | exact absurd p2 h | exact absurd p3 h))
   ·simp_all)
 all_goals trace_state
end Go.Vc

namespace Go.Vc.W
open Go.Proofs
set_option maxRecDepth 10000
theorem qP1 {a b : List (List UInt8)} {i : Nat} (ha : i < a.length) (hb : i < b.length) (h : a.take i = b.take i) (h2 : a.getD i [] = b.getD i []) : a.take (i+1) = b.take (i+1) := by
 rw [take_snoc a i [] ha,take_snoc b i [] hb,h,h2]
instance fEq (a b : List (List UInt8)) : Fn BB 48 [.rd .str a,.rd .str b] True (.bool (a == b)) := by
 refine Fn.intro (N := 26) [0,1,4,5,10,12,13,14,24] [(6,[0,0,1,1,0,0,1,1,3])] Tryz.call48 Tryz.func48 rfl rfl (by kernel_rfl) (fun hpre => ?_)
 repeat' ((conv => whnf);first|(with_reducible first|rfl|exact qAE|exact qAD)|exact True.intro|intro _|refine WA ?_ ?_|refine WF ?_|refine W1 rfl ?_ ?_|refine W2 rfl ?_ ?_|refine W3 rfl ?_ ?_|refine W4 ?_ ?_|refine W5 rfl ?_ ?_|refine W6 ?_ ?_|refine WN ?_|refine X1 (W1 rfl ?_ ?_)|refine X1 (W2 rfl ?_ ?_)|refine X2 (W7 rfl ?_ ?_)|refine X3 (W7 rfl ?_ ?_)|refine X4 (W7 rfl ?_ ?_)|refine X5 (W7 rfl ?_ ?_))
 all_goals (try (conv => whnf))
 all_goals (try first|exact obA|refine Ob.mk ?_)
 ·rename_i h
  have : ¬ a = b := by rintro rfl;simp at h
  simp [this]
 ·refine LoopStop.mk (α := Nat) (fun i => [(13,.int .i64 i)]) (fun i => []) 0 (fun i => i ≤ a.length ∧ a.take i = b.take i) (fun i => a.length - i) 0 (by simp) ?_ (fun i hi => ?_)
  ·repeat' ((conv => whnf);first|(with_reducible first|rfl|exact qAE|exact qAD)|exact True.intro|intro _|refine WA ?_ ?_|refine WF ?_|refine W1 rfl ?_ ?_|refine W2 rfl ?_ ?_|refine W3 rfl ?_ ?_|refine W4 ?_ ?_|refine W5 rfl ?_ ?_|refine W6 ?_ ?_|refine WN ?_|refine X1 (W1 rfl ?_ ?_)|refine X1 (W2 rfl ?_ ?_)|refine X2 (W7 rfl ?_ ?_)|refine X3 (W7 rfl ?_ ?_)|refine X4 (W7 rfl ?_ ?_)|refine X5 (W7 rfl ?_ ?_))
   all_goals (try (conv => whnf))
   all_goals (try rfl)
  ·repeat' ((conv => whnf);first|(with_reducible first|rfl|exact qAE|exact qAD)|exact True.intro|intro _|refine WA ?_ ?_|refine WF ?_|refine W1 rfl ?_ ?_|refine W2 rfl ?_ ?_|refine W3 rfl ?_ ?_|refine W4 ?_ ?_|refine W5 rfl ?_ ?_|refine W6 ?_ ?_|refine WN ?_|refine X1 (W1 rfl ?_ ?_)|refine X1 (W2 rfl ?_ ?_)|refine X2 (W7 rfl ?_ ?_)|refine X3 (W7 rfl ?_ ?_)|refine X4 (W7 rfl ?_ ?_)|refine X5 (W7 rfl ?_ ?_))
   all_goals (try (conv => whnf))
   all_goals (try first|exact obA|refine Ob.mk ?_)
   all_goals (try simp only [ZA,ZB,ZC,ZD,ZE,ZF,ZG,ZH,ZI,ZJ,ZK,ZL,ZM,ZN,ZO,Int.toNat_natCast,UInt8.ofNat_toNat,cast_eq] at *)
   all_goals (try omega)
   ·rename_i h
    have : ¬ a = b := by rintro rfl;exact h rfl
    simp [this]
   ·have h : i < a.length := by omega
    have h' : i < b.length := by omega
    refine Rnd.mk ⟨i + 1,?_,?_,?_⟩
    ·exact ⟨h,qP1 h h' hi.2 ‹_›⟩
    ·omega
    ·all_goals exact vcA
   ·have e : i = a.length := by omega
    subst e
    have h2 := hi.2
    have h3 : b.length ≤ a.length := by omega
    rw [List.take_of_length_le (Nat.le_refl _),List.take_of_length_le h3] at h2
    rw [h2];simp
end Go.Vc.W

namespace Go.Vc.W
open Go.Proofs
set_option maxRecDepth 100000
def clean (w : List UInt8) : Prop := ¬ w = [] ∧ ∀ c ∈ w,isSp c.toNat = false
theorem qUD (s : List UInt8) (i : Nat) (h : i ≤ s.length) : (∀ w ∈ (qEK s i).1,clean w) ∧ (∀ c ∈ (qEK s i).2,isSp c.toNat = false) ∧ ((qEK s i).1.map fun w => w.length + 1).sum + (qEK s i).2.length ≤ i := by
 induction i with
 | zero => simp [qEK]
 | succ i ih =>
  obtain ⟨h1,h2,h3⟩ := ih (by omega)
  have e := qCD s i (by omega)
  cases hc : isSp (s.getD i 0).toNat with
  | false =>
   rw [qG1 hc] at e
   rw [e]
   refine ⟨h1,fun c hcm => ?_,by simp only [List.length_append,List.length_cons,List.length_nil];omega⟩
   rcases List.mem_append.1 hcm with hcm | hcm
   ·exact h2 c hcm
   ·rw [List.mem_singleton] at hcm;subst hcm;exact hc
  | true =>
   by_cases hw : (qEK s i).2 = []
   ·rw [qHN hc hw] at e
    rw [e]
    exact ⟨h1,by simp,by simp only [List.length_nil];omega⟩
   ·rw [qFS hc hw] at e
    rw [e]
    refine ⟨fun w hm => ?_,by simp,?_⟩
    ·rcases List.mem_append.1 hm with hm | hm
     ·exact h1 w hm
     ·rw [List.mem_singleton] at hm;subst hm;exact ⟨hw,h2⟩
    ·simp only [List.map_append,List.sum_append,List.map_cons,List.map_nil,List.sum_cons,List.sum_nil,List.length_nil];omega
theorem qY7 (s : List UInt8) : (∀ w ∈ spl s,clean w) ∧ ((spl s).map fun w => w.length + 1).sum ≤ s.length + 1 := by
 obtain ⟨h1,h2,h3⟩ := qUD s s.length (Nat.le_refl _)
 by_cases hw : (qEK s s.length).2 = []
 ·rw [qZG (Nat.le_refl _) hw]
  exact ⟨h1,by omega⟩
 ·rw [qZ0 (Nat.le_refl _) hw]
  refine ⟨fun w hm => ?_,?_⟩
  ·rcases List.mem_append.1 hm with hm | hm
   ·exact h1 w hm
   ·rw [List.mem_singleton] at hm;subst hm;exact ⟨hw,h2⟩
  ·simp only [List.map_append,List.sum_append,List.map_cons,List.map_nil,List.sum_cons,List.sum_nil];omega
theorem qcY (l : List (List UInt8)) : l.length ≤ (l.map fun w => w.length + 1).sum := by
 induction l with
 | nil => simp
 | cons w r ih => simp only [List.map_cons,List.sum_cons,List.length_cons];omega
theorem qWA {l : List (List UInt8)} {w : List UInt8} (h : w ∈ l) : w.length + 1 ≤ (l.map fun w => w.length + 1).sum := by
 induction l with
 | nil => cases h
 | cons x r ih =>
  simp only [List.map_cons,List.sum_cons]
  rcases List.mem_cons.1 h with rfl | h
  ·omega
  ·have := ih h;omega
end Go.Vc.W

namespace Go.Vc
open Go.Proofs
open Go.Vc.W
set_option maxRecDepth 10000
set_option maxHeartbeats 4000000
abbrev qVR := qE8.T
def qwL (r : qVR) : SV := .agg [.int .i64 r.1,.str r.2.1,.int .i64 r.2.2.1,.str r.2.2.2.1,.int .i64 r.2.2.2.2]
def qCL (n : qAG) (a : qAJ) : List (List UInt8) := qFP (qFI n a.1) a.2
def qeR (t : List qAG) (i : Int) (a : qAJ) (j : Nat) (w : List UInt8) : qVR := (i,a.1,(j : Int),w,toN t i a.1 w)
def qE1 (t : List qAG) (i : Int) (a : qAJ) : List qVR := (List.range (qCL (nd t i) a).length).map fun j => qeR t i a j ((qCL (nd t i) a).getD j [])
def qCJ (t : List qAG) (i : Int) : List qVR := (nd t i).2.2.2.1.flatMap (qE1 t i)
theorem qHM (t : List qAG) (i : Int) (a : qAJ) : (qE1 t i a).length = (qCL (nd t i) a).length := by unfold qE1;rw [List.length_map,List.length_range]
theorem qOH (t : List qAG) (i : Int) (a : qAJ) {j : Nat} (h : j < (qCL (nd t i) a).length) (d : qVR) : (qE1 t i a).getD j d = qeR t i a j ((qCL (nd t i) a).getD j []) := by
 unfold qE1
 rw [List.getD_eq_getElem?_getD,List.getElem?_map,List.getElem?_range h];rfl
theorem qWS {α : Type} (L : List α) {j : Nat} (h : j < L.length) (d : α) : L.take (j + 1) = L.take j ++ [L.getD j d] := by
 rw [List.take_succ_eq_append_getElem h,List.getD_eq_getElem?_getD,List.getElem?_eq_getElem h];rfl
theorem qKT {α β : Type} (f : α → List β) (L : List α) {a : Nat} (h : a < L.length) (d : α) : (L.take (a + 1)).flatMap f = (L.take a).flatMap f ++ f (L.getD a d) := by
 rw [List.take_succ_eq_append_getElem h,List.flatMap_append]
 simp [List.getD,List.getElem?_eq_getElem h]
theorem qaO {α β : Type} (f : α → List β) (L : List α) {a : Nat} (h : a < L.length) (d : α) : L.flatMap f = (L.take a).flatMap f ++ (f (L.getD a d) ++ (L.drop (a + 1)).flatMap f) := by
 conv => lhs;rw [← List.take_append_drop (a + 1) L]
 rw [List.flatMap_append,qKT f L h d,List.append_assoc]
theorem qjX {α β : Type} (f : α → List β) (L : List α) {a j : Nat} (h : a < L.length) (d : α) (hj : j < (f (L.getD a d)).length) (d' : β) : (L.flatMap f).getD (((L.take a).flatMap f).length + j) d' = (f (L.getD a d)).getD j d' ∧ ((L.take a).flatMap f).length + j < (L.flatMap f).length := by
 rw [qaO f L h d]
 constructor
 ·rw [List.getD_eq_getElem?_getD,List.getElem?_append_right (by omega),show ((L.take a).flatMap f).length + j - ((L.take a).flatMap f).length = j by omega,List.getElem?_append_left hj, ← List.getD_eq_getElem?_getD]
 ·rw [List.length_append,List.length_append];omega
instance rRefs (t : List qAG) (i : Int) : Fn BB 111 [.agg [.rd qAC t],.int .i64 i] True (.fn 151 [.el (.sl qAC) [t] 0 0,.el qAH [i] 0 0]) := by
 refine Fn.intro (N := 6) [0,1,2,3,4] [] Tryz.call111 Tryz.func111 rfl rfl (by kernel_rfl) (fun hpre => ?_)
 all_goals exact vcA
instance rKindY (y : YS) (k s : Int) (nn : List UInt8) (at_ : List qAK.T) (dt : List UInt8) (up : Int) (kids : List Int) (nm : List UInt8) :
  Fn (BB.withY y) 46 [.agg [.int .i64 k,.int .i64 s,.str nn,.rd qAK at_,.str dt,.int .i64 up,.rd qAH kids],.str nm] (nn.length ≤ 1000) (.int .i64 (qJK k s nn nm)) := ⟨(rKind k s nn at_ dt up kids nm).call,(rKind k s nn at_ dt up kids nm).ok⟩
instance rWordsY (y : YS) (kind : Int) (v : List UInt8) : Fn (BB.withY y) 49 [.int .i64 kind,.str v] (v.length ≤ 100000) (.rd .str (qFP kind v)) := ⟨(rWords kind v).call,(rWords kind v).ok⟩
instance rToY (y : YS) (t : List qAG) (i : Int) (nm w : List UInt8) : Fn (BB.withY y) 51 [.agg [.rd qAC t],.int .i64 i,.str nm,.str w] (qA1 t 45 = true) (.int .i64 (toN t i nm w)) := ⟨(rTo t i nm w).call,(rTo t i nm w).ok⟩
theorem qXU {n : qAG} (h : qF7 n = true) {a : Nat} (ha : a < n.2.2.2.1.length) (d : qAJ) : (n.2.2.2.1.getD a d).1.length ≤ 40 ∧ (n.2.2.2.1.getD a d).2.length ≤ 150 := by
 unfold qF7 at h
 rw [Bool.and_eq_true] at h
 have h2 := h.2
 unfold qGL at h2
 rw [Bool.and_eq_true,List.all_eq_true] at h2
 have hm : n.2.2.2.1.getD a d ∈ n.2.2.2.1 := by rw [List.getD_eq_getElem?_getD,List.getElem?_eq_getElem ha];exact List.getElem_mem _
 have := h2.2 _ hm
 simp only [Bool.and_eq_true,decide_eq_true_eq] at this
 omega
def qPW (t : List qAG) (i : Int) (a : Nat) : Nat := (((nd t i).2.2.2.1.take a).flatMap (qE1 t i)).length
instance rIt (t : List qAG) (i : Int) : It BB 151 [.el (.sl qAC) [t] 0 0,.el qAH [i] 0 0] (qA1 t 45 = true ∧ 0 ≤ i ∧ i < t.length) (qCJ t i).length (fun k => [qwL ((qCJ t i).getD k qE8.dflt)]) := by
 refine It.intro (N := 51) [0,1,2,4,6,7,8,15,16,17,18,27,28,29,30,48] [(4,[1,0,1,1,0,1,3,3,0]),(7,[0,1,0,1,0,0,1,1,0,1,0,1,3,3,3])] 0 Tryz.call151 Tryz.func151 rfl rfl (by kernel_rfl) (fun hpre yl => ?_)
 obtain ⟨ht,hi⟩ := hpre
 have hn := qIW ht i hi
 have hna := qB9 hn
 repeat' ((conv => whnf);first|(with_reducible first|rfl|exact qAE|exact qAD)|exact True.intro|intro _|refine WA ?_ ?_|refine WF ?_|refine W1 rfl ?_ ?_|refine W2 rfl ?_ ?_|refine W3 rfl ?_ ?_|refine W4 ?_ ?_|refine W5 rfl ?_ ?_|refine W6 ?_ ?_|refine WN ?_|refine X1 (W1 rfl ?_ ?_)|refine X1 (W2 rfl ?_ ?_)|refine X2 (W7 rfl ?_ ?_)|refine X3 (W7 rfl ?_ ?_)|refine X4 (W7 rfl ?_ ?_)|refine X5 (W7 rfl ?_ ?_))
 all_goals (try (conv => whnf))
 all_goals (try simp only [List.getD_cons_zero] at *)
 all_goals (try first|exact obA|refine Ob.mk ?_)
 refine LoopStop.mk (α := Nat) (fun a => [(17,.int .i64 a)]) (fun a => [(GID,.gh (some (qPW t i a)))]) 30 (fun a => a ≤ (nd t i).2.2.2.1.length) (fun a => (nd t i).2.2.2.1.length - a) 0 (Nat.zero_le _) ?_ (fun a ha => ?_)
 ·all_goals exact vcA
 ·by_cases hal : a < (nd t i).2.2.2.1.length
  ·have hAo := qXU hn hal qAK.dflt
   have hP : qPW t i (a + 1) = qPW t i a + (qE1 t i ((nd t i).2.2.2.1.getD a qAK.dflt)).length := by
    unfold qPW;rw [qKT _ _ hal qAK.dflt,List.length_append]
   rw [qHM] at hP
   have hG : ∀ j,j < (qCL (nd t i) ((nd t i).2.2.2.1.getD a qAK.dflt)).length → ∀ d,(qCJ t i).getD (qPW t i a + j) d = qeR t i ((nd t i).2.2.2.1.getD a qAK.dflt) j ((qCL (nd t i) ((nd t i).2.2.2.1.getD a qAK.dflt)).getD j []) ∧ qPW t i a + j < (qCJ t i).length := fun j hj d => by
    have h := qjX (qE1 t i) (nd t i).2.2.2.1 hal qAK.dflt (by rw [qHM];exact hj) d
    exact ⟨h.1.trans (qOH t i _ hj d),h.2⟩
   repeat' ((conv => whnf);first|(with_reducible first|rfl|exact qAE|exact qAD)|exact True.intro|intro _|refine WA ?_ ?_|refine WF ?_|refine W1 rfl ?_ ?_|refine W2 rfl ?_ ?_|refine W3 rfl ?_ ?_|refine W4 ?_ ?_|refine W5 rfl ?_ ?_|refine W6 ?_ ?_|refine WN ?_|refine X1 (W1 rfl ?_ ?_)|refine X1 (W2 rfl ?_ ?_)|refine X2 (W7 rfl ?_ ?_)|refine X3 (W7 rfl ?_ ?_)|refine X4 (W7 rfl ?_ ?_)|refine X5 (W7 rfl ?_ ?_))
   all_goals (try (conv => whnf))
   all_goals (try simp only [List.getD_cons_zero] at *)
   all_goals (try first|exact obA|refine Ob.mk ?_)
   all_goals (try simp only [Int.toNat_natCast] at *)
   all_goals (try (first | exact Nat.le_trans hna.1 (by decide) | exact Nat.le_trans hAo.2 (by decide)))
   all_goals (try (exfalso;have h := of_decide_eq_false ‹decide ((a : Int) < ((nd t i).2.2.2.1.length : Int)) = false›;omega))
   refine LoopStop.mk (α := Nat) (fun j => [(29,.int .i64 j)]) (fun j => [(GID,.gh (some (qPW t i a + j)))]) 50 (fun j => j ≤ (qCL (nd t i) ((nd t i).2.2.2.1.getD a qAK.dflt)).length) (fun j => (qCL (nd t i) ((nd t i).2.2.2.1.getD a qAK.dflt)).length - j) 0 (Nat.zero_le _) ?_ (fun j hj => ?_)
   ·all_goals exact vcA
   ·by_cases hjl : j < (qCL (nd t i) ((nd t i).2.2.2.1.getD a qAK.dflt)).length
    ·have hg := hG j hjl qE8.dflt
     repeat' ((conv => whnf);first|(with_reducible first|rfl|exact qAE|exact qAD)|exact True.intro|intro _|refine WA ?_ ?_|refine WF ?_|refine W1 rfl ?_ ?_|refine W2 rfl ?_ ?_|refine W3 rfl ?_ ?_|refine W4 ?_ ?_|refine W5 rfl ?_ ?_|refine W6 ?_ ?_|refine WN ?_|refine X1 (W1 rfl ?_ ?_)|refine X1 (W2 rfl ?_ ?_)|refine X2 (W7 rfl ?_ ?_)|refine X3 (W7 rfl ?_ ?_)|refine X4 (W7 rfl ?_ ?_)|refine X5 (W7 rfl ?_ ?_))
     all_goals (try (conv => whnf))
     all_goals (try simp only [List.getD_cons_zero] at *)
     all_goals (try first|exact obA|refine Ob.mk ?_)
     all_goals (try simp only [Int.toNat_natCast] at *)
     all_goals (try (first | exact (congrArg Prod.fst hg.1).symm | exact (congrArg (fun r : qVR => r.2.1) hg.1).symm | exact (congrArg (fun r : qVR => r.2.2.1) hg.1).symm | exact (congrArg (fun r : qVR => r.2.2.2.1) hg.1).symm | exact (congrArg (fun r : qVR => r.2.2.2.2) hg.1).symm))
     all_goals (try (exact absurd ‹(!true) = true› (by decide)))
     all_goals (try (exact absurd ‹(!false) = false› (by decide)))
     all_goals (try (exact absurd (Int.ofNat_lt.mpr hjl) (of_decide_eq_false (by assumption))))
     all_goals (try (exact hg.2))
     all_goals (refine Rnd.mk ⟨j + 1,by omega,by omega,?_⟩)
     all_goals (try rfl)
     repeat' ((conv => whnf);first|(with_reducible first|rfl|exact qAE|exact qAD)|exact True.intro|intro _|refine WA ?_ ?_|refine WF ?_|refine W1 rfl ?_ ?_|refine W2 rfl ?_ ?_|refine W3 rfl ?_ ?_|refine W4 ?_ ?_|refine W5 rfl ?_ ?_|refine W6 ?_ ?_|refine WN ?_|refine X1 (W1 rfl ?_ ?_)|refine X1 (W2 rfl ?_ ?_)|refine X2 (W7 rfl ?_ ?_)|refine X3 (W7 rfl ?_ ?_)|refine X4 (W7 rfl ?_ ?_)|refine X5 (W7 rfl ?_ ?_))
     all_goals (try (conv => whnf))
     all_goals (try first|exact obA|refine Ob.mk ?_)
     all_goals (try rfl)
     all_goals trace_state
    ·have e : j = (qCL (nd t i) ((nd t i).2.2.2.1.getD a qAK.dflt)).length := by omega
     repeat' ((conv => whnf);first|(with_reducible first|rfl|exact qAE|exact qAD)|exact True.intro|intro _|refine WA ?_ ?_|refine WF ?_|refine W1 rfl ?_ ?_|refine W2 rfl ?_ ?_|refine W3 rfl ?_ ?_|refine W4 ?_ ?_|refine W5 rfl ?_ ?_|refine W6 ?_ ?_|refine WN ?_|refine X1 (W1 rfl ?_ ?_)|refine X1 (W2 rfl ?_ ?_)|refine X2 (W7 rfl ?_ ?_)|refine X3 (W7 rfl ?_ ?_)|refine X4 (W7 rfl ?_ ?_)|refine X5 (W7 rfl ?_ ?_))
     all_goals (try (conv => whnf))
     all_goals (try simp only [List.getD_cons_zero] at *)
     all_goals (try first|exact obA|refine Ob.mk ?_)
     all_goals (try simp only [Int.toNat_natCast] at *)
     all_goals (try (exact absurd (of_decide_eq_true (by assumption)) (fun h => hjl (Int.ofNat_lt.mp h))))
     all_goals (try (refine Rnd.mk ⟨a + 1,by omega,by omega,?_⟩))
     repeat' ((conv => whnf);first|(with_reducible first|rfl|exact qAE|exact qAD)|exact True.intro|intro _|refine WA ?_ ?_|refine WF ?_|refine W1 rfl ?_ ?_|refine W2 rfl ?_ ?_|refine W3 rfl ?_ ?_|refine W4 ?_ ?_|refine W5 rfl ?_ ?_|refine W6 ?_ ?_|refine WN ?_|refine X1 (W1 rfl ?_ ?_)|refine X1 (W2 rfl ?_ ?_)|refine X2 (W7 rfl ?_ ?_)|refine X3 (W7 rfl ?_ ?_)|refine X4 (W7 rfl ?_ ?_)|refine X5 (W7 rfl ?_ ?_))
     all_goals (try (conv => whnf))
     all_goals (try first|exact obA|refine Ob.mk ?_)
     all_goals (first | (rw [hP, ← e];done) | rfl | trace_state)
  ·have e : a = (nd t i).2.2.2.1.length := by omega
   repeat' ((conv => whnf);first|(with_reducible first|rfl|exact qAE|exact qAD)|exact True.intro|intro _|refine WA ?_ ?_|refine WF ?_|refine W1 rfl ?_ ?_|refine W2 rfl ?_ ?_|refine W3 rfl ?_ ?_|refine W4 ?_ ?_|refine W5 rfl ?_ ?_|refine W6 ?_ ?_|refine WN ?_|refine X1 (W1 rfl ?_ ?_)|refine X1 (W2 rfl ?_ ?_)|refine X2 (W7 rfl ?_ ?_)|refine X3 (W7 rfl ?_ ?_)|refine X4 (W7 rfl ?_ ?_)|refine X5 (W7 rfl ?_ ?_))
   all_goals (try (conv => whnf))
   all_goals (try simp only [List.getD_cons_zero] at *)
   all_goals (try first|exact obA|refine Ob.mk ?_)
   all_goals (try (exfalso;have h := of_decide_eq_true ‹decide ((a : Int) < ((nd t i).2.2.2.1.length : Int)) = true›;omega))
   all_goals (unfold qPW qCJ;rw [e,List.take_length])
def ofT (t : List qAG) : List qVR := (qAY t).flatMap (qCJ t)
theorem qVF (kind : Int) (v : List UInt8) : (qFP kind v).length ≤ v.length + 1 := by
 unfold qFP
 repeat' split
 ·exact Nat.le_trans (qcY _) (qY7 v).2
 all_goals simp
theorem qbT {α β : Type} (f : α → List β) {m : Nat} : ∀ L : List α,(∀ x ∈ L,(f x).length ≤ m) → (L.flatMap f).length ≤ L.length * m := by
 intro L
 induction L with
 | nil => intro _;simp
 | cons a L ih =>
  intro h
  rw [List.flatMap_cons,List.length_append,List.length_cons,Nat.succ_mul]
  have := h a List.mem_cons_self
  have := ih fun x hx => h x (List.mem_cons_of_mem _ hx)
  omega
theorem qX9 {t : List qAG} {i : Int} (h : qF7 (nd t i) = true) : (qCJ t i).length ≤ 14 * 151 := by
 have h1 := (qB9 h).2.1
 refine Nat.le_trans (qbT (m := 151) _ _ fun a ha => ?_) (Nat.mul_le_mul_right _ h1)
 obtain ⟨j,hj,e⟩ := List.mem_iff_getElem.1 ha
 have h2 := qXU h hj ([],[])
 rw [List.getD_eq_getElem?_getD,List.getElem?_eq_getElem hj] at h2
 simp only [Option.getD_some,e] at h2
 rw [qHM]
 exact Nat.le_trans (qVF _ _) (by omega)
theorem qaD {t : List qAG} {i : Int} (h : i ∈ qAY t) : 0 ≤ i ∧ i < t.length := by
 obtain ⟨j,hj,e⟩ := List.mem_iff_getElem.1 h
 have hi := qDT t j hj 0
 rw [List.getD_eq_getElem?_getD,List.getElem?_eq_getElem hj] at hi
 simp only [Option.getD_some,e] at hi
 exact hi
theorem qWU {t : List qAG} (h : qA1 t 45 = true) (k : Nat) : (((qAY t).take k).flatMap (qCJ t)).length ≤ 45 * (14 * 151) := by
 have hl := qSE h
 have h2 := qYZ t
 refine Nat.le_trans (qbT (m := 14 * 151) _ _ fun a ha => qX9 (qIW h a (qaD (List.mem_of_mem_take ha)))) (Nat.mul_le_mul_right _ ?_)
 rw [List.length_take];omega
instance rOf (t : List qAG) : Fn BB 54 [.agg [.rd qAC t]] (qA1 t 45 = true) (.rd qE8 (ofT t)) := by
 refine Fn.intro (N := 24) [0,1,2,3,5,6,8,9,10,11,16,17] [] Tryz.call54 Tryz.func54 rfl rfl (by kernel_rfl) (fun hpre => ?_)
 have ht := hpre
 have hl := qSE ht
 repeat' ((conv => whnf);first|(with_reducible first|rfl|exact qAE|exact qAD)|exact True.intro|intro _|refine WA ?_ ?_|refine WF ?_|refine W1 rfl ?_ ?_|refine W2 rfl ?_ ?_|refine W3 rfl ?_ ?_|refine W4 ?_ ?_|refine W5 rfl ?_ ?_|refine W6 ?_ ?_|refine WN ?_|refine X1 (W1 rfl ?_ ?_)|refine X1 (W2 rfl ?_ ?_)|refine X2 (W7 rfl ?_ ?_)|refine X3 (W7 rfl ?_ ?_)|refine X4 (W7 rfl ?_ ?_)|refine X5 (W7 rfl ?_ ?_))
 all_goals (try (conv => whnf))
 all_goals (try first|exact obA|refine Ob.mk ?_)
 refine LoopStop.mk (α := Nat) (fun k => [(10,.int .i64 k)]) (fun k => [(1,.box [.own 20]),(20,.own qE8 (((qAY t).take k).flatMap (qCJ t)))]) 40 (fun k => k ≤ (qAY t).length) (fun k => (qAY t).length - k) 0 (Nat.zero_le _) ?_ (fun k hk => ?_)
 ·repeat' ((conv => whnf);first|(with_reducible first|rfl|exact qAE|exact qAD)|exact True.intro|intro _|refine WA ?_ ?_|refine WF ?_|refine W1 rfl ?_ ?_|refine W2 rfl ?_ ?_|refine W3 rfl ?_ ?_|refine W4 ?_ ?_|refine W5 rfl ?_ ?_|refine W6 ?_ ?_|refine WN ?_|refine X1 (W1 rfl ?_ ?_)|refine X1 (W2 rfl ?_ ?_)|refine X2 (W7 rfl ?_ ?_)|refine X3 (W7 rfl ?_ ?_)|refine X4 (W7 rfl ?_ ?_)|refine X5 (W7 rfl ?_ ?_))
  all_goals (try (conv => whnf))
  all_goals (try first|exact obA|refine Ob.mk ?_)
  all_goals (try rfl)
  all_goals trace_state
 ·by_cases hkl : k < (qAY t).length
  ·have hat : 0 ≤ (qA9 (fin t).L).getD k qAH.dflt ∧ (qA9 (fin t).L).getD k qAH.dflt < t.length := qDT t k hkl _
   have hF : ((qAY t).take (k + 1)).flatMap (qCJ t) = ((qAY t).take k).flatMap (qCJ t) ++ qCJ t ((qA9 (fin t).L).getD k qAH.dflt) := qKT (qCJ t) (qA9 (fin t).L) hkl qAH.dflt
   have hL := qWU ht (k + 1)
   rw [hF,List.length_append] at hL
   repeat' ((conv => whnf);first|(with_reducible first|rfl|exact qAE|exact qAD)|exact True.intro|intro _|refine WA ?_ ?_|refine WF ?_|refine W1 rfl ?_ ?_|refine W2 rfl ?_ ?_|refine W3 rfl ?_ ?_|refine W4 ?_ ?_|refine W5 rfl ?_ ?_|refine W6 ?_ ?_|refine WN ?_|refine X1 (W1 rfl ?_ ?_)|refine X1 (W2 rfl ?_ ?_)|refine X2 (W7 rfl ?_ ?_)|refine X3 (W7 rfl ?_ ?_)|refine X4 (W7 rfl ?_ ?_)|refine X5 (W7 rfl ?_ ?_))
   all_goals (try (conv => whnf))
   all_goals (try first|exact obA|refine Ob.mk ?_)
   all_goals (try simp only [Int.toNat_natCast] at *)
   all_goals (try (exact absurd (Int.ofNat_lt.mpr hkl) (of_decide_eq_false (by assumption))))
   refine RangeStop.mk (α := Nat) ⟨ht,hat⟩ rfl (fun i => [(1,.box [.own 20]),(20,.own qE8 (((qAY t).take k).flatMap (qCJ t) ++ (qCJ t ((qA9 (fin t).L).getD k qAH.dflt)).take i))]) 80 (fun i j => j = i) 0 rfl ?_ (fun i j hC hi => ?_) (fun j hC => ?_)
   ·repeat' ((conv => whnf);first|(with_reducible first|rfl|exact qAE|exact qAD)|exact True.intro|intro _|refine WA ?_ ?_|refine WF ?_|refine W1 rfl ?_ ?_|refine W2 rfl ?_ ?_|refine W3 rfl ?_ ?_|refine W4 ?_ ?_|refine W5 rfl ?_ ?_|refine W6 ?_ ?_|refine WN ?_|refine X1 (W1 rfl ?_ ?_)|refine X1 (W2 rfl ?_ ?_)|refine X2 (W7 rfl ?_ ?_)|refine X3 (W7 rfl ?_ ?_)|refine X4 (W7 rfl ?_ ?_)|refine X5 (W7 rfl ?_ ?_))
    all_goals (try (conv => whnf))
    all_goals (try first|exact obA|refine Ob.mk ?_)
    all_goals (first | rfl | (rw [List.take_zero,List.append_nil];done) | trace_state)
   ·subst hC
    have hT : (qCJ t ((qA9 (fin t).L).getD k qAH.dflt)).take (j + 1) = (qCJ t ((qA9 (fin t).L).getD k qAH.dflt)).take j ++ [(qCJ t ((qA9 (fin t).L).getD k qAH.dflt)).getD j qE8.dflt] := qWS _ hi _
    have hTl : ((qCJ t ((qA9 (fin t).L).getD k qAH.dflt)).take j).length ≤ j := by rw [List.length_take];omega
    repeat' ((conv => whnf);first|(with_reducible first|rfl|exact qAE|exact qAD)|exact True.intro|intro _|refine WA ?_ ?_|refine WF ?_|refine W1 rfl ?_ ?_|refine W2 rfl ?_ ?_|refine W3 rfl ?_ ?_|refine W4 ?_ ?_|refine W5 rfl ?_ ?_|refine W6 ?_ ?_|refine WN ?_|refine X1 (W1 rfl ?_ ?_)|refine X1 (W2 rfl ?_ ?_)|refine X2 (W7 rfl ?_ ?_)|refine X3 (W7 rfl ?_ ?_)|refine X4 (W7 rfl ?_ ?_)|refine X5 (W7 rfl ?_ ?_))
    all_goals (try (conv => whnf))
    all_goals (try first|exact obA|refine Ob.mk ?_)
    all_goals (try (simp only [cast_eq,qY1,qSY,List.length_append,List.length_cons,List.length_nil] at *;omega))
    all_goals (refine Rnd.mk ⟨j + 1,rfl,?_⟩)
    repeat' ((conv => whnf);first|(with_reducible first|rfl|exact qAE|exact qAD)|exact True.intro|intro _|refine WA ?_ ?_|refine WF ?_|refine W1 rfl ?_ ?_|refine W2 rfl ?_ ?_|refine W3 rfl ?_ ?_|refine W4 ?_ ?_|refine W5 rfl ?_ ?_|refine W6 ?_ ?_|refine WN ?_|refine X1 (W1 rfl ?_ ?_)|refine X1 (W2 rfl ?_ ?_)|refine X2 (W7 rfl ?_ ?_)|refine X3 (W7 rfl ?_ ?_)|refine X4 (W7 rfl ?_ ?_)|refine X5 (W7 rfl ?_ ?_))
    all_goals (try (conv => whnf))
    all_goals (try first|exact obA|refine Ob.mk ?_)
    all_goals (try simp only [cast_eq])
    all_goals (first | (rw [hT, ← List.append_assoc];done) | rfl | trace_state)
   ·subst hC
    repeat' ((conv => whnf);first|(with_reducible first|rfl|exact qAE|exact qAD)|exact True.intro|intro _|refine WA ?_ ?_|refine WF ?_|refine W1 rfl ?_ ?_|refine W2 rfl ?_ ?_|refine W3 rfl ?_ ?_|refine W4 ?_ ?_|refine W5 rfl ?_ ?_|refine W6 ?_ ?_|refine WN ?_|refine X1 (W1 rfl ?_ ?_)|refine X1 (W2 rfl ?_ ?_)|refine X2 (W7 rfl ?_ ?_)|refine X3 (W7 rfl ?_ ?_)|refine X4 (W7 rfl ?_ ?_)|refine X5 (W7 rfl ?_ ?_))
    all_goals (try (conv => whnf))
    all_goals (try first|exact obA|refine Ob.mk ?_)
    all_goals (refine Rnd.mk ⟨k + 1,by omega,by omega,?_⟩)
    repeat' ((conv => whnf);first|(with_reducible first|rfl|exact qAE|exact qAD)|exact True.intro|intro _|refine WA ?_ ?_|refine WF ?_|refine W1 rfl ?_ ?_|refine W2 rfl ?_ ?_|refine W3 rfl ?_ ?_|refine W4 ?_ ?_|refine W5 rfl ?_ ?_|refine W6 ?_ ?_|refine WN ?_|refine X1 (W1 rfl ?_ ?_)|refine X1 (W2 rfl ?_ ?_)|refine X2 (W7 rfl ?_ ?_)|refine X3 (W7 rfl ?_ ?_)|refine X4 (W7 rfl ?_ ?_)|refine X5 (W7 rfl ?_ ?_))
    all_goals (try (conv => whnf))
    all_goals (try first|exact obA|refine Ob.mk ?_)
    all_goals (first | (rw [hF,List.take_length];done) | rfl | trace_state)
  ·have e : k = (qA9 (fin t).L).length := by have h : (qAY t).length = (qA9 (fin t).L).length := rfl;omega
   repeat' ((conv => whnf);first|(with_reducible first|rfl|exact qAE|exact qAD)|exact True.intro|intro _|refine WA ?_ ?_|refine WF ?_|refine W1 rfl ?_ ?_|refine W2 rfl ?_ ?_|refine W3 rfl ?_ ?_|refine W4 ?_ ?_|refine W5 rfl ?_ ?_|refine W6 ?_ ?_|refine WN ?_|refine X1 (W1 rfl ?_ ?_)|refine X1 (W2 rfl ?_ ?_)|refine X2 (W7 rfl ?_ ?_)|refine X3 (W7 rfl ?_ ?_)|refine X4 (W7 rfl ?_ ?_)|refine X5 (W7 rfl ?_ ?_))
   all_goals (try (conv => whnf))
   all_goals (try first|exact obA|refine Ob.mk ?_)
   all_goals (try (exact absurd (of_decide_eq_true (by assumption)) (by omega)))
   all_goals (unfold ofT;rw [e,show qAY t = qA9 (fin t).L from rfl,List.take_length])
end Go.Vc

namespace Go.Vc
open Go.Proofs
open Go.Vc.W
set_option maxRecDepth 10000
set_option maxHeartbeats 4000000
instance rROf (t : List qAG) : Fn BB 55 [.agg [.rd qAC t]] (qA1 t 45 = true) (.rd qE8 (ofT t)) := by
 refine Fn.intro (N := 90) [0,1,2,3,4,5,6,7,8,9,15,30,51] [(6,[0,0,0,0,0,0,0,0,6,6]),(10,[1,0,1,0,1,1,1,1,0,1,0,1,1,1,3,3]),(14,[0,0,0,1,1,0,1,0,1,1,1,0,0,0,1,1,1,0,0,1,1,0,1,0,1,1,1,0,0,1,1,1,3,3,3,3])] Tryz.call55 Tryz.func55 rfl rfl (by kernel_rfl) (fun hpre => ?_)
 have ht := hpre
 have hl := qSE ht
 repeat' ((conv => whnf);first|(with_reducible first|rfl|exact qAE|exact qAD)|exact True.intro|intro _|refine WA ?_ ?_|refine WF ?_|refine W1 rfl ?_ ?_|refine W2 rfl ?_ ?_|refine W3 rfl ?_ ?_|refine W4 ?_ ?_|refine W5 rfl ?_ ?_|refine W6 ?_ ?_|refine WN ?_|refine X1 (W1 rfl ?_ ?_)|refine X1 (W2 rfl ?_ ?_)|refine X2 (W7 rfl ?_ ?_)|refine X3 (W7 rfl ?_ ?_)|refine X4 (W7 rfl ?_ ?_)|refine X5 (W7 rfl ?_ ?_))
 all_goals (try (conv => whnf))
 all_goals (try first|exact obA|refine Ob.mk ?_)
 refine LoopStop.mk (α := Nat) (fun k => [(5,.int .i64 k),(3,.own 20)]) (fun k => [(20,.own qE8 (((qAY t).take k).flatMap (qCJ t)))]) 40 (fun k => k ≤ (qAY t).length) (fun k => (qAY t).length - k) 0 (Nat.zero_le _) ?_ (fun k hk => ?_)
 ·repeat' ((conv => whnf);first|(with_reducible first|rfl|exact qAE|exact qAD)|exact True.intro|intro _|refine WA ?_ ?_|refine WF ?_|refine W1 rfl ?_ ?_|refine W2 rfl ?_ ?_|refine W3 rfl ?_ ?_|refine W4 ?_ ?_|refine W5 rfl ?_ ?_|refine W6 ?_ ?_|refine WN ?_|refine X1 (W1 rfl ?_ ?_)|refine X1 (W2 rfl ?_ ?_)|refine X2 (W7 rfl ?_ ?_)|refine X3 (W7 rfl ?_ ?_)|refine X4 (W7 rfl ?_ ?_)|refine X5 (W7 rfl ?_ ?_))
  all_goals (try (conv => whnf))
  all_goals (try first|exact obA|refine Ob.mk ?_)
  all_goals (try rfl)
  all_goals trace_state
 ·by_cases hkl : k < (qAY t).length
  ·obtain ⟨i,hie⟩ : ∃ i,i = (qA9 (fin t).L).getD k qAH.dflt := ⟨_,rfl⟩
   have hat : 0 ≤ i ∧ i < t.length := by rw [hie];exact qDT t k hkl _
   have hF : ((qAY t).take (k + 1)).flatMap (qCJ t) = ((qAY t).take k).flatMap (qCJ t) ++ qCJ t i := by rw [hie];exact qKT (qCJ t) (qA9 (fin t).L) hkl qAH.dflt
   have hL := qWU ht (k + 1)
   rw [hF,List.length_append] at hL
   have hn := qIW ht i hat
   have hna := qB9 hn
   have hie2 : (qA9 (fin t).L).getD ((k : Int)).toNat qAH.dflt = i := by rw [Int.toNat_natCast];exact hie.symm
   repeat' ((conv => whnf);first|(with_reducible first|rfl|exact qAE|exact qAD)|exact True.intro|intro _|refine WA ?_ ?_|refine WF ?_|refine W1 rfl ?_ ?_|refine W2 rfl ?_ ?_|refine W3 rfl ?_ ?_|refine W4 ?_ ?_|refine W5 rfl ?_ ?_|refine W6 ?_ ?_|refine WN ?_|refine X1 (W1 rfl ?_ ?_)|refine X1 (W2 rfl ?_ ?_)|refine X2 (W7 rfl ?_ ?_)|refine X3 (W7 rfl ?_ ?_)|refine X4 (W7 rfl ?_ ?_)|refine X5 (W7 rfl ?_ ?_))
   all_goals (try (conv => whnf))
   all_goals (try first|exact obA|refine Ob.mk ?_)
   all_goals (try simp only [Int.toNat_natCast, ← hie])
   all_goals (try (exact absurd (Int.ofNat_lt.mpr hkl) (of_decide_eq_false (by assumption))))
   all_goals (try (exact hat))
   refine LoopStop.mk (α := Nat) (fun a => [(7,.int .i64 a),(3,.own 20)]) (fun a => [(20,.own qE8 (((qAY t).take k).flatMap (qCJ t) ++ ((nd t i).2.2.2.1.take a).flatMap (qE1 t i)))]) 60 (fun a => a ≤ (nd t i).2.2.2.1.length) (fun a => (nd t i).2.2.2.1.length - a) 0 (Nat.zero_le _) ?_ (fun a ha => ?_)
   ·repeat' ((conv => whnf);first|(with_reducible first|rfl|exact qAE|exact qAD)|exact True.intro|intro _|refine WA ?_ ?_|refine WF ?_|refine W1 rfl ?_ ?_|refine W2 rfl ?_ ?_|refine W3 rfl ?_ ?_|refine W4 ?_ ?_|refine W5 rfl ?_ ?_|refine W6 ?_ ?_|refine WN ?_|refine X1 (W1 rfl ?_ ?_)|refine X1 (W2 rfl ?_ ?_)|refine X2 (W7 rfl ?_ ?_)|refine X3 (W7 rfl ?_ ?_)|refine X4 (W7 rfl ?_ ?_)|refine X5 (W7 rfl ?_ ?_))
    all_goals (try (conv => whnf))
    all_goals (try first|exact obA|refine Ob.mk ?_)
    all_goals (first | (rw [List.take_zero,List.flatMap_nil,List.append_nil];done) | rfl | trace_state)
   ·by_cases hal : a < (nd t i).2.2.2.1.length
    ·have hAo := qXU hn hal qAK.dflt
     have hA : ((nd t i).2.2.2.1.take (a + 1)).flatMap (qE1 t i) = ((nd t i).2.2.2.1.take a).flatMap (qE1 t i) ++ qE1 t i ((nd t i).2.2.2.1.getD a qAK.dflt) := qKT (qE1 t i) _ hal qAK.dflt
     have hAl : (((nd t i).2.2.2.1.take (a + 1)).flatMap (qE1 t i)).length ≤ (qCJ t i).length := by
      unfold qCJ
      conv => rhs;rw [← List.take_append_drop (a + 1) (nd t i).2.2.2.1,List.flatMap_append,List.length_append]
      omega
     rw [hA,List.length_append] at hAl
     have hWl := qHM t i ((nd t i).2.2.2.1.getD a qAK.dflt)
     have hG := fun j hj => qOH t i ((nd t i).2.2.2.1.getD a qAK.dflt) (j := j) hj qE8.dflt
     repeat' ((conv => whnf);first|(with_reducible first|rfl|exact qAE|exact qAD)|exact True.intro|intro _|refine WA ?_ ?_|refine WF ?_|refine W1 rfl ?_ ?_|refine W2 rfl ?_ ?_|refine W3 rfl ?_ ?_|refine W4 ?_ ?_|refine W5 rfl ?_ ?_|refine W6 ?_ ?_|refine WN ?_|refine X1 (W1 rfl ?_ ?_)|refine X1 (W2 rfl ?_ ?_)|refine X2 (W7 rfl ?_ ?_)|refine X3 (W7 rfl ?_ ?_)|refine X4 (W7 rfl ?_ ?_)|refine X5 (W7 rfl ?_ ?_))
     all_goals (try (conv => whnf))
     all_goals (try first|exact obA|refine Ob.mk ?_)
     all_goals (try simp only [Int.toNat_natCast] at *)
     all_goals (try (exact absurd (Int.ofNat_lt.mpr hal) (of_decide_eq_false (by assumption))))
     all_goals (try (first | exact Nat.le_trans hna.1 (by decide) | exact Nat.le_trans hAo.2 (by decide)))
     refine LoopStop.mk (α := Nat) (fun j => [(9,.int .i64 j),(3,.own 20)]) (fun j => [(20,.own qE8 (((qAY t).take k).flatMap (qCJ t) ++ ((nd t i).2.2.2.1.take a).flatMap (qE1 t i) ++ (qE1 t i ((nd t i).2.2.2.1.getD a qAK.dflt)).take j))]) 80 (fun j => j ≤ (qCL (nd t i) ((nd t i).2.2.2.1.getD a qAK.dflt)).length) (fun j => (qCL (nd t i) ((nd t i).2.2.2.1.getD a qAK.dflt)).length - j) 0 (Nat.zero_le _) ?_ (fun j hj => ?_)
     ·repeat' ((conv => whnf);first|(with_reducible first|rfl|exact qAE|exact qAD)|exact True.intro|intro _|refine WA ?_ ?_|refine WF ?_|refine W1 rfl ?_ ?_|refine W2 rfl ?_ ?_|refine W3 rfl ?_ ?_|refine W4 ?_ ?_|refine W5 rfl ?_ ?_|refine W6 ?_ ?_|refine WN ?_|refine X1 (W1 rfl ?_ ?_)|refine X1 (W2 rfl ?_ ?_)|refine X2 (W7 rfl ?_ ?_)|refine X3 (W7 rfl ?_ ?_)|refine X4 (W7 rfl ?_ ?_)|refine X5 (W7 rfl ?_ ?_))
      all_goals (try (conv => whnf))
      all_goals (try first|exact obA|refine Ob.mk ?_)
      all_goals (first | (rw [List.take_zero,List.append_nil];done) | rfl | trace_state)
     ·by_cases hjl : j < (qCL (nd t i) ((nd t i).2.2.2.1.getD a qAK.dflt)).length
      ·have hg := hG j hjl
       have hT := qWS (qE1 t i ((nd t i).2.2.2.1.getD a qAK.dflt)) (by rw [hWl];exact hjl) qE8.dflt
       rw [hg] at hT
       have hTl : ((qE1 t i ((nd t i).2.2.2.1.getD a qAK.dflt)).take j).length ≤ j := by rw [List.length_take];omega
       repeat' ((conv => whnf);first|(with_reducible first|rfl|exact qAE|exact qAD)|exact True.intro|intro _|refine WA ?_ ?_|refine WF ?_|refine W1 rfl ?_ ?_|refine W2 rfl ?_ ?_|refine W3 rfl ?_ ?_|refine W4 ?_ ?_|refine W5 rfl ?_ ?_|refine W6 ?_ ?_|refine WN ?_|refine X1 (W1 rfl ?_ ?_)|refine X1 (W2 rfl ?_ ?_)|refine X2 (W7 rfl ?_ ?_)|refine X3 (W7 rfl ?_ ?_)|refine X4 (W7 rfl ?_ ?_)|refine X5 (W7 rfl ?_ ?_))
       all_goals (try (conv => whnf))
       all_goals (try first|exact obA|refine Ob.mk ?_)
       all_goals (try (exact absurd (Int.ofNat_lt.mpr hjl) (of_decide_eq_false (by assumption))))
       all_goals (try (simp only [cast_eq,qY1,qSY,List.length_append,List.length_cons,List.length_nil] at *;omega))
       all_goals (refine Rnd.mk ⟨j + 1,by omega,by omega,?_⟩)
       repeat' ((conv => whnf);first|(with_reducible first|rfl|exact qAE|exact qAD)|exact True.intro|intro _|refine WA ?_ ?_|refine WF ?_|refine W1 rfl ?_ ?_|refine W2 rfl ?_ ?_|refine W3 rfl ?_ ?_|refine W4 ?_ ?_|refine W5 rfl ?_ ?_|refine W6 ?_ ?_|refine WN ?_|refine X1 (W1 rfl ?_ ?_)|refine X1 (W2 rfl ?_ ?_)|refine X2 (W7 rfl ?_ ?_)|refine X3 (W7 rfl ?_ ?_)|refine X4 (W7 rfl ?_ ?_)|refine X5 (W7 rfl ?_ ?_))
       all_goals (try (conv => whnf))
       all_goals (try first|exact obA|refine Ob.mk ?_)
       all_goals (have hie4 : (qA9 (fin t).L).getD ((k : Int)).toNat qAH.dflt = i := by rw [Int.toNat_natCast];exact hie.symm)
       all_goals (try simp only [hie4])
       all_goals (first | rfl | (rw [hT, ← List.append_assoc];exact congrArg (Chunk.own qE8) (congrArg (HAppend.hAppend _) rfl)) | trace_state)
      ·have ej : j = (qCL (nd t i) ((nd t i).2.2.2.1.getD a qAK.dflt)).length := by omega
       repeat' ((conv => whnf);first|(with_reducible first|rfl|exact qAE|exact qAD)|exact True.intro|intro _|refine WA ?_ ?_|refine WF ?_|refine W1 rfl ?_ ?_|refine W2 rfl ?_ ?_|refine W3 rfl ?_ ?_|refine W4 ?_ ?_|refine W5 rfl ?_ ?_|refine W6 ?_ ?_|refine WN ?_|refine X1 (W1 rfl ?_ ?_)|refine X1 (W2 rfl ?_ ?_)|refine X2 (W7 rfl ?_ ?_)|refine X3 (W7 rfl ?_ ?_)|refine X4 (W7 rfl ?_ ?_)|refine X5 (W7 rfl ?_ ?_))
       all_goals (try (conv => whnf))
       all_goals (try first|exact obA|refine Ob.mk ?_)
       all_goals (try (exact absurd (of_decide_eq_true (by assumption)) (fun h => hjl (Int.ofNat_lt.mp h))))
       all_goals (try (refine Rnd.mk ⟨a + 1,by omega,by omega,?_⟩))
       repeat' ((conv => whnf);first|(with_reducible first|rfl|exact qAE|exact qAD)|exact True.intro|intro _|refine WA ?_ ?_|refine WF ?_|refine W1 rfl ?_ ?_|refine W2 rfl ?_ ?_|refine W3 rfl ?_ ?_|refine W4 ?_ ?_|refine W5 rfl ?_ ?_|refine W6 ?_ ?_|refine WN ?_|refine X1 (W1 rfl ?_ ?_)|refine X1 (W2 rfl ?_ ?_)|refine X2 (W7 rfl ?_ ?_)|refine X3 (W7 rfl ?_ ?_)|refine X4 (W7 rfl ?_ ?_)|refine X5 (W7 rfl ?_ ?_))
       all_goals (try (conv => whnf))
       all_goals (try first|exact obA|refine Ob.mk ?_)
       all_goals (first | (rw [hA,ej, ← hWl,List.take_length,List.append_assoc];done) | rfl | trace_state)
    ·have ea : a = (nd t i).2.2.2.1.length := by omega
     repeat' ((conv => whnf);first|(with_reducible first|rfl|exact qAE|exact qAD)|exact True.intro|intro _|refine WA ?_ ?_|refine WF ?_|refine W1 rfl ?_ ?_|refine W2 rfl ?_ ?_|refine W3 rfl ?_ ?_|refine W4 ?_ ?_|refine W5 rfl ?_ ?_|refine W6 ?_ ?_|refine WN ?_|refine X1 (W1 rfl ?_ ?_)|refine X1 (W2 rfl ?_ ?_)|refine X2 (W7 rfl ?_ ?_)|refine X3 (W7 rfl ?_ ?_)|refine X4 (W7 rfl ?_ ?_)|refine X5 (W7 rfl ?_ ?_))
     all_goals (try (conv => whnf))
     all_goals (try first|exact obA|refine Ob.mk ?_)
     all_goals (try (exact absurd (of_decide_eq_true (by assumption)) (fun h => hal (Int.ofNat_lt.mp h))))
     all_goals (try (refine Rnd.mk ⟨k + 1,by omega,by omega,?_⟩))
     repeat' ((conv => whnf);first|(with_reducible first|rfl|exact qAE|exact qAD)|exact True.intro|intro _|refine WA ?_ ?_|refine WF ?_|refine W1 rfl ?_ ?_|refine W2 rfl ?_ ?_|refine W3 rfl ?_ ?_|refine W4 ?_ ?_|refine W5 rfl ?_ ?_|refine W6 ?_ ?_|refine WN ?_|refine X1 (W1 rfl ?_ ?_)|refine X1 (W2 rfl ?_ ?_)|refine X2 (W7 rfl ?_ ?_)|refine X3 (W7 rfl ?_ ?_)|refine X4 (W7 rfl ?_ ?_)|refine X5 (W7 rfl ?_ ?_))
     all_goals (try (conv => whnf))
     all_goals (try first|exact obA|refine Ob.mk ?_)
     all_goals (first | (rw [hF,ea,List.take_length];rfl) | rfl | trace_state)
  ·have e : k = (qA9 (fin t).L).length := by have h : (qAY t).length = (qA9 (fin t).L).length := rfl;omega
   repeat' ((conv => whnf);first|(with_reducible first|rfl|exact qAE|exact qAD)|exact True.intro|intro _|refine WA ?_ ?_|refine WF ?_|refine W1 rfl ?_ ?_|refine W2 rfl ?_ ?_|refine W3 rfl ?_ ?_|refine W4 ?_ ?_|refine W5 rfl ?_ ?_|refine W6 ?_ ?_|refine WN ?_|refine X1 (W1 rfl ?_ ?_)|refine X1 (W2 rfl ?_ ?_)|refine X2 (W7 rfl ?_ ?_)|refine X3 (W7 rfl ?_ ?_)|refine X4 (W7 rfl ?_ ?_)|refine X5 (W7 rfl ?_ ?_))
   all_goals (try (conv => whnf))
   all_goals (try first|exact obA|refine Ob.mk ?_)
   all_goals (try (exact absurd (of_decide_eq_true (by assumption)) (by omega)))
   all_goals (unfold ofT;rw [e,show qAY t = qA9 (fin t).L from rfl,List.take_length])
end Go.Vc

namespace Go.Vc
open Go.Proofs
open Go.Vc.W
set_option maxRecDepth 10000
set_option maxHeartbeats 4000000
theorem Fn.wk {B : Base} {f : FuncId} {args args' : List SV} {pre : Prop} {res : SV} (F : Fn B f args pre res) (h : ∀ r β vs,qAT r β args' vs → qAT r β args vs) : Fn B f args' pre res :=
 ⟨F.call,fun hp r β w vs hG m hl => F.ok hp r β w vs hG m (h r β vs hl)⟩
theorem qbJ {r : Mem} {β : qAW} {v : Value} {a b c e f : SV} (h : Rel r β (.agg [a,b,c,.nils,e,f,.nils]) v) : Rel r β (.agg [a,b,c,.rd qAK [],e,f,.rd qAH []]) v := by
 cases h with
 | agg hl h =>
  refine .agg hl fun i sv v h1 h2 => ?_
  match i,h1 with
  | 0,h1 => exact h 0 _ _ h1 h2
  | 1,h1 => exact h 1 _ _ h1 h2
  | 2,h1 => exact h 2 _ _ h1 h2
  | 3,h1 => cases h1;exact qYA (h 3 _ _ rfl h2)
  | 4,h1 => exact h 4 _ _ h1 h2
  | 5,h1 => exact h 5 _ _ h1 h2
  | 6,h1 => cases h1;exact qYA (h 6 _ _ rfl h2)
  | n + 7,h1 => cases h1
theorem qcW {r : Mem} {β : qAW} {xs ys : List SV} (hl : xs.length = ys.length) (h : ∀ (i : Nat) (x y : SV),xs[i]? = some x → ys[i]? = some y → ∀ v,Rel r β x v → Rel r β y v) (vs : List Value) (q : qAT r β xs vs) : qAT r β ys vs := by
 refine ⟨by rw [q.1,hl],fun i y v h1 h2 => ?_⟩
 have hi : i < ys.length := by
  rcases Nat.lt_or_ge i ys.length with h | h
  ·exact h
  ·rw [List.getElem?_eq_none h] at h1;cases h1
 exact h i (xs[i]'(by omega)) y (List.getElem?_eq_getElem _) h1 v (q.2 i _ v (List.getElem?_eq_getElem _) h2)
instance nKind (k s : Int) (nn : List UInt8) (dt : List UInt8) (up : Int) (nm : List UInt8) : Fn BB 46 [.agg [.int .i64 k,.int .i64 s,.str nn,.nils,.str dt,.int .i64 up,.nils],.str nm] (nn.length ≤ 1000) (.int .i64 (qJK k s nn nm)) :=
 Fn.wk (rKind k s nn [] dt up [] nm) fun r β => qcW rfl fun i x y h1 h2 v hv => by
  match i,h1,h2 with
  | 0,h1,h2 => cases h1;cases h2;exact qbJ hv
  | 1,h1,h2 => cases h1;cases h2;exact hv
instance rSame (a : List qVR) : Fn BB 53 [.rd qE8 a,.rd qE8 a] True (.bool true) := by
 refine Fn.intro (N := 26) [0,1,4,5,10,14,25] [(6,[0,0,1,1,0,0,1,1,3])] Tryz.call53 Tryz.func53 rfl rfl (by kernel_rfl) (fun hpre => ?_)
 repeat' ((conv => whnf);first|(with_reducible first|rfl|exact qAE|exact qAD)|exact True.intro|intro _|refine WA ?_ ?_|refine WF ?_|refine W1 rfl ?_ ?_|refine W2 rfl ?_ ?_|refine W3 rfl ?_ ?_|refine W4 ?_ ?_|refine W5 rfl ?_ ?_|refine W6 ?_ ?_|refine WN ?_|refine X1 (W1 rfl ?_ ?_)|refine X1 (W2 rfl ?_ ?_)|refine X2 (W7 rfl ?_ ?_)|refine X3 (W7 rfl ?_ ?_)|refine X4 (W7 rfl ?_ ?_)|refine X5 (W7 rfl ?_ ?_))
 all_goals (try (conv => whnf))
 all_goals (try first|exact obA|refine Ob.mk ?_)
 ·have h := ‹((a.length : Int) != (a.length : Int)) = true›
  rw [bne_self_eq_false] at h;exact h
 refine LoopStop.mk (α := Nat) (fun k => [(5,.int .i64 k)]) (fun _ => []) 20 (fun k => k ≤ a.length) (fun k => a.length - k) 0 (Nat.zero_le _) ?_ (fun k hk => ?_)
 ·all_goals exact vcA
 ·repeat' ((conv => whnf);first|(with_reducible first|rfl|exact qAE|exact qAD)|exact True.intro|intro _|refine WA ?_ ?_|refine WF ?_|refine W1 rfl ?_ ?_|refine W2 rfl ?_ ?_|refine W3 rfl ?_ ?_|refine W4 ?_ ?_|refine W5 rfl ?_ ?_|refine W6 ?_ ?_|refine WN ?_|refine X1 (W1 rfl ?_ ?_)|refine X1 (W2 rfl ?_ ?_)|refine X2 (W7 rfl ?_ ?_)|refine X3 (W7 rfl ?_ ?_)|refine X4 (W7 rfl ?_ ?_)|refine X5 (W7 rfl ?_ ?_))
  all_goals (try (conv => whnf))
  all_goals (try first|exact obA|refine Ob.mk ?_)
  all_goals (try simp only [ZA,ZB,ZC,ZD,ZE,ZF,ZG,ZH,ZI,ZJ,ZK,ZL,ZM,ZN,ZO,Int.toNat_natCast,UInt8.ofNat_toNat,cast_eq] at *)
  all_goals (try omega)
  ·exfalso;revert ‹(_ && _) = false›;simp
  ·refine Rnd.mk ⟨k + 1,by omega,by omega,?_⟩
   all_goals exact vcA
end Go.Vc

namespace Go.Vc
open Go.Proofs
set_option maxRecDepth 10000
def qjR (l : List Int) : Nat → Nat
 | 0 => 0
 | k + 1 => bif l.getD k 0 == -1 then k + 1 else qjR l k
def qvO (l : List Int) : Nat := qjR l l.length
instance a43 (l : List Int) : Fn BB 339 [.rd qAH l] True (.int .i64 (qvO l)) := by
 refine Fn.intro (N := 18) [0,2,3,8,15] [] Tryz.call339 Tryz.func339 rfl rfl (by kernel_rfl) (fun hpre => ?_)
 repeat' ((conv => whnf);first|(with_reducible first|rfl|exact qAE|exact qAD)|exact True.intro|intro _|refine WA ?_ ?_|refine WF ?_|refine W1 rfl ?_ ?_|refine W2 rfl ?_ ?_|refine W3 rfl ?_ ?_|refine W4 ?_ ?_|refine W5 rfl ?_ ?_|refine W6 ?_ ?_|refine WN ?_|refine X1 (W1 rfl ?_ ?_)|refine X1 (W2 rfl ?_ ?_)|refine X2 (W7 rfl ?_ ?_)|refine X3 (W7 rfl ?_ ?_)|refine X4 (W7 rfl ?_ ?_)|refine X5 (W7 rfl ?_ ?_))
 all_goals (try (conv => whnf))
 all_goals (try first|exact obA|refine Ob.mk ?_)
 refine LoopStop.mk (α := Nat) (fun i => [(3,.int .i64 ((l.length : Int) - 1 - i))]) (fun i => []) 20 (fun i => i ≤ l.length ∧ qvO l = qjR l (l.length - i)) (fun i => l.length - i) 0 (by simp [qvO]) ?_ (fun i hC => ?_)
 ·all_goals exact vcA
 ·obtain ⟨hi,hC⟩ := hC
  repeat' ((conv => whnf);first|(with_reducible first|rfl|exact qAE|exact qAD)|exact True.intro|intro _|refine WA ?_ ?_|refine WF ?_|refine W1 rfl ?_ ?_|refine W2 rfl ?_ ?_|refine W3 rfl ?_ ?_|refine W4 ?_ ?_|refine W5 rfl ?_ ?_|refine W6 ?_ ?_|refine WN ?_|refine X1 (W1 rfl ?_ ?_)|refine X1 (W2 rfl ?_ ?_)|refine X2 (W7 rfl ?_ ?_)|refine X3 (W7 rfl ?_ ?_)|refine X4 (W7 rfl ?_ ?_)|refine X5 (W7 rfl ?_ ?_))
  all_goals (try (conv => whnf))
  all_goals (try first|exact obA|refine Ob.mk ?_)
  ·rename_i hp h
   have hp : (l.length : Int) - 1 - i ≥ 0 := by simpa using hp
   obtain ⟨k,hk⟩ : ∃ k,l.length - i = k + 1 := ⟨l.length - i - 1,by omega⟩
   rw [hk,qjR] at hC
   have h : (l.getD k 0 == -1) = true := by rw [← h,show ((l.length : Int) - 1 - i).toNat = k by omega];rfl
   rw [h,cond_true] at hC
   rw [hC];omega
  ·rename_i hp h
   have hp : (l.length : Int) - 1 - i ≥ 0 := by simpa using hp
   obtain ⟨k,hk⟩ : ∃ k,l.length - i = k + 1 := ⟨l.length - i - 1,by omega⟩
   rw [hk,qjR] at hC
   have h : (l.getD k 0 == -1) = false := by rw [← h,show ((l.length : Int) - 1 - i).toNat = k by omega];rfl
   rw [h,cond_false] at hC
   refine Rnd.mk ⟨i + 1,⟨by omega,by rw [hC];congr 1;omega⟩,by omega,?_,?_,?_⟩
   all_goals exact vcA
  ·(try simp only [ZA,ZB,ZC,ZD,ZE,ZF,ZG,ZH,ZI,ZJ,ZK,ZL,ZM,ZN,ZO,Int.toNat_natCast,UInt8.ofNat_toNat,cast_eq] at *)
   rw [hC,show l.length - i = 0 by omega];rfl
instance a46 (l : List qAG) (i : Int) : Fn BB 341 [.agg [.rd qAC l],.int .i64 i] True (.bool (isT l i)) := by
 refine Fn.intro (N := 14) [0,1,2,4] [] Tryz.call341 Tryz.func341 rfl rfl (by kernel_rfl) (fun hpre => ?_)
 repeat' ((conv => whnf);first|(with_reducible first|rfl|exact qAE|exact qAD)|exact True.intro|intro _|refine WA ?_ ?_|refine WF ?_|refine W1 rfl ?_ ?_|refine W2 rfl ?_ ?_|refine W3 rfl ?_ ?_|refine W4 ?_ ?_|refine W5 rfl ?_ ?_|refine W6 ?_ ?_|refine WN ?_|refine X1 (W1 rfl ?_ ?_)|refine X1 (W2 rfl ?_ ?_)|refine X2 (W7 rfl ?_ ?_)|refine X3 (W7 rfl ?_ ?_)|refine X4 (W7 rfl ?_ ?_)|refine X5 (W7 rfl ?_ ?_))
 all_goals (try (conv => whnf))
 all_goals (try first|exact obA|refine Ob.mk ?_)
 all_goals (simp_all [isT];done)
end Go.Vc

namespace Go.Vc.W
open Go.Proofs
set_option maxRecDepth 10000
def qeJ : List UInt8 := [97,32,98,32,98,105,103,32,99,111,100,101,32,101,109,32,102,111,110,116,32,105,32,110,111,98,114,32,115,32,115,109,97,108,108,32,115,116,114,105,107,101,32,115,116,114,111,110,103,32,116,116,32,117]
def qt9 : List UInt8 := [104,49,32,104,50,32,104,51,32,104,52,32,104,53,32,104,54]
def cImpl : List UInt8 := [100,100,32,100,116,32,108,105,32,111,112,116,103,114,111,117,112,32,111,112,116,105,111,110,32,112,32,114,98,32,114,112,32,114,116,32,114,116,99]
def qhH : List UInt8 := [97,100,100,114,101,115,115,32,97,114,116,105,99,108,101,32,97,115,105,100,101,32,98,108,111,99,107,113,117,111,116,101,32,99,101,110,116,101,114,32,100,101,116,97,105,108,115,32,100,105,97,108,111,103,32,100,105,114,32,100,105,118,32,100,108,32,102,105,101,108,100,115,101,116,32,102,105,103,99,97,112,116,105,111,110,32,102,105,103,117,114,101,32,102,111,111,116,101,114,32,104,101,97,100,101,114,32,104,103,114,111,117,112,32,108,105,115,116,105,110,103,32,109,97,105,110,32,109,101,110,117,32,110,97,118,32,111,108,32,112,32,112,114,101,32,115,101,97,114,99,104,32,115,101,99,116,105,111,110,32,115,117,109,109,97,114,121,32,117,108]
def cRc : List UInt8 := [116,101,120,116,97,114,101,97,32,116,105,116,108,101]
def qw6 : List UInt8 := [105,102,114,97,109,101,32,110,111,101,109,98,101,100,32,110,111,102,114,97,109,101,115,32,115,116,121,108,101,32,120,109,112]
def qYM : List UInt8 := [115,99,114,105,112,116]
def qbR : List UInt8 := [112,108,97,105,110,116,101,120,116]
def has (c nm : List UInt8) : Bool := (spl c).contains nm
def kHtml (sp : Int) (nm c : List UInt8) : Bool := sp == 0 && has c nm
def qbO (nm : List UInt8) : Int := if has cRc nm then 1 else if has qw6 nm then 2 else if nm = qYM then 3 else if nm = qbR then 4 else 0
instance f28 (sp : Int) (nm c : List UInt8) : Fn BB 171 [.int .i64 sp,.str nm,.str c] (nm.length ≤ 60 ∧ c.length ≤ 100000) (.bool (kHtml sp nm c)) := by
 refine Fn.intro (N := 14) [0,1,2,6] [] Tryz.call171 Tryz.func171 rfl rfl (by kernel_rfl) (fun hpre => ?_)
 all_goals exact vcA
end Go.Vc.W

namespace Go.Vc.W
open Go.Proofs
set_option maxRecDepth 10000
instance f9 (sp : Int) (nm : List UInt8) : Fn BB 229 [.int .i64 sp,.str nm] (nm.length ≤ 60) (.bool (kHtml sp nm qeJ)) := by
 refine Fn.intro (N := 8) [0,1,4] [] Tryz.call229 Tryz.func229 rfl rfl (by kernel_rfl) (fun hpre => ?_)
 all_goals exact vcA
instance f13 (sp : Int) (nm : List UInt8) : Fn BB 195 [.int .i64 sp,.str nm] (nm.length ≤ 60) (.bool (kHtml sp nm qt9)) := by
 refine Fn.intro (N := 8) [0,1,4] [] Tryz.call195 Tryz.func195 rfl rfl (by kernel_rfl) (fun hpre => ?_)
 all_goals exact vcA
instance f15 (sp : Int) (nm : List UInt8) : Fn BB 351 [.int .i64 sp,.str nm] (nm.length ≤ 60) (.bool (kHtml sp nm cImpl)) := by
 refine Fn.intro (N := 8) [0,1,4] [] Tryz.call351 Tryz.func351 rfl rfl (by kernel_rfl) (fun hpre => ?_)
 all_goals exact vcA
instance f17 (nm : List UInt8) : Fn BB 196 [.str nm] (nm.length ≤ 60) (.bool (has qhH nm)) := by
 refine Fn.intro (N := 5) [0,2] [] Tryz.call196 Tryz.func196 rfl rfl (by kernel_rfl) (fun hpre => ?_)
 all_goals exact vcA
instance f25 (nm : List UInt8) : Fn BB 153 [.str nm] (nm.length ≤ 60) (.int .i64 (qbO nm)) := by
 refine Fn.intro (N := 11) [0,2,4,6,8,10] [] Tryz.call153 Tryz.func153 rfl rfl (by kernel_rfl) (fun hpre => ?_)
 repeat' ((conv => whnf);first|(with_reducible first|rfl|exact qAE|exact qAD)|exact True.intro|intro _|refine WA ?_ ?_|refine WF ?_|refine W1 rfl ?_ ?_|refine W2 rfl ?_ ?_|refine W3 rfl ?_ ?_|refine W4 ?_ ?_|refine W5 rfl ?_ ?_|refine W6 ?_ ?_|refine WN ?_|refine X1 (W1 rfl ?_ ?_)|refine X1 (W2 rfl ?_ ?_)|refine X2 (W7 rfl ?_ ?_)|refine X3 (W7 rfl ?_ ?_)|refine X4 (W7 rfl ?_ ?_)|refine X5 (W7 rfl ?_ ?_))
 all_goals (try (conv => whnf))
 all_goals (try first|exact obA|refine Ob.mk ?_)
 all_goals (unfold qbO has cRc qw6;simp_all [qYM,qbR];done)
end Go.Vc.W

namespace Go.Vc
open Go.Proofs
set_option maxRecDepth 10000
def qlE : qAG := ((1 : Int),(0 : Int),([] : List UInt8),([] : List qAJ),([] : List UInt8),(0 : Int),([] : List Int))
def qFJ (l : List qAG) (i : Int) : qAG := bif isT l i then l.getD i.toNat qAC.dflt else qlE
theorem qTH {l : List qAG} {i : Int} (h : isT l i = true) : qFJ l i = l.getD i.toNat qAC.dflt := by rw [qFJ,h];rfl
theorem qOL {l : List qAG} {i : Int} (h : isT l i = false) : qFJ l i = qlE := by rw [qFJ,h];rfl
instance s103 (l : List qAG) (i : Int) : Fn BB 314 [.agg [.rd qAC l],.int .i64 i] True (.agg (qAC.enc (qFJ l i))) := by
 cases h : isT l i with
 | true =>
  rw [qTH h]
  refine Fn.intro (N := 20) [0,1,2,4,13] [] Tryz.call314 Tryz.func314 rfl rfl (by kernel_rfl) (fun hpre => ?_)
  repeat' ((conv => whnf);first|(with_reducible first|rfl|exact qAE|exact qAD)|exact True.intro|intro _|refine WA ?_ ?_|refine WF ?_|refine W1 rfl ?_ ?_|refine W2 rfl ?_ ?_|refine W3 rfl ?_ ?_|refine W4 ?_ ?_|refine W5 rfl ?_ ?_|refine W6 ?_ ?_|refine WN ?_|refine X1 (W1 rfl ?_ ?_)|refine X1 (W2 rfl ?_ ?_)|refine X2 (W7 rfl ?_ ?_)|refine X3 (W7 rfl ?_ ?_)|refine X4 (W7 rfl ?_ ?_)|refine X5 (W7 rfl ?_ ?_))
  all_goals (try (conv => whnf))
  all_goals (try first|exact obA|refine Ob.mk ?_)
  all_goals (try (first | (exact rfl) | (rename_i hx;exact qAD hx) | (rename_i hx;exact qAE hx)))
  all_goals (first | (simp_all [isT];done) | (exfalso;simp_all [isT];omega))
 | false =>
  rw [qOL h]
  refine Fn.intro (N := 20) [0,1,2,4,13] [] Tryz.call314 Tryz.func314 rfl rfl (by kernel_rfl) (fun hpre => ?_)
  repeat' ((conv => whnf);first|(with_reducible first|rfl|exact qAE|exact qAD)|exact True.intro|intro _|refine WA ?_ ?_|refine WF ?_|refine W1 rfl ?_ ?_|refine W2 rfl ?_ ?_|refine W3 rfl ?_ ?_|refine W4 ?_ ?_|refine W5 rfl ?_ ?_|refine W6 ?_ ?_|refine WN ?_|refine X1 (W1 rfl ?_ ?_)|refine X1 (W2 rfl ?_ ?_)|refine X2 (W7 rfl ?_ ?_)|refine X3 (W7 rfl ?_ ?_)|refine X4 (W7 rfl ?_ ?_)|refine X5 (W7 rfl ?_ ?_))
  all_goals (try (conv => whnf))
  all_goals (try first|exact obA|refine Ob.mk ?_)
  all_goals (try (first | (exact rfl) | (rename_i hx;exact qAD hx) | (rename_i hx;exact qAE hx)))
  all_goals (exfalso;rename_i hx;simp only [isT] at h;(try simp only [ZA,ZB,ZC,ZD,ZE,ZF,ZG,ZH,ZI,ZJ,ZK,ZL,ZM,ZN,ZO,Bool.and_eq_false_iff,Bool.or_eq_false_iff,ge_iff_le,gt_iff_lt,Int.toNat_natCast,UInt8.ofNat_toNat,cast_eq] at *);omega)
def qcD (l : List qAG) : Prop := ∀ i : Int,(qFJ l i).2.2.1.length ≤ 60
def isE (l : List qAG) (i : Int) (nm : List UInt8) : Bool := isT l i && ((qFJ l i).1 == 1 && ((qFJ l i).2.1 == 0 && (W.spl nm).contains (qFJ l i).2.2.1))
instance s49 (l : List qAG) (i : Int) (nm : List UInt8) : Fn BB 258 [.agg [.rd qAC l],.int .i64 i,.str nm] (nm.length ≤ 100000) (.bool (isE l i nm)) := by
 refine Fn.intro (N := 36) [0,1,2,3,6,7] [] Tryz.call258 Tryz.func258 rfl rfl (by kernel_rfl) (fun hpre => ?_)
 repeat' ((conv => whnf);first|(with_reducible first|rfl|exact qAE|exact qAD)|exact True.intro|intro _|refine WA ?_ ?_|refine WF ?_|refine W1 rfl ?_ ?_|refine W2 rfl ?_ ?_|refine W3 rfl ?_ ?_|refine W4 ?_ ?_|refine W5 rfl ?_ ?_|refine W6 ?_ ?_|refine WN ?_|refine X1 (W1 rfl ?_ ?_)|refine X1 (W2 rfl ?_ ?_)|refine X2 (W7 rfl ?_ ?_)|refine X3 (W7 rfl ?_ ?_)|refine X4 (W7 rfl ?_ ?_)|refine X5 (W7 rfl ?_ ?_))
 all_goals (try (conv => whnf))
 all_goals (try first|exact obA|refine Ob.mk ?_)
 all_goals (simp only [isE,isT,ge_iff_le,Bool.and_assoc])
end Go.Vc

namespace Go.Vc
open Go.Proofs
set_option maxRecDepth 10000
def qu6 (l : List Int) : Int := bif decide (l.length = 0) then -1 else l.getD (l.length - 1) 0
instance s47 (l : List Int) : Fn BB 183 [.rd qAH l] True (.int .i64 (qu6 l)) := by
  refine Fn.intro (N := 12) [0,2,5] [] Tryz.call183 Tryz.func183 rfl rfl (by kernel_rfl) (fun hpre => ?_)
  repeat' ((conv => whnf);first|(with_reducible first|rfl|exact qAE|exact qAD)|exact True.intro|intro _|refine WA ?_ ?_|refine WF ?_|refine W1 rfl ?_ ?_|refine W2 rfl ?_ ?_|refine W3 rfl ?_ ?_|refine W4 ?_ ?_|refine W5 rfl ?_ ?_|refine W6 ?_ ?_|refine WN ?_|refine X1 (W1 rfl ?_ ?_)|refine X1 (W2 rfl ?_ ?_)|refine X2 (W7 rfl ?_ ?_)|refine X3 (W7 rfl ?_ ?_)|refine X4 (W7 rfl ?_ ?_)|refine X5 (W7 rfl ?_ ?_))
  all_goals (try (conv => whnf))
  all_goals (try first|exact obA|refine Ob.mk ?_)
  · rename_i h
    have : l.length = 0 := by simpa using h
    rw [qu6,decide_eq_true this];rfl
  · have : ¬ l.length = 0 := by
      have h : (((l.length : Nat) : Int) == 0) = false := ‹_›
      simpa using h
    rw [qu6,decide_eq_false this,cond_false];congr 1;omega
end Go.Vc

namespace Go.Vc
open Go.Proofs
set_option maxRecDepth 10000
def qQN (t : List qAG) (but : List UInt8) (x : Int) : Bool := (qFJ t x).1 == 1 && (W.kHtml (qFJ t x).2.1 (qFJ t x).2.2.1 W.cImpl && !(W.spl but).contains (qFJ t x).2.2.1)
def qVU (q : Int → Bool) (l : List Int) : Nat → Nat
 | 0 => 0
 | 1 => 1
 | k + 2 => bif q (l.getD (k + 1) 0) then qVU q l (k + 1) else k + 2
def qX5 (p : Int → Bool) (l : List Int) : Nat → Nat
 | 0 => 0
 | 1 => 1
 | k + 2 => bif p (l.getD (k + 1) 0) then k + 1 else qX5 p l (k + 1)
theorem qNZ {q : Int → Bool} {l : List Int} {n : Nat} (h : 1 < n) : qVU q l n = bif q (l.getD (n - 1) 0) then qVU q l (n - 1) else n := by
 obtain ⟨k,rfl⟩ : ∃ k,n = k + 2 := ⟨n - 2,by omega⟩
 rw [qVU];rfl
theorem qQM {q : Int → Bool} {l : List Int} {n : Nat} (h : 1 < n) : qX5 q l n = bif q (l.getD (n - 1) 0) then n - 1 else qX5 q l (n - 1) := by
 obtain ⟨k,rfl⟩ : ∃ k,n = k + 2 := ⟨n - 2,by omega⟩
 rw [qX5];rfl
theorem qaB {q : Int → Bool} {l : List Int} {n : Nat} (h : ¬ 1 < n) : qVU q l n = n := by
 match n,h with
 | 0,_ => rfl
 | 1,_ => rfl
 | k + 2,h => omega
theorem qaU {q : Int → Bool} {l : List Int} {n : Nat} (h : ¬ 1 < n) : qX5 q l n = n := by
 match n,h with
 | 0,_ => rfl
 | 1,_ => rfl
 | k + 2,h => omega
theorem qdC {q : Int → Bool} {l : List Int} {n : Nat} (h : 1 < n) (hq : q (l.getD (n - 1) 0) = true) : qVU q l n = qVU q l (n - 1) := by rw [qNZ h,hq];rfl
theorem qXD {q : Int → Bool} {l : List Int} {n : Nat} (h : 1 < n) (hq : q (l.getD (n - 1) 0) = false) : qVU q l n = n := by rw [qNZ h,hq];rfl
end Go.Vc

namespace Go.Vc
open Go.Proofs
set_option maxRecDepth 10000
theorem qS2 {l : List Int} {n : Nat} (h : n ≤ l.length) : (l.take n).length = n := by simp;omega
theorem qPM {l : List Int} {n k : Nat} (h : k < n) : (l.take n).getD k 0 = l.getD k 0 := by
 simp [List.getD,List.getElem?_take,h]
theorem qPY {l : List Int} {n : Nat} : (l.take n).take (n - 1) = l.take (n - 1) := by rw [List.take_take];congr 1;omega
theorem qPP (t : List qAG) (but : List UInt8) (x : Int) : (!qQN t but x) = ((qFJ t x).1 != 1 || !W.kHtml (qFJ t x).2.1 (qFJ t x).2.2.1 W.cImpl || (W.spl but).contains (qFJ t x).2.2.1) := by
 simp only [qQN,Bool.not_and,Bool.not_not,bne,Bool.or_assoc]
theorem qaL {q : Int → Bool} {l : List Int} {n : Nat} (h : 1 < n) (hq : q (l.getD (n - 1) 0) = true) : qX5 q l n = n - 1 := by rw [qQM h,hq];rfl
theorem qcV {q : Int → Bool} {l : List Int} {n : Nat} (h : 1 < n) (hq : q (l.getD (n - 1) 0) = false) : qX5 q l n = qX5 q l (n - 1) := by rw [qQM h,hq];rfl
end Go.Vc

namespace Go.Vc
open Go.Proofs
set_option maxRecDepth 10000
def okI (n : Nat) (i : Int) : Prop := 0 ≤ i ∧ i < n
structure Ti (n : Nat) (U : Int → Int) (K : Int → List Int) : Prop where
 pos : 0 < n
 root : U 0 = -1
 kid : ∀ i,okI n i → ∀ k ∈ K i,okI n k ∧ U k = i
 up : ∀ i,okI n i → U i = -1 ∨ (okI n (U i) ∧ (K (U i)).count i = 1)
 dep : ∃ d : Int → Nat,∀ i,okI n i → U i ≠ -1 → d (U i) < d i
inductive Ds (U : Int → Int) (r : Int) : Int → Prop
 | here : Ds U r r
 | up {x : Int} : U x ≠ -1 → Ds U r (U x) → Ds U r x
theorem qP3 {l : List Int} {p q : Int → Bool} (h : ∀ x ∈ l,p x = true → q x = true) (y : Int) (hy : y ∈ l) (hp : p y = false) (hq : q y = true) : l.countP p < l.countP q := by
 induction l with
 | nil => cases hy
 | cons a l ih =>
  have hle : l.countP p ≤ l.countP q := List.countP_mono_left fun x hx => h x (List.mem_cons_of_mem _ hx)
  rw [List.countP_cons,List.countP_cons]
  rcases List.mem_cons.1 hy with rfl | hy
  ·rw [hp,hq];simp;omega
  ·have := ih (fun x hx => h x (List.mem_cons_of_mem _ hx)) hy
   have ha := h a List.mem_cons_self
   cases hpa : p a
   ·simp;omega
   ·rw [ha hpa];simp;omega
theorem Ti.rank {n : Nat} {U : Int → Int} {K : Int → List Int} (h : Ti n U K) : ∃ d : Int → Nat,(∀ i,okI n i → d i < n) ∧ ∀ i,okI n i → U i ≠ -1 → d (U i) < d i := by
 obtain ⟨d,hd⟩ := h.dep
 let L : List Int := (List.range n).map fun (k : Nat) => (k : Int)
 have hL : ∀ i,okI n i → i ∈ L := fun i hi => List.mem_map.2 ⟨i.toNat,List.mem_range.2 (by have := hi.2;have := hi.1;omega),by have := hi.1;omega⟩
 refine ⟨fun i => L.countP fun y => decide (d y < d i),fun i hi => ?_,fun i hi hu => ?_⟩
 ·have h1 : L.countP (fun y => decide (d y < d i)) < L.countP (fun _ => true) := qP3 (fun _ _ _ => rfl) i (hL i hi) (decide_eq_false (Nat.lt_irrefl _)) rfl
  have h2 : L.countP (fun _ => true) = n := by simp [L]
  show L.countP (fun y => decide (d y < d i)) < n
  omega
 ·have hd := hd i hi hu
  rcases h.up i hi with q | q
  ·exact absurd q hu
  ·exact qP3 (fun x _ hx => decide_eq_true (Nat.lt_trans (of_decide_eq_true hx) hd)) (U i) (hL _ q.1) (decide_eq_false (Nat.lt_irrefl _)) (decide_eq_true hd)
theorem Ds.le {n : Nat} {U : Int → Int} {K : Int → List Int} (h : Ti n U K) {d : Int → Nat} (hd : ∀ i,okI n i → U i ≠ -1 → d (U i) < d i) {r x : Int} (s : Ds U r x) : okI n x → d r ≤ d x := by
 induction s with
 | here => intro _;exact Nat.le_refl _
 | @up x hu _ ih =>
  intro hx
  rcases h.up x hx with q | q
  ·exact absurd q hu
  ·exact Nat.le_trans (ih q.1) (Nat.le_of_lt (hd x hx hu))
theorem Ds.self {n : Nat} {U : Int → Int} {K : Int → List Int} (h : Ti n U K) {r : Int} (hr : okI n r) (hu : U r ≠ -1) : ¬ Ds U r (U r) := by
 obtain ⟨d,hd⟩ := h.dep
 intro s
 rcases h.up r hr with q | q
 ·exact hu q
 ·have h1 := s.le h hd q.1
  have h2 := hd r hr hu
  omega
theorem qT3 {n : Nat} {U : Int → Int} {K : Int → List Int} (h : Ti n U K) {i k : Int} (hi : okI n i) : k ∈ K i ↔ okI n k ∧ U k = i := by
 refine ⟨h.kid i hi k,fun ⟨hk,e⟩ => ?_⟩
 rcases h.up k hk with q | q
 ·have := hi.1;omega
 ·have h2 := q.2
  rw [e] at h2
  exact List.count_pos_iff.1 (by omega)
theorem qa8 {n : Nat} {U : Int → Int} {K : Int → List Int} (h : Ti n U K) {i : Int} (hi : okI n i) (k : Int) : (K i).count k ≤ 1 := by
 by_cases hk : k ∈ K i
 ·have hk' := (qT3 h hi).1 hk
  rcases h.up k hk'.1 with q | q
  ·have := hi.1;omega
  ·have h2 := q.2;rw [hk'.2] at h2;omega
 ·rw [List.count_eq_zero_of_not_mem hk];omega
theorem qLT : ∀ (n : Nat) (l : List Int),(∀ x ∈ l,0 ≤ x ∧ x < (n : Int)) → (∀ x,l.count x ≤ 1) → l.length ≤ n
 | 0,l,h,_ => by
  cases l with
  | nil => exact Nat.le_refl _
  | cons a l => have := h a List.mem_cons_self;omega
 | n + 1,l,h,h1 => by
  have h2 := qLT n (l.erase (n : Int)) (fun x hx => by
   have hm := h x (List.mem_of_mem_erase hx)
   have : x ≠ (n : Int) := fun e => by
    subst e
    have := List.count_pos_iff.2 hx
    rw [List.count_erase_self] at this
    have := h1 (n : Int);omega
   omega) (fun x => Nat.le_trans (List.Sublist.count_le _ List.erase_sublist) (h1 x))
  have h3 := List.length_erase (a := (n : Int)) (l := l)
  split at h3 <;> omega
theorem Ti.len {n : Nat} {U : Int → Int} {K : Int → List Int} (h : Ti n U K) {i : Int} (hi : okI n i) : (K i).length ≤ n :=
 qLT n (K i) (fun x hx => (h.kid i hi x hx).1) (qa8 h hi)
theorem Ti.add {n : Nat} {U U' : Int → Int} {K K' : Int → List Int} (h : Ti n U K) (hU : ∀ i,okI n i → U' i = U i) (hK : ∀ i,okI n i → K' i = K i) (hn : U' n = -1) (hk : K' n = []) : Ti (n + 1) U' K' := by
 have hs : ∀ i,okI (n + 1) i → okI n i ∨ i = n := fun i hi => by have := hi.1;have := hi.2;rcases Int.lt_or_le i n with q | q;exact .inl ⟨by omega,by omega⟩;exact .inr (by omega)
 have ho : ∀ i,okI n i → okI (n + 1) i := fun i hi => ⟨hi.1,by have := hi.2;omega⟩
 have h0 : okI n 0 := ⟨by omega,by have := h.pos;omega⟩
 obtain ⟨d,hd⟩ := h.dep
 refine ⟨by omega,by rw [hU 0 h0];exact h.root,fun i hi k hk' => ?_,fun i hi => ?_,d,fun i hi hu => ?_⟩
 ·rcases hs i hi with q | rfl
  ·rw [hK i q] at hk'
   have := h.kid i q k hk'
   exact ⟨ho _ this.1,by rw [hU _ this.1];exact this.2⟩
  ·rw [hk] at hk';cases hk'
 ·rcases hs i hi with q | rfl
  ·rw [hU i q]
   rcases h.up i q with q' | q'
   ·exact .inl q'
   ·exact .inr ⟨ho _ q'.1,by rw [hK _ q'.1];exact q'.2⟩
  ·exact .inl hn
 ·rcases hs i hi with q | rfl
  ·rw [hU i q] at hu ⊢;exact hd i q hu
  ·exact absurd hn hu
theorem Ti.congr {n : Nat} {U U' : Int → Int} {K K' : Int → List Int} (h : Ti n U K) (hU : ∀ i,okI n i → U' i = U i) (hK : ∀ i,okI n i → K' i = K i) : Ti n U' K' := by
 have h0 : okI n 0 := ⟨by omega,by have := h.pos;omega⟩
 obtain ⟨d,hd⟩ := h.dep
 refine ⟨h.pos,by rw [hU 0 h0];exact h.root,fun i hi k hk' => ?_,fun i hi => ?_,d,fun i hi hu => ?_⟩
 ·rw [hK i hi] at hk'
  have := h.kid i hi k hk'
  exact ⟨this.1,by rw [hU k this.1];exact this.2⟩
 ·rw [hU i hi]
  rcases h.up i hi with q | q
  ·exact .inl q
  ·exact .inr ⟨q.1,by rw [hK _ q.1];exact q.2⟩
 ·rw [hU i hi] at hu ⊢;exact hd i hi hu
theorem Ti.cut {n : Nat} {U U' : Int → Int} {K K' : Int → List Int} (h : Ti n U K) {kid : Int} (hk : okI n kid) (hu : U kid ≠ -1) (hU : ∀ i,okI n i → U' i = if i = kid then -1 else U i) (hK : ∀ i,okI n i → i ≠ U kid → K' i = K i)
  (hKp : ∀ k,(K' (U kid)).count k + (if k = kid then 1 else 0) = (K (U kid)).count k) : Ti n U' K' := by
 have h0 : okI n 0 := ⟨by omega,by have := h.pos;omega⟩
 have hp : okI n (U kid) ∧ (K (U kid)).count kid = 1 := (h.up kid hk).resolve_left hu
 obtain ⟨d,hd⟩ := h.dep
 have hne : ∀ i,okI n i → ∀ k,k ∈ K' i → k ∈ K i ∧ k ≠ kid := fun i hi k hk' => by
  by_cases e : i = U kid
  ·subst e
   have h1 := List.count_pos_iff.2 hk'
   have h2 := hKp k
   by_cases e' : k = kid
   ·subst e';rw [if_pos rfl,hp.2] at h2;omega
   ·rw [if_neg e'] at h2
    exact ⟨List.count_pos_iff.1 (by omega),e'⟩
  ·rw [hK i hi e] at hk'
   refine ⟨hk',fun e' => ?_⟩
   subst e'
   exact e (h.kid i hi _ hk').2.symm
 refine ⟨h.pos,?_,fun i hi k hk' => ?_,fun i hi => ?_,d,fun i hi hu' => ?_⟩
 ·rw [hU 0 h0];split
  ·rfl
  ·exact h.root
 ·obtain ⟨a,b⟩ := hne i hi k hk'
  have := h.kid i hi k a
  exact ⟨this.1,by rw [hU k this.1,if_neg b];exact this.2⟩
 ·rw [hU i hi]
  split
  ·exact .inl rfl
  ·rename_i e
   rcases h.up i hi with q | q
   ·exact .inl q
   ·refine .inr ⟨q.1,?_⟩
    by_cases e2 : U i = U kid
    ·have h2 := hKp i
     rw [if_neg e,Nat.add_zero] at h2
     rw [e2,h2, ← e2];exact q.2
    ·rw [hK _ q.1 e2];exact q.2
 ·rw [hU i hi] at hu' ⊢
  split at hu'
  ·exact absurd rfl hu'
  ·rename_i e;rw [if_neg e];exact hd i hi hu'
open Classical in
theorem Ti.put {n : Nat} {U U' : Int → Int} {K K' : Int → List Int} (h : Ti n U K) {kid p : Int} (hk : okI n kid) (hk0 : kid ≠ 0) (hp : okI n p) (hu : U kid = -1) (hd' : ¬ Ds U kid p) (hU : ∀ i,okI n i → U' i = if i = kid then p else U i)
  (hK : ∀ i,okI n i → i ≠ p → K' i = K i) (hKp : ∀ k,(K' p).count k = (K p).count k + if k = kid then 1 else 0) : Ti n U' K' := by
 have h0 : okI n 0 := ⟨by omega,by have := h.pos;omega⟩
 obtain ⟨d,hd⟩ := h.dep
 have hno : kid ∉ K p := fun q => by have := (h.kid p hp _ q).2;have := hp.1;omega
 refine ⟨h.pos,by rw [hU 0 h0,if_neg (Ne.symm hk0)];exact h.root,fun i hi k hk' => ?_,fun i hi => ?_,fun x => if Ds U kid x then d x + d p + 1 else d x,fun i hi hu' => ?_⟩
 ·by_cases e : i = p
  ·subst e
   have hc := List.count_pos_iff.2 hk'
   rw [hKp] at hc
   by_cases ek : k = kid
   ·subst ek;exact ⟨hk,by rw [hU k hk,if_pos rfl]⟩
   ·rw [if_neg ek] at hc
    have := h.kid i hi k (List.count_pos_iff.1 (by omega))
    exact ⟨this.1,by rw [hU k this.1,if_neg ek];exact this.2⟩
  ·rw [hK i hi e] at hk'
   have := h.kid i hi k hk'
   exact ⟨this.1,by rw [hU k this.1,if_neg (fun ek => by subst ek;have := hi.1;omega)];exact this.2⟩
 ·rw [hU i hi]
  split
  ·rename_i e
   subst e
   exact .inr ⟨hp,by rw [hKp,if_pos rfl,List.count_eq_zero_of_not_mem hno]⟩
  ·rename_i e
   rcases h.up i hi with q | q
   ·exact .inl q
   ·refine .inr ⟨q.1,?_⟩
    by_cases eq : U i = p
    ·rw [eq,hKp,if_neg e,Nat.add_zero, ← eq];exact q.2
    ·rw [hK _ q.1 eq];exact q.2
 ·rw [hU i hi] at hu' ⊢
  by_cases e : i = kid
  ·subst e
   simp only [if_true]
   rw [if_neg hd',if_pos Ds.here];omega
  ·rw [if_neg e] at hu' ⊢
   have hlt := hd i hi hu'
   have hiff : Ds U kid i ↔ Ds U kid (U i) := ⟨fun s => by cases s with | here => exact absurd rfl e | up _ s => exact s,fun s => .up hu' s⟩
   simp only
   by_cases hs : Ds U kid i
   ·rw [if_pos hs,if_pos (hiff.1 hs)];omega
   ·rw [if_neg hs,if_neg (fun q => hs (hiff.2 q))];exact hlt
open Classical in
theorem Ti.move {n : Nat} {U U' : Int → Int} {K K' : Int → List Int} (h : Ti n U K) {a b : Int} (ha : okI n a) (hb : okI n b) (hd' : ¬ Ds U a b) (hU : ∀ i,okI n i → U' i = if i ∈ K a then b else U i)
    (hKa : K' a = []) (hKb : K' b = K b ++ K a) (hK : ∀ i,okI n i → i ≠ a → i ≠ b → K' i = K i) : Ti n U' K' := by
  have h0 : okI n 0 := ⟨by omega,by have := h.pos;omega⟩
  have hab : b ≠ a := fun e => hd' (by rw [e];exact .here)
  obtain ⟨d,hd⟩ := h.dep
  have hm : ∀ i,okI n i → (i ∈ K a ↔ U i = a) := fun i hi => by rw [qT3 h ha];exact ⟨fun q => q.2,fun q => ⟨hi,q⟩⟩
  have hU2 : ∀ i,okI n i → U' i = if U i = a then b else U i := fun i hi => by
    rw [hU i hi]
    by_cases q : i ∈ K a
    · rw [if_pos q,if_pos ((hm i hi).1 q)]
    · rw [if_neg q,if_neg (fun e => q ((hm i hi).2 e))]
  refine ⟨h.pos,by rw [hU2 0 h0,h.root,if_neg (by have := ha.1;omega)],fun i hi k hk' => ?_,fun i hi => ?_,fun x => if Ds U a x ∧ x ≠ a then d x + d b + 1 else d x,fun i hi hu' => ?_⟩
  · by_cases ea : i = a
    · subst ea;rw [hKa] at hk';cases hk'
    · by_cases eb : i = b
      · subst eb
        rw [hKb] at hk'
        rcases List.mem_append.1 hk' with q | q
        · have := h.kid i hi k q
          exact ⟨this.1,by rw [hU2 k this.1,this.2,if_neg hab]⟩
        · have := h.kid a ha k q
          exact ⟨this.1,by rw [hU2 k this.1,if_pos this.2]⟩
      · rw [hK i hi ea eb] at hk'
        have := h.kid i hi k hk'
        exact ⟨this.1,by rw [hU2 k this.1,this.2,if_neg ea]⟩
  · rw [hU2 i hi]
    by_cases e : U i = a
    · rw [if_pos e]
      refine .inr ⟨hb,?_⟩
      rw [hKb,List.count_append,List.count_eq_zero_of_not_mem (fun q => hab ((h.kid b hb i q).2.symm.trans e))]
      rcases h.up i hi with q | q
      · have := ha.1;omega
      · have h2 := q.2;rw [e] at h2;omega
    · rw [if_neg e]
      rcases h.up i hi with q | q
      · exact .inl q
      · refine .inr ⟨q.1,?_⟩
        by_cases eb : U i = b
        · rw [eb,hKb,List.count_append,List.count_eq_zero_of_not_mem (l := K a) (fun q' => e ((hm i hi).1 q'))]
          have h2 := q.2;rw [eb] at h2;omega
        · rw [hK _ q.1 e eb];exact q.2
  · rw [hU2 i hi] at hu' ⊢
    by_cases e : U i = a
    · rw [if_pos e]
      have hi2 : i ≠ a := fun q => by
        have hlt := hd i hi (by rw [e];have := ha.1;omega)
        rw [e,q] at hlt;omega
      simp only
      rw [if_neg (fun q => hd' q.1),if_pos ⟨.up (by rw [e];have := ha.1;omega) (by rw [e];exact .here),hi2⟩]
      omega
    · rw [if_neg e] at hu' ⊢
      have hlt := hd i hi hu'
      simp only
      by_cases hs : Ds U a i ∧ i ≠ a
      · have hs2 : Ds U a (U i) := by
          cases hs.1 with
          | here => exact absurd rfl hs.2
          | up _ s => exact s
        rw [if_pos hs,if_pos ⟨hs2,e⟩];omega
      · rw [if_neg hs]
        split
        · rename_i q
          by_cases hi2 : i = a
          · subst hi2
            exact absurd q.1 (Ds.self h hi hu')
          · exact absurd ⟨.up hu' q.1,hi2⟩ hs
        · exact hlt
end Go.Vc

namespace Go.Vc
open Go.Proofs
set_option maxRecDepth 10000
set_option maxHeartbeats 4000000
instance hNew : FnM BB 74 [] [] True (.agg [.own 0]) [(0,.own qAC [qWF])] := by
 refine FnM.intro (N := 4) [0] [] 0 Tryz.call74 Tryz.func74 rfl rfl (by kernel_rfl) (fun hpre => ?_)
 all_goals exact vcA
instance hIs (l : List qAG) (i : Int) : Fn BB 166 [.agg [.rd qAC l],.int .i64 i] True (.bool (isT l i)) := by
 refine Fn.intro (N := 14) [0,1,2,4] [] Tryz.call166 Tryz.func166 rfl rfl (by kernel_rfl) (fun hpre => ?_)
 all_goals exact vcA
instance hHolds (l : List qAG) (up kid : Int) : Fn BB 168 [.agg [.rd qAC l],.int .i64 up,.int .i64 kid] (l.length ≤ 100000) (.bool (qLL l up kid)) := by
  refine Fn.intro (N := 34) [0,1,2,3,6,7,22,27] [] Tryz.call168 Tryz.func168 rfl rfl (by kernel_rfl) (fun hpre => ?_)
  repeat' ((conv => whnf);first|(with_reducible first|rfl|exact qAE|exact qAD)|exact True.intro|intro _|refine WA ?_ ?_|refine WF ?_|refine W1 rfl ?_ ?_|refine W2 rfl ?_ ?_|refine W3 rfl ?_ ?_|refine W4 ?_ ?_|refine W5 rfl ?_ ?_|refine W6 ?_ ?_|refine WN ?_|refine X1 (W1 rfl ?_ ?_)|refine X1 (W2 rfl ?_ ?_)|refine X2 (W7 rfl ?_ ?_)|refine X3 (W7 rfl ?_ ?_)|refine X4 (W7 rfl ?_ ?_)|refine X5 (W7 rfl ?_ ?_))
  all_goals (try (conv => whnf))
  all_goals (try first|exact obA|refine Ob.mk ?_)
  refine LoopStop.mk (α := Nat × Int) (fun a => [(7,.int .i64 (a.1 : Nat)),(2,.int .i64 a.2)]) (fun _ => []) 30 (fun a => a.1 ≤ l.length + 1 ∧ (isT l up && qHF (l.length + 1 - a.1) l up a.2) = qLL l up kid) (fun a => l.length + 1 - a.1) (0,kid) ⟨by simp,rfl⟩ ?_ (fun a ha => ?_)
  · all_goals exact vcA
  · obtain ⟨k,x⟩ := a
    obtain ⟨h1,h2⟩ := ha
    dsimp only at h1 h2
    have c1 : (decide ((k : Int) ≤ (l.length : Int)) && isT l x && isT l up) = true → k ≤ l.length ∧ isT l x = true ∧ isT l up = true ∧ qHF (l.length + 1 - k) l up x = qLL l up kid := fun h => by
      simp only [Bool.and_eq_true] at h
      have h3 := of_decide_eq_true h.1.1
      rw [h.2,Bool.true_and] at h2
      exact ⟨by omega,h.1.2,h.2,h2⟩
    have c0 : (decide ((k : Int) ≤ (l.length : Int)) && isT l x && isT l up) = false → false = qLL l up kid := fun h => by
      rw [← h2]
      by_cases hu : isT l up = true
      · by_cases hx : isT l x = true
        · rw [hu,hx,Bool.and_true,Bool.and_true] at h
          have := of_decide_eq_false h
          rw [show l.length + 1 - k = 0 by omega,hu];rfl
        · have : qHF (l.length + 1 - k) l up x = false := by
            cases l.length + 1 - k with
            | zero => rfl
            | succ m => rw [qHF,if_neg hx]
          rw [this,Bool.and_false]
      · rw [show isT l up = false by simpa using hu];rfl
    have c2 : (decide ((k : Int) ≤ (l.length : Int)) && isT l x && isT l up) = true → (x == up) = true → true = qLL l up kid := fun h h' => by
      obtain ⟨q1,q2,q3,q4⟩ := c1 h
      rw [← q4,show l.length + 1 - k = (l.length - k) + 1 by omega,qHF,if_pos q2,if_pos (by simpa using h')]
    have c3 : (decide ((k : Int) ≤ (l.length : Int)) && isT l x && isT l up) = true → (x == up) = false → k ≤ l.length ∧ (isT l up && qHF (l.length + 1 - (k + 1)) l up (nd l x).up) = qLL l up kid := fun h h' => by
      obtain ⟨q1,q2,q3,q4⟩ := c1 h
      rw [← q4,show l.length + 1 - k = (l.length - k) + 1 by omega,qHF,if_pos q2,if_neg (by simpa using h'),q3,Bool.true_and,show l.length + 1 - (k + 1) = l.length - k by omega]
      exact ⟨q1,rfl⟩
    repeat' ((conv => whnf);first|(with_reducible first|rfl|exact qAE|exact qAD)|exact True.intro|intro _|refine WA ?_ ?_|refine WF ?_|refine W1 rfl ?_ ?_|refine W2 rfl ?_ ?_|refine W3 rfl ?_ ?_|refine W4 ?_ ?_|refine W5 rfl ?_ ?_|refine W6 ?_ ?_|refine WN ?_|refine X1 (W1 rfl ?_ ?_)|refine X1 (W2 rfl ?_ ?_)|refine X2 (W7 rfl ?_ ?_)|refine X3 (W7 rfl ?_ ?_)|refine X4 (W7 rfl ?_ ?_)|refine X5 (W7 rfl ?_ ?_))
    all_goals (try (conv => whnf))
    all_goals (try first|exact obA|refine Ob.mk ?_)
    all_goals (try dsimp only at *)
    all_goals (first | exact c2 ‹_› ‹_› | exact c0 ‹_› | exact qDZ.1 (c1 ‹_›).2.1 | (have := (c1 ‹_›).1;omega) | skip)
    obtain ⟨q1,q2⟩ := c3 ‹_› ‹_›
    refine Rnd.mk ⟨(k + 1,(nd l x).up),⟨by simp only;omega,q2⟩,by simp only;omega,?_⟩
    repeat' ((conv => whnf);first|(with_reducible first|rfl|exact qAE|exact qAD)|exact True.intro|intro _|refine WA ?_ ?_|refine WF ?_|refine W1 rfl ?_ ?_|refine W2 rfl ?_ ?_|refine W3 rfl ?_ ?_|refine W4 ?_ ?_|refine W5 rfl ?_ ?_|refine W6 ?_ ?_|refine WN ?_|refine X1 (W1 rfl ?_ ?_)|refine X1 (W2 rfl ?_ ?_)|refine X2 (W7 rfl ?_ ?_)|refine X3 (W7 rfl ?_ ?_)|refine X4 (W7 rfl ?_ ?_)|refine X5 (W7 rfl ?_ ?_))
    all_goals (try (conv => whnf))
    all_goals (try first|exact obA|refine Ob.mk ?_)
    all_goals (first | rfl | omega | trace_state)
end Go.Vc

namespace Go.Vc
open Go.Proofs
set_option maxRecDepth 10000
set_option maxHeartbeats 4000000
theorem qM6 (l : List Int) (i : Nat) (h : i < l.length) : l.take (i + 1) = l.take i ++ [l.getD i 0] := by
 rw [List.take_succ_eq_append_getElem h];simp [List.getD,List.getElem?_eq_getElem h]
def qZD (l : List Int) (a : Nat) (n : Int) (i : Nat) : List Int := (l.take a).take i ++ ((if a < i then [n] else []) ++ (l.take i).drop a)
theorem qXS (l : List Int) (a : Nat) (n : Int) (i : Nat) (h : i ≤ l.length) (ha : a ≤ l.length) : qZD l a n (i + 1) = (if i = a then qZD l a n i ++ [n] else qZD l a n i) ++ (if i < l.length then [l.getD i 0] else []) := by
 unfold qZD
 rcases Nat.lt_trichotomy i a with q | q | q
 ·rw [if_neg (show ¬ a < i + 1 by omega),if_neg (show ¬ a < i by omega),if_neg (show ¬ i = a by omega),if_pos (by omega),List.take_take,List.take_take,Nat.min_eq_left (by omega),Nat.min_eq_left (by omega),List.drop_eq_nil_of_le (by rw [List.length_take];omega),List.drop_eq_nil_of_le (by rw [List.length_take];omega)]
  simp only [List.append_nil]
  exact qM6 l i (by omega)
 ·subst q
  have hdr : (l.take i).drop i = [] := List.drop_eq_nil_of_le (by rw [List.length_take];omega)
  rw [if_pos (show i < i + 1 by omega),if_neg (show ¬ i < i by omega),if_pos rfl,List.take_take,List.take_take,Nat.min_eq_right (by omega),Nat.min_self,hdr]
  simp only [List.append_nil,List.append_assoc]
  congr 2
  by_cases hl : i < l.length
  ·rw [if_pos hl,qM6 l i hl,List.drop_append_of_le_length (by rw [List.length_take];omega),List.drop_eq_nil_of_le (by rw [List.length_take];omega)];rfl
  ·rw [if_neg hl,List.drop_eq_nil_of_le (by rw [List.length_take];omega)]
 ·rw [if_pos (show a < i + 1 by omega),if_pos (show a < i by omega),if_neg (show ¬ i = a by omega),List.take_take,List.take_take,Nat.min_eq_right (by omega),Nat.min_eq_right (by omega)]
  by_cases hl : i < l.length
  ·rw [if_pos hl,qM6 l i hl,List.drop_append_of_le_length (by rw [List.length_take];omega)]
   simp only [List.append_assoc]
  ·rw [if_neg hl,List.append_nil,List.take_of_length_le (l := l) (i := i + 1) (by omega),List.take_of_length_le (l := l) (i := i) (by omega)]
theorem qZP (l : List Int) (a : Nat) (n : Int) (h : a ≤ l.length) : qZD l a n (l.length + 1) = l.take a ++ n :: l.drop a := by
 unfold qZD
 rw [if_pos (by omega),List.take_take,List.take_of_length_le (l := l) (i := l.length + 1) (by omega),Nat.min_eq_right (by omega)]
 rfl
theorem qaQ (l : List Int) (a : Nat) (n : Int) (i : Nat) : (qZD l a n i).length ≤ i + 1 + i := by
 unfold qZD;simp only [List.length_append,List.length_take,List.length_drop];split <;> simp <;> omega
instance hPlace (l : List qAG) (kid : Int) : Fn BB 127 [.agg [.rd qAC l],.int .i64 kid] True (.int .i64 (qNT l kid)) := by
 refine Fn.intro (N := 46) [0,1,2,4,5,6,21,36,44] [(1,[1,0,1,1,1,1,1,1,1,1,1,1,3,3,3]),(3,[0,1,0,1,0,1,1,1,3,3,3,3])] Tryz.call127 Tryz.func127 rfl rfl (by kernel_rfl) (fun hpre => ?_)
 have p0 : (!isT l kid || !isT l (nd l kid).up) = true → (-1 : Int) = qNT l kid := fun h => by
  have h := qR6 h
  unfold qNT;rw [h];rfl
 have p1 : (!isT l kid || !isT l (nd l kid).up) = false → (0 ≤ kid ∧ kid < l.length) ∧ (0 ≤ (nd l kid).up ∧ (nd l kid).up < l.length) ∧ qNT l kid = qMT (nd l (nd l kid).up).kids kid := fun h => by
  obtain ⟨h1,h2⟩ := qO6 h
  refine ⟨qDZ.1 h1,qDZ.1 h2,?_⟩
  unfold qNT;rw [h1,h2];rfl
 repeat' ((conv => whnf);first|(with_reducible first|rfl|exact qAE|exact qAD)|exact True.intro|intro _|refine WA ?_ ?_|refine WF ?_|refine W1 rfl ?_ ?_|refine W2 rfl ?_ ?_|refine W3 rfl ?_ ?_|refine W4 ?_ ?_|refine W5 rfl ?_ ?_|refine W6 ?_ ?_|refine WN ?_|refine X1 (W1 rfl ?_ ?_)|refine X1 (W2 rfl ?_ ?_)|refine X2 (W7 rfl ?_ ?_)|refine X3 (W7 rfl ?_ ?_)|refine X4 (W7 rfl ?_ ?_)|refine X5 (W7 rfl ?_ ?_))
 all_goals (try (conv => whnf))
 all_goals (try first|exact obA|refine Ob.mk ?_)
 all_goals (try (have q := p0 ‹(!isT l kid || !isT l (nd l kid).up) = true›))
 all_goals (try (have q := p1 ‹(!isT l kid || !isT l (nd l kid).up) = false›;obtain ⟨q1,q2,q3⟩ := q))
 all_goals (first | exact q | exact q1 | exact q2 | (exact qDZ.1 (by simp_all;done)) | skip)
 generalize hks : (nd l (nd l kid).up).kids = ks at *
 have hks' : (l.getD (l.getD kid.toNat qAC.dflt).2.2.2.2.2.1.toNat qAC.dflt).2.2.2.2.2.2 = ks := hks
 try rw [hks']
 refine LoopStop.mk (α := Nat) (fun i => [(6,.int .i64 i)]) (fun _ => []) 20 (fun i => i ≤ ks.length ∧ (ks.take i).contains kid = false) (fun i => ks.length - i) 0 (by simp) ?_ (fun i hi => ?_)
 ·all_goals exact vcA
 ·obtain ⟨hi,ha⟩ := hi
  repeat' ((conv => whnf);first|(with_reducible first|rfl|exact qAE|exact qAD)|exact True.intro|intro _|refine WA ?_ ?_|refine WF ?_|refine W1 rfl ?_ ?_|refine W2 rfl ?_ ?_|refine W3 rfl ?_ ?_|refine W4 ?_ ?_|refine W5 rfl ?_ ?_|refine W6 ?_ ?_|refine WN ?_|refine X1 (W1 rfl ?_ ?_)|refine X1 (W2 rfl ?_ ?_)|refine X2 (W7 rfl ?_ ?_)|refine X3 (W7 rfl ?_ ?_)|refine X4 (W7 rfl ?_ ?_)|refine X5 (W7 rfl ?_ ?_))
  all_goals (try (conv => whnf))
  all_goals (try first|exact obA|refine Ob.mk ?_)
  all_goals (try (have b1 := of_decide_eq_true ‹decide ((i : Int) < (ks.length : Int)) = true›))
  all_goals (try (have b1 := of_decide_eq_false ‹decide ((i : Int) < (ks.length : Int)) = false›))
  all_goals (try simp only [Int.toNat_natCast] at *)
  ·rw [q3,qKS (i := i) (by omega) ha (eq_of_beq (show (ks.getD i 0 == kid) = true from ‹_›)).symm]
  ·have h : (ks.getD i 0 == kid) = false := ‹_›
   refine Rnd.mk ⟨i + 1,⟨by omega,by rw [qF4 ks i kid (by omega),ha,h];rfl⟩,by omega,?_⟩
   repeat' ((conv => whnf);first|(with_reducible first|rfl|exact qAE|exact qAD)|exact True.intro|intro _|refine WA ?_ ?_|refine WF ?_|refine W1 rfl ?_ ?_|refine W2 rfl ?_ ?_|refine W3 rfl ?_ ?_|refine W4 ?_ ?_|refine W5 rfl ?_ ?_|refine W6 ?_ ?_|refine WN ?_|refine X1 (W1 rfl ?_ ?_)|refine X1 (W2 rfl ?_ ?_)|refine X2 (W7 rfl ?_ ?_)|refine X3 (W7 rfl ?_ ?_)|refine X4 (W7 rfl ?_ ?_)|refine X5 (W7 rfl ?_ ?_))
   all_goals (try (conv => whnf))
   all_goals (try first|exact obA|refine Ob.mk ?_)
   all_goals (first | rfl | omega | trace_state)
  ·obtain rfl : i = ks.length := by omega
   rw [q3,qFH (by rw [List.take_length] at ha;exact ha)]
instance hWith (l : List Int) (at_ n : Int) : Fn BB 170 [.rd qAH l,.int .i64 at_,.int .i64 n] (0 ≤ at_ ∧ at_ ≤ l.length ∧ l.length ≤ 100000) (.rd qAH (l.take at_.toNat ++ n :: l.drop at_.toNat)) := by
 refine Fn.intro (N := 34) [0,1,2,6,7,8,12,17,25] [] Tryz.call170 Tryz.func170 rfl rfl (by kernel_rfl) (fun hpre => ?_)
 obtain ⟨p1,p2,p3⟩ := hpre
 obtain ⟨a,rfl⟩ := Int.eq_ofNat_of_zero_le p1
 have hen := qZP l a n (by omega)
 rw [Int.toNat_natCast]
 repeat' ((conv => whnf);first|(with_reducible first|rfl|exact qAE|exact qAD)|exact True.intro|intro _|refine WA ?_ ?_|refine WF ?_|refine W1 rfl ?_ ?_|refine W2 rfl ?_ ?_|refine W3 rfl ?_ ?_|refine W4 ?_ ?_|refine W5 rfl ?_ ?_|refine W6 ?_ ?_|refine WN ?_|refine X1 (W1 rfl ?_ ?_)|refine X1 (W2 rfl ?_ ?_)|refine X2 (W7 rfl ?_ ?_)|refine X3 (W7 rfl ?_ ?_)|refine X4 (W7 rfl ?_ ?_)|refine X5 (W7 rfl ?_ ?_))
 all_goals (try (conv => whnf))
 all_goals (try first|exact obA|refine Ob.mk ?_)
 refine LoopStop.mk (α := Nat) (fun i => [(8,.int .i64 i),(7,.own 20)]) (fun i => [(20,.own qAH (qZD l a n i))]) 30 (fun i => i ≤ l.length + 1) (fun i => l.length + 1 - i) 0 (by simp) ?_ (fun i hi => ?_)
 ·repeat' ((conv => whnf);first|(with_reducible first|rfl|exact qAE|exact qAD)|exact True.intro|intro _|refine WA ?_ ?_|refine WF ?_|refine W1 rfl ?_ ?_|refine W2 rfl ?_ ?_|refine W3 rfl ?_ ?_|refine W4 ?_ ?_|refine W5 rfl ?_ ?_|refine W6 ?_ ?_|refine WN ?_|refine X1 (W1 rfl ?_ ?_)|refine X1 (W2 rfl ?_ ?_)|refine X2 (W7 rfl ?_ ?_)|refine X3 (W7 rfl ?_ ?_)|refine X4 (W7 rfl ?_ ?_)|refine X5 (W7 rfl ?_ ?_))
  all_goals (try (conv => whnf))
  all_goals (try first|exact obA|refine Ob.mk ?_)
  all_goals (first | rfl | (simp [qZD];done) | trace_state)
 ·have hl := qaQ l a n i
  have hst := qXS l a n i
  repeat' ((conv => whnf);first|(with_reducible first|rfl|exact qAE|exact qAD)|exact True.intro|intro _|refine WA ?_ ?_|refine WF ?_|refine W1 rfl ?_ ?_|refine W2 rfl ?_ ?_|refine W3 rfl ?_ ?_|refine W4 ?_ ?_|refine W5 rfl ?_ ?_|refine W6 ?_ ?_|refine WN ?_|refine X1 (W1 rfl ?_ ?_)|refine X1 (W2 rfl ?_ ?_)|refine X2 (W7 rfl ?_ ?_)|refine X3 (W7 rfl ?_ ?_)|refine X4 (W7 rfl ?_ ?_)|refine X5 (W7 rfl ?_ ?_))
  all_goals (try (conv => whnf))
  all_goals (try first|exact obA|refine Ob.mk ?_)
  all_goals (try (have b := of_decide_eq_true ‹decide ((i : Int) ≤ (l.length : Int)) = true›;have hs := hst (by omega) (by omega)))
  all_goals (try (have e1 : i = a := by (have h : ((i : Int) == (a : Int)) = true := ‹_›;have := eq_of_beq h;omega)))
  all_goals (try (have e1 : ¬ i = a := by (have h : ((i : Int) == (a : Int)) = false := ‹_›;rw [beq_eq_false_iff_ne] at h;omega)))
  all_goals (try (have b2 : i < l.length := by (have h := of_decide_eq_true ‹decide ((i : Int) < (l.length : Int)) = true›;omega)))
  all_goals (try (have b2 : ¬ i < l.length := by (have h := of_decide_eq_false ‹decide ((i : Int) < (l.length : Int)) = false›;omega)))
  all_goals (try rw [if_pos e1] at hs)
  all_goals (try rw [if_neg e1] at hs)
  all_goals (try rw [if_pos b2] at hs)
  all_goals (try rw [if_neg b2,List.append_nil] at hs)
  all_goals (try simp only [Int.toNat_natCast] at *)
  all_goals (try (refine Rnd.mk ⟨i + 1,by omega,by omega,?_⟩))
  all_goals (first | omega | exact ⟨by omega,by omega⟩ | (show _ * 8 ≤ _ ∧ _ ≤ _;exact ⟨by simp only [List.length_append,List.length_cons,List.length_nil];omega,by simp only [List.length_append,List.length_cons,List.length_nil];omega⟩) | skip)
  all_goals (try (have b := of_decide_eq_false ‹decide ((i : Int) ≤ (l.length : Int)) = false›;rw [show i = l.length + 1 by omega,hen]))
  repeat' ((conv => whnf);first|(with_reducible first|rfl|exact qAE|exact qAD)|exact True.intro|intro _|refine WA ?_ ?_|refine WF ?_|refine W1 rfl ?_ ?_|refine W2 rfl ?_ ?_|refine W3 rfl ?_ ?_|refine W4 ?_ ?_|refine W5 rfl ?_ ?_|refine W6 ?_ ?_|refine WN ?_|refine X1 (W1 rfl ?_ ?_)|refine X1 (W2 rfl ?_ ?_)|refine X2 (W7 rfl ?_ ?_)|refine X3 (W7 rfl ?_ ?_)|refine X4 (W7 rfl ?_ ?_)|refine X5 (W7 rfl ?_ ?_))
  all_goals (try (conv => whnf))
  all_goals (try first|exact obA|refine Ob.mk ?_)
  all_goals (first | rfl | omega | (rw [hs];done) | (rw [hs];rfl) | trace_state)
end Go.Vc

namespace Go.Vc
open Go.Proofs
set_option autoImplicit false
def qj3 (n : qAG) (k : Int) : qAG := (n.1,n.2.1,n.2.2.1,n.2.2.2.1,n.2.2.2.2.1,n.2.2.2.2.2.1,n.2.2.2.2.2.2 ++ [k])
def mkN (n : qAG) (up : Int) : qAG := (n.1,n.2.1,n.2.2.1,n.2.2.2.1,n.2.2.2.2.1,up,[])
def qDB (out : List qAG) (p : Nat) (k : Int) : List qAG := out.set p (qj3 (out.getD p qAC.dflt) k)
structure PSt where
 out : List qAG
 P : List Nat
def PSt.step (t : List qAG) (x : PSt) (e : Ev) : PSt :=
 match e.2.2.2,x.P with
 | true,P => { out := x.out,P := P.tail }
 | false,[] => { out := x.out ++ [mkN (t.getD e.1 qAC.dflt) (-1)],P := [x.out.length] }
 | false,p :: P => { out := qDB x.out p x.out.length ++ [mkN (t.getD e.1 qAC.dflt) p],P := x.out.length :: p :: P }
def PSt.run (t : List qAG) : PSt → List Ev → PSt
 | x,[] => x
 | x,e :: l => PSt.run t (x.step t e) l
theorem qF1 (t : List qAG) : ∀ (l l' : List Ev) (x : PSt),x.run t (l ++ l') = (x.run t l).run t l' := by
 intro l
 induction l with
 | nil => intro l' x;rfl
 | cons e l ih => intro l' x;exact ih l' (x.step t e)
def pS (t : List qAG) (K : Nat → List Int) (out : List qAG) (s : List Bool) (p i j : Nat) : List qAG := (({ out := out,P := [p] } : PSt).run t (dfs K s i j 0).1).out
def sS (K : Nat → List Int) (s : List Bool) (i j : Nat) : List Bool := (dfs K s i j 0).2.1
variable {K : Nat → List Int} {t : List qAG}
theorem qEG (out : List qAG) (p : Nat) (k : Int) : (qDB out p k).length = out.length := by unfold qDB;exact List.length_set ..
theorem qiA : ∀ (s : List Bool) (i j c : Nat),∀ c',(dfs K s i j c).2.1 = (dfs K s i j c').2.1 ∧ ∀ x : PSt,x.run t (dfs K s i j c).1 = x.run t (dfs K s i j c').1 := by
 refine qGT (K := K) ?_ ?_ ?_
 ·intro s i j c h c';rw [qCZ h,qCZ h];exact ⟨rfl,fun x => rfl⟩
 ·intro s i j c h hk ih c';rw [qC1 h hk,qC1 h hk];exact ih c'
 ·intro s i j c h hk i1 i2 c'
  rw [qFE h hk,qFE h hk]
  dsimp only
  obtain ⟨a1,a2⟩ := i1 (c' + 1)
  rw [← a1]
  obtain ⟨b1,b2⟩ := i2 (dfs K (s.set ((K i).getD j 0).toNat true) ((K i).getD j 0).toNat 0 (c' + 1)).2.2
  refine ⟨b1,fun x => ?_⟩
  show ((x.step t _).run t _) = ((x.step t _).run t _)
  rw [qF1,qF1]
  have e : x.step t (((K i).getD j 0).toNat,(i : Int),c,false) = x.step t (((K i).getD j 0).toNat,(i : Int),c',false) := rfl
  rw [e,a2,b2]
theorem qTQ : ∀ (s : List Bool) (i j c : Nat),∀ (out : List qAG) (p : Nat) (P : List Nat),
  ({ out := out,P := p :: P } : PSt).run t (dfs K s i j c).1 = { out := (({ out := out,P := [p] } : PSt).run t (dfs K s i j c).1).out,P := P } := by
 refine qGT (K := K) ?_ ?_ ?_
 ·intro s i j c h out p P;rw [qCZ h];rfl
 ·intro s i j c h hk ih out p P;rw [qC1 h hk];exact ih out p P
 ·intro s i j c h hk i1 i2 out p P
  rw [qFE h hk]
  dsimp only
  have e : ∀ Q,({ out := out,P := p :: Q } : PSt).step t (((K i).getD j 0).toNat,(i : Int),c,false) =
   { out := qDB out p out.length ++ [mkN (t.getD ((K i).getD j 0).toNat qAC.dflt) p],P := out.length :: p :: Q } := fun Q => rfl
  show PSt.run t (PSt.step t _ _) _ = { out := (PSt.run t (PSt.step t _ _) _).out,P := P }
  rw [e,e,qF1,qF1,i1 _ out.length (p :: P),i1 _ out.length [p],i2 _ p P]
theorem qb5 {out s p i j} (h : ¬ j < (K i).length) : pS t K out s p i j = out ∧ sS K s i j = s := by
 unfold pS sS;rw [qCZ h];exact ⟨rfl,rfl⟩
theorem qb6 {out s p i j} (h : j < (K i).length) (hk : okK s ((K i).getD j 0) = false) : pS t K out s p i j = pS t K out s p i (j + 1) ∧ sS K s i j = sS K s i (j + 1) := by
 unfold pS sS;rw [qC1 h hk];exact ⟨rfl,rfl⟩
def qNS (t : List qAG) (K : Nat → List Int) (out : List qAG) (s : List Bool) (k : Nat) (up : Int) : List qAG := pS t K (out ++ [mkN (t.getD k qAC.dflt) up]) (s.set k true) out.length k 0
def qXX (K : Nat → List Int) (s : List Bool) (k : Nat) : List Bool := sS K (s.set k true) k 0
theorem qh7 {out s p i j} (h : j < (K i).length) (hk : okK s ((K i).getD j 0) = true) :
    pS t K out s p i j = pS t K (qNS t K (qDB out p out.length) s ((K i).getD j 0).toNat p) (qXX K s ((K i).getD j 0).toNat) p i (j + 1) ∧ sS K s i j = sS K (qXX K s ((K i).getD j 0).toNat) i (j + 1) := by
  have a := fun c => qiA (t := t) (K := K) (s.set ((K i).getD j 0).toNat true) ((K i).getD j 0).toNat 0 c 0
  unfold pS sS qNS qXX pS sS
  rw [qFE h hk]
  dsimp only
  rw [(a 1).1]
  have b := fun c => qiA (t := t) (K := K) (dfs K (s.set ((K i).getD j 0).toNat true) ((K i).getD j 0).toNat 0 0).2.1 i (j + 1) c 0
  refine ⟨?_,(b _).1⟩
  show (PSt.run t (PSt.step t _ _) _).out = _
  have e : ({ out := out,P := [p] } : PSt).step t (((K i).getD j 0).toNat,(i : Int),0,false) =
      { out := qDB out p out.length ++ [mkN (t.getD ((K i).getD j 0).toNat qAC.dflt) p],P := out.length :: [p] } := rfl
  rw [e,qF1,qTQ,(b _).2,(a 1).2,qEG]
theorem qkW : ∀ (s : List Bool) (i j c : Nat),∀ (out : List qAG) (p : Nat),
  out.length ≤ (({ out := out,P := [p] } : PSt).run t (dfs K s i j c).1).out.length ∧ (({ out := out,P := [p] } : PSt).run t (dfs K s i j c).1).out.length + unseen (dfs K s i j c).2.1 = out.length + unseen s ∧
   (∀ q,q < out.length → q ≠ p → (({ out := out,P := [p] } : PSt).run t (dfs K s i j c).1).out.getD q qAC.dflt = out.getD q qAC.dflt) ∧ (dfs K s i j c).2.1.length = s.length := by
 refine qGT (K := K) ?_ ?_ ?_
 ·intro s i j c h out p;rw [qCZ h];exact ⟨Nat.le_refl _,rfl,fun q _ _ => rfl,rfl⟩
 ·intro s i j c h hk ih out p;rw [qC1 h hk];exact ih out p
 ·intro s i j c h hk i1 i2 out p
  rw [qFE h hk]
  dsimp only
  have e : ({ out := out,P := [p] } : PSt).step t (((K i).getD j 0).toNat,(i : Int),c,false) =
   { out := qDB out p out.length ++ [mkN (t.getD ((K i).getD j 0).toNat qAC.dflt) p],P := out.length :: [p] } := rfl
  have er : ∀ l,({ out := out,P := [p] } : PSt).run t ((((K i).getD j 0).toNat,(i : Int),c,false) :: l) =
   ({ out := qDB out p out.length ++ [mkN (t.getD ((K i).getD j 0).toNat qAC.dflt) p],P := out.length :: [p] } : PSt).run t l := fun l => by rw [← e];rfl
  have er2 : ∀ l1 l2 c1,l1 = (dfs K (s.set ((K i).getD j 0).toNat true) ((K i).getD j 0).toNat 0 c1).1 → (({ out := out,P := [p] } : PSt).run t ((((K i).getD j 0).toNat,(i : Int),c,false) :: (l1 ++ l2))).out =
   (({ out := (({ out := qDB out p out.length ++ [mkN (t.getD ((K i).getD j 0).toNat qAC.dflt) p],P := [out.length] } : PSt).run t l1).out,P := [p] } : PSt).run t l2).out := fun l1 l2 c1 hl => by
   rw [er,qF1,hl,qTQ]
  rw [er2 _ _ _ rfl]
  have hl : (qDB out p out.length ++ [mkN (t.getD ((K i).getD j 0).toNat qAC.dflt) p]).length = out.length + 1 := by rw [List.length_append,qEG];rfl
  have hu := qBA (qBJ hk).2.2
  obtain ⟨a1,a2,a3,a4⟩ := i1 (qDB out p out.length ++ [mkN (t.getD ((K i).getD j 0).toNat qAC.dflt) p]) out.length
  rw [hl] at a1 a2 a3
  generalize (({ out := qDB out p out.length ++ [mkN (t.getD ((K i).getD j 0).toNat qAC.dflt) p],P := [out.length] } : PSt).run t (dfs K (s.set ((K i).getD j 0).toNat true) ((K i).getD j 0).toNat 0 (c + 1)).1).out = y at *
  obtain ⟨b1,b2,b3,b4⟩ := i2 y p
  refine ⟨by omega,by omega,fun q hq hp => ?_,?_⟩
  ·rw [b3 q (by omega) hp,a3 q (by omega) (by omega)]
   unfold qDB
   rw [List.getD_eq_getElem?_getD,List.getElem?_append_left (by rw [List.length_set];exact hq),List.getElem?_set,if_neg (fun h => hp h.symm),List.getD_eq_getElem?_getD]
  ·rw [b4,a4,List.length_set]
theorem qME (out : List qAG) (s : List Bool) (k : Nat) (up : Int) : out.length + 1 ≤ (qNS t K out s k up).length ∧ (qNS t K out s k up).length + unseen (qXX K s k) = out.length + 1 + unseen (s.set k true) ∧
  (∀ q,q < out.length → (qNS t K out s k up).getD q qAC.dflt = out.getD q qAC.dflt) ∧ (qXX K s k).length = s.length := by
 obtain ⟨h1,h2,h3,h4⟩ := qkW (t := t) (K := K) (s.set k true) k 0 0 (out ++ [mkN (t.getD k qAC.dflt) up]) out.length
 rw [List.length_append,List.length_singleton] at h1 h2 h3
 refine ⟨h1,h2,fun q hq => ?_,by rw [List.length_set] at h4;exact h4⟩
 show (PSt.run t _ _).out.getD q _ = _
 rw [h3 q (by omega) (by omega),List.getD_eq_getElem?_getD,List.getElem?_append_left hq,List.getD_eq_getElem?_getD]
end Go.Vc

namespace Go.Vc
open Go.Proofs
set_option maxRecDepth 10000
set_option maxHeartbeats 4000000
noncomputable abbrev BN : Base := { BB with np := fun t => bif Nat.beq t 49 then some 6 else none }
instance toN_fn {f : FuncId} {args : List SV} {pre : Prop} {res : SV} [h : Fn BB f args pre res] : Fn BN f args pre res := ⟨h.call,h.ok⟩
instance toN_fnM {f : FuncId} {args : List SV} {Φ : Phi} {pre : Prop} {res : SV} {Φ' : Phi} [h : FnM BB f args Φ pre res Φ'] : FnM BN f args Φ pre res Φ' := ⟨h.call,h.ok⟩
def qiS (t out : List qAG) (s : List Bool) (k : Int) : Prop := qFQ t = true ∧ s.length = t.length ∧ (0 ≤ k ∧ k < t.length) ∧ out.length + unseen (s.set k.toNat true) + 1 ≤ 5000
theorem qaA {q : List Bool} {n : Nat} (hq : q.length = n) (k : Int) : (decide (k ≥ 0) && decide (k < (n : Int)) && !q.getD k.toNat false) = okK q k := by
  unfold okK
  by_cases h1 : k < 0
  · rw [decide_eq_false (by omega : ¬ k ≥ 0)];rfl
  · rw [decide_eq_true (by omega : k ≥ 0)]
    by_cases h2 : k < (n : Int)
    · rw [decide_eq_true h2]
      have hl : k.toNat < q.length := by omega
      simp [List.getD,hl]
    · have : q.getD k.toNat true = true := by
        rw [List.getD_eq_getElem?_getD,List.getElem?_eq_none (by omega)];rfl
      rw [decide_eq_false h2,this];rfl
theorem qMC (o : List qAG) (p : Nat) (k : Int) (h : p < o.length) : ((qDB o p k).getD p qAC.dflt).kids = (o.getD p qAC.dflt).kids ++ [k] := by
 unfold qDB
 rw [List.getD_eq_getElem?_getD,List.getElem?_set,if_pos rfl,if_pos h];rfl
theorem qOU (o : List qAG) (n : Nat) (k : Int) (h : n < o.length) :
  (o.set n ((o.getD n qAC.dflt).1,(o.getD n qAC.dflt).2.1,(o.getD n qAC.dflt).2.2.1,(o.getD n qAC.dflt).2.2.2.1,(o.getD n qAC.dflt).2.2.2.2.1,(o.getD n qAC.dflt).2.2.2.2.2.1,(o.getD n qAC.dflt).2.2.2.2.2.2 ++ [k])).set n
   ((o.set n ((o.getD n qAC.dflt).1,(o.getD n qAC.dflt).2.1,(o.getD n qAC.dflt).2.2.1,(o.getD n qAC.dflt).2.2.2.1,(o.getD n qAC.dflt).2.2.2.2.1,(o.getD n qAC.dflt).2.2.2.2.2.1,(o.getD n qAC.dflt).2.2.2.2.2.2 ++ [k])).getD n qAC.dflt) = qDB o n k := by
 rw [List.set_set]
 unfold qDB
 congr 1
 rw [List.getD_eq_getElem?_getD,List.getElem?_set,if_pos rfl,if_pos h]
 rfl
theorem qt7 (N : Nat) : ∀ (t out : List qAG) (s : List Bool) (k up : Int),
  FnM BN 122 [.agg [.rd qAC t],.int .i64 k,.int .i64 up,.agg [.own 0],.own 1] [(0,.nst qAC 6 out none),(1,.ow .bool s)]
   (qiS t out s k ∧ unseen (s.set k.toNat true) < N)
   (.agg [.own 0]) [(0,.nst qAC 6 (qNS t (qAB t) out s k.toNat up) none),(1,.ow .bool (qXX (qAB t) s k.toNat))] := by
 induction N with
 | zero => intro t out s k up;exact ⟨Tryz.call122,fun h => absurd h.2 (Nat.not_lt_zero _)⟩
 | succ N ih =>
  intro t out s k up
  refine FnM.intro (N := 99) [0,1,2,3,4,5,8,10,11,12,13,14,48,75] [(12,[0,7,0,0,7,0,4,4,4,0,7,4,4,4,4,4,4]),(3000012,[454,519,779,840,844,909,974,1039])] 2 Tryz.call122 Tryz.func122 rfl rfl (by kernel_rfl) (fun hpre => ?_)
  obtain ⟨⟨hsm,hsl,hk,hlen⟩,hN⟩ := hpre
  repeat' ((conv => whnf);first|(with_reducible first|rfl|exact qAE|exact qAD)|exact True.intro|intro _|refine WA ?_ ?_|refine WF ?_|refine W1 rfl ?_ ?_|refine W2 rfl ?_ ?_|refine W3 rfl ?_ ?_|refine W4 ?_ ?_|refine W5 rfl ?_ ?_|refine W6 ?_ ?_|refine WN ?_|refine X1 (W1 rfl ?_ ?_)|refine X1 (W2 rfl ?_ ?_)|refine X2 (W7 rfl ?_ ?_)|refine X3 (W7 rfl ?_ ?_)|refine X4 (W7 rfl ?_ ?_)|refine X5 (W7 rfl ?_ ?_))
  all_goals (try (conv => whnf))
  all_goals (try first|exact obA|refine Ob.mk ?_)
  all_goals (try simp only [qXH,qTB,qYO,qTS,List.length_singleton] at *)
  ·have h64 := (qJZ hsm k (qDZ.2 hk)).1
   simp only [cast_eq,List.length_nil,Nat.zero_add]
   change ((nd t k).2.2.2.1.length * 32 ≤ _ ∧ (nd t k).2.2.2.1.length ≤ _)
   omega
  refine LoopStop.mk (α := List qAG × List Bool × Nat) (fun a => [(13,.int .i64 a.2.2)]) (fun a => [(0,.nst qAC 6 a.1 none),(1,.ow .bool a.2.1)]) 20
   (fun a => pS t (qAB t) a.1 a.2.1 out.length k.toNat a.2.2 = qNS t (qAB t) out s k.toNat up ∧ sS (qAB t) a.2.1 k.toNat a.2.2 = qXX (qAB t) s k.toNat ∧ a.2.1.length = t.length ∧ a.1.length + unseen a.2.1 ≤ 5000 ∧
    out.length < a.1.length ∧ (a.1.getD out.length qAC.dflt).kids.length ≤ a.2.2 ∧ a.2.2 ≤ (qAB t k.toNat).length ∧ unseen a.2.1 ≤ N)
   (fun a => (qAB t k.toNat).length - a.2.2) (out ++ [mkN (t.getD k.toNat qAC.dflt) up],s.set k.toNat true,0) ⟨rfl,rfl,by simpa using hsl,by simp only [List.length_append,List.length_singleton];omega,by simp,by simp [mkN,qAG.kids],Nat.zero_le _,by show unseen (s.set k.toNat true) ≤ N;omega⟩ ?_ (fun a ha => ?_)
  ·all_goals exact vcA
  ·obtain ⟨o,q,j⟩ := a
   dsimp only at ha ⊢
   obtain ⟨h1,h2,h3,h4,h5,h6,h7,h8⟩ := ha
   repeat' ((conv => whnf);first|(with_reducible first|rfl|exact qAE|exact qAD)|exact True.intro|intro _|refine WA ?_ ?_|refine WF ?_|refine W1 rfl ?_ ?_|refine W2 rfl ?_ ?_|refine W3 rfl ?_ ?_|refine W4 ?_ ?_|refine W5 rfl ?_ ?_|refine W6 ?_ ?_|refine WN ?_|refine X1 (W1 rfl ?_ ?_)|refine X1 (W2 rfl ?_ ?_)|refine X2 (W7 rfl ?_ ?_)|refine X3 (W7 rfl ?_ ?_)|refine X4 (W7 rfl ?_ ?_)|refine X5 (W7 rfl ?_ ?_))
   all_goals (try (conv => whnf))
   all_goals (try first|exact obA|refine Ob.mk ?_)
   all_goals (try simp only [Int.toNat_natCast] at *)
   ·rename_i c1 c2 c3
    have hj : j < (qAB t k.toNat).length := by have h := of_decide_eq_true c2;exact Int.ofNat_lt.mp h
    have hc : okK q ((qAB t k.toNat).getD j 0) = true := by rw [← qaA h3];exact c3
    refine ZStop.mk [] [(0,.nst qAC 6 (qDB o out.length o.length) none)] 60 ?_
    have o1 : Ob (0 ≤ (out.length : Int) ∧ (out.length : Int) < o.length) := Ob.mk ⟨by omega,by omega⟩
    have o2 : Ob ((out.length : Int).toNat < o.length) := Ob.mk (by omega)
    have hkl : (qAB t k.toNat).length ≤ 1000 := (qJZ hsm k (qDZ.2 hk)).2
    have o3 : Ob (out.length < o.length ∧ ((o.getD out.length qAC.dflt).kids.length + 1) * 8 ≤ 70368744177664 ∧ (o.getD out.length qAC.dflt).kids.length + 1 ≤ 70368744177664) := Ob.mk ⟨h5,by omega,by omega⟩
    have hok := qBJ hc
    have hu := qBA hok.2.2
    repeat' ((conv => whnf);first|(with_reducible first|rfl|exact qAE|exact qAD)|exact True.intro|intro _|refine WA ?_ ?_|refine WF ?_|refine W1 rfl ?_ ?_|refine W2 rfl ?_ ?_|refine W3 rfl ?_ ?_|refine W4 ?_ ?_|refine W5 rfl ?_ ?_|refine W6 ?_ ?_|refine WN ?_|refine X1 (W1 rfl ?_ ?_)|refine X1 (W2 rfl ?_ ?_)|refine X2 (W7 rfl ?_ ?_)|refine X3 (W7 rfl ?_ ?_)|refine X4 (W7 rfl ?_ ?_)|refine X5 (W7 rfl ?_ ?_))
    all_goals (try (conv => whnf))
    all_goals (first | exact o1 | exact o2 | exact o3 | exact Ob.mk rfl | (refine Ob.mk ?_;rw [List.length_set];first | exact o1.h | exact o2.h) | skip)
    any_goals (refine Rnd.mk (p := qHA _ _ _ _ _) ?_)
    repeat' ((conv => whnf);first|(with_reducible first|rfl|exact qAE|exact qAD)|exact True.intro|intro _|refine WA ?_ ?_|refine WF ?_|refine W1 rfl ?_ ?_|refine W2 rfl ?_ ?_|refine W3 rfl ?_ ?_|refine W4 ?_ ?_|refine W5 rfl ?_ ?_|refine W6 ?_ ?_|refine WN ?_|refine X1 (W1 rfl ?_ ?_)|refine X1 (W2 rfl ?_ ?_)|refine X2 (W7 rfl ?_ ?_)|refine X3 (W7 rfl ?_ ?_)|refine X4 (W7 rfl ?_ ?_)|refine X5 (W7 rfl ?_ ?_))
    all_goals (try (conv => whnf))
    all_goals (try exact congrArg (fun l => Chunk.nst qAC 6 l none) (qOU o out.length o.length h5))
    ·refine Ob.mk ⟨⟨hsm,h3,⟨hok.1,by have h := hok.2.1;rw [h3] at h;exact (by omega : (qAB t k.toNat).getD j 0 < (t.length : Int))⟩,by rw [qEG];change o.length + unseen (q.set ((qAB t k.toNat).getD j 0).toNat true) + 1 ≤ _;omega⟩,by change unseen (q.set ((qAB t k.toNat).getD j 0).toNat true) < N;omega⟩
    ·exact Ob.mk ⟨by omega,by omega⟩
    obtain ⟨e1,e2⟩ := qh7 (t := t) (out := o) (p := out.length) hj hc
    rw [e1] at h1;rw [e2] at h2
    obtain ⟨l1,l2,l3,l4⟩ := qME (t := t) (K := qAB t) (qDB o out.length o.length) q ((qAB t k.toNat).getD j 0).toNat out.length
    rw [qEG] at l1 l2 l3
    refine Rnd.mk ⟨(qNS t (qAB t) (qDB o out.length o.length) q ((qAB t k.toNat).getD j 0).toNat out.length,qXX (qAB t) q ((qAB t k.toNat).getD j 0).toNat,j + 1),⟨h1,h2,l4.trans h3,by dsimp only;omega,by dsimp only;omega,?_,by show j + 1 ≤ _;omega,by dsimp only;omega⟩,by show _ - (j + 1) < _;omega,?_⟩
    ·dsimp only
     rw [l3 _ h5,qMC _ _ _ h5,List.length_append,List.length_singleton]
     exact Nat.succ_le_succ h6
    ·all_goals exact vcA
   ·rename_i c1 c2 c3
    have hj : j < (qAB t k.toNat).length := by have h := of_decide_eq_true c2;exact Int.ofNat_lt.mp h
    have hc : okK q ((qAB t k.toNat).getD j 0) = false := by rw [← qaA h3];exact c3
    obtain ⟨e1,e2⟩ := qb6 (t := t) (out := o) (p := out.length) hj hc
    rw [e1] at h1;rw [e2] at h2
    refine Rnd.mk ⟨(o,q,j + 1),⟨h1,h2,h3,h4,h5,Nat.le_succ_of_le h6,by show j + 1 ≤ _;omega,h8⟩,by show _ - (j + 1) < _;omega,?_⟩
    all_goals exact vcA
   all_goals (rename_i c1 c2)
   all_goals (have hj : ¬ j < (qAB t k.toNat).length := by have h := of_decide_eq_false c2;exact fun q => h (Int.ofNat_lt.mpr q))
   all_goals (obtain ⟨e1,e2⟩ := qb5 (t := t) (out := o) (p := out.length) (s := q) hj;rw [e1] at h1;rw [e2] at h2)
   ·rw [h1]
   ·rw [h2]
instance hPut14 (t out : List qAG) (s : List Bool) (k up : Int) :
  FnM BN 122 [.agg [.rd qAC t],.int .i64 k,.int .i64 up,.agg [.own 0],.own 1] [(0,.nst qAC 6 out none),(1,.ow .bool s)] (qiS t out s k)
   (.agg [.own 0]) [(0,.nst qAC 6 (qNS t (qAB t) out s k.toNat up) none),(1,.ow .bool (qXX (qAB t) s k.toNat))] :=
 have h := qt7 (unseen (s.set k.toNat true) + 1) t out s k up
 ⟨h.call,fun hp => h.ok ⟨hp,Nat.lt_succ_self _⟩⟩
end Go.Vc

namespace Go.Vc
open Go.Proofs
set_option maxRecDepth 10000
set_option maxHeartbeats 4000000
instance hPut0 (t : List qAG) (s : List Bool) (k up : Int) :
  FnM BN 122 [.agg [.rd qAC t],.int .i64 k,.int .i64 up,.agg [.nils],.own 0] [(0,.own .bool s)] (qiS t [] s k)
   (.agg [.own 1]) [(1,.nst qAC 6 (qNS t (qAB t) [] s k.toNat up) none)] := by
  refine FnM.intro (N := 99) [0,1,2,3,4,5,8,10,11,12,13,14,48,75] [(12,[0,7,0,0,7,0,4,4,4,0,7,4,4,4,4,4,4]),(3000012,[454,519,779,840,844,909,974,1039]),(2000000,[0])] 1 Tryz.call122 Tryz.func122 rfl rfl (by kernel_rfl) (fun hpre => ?_)
  obtain ⟨hsm,hsl,hk,hlen⟩ := hpre
  simp only [List.length_nil,Nat.zero_add] at hlen
  repeat' ((conv => whnf);first|(with_reducible first|rfl|exact qAE|exact qAD)|exact True.intro|intro _|refine WA ?_ ?_|refine WF ?_|refine W1 rfl ?_ ?_|refine W2 rfl ?_ ?_|refine W3 rfl ?_ ?_|refine W4 ?_ ?_|refine W5 rfl ?_ ?_|refine W6 ?_ ?_|refine AppN.ns ?_|refine X1 (W1 rfl ?_ ?_)|refine X1 (W2 rfl ?_ ?_)|refine X2 (W7 rfl ?_ ?_)|refine X3 (W7 rfl ?_ ?_)|refine X4 (W7 rfl ?_ ?_)|refine X5 (W7 rfl ?_ ?_))
  all_goals (try (conv => whnf))
  all_goals (try first|exact obA|refine Ob.mk ?_)
  all_goals (try simp only [qXH,qTB,qYO,qTS,List.length_singleton] at *)
  ·have h64 := (qJZ hsm k (qDZ.2 hk)).1
   simp only [cast_eq,List.length_nil,Nat.zero_add]
   change ((nd t k).2.2.2.1.length * 32 ≤ _ ∧ (nd t k).2.2.2.1.length ≤ _)
   omega
  refine LoopStop.mk (α := List qAG × List Bool × Nat) (fun a => [(13,.int .i64 a.2.2)]) (fun a => [(6,.nst qAC 6 a.1 none),(0,.ow .bool a.2.1)]) 20
   (fun a => pS t (qAB t) a.1 a.2.1 0 k.toNat a.2.2 = qNS t (qAB t) [] s k.toNat up ∧ sS (qAB t) a.2.1 k.toNat a.2.2 = qXX (qAB t) s k.toNat ∧ a.2.1.length = t.length ∧ a.1.length + unseen a.2.1 ≤ 5000 ∧
    0 < a.1.length ∧ (a.1.getD 0 qAC.dflt).kids.length ≤ a.2.2 ∧ a.2.2 ≤ (qAB t k.toNat).length)
   (fun a => (qAB t k.toNat).length - a.2.2) ([] ++ [mkN (t.getD k.toNat qAC.dflt) up],s.set k.toNat true,0) ⟨rfl,rfl,by simpa using hsl,by simp only [List.length_append,List.length_singleton,List.length_nil];omega,by simp,by simp [mkN,qAG.kids],Nat.zero_le _⟩ ?_ (fun a ha => ?_)
  ·all_goals exact vcA
  ·obtain ⟨o,q,j⟩ := a
   dsimp only at ha ⊢
   obtain ⟨h1,h2,h3,h4,h5,h6,h7⟩ := ha
   repeat' ((conv => whnf);first|(with_reducible first|rfl|exact qAE|exact qAD)|exact True.intro|intro _|refine WA ?_ ?_|refine WF ?_|refine W1 rfl ?_ ?_|refine W2 rfl ?_ ?_|refine W3 rfl ?_ ?_|refine W4 ?_ ?_|refine W5 rfl ?_ ?_|refine W6 ?_ ?_|refine WN ?_|refine X1 (W1 rfl ?_ ?_)|refine X1 (W2 rfl ?_ ?_)|refine X2 (W7 rfl ?_ ?_)|refine X3 (W7 rfl ?_ ?_)|refine X4 (W7 rfl ?_ ?_)|refine X5 (W7 rfl ?_ ?_))
   all_goals (try (conv => whnf))
   all_goals (try first|exact obA|refine Ob.mk ?_)
   all_goals (try simp only [Int.toNat_natCast] at *)
   ·rename_i c1 c2 c3
    have hj : j < (qAB t k.toNat).length := by have h := of_decide_eq_true c2;exact Int.ofNat_lt.mp h
    have hc : okK q ((qAB t k.toNat).getD j 0) = true := by rw [← qaA h3];exact c3
    refine ZStop.mk [] [(6,.nst qAC 6 (qDB o 0 o.length) none)] 60 ?_
    have o1 : Ob (0 ≤ (0 : Int) ∧ (0 : Int) < o.length) := Ob.mk ⟨by omega,by omega⟩
    have o2 : Ob ((0 : Int).toNat < o.length) := Ob.mk (by omega)
    have hkl : (qAB t k.toNat).length ≤ 1000 := (qJZ hsm k (qDZ.2 hk)).2
    have o3 : Ob (0 < o.length ∧ ((o.getD 0 qAC.dflt).kids.length + 1) * 8 ≤ 70368744177664 ∧ (o.getD 0 qAC.dflt).kids.length + 1 ≤ 70368744177664) := Ob.mk ⟨h5,by omega,by omega⟩
    have hok := qBJ hc
    have hu := qBA hok.2.2
    repeat' ((conv => whnf);first|(with_reducible first|rfl|exact qAE|exact qAD)|exact True.intro|intro _|refine WA ?_ ?_|refine WF ?_|refine W1 rfl ?_ ?_|refine W2 rfl ?_ ?_|refine W3 rfl ?_ ?_|refine W4 ?_ ?_|refine W5 rfl ?_ ?_|refine W6 ?_ ?_|refine WN ?_|refine X1 (W1 rfl ?_ ?_)|refine X1 (W2 rfl ?_ ?_)|refine X2 (W7 rfl ?_ ?_)|refine X3 (W7 rfl ?_ ?_)|refine X4 (W7 rfl ?_ ?_)|refine X5 (W7 rfl ?_ ?_))
    all_goals (try (conv => whnf))
    all_goals (first | exact o1 | exact o2 | exact o3 | exact Ob.mk rfl | (refine Ob.mk ?_;rw [List.length_set];first | exact o1.h | exact o2.h) | skip)
    any_goals (refine Rnd.mk (p := qHA _ _ _ _ _) ?_)
    repeat' ((conv => whnf);first|(with_reducible first|rfl|exact qAE|exact qAD)|exact True.intro|intro _|refine WA ?_ ?_|refine WF ?_|refine W1 rfl ?_ ?_|refine W2 rfl ?_ ?_|refine W3 rfl ?_ ?_|refine W4 ?_ ?_|refine W5 rfl ?_ ?_|refine W6 ?_ ?_|refine WN ?_|refine X1 (W1 rfl ?_ ?_)|refine X1 (W2 rfl ?_ ?_)|refine X2 (W7 rfl ?_ ?_)|refine X3 (W7 rfl ?_ ?_)|refine X4 (W7 rfl ?_ ?_)|refine X5 (W7 rfl ?_ ?_))
    all_goals (try (conv => whnf))
    all_goals (try exact congrArg (fun l => Chunk.nst qAC 6 l none) (qOU o 0 o.length h5))
    ·refine Ob.mk ⟨hsm,h3,⟨hok.1,by have h := hok.2.1;rw [h3] at h;exact (by omega : (qAB t k.toNat).getD j 0 < (t.length : Int))⟩,by rw [qEG];change o.length + unseen (q.set ((qAB t k.toNat).getD j 0).toNat true) + 1 ≤ _;omega⟩
    ·exact Ob.mk ⟨by omega,by omega⟩
    obtain ⟨e1,e2⟩ := qh7 (t := t) (out := o) (p := 0) hj hc
    rw [e1] at h1;rw [e2] at h2
    obtain ⟨l1,l2,l3,l4⟩ := qME (t := t) (K := qAB t) (qDB o 0 o.length) q ((qAB t k.toNat).getD j 0).toNat 0
    rw [qEG] at l1 l2 l3
    refine Rnd.mk ⟨(qNS t (qAB t) (qDB o 0 o.length) q ((qAB t k.toNat).getD j 0).toNat 0,qXX (qAB t) q ((qAB t k.toNat).getD j 0).toNat,j + 1),⟨h1,h2,l4.trans h3,by dsimp only;omega,by dsimp only;omega,?_,by show j + 1 ≤ _;omega⟩,by show _ - (j + 1) < _;omega,?_⟩
    ·dsimp only
     rw [l3 _ h5,qMC _ _ _ h5,List.length_append,List.length_singleton]
     exact Nat.succ_le_succ h6
    ·all_goals exact vcA
   ·rename_i c1 c2 c3
    have hj : j < (qAB t k.toNat).length := by have h := of_decide_eq_true c2;exact Int.ofNat_lt.mp h
    have hc : okK q ((qAB t k.toNat).getD j 0) = false := by rw [← qaA h3];exact c3
    obtain ⟨e1,e2⟩ := qb6 (t := t) (out := o) (p := 0) hj hc
    rw [e1] at h1;rw [e2] at h2
    refine Rnd.mk ⟨(o,q,j + 1),⟨h1,h2,h3,h4,h5,Nat.le_succ_of_le h6,by show j + 1 ≤ _;omega⟩,by show _ - (j + 1) < _;omega,?_⟩
    all_goals exact vcA
   all_goals (rename_i c1 c2)
   all_goals (have hj : ¬ j < (qAB t k.toNat).length := by have h := of_decide_eq_false c2;exact fun q => h (Int.ofNat_lt.mpr q))
   all_goals (obtain ⟨e1,e2⟩ := qb5 (t := t) (out := o) (p := 0) (s := q) hj;rw [e1] at h1;rw [e2] at h2)
   ·rw [h1]
end Go.Vc

namespace Go.Vc
open Go.Proofs
set_option maxRecDepth 10000
set_option maxHeartbeats 4000000
def qD9 (t : List qAG) : List qAG := if t = [] then [qWF] else qNS t (qAB t) [] (List.replicate t.length false) 0 (-1)
theorem qIP (s : List Bool) : unseen s ≤ s.length := List.count_le_length
theorem qV9 {t : List qAG} (h : qFQ t = true) (h0 : ¬ ((t.length : Int) == 0) = true) : qiS t [] (List.replicate t.length false) 0 := by
 have h1 : 0 < t.length := by
  rcases Nat.eq_zero_or_pos t.length with h | h
  ·exact absurd (by rw [h];rfl) h0
  ·exact h
 have h2 := qO0 h
 have h3 := qIP ((List.replicate t.length false).set 0 true)
 rw [List.length_set,List.length_replicate] at h3
 refine ⟨h,List.length_replicate,⟨Int.le_refl 0,by omega⟩,?_⟩
 show 0 + unseen ((List.replicate t.length false).set 0 true) + 1 ≤ 5000
 omega
theorem qaV {t : List qAG} (h0 : ((t.length : Int) == 0) = true) : qD9 t = [qWF] := by
 have h1 : t.length = 0 := by have := eq_of_beq h0;omega
 unfold qD9;rw [if_pos (List.length_eq_zero_iff.1 h1)]
theorem qdF {t : List qAG} (h0 : ¬ ((t.length : Int) == 0) = true) : qD9 t = qNS t (qAB t) [] (List.replicate t.length false) 0 (-1) := by
 unfold qD9;rw [if_neg (fun h => h0 (by rw [h];rfl))]
instance hTidyN (t : List qAG) : FnM BN 69 [.agg [.rd qAC t]] [] (qFQ t = true) (.agg [.rd qAC (qD9 t)]) [] := by
 refine FnM.intro (N := 15) [0,1,2,6] [(3,[4,4,0,4,4,4,4,4])] 0 Tryz.call69 Tryz.func69 rfl rfl (by kernel_rfl) (fun hpre => ?_)
 repeat' ((conv => whnf);first|(with_reducible first|rfl|exact qAE|exact qAD)|exact True.intro|intro _|refine WA ?_ ?_|refine WF ?_|refine W1 rfl ?_ ?_|refine W2 rfl ?_ ?_|refine W3 rfl ?_ ?_|refine W4 ?_ ?_|refine W5 rfl ?_ ?_|refine W6 ?_ ?_|refine WN ?_|refine X1 (W1 rfl ?_ ?_)|refine X1 (W2 rfl ?_ ?_)|refine X2 (W7 rfl ?_ ?_)|refine X3 (W7 rfl ?_ ?_)|refine X4 (W7 rfl ?_ ?_)|refine X5 (W7 rfl ?_ ?_))
 all_goals (try (conv => whnf))
 all_goals (try first|exact obA|refine Ob.mk ?_)
 ·rw [qaV ‹_›]
 all_goals (have h0 : ¬ ((t.length : Int) == 0) = true := by rw [show ((t.length : Int) == 0) = false from by assumption];decide)
 all_goals (first | exact qV9 hpre h0 | (rw [qdF h0];rfl) | (have := qO0 hpre;refine ⟨by omega,by omega,?_,by omega⟩;show (t.length : Int) * ((1 : Nat) : Int) ≤ _;omega))
end Go.Vc

namespace Go.Vc
open Go.Proofs
set_option maxRecDepth 10000
set_option maxHeartbeats 4000000
def qk1 (l : List qAG) : List qAG := l.set 0 (0,0,[],[],[], -1,(l.getD 0 qAC.dflt).kids)
def qeT (x : List qAG) (k : Nat) : List qAG := qk1 (qNS x (qAB x) [] (List.replicate x.length false) k (-1))
def qU2 (l : List Int) (i : Int) : Option Nat := (List.range l.length).find? fun k => l.getD k 0 == i
def qcI (t : List qAG) (i : Int) : List qAG := match qU2 (qA9 (fin t).L) i with | some k => qeT (qD9 t) k | none => [qWF]
theorem qZR {l : List Int} {i : Int} {k : Nat} (hk : k < l.length) (h : l.getD k 0 = i) (h0 : ∀ j,j < k → l.getD j 0 ≠ i) : qU2 l i = some k := by
 unfold qU2
 rw [List.find?_eq_some_iff_append]
 refine ⟨by rw [h];simp,List.range k,(List.range' (k + 1) (l.length - (k + 1))),?_,fun a ha => ?_⟩
 ·rw [List.range_eq_range',List.range_eq_range',show l.length = k + (1 + (l.length - (k + 1))) by omega, ← List.range'_append_1, ← List.range'_append_1]
  simp
  omega
 ·simpa using h0 a (by simpa using ha)
theorem qLS {l : List Int} {i : Int} (h0 : ∀ j,j < l.length → l.getD j 0 ≠ i) : qU2 l i = none := by
 unfold qU2
 rw [List.find?_eq_none]
 intro a ha
 simpa using h0 a (by simpa using ha)
def qS9 (t : List qAG) : Prop := qFQ t = true ∧ t.length ≤ 45 ∧ qFQ (qD9 t) = true ∧ (fin t).L.length ≤ (qD9 t).length ∧ (qD9 t).length ≤ 1000
instance hSubN (t : List qAG) (i : Int) : FnM BN 116 [.agg [.rd qAC t],.int .i64 i] [] (qS9 t) (.agg [.rd qAC (qcI t i)]) [] := by
 refine FnM.intro (N := 67) [0,1,2,4,5,7,8,9,10,30,39,47] [(10,[0,0,6,0,0,0,6,6,6,6]),(11,[0,1,0,1,1,1,1,1,3,3])] 0 Tryz.call116 Tryz.func116 rfl rfl (by kernel_rfl) (fun hpre => ?_)
 obtain ⟨h1,h2,h3,h4,h5⟩ := hpre
 have d := qJW (qAB t) t.length
 have hlI : (fin t).I.length = t.length := d.lI
 have hll : (qA9 (fin t).L).length = (fin t).L.length := by unfold qA9;rw [List.length_map]
 have hL : (fin t).L.length ≤ 45 := by have := qJY d.nod d.lt;have e : (qTU (qAB t) t.length).L = (fin t).L := rfl;rw [e] at this;omega
 have pp : ∀ k : Nat,k < (fin t).L.length → qiS (qD9 t) [] (List.replicate (qD9 t).length false) (k : Int) := fun k hk => by
  have h := qIP ((List.replicate (qD9 t).length false).set (k : Int).toNat true)
  rw [List.length_set,List.length_replicate] at h
  exact ⟨h3,List.length_replicate,⟨by omega,by omega⟩,by show 0 + _ + 1 ≤ 5000;omega⟩
 have hin : ∀ j,j < (qA9 (fin t).L).length → (qA9 (fin t).L).getD j 0 = i → 0 ≤ i ∧ i < ((fin t).I.length : Int) ∧ ¬ (fin t).I.getD i.toNat qAH.dflt < 0 := fun j hj e => by
  rw [hll] at hj
  have hm : (fin t).L.getD j 0 ∈ (fin t).L := by rw [List.getD_eq_getElem?_getD,List.getElem?_eq_getElem hj];exact List.getElem_mem _
  have e2 : (qA9 (fin t).L).getD j 0 = ((fin t).L.getD j 0 : Nat) := by unfold qA9;simp [List.getD,hj]
  have e3 : i.toNat = (fin t).L.getD j 0 := by omega
  have hlt := d.lt _ hm
  have hr := d.rI _ hm
  have e4 : (fin t).I.getD i.toNat qAH.dflt = (qTU (qAB t) t.length).I.getD ((fin t).L.getD j 0) (-1) := by
   rw [e3]
   show (fin t).I.getD _ _ = (fin t).I.getD _ _
   simp [List.getD,show (fin t).L[j]?.getD 0 < (fin t).I.length by rw [hlI];exact hlt]
  rw [e4,hlI]
  have hlt2 : (fin t).L.getD j 0 < t.length := hlt
  omega
 repeat' ((conv => whnf);first|(with_reducible first|rfl|exact qAE|exact qAD)|exact True.intro|intro _|refine WA ?_ ?_|refine WF ?_|refine W1 rfl ?_ ?_|refine W2 rfl ?_ ?_|refine W3 rfl ?_ ?_|refine W4 ?_ ?_|refine W5 rfl ?_ ?_|refine W6 ?_ ?_|refine WN ?_|refine X1 (W1 rfl ?_ ?_)|refine X1 (W2 rfl ?_ ?_)|refine X2 (W7 rfl ?_ ?_)|refine X3 (W7 rfl ?_ ?_)|refine X4 (W7 rfl ?_ ?_)|refine X5 (W7 rfl ?_ ?_))
 all_goals (try (conv => whnf))
 all_goals (try first|exact obA|refine Ob.mk ?_)
 ·have h := ‹(decide (i < 0) || decide (i ≥ ((fin t).I.length : Int))) = false›
  simp only [Bool.or_eq_false_iff,decide_eq_false_iff_not] at h
  omega
 ·have h := ‹(decide (i < 0) || decide (i ≥ ((fin t).I.length : Int)) || decide ((fin t).I.getD i.toNat qAH.dflt < 0)) = true›
  simp only [Bool.or_eq_true,decide_eq_true_eq] at h
  unfold qcI
  rw [qLS (fun j hj e => by have := hin j hj e;omega)]
 refine LoopStop.mk (α := Nat) (fun k => [(9,.int .i64 k)]) (fun _ => []) 20 (fun k => k ≤ (qA9 (fin t).L).length ∧ ∀ j,j < k → (qA9 (fin t).L).getD j 0 ≠ i) (fun k => (qA9 (fin t).L).length - k) 0 ⟨Nat.zero_le _,fun j hj => absurd hj (Nat.not_lt_zero _)⟩ ?_ (fun k hk => ?_)
 ·all_goals exact vcA
 ·obtain ⟨hk,ha⟩ := hk
  repeat' ((conv => whnf);first|(with_reducible first|rfl|exact qAE|exact qAD)|exact True.intro|intro _|refine WA ?_ ?_|refine WF ?_|refine W1 rfl ?_ ?_|refine W2 rfl ?_ ?_|refine W3 rfl ?_ ?_|refine W4 ?_ ?_|refine W5 rfl ?_ ?_|refine W6 ?_ ?_|refine WN ?_|refine X1 (W1 rfl ?_ ?_)|refine X1 (W2 rfl ?_ ?_)|refine X2 (W7 rfl ?_ ?_)|refine X3 (W7 rfl ?_ ?_)|refine X4 (W7 rfl ?_ ?_)|refine X5 (W7 rfl ?_ ?_))
  all_goals (try (conv => whnf))
  all_goals (try first|exact obA|refine Ob.mk ?_)
  all_goals (try simp only [Int.toNat_natCast] at *)
  all_goals (try (have hp : k < (qA9 (fin t).L).length := by have h := of_decide_eq_true ‹decide ((k : Int) < ((qA9 (fin t).L).length : Int)) = true›;omega))
  all_goals (try (exact pp k (by omega)))
  all_goals (try (have hlen := qME (t := qD9 t) (K := qAB (qD9 t)) [] (List.replicate (qD9 t).length false) k (-1)))
  all_goals (try (have hl1 : 1 ≤ (qNS (qD9 t) (qAB (qD9 t)) [] (List.replicate (qD9 t).length false) k (-1)).length := hlen.1))
  all_goals clear hlen
  all_goals (try (first | omega | (constructor <;> omega)))
  ·unfold qcI
   rw [qZR hp (show (qA9 (fin t).L).getD k qAH.dflt = i from beq_iff_eq.1 ‹((qA9 (fin t).L).getD k qAH.dflt == i) = true›) ha]
   rfl
  ·refine Rnd.mk ⟨k + 1,⟨by omega,fun j hj => ?_⟩,by omega,?_⟩
   ·rcases Nat.lt_or_ge j k with q | q
    ·exact ha j q
    ·have e : j = k := by omega
     rw [e];exact fun (q : (qA9 (fin t).L).getD k qAH.dflt = i) => absurd (beq_iff_eq.2 q) (by rw [‹((qA9 (fin t).L).getD k qAH.dflt == i) = false›];decide)
   ·all_goals exact vcA
  ·have e : k = (qA9 (fin t).L).length := by have h := of_decide_eq_false ‹decide ((k : Int) < ((qA9 (fin t).L).length : Int)) = false›;omega
   unfold qcI
   rw [qLS (fun j hj => ha j (by omega))]
instance hSub14 (t : List qAG) (i : Int) : Fn BB 116 [.agg [.rd qAC t],.int .i64 i] (qS9 t) (.agg [.rd qAC (qcI t i)]) :=
 have h := hSubN t i
 ⟨h.call,h.ok⟩
end Go.Vc

namespace Go.Vc
open Go.Proofs
set_option maxRecDepth 10000
instance xAt16 (l : List Int) (w : Int) : Fn BB 330 [.rd qAH l,.int .i64 w] True (.int .i64 (qMT l w)) := by
 refine Fn.intro (N := 19) [0,1,4,5,9,17] [] Tryz.call330 Tryz.func330 rfl rfl (by kernel_rfl) (fun hpre => ?_)
 repeat' ((conv => whnf);first|(with_reducible first|rfl|exact qAE|exact qAD)|exact True.intro|intro _|refine WA ?_ ?_|refine WF ?_|refine W1 rfl ?_ ?_|refine W2 rfl ?_ ?_|refine W3 rfl ?_ ?_|refine W4 ?_ ?_|refine W5 rfl ?_ ?_|refine W6 ?_ ?_|refine WN ?_|refine X1 (W1 rfl ?_ ?_)|refine X1 (W2 rfl ?_ ?_)|refine X2 (W7 rfl ?_ ?_)|refine X3 (W7 rfl ?_ ?_)|refine X4 (W7 rfl ?_ ?_)|refine X5 (W7 rfl ?_ ?_))
 all_goals (try (conv => whnf))
 all_goals (try first|exact obA|refine Ob.mk ?_)
 refine LoopStop.mk (α := Nat) (fun i => [(5,.int .i64 i)]) (fun i => []) 20 (fun i => i ≤ l.length ∧ (l.take i).contains w = false) (fun i => l.length - i) 0 (by simp) ?_ (fun i hi => ?_)
 ·repeat' ((conv => whnf);first|(with_reducible first|rfl|exact qAE|exact qAD)|exact True.intro|intro _|refine WA ?_ ?_|refine WF ?_|refine W1 rfl ?_ ?_|refine W2 rfl ?_ ?_|refine W3 rfl ?_ ?_|refine W4 ?_ ?_|refine W5 rfl ?_ ?_|refine W6 ?_ ?_|refine WN ?_|refine X1 (W1 rfl ?_ ?_)|refine X1 (W2 rfl ?_ ?_)|refine X2 (W7 rfl ?_ ?_)|refine X3 (W7 rfl ?_ ?_)|refine X4 (W7 rfl ?_ ?_)|refine X5 (W7 rfl ?_ ?_))
  all_goals (try (conv => whnf))
  all_goals (try rfl)
 ·obtain ⟨hi,ha⟩ := hi
  repeat' ((conv => whnf);first|(with_reducible first|rfl|exact qAE|exact qAD)|exact True.intro|intro _|refine WA ?_ ?_|refine WF ?_|refine W1 rfl ?_ ?_|refine W2 rfl ?_ ?_|refine W3 rfl ?_ ?_|refine W4 ?_ ?_|refine W5 rfl ?_ ?_|refine W6 ?_ ?_|refine WN ?_|refine X1 (W1 rfl ?_ ?_)|refine X1 (W2 rfl ?_ ?_)|refine X2 (W7 rfl ?_ ?_)|refine X3 (W7 rfl ?_ ?_)|refine X4 (W7 rfl ?_ ?_)|refine X5 (W7 rfl ?_ ?_))
  all_goals (try (conv => whnf))
  all_goals (try first|exact obA|refine Ob.mk ?_)
  all_goals (try simp only [ZA,ZB,ZC,ZD,ZE,ZF,ZG,ZH,ZI,ZJ,ZK,ZL,ZM,ZN,ZO,Int.toNat_natCast,UInt8.ofNat_toNat,cast_eq] at *)
  ·rw [qKS (i := i) (by omega) (by simpa using ha) (by symm;assumption)]
  ·have h : i < l.length := by omega
   refine Rnd.mk ⟨i + 1,?_,?_,?_⟩
   ·refine ⟨by omega,?_⟩
    rw [qF4 l i w h,Bool.or_eq_false_iff]
    refine ⟨by simpa using ha,beq_eq_false_iff_ne.2 fun e => ?_⟩
    simp_all
   ·omega
   ·all_goals exact vcA
  ·have : i = l.length := by omega
   subst this
   rw [qFH (by simpa using ha)]
instance xIn19 (l : List Int) (w : Int) : Fn BB 266 [.rd qAH l,.int .i64 w] True (.int .i64 (qMT l w)) := by
 refine Fn.intro (N := 8) [0,1,4] [] Tryz.call266 Tryz.func266 rfl rfl (by kernel_rfl) (fun hpre => ?_)
 all_goals exact vcA
end Go.Vc

namespace Go.Vc
open Go.Proofs
set_option maxRecDepth 10000
set_option maxHeartbeats 8000000
instance gGetN (nm : List UInt8) : Fn BB 86 [.nils,.str nm] True (.tup [.str [],.bool false]) := by
 refine Fn.intro (N := 25) [0,1,4,5,6,10,19] [] Tryz.call86 Tryz.func86 rfl rfl (by kernel_rfl) (fun hpre => ?_)
 repeat' ((conv => whnf);first|(with_reducible first|rfl|exact qAE|exact qAD)|exact True.intro|intro _|refine WA ?_ ?_|refine WF ?_|refine W1 rfl ?_ ?_|refine W2 rfl ?_ ?_|refine W3 rfl ?_ ?_|refine W4 ?_ ?_|refine W5 rfl ?_ ?_|refine W6 ?_ ?_|refine WN ?_|refine X1 (W1 rfl ?_ ?_)|refine X1 (W2 rfl ?_ ?_)|refine X2 (W7 rfl ?_ ?_)|refine X3 (W7 rfl ?_ ?_)|refine X4 (W7 rfl ?_ ?_)|refine X5 (W7 rfl ?_ ?_))
 all_goals (try (conv => whnf))
 all_goals (try first|exact obA|refine Ob.mk ?_)
 refine LoopStop.mk (α := Unit) (fun k => [(6,.int .i64 0)]) (fun _ => []) 20 (fun k => True) (fun k => 0) () True.intro ?_ (fun k hk => ?_)
 ·all_goals exact vcA
 ·repeat' ((conv => whnf);first|(with_reducible first|rfl|exact qAE|exact qAD)|exact True.intro|intro _|refine WA ?_ ?_|refine WF ?_|refine W1 rfl ?_ ?_|refine W2 rfl ?_ ?_|refine W3 rfl ?_ ?_|refine W4 ?_ ?_|refine W5 rfl ?_ ?_|refine W6 ?_ ?_|refine WN ?_|refine X1 (W1 rfl ?_ ?_)|refine X1 (W2 rfl ?_ ?_)|refine X2 (W7 rfl ?_ ?_)|refine X3 (W7 rfl ?_ ?_)|refine X4 (W7 rfl ?_ ?_)|refine X5 (W7 rfl ?_ ?_))
  all_goals (try (conv => whnf))
  all_goals (try first|exact obA|refine Ob.mk ?_)
  all_goals (first | (exfalso;exact absurd ‹decide ((0 : Int) < 0) = true› (by decide)) | rfl | trace_state)
instance gAddN (a b : List UInt8) : FnM BB 320 [.nils,.agg [.str a,.str b]] [] True (.own 0) [(0,.own qAK [(a,b)])] := by
 refine FnM.intro (N := 25) [0,1,3,4,5,7,19] [] 0 Tryz.call320 Tryz.func320 rfl rfl (by kernel_rfl) (fun hpre => ?_)
 repeat' ((conv => whnf);first|(with_reducible first|rfl|exact qAE|exact qAD)|exact True.intro|intro _|refine WA ?_ ?_|refine WF ?_|refine W1 rfl ?_ ?_|refine W2 rfl ?_ ?_|refine W3 rfl ?_ ?_|refine W4 ?_ ?_|refine W5 rfl ?_ ?_|refine W6 ?_ ?_|refine WN ?_|refine X1 (W1 rfl ?_ ?_)|refine X1 (W2 rfl ?_ ?_)|refine X2 (W7 rfl ?_ ?_)|refine X3 (W7 rfl ?_ ?_)|refine X4 (W7 rfl ?_ ?_)|refine X5 (W7 rfl ?_ ?_))
 all_goals (try (conv => whnf))
 all_goals (try first|exact obA|refine Ob.mk ?_)
 ·rfl
 ·exact absurd ‹(!false) = false› (by decide)
end Go.Vc

namespace Go.Vc
open Go.Proofs
set_option maxRecDepth 10000
set_option maxHeartbeats 8000000
theorem qhB (op : List Int) (h : 0 < op.length) : op.take ((op.length : Int) - 1).toNat = op.take (op.length - 1) := by rw [show ((op.length : Int) - 1).toNat = op.length - 1 by omega]
instance xDropA (t : List qAG) (op : List Int) (md bk lx fm hd : Int) (fo sk : Bool) (ins : List UInt8) : FnM BB 281 [.loc 0 0]
  [(0,.box [.own 1,.own 2,.nils,.int .i64 md,.int .i64 bk,.int .i64 lx,.int .i64 fm,.int .i64 hd,.bool fo,.bool sk,.str ins]),(1,.own qAC t),(2,.own qAH op)] (0 < op.length ∧ op.length ≤ 1000) (.tup [])
  [(0,.box [.own 1,.own 3,.nils,.int .i64 md,.int .i64 bk,.int .i64 lx,.int .i64 fm,.int .i64 hd,.bool fo,.bool sk,.str ins]),(1,.own qAC t),(3,.own qAH (op.take (op.length - 1)))] := by
 refine FnM.intro (N := 18) [0] [(0,[0,4,0,0,0,4,0,0,0,4,4,4,4,4,0,0,4]),(1000000,[2])] 3 Tryz.call281 Tryz.func281 rfl rfl (by kernel_rfl) (fun hpre => ?_)
 have h := qhB op hpre.1
 repeat' ((conv => whnf);first|(with_reducible first|rfl|exact qAE|exact qAD)|exact True.intro|intro _|refine WA ?_ ?_|refine WF ?_|refine W1 rfl ?_ ?_|refine W2 rfl ?_ ?_|refine W3 rfl ?_ ?_|refine W4 ?_ ?_|refine W5 rfl ?_ ?_|refine W6 ?_ ?_|refine WN ?_|refine X1 (W1 rfl ?_ ?_)|refine X1 (W2 rfl ?_ ?_)|refine X2 (W7 rfl ?_ ?_)|refine X3 (W7 rfl ?_ ?_)|refine X4 (W7 rfl ?_ ?_)|refine X5 (W7 rfl ?_ ?_))
 all_goals (try (conv => whnf))
 all_goals (try first|exact obA|refine Ob.mk ?_)
 all_goals (try (first | rfl | (simp only [cast_eq,List.nil_append] at *;rw [h];done) | omega))
 all_goals trace_state
end Go.Vc

namespace Go.Vc
open Go.Proofs
set_option maxRecDepth 10000
set_option maxHeartbeats 4000000
def qW2 (l : List qAG) : Bool := l.all fun n => decide (n.2.2.1.length ≤ 60)
theorem qW4 {l : List qAG} (h : qW2 l = true) : qcD l := fun i => by
 cases hi : isT l i with
 | false => rw [qOL hi];exact Nat.zero_le _
 | true =>
  rw [qTH hi]
  have h2 := qDZ.1 hi
  unfold qW2 at h
  rw [List.all_eq_true] at h
  have hm : nd l i ∈ l := by
   have e : nd l i = l[i.toNat] := by unfold nd;rw [List.getD_eq_getElem?_getD,List.getElem?_eq_getElem (by omega)];rfl
   rw [e];exact List.getElem_mem _
  simpa using h _ hm
instance s56m (t : List qAG) (l : List Int) (nm : List UInt8) : FnM BB 304 [.agg [.rd qAC t],.rd qAH l,.str nm] [] (nm.length ≤ 100000 ∧ l.length ≤ 100000) (.own 0) [(0,.own qAH (l.take (qX5 (fun x => isE t x nm) l l.length)))] := by
 refine FnM.intro (N := 29) [0,1,2,3,6,7,10,25] [] 0 Tryz.call304 Tryz.func304 rfl rfl (by kernel_rfl) (fun hpre => ?_)
 repeat' ((conv => whnf);first|(with_reducible first|rfl|exact qAE|exact qAD)|exact True.intro|intro _|refine WA ?_ ?_|refine WF ?_|refine W1 rfl ?_ ?_|refine W2 rfl ?_ ?_|refine W3 rfl ?_ ?_|refine W4 ?_ ?_|refine W5 rfl ?_ ?_|refine W6 ?_ ?_|refine WN ?_|refine X1 (W1 rfl ?_ ?_)|refine X1 (W2 rfl ?_ ?_)|refine X2 (W7 rfl ?_ ?_)|refine X3 (W7 rfl ?_ ?_)|refine X4 (W7 rfl ?_ ?_)|refine X5 (W7 rfl ?_ ?_))
 all_goals (try (conv => whnf))
 all_goals (try first|exact obA|refine Ob.mk ?_)
 refine LoopStop.mk (α := Nat) (fun n => [(1,.rd qAH (l.take n))]) (fun _ => []) 20 (fun n => n ≤ l.length ∧ qX5 (fun x => isE t x nm) l l.length = qX5 (fun x => isE t x nm) l n) (fun n => n) l.length (by simp) ?_ (fun n hC => ?_)
 ·repeat' ((conv => whnf);first|(with_reducible first|rfl|exact qAE|exact qAD)|exact True.intro|intro _|refine WA ?_ ?_|refine WF ?_|refine W1 rfl ?_ ?_|refine W2 rfl ?_ ?_|refine W3 rfl ?_ ?_|refine W4 ?_ ?_|refine W5 rfl ?_ ?_|refine W6 ?_ ?_|refine WN ?_|refine X1 (W1 rfl ?_ ?_)|refine X1 (W2 rfl ?_ ?_)|refine X2 (W7 rfl ?_ ?_)|refine X3 (W7 rfl ?_ ?_)|refine X4 (W7 rfl ?_ ?_)|refine X5 (W7 rfl ?_ ?_))
  all_goals (try (conv => whnf))
  all_goals (try first|exact obA|refine Ob.mk ?_)
  all_goals (first | rfl | (rw [List.take_of_length_le (Nat.le_refl _)];done))
 ·obtain ⟨hn,hC⟩ := hC
  have e0 := qS2 hn
  have e1 : ((n : Int) - 1).toNat = n - 1 := by omega
  have e2 : 1 < n → (l.take n).getD (n - 1) qAH.dflt = l.getD (n - 1) 0 := fun h => qPM (by omega)
  repeat' ((conv => whnf);first|(with_reducible first|rfl|exact qAE|exact qAD)|exact True.intro|intro _|refine WA ?_ ?_|refine WF ?_|refine W1 rfl ?_ ?_|refine W2 rfl ?_ ?_|refine W3 rfl ?_ ?_|refine W4 ?_ ?_|refine W5 rfl ?_ ?_|refine W6 ?_ ?_|refine WN ?_|refine X1 (W1 rfl ?_ ?_)|refine X1 (W2 rfl ?_ ?_)|refine X2 (W7 rfl ?_ ?_)|refine X3 (W7 rfl ?_ ?_)|refine X4 (W7 rfl ?_ ?_)|refine X5 (W7 rfl ?_ ?_))
  all_goals (try (conv => whnf))
  all_goals (try rw [e0] at *)
  all_goals (try rw [e1] at *)
  all_goals (try rw [qPY] at *)
  all_goals (try first|exact obA|refine Ob.mk ?_)
  ·rename_i h
   have h1 : 1 < n := by have := of_decide_eq_true ‹decide ((n : Int) > 1) = true›;omega
   rw [e2 h1] at h
   rw [hC.trans (qaL h1 h)];rfl
  ·rename_i h
   have h1 : 1 < n := by have := of_decide_eq_true ‹decide ((n : Int) > 1) = true›;omega
   rw [e2 h1] at h
   refine Rnd.mk ⟨n - 1,⟨by omega,hC.trans (qcV h1 h)⟩,by omega,?_,?_,?_⟩
   all_goals exact vcA
  ·have h1 : ¬ 1 < n := by have := of_decide_eq_false ‹decide ((n : Int) > 1) = false›;omega
   rw [hC.trans (qaU h1)];rfl
instance s58m (t : List qAG) (l : List Int) (nm : List UInt8) : FnM BB 340 [.agg [.rd qAC t],.rd qAH l,.str nm] [] (qcD t ∧ nm.length ≤ 100000 ∧ l.length ≤ 100000) (.own 0) [(0,.own qAH (l.take (qVU (qQN t nm) l l.length)))] := by
 refine FnM.intro (N := 44) [0,1,2,3,6,7,10,35] [(2,[0,0,0,0,0,0,0,6,6,6])] 0 Tryz.call340 Tryz.func340 rfl rfl (by kernel_rfl) (fun hpre => ?_)
 repeat' ((conv => whnf);first|(with_reducible first|rfl|exact qAE|exact qAD)|exact True.intro|intro _|refine WA ?_ ?_|refine WF ?_|refine W1 rfl ?_ ?_|refine W2 rfl ?_ ?_|refine W3 rfl ?_ ?_|refine W4 ?_ ?_|refine W5 rfl ?_ ?_|refine W6 ?_ ?_|refine WN ?_|refine X1 (W1 rfl ?_ ?_)|refine X1 (W2 rfl ?_ ?_)|refine X2 (W7 rfl ?_ ?_)|refine X3 (W7 rfl ?_ ?_)|refine X4 (W7 rfl ?_ ?_)|refine X5 (W7 rfl ?_ ?_))
 all_goals (try (conv => whnf))
 all_goals (try first|exact obA|refine Ob.mk ?_)
 refine LoopStop.mk (α := Nat) (fun n => [(1,.rd qAH (l.take n))]) (fun _ => []) 20 (fun n => n ≤ l.length ∧ qVU (qQN t nm) l l.length = qVU (qQN t nm) l n) (fun n => n) l.length (by simp) ?_ (fun n hC => ?_)
 ·repeat' ((conv => whnf);first|(with_reducible first|rfl|exact qAE|exact qAD)|exact True.intro|intro _|refine WA ?_ ?_|refine WF ?_|refine W1 rfl ?_ ?_|refine W2 rfl ?_ ?_|refine W3 rfl ?_ ?_|refine W4 ?_ ?_|refine W5 rfl ?_ ?_|refine W6 ?_ ?_|refine WN ?_|refine X1 (W1 rfl ?_ ?_)|refine X1 (W2 rfl ?_ ?_)|refine X2 (W7 rfl ?_ ?_)|refine X3 (W7 rfl ?_ ?_)|refine X4 (W7 rfl ?_ ?_)|refine X5 (W7 rfl ?_ ?_))
  all_goals (try (conv => whnf))
  all_goals (try first|exact obA|refine Ob.mk ?_)
  all_goals (first | rfl | (rw [List.take_of_length_le (Nat.le_refl _)];done))
 ·obtain ⟨hn,hC⟩ := hC
  have e0 := qS2 hn
  have e1 : ((n : Int) - 1).toNat = n - 1 := by omega
  have e2 : 1 < n → (l.take n).getD (n - 1) qAH.dflt = l.getD (n - 1) 0 := fun h => qPM (by omega)
  have e3 := hpre.1 ((l.take n).getD (n - 1) qAH.dflt)
  repeat' ((conv => whnf);first|(with_reducible first|rfl|exact qAE|exact qAD)|exact True.intro|intro _|refine WA ?_ ?_|refine WF ?_|refine W1 rfl ?_ ?_|refine W2 rfl ?_ ?_|refine W3 rfl ?_ ?_|refine W4 ?_ ?_|refine W5 rfl ?_ ?_|refine W6 ?_ ?_|refine WN ?_|refine X1 (W1 rfl ?_ ?_)|refine X1 (W2 rfl ?_ ?_)|refine X2 (W7 rfl ?_ ?_)|refine X3 (W7 rfl ?_ ?_)|refine X4 (W7 rfl ?_ ?_)|refine X5 (W7 rfl ?_ ?_))
  all_goals (try (conv => whnf))
  all_goals (try rw [e0] at *)
  all_goals (try rw [e1] at *)
  all_goals (try rw [qPY] at *)
  all_goals (try first|exact obA|refine Ob.mk ?_)
  ·rename_i h1 h
   have h1 : 1 < n := by have := of_decide_eq_true h1;omega
   have h : (!qQN t nm ((l.take n).getD (n - 1) qAH.dflt)) = true := by rw [qPP];exact h
   rw [e2 h1] at h
   rw [hC.trans (qXD h1 (by simpa using h))];rfl
  ·rename_i h1 h hz
   have h1 : 1 < n := by have := of_decide_eq_true h1;omega
   have h : (!qQN t nm ((l.take n).getD (n - 1) qAH.dflt)) = false := by rw [qPP];exact h
   rw [e2 h1] at h
   refine Rnd.mk ⟨n - 1,⟨by omega,hC.trans (qdC h1 (by simpa using h))⟩,by omega,?_,?_,?_⟩
   all_goals exact vcA
  ·rename_i h1
   have h1 : ¬ 1 < n := by have := of_decide_eq_false h1;omega
   rw [hC.trans (qaB h1)];rfl
instance (priority := 3000) qAImplied (t : List qAG) (op : List Int) (nm : List UInt8) (md bk lx fm hd : Int) (fo sk : Bool) (ins : List UInt8) :
  FnM BB 282 [.loc 0 0,.str nm] [(0,.box [.own 1,.own 2,.nils,.int .i64 md,.int .i64 bk,.int .i64 lx,.int .i64 fm,.int .i64 hd,.bool fo,.bool sk,.str ins]),(1,.own qAC t),(2,.own qAH (op))] (qW2 t = true ∧ nm.length ≤ 100000 ∧ op.length ≤ 100000)
   (.tup []) [(0,.box [.own 1,.own 2,.nils,.int .i64 md,.int .i64 bk,.int .i64 lx,.int .i64 fm,.int .i64 hd,.bool fo,.bool sk,.str ins]),(1,.own qAC t),(2,.own qAH (op.take (qVU (qQN t nm) op op.length)))] := by
 refine FnM.intro (N := 17) [0,1] [(0,[0,0,0,0,1,0,0,0,1,0,3,0,0,3])] 3 Tryz.call282 Tryz.func282 rfl rfl (by kernel_rfl) (fun hpre => ?_)
 obtain ⟨h1,h2,h3⟩ := hpre
 have h1 := qW4 h1
 repeat' ((conv => whnf);first|(with_reducible first|rfl|exact qAE|exact qAD)|exact True.intro|intro _|refine WA ?_ ?_|refine WF ?_|refine W1 rfl ?_ ?_|refine W2 rfl ?_ ?_|refine W3 rfl ?_ ?_|refine W4 ?_ ?_|refine W5 rfl ?_ ?_|refine W6 ?_ ?_|refine WN ?_|refine X1 (W1 rfl ?_ ?_)|refine X1 (W2 rfl ?_ ?_)|refine X2 (W7 rfl ?_ ?_)|refine X3 (W7 rfl ?_ ?_)|refine X4 (W7 rfl ?_ ?_)|refine X5 (W7 rfl ?_ ?_))
 all_goals (try (conv => whnf))
 all_goals (try first|exact obA|refine Ob.mk ?_)
 all_goals (first | exact ⟨h1,h2,h3⟩ | exact ⟨h2,h3⟩ | rfl | trace_state)
end Go.Vc

namespace Go.Vc
open Go.Proofs
set_option maxRecDepth 100000
set_option maxHeartbeats 40000000
noncomputable abbrev BA : Base := { BB with al := true }
instance (priority := 100) fnA {f : FuncId} {args : List SV} {pre : Prop} {res : SV} [h : Fn BB f args pre res] : Fn BA f args pre res := ⟨h.call,h.ok⟩
instance (priority := 100) fnmA {f : FuncId} {args : List SV} {Φ : Phi} {pre : Prop} {res : SV} {Φ' : Phi} [h : FnM BB f args Φ pre res Φ'] : FnM BA f args Φ pre res Φ' := ⟨h.call,h.ok⟩
@[simp] theorem qw9 (t : TypeId) : qAA BA.P t = qAA BB.P t := rfl
noncomputable section
open Tryz
@[reducible] def iM {f : FuncId} {fn : Func} {c : Code} (N : Nat) (L : List Nat) (pl : List (Nat × List Nat)) (call : ∀ (vs : Array Value) (w : World),(callFunc f vs).run BA.P w = .ok (.enter f vs) w) (hf : BA.P.funcs[f]? = some fn) (hb : fn.body = some c) (hN : fn.ntmps = N) (hok : codeOk N pl c = true := by kernel_rfl) : Inl BA f := Inl.make (N := N) L pl call hf hb hN hok
instance : Inl BA 17 := iM 49 [0,1,2,3,4,14,37,42,48] [(1,[1,1,1,1,1,1,1,3,3,3])] call17 func17 rfl rfl
instance : Inl BA 18 := iM 72 [0,1,2,4,5,6,7,27,32,41,46,56,61,71] [] call18 func18 rfl rfl
instance : Inl BA 19 := iM 65 [0,1,2,3,4,5,6,7,8,9,10,11,34,49] [(5,[0,1,0,1,3])] call19 func19 rfl rfl
instance : Inl BA 21 := iM 32 [0,1,2,3,4,5,12,17,31] [(6,[0,1,0,1,1,0,1,0,1,1,3,3])] call21 func21 rfl rfl
instance : Inl BA 26 := iM 60 [0,1,2,4,5,6,7,8,18,36,51] [(6,[0,0,0,0,0,0,0,0,6,6])] call26 func26 rfl rfl
instance : Inl BA 27 := iM 30 [0,1,2,3,6,7,17] [] call27 func27 rfl rfl
instance : Inl BA 28 := iM 8 [0,1,2,4] [] call28 func28 rfl rfl
instance : Inl BA 33 := iM 19 [0,1,2,3,4,9] [] call33 func33 rfl rfl
instance : Inl BA 35 := iM 5 [0,1,2] [] call35 func35 rfl rfl
instance : Inl BA 40 := iM 62 [0,1,3,4,5,6,7,8,9,14,34] [(10,[0,0,0,1,0,0,1,1,3,3,3,3])] call40 func40 rfl rfl
instance : Inl BA 42 := iM 61 [0,1,2,4,5,6,7,8,9,25,28,35,41,54] [] call42 func42 rfl rfl
instance : Inl BA 44 := iM 24 [0,1,4,18] [] call44 func44 rfl rfl
instance : Inl BA 47 := iM 48 [0,1,2,4,13,31,41,47] [] call47 func47 rfl rfl
instance : Inl BA 50 := iM 35 [0,1,4,5,6,12,16,32] [] call50 func50 rfl rfl
instance : Inl BA 52 := iM 67 [0,1,2,3,4,8,9,28,30,35,65] [] call52 func52 rfl rfl
instance : Inl BA 53 := iM 26 [0,1,4,5,10,14,25] [(6,[0,0,1,1,0,0,1,1,3])] call53 func53 rfl rfl
instance : Inl BA 55 := iM 90 [0,1,2,3,4,5,6,7,8,9,15,30,51] [(6,[0,0,0,0,0,0,0,0,6,6]),(10,[1,0,1,0,1,1,1,1,0,1,0,1,1,1,3,3]),(14,[0,0,0,1,1,0,1,0,1,1,1,0,0,0,1,1,1,0,0,1,1,0,1,0,1,1,1,0,0,1,1,1,3,3,3,3])] call55 func55 rfl rfl
instance : Inl BA 59 := iM 28 [0,1,4,5,7] [(5,[0,0,0,1,0,0,0,0,1,1,1,1,1,1,3,3])] call59 func59 rfl rfl
instance : Inl BA 70 := iM 95 [0,1,2,4,5,6,7,18,56,80] [(8,[0,0,0,1,1,1,1,1,1,1,1,1,1,1,1,1,3,3,3,3,3])] call70 func70 rfl rfl
instance : Inl BA 71 := iM 16 [0,2,3,7,13] [] call71 func71 rfl rfl
instance : Inl BA 73 := iM 77 [0,1,2,4,5,6,21,46,51,76] [] call73 func73 rfl rfl
instance : Inl BA 74 := iM 4 [0] [] call74 func74 rfl rfl
instance : Inl BA 75 := iM 21 [0,1,2,5,6,7] [] call75 func75 rfl rfl
instance : Inl BA 76 := iM 53 [0,1,2,3,4,5,12,13,14,15,16,27,34] [(7,[0,1,0,0,1,1,0,0,1,1,1,1,3,0,3])] call76 func76 rfl rfl
instance : Inl BA 77 := iM 13 [0,1,2,7] [] call77 func77 rfl rfl
instance : Inl BA 78 := iM 68 [0,1,2,6,7,8,9,13,34,44] [(10,[0,0,0,1,0,1,1,1,0,1,0,1,1,1,0,1,0,1,1,1,3])] call78 func78 rfl rfl
instance : Inl BA 79 := iM 64 [0,1,2,3,4,7,10,11,20,47] [(7,[0,0,0,0,1,0,1,1,1,1,0,0,3])] call79 func79 rfl rfl
instance : Inl BA 82 := iM 71 [0,1,2,3,4,5,47,52,65] [(6,[0,1,0,1,1,0,1,0,1,1,3])] call82 func82 rfl rfl
instance : Inl BA 85 := iM 15 [0,1,2,4,5] [] call85 func85 rfl rfl
instance : Inl BA 87 := iM 65 [0,1,2,3,4,8,9,10,11,21,60] [(5,[0,0,0,0,0,0,0,0,6,6]),(6,[0,1,1,1,1,1,1,1,1,1,1,1,1,1,1,1,1,1,1,1,1,1,1,1,1,1,1,3,3])] call87 func87 rfl rfl
instance : Inl BA 92 := iM 68 [0,1,2,4,5,6,7,8,9,10,26,35,44,52,63] [(14,[0,1,0,0,1,1,3,3,3])] call92 func92 rfl rfl
instance : Inl BA 93 := iM 19 [0,1,2,4] [] call93 func93 rfl rfl
instance : Inl BA 98 := iM 22 [0,2,3,4,8,12] [] call98 func98 rfl rfl
instance : Inl BA 100 := iM 58 [0,1,2,4,5,6,7,12,16,24,42] [(9,[0,1,1,1,1,1,1,1,1,1,3,3,3])] call100 func100 rfl rfl
instance : Inl BA 101 := iM 19 [0,1,2,4] [] call101 func101 rfl rfl
instance : Inl BA 105 := iM 13 [0,2,3,10] [] call105 func105 rfl rfl
instance : Inl BA 109 := iM 8 [0,1,2,4] [] call109 func109 rfl rfl
instance : Inl BA 110 := iM 15 [0,1,2,4,5,10] [] call110 func110 rfl rfl
instance : Inl BA 114 := iM 34 [0,2,3,4,10] [] call114 func114 rfl rfl
instance : Inl BA 115 := iM 46 [0,1,4,5,6,7,35,42,44,45] [] call115 func115 rfl rfl
instance : Inl BA 123 := iM 29 [0,1,2,4,5,6,7,14] [(6,[0,0,1,0,0,1,1,3,3,3,3,3])] call123 func123 rfl rfl
instance : Inl BA 124 := iM 82 [0,1,3,4,5,6,7,18,23,54,60] [] call124 func124 rfl rfl
instance : Inl BA 125 := iM 50 [0,1,2,3,4,9,31,34,49] [(4,[0,1,0,1,0,1,1,1,1,1,1,1,1,1,3,3,3,3,3,3]),(9,[0,1,0,1,1,1,0,1,0,1,1,1,3])] call125 func125 rfl rfl
instance : Inl BA 126 := iM 34 [0,1,4,5,26] [] call126 func126 rfl rfl
instance : Inl BA 128 := iM 19 [0,1,2,4] [] call128 func128 rfl rfl
instance : Inl BA 129 := iM 13 [0,2,5] [] call129 func129 rfl rfl
instance : Inl BA 130 := iM 8 [0,2] [] call130 func130 rfl rfl
instance : Inl BA 132 := iM 26 [0,1,4] [] call132 func132 rfl rfl
instance : Inl BA 133 := iM 28 [0,1,3,4] [(3,[0,0,0,0,1,1,1,3,0,0,3]),(5000003,[3])] call133 func133 rfl rfl
instance : Inl BA 134 := iM 69 [0,1,2,3,8,34] [(3,[0,0,0,1,0,0,0,0,1,1,1,0,1,3,3,3])] call134 func134 rfl rfl
instance : Inl BA 152 := iM 63 [0,2,3,4,5,16,42,50,58] [(4,[0,0,0,0,0,0,0,0,0,0,0,0,0,0,6,6])] call152 func152 rfl rfl
instance : Inl BA 154 := iM 43 [0,1,4,5,10] [(3,[0,0,0,0,1,0,0,0,1,1,3,3,3,3]),(4,[0,0,0,0,7,0,0,0,0,4,4,4,4,4,4,4,4,4,4,4]),(3000004,[649,714,779,844,909,974,1039,1104,1169,1234])] call154 func154 rfl rfl
instance : Inl BA 155 := iM 57 [0,1,4,15,20,35,50] [] call155 func155 rfl rfl
instance : Inl BA 159 := iM 19 [0,1,4,6,10] [] call159 func159 rfl rfl
instance : Inl BA 160 := iM 19 [0,1,2] [] call160 func160 rfl rfl
instance : Inl BA 161 := iM 55 [0,2,3,4,5,6,7,8,24,31,36,42,50] [(14,[1,0,0,1,1,3])] call161 func161 rfl rfl
instance : Inl BA 162 := iM 89 [0,1,3,4,5,10,24,30,48,62,79] [] call162 func162 rfl rfl
instance : Inl BA 163 := iM 62 [0,1,4,5,6,7,9,11,14,22,26,61] [] call163 func163 rfl rfl
instance : Inl BA 164 := iM 16 [0,2,3,7,13] [] call164 func164 rfl rfl
instance : Inl BA 165 := iM 15 [0,2,3,7,14] [] call165 func165 rfl rfl
instance : Inl BA 167 := iM 64 [0,2,3,4,5,6,10,26,34,50] [] call167 func167 rfl rfl
instance : Inl BA 169 := iM 77 [0,1,4,5,6,7,14,33,38,69] [] call169 func169 rfl rfl
instance : Inl BA 182 := iM 71 [0,1,2,3,8,9,10,11,17,25,40,42,52,58,67,69,70] [] call182 func182 rfl rfl
instance : Inl BA 184 := iM 93 [0,1,2,3,8,9,10,11,12,14,16,18,27,39,49,57,71] [] call184 func184 rfl rfl
instance : Inl BA 185 := iM 38 [0,2,3,16,28] [] call185 func185 rfl rfl
instance : Inl BA 186 := iM 77 [0,1,3,4,5,23,45,63] [] call186 func186 rfl rfl
instance : Inl BA 187 := iM 132 [0,1,4,5,6,11,22,40,44,50,73,94,115] [(11,[0,0,0,0,1,0,0,0,1,1,1,1,1,3]),(13,[0,1,0,0,0,1,0,0,0,1,1,1,1,3,0,0,3]),(20,[0,1,0,0,0,1,0,0,0,1,1,1,1,3,0,0,3])] call187 func187 rfl rfl
instance : Inl BA 188 := iM 92 [0,1,4,9,22,33,41,46,72,77,85] [] call188 func188 rfl rfl
instance : Inl BA 189 := iM 55 [0,1,4,9,17,25,33,41] [] call189 func189 rfl rfl
instance : Inl BA 190 := iM 109 [0,1,4,16,42,56,65,76,87,95] [] call190 func190 rfl rfl
instance : Inl BA 191 := iM 70 [0,1,4,9,17,25,33,41,49] [] call191 func191 rfl rfl
instance : Inl BA 192 := iM 16 [0,1,2] [] call192 func192 rfl rfl
instance : Inl BA 193 := iM 48 [0,1,2,3,4,17] [] call193 func193 rfl rfl
instance : Inl BA 194 := iM 33 [0,1,2,6,7,12,20,32] [(6,[0,0,0,1,1,1,0,0,1,1,1,3])] call194 func194 rfl rfl
instance : Inl BA 197 := iM 15 [0,2,3,7,14] [] call197 func197 rfl rfl
instance : Inl BA 198 := iM 27 [0,2,3,8,21,26] [(4,[0,0,1,1,1,0,0,1,1,1,3])] call198 func198 rfl rfl
instance : Inl BA 199 := iM 38 [0,1,4,5,10,18,37] [(6,[0,0,1,1,1,0,0,1,1,1,1,1,1,1,3,3,3,3,3])] call199 func199 rfl rfl
instance : Inl BA 200 := iM 33 [0,2,3,4,10,24] [] call200 func200 rfl rfl
instance : Inl BA 201 := iM 70 [0,2,3,4,5,6,7,8,13,19,25,31,33,35,37,39,41,44,66] [] call201 func201 rfl rfl
instance : Inl BA 202 := iM 20 [0,2,16] [] call202 func202 rfl rfl
instance : Inl BA 211 := iM 23 [0,1,4,5,8,22] [(4,[0,0,0,1,0,0,0,1,0,1,1,3])] call211 func211 rfl rfl
instance : Inl BA 212 := iM 72 [0,1,2,6,7,8,9,10,15,25,42,57] [] call212 func212 rfl rfl
instance : Inl BA 213 := iM 27 [0,1,4,5,6,7,8,9,17] [] call213 func213 rfl rfl
instance : Inl BA 214 := iM 39 [0,1,4,5,6,7,8,12,22] [] call214 func214 rfl rfl
instance : Inl BA 215 := iM 73 [0,1,4,5,6,22,24,47] [(6,[0,0,0,0,0,0,0,0,0,3,3,3])] call215 func215 rfl rfl
instance : Inl BA 216 := iM 51 [0,1,2,6,18] [(4,[0,0,0,0,0,0,0,0,0,3,3,3])] call216 func216 rfl rfl
instance : Inl BA 217 := iM 51 [0,1,2,4,6,8,11,22] [] call217 func217 rfl rfl
instance : Inl BA 218 := iM 64 [0,1,4,5,6,14,35,63] [(4,[0,0,0,0,1,0,0,0,1,0,1,1,1,1,1,3]),(8,[0,0,0,0,1,0,0,0,1,0,0,1,1,3,3,3,3])] call218 func218 rfl rfl
instance : Inl BA 219 := iM 50 [0,1,2,4,6,7,8,9] [(2,[0,0,0,0,0,1,0,1,3,3,3])] call219 func219 rfl rfl
instance : Inl BA 220 := iM 43 [0,1,2,4,5,6,7,9,17,26] [] call220 func220 rfl rfl
instance : Inl BA 221 := iM 100 [0,2,3,4,32,55,64] [(2,[0,0,0,1,1,1,1,1,1,1,1,1,1,1,1,1,1,1,3,3,3]),(3,[0,0,0,1,1,1,1,1,1,1,1,1,1,1,1,1,1,1,1,1,3,3,3]),(7,[0,0,0,0,0,1,0,0,0,1,0,1,1,3,3,3,3,3]),(8,[0,0,0,0,1,0,0,0,1,0,1,1,0,3,0,0,3])] call221 func221 rfl rfl
instance : Inl BA 222 := iM 124 [0,1,4,5,14,20,23,38,43,47,50,57,67,73,78,81,86,89,99] [(32,[0,1,0,0,0,1,0,0,0,1,1,1,1,3,0,0,3])] call222 func222 rfl rfl
instance : Inl BA 223 := iM 73 [0,1,4,17,55] [(2,[0,0,0,0,1,1,1,0,0,0,1,3]),(3,[0,0,0,1,1,1,1,1,1,1,1,1,1,1,1,1,1,1,1,1,1,1,1,1,3,3]),(4,[0,0,0,0,1,1,1,0,0,0,1,3])] call223 func223 rfl rfl
instance : Inl BA 224 := iM 26 [0,1,4,9,14,22] [] call224 func224 rfl rfl
instance : Inl BA 225 := iM 78 [0,1,4,5,6,7,25,34,41,50,54,63,68,74] [] call225 func225 rfl rfl
instance : Inl BA 226 := iM 31 [0,1,4,10,15,27] [] call226 func226 rfl rfl
instance : Inl BA 227 := iM 34 [0,1,4,10,12,24] [] call227 func227 rfl rfl
instance : Inl BA 228 := iM 84 [0,1,4,5,6,11,19,48,76] [(6,[0,0,0,0,1,0,0,0,1,0,1,1,1,1,1,3]),(7,[0,0,0,1,0,0,0,1,0,1,1,0,3]),(10,[0,1,0,1,1,1,1,1,1,1,1,1,1,1,1,1,1,3,3,3])] call228 func228 rfl rfl
instance : Inl BA 230 := iM 77 [0,1,4,5,23,54] [(0,[0,0,0,1,0,0,0,1,3,3]),(10,[0,0,0,0,1,0,0,0,1,0,3,0,0,3])] call230 func230 rfl rfl
instance : Inl BA 231 := iM 122 [0,1,4,5,15,29,37,39,53,57,65,69,82,115] [] call231 func231 rfl rfl
instance : Inl BA 232 := iM 90 [0,1,4,20,29,34,40,45,49,55,57,62,71,76] [] call232 func232 rfl rfl
instance : Inl BA 233 := iM 40 [0,1,4,11,14,36] [] call233 func233 rfl rfl
instance : Inl BA 234 := iM 68 [0,1,4,5,6,11,24,31,40,45,59] [] call234 func234 rfl rfl
instance : Inl BA 235 := iM 55 [0,1,4,5,7,18,28,44,51] [] call235 func235 rfl rfl
instance : Inl BA 236 := iM 45 [0,1,4,6,17,25,29,41] [] call236 func236 rfl rfl
instance : Inl BA 237 := iM 47 [0,1,4,5,7,13,26,35,39,43] [] call237 func237 rfl rfl
instance : Inl BA 238 := iM 18 [0,1,2,6] [(1,[0,0,0,1,0,0,0,1,0,0,3,3])] call238 func238 rfl rfl
instance : Inl BA 240 := iM 63 [0,1,4,9,24,31,43,50] [] call240 func240 rfl rfl
instance : Inl BA 241 := iM 54 [0,1,4,9,35,44,51] [(2,[0,1,1,1,1,1,1,1,1,1,1,1,1,1,1,1,1,1,1,3,3])] call241 func241 rfl rfl
instance : Inl BA 242 := iM 53 [0,1,4,6,7,13,18,32] [(9,[0,0,0,0,0,0,3,3,3,3]),(10,[0,0,0,0,0,0,0,3,3,0,3])] call242 func242 rfl rfl
instance : Inl BA 243 := iM 57 [0,1,4,6,23,28,49] [] call243 func243 rfl rfl
instance : Inl BA 244 := iM 55 [0,1,4,6,7,8,18,25,41] [] call244 func244 rfl rfl
instance : Inl BA 245 := iM 64 [0,1,4,5,6,7,8,35,42,46] [] call245 func245 rfl rfl
instance : Inl BA 246 := iM 109 [0,1,4,5,6,7,8,35,42,56,101] [(8,[0,0,0,1,1,1,1,1,1,1,1,3,3]),(9,[0,1,0,0,0,1,1,0,0,0,1,1,3,0,0,3]),(11,[0,0,0,0,1,0,0,0,1,3,0,0,3])] call246 func246 rfl rfl
instance : Inl BA 247 := iM 45 [0,1,4,9,27] [] call247 func247 rfl rfl
instance : Inl BA 248 := iM 117 [0,1,4,5,6,7,19,36,54,66,74,81,86,105,110] [(2,[0,0,0,0,1,0,0,0,1,1,1,3])] call248 func248 rfl rfl
instance : Inl BA 249 := iM 10 [0,1,4] [] call249 func249 rfl rfl
instance : Inl BA 259 := iM 37 [0,1,2,6,7,9,11,20,26,33] [] call259 func259 rfl rfl
instance : Inl BA 260 := iM 151 [0,2,3,4,5,6,7,8,9,10,19,36,61,76,103,117,122,130,141] [] call260 func260 rfl rfl
instance : Inl BA 261 := iM 92 [0,1,4,5,6,7,9,28,38,42,57,64,71,85] [] call261 func261 rfl rfl
instance : Inl BA 262 := iM 77 [0,1,4,5,6,7,8,15,23,33,45,73] [] call262 func262 rfl rfl
instance : Inl BA 263 := iM 126 [0,1,4,5,6,7,8,20,31,69,114] [(2,[0,0,0,1,0,0,0,1,3,3]),(4,[0,0,0,1,1,1,0,0,0,0,1,0,0,0,1,1,1,1,1,1,1,1,3]),(5,[0,0,0,0,1,0,0,0,1,0,1,1,3,3,3,3]),(7,[0,0,0,0,1,0,0,0,1,0,1,1,3,0,3]),(9,[0,0,0,0,0,3,0,3,3,3,3,0,3]),(12,[0,0,0,0,0,3,0,3,3,3,3,0,3])] call263 func263 rfl rfl
instance : Inl BA 265 := iM 24 [0,1,4,5,9,18] [] call265 func265 rfl rfl
instance : Inl BA 267 := iM 8 [0,1,2] [] call267 func267 rfl rfl
instance : Inl BA 268 := iM 29 [0,1,2,6,7,8,15,23] [] call268 func268 rfl rfl
instance : Inl BA 269 := iM 20 [0,1,2,3,8,13] [] call269 func269 rfl rfl
instance : Inl BA 270 := iM 28 [0,2,16] [] call270 func270 rfl rfl
instance : Inl BA 271 := iM 6 [0] [] call271 func271 rfl rfl
instance : Inl BA 272 := iM 1 [0] [] call272 func272 rfl rfl
instance : Inl BA 273 := iM 206 [0,1,4,5,6,7,8,9,10,11,12,13,14,15,16,33,38,52,60,73,78,166] [(8,[0,0,0,1,0,0,0,1,0,3,3]),(22,[0,0,0,1,0,1,1,0,0,0,1,0,0,1,1,1,1,3]),(34,[0,0,0,0,1,0,0,0,1,0,1,1,0,3,0,0,3]),(5000019,[2000])] call273 func273 rfl rfl
instance : Inl BA 274 := iM 72 [0,1,4,5,6,14,30,41,71] [(9,[0,0,0,0,1,0,1,1,1,0,0,0,0,1,0,1,1,1,3])] call274 func274 rfl rfl
instance : Inl BA 275 := iM 11 [0,2] [] call275 func275 rfl rfl
instance : Inl BA 276 := iM 35 [0,1,2,6,10] [(3,[0,0,0,0,1,0,0,0,0,0,1,0,1,1,1,0,0,1,1,1,3,3,3])] call276 func276 rfl rfl
instance : Inl BA 277 := iM 11 [0,1] [] call277 func277 rfl rfl
instance : Inl BA 278 := iM 27 [0,1] [] call278 func278 rfl rfl
instance : Inl BA 279 := iM 6 [0,3] [] call279 func279 rfl rfl
instance : Inl BA 280 := iM 16 [0,1,4] [(1,[0,0,0,1,0,0,0,1,1,0,3,3])] call280 func280 rfl rfl
instance : Inl BA 283 := iM 64 [0,1,2,3,6,7,14,59] [(4,[1,0,0,1,1,1,1,1,1,1,1,1,1,1,1,1,1,1,1,1,1,1,1,1,1,1,1,1,1,1,1,1,1,1,1,1,1,1,1,1,1,3,3])] call283 func283 rfl rfl
instance : Inl BA 284 := iM 27 [0,1,4,5,6,10,18] [] call284 func284 rfl rfl
instance : Inl BA 285 := iM 31 [0,1,4,5,6,10,22] [] call285 func285 rfl rfl
instance : Inl BA 286 := iM 55 [0,1,2,3,6,7,8,9,10,11,18,27,34,43] [(5,[1,0,0,1,1,0,3])] call286 func286 rfl rfl
instance : Inl BA 287 := iM 12 [0,1,4] [] call287 func287 rfl rfl
instance : Inl BA 288 := iM 28 [0,1,4,9] [] call288 func288 rfl rfl
instance : Inl BA 289 := iM 18 [0,1,4] [] call289 func289 rfl rfl
instance : Inl BA 290 := iM 1 [0] [] call290 func290 rfl rfl
instance : Inl BA 291 := iM 50 [0,1,4,11,23,33,41] [] call291 func291 rfl rfl
instance : Inl BA 292 := iM 10 [0,2,5] [] call292 func292 rfl rfl
instance : Inl BA 293 := iM 18 [0,1,4] [] call293 func293 rfl rfl
instance : Inl BA 294 := iM 22 [0,2,3,4] [] call294 func294 rfl rfl
instance : Inl BA 295 := iM 18 [0] [(0,[0,1,0,0,0,1,0,0,0,1,1,1,1,3,0,0,3])] call295 func295 rfl rfl
instance : Inl BA 296 := iM 16 [0,1,4,5] [] call296 func296 rfl rfl
instance : Inl BA 297 := iM 23 [0,2,3,4,14] [(4,[0,0,0,0,0,0,0,0])] call297 func297 rfl rfl
instance : Inl BA 299 := iM 13 [0,1,2,4] [] call299 func299 rfl rfl
instance : Inl BA 300 := iM 22 [0,1,2,3,8,12] [] call300 func300 rfl rfl
instance : Inl BA 301 := iM 13 [0] [] call301 func301 rfl rfl
instance : Inl BA 302 := iM 20 [0,1] [] call302 func302 rfl rfl
instance : Inl BA 305 := iM 31 [0,1,14] [(1,[0,1,0,0,0,1,0,0,0,1,1,1,1,3,0,0,3])] call305 func305 rfl rfl
instance : Inl BA 306 := iM 10 [0,2,5] [] call306 func306 rfl rfl
instance : Inl BA 307 := iM 26 [0,2,3,4,5,10] [] call307 func307 rfl rfl
instance : Inl BA 308 := iM 19 [0,1,4] [] call308 func308 rfl rfl
instance : Inl BA 309 := iM 9 [0,1,4] [] call309 func309 rfl rfl
instance : Inl BA 310 := iM 44 [0,1,4,5,10,28] [] call310 func310 rfl rfl
instance : Inl BA 311 := iM 24 [0,7] [(1,[0,1,0,0,0,1,0,0,0,1,1,1,1,3,0,0,3])] call311 func311 rfl rfl
instance : Inl BA 312 := iM 1 [0] [] call312 func312 rfl rfl
instance : Inl BA 315 := iM 53 [0,1,4,5,6,7,11,21,28,36,42,48] [] call315 func315 rfl rfl
instance : Inl BA 316 := iM 51 [0,1,4,5,34] [] call316 func316 rfl rfl
instance : Inl BA 317 := iM 17 [0,2] [] call317 func317 rfl rfl
instance : Inl BA 318 := iM 18 [0,1,4,14] [] call318 func318 rfl rfl
instance : Inl BA 319 := iM 82 [0,1,4,5,6,7,8,9,10,11,42,63] [] call319 func319 rfl rfl
instance : Inl BA 321 := iM 18 [0,1,4] [] call321 func321 rfl rfl
instance : Inl BA 322 := iM 51 [0,2,3,4,5,6,7,10,13,28,44] [] call322 func322 rfl rfl
instance : Inl BA 323 := iM 46 [0,2,3,4,5,6,7,20,33] [] call323 func323 rfl rfl
instance : Inl BA 324 := iM 30 [0,1,2,6,7,15,26] [] call324 func324 rfl rfl
instance : Inl BA 325 := iM 21 [0,1,4,5,6,7] [] call325 func325 rfl rfl
instance : Inl BA 326 := iM 64 [0,2,3,4,5,6,7,8,21,26,37,48,58] [] call326 func326 rfl rfl
instance : Inl BA 327 := iM 44 [0,2,3,4,5,6,7,15,38] [] call327 func327 rfl rfl
instance : Inl BA 328 := iM 13 [0,2] [] call328 func328 rfl rfl
instance : Inl BA 331 := iM 45 [0,1,4,5,6,14,25,44] [(6,[0,0,0,0,1,0,0,0,1,0,1,1,1,1,1,3])] call331 func331 rfl rfl
instance : Inl BA 332 := iM 37 [0,1,4,5,6,15,36] [(4,[0,0,0,0,1,0,0,0,1,0,1,1,1,1,1,3])] call332 func332 rfl rfl
instance : Inl BA 333 := iM 38 [0,1,4,5,6,15,36] [(4,[0,0,0,0,1,0,0,0,1,0,1,1,1,1,1,3])] call333 func333 rfl rfl
instance : Inl BA 334 := iM 119 [0,1,2,3,8,9,10,11,12,13,14,15,36,50,62,71,106] [] call334 func334 rfl rfl
instance : Inl BA 335 := iM 25 [0,1,4,5] [(2,[0,0,0,0,1,0,1,0,1,3,3,3])] call335 func335 rfl rfl
instance : Inl BA 336 := iM 89 [0,1,2,6,7,29,41,51] [(5,[0,0,1,0,0,1,1,3]),(6,[0,0,0,1,0,0,1,1,0,3,3,3]),(7,[0,0,0,1,0,1,0,0,0,1,0,1,1,1,1,0,1,3,3,3])] call336 func336 rfl rfl
instance : Inl BA 337 := iM 22 [0,1,2] [(0,[0,0,0,0,0,0,0,0,3,0,3,3,3,3,0,3])] call337 func337 rfl rfl
instance : Inl BA 338 := iM 24 [0,1,2,6] [(2,[1,0,0,0,1,0,1,3,0,0,0,3,3])] call338 func338 rfl rfl
instance : Inl BA 339 := iM 18 [0,2,3,8,15] [] call339 func339 rfl rfl
instance : Inl BA 341 := iM 14 [0,1,2,4] [] call341 func341 rfl rfl
instance : Inl BA 342 := iM 48 [0,1,2,3,6,7,8,18] [(3,[0,1,0,1,1,0,1,0,1,1,1,1,1,3])] call342 func342 rfl rfl
instance : Inl BA 344 := iM 18 [0,1,4] [] call344 func344 rfl rfl
instance : Inl BA 345 := iM 31 [0,2] [] call345 func345 rfl rfl
instance : Inl BA 346 := iM 72 [0,1,4,5,6,7,8,12,23,29,38,64] [(7,[0,0,0,0,0,0,0])] call346 func346 rfl rfl
instance : Inl BA 347 := iM 52 [0,2,13,29,45] [] call347 func347 rfl rfl
instance : Inl BA 348 := iM 32 [0,2,8,17,27] [] call348 func348 rfl rfl
instance : Inl BA 349 := iM 29 [0,2,3,4,5,11,19,26] [] call349 func349 rfl rfl
instance : Inl BA 350 := iM 4 [0,1] [] call350 func350 rfl rfl
instance : Inl BA 352 := iM 20 [0,1,4] [] call352 func352 rfl rfl
instance : Inl BA 353 := iM 34 [0,1,4,5,6,7,11,17,33] [(8,[0,0,1,1,1,1,1,1,1,1,3,3,3])] call353 func353 rfl rfl
end
end Go.Vc

namespace Go.Vc
open Go.Proofs
set_option maxRecDepth 100000
set_option maxHeartbeats 40000000
set_option pp.deepTerms true
set_option pp.maxSteps 2000000
instance (priority := 5000) ZR_0 : FnM BA 154 [.loc 0 0,.loc 3 0] [(0,.box [.own 1,.own 2,.nils,.int .i64 5,.int .i64 0,.int .i64 0,.int .i64 0,.int .i64 0,.bool false,.bool false,.str [100,105,118]]),(1,.own qAC [((0 : Int),(0 : Int),([] : List UInt8),([] : List qAJ),([] : List UInt8),(-1 : Int),([1] : List Int)),((1 : Int),(0 : Int),([104,116,109,108] : List UInt8),([] : List qAJ),([] : List UInt8),(0 : Int),([] : List Int))]),(2,.own qAH [1]),(3,.box [.str (60 :: 108 :: 97 :: 98 :: 101 :: 108 :: 32 :: 102 :: 111 :: 114 :: 61 :: 97 :: 62 :: 60 :: 47 :: 108 :: 97 :: 98 :: 101 :: 108 :: 62 :: 60 :: 105 :: 110 :: 112 :: 117 :: 116 :: 32 :: 105 :: 100 :: 61 :: 97 :: 62 :: 60 :: 97 :: 32 :: 104 :: 114 :: 101 :: 102 :: 61 :: 35 :: 98 :: 62 :: 60 :: 47 :: 97 :: 62 :: [])])] True (.agg [.int .i64 1,.str [108,97,98,101,108],.rd qAK [([102,111,114],[97])],.bool false,.str []]) [(0,.box [.own 1,.own 2,.nils,.int .i64 5,.int .i64 0,.int .i64 0,.int .i64 0,.int .i64 0,.bool false,.bool false,.str [100,105,118]]),(1,.own qAC [((0 : Int),(0 : Int),([] : List UInt8),([] : List qAJ),([] : List UInt8),(-1 : Int),([1] : List Int)),((1 : Int),(0 : Int),([104,116,109,108] : List UInt8),([] : List qAJ),([] : List UInt8),(0 : Int),([] : List Int))]),(2,.own qAH [1]),(3,.box [.str [60,47,108,97,98,101,108,62,60,105,110,112,117,116,32,105,100,61,97,62,60,97,32,104,114,101,102,61,35,98,62,60,47,97,62]])] := by
 refine FnM.intro (N := 43) [0,1,4,5,10] [(3,[0,0,0,0,1,0,0,0,1,1,3,3,3,3]),(4,[0,0,0,0,7,0,0,0,0,4,4,4,4,4,4,4,4,4,4,4]),(3000004,[649,714,779,844,909,974,1039,1104,1169,1234])] 4 Tryz.call154 Tryz.func154 rfl rfl (by kernel_rfl) (fun hpre => ?_)
 repeat' ((conv => whnf);first|(with_reducible first|rfl|exact qAE|exact qAD)|exact True.intro|(intro hq;first|(exfalso;revert hq;decide +kernel)|clear hq|skip)|refine WA ?_ ?_|refine WF ?_|refine W1 rfl ?_ ?_|refine W2 rfl ?_ ?_|refine W3 rfl ?_ ?_|refine W4 ?_ ?_|refine W5 rfl ?_ ?_|refine W6 ?_ ?_|refine WN ?_|refine X1 (W1 rfl ?_ ?_)|refine X1 (W2 rfl ?_ ?_)|refine X2 (W7 rfl ?_ ?_)|refine X3 (W7 rfl ?_ ?_)|refine X4 (W7 rfl ?_ ?_)|refine X5 (W7 rfl ?_ ?_)|refine X7 (by conv => lhs;cbv) rfl ?_|refine X8 (by conv => lhs;cbv) ?_|refine LoopStop.ug 500 ?_|refine ZStop.dir ?_|(refine Ob.mk ?_;decide +kernel))
 all_goals (first | rfl | decide +kernel)
end Go.Vc

namespace Go.Vc
open Go.Proofs
set_option maxRecDepth 100000
set_option maxHeartbeats 40000000
set_option pp.deepTerms true
set_option pp.maxSteps 2000000
instance (priority := 5000) ZR_1 : FnM BA 155 [.loc 0 0,.loc 3 0] [(0,.box [.own 1,.own 2,.nils,.int .i64 5,.int .i64 0,.int .i64 0,.int .i64 0,.int .i64 0,.bool false,.bool false,.str [100,105,118]]),(1,.own qAC [((0 : Int),(0 : Int),([] : List UInt8),([] : List qAJ),([] : List UInt8),(-1 : Int),([1] : List Int)),((1 : Int),(0 : Int),([104,116,109,108] : List UInt8),([] : List qAJ),([] : List UInt8),(0 : Int),([] : List Int))]),(2,.own qAH [1]),(3,.box [.int .i64 1,.str [108,97,98,101,108],.rd qAK [([102,111,114],[97])],.bool false,.str []])] True (.bool false) [(0,.box [.own 1,.own 4,.nils,.int .i64 5,.int .i64 0,.int .i64 0,.int .i64 0,.int .i64 0,.bool false,.bool false,.str [100,105,118]]),(1,.own qAC [((0 : Int),(0 : Int),([] : List UInt8),([] : List qAJ),([] : List UInt8),(-1 : Int),([1] : List Int)),((1 : Int),(0 : Int),([104,116,109,108] : List UInt8),([] : List qAJ),([] : List UInt8),(0 : Int),([2] : List Int)),((1 : Int),(0 : Int),([108,97,98,101,108] : List UInt8),([([102,111,114],[97])] : List qAJ),([] : List UInt8),(1 : Int),([] : List Int))]),(4,.own qAH [1,2]),(3,.box [.int .i64 1,.str [108,97,98,101,108],.rd qAK [([102,111,114],[97])],.bool false,.str []])] := by
 refine FnM.intro (N := 57) [0,1,4,15,20,35,50] [] 4 Tryz.call155 Tryz.func155 rfl rfl (by kernel_rfl) (fun hpre => ?_)
 repeat' ((conv => whnf);first|(with_reducible first|rfl|exact qAE|exact qAD)|exact True.intro|(intro hq;first|(exfalso;revert hq;decide +kernel)|clear hq|skip)|refine WA ?_ ?_|refine WF ?_|refine W1 rfl ?_ ?_|refine W2 rfl ?_ ?_|refine W3 rfl ?_ ?_|refine W4 ?_ ?_|refine W5 rfl ?_ ?_|refine W6 ?_ ?_|refine WN ?_|refine X1 (W1 rfl ?_ ?_)|refine X1 (W2 rfl ?_ ?_)|refine X2 (W7 rfl ?_ ?_)|refine X3 (W7 rfl ?_ ?_)|refine X4 (W7 rfl ?_ ?_)|refine X5 (W7 rfl ?_ ?_)|refine X7 (by conv => lhs;cbv) rfl ?_|refine X8 (by conv => lhs;cbv) ?_|refine LoopStop.ug 500 ?_|refine ZStop.dir ?_|(refine Ob.mk ?_;decide +kernel))
 all_goals (first | rfl | decide +kernel)
end Go.Vc

namespace Go.Vc
open Go.Proofs
set_option maxRecDepth 100000
set_option maxHeartbeats 40000000
set_option pp.deepTerms true
set_option pp.maxSteps 2000000
instance (priority := 5000) ZR_2 : FnM BA 154 [.loc 0 0,.loc 3 0] [(0,.box [.own 1,.own 2,.nils,.int .i64 5,.int .i64 0,.int .i64 0,.int .i64 0,.int .i64 0,.bool false,.bool false,.str [100,105,118]]),(1,.own qAC [((0 : Int),(0 : Int),([] : List UInt8),([] : List qAJ),([] : List UInt8),(-1 : Int),([1] : List Int)),((1 : Int),(0 : Int),([104,116,109,108] : List UInt8),([] : List qAJ),([] : List UInt8),(0 : Int),([2] : List Int)),((1 : Int),(0 : Int),([108,97,98,101,108] : List UInt8),([([102,111,114],[97])] : List qAJ),([] : List UInt8),(1 : Int),([] : List Int))]),(2,.own qAH [1,2]),(3,.box [.str [60,47,108,97,98,101,108,62,60,105,110,112,117,116,32,105,100,61,97,62,60,97,32,104,114,101,102,61,35,98,62,60,47,97,62]])] True (.agg [.int .i64 2,.str [108,97,98,101,108],.nils,.bool false,.str []]) [(0,.box [.own 1,.own 2,.nils,.int .i64 5,.int .i64 0,.int .i64 0,.int .i64 0,.int .i64 0,.bool false,.bool false,.str [100,105,118]]),(1,.own qAC [((0 : Int),(0 : Int),([] : List UInt8),([] : List qAJ),([] : List UInt8),(-1 : Int),([1] : List Int)),((1 : Int),(0 : Int),([104,116,109,108] : List UInt8),([] : List qAJ),([] : List UInt8),(0 : Int),([2] : List Int)),((1 : Int),(0 : Int),([108,97,98,101,108] : List UInt8),([([102,111,114],[97])] : List qAJ),([] : List UInt8),(1 : Int),([] : List Int))]),(2,.own qAH [1,2]),(3,.box [.str [60,105,110,112,117,116,32,105,100,61,97,62,60,97,32,104,114,101,102,61,35,98,62,60,47,97,62]])] := by
 refine FnM.intro (N := 43) [0,1,4,5,10] [(3,[0,0,0,0,1,0,0,0,1,1,3,3,3,3]),(4,[0,0,0,0,7,0,0,0,0,4,4,4,4,4,4,4,4,4,4,4]),(3000004,[649,714,779,844,909,974,1039,1104,1169,1234])] 4 Tryz.call154 Tryz.func154 rfl rfl (by kernel_rfl) (fun hpre => ?_)
 repeat' ((conv => whnf);first|(with_reducible first|rfl|exact qAE|exact qAD)|exact True.intro|(intro hq;first|(exfalso;revert hq;decide +kernel)|clear hq|skip)|refine WA ?_ ?_|refine WF ?_|refine W1 rfl ?_ ?_|refine W2 rfl ?_ ?_|refine W3 rfl ?_ ?_|refine W4 ?_ ?_|refine W5 rfl ?_ ?_|refine W6 ?_ ?_|refine WN ?_|refine X1 (W1 rfl ?_ ?_)|refine X1 (W2 rfl ?_ ?_)|refine X2 (W7 rfl ?_ ?_)|refine X3 (W7 rfl ?_ ?_)|refine X4 (W7 rfl ?_ ?_)|refine X5 (W7 rfl ?_ ?_)|refine X7 (by conv => lhs;cbv) rfl ?_|refine X8 (by conv => lhs;cbv) ?_|refine LoopStop.ug 500 ?_|refine ZStop.dir ?_|(refine Ob.mk ?_;decide +kernel))
 all_goals (first | rfl | decide +kernel)
end Go.Vc

namespace Go.Vc
open Go.Proofs
set_option maxRecDepth 100000
set_option maxHeartbeats 40000000
set_option pp.deepTerms true
set_option pp.maxSteps 2000000
instance (priority := 5000) ZR_3 : FnM BA 155 [.loc 0 0,.loc 3 0] [(0,.box [.own 1,.own 2,.nils,.int .i64 5,.int .i64 0,.int .i64 0,.int .i64 0,.int .i64 0,.bool false,.bool false,.str [100,105,118]]),(1,.own qAC [((0 : Int),(0 : Int),([] : List UInt8),([] : List qAJ),([] : List UInt8),(-1 : Int),([1] : List Int)),((1 : Int),(0 : Int),([104,116,109,108] : List UInt8),([] : List qAJ),([] : List UInt8),(0 : Int),([2] : List Int)),((1 : Int),(0 : Int),([108,97,98,101,108] : List UInt8),([([102,111,114],[97])] : List qAJ),([] : List UInt8),(1 : Int),([] : List Int))]),(2,.own qAH [1,2]),(3,.box [.int .i64 2,.str [108,97,98,101,108],.nils,.bool false,.str []])] True (.bool false) [(0,.box [.own 1,.own 4,.nils,.int .i64 5,.int .i64 0,.int .i64 0,.int .i64 0,.int .i64 0,.bool false,.bool false,.str [100,105,118]]),(1,.own qAC [((0 : Int),(0 : Int),([] : List UInt8),([] : List qAJ),([] : List UInt8),(-1 : Int),([1] : List Int)),((1 : Int),(0 : Int),([104,116,109,108] : List UInt8),([] : List qAJ),([] : List UInt8),(0 : Int),([2] : List Int)),((1 : Int),(0 : Int),([108,97,98,101,108] : List UInt8),([([102,111,114],[97])] : List qAJ),([] : List UInt8),(1 : Int),([] : List Int))]),(4,.own qAH [1]),(3,.box [.int .i64 2,.str [108,97,98,101,108],.nils,.bool false,.str []])] := by
 refine FnM.intro (N := 57) [0,1,4,15,20,35,50] [] 4 Tryz.call155 Tryz.func155 rfl rfl (by kernel_rfl) (fun hpre => ?_)
 repeat' ((conv => whnf);first|(with_reducible first|rfl|exact qAE|exact qAD)|exact True.intro|(intro hq;first|(exfalso;revert hq;decide +kernel)|clear hq|skip)|refine WA ?_ ?_|refine WF ?_|refine W1 rfl ?_ ?_|refine W2 rfl ?_ ?_|refine W3 rfl ?_ ?_|refine W4 ?_ ?_|refine W5 rfl ?_ ?_|refine W6 ?_ ?_|refine WN ?_|refine X1 (W1 rfl ?_ ?_)|refine X1 (W2 rfl ?_ ?_)|refine X2 (W7 rfl ?_ ?_)|refine X3 (W7 rfl ?_ ?_)|refine X4 (W7 rfl ?_ ?_)|refine X5 (W7 rfl ?_ ?_)|refine X7 (by conv => lhs;cbv) rfl ?_|refine X8 (by conv => lhs;cbv) ?_|refine LoopStop.ug 500 ?_|refine ZStop.dir ?_|(refine Ob.mk ?_;decide +kernel))
 all_goals (first | rfl | decide +kernel)
end Go.Vc

namespace Go.Vc
open Go.Proofs
set_option maxRecDepth 100000
set_option maxHeartbeats 40000000
set_option pp.deepTerms true
set_option pp.maxSteps 2000000
instance (priority := 5000) ZR_4 : FnM BA 154 [.loc 0 0,.loc 3 0] [(0,.box [.own 1,.own 2,.nils,.int .i64 5,.int .i64 0,.int .i64 0,.int .i64 0,.int .i64 0,.bool false,.bool false,.str [100,105,118]]),(1,.own qAC [((0 : Int),(0 : Int),([] : List UInt8),([] : List qAJ),([] : List UInt8),(-1 : Int),([1] : List Int)),((1 : Int),(0 : Int),([104,116,109,108] : List UInt8),([] : List qAJ),([] : List UInt8),(0 : Int),([2] : List Int)),((1 : Int),(0 : Int),([108,97,98,101,108] : List UInt8),([([102,111,114],[97])] : List qAJ),([] : List UInt8),(1 : Int),([] : List Int))]),(2,.own qAH [1]),(3,.box [.str [60,105,110,112,117,116,32,105,100,61,97,62,60,97,32,104,114,101,102,61,35,98,62,60,47,97,62]])] True (.agg [.int .i64 1,.str [105,110,112,117,116],.rd qAK [([105,100],[97])],.bool false,.str []]) [(0,.box [.own 1,.own 2,.nils,.int .i64 5,.int .i64 0,.int .i64 0,.int .i64 0,.int .i64 0,.bool false,.bool false,.str [100,105,118]]),(1,.own qAC [((0 : Int),(0 : Int),([] : List UInt8),([] : List qAJ),([] : List UInt8),(-1 : Int),([1] : List Int)),((1 : Int),(0 : Int),([104,116,109,108] : List UInt8),([] : List qAJ),([] : List UInt8),(0 : Int),([2] : List Int)),((1 : Int),(0 : Int),([108,97,98,101,108] : List UInt8),([([102,111,114],[97])] : List qAJ),([] : List UInt8),(1 : Int),([] : List Int))]),(2,.own qAH [1]),(3,.box [.str [60,97,32,104,114,101,102,61,35,98,62,60,47,97,62]])] := by
 refine FnM.intro (N := 43) [0,1,4,5,10] [(3,[0,0,0,0,1,0,0,0,1,1,3,3,3,3]),(4,[0,0,0,0,7,0,0,0,0,4,4,4,4,4,4,4,4,4,4,4]),(3000004,[649,714,779,844,909,974,1039,1104,1169,1234])] 4 Tryz.call154 Tryz.func154 rfl rfl (by kernel_rfl) (fun hpre => ?_)
 repeat' ((conv => whnf);first|(with_reducible first|rfl|exact qAE|exact qAD)|exact True.intro|(intro hq;first|(exfalso;revert hq;decide +kernel)|clear hq|skip)|refine WA ?_ ?_|refine WF ?_|refine W1 rfl ?_ ?_|refine W2 rfl ?_ ?_|refine W3 rfl ?_ ?_|refine W4 ?_ ?_|refine W5 rfl ?_ ?_|refine W6 ?_ ?_|refine WN ?_|refine X1 (W1 rfl ?_ ?_)|refine X1 (W2 rfl ?_ ?_)|refine X2 (W7 rfl ?_ ?_)|refine X3 (W7 rfl ?_ ?_)|refine X4 (W7 rfl ?_ ?_)|refine X5 (W7 rfl ?_ ?_)|refine X7 (by conv => lhs;cbv) rfl ?_|refine X8 (by conv => lhs;cbv) ?_|refine LoopStop.ug 500 ?_|refine ZStop.dir ?_|(refine Ob.mk ?_;decide +kernel))
 all_goals (first | rfl | decide +kernel)
end Go.Vc

namespace Go.Vc
open Go.Proofs
set_option maxRecDepth 100000
set_option maxHeartbeats 40000000
set_option pp.deepTerms true
set_option pp.maxSteps 2000000
instance (priority := 5000) ZR_5 : FnM BA 155 [.loc 0 0,.loc 3 0] [(0,.box [.own 1,.own 2,.nils,.int .i64 5,.int .i64 0,.int .i64 0,.int .i64 0,.int .i64 0,.bool false,.bool false,.str [100,105,118]]),(1,.own qAC [((0 : Int),(0 : Int),([] : List UInt8),([] : List qAJ),([] : List UInt8),(-1 : Int),([1] : List Int)),((1 : Int),(0 : Int),([104,116,109,108] : List UInt8),([] : List qAJ),([] : List UInt8),(0 : Int),([2] : List Int)),((1 : Int),(0 : Int),([108,97,98,101,108] : List UInt8),([([102,111,114],[97])] : List qAJ),([] : List UInt8),(1 : Int),([] : List Int))]),(2,.own qAH [1]),(3,.box [.int .i64 1,.str [105,110,112,117,116],.rd qAK [([105,100],[97])],.bool false,.str []])] True (.bool false) [(0,.box [.own 1,.own 4,.nils,.int .i64 5,.int .i64 0,.int .i64 0,.int .i64 0,.int .i64 0,.bool false,.bool false,.str [100,105,118]]),(1,.own qAC [((0 : Int),(0 : Int),([] : List UInt8),([] : List qAJ),([] : List UInt8),(-1 : Int),([1] : List Int)),((1 : Int),(0 : Int),([104,116,109,108] : List UInt8),([] : List qAJ),([] : List UInt8),(0 : Int),([2,3] : List Int)),((1 : Int),(0 : Int),([108,97,98,101,108] : List UInt8),([([102,111,114],[97])] : List qAJ),([] : List UInt8),(1 : Int),([] : List Int)),((1 : Int),(0 : Int),([105,110,112,117,116] : List UInt8),([([105,100],[97])] : List qAJ),([] : List UInt8),(1 : Int),([] : List Int))]),(4,.own qAH [1]),(3,.box [.int .i64 1,.str [105,110,112,117,116],.rd qAK [([105,100],[97])],.bool false,.str []])] := by
 refine FnM.intro (N := 57) [0,1,4,15,20,35,50] [] 4 Tryz.call155 Tryz.func155 rfl rfl (by kernel_rfl) (fun hpre => ?_)
 repeat' ((conv => whnf);first|(with_reducible first|rfl|exact qAE|exact qAD)|exact True.intro|(intro hq;first|(exfalso;revert hq;decide +kernel)|clear hq|skip)|refine WA ?_ ?_|refine WF ?_|refine W1 rfl ?_ ?_|refine W2 rfl ?_ ?_|refine W3 rfl ?_ ?_|refine W4 ?_ ?_|refine W5 rfl ?_ ?_|refine W6 ?_ ?_|refine WN ?_|refine X1 (W1 rfl ?_ ?_)|refine X1 (W2 rfl ?_ ?_)|refine X2 (W7 rfl ?_ ?_)|refine X3 (W7 rfl ?_ ?_)|refine X4 (W7 rfl ?_ ?_)|refine X5 (W7 rfl ?_ ?_)|refine X7 (by conv => lhs;cbv) rfl ?_|refine X8 (by conv => lhs;cbv) ?_|refine LoopStop.ug 500 ?_|refine ZStop.dir ?_|(refine Ob.mk ?_;decide +kernel))
 all_goals (first | rfl | decide +kernel)
end Go.Vc

namespace Go.Vc
open Go.Proofs
set_option maxRecDepth 100000
set_option maxHeartbeats 40000000
set_option pp.deepTerms true
set_option pp.maxSteps 2000000
instance (priority := 5000) ZR_6 : FnM BA 154 [.loc 0 0,.loc 3 0] [(0,.box [.own 1,.own 2,.nils,.int .i64 5,.int .i64 0,.int .i64 0,.int .i64 0,.int .i64 0,.bool false,.bool false,.str [100,105,118]]),(1,.own qAC [((0 : Int),(0 : Int),([] : List UInt8),([] : List qAJ),([] : List UInt8),(-1 : Int),([1] : List Int)),((1 : Int),(0 : Int),([104,116,109,108] : List UInt8),([] : List qAJ),([] : List UInt8),(0 : Int),([2,3] : List Int)),((1 : Int),(0 : Int),([108,97,98,101,108] : List UInt8),([([102,111,114],[97])] : List qAJ),([] : List UInt8),(1 : Int),([] : List Int)),((1 : Int),(0 : Int),([105,110,112,117,116] : List UInt8),([([105,100],[97])] : List qAJ),([] : List UInt8),(1 : Int),([] : List Int))]),(2,.own qAH [1]),(3,.box [.str [60,97,32,104,114,101,102,61,35,98,62,60,47,97,62]])] True (.agg [.int .i64 1,.str [97],.rd qAK [([104,114,101,102],[35,98])],.bool false,.str []]) [(0,.box [.own 1,.own 2,.nils,.int .i64 5,.int .i64 0,.int .i64 0,.int .i64 0,.int .i64 0,.bool false,.bool false,.str [100,105,118]]),(1,.own qAC [((0 : Int),(0 : Int),([] : List UInt8),([] : List qAJ),([] : List UInt8),(-1 : Int),([1] : List Int)),((1 : Int),(0 : Int),([104,116,109,108] : List UInt8),([] : List qAJ),([] : List UInt8),(0 : Int),([2,3] : List Int)),((1 : Int),(0 : Int),([108,97,98,101,108] : List UInt8),([([102,111,114],[97])] : List qAJ),([] : List UInt8),(1 : Int),([] : List Int)),((1 : Int),(0 : Int),([105,110,112,117,116] : List UInt8),([([105,100],[97])] : List qAJ),([] : List UInt8),(1 : Int),([] : List Int))]),(2,.own qAH [1]),(3,.box [.str [60,47,97,62]])] := by
 refine FnM.intro (N := 43) [0,1,4,5,10] [(3,[0,0,0,0,1,0,0,0,1,1,3,3,3,3]),(4,[0,0,0,0,7,0,0,0,0,4,4,4,4,4,4,4,4,4,4,4]),(3000004,[649,714,779,844,909,974,1039,1104,1169,1234])] 4 Tryz.call154 Tryz.func154 rfl rfl (by kernel_rfl) (fun hpre => ?_)
 repeat' ((conv => whnf);first|(with_reducible first|rfl|exact qAE|exact qAD)|exact True.intro|(intro hq;first|(exfalso;revert hq;decide +kernel)|clear hq|skip)|refine WA ?_ ?_|refine WF ?_|refine W1 rfl ?_ ?_|refine W2 rfl ?_ ?_|refine W3 rfl ?_ ?_|refine W4 ?_ ?_|refine W5 rfl ?_ ?_|refine W6 ?_ ?_|refine WN ?_|refine X1 (W1 rfl ?_ ?_)|refine X1 (W2 rfl ?_ ?_)|refine X2 (W7 rfl ?_ ?_)|refine X3 (W7 rfl ?_ ?_)|refine X4 (W7 rfl ?_ ?_)|refine X5 (W7 rfl ?_ ?_)|refine X7 (by conv => lhs;cbv) rfl ?_|refine X8 (by conv => lhs;cbv) ?_|refine LoopStop.ug 500 ?_|refine ZStop.dir ?_|(refine Ob.mk ?_;decide +kernel))
 all_goals (first | rfl | decide +kernel)
end Go.Vc

namespace Go.Vc
open Go.Proofs
set_option maxRecDepth 100000
set_option maxHeartbeats 40000000
set_option pp.deepTerms true
set_option pp.maxSteps 2000000
instance (priority := 5000) ZR_7 : FnM BA 155 [.loc 0 0,.loc 3 0] [(0,.box [.own 1,.own 2,.nils,.int .i64 5,.int .i64 0,.int .i64 0,.int .i64 0,.int .i64 0,.bool false,.bool false,.str [100,105,118]]),(1,.own qAC [((0 : Int),(0 : Int),([] : List UInt8),([] : List qAJ),([] : List UInt8),(-1 : Int),([1] : List Int)),((1 : Int),(0 : Int),([104,116,109,108] : List UInt8),([] : List qAJ),([] : List UInt8),(0 : Int),([2,3] : List Int)),((1 : Int),(0 : Int),([108,97,98,101,108] : List UInt8),([([102,111,114],[97])] : List qAJ),([] : List UInt8),(1 : Int),([] : List Int)),((1 : Int),(0 : Int),([105,110,112,117,116] : List UInt8),([([105,100],[97])] : List qAJ),([] : List UInt8),(1 : Int),([] : List Int))]),(2,.own qAH [1]),(3,.box [.int .i64 1,.str [97],.rd qAK [([104,114,101,102],[35,98])],.bool false,.str []])] True (.bool false) [(0,.box [.own 1,.own 4,.own 5,.int .i64 5,.int .i64 0,.int .i64 0,.int .i64 0,.int .i64 0,.bool false,.bool false,.str [100,105,118]]),(1,.own qAC [((0 : Int),(0 : Int),([] : List UInt8),([] : List qAJ),([] : List UInt8),(-1 : Int),([1] : List Int)),((1 : Int),(0 : Int),([104,116,109,108] : List UInt8),([] : List qAJ),([] : List UInt8),(0 : Int),([2,3,4] : List Int)),((1 : Int),(0 : Int),([108,97,98,101,108] : List UInt8),([([102,111,114],[97])] : List qAJ),([] : List UInt8),(1 : Int),([] : List Int)),((1 : Int),(0 : Int),([105,110,112,117,116] : List UInt8),([([105,100],[97])] : List qAJ),([] : List UInt8),(1 : Int),([] : List Int)),((1 : Int),(0 : Int),([97] : List UInt8),([([104,114,101,102],[35,98])] : List qAJ),([] : List UInt8),(1 : Int),([] : List Int))]),(4,.own qAH [1,4]),(5,.own qAH [4]),(3,.box [.int .i64 1,.str [97],.rd qAK [([104,114,101,102],[35,98])],.bool false,.str []])] := by
 refine FnM.intro (N := 57) [0,1,4,15,20,35,50] [] 4 Tryz.call155 Tryz.func155 rfl rfl (by kernel_rfl) (fun hpre => ?_)
 repeat' ((conv => whnf);first|(with_reducible first|rfl|exact qAE|exact qAD)|exact True.intro|(intro hq;first|(exfalso;revert hq;decide +kernel)|clear hq|skip)|refine WA ?_ ?_|refine WF ?_|refine W1 rfl ?_ ?_|refine W2 rfl ?_ ?_|refine W3 rfl ?_ ?_|refine W4 ?_ ?_|refine W5 rfl ?_ ?_|refine W6 ?_ ?_|refine WN ?_|refine X1 (W1 rfl ?_ ?_)|refine X1 (W2 rfl ?_ ?_)|refine X2 (W7 rfl ?_ ?_)|refine X3 (W7 rfl ?_ ?_)|refine X4 (W7 rfl ?_ ?_)|refine X5 (W7 rfl ?_ ?_)|refine X7 (by conv => lhs;cbv) rfl ?_|refine X8 (by conv => lhs;cbv) ?_|refine LoopStop.ug 500 ?_|refine ZStop.dir ?_|(refine Ob.mk ?_;decide +kernel))
 all_goals (first | rfl | decide +kernel)
end Go.Vc
