/- A part of the proof: lemmas and walks that the last text of the claim joins; no condition. -/
import Derived.Test.YtgggnkinalmmlaaTN
import Derived.Test.YtgggnkinalmmlaaTJ
import Derived.Shelf.Vars
import Derived.Test.YtgggnkinalmmlaaRows
set_option linter.unusedVariables false
set_option linter.unusedSimpArgs false
namespace Go.Vc
open Go.Proofs
set_option linter.unusedVariables false
set_option maxRecDepth 10000
set_option linter.unusedSimpArgs false
set_option maxHeartbeats 8000000
theorem sameBad (x : AttrD) : (!(x.1 == x.1 && (x.2 == x.2 && true))) = false := by
  simp
instance gSame7 (l : List AttrD) : Fn BB 26 [.rd attrTy l, .rd attrTy l] (l.length ≤ 100000) (.bool true) := by
  refine Fn.intro (N := 26) [0, 1, 4, 5, 10, 14, 25] [(6, [0, 0, 1, 1, 0, 0, 1, 1, 3])] Try.call26 Try.func26 rfl rfl (by kernel_rfl) (fun hpre => ?_)
  repeat' ((conv => whnf); first | (with_reducible rfl) | exact True.intro | (with_reducible exact absTF) | (with_reducible exact absFT) | intro _ | refine And.intro ?_ ?_ | refine Fin.mk ?_ | refine CallG.plain rfl ?_ ?_ | refine CallG.mk rfl ?_ ?_ | refine CallG.nwl rfl ?_ ?_ | refine CallG.nw ?_ ?_ | refine CallF.nwl rfl ?_ ?_ | refine CallF.nw ?_ ?_ | refine AppN.mk ?_ | (refine CallS.q ?_; (conv => whnf); first | refine CallG.plain rfl ?_ ?_ | refine CallG.mk rfl ?_ ?_) | (refine CallS.m ?_; (conv => whnf); refine CallM.mk rfl ?_ ?_) | (refine CallS.h ?_; (conv => whnf); refine CallM.mk rfl ?_ ?_) | (refine CallS.b ?_; (conv => whnf); refine CallM.mk rfl ?_ ?_) | (refine CallS.z ?_; (conv => whnf); refine CallM.mk rfl ?_ ?_))
  all_goals (try (conv => whnf))
  all_goals (try (exact Ob.mk (u8_bnd _)))
  all_goals (try (refine Ob.mk ?_; first | exact True.intro | assumption | omega | (try simp only [decide_eq_true_eq, decide_eq_false_iff_not, beq_iff_eq, beq_eq_false_iff_ne, bne_iff_ne, bne_eq_false_iff_eq, ne_eq, Bool.and_eq_true, Bool.or_eq_true, Bool.not_eq_true, Bool.not_eq_false, Bool.not_eq_true', Bool.not_eq_false', Int.toNat_natCast, Int.not_lt, Int.not_le, UInt8.ofNat_toNat, cast_eq] at *; omega)))
  all_goals (try ((show (_:Int) = _); omega))
  all_goals (try (show tupSV _ = _; with_unfolding_all rfl))
  all_goals (try ((show (_ : Nat) ≤ _); (simp <;> omega)))
  all_goals (try ((show (_ : Nat) ≤ _ ∧ (_ : Nat) ≤ _); (simp <;> omega)))
  all_goals (try ((show (_ : Int) ≤ _ ∧ (_ : Int) ≤ _ ∧ (_ : Int) ≤ _ ∧ (_ : Int) ≤ _); (simp <;> omega)))
  all_goals (try simp_all; done)
  refine LoopStop.mk (α := Nat) (fun k => [(5, .int .i64 k)]) (fun _ => []) 20 (fun k => k ≤ l.length) (fun k => l.length - k) 0 (by simp) ?_ (fun k hk => ?_)
  · repeat' ((conv => whnf); first | (with_reducible rfl) | exact True.intro | (with_reducible exact absTF) | (with_reducible exact absFT) | intro _ | refine And.intro ?_ ?_ | refine Fin.mk ?_ | refine CallG.plain rfl ?_ ?_ | refine CallG.mk rfl ?_ ?_ | refine CallG.nwl rfl ?_ ?_ | refine CallG.nw ?_ ?_ | refine CallF.nwl rfl ?_ ?_ | refine CallF.nw ?_ ?_ | refine AppN.mk ?_ | (refine CallS.q ?_; (conv => whnf); first | refine CallG.plain rfl ?_ ?_ | refine CallG.mk rfl ?_ ?_) | (refine CallS.m ?_; (conv => whnf); refine CallM.mk rfl ?_ ?_) | (refine CallS.h ?_; (conv => whnf); refine CallM.mk rfl ?_ ?_) | (refine CallS.b ?_; (conv => whnf); refine CallM.mk rfl ?_ ?_) | (refine CallS.z ?_; (conv => whnf); refine CallM.mk rfl ?_ ?_))
    all_goals (try (conv => whnf))
    all_goals (try (exact Ob.mk (u8_bnd _)))
    all_goals (try (refine Ob.mk ?_; first | exact True.intro | assumption | omega | (try simp only [decide_eq_true_eq, decide_eq_false_iff_not, beq_iff_eq, beq_eq_false_iff_ne, bne_iff_ne, bne_eq_false_iff_eq, ne_eq, Bool.and_eq_true, Bool.or_eq_true, Bool.not_eq_true, Bool.not_eq_false, Bool.not_eq_true', Bool.not_eq_false', Int.toNat_natCast, Int.not_lt, Int.not_le, UInt8.ofNat_toNat, cast_eq] at *; omega)))
    all_goals (try ((show (_:Int) = _); omega))
    all_goals (try (show tupSV _ = _; with_unfolding_all rfl))
    all_goals (try ((show (_ : Nat) ≤ _); (simp <;> omega)))
    all_goals (try ((show (_ : Nat) ≤ _ ∧ (_ : Nat) ≤ _); (simp <;> omega)))
    all_goals (try ((show (_ : Int) ≤ _ ∧ (_ : Int) ≤ _ ∧ (_ : Int) ≤ _ ∧ (_ : Int) ≤ _); (simp <;> omega)))
    all_goals (try rfl)
  · repeat' ((conv => whnf); first | (with_reducible rfl) | exact True.intro | (with_reducible exact absTF) | (with_reducible exact absFT) | intro _ | refine And.intro ?_ ?_ | refine Fin.mk ?_ | refine CallG.plain rfl ?_ ?_ | refine CallG.mk rfl ?_ ?_ | refine CallG.nwl rfl ?_ ?_ | refine CallG.nw ?_ ?_ | refine CallF.nwl rfl ?_ ?_ | refine CallF.nw ?_ ?_ | refine AppN.mk ?_ | (refine CallS.q ?_; (conv => whnf); first | refine CallG.plain rfl ?_ ?_ | refine CallG.mk rfl ?_ ?_) | (refine CallS.m ?_; (conv => whnf); refine CallM.mk rfl ?_ ?_) | (refine CallS.h ?_; (conv => whnf); refine CallM.mk rfl ?_ ?_) | (refine CallS.b ?_; (conv => whnf); refine CallM.mk rfl ?_ ?_) | (refine CallS.z ?_; (conv => whnf); refine CallM.mk rfl ?_ ?_))
    all_goals (try (conv => whnf))
    all_goals (try (exact Ob.mk (u8_bnd _)))
    all_goals (try (refine Ob.mk ?_; first | exact True.intro | assumption | omega | (try simp only [decide_eq_true_eq, decide_eq_false_iff_not, beq_iff_eq, beq_eq_false_iff_ne, bne_iff_ne, bne_eq_false_iff_eq, ne_eq, Bool.and_eq_true, Bool.or_eq_true, Bool.not_eq_true, Bool.not_eq_false, Bool.not_eq_true', Bool.not_eq_false', Int.toNat_natCast, Int.not_lt, Int.not_le, UInt8.ofNat_toNat, cast_eq] at *; omega)))
    all_goals (try ((show (_:Int) = _); omega))
    all_goals (try (show tupSV _ = _; with_unfolding_all rfl))
    all_goals (try ((show (_ : Nat) ≤ _); (simp <;> omega)))
    all_goals (try ((show (_ : Nat) ≤ _ ∧ (_ : Nat) ≤ _); (simp <;> omega)))
    all_goals (try ((show (_ : Int) ≤ _ ∧ (_ : Int) ≤ _ ∧ (_ : Int) ≤ _ ∧ (_ : Int) ≤ _); (simp <;> omega)))
    all_goals (try simp only [Int.toNat_natCast] at *)
    all_goals (try (have hp : k < l.length := by have h := of_decide_eq_true ‹decide ((k : Int) < (l.length : Int)) = true›; omega))
    all_goals (try (exact absurd ((sameBad _).symm.trans ‹_›) (by decide)))
    refine Rnd.mk ⟨k + 1, ⟨by omega, by omega, ?_⟩⟩
    repeat' ((conv => whnf); first | (with_reducible rfl) | exact True.intro | (with_reducible exact absTF) | (with_reducible exact absFT) | intro _ | refine And.intro ?_ ?_ | refine Fin.mk ?_ | refine CallG.plain rfl ?_ ?_ | refine CallG.mk rfl ?_ ?_ | refine CallG.nwl rfl ?_ ?_ | refine CallG.nw ?_ ?_ | refine CallF.nwl rfl ?_ ?_ | refine CallF.nw ?_ ?_ | refine AppN.mk ?_ | (refine CallS.q ?_; (conv => whnf); first | refine CallG.plain rfl ?_ ?_ | refine CallG.mk rfl ?_ ?_) | (refine CallS.m ?_; (conv => whnf); refine CallM.mk rfl ?_ ?_) | (refine CallS.h ?_; (conv => whnf); refine CallM.mk rfl ?_ ?_) | (refine CallS.b ?_; (conv => whnf); refine CallM.mk rfl ?_ ?_) | (refine CallS.z ?_; (conv => whnf); refine CallM.mk rfl ?_ ?_))
    all_goals (try (conv => whnf))
    all_goals (try (exact Ob.mk (u8_bnd _)))
    all_goals (try (refine Ob.mk ?_; first | exact True.intro | assumption | omega | (try simp only [decide_eq_true_eq, decide_eq_false_iff_not, beq_iff_eq, beq_eq_false_iff_ne, bne_iff_ne, bne_eq_false_iff_eq, ne_eq, Bool.and_eq_true, Bool.or_eq_true, Bool.not_eq_true, Bool.not_eq_false, Bool.not_eq_true', Bool.not_eq_false', Int.toNat_natCast, Int.not_lt, Int.not_le, UInt8.ofNat_toNat, cast_eq] at *; omega)))
    all_goals (try ((show (_:Int) = _); omega))
    all_goals (try (show tupSV _ = _; with_unfolding_all rfl))
    all_goals (try ((show (_ : Nat) ≤ _); (simp <;> omega)))
    all_goals (try ((show (_ : Nat) ≤ _ ∧ (_ : Nat) ≤ _); (simp <;> omega)))
    all_goals (try ((show (_ : Int) ≤ _ ∧ (_ : Int) ≤ _ ∧ (_ : Int) ≤ _ ∧ (_ : Int) ≤ _); (simp <;> omega)))
    all_goals rfl
instance gSame8 (k : Int) (n d : List UInt8) (b : Bool) (l : List AttrD) : FnM BB 9 [.agg [.int .i64 k, .str n, .own 0, .bool b, .str d], .agg [.int .i64 k, .str n, .own 1, .bool b, .str d]] [(0, .own attrTy l), (1, .own attrTy l)] (l.length ≤ 100000) (.bool true) [(0, .own attrTy l), (1, .own attrTy l)] := by
  refine FnM.intro (N := 38) [0, 1, 2, 3, 4] [] 2 Try.call9 Try.func9 rfl rfl (by kernel_rfl) (fun hpre => ?_)
  repeat' ((conv => whnf); first | (with_reducible rfl) | exact True.intro | (with_reducible exact absTF) | (with_reducible exact absFT) | intro _ | refine And.intro ?_ ?_ | refine Fin.mk ?_ | refine CallG.plain rfl ?_ ?_ | refine CallG.mk rfl ?_ ?_ | refine CallG.nwl rfl ?_ ?_ | refine CallG.nw ?_ ?_ | refine CallF.nwl rfl ?_ ?_ | refine CallF.nw ?_ ?_ | refine AppN.mk ?_ | (refine CallS.q ?_; (conv => whnf); first | refine CallG.plain rfl ?_ ?_ | refine CallG.mk rfl ?_ ?_) | (refine CallS.m ?_; (conv => whnf); refine CallM.mk rfl ?_ ?_) | (refine CallS.h ?_; (conv => whnf); refine CallM.mk rfl ?_ ?_) | (refine CallS.b ?_; (conv => whnf); refine CallM.mk rfl ?_ ?_) | (refine CallS.z ?_; (conv => whnf); refine CallM.mk rfl ?_ ?_))
  all_goals (try (conv => whnf))
  all_goals (try (exact Ob.mk (u8_bnd _)))
  all_goals (try (refine Ob.mk ?_; first | exact True.intro | assumption | omega | (try simp only [decide_eq_true_eq, decide_eq_false_iff_not, beq_iff_eq, beq_eq_false_iff_ne, bne_iff_ne, bne_eq_false_iff_eq, ne_eq, Bool.and_eq_true, Bool.or_eq_true, Bool.not_eq_true, Bool.not_eq_false, Bool.not_eq_true', Bool.not_eq_false', Int.toNat_natCast, Int.not_lt, Int.not_le, UInt8.ofNat_toNat, cast_eq] at *; omega)))
  all_goals (try ((show (_:Int) = _); omega))
  all_goals (try (show tupSV _ = _; with_unfolding_all rfl))
  all_goals (try ((show (_ : Nat) ≤ _); (simp <;> omega)))
  all_goals (try ((show (_ : Nat) ≤ _ ∧ (_ : Nat) ≤ _); (simp <;> omega)))
  all_goals (try ((show (_ : Int) ≤ _ ∧ (_ : Int) ≤ _ ∧ (_ : Int) ≤ _ ∧ (_ : Int) ≤ _); (simp <;> omega)))
  all_goals (try simp; done)
  all_goals trace_state
end Go.Vc

namespace Go.Vc
open Go.Proofs
set_option linter.unusedVariables false
set_option maxRecDepth 10000
set_option linter.unusedSimpArgs false
set_option maxHeartbeats 8000000
def clC (s nm : List UInt8) : Bool := nm == [] || decide ((s.length : Int) ≤ (nm.length : Int) + 2) || !begP s [60, 47] || !(lowL ((s.take (nm.length + 2)).drop 2) == lowL nm)
def clS (s nm : List UInt8) : Bool :=
  if clC s nm then false
  else W.isSp ((s.getD (nm.length + 2) 0).toNat : Int) || ((s.getD (nm.length + 2) 0).toNat : Int) == 47 || ((s.getD (nm.length + 2) 0).toNat : Int) == 62
theorem u8eq (a b : UInt8) : (((a.toNat : Nat) : Int) == ((b.toNat : Nat) : Int)) = (a == b) := by
  rw [Bool.eq_iff_iff, beq_iff_eq, beq_iff_eq]
  constructor
  · intro h; exact UInt8.toNat_inj.mp (by omega)
  · intro h; rw [h]
theorem begQ {s : List UInt8} (h : 2 < s.length) : ((((s.getD 0 0).toNat : Nat) : Int) != 60 || (((s.getD 1 0).toNat : Nat) : Int) != 47) = !begP s [60, 47] := by
  match s, h with
  | a :: b :: r, _ =>
    have e1 : (((a.toNat : Nat) : Int) == 60) = (a == 60) := u8eq a 60
    have e2 : (((b.toNat : Nat) : Int) == 47) = (b == 47) := u8eq b 47
    skip
    have e4 : decide ((((a :: b :: r).length : Nat) : Int) ≥ ((([60, 47] : List UInt8).length : Nat) : Int)) = true := by
      apply decide_eq_true; simp only [List.length_cons, List.length_nil]; omega
    have e5 : begP (a :: b :: r) [60, 47] = (decide ((((a :: b :: r).length : Nat) : Int) ≥ ((([60, 47] : List UInt8).length : Nat) : Int)) && (a == 60 && (b == 47 && true))) := rfl
    rw [e5, e4]
    show (!(((a.toNat : Nat) : Int) == 60) || !(((b.toNat : Nat) : Int) == 47)) = _
    rw [e1, e2]
    cases (a == 60) <;> cases (b == 47) <;> rfl
theorem clSn {s nm : List UInt8} (h : clC s nm = false) : clS s nm = (W.isSp ((s.getD (nm.length + 2) 0).toNat : Int) || ((s.getD (nm.length + 2) 0).toNat : Int) == 47 || ((s.getD (nm.length + 2) 0).toNat : Int) == 62) := by
  unfold clS
  rw [if_neg (by rw [h]; exact Bool.false_ne_true)]
theorem nm2 (nm : List UInt8) : ((nm.length : Int) + 2).toNat = nm.length + 2 := by omega
instance gClo (s nm : List UInt8) : Fn BB 10 [.str s, .str nm] (s.length ≤ 100000 ∧ nm.length ≤ 100000) (.bool (clS s nm)) := by
  refine Fn.intro (N := 46) [0, 1, 4, 5, 29] [] Try.call10 Try.func10 rfl rfl (by kernel_rfl) (fun hpre => ?_)
  repeat' ((conv => whnf); first | (with_reducible rfl) | exact True.intro | (with_reducible exact absTF) | (with_reducible exact absFT) | intro _ | refine And.intro ?_ ?_ | refine Fin.mk ?_ | refine CallG.plain rfl ?_ ?_ | refine CallG.mk rfl ?_ ?_ | refine CallG.nwl rfl ?_ ?_ | refine CallG.nw ?_ ?_ | refine CallF.nwl rfl ?_ ?_ | refine CallF.nw ?_ ?_ | refine AppN.mk ?_ | (refine CallS.q ?_; (conv => whnf); first | refine CallG.plain rfl ?_ ?_ | refine CallG.mk rfl ?_ ?_) | (refine CallS.m ?_; (conv => whnf); refine CallM.mk rfl ?_ ?_) | (refine CallS.h ?_; (conv => whnf); refine CallM.mk rfl ?_ ?_) | (refine CallS.b ?_; (conv => whnf); refine CallM.mk rfl ?_ ?_) | (refine CallS.z ?_; (conv => whnf); refine CallM.mk rfl ?_ ?_))
  all_goals (try (conv => whnf))
  all_goals (try (exact Ob.mk (u8_bnd _)))
  all_goals (try (refine Ob.mk ?_; first | exact True.intro | assumption | omega | (try simp only [decide_eq_true_eq, decide_eq_false_iff_not, beq_iff_eq, beq_eq_false_iff_ne, bne_iff_ne, bne_eq_false_iff_eq, ne_eq, Bool.and_eq_true, Bool.or_eq_true, Bool.not_eq_true, Bool.not_eq_false, Bool.not_eq_true', Bool.not_eq_false', Int.toNat_natCast, Int.not_lt, Int.not_le, UInt8.ofNat_toNat, cast_eq] at *; omega)))
  all_goals (try ((show (_:Int) = _); omega))
  all_goals (try (show tupSV _ = _; with_unfolding_all rfl))
  all_goals (try ((show (_ : Nat) ≤ _); (simp <;> omega)))
  all_goals (try ((show (_ : Nat) ≤ _ ∧ (_ : Nat) ≤ _); (simp <;> omega)))
  all_goals (try ((show (_ : Int) ≤ _ ∧ (_ : Int) ≤ _ ∧ (_ : Int) ≤ _ ∧ (_ : Int) ≤ _); (simp <;> omega)))
  all_goals (try (simp only [nm2, show Int.toNat 2 = 2 from rfl] at *))
  all_goals (try ((have hh : clC s nm = true := by unfold clC; assumption); unfold clS; rw [hh]; rfl; done))
  all_goals (try (refine (clSn ?_).symm; unfold clC; assumption))
  all_goals (try (simp only [Bool.or_eq_false_iff, decide_eq_false_iff_not] at *; omega))
theorem clCR {s nm : List UInt8} : (nm == [] || decide ((s.length : Int) ≤ (nm.length : Int) + 2) || (((s.getD 0 0).toNat : Nat) : Int) != 60 || (((s.getD 1 0).toNat : Nat) : Int) != 47 || !(lowL ((s.take (nm.length + 2)).drop 2) == lowL nm)) = clC s nm := by
  unfold clC
  by_cases h : (s.length : Int) ≤ (nm.length : Int) + 2
  · rw [decide_eq_true h]; simp
  · rw [← begQ (by omega)]
    simp only [Bool.or_assoc]
theorem clSR (a b c : Bool) : (a || b || c) = (c || a || b) := by cases a <;> cases b <;> cases c <;> rfl
instance gRClo (s nm : List UInt8) : Fn BB 11 [.str s, .str nm] (s.length ≤ 100000 ∧ nm.length ≤ 100000) (.bool (clS s nm)) := by
  refine Fn.intro (N := 51) [0, 1, 4, 5, 34] [] Try.call11 Try.func11 rfl rfl (by kernel_rfl) (fun hpre => ?_)
  repeat' ((conv => whnf); first | (with_reducible rfl) | exact True.intro | (with_reducible exact absTF) | (with_reducible exact absFT) | intro _ | refine And.intro ?_ ?_ | refine Fin.mk ?_ | refine CallG.plain rfl ?_ ?_ | refine CallG.mk rfl ?_ ?_ | refine CallG.nwl rfl ?_ ?_ | refine CallG.nw ?_ ?_ | refine CallF.nwl rfl ?_ ?_ | refine CallF.nw ?_ ?_ | refine AppN.mk ?_ | (refine CallS.q ?_; (conv => whnf); first | refine CallG.plain rfl ?_ ?_ | refine CallG.mk rfl ?_ ?_) | (refine CallS.m ?_; (conv => whnf); refine CallM.mk rfl ?_ ?_) | (refine CallS.h ?_; (conv => whnf); refine CallM.mk rfl ?_ ?_) | (refine CallS.b ?_; (conv => whnf); refine CallM.mk rfl ?_ ?_) | (refine CallS.z ?_; (conv => whnf); refine CallM.mk rfl ?_ ?_))
  all_goals (try (conv => whnf))
  all_goals (try (exact Ob.mk (u8_bnd _)))
  all_goals (try (refine Ob.mk ?_; first | exact True.intro | assumption | omega | (try simp only [decide_eq_true_eq, decide_eq_false_iff_not, beq_iff_eq, beq_eq_false_iff_ne, bne_iff_ne, bne_eq_false_iff_eq, ne_eq, Bool.and_eq_true, Bool.or_eq_true, Bool.not_eq_true, Bool.not_eq_false, Bool.not_eq_true', Bool.not_eq_false', Int.toNat_natCast, Int.not_lt, Int.not_le, UInt8.ofNat_toNat, cast_eq] at *; omega)))
  all_goals (try ((show (_:Int) = _); omega))
  all_goals (try (show tupSV _ = _; with_unfolding_all rfl))
  all_goals (try ((show (_ : Nat) ≤ _); (simp <;> omega)))
  all_goals (try ((show (_ : Nat) ≤ _ ∧ (_ : Nat) ≤ _); (simp <;> omega)))
  all_goals (try ((show (_ : Int) ≤ _ ∧ (_ : Int) ≤ _ ∧ (_ : Int) ≤ _ ∧ (_ : Int) ≤ _); (simp <;> omega)))
  all_goals (try (simp only [nm2, show Int.toNat 2 = 2 from rfl, show Int.toNat 0 = 0 from rfl, show Int.toNat 1 = 1 from rfl] at *))
  all_goals (try ((have hh : clC s nm = true := clCR.symm.trans (by assumption)); unfold clS; rw [hh]; rfl; done))
  all_goals (try (refine (clSR _ _ _).trans (clSn ?_).symm; exact clCR.symm.trans (by assumption)))
  all_goals (try (simp only [Bool.or_eq_false_iff, decide_eq_false_iff_not] at *; omega))
end Go.Vc

namespace Go.Vc
open Go.Proofs
set_option linter.unusedVariables false
set_option maxRecDepth 10000
set_option linter.unusedSimpArgs false
set_option maxHeartbeats 8000000
instance tAwake : Fn BB 6 [] True (.bool true) := by
  refine Fn.intro (N := 61) [0, 1, 2, 3, 5, 6] [] Try.call6 Try.func6 rfl rfl (by kernel_rfl) (fun hpre => ?_)
  repeat' ((conv => whnf); first | (with_reducible rfl) | exact True.intro | (with_reducible exact absTF) | (with_reducible exact absFT) | intro _ | refine And.intro ?_ ?_ | refine Fin.mk ?_ | refine CallG.plain rfl ?_ ?_ | refine CallG.mk rfl ?_ ?_ | refine CallG.nwl rfl ?_ ?_ | refine CallG.nw ?_ ?_ | refine CallF.nwl rfl ?_ ?_ | refine CallF.nw ?_ ?_ | refine AppN.mk ?_ | (refine CallS.q ?_; (conv => whnf); first | refine CallG.plain rfl ?_ ?_ | refine CallG.mk rfl ?_ ?_) | (refine CallS.m ?_; (conv => whnf); refine CallM.mk rfl ?_ ?_) | (refine CallS.h ?_; (conv => whnf); refine CallM.mk rfl ?_ ?_) | (refine CallS.b ?_; (conv => whnf); refine CallM.mk rfl ?_ ?_) | (refine CallS.z ?_; (conv => whnf); refine CallM.mk rfl ?_ ?_))
  all_goals (try (conv => whnf))
  all_goals (try (exact Ob.mk (u8_bnd _)))
  all_goals (try (refine Ob.mk ?_; first | exact True.intro | assumption | omega | (try simp only [decide_eq_true_eq, decide_eq_false_iff_not, beq_iff_eq, beq_eq_false_iff_ne, bne_iff_ne, bne_eq_false_iff_eq, ne_eq, Bool.and_eq_true, Bool.or_eq_true, Bool.not_eq_true, Bool.not_eq_false, Bool.not_eq_true', Bool.not_eq_false', Int.toNat_natCast, Int.not_lt, Int.not_le, UInt8.ofNat_toNat, cast_eq] at *; omega)))
  all_goals (try ((show (_:Int) = _); omega))
  all_goals (try (show tupSV _ = _; with_unfolding_all rfl))
  all_goals (try ((show (_ : Nat) ≤ _); (simp <;> omega)))
  all_goals (try ((show (_ : Nat) ≤ _ ∧ (_ : Nat) ≤ _); (simp <;> omega)))
  all_goals (try ((show (_ : Int) ≤ _ ∧ (_ : Int) ≤ _ ∧ (_ : Int) ≤ _ ∧ (_ : Int) ≤ _); (simp <;> omega)))
  all_goals (try (decide +kernel))
  all_goals trace_state
end Go.Vc

namespace Go.Vc
open Go.Proofs
set_option linter.unusedVariables false
set_option maxRecDepth 10000
set_option linter.unusedSimpArgs false
set_option maxHeartbeats 8000000
theorem runT_len (s : List UInt8) : ∀ (f i : Nat) (l : List AttrD) (x : List UInt8), (runT s f i l x).2.2.1.length ≤ l.length + f := by
  intro f
  induction f with
  | zero => intro i l x; exact Nat.le_refl _
  | succ f ih =>
    intro i l x
    unfold runT
    split
    · exact Nat.le_add_right _ _
    split
    · exact Nat.le_add_right _ _
    split
    · split
      · exact Nat.le_add_right _ _
      · exact Nat.le_trans (ih _ _ _) (by omega)
    · unfold runT.atT
      split
      · exact Nat.le_trans (ih _ _ _) (Nat.le_trans (Nat.add_le_add_right (addL_len _ _) f) (by omega))
      split
      · exact Nat.le_add_right _ _
      split
      · exact Nat.le_add_right _ _
      · exact Nat.le_trans (ih _ _ _) (Nat.le_trans (Nat.add_le_add_right (addL_len _ _) f) (by omega))
theorem tagAt_len (s : List UInt8) (c : Bool) (n : Nat) : (tagAt s c n).2.2.1.length ≤ s.length + 1 := by
  unfold tagAt
  split
  · exact Nat.zero_le _
  split
  · exact Nat.zero_le _
  split
  · exact Nat.zero_le _
  · have := runT_len s (s.length + 1) (upTo (stP [47, 62]) s n) [] []
    have h : (rnG s n).2.2.1.length ≤ 0 + (s.length + 1) := this
    exact Nat.le_trans h (by omega)
theorem tagP_len (s : List UInt8) : (tagP s).2.2.1.length ≤ s.length + 1 := by
  unfold tagP
  split <;> exact tagAt_len _ _ _
instance tReads (s nm : List UInt8) : Fn BB 3 [.str s, .str nm] True (.bool true) := by
  refine Fn.intro (N := 57) [0, 1, 4, 5, 6, 7, 8, 9, 10, 18] [] Try.call3 Try.func3 rfl rfl (by kernel_rfl) (fun hpre => ?_)
  have hl := tagP_len s
  repeat' ((conv => whnf); first | (with_reducible rfl) | exact True.intro | (with_reducible exact absTF) | (with_reducible exact absFT) | intro _ | refine And.intro ?_ ?_ | refine Fin.mk ?_ | refine CallG.plain rfl ?_ ?_ | refine CallG.mk rfl ?_ ?_ | refine CallG.nwl rfl ?_ ?_ | refine CallG.nw ?_ ?_ | refine CallF.nwl rfl ?_ ?_ | refine CallF.nw ?_ ?_ | refine AppN.mk ?_ | (refine CallS.q ?_; (conv => whnf); first | refine CallG.plain rfl ?_ ?_ | refine CallG.mk rfl ?_ ?_) | (refine CallS.m ?_; (conv => whnf); refine CallM.mk rfl ?_ ?_) | (refine CallS.h ?_; (conv => whnf); refine CallM.mk rfl ?_ ?_) | (refine CallS.b ?_; (conv => whnf); refine CallM.mk rfl ?_ ?_) | (refine CallS.z ?_; (conv => whnf); refine CallM.mk rfl ?_ ?_))
  all_goals (try (conv => whnf))
  all_goals (try (exact Ob.mk (u8_bnd _)))
  all_goals (try (refine Ob.mk ?_; first | exact True.intro | assumption | omega | (try simp only [decide_eq_true_eq, decide_eq_false_iff_not, beq_iff_eq, beq_eq_false_iff_ne, bne_iff_ne, bne_eq_false_iff_eq, ne_eq, Bool.and_eq_true, Bool.or_eq_true, Bool.not_eq_true, Bool.not_eq_false, Bool.not_eq_true', Bool.not_eq_false', Int.toNat_natCast, Int.not_lt, Int.not_le, UInt8.ofNat_toNat, cast_eq] at *; omega)))
  all_goals (try ((show (_:Int) = _); omega))
  all_goals (try (show tupSV _ = _; with_unfolding_all rfl))
  all_goals (try ((show (_ : Nat) ≤ _); (simp <;> omega)))
  all_goals (try ((show (_ : Nat) ≤ _ ∧ (_ : Nat) ≤ _); (simp <;> omega)))
  all_goals (try ((show (_ : Int) ≤ _ ∧ (_ : Int) ≤ _ ∧ (_ : Int) ≤ _ ∧ (_ : Int) ≤ _); (simp <;> omega)))
  all_goals (try (simp; done))
  all_goals (have hh : (decide ((s.length : Int) > 400) || decide ((nm.length : Int) > 40)) = false := ‹_›; rw [Bool.or_eq_false_iff, decide_eq_false_iff_not, decide_eq_false_iff_not] at hh; omega)
end Go.Vc

namespace Go.Vc
open Go.Proofs
set_option linter.unusedVariables false
set_option maxRecDepth 10000
set_option linter.unusedSimpArgs false
set_option maxHeartbeats 8000000
/-- no name twice -/
def nod (l : List AttrD) : Prop := (l.map (·.1)).Nodup
theorem addL_nod (l : List AttrD) (a : AttrD) (h : nod l) : nod (addL l a) := by
  unfold addL
  split
  · exact h
  · rename_i hn
    unfold nod at *
    rw [List.map_append, List.nodup_append]
    refine ⟨h, List.nodup_cons.mpr ⟨List.not_mem_nil, List.nodup_nil⟩, ?_⟩
    intro x hx y hy e
    rw [List.map_cons, List.map_nil, List.mem_singleton] at hy
    obtain ⟨z, hz, hzx⟩ := List.mem_map.mp hx
    exact hn (List.any_eq_true.mpr ⟨z, hz, by unfold hitN; rw [hzx, e, hy]; exact beq_self_eq_true _⟩)
theorem runT_nod (s : List UInt8) : ∀ (f i : Nat) (l : List AttrD) (x : List UInt8), nod l → nod (runT s f i l x).2.2.1 := by
  intro f
  induction f with
  | zero => intro i l x h; exact h
  | succ f ih =>
    intro i l x h
    unfold runT
    split
    · exact h
    split
    · exact h
    split
    · split
      · exact h
      · exact ih _ _ _ h
    · unfold runT.atT
      split
      · exact ih _ _ _ (addL_nod _ _ h)
      split
      · exact h
      split
      · exact h
      · exact ih _ _ _ (addL_nod _ _ h)
theorem tagAt_nod (s : List UInt8) (c : Bool) (n : Nat) : nod (tagAt s c n).2.2.1 := by
  unfold tagAt
  split
  · exact List.nodup_nil
  split
  · exact List.nodup_nil
  split
  · exact List.nodup_nil
  · exact runT_nod s (s.length + 1) (upTo (stP [47, 62]) s n) [] [] List.nodup_nil
theorem tagP_nod (s : List UInt8) : nod (tagP s).2.2.1 := by
  unfold tagP
  split <;> exact tagAt_nod _ _ _
theorem nod_ne {l : List AttrD} (h : nod l) {i j : Nat} (hi : i < l.length) (hj : j < i) : ((l.getD i attrTy.dflt).1 == (l.getD j attrTy.dflt).1) = false := by
  rw [beq_eq_false_iff_ne]
  intro e
  have hj' : j < l.length := by omega
  rw [List.getD_eq_getElem?_getD, List.getD_eq_getElem?_getD, List.getElem?_eq_getElem hi, List.getElem?_eq_getElem hj', Option.getD_some, Option.getD_some] at e
  unfold nod at h
  have := h
  rw [List.Nodup] at this
  have q := (List.pairwise_iff_getElem.mp this) j i (by simpa using hj') (by simpa using hi) hj
  apply q
  simp only [List.getElem_map]
  exact e.symm
end Go.Vc

namespace Go.Vc
open Go.Proofs
set_option linter.unusedVariables false
set_option maxRecDepth 10000
set_option linter.unusedSimpArgs false
set_option maxHeartbeats 8000000
section
variable {s t : List UInt8} {n : Nat}
/-- two texts that agree on their first n bytes -/
def agr (s t : List UInt8) (n : Nat) : Prop := n ≤ s.length ∧ n ≤ t.length ∧ ∀ k, k < n → t.getD k 0 = s.getD k 0
theorem upTo_ge (p : UInt8 → Bool) (s : List UInt8) (i : Nat) : i ≤ upTo p s i := by unfold upTo; omega
theorem upTo_cut (p : UInt8 → Bool) (ha : agr s t n) : ∀ (d i : Nat), n - i ≤ d → upTo p s i < n → upTo p t i = upTo p s i := by
  obtain ⟨hs, ht, he⟩ := ha
  intro d
  induction d with
  | zero => intro i hd hu; have := upTo_ge p s i; omega
  | succ d ih =>
    intro i hd hu
    have hi := upTo_ge p s i
    cases hp : p (s.getD i 0) with
    | false => rw [upTo_stop p s i (by omega) hp, upTo_stop p t i (by omega) (by rw [he i (by omega)]; exact hp)]
    | true =>
      rw [← upTo_step p s i (by omega) hp, ← upTo_step p t i (by omega) (by rw [he i (by omega)]; exact hp)]
      exact ih (i + 1) (by omega) (by rw [upTo_step p s i (by omega) hp]; exact hu)
theorem agr_take (m : List UInt8) (h : n ≤ s.length) : agr s (s.take n ++ m) n := by
  refine ⟨h, by rw [List.length_append, List.length_take]; omega, fun k hk => ?_⟩
  rw [List.getD_eq_getElem?_getD, List.getD_eq_getElem?_getD, List.getElem?_append_left (by rw [List.length_take]; omega), List.getElem?_take, if_pos hk]
theorem agr_cut (ha : agr s t n) {i j : Nat} (hj : j ≤ n) : (t.take j).drop i = (s.take j).drop i := by
  obtain ⟨hs, ht, he⟩ := ha
  congr 1
  apply List.ext_getElem?
  intro k
  rw [List.getElem?_take, List.getElem?_take]
  split
  · rename_i hk
    have := he k (by omega)
    rw [List.getD_eq_getElem?_getD, List.getD_eq_getElem?_getD, List.getElem?_eq_getElem (by omega), List.getElem?_eq_getElem (by omega)] at this
    rw [List.getElem?_eq_getElem (by omega), List.getElem?_eq_getElem (by omega)]
    exact congrArg some this
  · rfl
end
end Go.Vc

namespace Go.Vc
open Go.Proofs
set_option linter.unusedVariables false
set_option maxRecDepth 10000
set_option linter.unusedSimpArgs false
set_option maxHeartbeats 8000000
theorem valS_ge (s : List UInt8) (i : Nat) : i ≤ (valS s i).2.1 := by
  unfold valS
  split
  · split
    · exact Nat.le_refl _
    · show i ≤ i + _ + 2; omega
  · exact upTo_ge _ _ _
theorem runT_ge (s : List UInt8) : ∀ (f i : Nat) (l : List AttrD) (x : List UInt8), (runT s f i l x).1 = true → i < (runT s f i l x).2.1 := by
  intro f
  induction f with
  | zero => intro i l x h; cases h
  | succ f ih =>
    intro i l x
    have h0 := upTo_ge blB s i
    unfold runT
    split
    · intro h; cases h
    split
    · intro _; show i < upTo blB s i + 1; omega
    split
    · split
      · intro _; show i < upTo blB s i + 2; omega
      · intro h; refine Nat.lt_of_le_of_lt ?_ (ih _ _ _ h); omega
    · have h1 := upTo_ge (stP [47, 62, 61]) s (upTo blB s i + 1)
      have h2 := upTo_ge blB s (upTo (stP [47, 62, 61]) s (upTo blB s i + 1))
      have h3 := upTo_ge blB s (upTo blB s (upTo (stP [47, 62, 61]) s (upTo blB s i + 1)) + 1)
      have h4 := valS_ge s (upTo blB s (upTo blB s (upTo (stP [47, 62, 61]) s (upTo blB s i + 1)) + 1))
      unfold runT.atT
      split
      · intro h; refine Nat.lt_of_le_of_lt ?_ (ih _ _ _ h); omega
      split
      · intro h; cases h
      split
      · intro h; cases h
      · intro h; refine Nat.lt_of_le_of_lt ?_ (ih _ _ _ h); omega
end Go.Vc

namespace Go.Vc
open Go.Proofs
set_option linter.unusedVariables false
set_option maxRecDepth 10000
set_option linter.unusedSimpArgs false
set_option maxHeartbeats 8000000
theorem ix_cut (c : UInt8) : ∀ (l l' : List UInt8) (k : Nat), Lib.indexByte l c = (k : Int) → l'.take (k + 1) = l.take (k + 1) → Lib.indexByte l' c = (k : Int) := by
  intro l
  induction l with
  | nil => intro l' k h _; have e : Lib.indexByte [] c = -1 := rfl; rw [e] at h; omega
  | cons b r ih =>
    intro l' k h ht
    cases l' with
    | nil => rw [List.take_nil, List.take_succ_cons] at ht; cases ht
    | cons b' r' =>
      rw [List.take_succ_cons, List.take_succ_cons] at ht
      injection ht with h1 h2
      subst h1
      unfold Lib.indexByte at h ⊢
      split
      · rename_i hb; rw [if_pos hb] at h; exact h
      · rename_i hb
        rw [if_neg hb] at h
        split at h
        · omega
        · rename_i hm
          cases k with
          | zero =>
            have hg := Lib.indexByte_ge r c
            rw [beq_iff_eq] at hm
            omega
          | succ k =>
            have q := ih r' k (by omega) h2
            rw [q, if_neg (by rw [beq_iff_eq]; omega)]
            omega
end Go.Vc

namespace Go.Vc
open Go.Proofs
set_option linter.unusedVariables false
set_option maxRecDepth 10000
set_option linter.unusedSimpArgs false
set_option maxHeartbeats 8000000
theorem agr_drop {s t : List UInt8} {n : Nat} (ha : agr s t n) {i k : Nat} (hj : i + k ≤ n) : (t.drop i).take k = (s.drop i).take k := by
  have := agr_cut ha (i := i) (j := i + k) hj
  rw [List.drop_take, List.drop_take, Nat.add_sub_cancel_left] at this
  exact this
theorem valS_cut {s t : List UInt8} {n : Nat} (ha : agr s t n) {i : Nat} (hi : i < n) (ho : (valS s i).2.2 = true) (he : (valS s i).2.1 < n) : valS t i = valS s i := by
  have h0 : t.getD i 0 = s.getD i 0 := ha.2.2 i hi
  unfold valS at ho he ⊢
  rw [h0]
  split at he
  · rename_i hq
    rw [if_pos hq] at ho
    rw [if_pos hq, if_pos hq]
    split at he
    · rename_i hn; rw [if_pos hn] at ho; cases ho
    · rename_i hn
      obtain ⟨k, hk⟩ : ∃ k : Nat, Lib.indexByte (s.drop (i + 1)) (s.getD i 0) = (k : Int) := ⟨(Lib.indexByte (s.drop (i + 1)) (s.getD i 0)).toNat, by omega⟩
      rw [hk] at he ⊢
      rw [Int.toNat_natCast] at he
      have he' : i + k + 2 < n := he
      have q := ix_cut _ _ (t.drop (i + 1)) k hk (agr_drop ha (by omega))
      rw [q, if_neg (by omega), if_neg (by omega), Int.toNat_natCast, agr_drop ha (i := i + 1) (k := k) (by omega)]
  · rename_i hq
    rw [if_neg hq]
    have he' : upTo (stP [62]) s i < n := he
    rw [if_neg hq, upTo_cut _ ha n i (by omega) he', agr_cut ha (by omega)]
end Go.Vc

namespace Go.Vc
open Go.Proofs
set_option linter.unusedVariables false
set_option maxRecDepth 10000
set_option linter.unusedSimpArgs false
set_option maxHeartbeats 8000000
theorem runT_gt (s : List UInt8) (f i : Nat) (l : List AttrD) (x : List UInt8) : (runT s (f + 1) i l x).1 = true → upTo blB s i < (runT s (f + 1) i l x).2.1 := by
  unfold runT
  split
  · intro h; cases h
  split
  · intro _; show upTo blB s i < upTo blB s i + 1; omega
  split
  · split
    · intro _; show upTo blB s i < upTo blB s i + 2; omega
    · intro h; refine Nat.lt_of_le_of_lt ?_ (runT_ge s _ _ _ _ h); omega
  · have h1 := upTo_ge (stP [47, 62, 61]) s (upTo blB s i + 1)
    have h2 := upTo_ge blB s (upTo (stP [47, 62, 61]) s (upTo blB s i + 1))
    have h3 := upTo_ge blB s (upTo blB s (upTo (stP [47, 62, 61]) s (upTo blB s i + 1)) + 1)
    have h4 := valS_ge s (upTo blB s (upTo blB s (upTo (stP [47, 62, 61]) s (upTo blB s i + 1)) + 1))
    unfold runT.atT
    split
    · intro h; refine Nat.lt_of_le_of_lt ?_ (runT_ge s _ _ _ _ h); omega
    split
    · intro h; cases h
    split
    · intro h; cases h
    · intro h; refine Nat.lt_of_le_of_lt ?_ (runT_ge s _ _ _ _ h); omega
end Go.Vc

namespace Go.Vc
open Go.Proofs
set_option linter.unusedVariables false
set_option maxRecDepth 10000
set_option linter.unusedSimpArgs false
set_option maxHeartbeats 8000000
theorem runT_cut {s t : List UInt8} {n : Nat} (ha : agr s t n) : ∀ (f i : Nat) (l : List AttrD) (x : List UInt8) (g : Nat), (runT s f i l x).1 = true → (runT s f i l x).2.1 ≤ n → n - i < g → runT t g i l x = runT s f i l x := by
  intro f
  induction f with
  | zero => intro i l x g ho; cases ho
  | succ f ih =>
    intro i l x g ho he hg
    obtain ⟨g, rfl⟩ : ∃ g', g = g' + 1 := ⟨g - 1, by omega⟩
    have hgt := runT_gt s f i l x ho
    have h0 := upTo_ge blB s i
    have ea : upTo blB t i = upTo blB s i := upTo_cut _ ha n i (by omega) (by omega)
    have hs := ha.1
    have ht := ha.2.1
    have c1 : ¬ (s.length ≤ upTo blB s i) := by omega
    have c1' : ¬ (t.length ≤ upTo blB s i) := by omega
    have g0 : t.getD (upTo blB s i) 0 = s.getD (upTo blB s i) 0 := ha.2.2 _ (by omega)
    unfold runT at ho he ⊢
    rw [ea, g0, if_neg c1', if_neg c1]
    rw [if_neg c1] at ho he
    by_cases c2 : s.getD (upTo blB s i) 0 = 62
    · rw [if_pos c2, if_pos c2]
    rw [if_neg c2, if_neg c2]
    rw [if_neg c2] at ho he
    by_cases c3 : s.getD (upTo blB s i) 0 = 47
    · rw [if_pos c3, if_pos c3]
      rw [if_pos c3] at ho he
      by_cases c4 : upTo blB s i + 1 < s.length ∧ s.getD (upTo blB s i + 1) 0 = 62
      · rw [if_pos c4] at ho he
        have he' : upTo blB s i + 2 ≤ n := he
        rw [if_pos c4, if_pos ⟨by omega, by rw [ha.2.2 _ (by omega)]; exact c4.2⟩]
      · rw [if_neg c4] at ho he
        have q := runT_ge s _ _ _ _ ho
        rw [if_neg c4, if_neg (fun z => c4 ⟨by omega, by rw [← ha.2.2 _ (by omega)]; exact z.2⟩)]
        exact ih _ _ _ _ ho he (by omega)
    · rw [if_neg c3, if_neg c3]
      rw [if_neg c3] at ho he
      have h1 := upTo_ge (stP [47, 62, 61]) s (upTo blB s i + 1)
      have h2 := upTo_ge blB s (upTo (stP [47, 62, 61]) s (upTo blB s i + 1))
      have h3 := upTo_ge blB s (upTo blB s (upTo (stP [47, 62, 61]) s (upTo blB s i + 1)) + 1)
      have h4 := valS_ge s (upTo blB s (upTo blB s (upTo (stP [47, 62, 61]) s (upTo blB s i + 1)) + 1))
      unfold runT.atT at ho he ⊢
      by_cases c5 : ¬ (upTo blB s (upTo (stP [47, 62, 61]) s (upTo blB s i + 1)) < s.length ∧ s.getD (upTo blB s (upTo (stP [47, 62, 61]) s (upTo blB s i + 1))) 0 = 61)
      · rw [if_pos c5] at ho he
        have q' : upTo blB s (upTo (stP [47, 62, 61]) s (upTo blB s i + 1)) < n := Nat.lt_of_lt_of_le (runT_ge s _ _ _ _ ho) he
        have eb : upTo (stP [47, 62, 61]) t (upTo blB s i + 1) = upTo (stP [47, 62, 61]) s (upTo blB s i + 1) := upTo_cut _ ha n _ (by omega) (by omega)
        have eJ := upTo_cut blB ha n (upTo (stP [47, 62, 61]) s (upTo blB s i + 1)) (by omega) (by omega)
        have gJ := ha.2.2 _ q'
        rw [eb, eJ, gJ, agr_cut ha (by omega), if_pos c5, if_pos (fun z => c5 ⟨by omega, z.2⟩)]
        exact ih _ _ _ _ ho he (by omega)
      · rw [if_neg c5] at ho he
        by_cases c6 : s.length ≤ upTo blB s (upTo blB s (upTo (stP [47, 62, 61]) s (upTo blB s i + 1)) + 1)
        · rw [if_pos c6] at ho; cases ho
        rw [if_neg c6] at ho he
        by_cases c7 : (valS s (upTo blB s (upTo blB s (upTo (stP [47, 62, 61]) s (upTo blB s i + 1)) + 1))).2.2 = false
        · rw [if_pos c7] at ho; cases ho
        rw [if_neg c7] at ho he
        have q' : (valS s (upTo blB s (upTo blB s (upTo (stP [47, 62, 61]) s (upTo blB s i + 1)) + 1))).2.1 < n := Nat.lt_of_lt_of_le (runT_ge s _ _ _ _ ho) he
        have eb : upTo (stP [47, 62, 61]) t (upTo blB s i + 1) = upTo (stP [47, 62, 61]) s (upTo blB s i + 1) := upTo_cut _ ha n _ (by omega) (by omega)
        have eJ := upTo_cut blB ha n (upTo (stP [47, 62, 61]) s (upTo blB s i + 1)) (by omega) (by omega)
        have gJ := ha.2.2 (upTo blB s (upTo (stP [47, 62, 61]) s (upTo blB s i + 1))) (by omega)
        have eV := upTo_cut blB ha n (upTo blB s (upTo (stP [47, 62, 61]) s (upTo blB s i + 1)) + 1) (by omega) (by omega)
        have ev := valS_cut ha (i := upTo blB s (upTo blB s (upTo (stP [47, 62, 61]) s (upTo blB s i + 1)) + 1)) (by omega) (by cases h : (valS s (upTo blB s (upTo blB s (upTo (stP [47, 62, 61]) s (upTo blB s i + 1)) + 1))).2.2 with | true => rfl | false => exact absurd h c7) q'
        have d5 := Decidable.not_not.mp c5
        rw [eb, eJ, gJ, eV, ev, agr_cut ha (by omega), if_neg c5, if_neg (fun z => z ⟨by omega, d5.2⟩), if_neg c6, if_neg (by omega), if_neg c7, if_neg c7]
        exact ih _ _ _ _ ho he (by omega)
end Go.Vc

namespace Go.Vc
open Go.Proofs
set_option linter.unusedVariables false
set_option maxRecDepth 10000
set_option linter.unusedSimpArgs false
set_option maxHeartbeats 8000000
theorem tagAt_cut {s t : List UInt8} {n : Nat} (ha : agr s t n) (c : Bool) (a : Nat) (ho : (tagAt s c a).2.2.2.2.2 = true) (he : (tagAt s c a).2.2.2.2.1 = (n : Int)) : tagAt t c a = tagAt s c a := by
  unfold tagAt at ho he ⊢
  by_cases c1 : s = [] ∨ s.getD 0 0 ≠ 60 ∨ s.length ≤ a ∨ alB (s.getD a 0) = false
  · rw [if_pos c1] at ho; cases ho
  rw [if_neg c1] at ho he
  by_cases c2 : (rnG s a).1 = false
  · rw [if_pos c2] at ho; cases ho
  rw [if_neg c2] at ho he
  have hr : (rnG s a).1 = true := by cases h : (rnG s a).1 with | true => rfl | false => exact absurd h c2
  have hn : (rnG s a).2.1 = n := by
    by_cases c3 : c = true
    · rw [if_pos c3] at he; exact Int.ofNat.inj he
    · rw [if_neg c3] at he; exact Int.ofNat.inj he
  have hgt : upTo (stP [47, 62]) s a < (rnG s a).2.1 := runT_ge s _ _ _ _ hr
  have h0 := upTo_ge (stP [47, 62]) s a
  have hs := ha.1
  have ht := ha.2.1
  have eu : upTo (stP [47, 62]) t a = upTo (stP [47, 62]) s a := upTo_cut _ ha n a (by omega) (by omega)
  have er : rnG t a = rnG s a := by
    unfold rnG
    rw [eu]
    exact runT_cut ha _ _ _ _ _ hr (Nat.le_of_eq hn) (by omega)
  have en : nmG t a = nmG s a := by
    unfold nmG
    rw [eu, agr_cut ha (by omega)]
  have c1' : ¬ (t = [] ∨ t.getD 0 0 ≠ 60 ∨ t.length ≤ a ∨ alB (t.getD a 0) = false) := by
    rw [ha.2.2 0 (by omega), ha.2.2 a (by omega)]
    rintro (z | z | z | z)
    · rw [z] at ht; exact absurd ht (by rw [List.length_nil]; omega)
    · exact c1 (.inr (.inl z))
    · omega
    · exact c1 (.inr (.inr (.inr z)))
  rw [er, en, if_neg c1, if_neg c1', if_neg c2, if_neg c2]
end Go.Vc

namespace Go.Vc
open Go.Proofs
set_option linter.unusedVariables false
set_option maxRecDepth 10000
set_option linter.unusedSimpArgs false
set_option maxHeartbeats 8000000
theorem begP_cut {s t : List UInt8} {n : Nat} (ha : agr s t n) (h2 : 2 ≤ n) : begP t [60, 47] = begP s [60, 47] := by
  have e : t.take 2 = s.take 2 := agr_cut ha (i := 0) (j := 2) h2
  have hs := ha.1
  have ht := ha.2.1
  have d : ∀ l : List UInt8, n ≤ l.length → decide ((l.length : Int) ≥ ((([60, 47] : List UInt8).length : Nat) : Int)) = true := by
    intro l hl
    apply decide_eq_true
    show (l.length : Int) ≥ ((2 : Nat) : Int)
    omega
  unfold begP
  rw [d s hs, d t ht]
  show (true && t.take 2 == _) = (true && s.take 2 == _)
  rw [e]
theorem tagAt_two {s : List UInt8} {n : Nat} (c : Bool) (a : Nat) (h1 : 1 ≤ a) (ho : (tagAt s c a).2.2.2.2.2 = true) (he : (tagAt s c a).2.2.2.2.1 = (n : Int)) : 2 ≤ n := by
  unfold tagAt at ho he
  by_cases c1 : s = [] ∨ s.getD 0 0 ≠ 60 ∨ s.length ≤ a ∨ alB (s.getD a 0) = false
  · rw [if_pos c1] at ho; cases ho
  rw [if_neg c1] at ho he
  by_cases c2 : (rnG s a).1 = false
  · rw [if_pos c2] at ho; cases ho
  rw [if_neg c2] at ho he
  have hr : (rnG s a).1 = true := by cases h : (rnG s a).1 with | true => rfl | false => exact absurd h c2
  have hgt : upTo (stP [47, 62]) s a < (rnG s a).2.1 := runT_ge s _ _ _ _ hr
  have h0 := upTo_ge (stP [47, 62]) s a
  have hn : (rnG s a).2.1 = n := by
    by_cases c3 : c = true
    · rw [if_pos c3] at he; exact Int.ofNat.inj he
    · rw [if_neg c3] at he; exact Int.ofNat.inj he
  omega
theorem tagP_cut {s t : List UInt8} {n : Nat} (ha : agr s t n) (ho : (tagP s).2.2.2.2.2 = true) (he : (tagP s).2.2.2.2.1 = (n : Int)) : tagP t = tagP s := by
  unfold tagP at ho he ⊢
  by_cases c : begP s [60, 47] = true
  · rw [if_pos c] at ho he
    rw [begP_cut ha (tagAt_two _ _ (by omega) ho he), if_pos c, if_pos c]
    exact tagAt_cut ha _ _ ho he
  · rw [if_neg c] at ho he
    rw [begP_cut ha (tagAt_two _ _ (by omega) ho he), if_neg c, if_neg c]
    exact tagAt_cut ha _ _ ho he
end Go.Vc

namespace Go.Vc
open Go.Proofs
set_option linter.unusedVariables false
set_option maxRecDepth 10000
set_option linter.unusedSimpArgs false
set_option maxHeartbeats 8000000
theorem runT_le (s : List UInt8) : ∀ (f i : Nat) (l : List AttrD) (x : List UInt8), i ≤ s.length → (runT s f i l x).1 = true → (runT s f i l x).2.1 ≤ s.length := by
  intro f
  induction f with
  | zero => intro i l x _ h; cases h
  | succ f ih =>
    intro i l x hi
    have h0 := upTo_le blB s i hi
    unfold runT
    split
    · intro h; cases h
    split
    · intro _; show upTo blB s i + 1 ≤ s.length; omega
    split
    · split
      · rename_i h; intro _; show upTo blB s i + 2 ≤ s.length; omega
      · intro h; exact ih _ _ _ (by omega) h
    · have h1 := upTo_le (stP [47, 62, 61]) s (upTo blB s i + 1) (by omega)
      have h2 := upTo_le blB s (upTo (stP [47, 62, 61]) s (upTo blB s i + 1)) (by omega)
      unfold runT.atT
      split
      · intro h; exact ih _ _ _ (by omega) h
      split
      · intro h; cases h
      split
      · intro h; cases h
      · intro h; exact ih _ _ _ (valS_le s _ (by omega)).2.1 h
theorem tagAt_bnd (s : List UInt8) (c : Bool) (a : Nat) (ho : (tagAt s c a).2.2.2.2.2 = true) : ∃ n : Nat, (tagAt s c a).2.2.2.2.1 = (n : Int) ∧ 1 ≤ n ∧ n ≤ s.length := by
  unfold tagAt at ho ⊢
  by_cases c1 : s = [] ∨ s.getD 0 0 ≠ 60 ∨ s.length ≤ a ∨ alB (s.getD a 0) = false
  · rw [if_pos c1] at ho; cases ho
  rw [if_neg c1] at ho ⊢
  by_cases c2 : (rnG s a).1 = false
  · rw [if_pos c2] at ho; cases ho
  rw [if_neg c2]
  have hr : (rnG s a).1 = true := by cases h : (rnG s a).1 with | true => rfl | false => exact absurd h c2
  have hgt : upTo (stP [47, 62]) s a < (rnG s a).2.1 := runT_ge s _ _ _ _ hr
  have hal : a ≤ s.length := by
    rcases Nat.lt_or_ge s.length a with q | q
    · exact absurd (.inr (.inr (.inl (by omega)))) c1
    · exact q
  have hle : (rnG s a).2.1 ≤ s.length := runT_le s _ _ _ _ (upTo_le _ _ _ hal).2 hr
  refine ⟨(rnG s a).2.1, ?_, by omega, hle⟩
  by_cases c3 : c = true
  · rw [if_pos c3]
  · rw [if_neg c3]
theorem tagP_bnd (s : List UInt8) (ho : (tagP s).2.2.2.2.2 = true) : ∃ n : Nat, (tagP s).2.2.2.2.1 = (n : Int) ∧ 1 ≤ n ∧ n ≤ s.length := by
  unfold tagP at ho ⊢
  by_cases c : begP s [60, 47] = true
  · rw [if_pos c] at ho ⊢; exact tagAt_bnd _ _ _ ho
  · rw [if_neg c] at ho ⊢; exact tagAt_bnd _ _ _ ho
end Go.Vc

namespace Go.Vc
open Go.Proofs
set_option linter.unusedVariables false
set_option maxRecDepth 10000
set_option linter.unusedSimpArgs false
set_option maxHeartbeats 8000000
instance gSame8r (k : Int) (n d : List UInt8) (b : Bool) (l : List AttrD) : Fn BB 9 [.agg [.int .i64 k, .str n, .rd attrTy l, .bool b, .str d], .agg [.int .i64 k, .str n, .rd attrTy l, .bool b, .str d]] (l.length ≤ 100000) (.bool true) := by
  refine Fn.intro (N := 38) [0, 1, 2, 3, 4] [] Try.call9 Try.func9 rfl rfl (by kernel_rfl) (fun hpre => ?_)
  repeat' ((conv => whnf); first | (with_reducible rfl) | exact True.intro | (with_reducible exact absTF) | (with_reducible exact absFT) | intro _ | refine And.intro ?_ ?_ | refine Fin.mk ?_ | refine CallG.plain rfl ?_ ?_ | refine CallG.mk rfl ?_ ?_ | refine CallG.nwl rfl ?_ ?_ | refine CallG.nw ?_ ?_ | refine CallF.nwl rfl ?_ ?_ | refine CallF.nw ?_ ?_ | refine AppN.mk ?_ | (refine CallS.q ?_; (conv => whnf); first | refine CallG.plain rfl ?_ ?_ | refine CallG.mk rfl ?_ ?_) | (refine CallS.m ?_; (conv => whnf); refine CallM.mk rfl ?_ ?_) | (refine CallS.h ?_; (conv => whnf); refine CallM.mk rfl ?_ ?_) | (refine CallS.b ?_; (conv => whnf); refine CallM.mk rfl ?_ ?_) | (refine CallS.z ?_; (conv => whnf); refine CallM.mk rfl ?_ ?_))
  all_goals (try (conv => whnf))
  all_goals (try (exact Ob.mk (u8_bnd _)))
  all_goals (try (refine Ob.mk ?_; first | exact True.intro | assumption | omega | (try simp only [decide_eq_true_eq, decide_eq_false_iff_not, beq_iff_eq, beq_eq_false_iff_ne, bne_iff_ne, bne_eq_false_iff_eq, ne_eq, Bool.and_eq_true, Bool.or_eq_true, Bool.not_eq_true, Bool.not_eq_false, Bool.not_eq_true', Bool.not_eq_false', Int.toNat_natCast, Int.not_lt, Int.not_le, UInt8.ofNat_toNat, cast_eq] at *; omega)))
  all_goals (try ((show (_:Int) = _); omega))
  all_goals (try (show tupSV _ = _; with_unfolding_all rfl))
  all_goals (try ((show (_ : Nat) ≤ _); (simp <;> omega)))
  all_goals (try ((show (_ : Nat) ≤ _ ∧ (_ : Nat) ≤ _); (simp <;> omega)))
  all_goals (try ((show (_ : Int) ≤ _ ∧ (_ : Int) ≤ _ ∧ (_ : Int) ≤ _ ∧ (_ : Int) ≤ _); (simp <;> omega)))
  all_goals (try simp; done)
theorem or_ff {a b : Bool} (h : (a || b) = false) : a = false ∧ b = false := Bool.or_eq_false_iff.1 h
instance tStops (s m : List UInt8) : Fn BB 4 [.str s, .str m] True (.bool true) := by
  refine Fn.intro (N := 89) [0, 1, 4, 5, 6, 7, 8, 9, 10, 11, 12, 14, 22, 31, 40, 52, 53, 54, 55, 62, 63, 64, 65, 72] [(1000009, [0,2])] Try.call4 Try.func4 rfl rfl (by kernel_rfl) (fun hpre => ?_)
  have hl := tagP_len s
  have hb := tagP_bnd s
  have hn := tagP_nod s
  have hc : ∀ n : Nat, (tagP s).2.2.2.2.2 = true → (tagP s).2.2.2.2.1 = (n : Int) → n ≤ s.length → tagP (s.take n ++ m) = tagP s := fun n h1 h2 h3 => tagP_cut (agr_take m h3) h1 h2
  repeat' ((conv => whnf); first | (with_reducible rfl) | exact True.intro | (with_reducible exact absTF) | (with_reducible exact absFT) | intro _ | refine And.intro ?_ ?_ | refine Fin.mk ?_ | refine CallG.plain rfl ?_ ?_ | refine CallG.mk rfl ?_ ?_ | refine CallG.nwl rfl ?_ ?_ | refine CallG.nw ?_ ?_ | refine CallF.nwl rfl ?_ ?_ | refine CallF.nw ?_ ?_ | refine AppN.mk ?_ | (refine CallS.q ?_; (conv => whnf); first | refine CallG.plain rfl ?_ ?_ | refine CallG.mk rfl ?_ ?_) | (refine CallS.m ?_; (conv => whnf); refine CallM.mk rfl ?_ ?_) | (refine CallS.h ?_; (conv => whnf); refine CallM.mk rfl ?_ ?_) | (refine CallS.b ?_; (conv => whnf); refine CallM.mk rfl ?_ ?_) | (refine CallS.z ?_; (conv => whnf); refine CallM.mk rfl ?_ ?_))
  all_goals (try (conv => whnf))
  all_goals (try (exact Ob.mk (u8_bnd _)))
  all_goals (try (refine Ob.mk ?_; first | exact True.intro | assumption | omega | (try simp only [decide_eq_true_eq, decide_eq_false_iff_not, beq_iff_eq, beq_eq_false_iff_ne, bne_iff_ne, bne_eq_false_iff_eq, ne_eq, Bool.and_eq_true, Bool.or_eq_true, Bool.not_eq_true, Bool.not_eq_false, Bool.not_eq_true', Bool.not_eq_false', Int.toNat_natCast, Int.not_lt, Int.not_le, UInt8.ofNat_toNat, cast_eq] at *; omega)))
  all_goals (try ((show (_:Int) = _); omega))
  all_goals (try (show tupSV _ = _; with_unfolding_all rfl))
  all_goals (try ((show (_ : Nat) ≤ _); (simp <;> omega)))
  all_goals (try ((show (_ : Nat) ≤ _ ∧ (_ : Nat) ≤ _); (simp <;> omega)))
  all_goals (try ((show (_ : Int) ≤ _ ∧ (_ : Int) ≤ _ ∧ (_ : Int) ≤ _ ∧ (_ : Int) ≤ _); (simp <;> omega)))
  all_goals (have hh : (decide ((s.length : Int) > 400) || decide ((m.length : Int) > 200)) = false := ‹_›; obtain ⟨q1, q2⟩ := or_ff hh; have q1 := of_decide_eq_false q1; have q2 := of_decide_eq_false q2; clear hh)
  · omega
  all_goals (have ho : (tagP s).2.2.2.2.2 = true := by (have h : (!(tagP s).snd.snd.snd.snd.snd) = false := ‹_›; rw [Bool.not_eq_false'] at h; exact h))
  all_goals (obtain ⟨n, hn1, hn2, hn3⟩ := hb ho)
  · exfalso
    have h : (decide ((tagP s).snd.snd.snd.snd.fst < 1) || decide ((tagP s).snd.snd.snd.snd.fst > ↑s.length)) = true := ‹_›
    rw [Bool.or_eq_true, decide_eq_true_eq, decide_eq_true_eq, hn1] at h
    omega
  · rw [hn1]; omega
  · rw [hn1, List.length_take]; omega
  · rw [hn1, List.length_append, List.length_take]; omega
  · have hT : tagP (s.take (tagP s).2.2.2.2.1.toNat ++ m) = tagP s := by
      have := hc n ho hn1 hn3
      rw [hn1]; exact this
    rw [hT]
    clear hT hc hb
    generalize tagP s = T at *
    refine LoopStop.mk (α := Nat) (fun i => [(54, .int .i64 i)]) (fun _ => []) 20 (fun i => i ≤ T.2.2.1.length) (fun i => T.2.2.1.length - i) 0 (Nat.zero_le _) ?_ (fun i hi => ?_)
    · repeat' ((conv => whnf); first | (with_reducible rfl) | exact True.intro | (with_reducible exact absTF) | (with_reducible exact absFT) | intro _ | refine And.intro ?_ ?_ | refine Fin.mk ?_ | refine CallG.plain rfl ?_ ?_ | refine CallG.mk rfl ?_ ?_ | refine CallG.nwl rfl ?_ ?_ | refine CallG.nw ?_ ?_ | refine CallF.nwl rfl ?_ ?_ | refine CallF.nw ?_ ?_ | refine AppN.mk ?_ | (refine CallS.q ?_; (conv => whnf); first | refine CallG.plain rfl ?_ ?_ | refine CallG.mk rfl ?_ ?_) | (refine CallS.m ?_; (conv => whnf); refine CallM.mk rfl ?_ ?_) | (refine CallS.h ?_; (conv => whnf); refine CallM.mk rfl ?_ ?_) | (refine CallS.b ?_; (conv => whnf); refine CallM.mk rfl ?_ ?_) | (refine CallS.z ?_; (conv => whnf); refine CallM.mk rfl ?_ ?_))
      all_goals (try (conv => whnf))
      all_goals (try (exact Ob.mk (u8_bnd _)))
      all_goals (try (refine Ob.mk ?_; first | exact True.intro | assumption | omega | (try simp only [decide_eq_true_eq, decide_eq_false_iff_not, beq_iff_eq, beq_eq_false_iff_ne, bne_iff_ne, bne_eq_false_iff_eq, ne_eq, Bool.and_eq_true, Bool.or_eq_true, Bool.not_eq_true, Bool.not_eq_false, Bool.not_eq_true', Bool.not_eq_false', Int.toNat_natCast, Int.not_lt, Int.not_le, UInt8.ofNat_toNat, cast_eq] at *; omega)))
      all_goals (try ((show (_:Int) = _); omega))
      all_goals (try (show tupSV _ = _; with_unfolding_all rfl))
      all_goals (try ((show (_ : Nat) ≤ _); (simp <;> omega)))
      all_goals (try ((show (_ : Nat) ≤ _ ∧ (_ : Nat) ≤ _); (simp <;> omega)))
      all_goals (try ((show (_ : Int) ≤ _ ∧ (_ : Int) ≤ _ ∧ (_ : Int) ≤ _ ∧ (_ : Int) ≤ _); (simp <;> omega)))
      all_goals (try rfl)
    · repeat' ((conv => whnf); first | (with_reducible rfl) | exact True.intro | (with_reducible exact absTF) | (with_reducible exact absFT) | intro _ | refine And.intro ?_ ?_ | refine Fin.mk ?_ | refine CallG.plain rfl ?_ ?_ | refine CallG.mk rfl ?_ ?_ | refine CallG.nwl rfl ?_ ?_ | refine CallG.nw ?_ ?_ | refine CallF.nwl rfl ?_ ?_ | refine CallF.nw ?_ ?_ | refine AppN.mk ?_ | (refine CallS.q ?_; (conv => whnf); first | refine CallG.plain rfl ?_ ?_ | refine CallG.mk rfl ?_ ?_) | (refine CallS.m ?_; (conv => whnf); refine CallM.mk rfl ?_ ?_) | (refine CallS.h ?_; (conv => whnf); refine CallM.mk rfl ?_ ?_) | (refine CallS.b ?_; (conv => whnf); refine CallM.mk rfl ?_ ?_) | (refine CallS.z ?_; (conv => whnf); refine CallM.mk rfl ?_ ?_))
      all_goals (try (conv => whnf))
      all_goals (try (exact Ob.mk (u8_bnd _)))
      all_goals (try (refine Ob.mk ?_; first | exact True.intro | assumption | omega | (try simp only [decide_eq_true_eq, decide_eq_false_iff_not, beq_iff_eq, beq_eq_false_iff_ne, bne_iff_ne, bne_eq_false_iff_eq, ne_eq, Bool.and_eq_true, Bool.or_eq_true, Bool.not_eq_true, Bool.not_eq_false, Bool.not_eq_true', Bool.not_eq_false', Int.toNat_natCast, Int.not_lt, Int.not_le, UInt8.ofNat_toNat, cast_eq] at *; omega)))
      all_goals (try ((show (_:Int) = _); omega))
      all_goals (try (show tupSV _ = _; with_unfolding_all rfl))
      all_goals (try ((show (_ : Nat) ≤ _); (simp <;> omega)))
      all_goals (try ((show (_ : Nat) ≤ _ ∧ (_ : Nat) ≤ _); (simp <;> omega)))
      all_goals (try ((show (_ : Int) ≤ _ ∧ (_ : Int) ≤ _ ∧ (_ : Int) ≤ _ ∧ (_ : Int) ≤ _); (simp <;> omega)))
      all_goals (try simp only [Int.toNat_natCast] at *)
      · have hil : i < T.2.2.1.length := by have h := of_decide_eq_true ‹decide ((i : Int) < (T.2.2.1.length : Int)) = true›; omega
        refine LoopStop.mk (α := Nat) (fun j => [(64, .int .i64 j)]) (fun _ => []) 40 (fun j => j ≤ (T.2.2.1.take i).length) (fun j => (T.2.2.1.take i).length - j) 0 (Nat.zero_le _) ?_ (fun j hj => ?_)
        · repeat' ((conv => whnf); first | (with_reducible rfl) | exact True.intro | (with_reducible exact absTF) | (with_reducible exact absFT) | intro _ | refine And.intro ?_ ?_ | refine Fin.mk ?_ | refine CallG.plain rfl ?_ ?_ | refine CallG.mk rfl ?_ ?_ | refine CallG.nwl rfl ?_ ?_ | refine CallG.nw ?_ ?_ | refine CallF.nwl rfl ?_ ?_ | refine CallF.nw ?_ ?_ | refine AppN.mk ?_ | (refine CallS.q ?_; (conv => whnf); first | refine CallG.plain rfl ?_ ?_ | refine CallG.mk rfl ?_ ?_) | (refine CallS.m ?_; (conv => whnf); refine CallM.mk rfl ?_ ?_) | (refine CallS.h ?_; (conv => whnf); refine CallM.mk rfl ?_ ?_) | (refine CallS.b ?_; (conv => whnf); refine CallM.mk rfl ?_ ?_) | (refine CallS.z ?_; (conv => whnf); refine CallM.mk rfl ?_ ?_))
          all_goals (try (conv => whnf))
          all_goals (try (exact Ob.mk (u8_bnd _)))
          all_goals (try (refine Ob.mk ?_; first | exact True.intro | assumption | omega | (try simp only [decide_eq_true_eq, decide_eq_false_iff_not, beq_iff_eq, beq_eq_false_iff_ne, bne_iff_ne, bne_eq_false_iff_eq, ne_eq, Bool.and_eq_true, Bool.or_eq_true, Bool.not_eq_true, Bool.not_eq_false, Bool.not_eq_true', Bool.not_eq_false', Int.toNat_natCast, Int.not_lt, Int.not_le, UInt8.ofNat_toNat, cast_eq] at *; omega)))
          all_goals (try ((show (_:Int) = _); omega))
          all_goals (try (show tupSV _ = _; with_unfolding_all rfl))
          all_goals (try ((show (_ : Nat) ≤ _); (simp <;> omega)))
          all_goals (try ((show (_ : Nat) ≤ _ ∧ (_ : Nat) ≤ _); (simp <;> omega)))
          all_goals (try ((show (_ : Int) ≤ _ ∧ (_ : Int) ≤ _ ∧ (_ : Int) ≤ _ ∧ (_ : Int) ≤ _); (simp <;> omega)))
          all_goals (try rfl)
        · repeat' ((conv => whnf); first | (with_reducible rfl) | exact True.intro | (with_reducible exact absTF) | (with_reducible exact absFT) | intro _ | refine And.intro ?_ ?_ | refine Fin.mk ?_ | refine CallG.plain rfl ?_ ?_ | refine CallG.mk rfl ?_ ?_ | refine CallG.nwl rfl ?_ ?_ | refine CallG.nw ?_ ?_ | refine CallF.nwl rfl ?_ ?_ | refine CallF.nw ?_ ?_ | refine AppN.mk ?_ | (refine CallS.q ?_; (conv => whnf); first | refine CallG.plain rfl ?_ ?_ | refine CallG.mk rfl ?_ ?_) | (refine CallS.m ?_; (conv => whnf); refine CallM.mk rfl ?_ ?_) | (refine CallS.h ?_; (conv => whnf); refine CallM.mk rfl ?_ ?_) | (refine CallS.b ?_; (conv => whnf); refine CallM.mk rfl ?_ ?_) | (refine CallS.z ?_; (conv => whnf); refine CallM.mk rfl ?_ ?_))
          all_goals (try (conv => whnf))
          all_goals (try (exact Ob.mk (u8_bnd _)))
          all_goals (try (refine Ob.mk ?_; first | exact True.intro | assumption | omega | (try simp only [decide_eq_true_eq, decide_eq_false_iff_not, beq_iff_eq, beq_eq_false_iff_ne, bne_iff_ne, bne_eq_false_iff_eq, ne_eq, Bool.and_eq_true, Bool.or_eq_true, Bool.not_eq_true, Bool.not_eq_false, Bool.not_eq_true', Bool.not_eq_false', Int.toNat_natCast, Int.not_lt, Int.not_le, UInt8.ofNat_toNat, cast_eq] at *; omega)))
          all_goals (try ((show (_:Int) = _); omega))
          all_goals (try (show tupSV _ = _; with_unfolding_all rfl))
          all_goals (try ((show (_ : Nat) ≤ _); (simp <;> omega)))
          all_goals (try ((show (_ : Nat) ≤ _ ∧ (_ : Nat) ≤ _); (simp <;> omega)))
          all_goals (try ((show (_ : Int) ≤ _ ∧ (_ : Int) ≤ _ ∧ (_ : Int) ≤ _ ∧ (_ : Int) ≤ _); (simp <;> omega)))
          all_goals (try simp only [Int.toNat_natCast] at *)
          all_goals (try (have hjl : j < (T.2.2.1.take i).length := by (have h := of_decide_eq_true ‹decide ((j : Int) < ((T.2.2.1.take i).length : Int)) = true›; omega)))
          · exfalso
            have hji : j < i := by have h := hjl; rw [List.length_take] at h; omega
            have e : (T.2.2.1.take i).getD j attrTy.dflt = T.2.2.1.getD j attrTy.dflt := by
              simp only [List.getD]; rw [List.getElem?_take_of_lt hji]
            have h := nod_ne hn hil hji
            have h' : ((T.2.2.1.getD i attrTy.dflt).1 == ((T.2.2.1.take i).getD j attrTy.dflt).1) = true := ‹_›
            rw [e, h] at h'
            cases h'
          · refine Rnd.mk ⟨j + 1, ⟨by omega, by omega, ?_⟩⟩
            repeat' ((conv => whnf); first | (with_reducible rfl) | exact True.intro | (with_reducible exact absTF) | (with_reducible exact absFT) | intro _ | refine And.intro ?_ ?_ | refine Fin.mk ?_ | refine CallG.plain rfl ?_ ?_ | refine CallG.mk rfl ?_ ?_ | refine CallG.nwl rfl ?_ ?_ | refine CallG.nw ?_ ?_ | refine CallF.nwl rfl ?_ ?_ | refine CallF.nw ?_ ?_ | refine AppN.mk ?_ | (refine CallS.q ?_; (conv => whnf); first | refine CallG.plain rfl ?_ ?_ | refine CallG.mk rfl ?_ ?_) | (refine CallS.m ?_; (conv => whnf); refine CallM.mk rfl ?_ ?_) | (refine CallS.h ?_; (conv => whnf); refine CallM.mk rfl ?_ ?_) | (refine CallS.b ?_; (conv => whnf); refine CallM.mk rfl ?_ ?_) | (refine CallS.z ?_; (conv => whnf); refine CallM.mk rfl ?_ ?_))
            all_goals (try (conv => whnf))
            all_goals (try (exact Ob.mk (u8_bnd _)))
            all_goals (try (refine Ob.mk ?_; first | exact True.intro | assumption | omega | (try simp only [decide_eq_true_eq, decide_eq_false_iff_not, beq_iff_eq, beq_eq_false_iff_ne, bne_iff_ne, bne_eq_false_iff_eq, ne_eq, Bool.and_eq_true, Bool.or_eq_true, Bool.not_eq_true, Bool.not_eq_false, Bool.not_eq_true', Bool.not_eq_false', Int.toNat_natCast, Int.not_lt, Int.not_le, UInt8.ofNat_toNat, cast_eq] at *; omega)))
            all_goals (try ((show (_:Int) = _); omega))
            all_goals (try (show tupSV _ = _; with_unfolding_all rfl))
            all_goals (try ((show (_ : Nat) ≤ _); (simp <;> omega)))
            all_goals (try ((show (_ : Nat) ≤ _ ∧ (_ : Nat) ≤ _); (simp <;> omega)))
            all_goals (try ((show (_ : Int) ≤ _ ∧ (_ : Int) ≤ _ ∧ (_ : Int) ≤ _ ∧ (_ : Int) ≤ _); (simp <;> omega)))
            all_goals (try rfl)
          · refine Rnd.mk ⟨i + 1, ⟨by omega, by omega, ?_⟩⟩
            repeat' ((conv => whnf); first | (with_reducible rfl) | exact True.intro | (with_reducible exact absTF) | (with_reducible exact absFT) | intro _ | refine And.intro ?_ ?_ | refine Fin.mk ?_ | refine CallG.plain rfl ?_ ?_ | refine CallG.mk rfl ?_ ?_ | refine CallG.nwl rfl ?_ ?_ | refine CallG.nw ?_ ?_ | refine CallF.nwl rfl ?_ ?_ | refine CallF.nw ?_ ?_ | refine AppN.mk ?_ | (refine CallS.q ?_; (conv => whnf); first | refine CallG.plain rfl ?_ ?_ | refine CallG.mk rfl ?_ ?_) | (refine CallS.m ?_; (conv => whnf); refine CallM.mk rfl ?_ ?_) | (refine CallS.h ?_; (conv => whnf); refine CallM.mk rfl ?_ ?_) | (refine CallS.b ?_; (conv => whnf); refine CallM.mk rfl ?_ ?_) | (refine CallS.z ?_; (conv => whnf); refine CallM.mk rfl ?_ ?_))
            all_goals (try (conv => whnf))
            all_goals (try (exact Ob.mk (u8_bnd _)))
            all_goals (try (refine Ob.mk ?_; first | exact True.intro | assumption | omega | (try simp only [decide_eq_true_eq, decide_eq_false_iff_not, beq_iff_eq, beq_eq_false_iff_ne, bne_iff_ne, bne_eq_false_iff_eq, ne_eq, Bool.and_eq_true, Bool.or_eq_true, Bool.not_eq_true, Bool.not_eq_false, Bool.not_eq_true', Bool.not_eq_false', Int.toNat_natCast, Int.not_lt, Int.not_le, UInt8.ofNat_toNat, cast_eq] at *; omega)))
            all_goals (try ((show (_:Int) = _); omega))
            all_goals (try (show tupSV _ = _; with_unfolding_all rfl))
            all_goals (try ((show (_ : Nat) ≤ _); (simp <;> omega)))
            all_goals (try ((show (_ : Nat) ≤ _ ∧ (_ : Nat) ≤ _); (simp <;> omega)))
            all_goals (try ((show (_ : Int) ≤ _ ∧ (_ : Int) ≤ _ ∧ (_ : Int) ≤ _ ∧ (_ : Int) ≤ _); (simp <;> omega)))
            all_goals (try rfl)
      · rw [beq_self_eq_true, ho]; rfl
end Go.Vc

namespace Go.Vc
open Go.Proofs
set_option maxRecDepth 100000
theorem base_ok (W : World) (hsh : W.ShapedOpen Try.prog) : BB.G fun b => W.heap[b]? := by
  obtain ⟨m, hm⟩ := Go.Proofs.cell_of_shapedOpen_int (g := 0) (zero := #[.int .i64 0]) (t := 3) hsh (of_decide_eq_true (by kernel_rfl)) (by kernel_rfl) rfl (by kernel_rfl) (by kernel_rfl) Try.underlying3
  have hm' : W.cell? ⟨0, 0, none⟩ = some (.int .i64 m) := hm
  unfold World.cell? at hm'
  show ∃ c T fr m, W.heap[0]? = some (.cells c T fr) ∧ c[0]? = some (.int .i64 m)
  cases h : W.heap[0]? with
  | none => simp [h] at hm'
  | some o =>
    cases o with
    | cells c T fr => exact ⟨c, T, fr, m, rfl, by simpa [h] using hm'⟩
    | _ => simp [h] at hm'
end Go.Vc
