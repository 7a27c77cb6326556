/- A part of the proof: lemmas and walks that the last text of the claim joins; no condition. -/
import Derived.Test.YtecdihmimpcgbaaDoorTI
import Derived.Lib.IndexLaws
import Derived.Lib.CutLaws
import Derived.Lib.IndexAny
import Derived.Lib.DecodeN
import Derived.Lib.TrimU
import Derived.Lib.AsciiSet
set_option linter.unusedVariables false
set_option linter.unusedSimpArgs false
namespace Go.Vc
open Go.Proofs
set_option linter.unusedVariables false
set_option maxRecDepth 10000
set_option linter.unusedSimpArgs false
set_option maxHeartbeats 2000000
theorem dw_step {l : List UInt8} (h : 0 < l.length) (hs : W.isSp ((l.getD 0 0).toNat : Int) = true) : (l.drop 1).dropWhile spB = l.dropWhile spB := by
  match l, h with
  | c :: r, _ =>
    have hs' : spB c = true := hs
    rw [List.drop_succ_cons, List.drop_zero, List.dropWhile_cons, if_pos hs']
theorem dw_stop {l : List UInt8} (hs : 0 < l.length → W.isSp ((l.getD 0 0).toNat : Int) = false) : l.dropWhile spB = l := by
  match l with
  | [] => rfl
  | c :: r =>
    have hs' : spB c = false := hs (by simp)
    rw [List.dropWhile_cons, if_neg (by simp [hs'])]
theorem snoc_of {l : List UInt8} (h : 0 < l.length) : l = l.take (l.length - 1) ++ [l.getD (l.length - 1) 0] := by
  have h2 : l.take (l.length - 1 + 1) = l.take (l.length - 1) ++ [l.getD (l.length - 1) 0] := by
    rw [List.take_succ_eq_append_getElem (by omega)]; simp [List.getD, List.getElem?_eq_getElem (show l.length - 1 < l.length by omega)]
  rw [← h2, List.take_of_length_le (by omega)]
theorem dr_step {l : List UInt8} (h : 0 < l.length) (hs : W.isSp ((l.getD (l.length - 1) 0).toNat : Int) = true) : dropR spB (l.take (l.length - 1)) = dropR spB l := by
  have hs' : spB (l.getD (l.length - 1) 0) = true := hs
  have := dropR_snoc spB (l.take (l.length - 1)) (l.getD (l.length - 1) 0)
  rw [if_pos hs', ← snoc_of h] at this
  exact this.symm
theorem dr_stop {l : List UInt8} (hs : 0 < l.length → W.isSp ((l.getD (l.length - 1) 0).toNat : Int) = false) : dropR spB l = l := by
  rcases Nat.eq_zero_or_pos l.length with h | h
  · have : l = [] := List.length_eq_zero_iff.1 h
    subst this; rfl
  · have hs' : spB (l.getD (l.length - 1) 0) = false := hs h
    have := dropR_snoc spB (l.take (l.length - 1)) (l.getD (l.length - 1) 0)
    rw [hs', if_neg (by decide), ← snoc_of h] at this
    exact this
instance aRBlank (s : List UInt8) : Fn BB 20 [.str s] True (.bool (trimW s == [])) := by
  refine Fn.intro (N := 15) [0, 2, 3, 7, 14] [] Tryd.call20 Tryd.func20 rfl rfl (by kernel_rfl) (fun hpre => ?_)
  rw [trimW_blank]
  repeat' ((conv => whnf); first | (with_reducible rfl) | exact True.intro | (with_reducible exact absTF) | (with_reducible exact absFT) | intro _ | refine And.intro ?_ ?_ | refine Fin.mk ?_ | refine CallG.plain rfl ?_ ?_ | refine CallG.mk rfl ?_ ?_ | refine CallG.nwl rfl ?_ ?_ | refine CallG.nw ?_ ?_ | refine CallF.nwl rfl ?_ ?_ | refine CallF.nw ?_ ?_ | refine AppN.mk ?_ | (refine CallS.q ?_; (conv => whnf); first | refine CallG.plain rfl ?_ ?_ | refine CallG.mk rfl ?_ ?_) | (refine CallS.m ?_; (conv => whnf); refine CallM.mk rfl ?_ ?_) | (refine CallS.h ?_; (conv => whnf); refine CallM.mk rfl ?_ ?_) | (refine CallS.b ?_; (conv => whnf); refine CallM.mk rfl ?_ ?_) | (refine CallS.z ?_; (conv => whnf); refine CallM.mk rfl ?_ ?_))
  all_goals (try (conv => whnf))
  all_goals (try (exact Ob.mk (u8_bnd _)))
  all_goals (try (refine Ob.mk ?_; first | exact True.intro | assumption | omega | (try simp only [decide_eq_true_eq, decide_eq_false_iff_not, beq_iff_eq, beq_eq_false_iff_ne, bne_iff_ne, bne_eq_false_iff_eq, ne_eq, Bool.and_eq_true, Bool.or_eq_true, Bool.not_eq_true, Bool.not_eq_false, Bool.not_eq_true', Bool.not_eq_false', Int.toNat_natCast, Int.not_lt, Int.not_le, UInt8.ofNat_toNat, cast_eq] at *; omega)))
  all_goals (try ((show (_:Int) = _); omega))
  all_goals (try (show tupSV _ = _; with_unfolding_all rfl))
  all_goals (try ((show (_ : Nat) ≤ _); (simp <;> omega)))
  all_goals (try ((show (_ : Nat) ≤ _ ∧ (_ : Nat) ≤ _); (simp <;> omega)))
  all_goals (try ((show (_ : Int) ≤ _ ∧ (_ : Int) ≤ _ ∧ (_ : Int) ≤ _ ∧ (_ : Int) ≤ _); (simp <;> omega)))
  refine LoopStop.mk (α := Nat) (fun i => [(3, .int .i64 i)]) (fun i => []) 20 (fun i => i ≤ s.length ∧ (s.take i).all spB = true) (fun i => s.length - i) 0 (by simp) ?_ (fun i hi => ?_)
  · repeat' ((conv => whnf); first | (with_reducible rfl) | exact True.intro | (with_reducible exact absTF) | (with_reducible exact absFT) | intro _ | refine And.intro ?_ ?_ | refine Fin.mk ?_ | refine CallG.plain rfl ?_ ?_ | refine CallG.mk rfl ?_ ?_ | refine CallG.nwl rfl ?_ ?_ | refine CallG.nw ?_ ?_ | refine CallF.nwl rfl ?_ ?_ | refine CallF.nw ?_ ?_ | refine AppN.mk ?_ | (refine CallS.q ?_; (conv => whnf); first | refine CallG.plain rfl ?_ ?_ | refine CallG.mk rfl ?_ ?_) | (refine CallS.m ?_; (conv => whnf); refine CallM.mk rfl ?_ ?_) | (refine CallS.h ?_; (conv => whnf); refine CallM.mk rfl ?_ ?_) | (refine CallS.b ?_; (conv => whnf); refine CallM.mk rfl ?_ ?_) | (refine CallS.z ?_; (conv => whnf); refine CallM.mk rfl ?_ ?_))
    all_goals (try (conv => whnf))
    all_goals (try (exact Ob.mk (u8_bnd _)))
    all_goals (try (refine Ob.mk ?_; first | exact True.intro | assumption | omega | (try simp only [decide_eq_true_eq, decide_eq_false_iff_not, beq_iff_eq, beq_eq_false_iff_ne, bne_iff_ne, bne_eq_false_iff_eq, ne_eq, Bool.and_eq_true, Bool.or_eq_true, Bool.not_eq_true, Bool.not_eq_false, Bool.not_eq_true', Bool.not_eq_false', Int.toNat_natCast, Int.not_lt, Int.not_le, UInt8.ofNat_toNat, cast_eq] at *; omega)))
    all_goals (try ((show (_:Int) = _); omega))
    all_goals (try (show tupSV _ = _; with_unfolding_all rfl))
    all_goals (try ((show (_ : Nat) ≤ _); (simp <;> omega)))
    all_goals (try ((show (_ : Nat) ≤ _ ∧ (_ : Nat) ≤ _); (simp <;> omega)))
    all_goals (try ((show (_ : Int) ≤ _ ∧ (_ : Int) ≤ _ ∧ (_ : Int) ≤ _ ∧ (_ : Int) ≤ _); (simp <;> omega)))
    all_goals rfl
  · repeat' ((conv => whnf); first | (with_reducible rfl) | exact True.intro | (with_reducible exact absTF) | (with_reducible exact absFT) | intro _ | refine And.intro ?_ ?_ | refine Fin.mk ?_ | refine CallG.plain rfl ?_ ?_ | refine CallG.mk rfl ?_ ?_ | refine CallG.nwl rfl ?_ ?_ | refine CallG.nw ?_ ?_ | refine CallF.nwl rfl ?_ ?_ | refine CallF.nw ?_ ?_ | refine AppN.mk ?_ | (refine CallS.q ?_; (conv => whnf); first | refine CallG.plain rfl ?_ ?_ | refine CallG.mk rfl ?_ ?_) | (refine CallS.m ?_; (conv => whnf); refine CallM.mk rfl ?_ ?_) | (refine CallS.h ?_; (conv => whnf); refine CallM.mk rfl ?_ ?_) | (refine CallS.b ?_; (conv => whnf); refine CallM.mk rfl ?_ ?_) | (refine CallS.z ?_; (conv => whnf); refine CallM.mk rfl ?_ ?_))
    all_goals (try (conv => whnf))
    all_goals (try (exact Ob.mk (u8_bnd _)))
    all_goals (try (refine Ob.mk ?_; first | exact True.intro | assumption | omega | (try simp only [decide_eq_true_eq, decide_eq_false_iff_not, beq_iff_eq, beq_eq_false_iff_ne, bne_iff_ne, bne_eq_false_iff_eq, ne_eq, Bool.and_eq_true, Bool.or_eq_true, Bool.not_eq_true, Bool.not_eq_false, Bool.not_eq_true', Bool.not_eq_false', Int.toNat_natCast, Int.not_lt, Int.not_le, UInt8.ofNat_toNat, cast_eq] at *; omega)))
    all_goals (try ((show (_:Int) = _); omega))
    all_goals (try (show tupSV _ = _; with_unfolding_all rfl))
    all_goals (try ((show (_ : Nat) ≤ _); (simp <;> omega)))
    all_goals (try ((show (_ : Nat) ≤ _ ∧ (_ : Nat) ≤ _); (simp <;> omega)))
    all_goals (try ((show (_ : Int) ≤ _ ∧ (_ : Int) ≤ _ ∧ (_ : Int) ≤ _ ∧ (_ : Int) ≤ _); (simp <;> omega)))
    all_goals (try simp only [decide_eq_true_eq, decide_eq_false_iff_not, beq_iff_eq, beq_eq_false_iff_ne, bne_iff_ne, bne_eq_false_iff_eq, ne_eq, Bool.and_eq_true, Bool.or_eq_true, Bool.not_eq_true, Bool.not_eq_false, Bool.not_eq_true', Bool.not_eq_false', Int.toNat_natCast, Int.not_lt, Int.not_le, UInt8.ofNat_toNat, cast_eq] at *)
    · rename_i hl hsp
      symm
      rw [Bool.eq_false_iff]
      intro hall
      have hm : s.getD i 0 ∈ s := by
        rw [List.getD_eq_getElem?_getD, List.getElem?_eq_getElem (by omega)]; exact List.getElem_mem _
      have := List.all_eq_true.1 hall _ hm
      unfold spB at this
      rw [hsp] at this; cases this
    · rename_i hl hsp
      refine Rnd.mk ⟨i + 1, ⟨by omega, ?_⟩, by omega, ?_⟩
      · rw [List.take_succ_eq_append_getElem (by omega), List.all_append, hi.2]
        have : spB s[i] = true := by
          have e : s.getD i 0 = s[i] := by simp [List.getD, List.getElem?_eq_getElem (show i < s.length by omega)]
          rw [← e]; exact hsp
        simp [this]
      · repeat' ((conv => whnf); first | (with_reducible rfl) | exact True.intro | (with_reducible exact absTF) | (with_reducible exact absFT) | intro _ | refine And.intro ?_ ?_ | refine Fin.mk ?_ | refine CallG.plain rfl ?_ ?_ | refine CallG.mk rfl ?_ ?_ | refine CallG.nwl rfl ?_ ?_ | refine CallG.nw ?_ ?_ | refine CallF.nwl rfl ?_ ?_ | refine CallF.nw ?_ ?_ | refine AppN.mk ?_ | (refine CallS.q ?_; (conv => whnf); first | refine CallG.plain rfl ?_ ?_ | refine CallG.mk rfl ?_ ?_) | (refine CallS.m ?_; (conv => whnf); refine CallM.mk rfl ?_ ?_) | (refine CallS.h ?_; (conv => whnf); refine CallM.mk rfl ?_ ?_) | (refine CallS.b ?_; (conv => whnf); refine CallM.mk rfl ?_ ?_) | (refine CallS.z ?_; (conv => whnf); refine CallM.mk rfl ?_ ?_))
        all_goals (try (conv => whnf))
        all_goals (try (exact Ob.mk (u8_bnd _)))
        all_goals (try (refine Ob.mk ?_; first | exact True.intro | assumption | omega | (try simp only [decide_eq_true_eq, decide_eq_false_iff_not, beq_iff_eq, beq_eq_false_iff_ne, bne_iff_ne, bne_eq_false_iff_eq, ne_eq, Bool.and_eq_true, Bool.or_eq_true, Bool.not_eq_true, Bool.not_eq_false, Bool.not_eq_true', Bool.not_eq_false', Int.toNat_natCast, Int.not_lt, Int.not_le, UInt8.ofNat_toNat, cast_eq] at *; omega)))
        all_goals (try ((show (_:Int) = _); omega))
        all_goals (try (show tupSV _ = _; with_unfolding_all rfl))
        all_goals (try ((show (_ : Nat) ≤ _); (simp <;> omega)))
        all_goals (try ((show (_ : Nat) ≤ _ ∧ (_ : Nat) ≤ _); (simp <;> omega)))
        all_goals (try ((show (_ : Int) ≤ _ ∧ (_ : Int) ≤ _ ∧ (_ : Int) ≤ _ ∧ (_ : Int) ≤ _); (simp <;> omega)))
        all_goals rfl
    · have : i = s.length := by omega
      subst this
      rw [List.take_length] at hi
      exact hi.2.symm
instance aRTrim (s : List UInt8) : Fn BB 22 [.str s] True (.str (trimW s)) := by
  refine Fn.intro (N := 30) [0, 2, 10, 23] [] Tryd.call22 Tryd.func22 rfl rfl (by kernel_rfl) (fun hpre => ?_)
  repeat' ((conv => whnf); first | (with_reducible rfl) | exact True.intro | (with_reducible exact absTF) | (with_reducible exact absFT) | intro _ | refine And.intro ?_ ?_ | refine Fin.mk ?_ | refine CallG.plain rfl ?_ ?_ | refine CallG.mk rfl ?_ ?_ | refine CallG.nwl rfl ?_ ?_ | refine CallG.nw ?_ ?_ | refine CallF.nwl rfl ?_ ?_ | refine CallF.nw ?_ ?_ | refine AppN.mk ?_ | (refine CallS.q ?_; (conv => whnf); first | refine CallG.plain rfl ?_ ?_ | refine CallG.mk rfl ?_ ?_) | (refine CallS.m ?_; (conv => whnf); refine CallM.mk rfl ?_ ?_) | (refine CallS.h ?_; (conv => whnf); refine CallM.mk rfl ?_ ?_) | (refine CallS.b ?_; (conv => whnf); refine CallM.mk rfl ?_ ?_) | (refine CallS.z ?_; (conv => whnf); refine CallM.mk rfl ?_ ?_))
  all_goals (try (conv => whnf))
  all_goals (try (exact Ob.mk (u8_bnd _)))
  all_goals (try (refine Ob.mk ?_; first | exact True.intro | assumption | omega | (try simp only [decide_eq_true_eq, decide_eq_false_iff_not, beq_iff_eq, beq_eq_false_iff_ne, bne_iff_ne, bne_eq_false_iff_eq, ne_eq, Bool.and_eq_true, Bool.or_eq_true, Bool.not_eq_true, Bool.not_eq_false, Bool.not_eq_true', Bool.not_eq_false', Int.toNat_natCast, Int.not_lt, Int.not_le, UInt8.ofNat_toNat, cast_eq] at *; omega)))
  all_goals (try ((show (_:Int) = _); omega))
  all_goals (try (show tupSV _ = _; with_unfolding_all rfl))
  all_goals (try ((show (_ : Nat) ≤ _); (simp <;> omega)))
  all_goals (try ((show (_ : Nat) ≤ _ ∧ (_ : Nat) ≤ _); (simp <;> omega)))
  all_goals (try ((show (_ : Int) ≤ _ ∧ (_ : Int) ≤ _ ∧ (_ : Int) ≤ _ ∧ (_ : Int) ≤ _); (simp <;> omega)))
  refine LoopStop.mk (α := List UInt8) (fun a => [(0, .str a)]) (fun a => []) 20 (fun a => a.length ≤ s.length ∧ a.dropWhile spB = s.dropWhile spB) (fun a => a.length) s ⟨by omega, rfl⟩ ?_ (fun a ha => ?_)
  · repeat' ((conv => whnf); first | (with_reducible rfl) | exact True.intro | (with_reducible exact absTF) | (with_reducible exact absFT) | intro _ | refine And.intro ?_ ?_ | refine Fin.mk ?_ | refine CallG.plain rfl ?_ ?_ | refine CallG.mk rfl ?_ ?_ | refine CallG.nwl rfl ?_ ?_ | refine CallG.nw ?_ ?_ | refine CallF.nwl rfl ?_ ?_ | refine CallF.nw ?_ ?_ | refine AppN.mk ?_ | (refine CallS.q ?_; (conv => whnf); first | refine CallG.plain rfl ?_ ?_ | refine CallG.mk rfl ?_ ?_) | (refine CallS.m ?_; (conv => whnf); refine CallM.mk rfl ?_ ?_) | (refine CallS.h ?_; (conv => whnf); refine CallM.mk rfl ?_ ?_) | (refine CallS.b ?_; (conv => whnf); refine CallM.mk rfl ?_ ?_) | (refine CallS.z ?_; (conv => whnf); refine CallM.mk rfl ?_ ?_))
    all_goals (try (conv => whnf))
    all_goals (try (exact Ob.mk (u8_bnd _)))
    all_goals (try (refine Ob.mk ?_; first | exact True.intro | assumption | omega | (try simp only [decide_eq_true_eq, decide_eq_false_iff_not, beq_iff_eq, beq_eq_false_iff_ne, bne_iff_ne, bne_eq_false_iff_eq, ne_eq, Bool.and_eq_true, Bool.or_eq_true, Bool.not_eq_true, Bool.not_eq_false, Bool.not_eq_true', Bool.not_eq_false', Int.toNat_natCast, Int.not_lt, Int.not_le, UInt8.ofNat_toNat, cast_eq] at *; omega)))
    all_goals (try ((show (_:Int) = _); omega))
    all_goals (try (show tupSV _ = _; with_unfolding_all rfl))
    all_goals (try ((show (_ : Nat) ≤ _); (simp <;> omega)))
    all_goals (try ((show (_ : Nat) ≤ _ ∧ (_ : Nat) ≤ _); (simp <;> omega)))
    all_goals (try ((show (_ : Int) ≤ _ ∧ (_ : Int) ≤ _ ∧ (_ : Int) ≤ _ ∧ (_ : Int) ≤ _); (simp <;> omega)))
  · repeat' ((conv => whnf); first | (with_reducible rfl) | exact True.intro | (with_reducible exact absTF) | (with_reducible exact absFT) | intro _ | refine And.intro ?_ ?_ | refine Fin.mk ?_ | refine CallG.plain rfl ?_ ?_ | refine CallG.mk rfl ?_ ?_ | refine CallG.nwl rfl ?_ ?_ | refine CallG.nw ?_ ?_ | refine CallF.nwl rfl ?_ ?_ | refine CallF.nw ?_ ?_ | refine AppN.mk ?_ | (refine CallS.q ?_; (conv => whnf); first | refine CallG.plain rfl ?_ ?_ | refine CallG.mk rfl ?_ ?_) | (refine CallS.m ?_; (conv => whnf); refine CallM.mk rfl ?_ ?_) | (refine CallS.h ?_; (conv => whnf); refine CallM.mk rfl ?_ ?_) | (refine CallS.b ?_; (conv => whnf); refine CallM.mk rfl ?_ ?_) | (refine CallS.z ?_; (conv => whnf); refine CallM.mk rfl ?_ ?_))
    all_goals (try (conv => whnf))
    all_goals (try (exact Ob.mk (u8_bnd _)))
    all_goals (try (refine Ob.mk ?_; first | exact True.intro | assumption | omega | (try simp only [decide_eq_true_eq, decide_eq_false_iff_not, beq_iff_eq, beq_eq_false_iff_ne, bne_iff_ne, bne_eq_false_iff_eq, ne_eq, Bool.and_eq_true, Bool.or_eq_true, Bool.not_eq_true, Bool.not_eq_false, Bool.not_eq_true', Bool.not_eq_false', Int.toNat_natCast, Int.not_lt, Int.not_le, UInt8.ofNat_toNat, cast_eq] at *; omega)))
    all_goals (try ((show (_:Int) = _); omega))
    all_goals (try (show tupSV _ = _; with_unfolding_all rfl))
    all_goals (try ((show (_ : Nat) ≤ _); (simp <;> omega)))
    all_goals (try ((show (_ : Nat) ≤ _ ∧ (_ : Nat) ≤ _); (simp <;> omega)))
    all_goals (try ((show (_ : Int) ≤ _ ∧ (_ : Int) ≤ _ ∧ (_ : Int) ≤ _ ∧ (_ : Int) ≤ _); (simp <;> omega)))
    · rename_i h0 h
      have h' : decide ((a.length : Int) > 0) = true ∧ W.isSp ((a.getD 0 0).toNat : Int) = true := by simpa using h
      have hl : 0 < a.length := by have := of_decide_eq_true h'.1; omega
      refine Rnd.mk ⟨a.drop 1, ⟨by rw [List.length_drop]; omega, (dw_step hl h'.2).trans ha.2⟩, by rw [List.length_drop]; omega, ?_⟩
      repeat' ((conv => whnf); first | (with_reducible rfl) | exact True.intro | (with_reducible exact absTF) | (with_reducible exact absFT) | intro _ | refine And.intro ?_ ?_ | refine Fin.mk ?_ | refine CallG.plain rfl ?_ ?_ | refine CallG.mk rfl ?_ ?_ | refine CallG.nwl rfl ?_ ?_ | refine CallG.nw ?_ ?_ | refine CallF.nwl rfl ?_ ?_ | refine CallF.nw ?_ ?_ | refine AppN.mk ?_ | (refine CallS.q ?_; (conv => whnf); first | refine CallG.plain rfl ?_ ?_ | refine CallG.mk rfl ?_ ?_) | (refine CallS.m ?_; (conv => whnf); refine CallM.mk rfl ?_ ?_) | (refine CallS.h ?_; (conv => whnf); refine CallM.mk rfl ?_ ?_) | (refine CallS.b ?_; (conv => whnf); refine CallM.mk rfl ?_ ?_) | (refine CallS.z ?_; (conv => whnf); refine CallM.mk rfl ?_ ?_))
      all_goals (try (conv => whnf))
      all_goals (try (exact Ob.mk (u8_bnd _)))
      all_goals (try (refine Ob.mk ?_; first | exact True.intro | assumption | omega | (try simp only [decide_eq_true_eq, decide_eq_false_iff_not, beq_iff_eq, beq_eq_false_iff_ne, bne_iff_ne, bne_eq_false_iff_eq, ne_eq, Bool.and_eq_true, Bool.or_eq_true, Bool.not_eq_true, Bool.not_eq_false, Bool.not_eq_true', Bool.not_eq_false', Int.toNat_natCast, Int.not_lt, Int.not_le, UInt8.ofNat_toNat, cast_eq] at *; omega)))
      all_goals (try ((show (_:Int) = _); omega))
      all_goals (try (show tupSV _ = _; with_unfolding_all rfl))
      all_goals (try ((show (_ : Nat) ≤ _); (simp <;> omega)))
      all_goals (try ((show (_ : Nat) ≤ _ ∧ (_ : Nat) ≤ _); (simp <;> omega)))
      all_goals (try ((show (_ : Int) ≤ _ ∧ (_ : Int) ≤ _ ∧ (_ : Int) ≤ _ ∧ (_ : Int) ≤ _); (simp <;> omega)))
      all_goals rfl
    · rename_i h0 h
      have hA : a.dropWhile spB = a := dw_stop fun hl => by
        have hl' : decide ((a.length : Int) > 0) = true := decide_eq_true (by omega)
        rw [hl', Bool.true_and] at h
        exact h
      have hB : a = s.dropWhile spB := hA.symm.trans ha.2
      refine LoopStop.mk (α := List UInt8) (fun b => [(0, .str b)]) (fun b => []) 40 (fun b => b.length ≤ s.length ∧ dropR spB b = dropR spB a) (fun b => b.length) a ⟨by omega, rfl⟩ ?_ (fun b hb => ?_)
      · repeat' ((conv => whnf); first | (with_reducible rfl) | exact True.intro | (with_reducible exact absTF) | (with_reducible exact absFT) | intro _ | refine And.intro ?_ ?_ | refine Fin.mk ?_ | refine CallG.plain rfl ?_ ?_ | refine CallG.mk rfl ?_ ?_ | refine CallG.nwl rfl ?_ ?_ | refine CallG.nw ?_ ?_ | refine CallF.nwl rfl ?_ ?_ | refine CallF.nw ?_ ?_ | refine AppN.mk ?_ | (refine CallS.q ?_; (conv => whnf); first | refine CallG.plain rfl ?_ ?_ | refine CallG.mk rfl ?_ ?_) | (refine CallS.m ?_; (conv => whnf); refine CallM.mk rfl ?_ ?_) | (refine CallS.h ?_; (conv => whnf); refine CallM.mk rfl ?_ ?_) | (refine CallS.b ?_; (conv => whnf); refine CallM.mk rfl ?_ ?_) | (refine CallS.z ?_; (conv => whnf); refine CallM.mk rfl ?_ ?_))
        all_goals (try (conv => whnf))
        all_goals (try (exact Ob.mk (u8_bnd _)))
        all_goals (try (refine Ob.mk ?_; first | exact True.intro | assumption | omega | (try simp only [decide_eq_true_eq, decide_eq_false_iff_not, beq_iff_eq, beq_eq_false_iff_ne, bne_iff_ne, bne_eq_false_iff_eq, ne_eq, Bool.and_eq_true, Bool.or_eq_true, Bool.not_eq_true, Bool.not_eq_false, Bool.not_eq_true', Bool.not_eq_false', Int.toNat_natCast, Int.not_lt, Int.not_le, UInt8.ofNat_toNat, cast_eq] at *; omega)))
        all_goals (try ((show (_:Int) = _); omega))
        all_goals (try (show tupSV _ = _; with_unfolding_all rfl))
        all_goals (try ((show (_ : Nat) ≤ _); (simp <;> omega)))
        all_goals (try ((show (_ : Nat) ≤ _ ∧ (_ : Nat) ≤ _); (simp <;> omega)))
        all_goals (try ((show (_ : Int) ≤ _ ∧ (_ : Int) ≤ _ ∧ (_ : Int) ≤ _ ∧ (_ : Int) ≤ _); (simp <;> omega)))
      · have e1 : ((b.length : Int) - 1).toNat = b.length - 1 := by omega
        repeat' ((conv => whnf); first | (with_reducible rfl) | exact True.intro | (with_reducible exact absTF) | (with_reducible exact absFT) | intro _ | refine And.intro ?_ ?_ | refine Fin.mk ?_ | refine CallG.plain rfl ?_ ?_ | refine CallG.mk rfl ?_ ?_ | refine CallG.nwl rfl ?_ ?_ | refine CallG.nw ?_ ?_ | refine CallF.nwl rfl ?_ ?_ | refine CallF.nw ?_ ?_ | refine AppN.mk ?_ | (refine CallS.q ?_; (conv => whnf); first | refine CallG.plain rfl ?_ ?_ | refine CallG.mk rfl ?_ ?_) | (refine CallS.m ?_; (conv => whnf); refine CallM.mk rfl ?_ ?_) | (refine CallS.h ?_; (conv => whnf); refine CallM.mk rfl ?_ ?_) | (refine CallS.b ?_; (conv => whnf); refine CallM.mk rfl ?_ ?_) | (refine CallS.z ?_; (conv => whnf); refine CallM.mk rfl ?_ ?_))
        all_goals (try (conv => whnf))
        all_goals (try (exact Ob.mk (u8_bnd _)))
        all_goals (try (refine Ob.mk ?_; first | exact True.intro | assumption | omega | (try simp only [decide_eq_true_eq, decide_eq_false_iff_not, beq_iff_eq, beq_eq_false_iff_ne, bne_iff_ne, bne_eq_false_iff_eq, ne_eq, Bool.and_eq_true, Bool.or_eq_true, Bool.not_eq_true, Bool.not_eq_false, Bool.not_eq_true', Bool.not_eq_false', Int.toNat_natCast, Int.not_lt, Int.not_le, UInt8.ofNat_toNat, cast_eq] at *; omega)))
        all_goals (try ((show (_:Int) = _); omega))
        all_goals (try (show tupSV _ = _; with_unfolding_all rfl))
        all_goals (try ((show (_ : Nat) ≤ _); (simp <;> omega)))
        all_goals (try ((show (_ : Nat) ≤ _ ∧ (_ : Nat) ≤ _); (simp <;> omega)))
        all_goals (try ((show (_ : Int) ≤ _ ∧ (_ : Int) ≤ _ ∧ (_ : Int) ≤ _ ∧ (_ : Int) ≤ _); (simp <;> omega)))
        all_goals (try omega)
        · rename_i h1 h2 h3
          rw [e1] at h2
          have h' : decide ((b.length : Int) > 0) = true ∧ W.isSp ((b.getD (b.length - 1) 0).toNat : Int) = true := by simpa only [Bool.and_eq_true] using h2
          have hl : 0 < b.length := by have := of_decide_eq_true h'.1; omega
          refine Rnd.mk ⟨b.take (b.length - 1), ⟨by rw [List.length_take]; omega, (dr_step hl h'.2).trans hb.2⟩, by rw [List.length_take]; omega, ?_⟩
          repeat' ((conv => whnf); first | (with_reducible rfl) | exact True.intro | (with_reducible exact absTF) | (with_reducible exact absFT) | intro _ | refine And.intro ?_ ?_ | refine Fin.mk ?_ | refine CallG.plain rfl ?_ ?_ | refine CallG.mk rfl ?_ ?_ | refine CallG.nwl rfl ?_ ?_ | refine CallG.nw ?_ ?_ | refine CallF.nwl rfl ?_ ?_ | refine CallF.nw ?_ ?_ | refine AppN.mk ?_ | (refine CallS.q ?_; (conv => whnf); first | refine CallG.plain rfl ?_ ?_ | refine CallG.mk rfl ?_ ?_) | (refine CallS.m ?_; (conv => whnf); refine CallM.mk rfl ?_ ?_) | (refine CallS.h ?_; (conv => whnf); refine CallM.mk rfl ?_ ?_) | (refine CallS.b ?_; (conv => whnf); refine CallM.mk rfl ?_ ?_) | (refine CallS.z ?_; (conv => whnf); refine CallM.mk rfl ?_ ?_))
          all_goals (try (conv => whnf))
          all_goals (try (exact Ob.mk (u8_bnd _)))
          all_goals (try (refine Ob.mk ?_; first | exact True.intro | assumption | omega | (try simp only [decide_eq_true_eq, decide_eq_false_iff_not, beq_iff_eq, beq_eq_false_iff_ne, bne_iff_ne, bne_eq_false_iff_eq, ne_eq, Bool.and_eq_true, Bool.or_eq_true, Bool.not_eq_true, Bool.not_eq_false, Bool.not_eq_true', Bool.not_eq_false', Int.toNat_natCast, Int.not_lt, Int.not_le, UInt8.ofNat_toNat, cast_eq] at *; omega)))
          all_goals (try ((show (_:Int) = _); omega))
          all_goals (try (show tupSV _ = _; with_unfolding_all rfl))
          all_goals (try ((show (_ : Nat) ≤ _); (simp <;> omega)))
          all_goals (try ((show (_ : Nat) ≤ _ ∧ (_ : Nat) ≤ _); (simp <;> omega)))
          all_goals (try ((show (_ : Int) ≤ _ ∧ (_ : Int) ≤ _ ∧ (_ : Int) ≤ _ ∧ (_ : Int) ≤ _); (simp <;> omega)))
          all_goals (rw [e1])
        · rename_i h1 h2
          rw [e1] at h2
          have hC : dropR spB b = b := dr_stop fun hl => by
            have hl' : decide ((b.length : Int) > 0) = true := decide_eq_true (by omega)
            rw [hl', Bool.true_and] at h2
            exact h2
          unfold trimW
          rw [← dropR_dropWhile, ← hB, ← hb.2, hC]
end Go.Vc

/-! Law 09, in plain Lean: the place of a text in another one. -/
namespace Go.Vc
set_option autoImplicit false
def fnd : List UInt8 → List UInt8 → Nat
  | [], _ => 0
  | c :: l, p => if p.isPrefixOf (c :: l) then 0 else fnd l p + 1
/-- it is there at i -/
def occ (l p : List UInt8) (i : Nat) : Prop := i + p.length ≤ l.length ∧ ∀ j < p.length, l.getD (i + j) 0 = p.getD j 0
theorem pre_iff (p l : List UInt8) : p.isPrefixOf l = true ↔ occ l p 0 := by
  induction p generalizing l with
  | nil => simp [occ]
  | cons a r ih =>
    cases l with
    | nil => simp [occ]
    | cons c t =>
      rw [List.isPrefixOf_cons_cons, Bool.and_eq_true, ih t, beq_iff_eq]
      constructor
      · rintro ⟨h1, h2, h3⟩
        refine ⟨by simp only [List.length_cons]; omega, fun j hj => ?_⟩
        cases j with
        | zero => simp [h1]
        | succ j =>
          have := h3 j (by simpa using hj)
          simpa using this
      · rintro ⟨h2, h3⟩
        simp only [List.length_cons] at h2
        refine ⟨?_, by omega, fun j hj => ?_⟩
        · have := h3 0 (by simp); simpa using this.symm
        · have := h3 (j + 1) (by simp; omega)
          simpa using this
theorem occ_succ (c : UInt8) (l p : List UInt8) (i : Nat) : occ (c :: l) p (i + 1) ↔ occ l p i := by
  unfold occ
  have e : ∀ j, (c :: l).getD (i + 1 + j) 0 = l.getD (i + j) 0 := fun j => by
    rw [show i + 1 + j = (i + j) + 1 by omega]; simp
  simp only [e, List.length_cons]
  constructor <;> (rintro ⟨h1, h2⟩; exact ⟨by omega, h2⟩)
theorem fnd_le (l p : List UInt8) : fnd l p ≤ l.length := by
  induction l with
  | nil => simp [fnd]
  | cons c l ih => unfold fnd; split <;> simp <;> omega
theorem fnd_least (l p : List UInt8) (i : Nat) (h : i < fnd l p) : ¬ occ l p i := by
  induction l generalizing i with
  | nil => simp [fnd] at h
  | cons c l ih =>
    unfold fnd at h
    split at h
    · omega
    · rename_i hp
      cases i with
      | zero => rw [← pre_iff]; exact hp
      | succ i => rw [occ_succ]; exact ih i (by omega)
theorem fnd_occ (l p : List UInt8) (h : fnd l p < l.length) : occ l p (fnd l p) := by
  induction l with
  | nil => simp [fnd] at h
  | cons c l ih =>
    unfold fnd at h ⊢
    split at h
    · rename_i hp; rw [if_pos hp]; exact (pre_iff _ _).1 hp
    · rename_i hp
      rw [if_neg hp, occ_succ]
      exact ih (by simp at h; omega)
theorem fnd_of_occ (l p : List UInt8) (i : Nat) (h : occ l p i) : fnd l p ≤ i := by
  rcases Nat.lt_or_ge i (fnd l p) with q | q
  · exact absurd h (fnd_least l p i q)
  · exact q
theorem fnd_eq (l p : List UInt8) (i : Nat) (h : occ l p i) (hm : ∀ j < i, ¬ occ l p j) : fnd l p = i := by
  have h1 := fnd_of_occ l p i h
  rcases Nat.lt_or_ge (fnd l p) i with q | q
  · have hp := h.1
    rcases Nat.lt_or_ge (fnd l p) l.length with r | r
    · exact absurd (fnd_occ l p r) (hm _ q)
    · omega
  · omega
theorem fnd_none (l p : List UInt8) (h : ∀ j, ¬ occ l p j) : fnd l p = l.length := by
  have := fnd_le l p
  rcases Nat.lt_or_ge (fnd l p) l.length with q | q
  · exact absurd (fnd_occ l p q) (h _)
  · omega
/-- found, or not -/
theorem fnd_cases (l p : List UInt8) (hp : p ≠ []) : (occ l p (fnd l p) ∧ fnd l p + p.length ≤ l.length) ∨ (fnd l p = l.length ∧ ∀ j, ¬ occ l p j) := by
  have := fnd_le l p
  have hpos : 0 < p.length := List.length_pos_iff.mpr hp
  rcases Nat.lt_or_ge (fnd l p) l.length with q | q
  · have := fnd_occ l p q
    exact .inl ⟨this, this.1⟩
  · refine .inr ⟨by omega, fun j hj => ?_⟩
    have h1 := hj.1
    exact fnd_least l p j (by omega) hj
theorem index_fnd (l p : List UInt8) (hp : p ≠ []) : Lib.index l p = if fnd l p + p.length ≤ l.length then (fnd l p : Int) else -1 := by
  induction l with
  | nil =>
    have : p.isEmpty = false := by simpa using hp
    have hpos : 0 < p.length := List.length_pos_iff.mpr hp
    unfold Lib.index fnd
    rw [this, if_neg (by simp), if_neg (by simp; omega)]
  | cons c l ih =>
    unfold Lib.index fnd
    by_cases h : p.isPrefixOf (c :: l) = true
    · have := ((pre_iff _ _).1 h).1
      rw [if_pos h, if_pos h, if_pos (by omega)]; rfl
    · rw [if_neg h, if_neg h, ih]
      by_cases q : fnd l p + p.length ≤ l.length
      · have e : ((fnd l p : Int) == -1) = false := beq_eq_false_iff_ne.2 (by omega)
        have q' : fnd l p + 1 + p.length ≤ (c :: l).length := by simp; omega
        simp only [if_pos q, if_pos q', e]
        simp
      · have q' : ¬ fnd l p + 1 + p.length ≤ (c :: l).length := by simp; omega
        simp only [if_neg q, if_neg q']
        rfl
theorem fnd_step (c : UInt8) (l p : List UInt8) (h : ¬ (p.isPrefixOf (c :: l) = true)) : fnd (c :: l) p = fnd l p + 1 := by
  rw [fnd, if_neg h]
/-- how far it goes, with what was found -/
def uN (l p : List UInt8) : Nat := if fnd l p + p.length ≤ l.length then fnd l p + p.length else l.length
theorem uN_le (l p : List UInt8) : uN l p ≤ l.length := by unfold uN; split <;> omega
/-- what stands in the first n bytes -/
theorem occ_take {l t p : List UInt8} {n i : Nat} (hn : n ≤ l.length) (ht : t = l.take n) (more : List UInt8) (h : i + p.length ≤ n) : occ (t ++ more) p i ↔ occ l p i := by
  subst ht
  have hl : (l.take n).length = n := by simp; omega
  unfold occ
  have e : ∀ j < p.length, (l.take n ++ more).getD (i + j) 0 = l.getD (i + j) 0 := fun j hj => by
    simp only [List.getD]
    rw [List.getElem?_append_left (by omega), List.getElem?_take_of_lt (by omega)]
  constructor
  · rintro ⟨h1, h2⟩
    exact ⟨by omega, fun j hj => by rw [← e j hj]; exact h2 j hj⟩
  · rintro ⟨h1, h2⟩
    exact ⟨by simp only [List.length_append]; omega, fun j hj => by rw [e j hj]; exact h2 j hj⟩
theorem fnd_take (l p : List UInt8) (n : Nat) (hn : n ≤ l.length) (more : List UInt8) (hp : p ≠ []) (h : fnd l p + p.length ≤ n) : fnd (l.take n ++ more) p = fnd l p := by
  have hpos : 0 < p.length := List.length_pos_iff.mpr hp
  refine fnd_eq _ _ _ ((occ_take hn rfl more h).2 (fnd_occ l p (by omega))) fun j hj => ?_
  rw [occ_take hn rfl more (by omega)]
  exact fnd_least l p j hj
/-- not found: what comes behind can only be found later -/
theorem fnd_more (l p more : List UInt8) (h : ¬ fnd l p + p.length ≤ l.length) (hp : p ≠ []) : l.length < fnd (l ++ more) p + p.length := by
  have hpos : 0 < p.length := List.length_pos_iff.mpr hp
  rcases Nat.lt_or_ge l.length (fnd (l ++ more) p + p.length) with q | q
  · exact q
  · exfalso
    have h1 : fnd (l ++ more) p < (l ++ more).length := by simp; omega
    have h2 := fnd_occ _ _ h1
    have h3 : occ l p (fnd (l ++ more) p) := by
      have := (occ_take (l := l) (t := l) (p := p) (n := l.length) (i := fnd (l ++ more) p) (Nat.le_refl _) (by rw [List.take_length]) more q).1 h2
      exact this
    have h4 := fnd_of_occ l p _ h3
    omega
/-- a found place, and all before -/
theorem fnd_drop (l p : List UInt8) (k : Nat) (hk : k ≤ l.length) (h : ∀ j < k, ¬ occ l p j) : fnd l p = k + fnd (l.drop k) p := by
  induction k generalizing l with
  | zero => simp
  | succ k ih =>
    match l, hk with
    | c :: l, hk =>
      have h0 : ¬ (p.isPrefixOf (c :: l) = true) := by rw [pre_iff]; exact h 0 (by omega)
      have := ih l (by simpa using hk) fun j hj => by rw [← occ_succ c]; exact h (j + 1) (by omega)
      rw [fnd_step c l p h0, List.drop_succ_cons, this]
      omega
end Go.Vc

namespace Go.Vc
open Go.Proofs
set_option linter.unusedVariables false
set_option maxRecDepth 10000
set_option linter.unusedSimpArgs false
set_option maxHeartbeats 2000000
/-- a text begins, or ends, with another one -/
def begP (s p : List UInt8) : Bool := decide ((s.length : Int) ≥ (p.length : Int)) && s.take p.length == p
def endP (s p : List UInt8) : Bool := decide ((s.length : Int) ≥ (p.length : Int)) && s.drop (s.length - p.length) == p
instance rHPl (s p : List UInt8) : Fn BB 39 [.str s, .str p] True (.bool (begP s p)) := by
  refine Fn.intro (N := 18) [0, 1, 4] [] Tryd.call39 Tryd.func39 rfl rfl (by kernel_rfl) (fun hpre => ?_)
  repeat' ((conv => whnf); first | (with_reducible rfl) | exact True.intro | (with_reducible exact absTF) | (with_reducible exact absFT) | intro _ | refine And.intro ?_ ?_ | refine Fin.mk ?_ | refine CallG.plain rfl ?_ ?_ | refine CallG.mk rfl ?_ ?_ | refine CallG.nwl rfl ?_ ?_ | refine CallG.nw ?_ ?_ | refine CallF.nwl rfl ?_ ?_ | refine CallF.nw ?_ ?_ | refine AppN.mk ?_ | (refine CallS.q ?_; (conv => whnf); first | refine CallG.plain rfl ?_ ?_ | refine CallG.mk rfl ?_ ?_) | (refine CallS.m ?_; (conv => whnf); refine CallM.mk rfl ?_ ?_) | (refine CallS.h ?_; (conv => whnf); refine CallM.mk rfl ?_ ?_) | (refine CallS.b ?_; (conv => whnf); refine CallM.mk rfl ?_ ?_) | (refine CallS.z ?_; (conv => whnf); refine CallM.mk rfl ?_ ?_))
  all_goals (try (conv => whnf))
  all_goals (try (exact Ob.mk (u8_bnd _)))
  all_goals (try (refine Ob.mk ?_; first | exact True.intro | assumption | omega | (try simp only [decide_eq_true_eq, decide_eq_false_iff_not, beq_iff_eq, beq_eq_false_iff_ne, bne_iff_ne, bne_eq_false_iff_eq, ne_eq, Bool.and_eq_true, Bool.or_eq_true, Bool.not_eq_true, Bool.not_eq_false, Bool.not_eq_true', Bool.not_eq_false', Int.toNat_natCast, Int.not_lt, Int.not_le, UInt8.ofNat_toNat, cast_eq] at *; omega)))
  all_goals (try ((show (_:Int) = _); omega))
  all_goals (try (show tupSV _ = _; with_unfolding_all rfl))
  all_goals (try ((show (_ : Nat) ≤ _); (simp <;> omega)))
  all_goals (try ((show (_ : Nat) ≤ _ ∧ (_ : Nat) ≤ _); (simp <;> omega)))
  all_goals (try ((show (_ : Int) ≤ _ ∧ (_ : Int) ≤ _ ∧ (_ : Int) ≤ _ ∧ (_ : Int) ≤ _); (simp <;> omega)))
  all_goals (try simp only [decide_eq_true_eq, decide_eq_false_iff_not, beq_iff_eq, beq_eq_false_iff_ne, bne_iff_ne, bne_eq_false_iff_eq, ne_eq, Bool.and_eq_true, Bool.or_eq_true, Bool.not_eq_true, Bool.not_eq_false, Bool.not_eq_true', Bool.not_eq_false', Int.toNat_natCast, Int.not_lt, Int.not_le, UInt8.ofNat_toNat, cast_eq] at *)
  all_goals rfl
instance rHP (s p : List UInt8) : Fn BB 27 [.str s, .str p] True (.bool (begP s p)) := by
  refine Fn.intro (N := 8) [0, 1, 4] [] Tryd.call27 Tryd.func27 rfl rfl (by kernel_rfl) (fun hpre => ?_)
  repeat' ((conv => whnf); first | (with_reducible rfl) | exact True.intro | (with_reducible exact absTF) | (with_reducible exact absFT) | intro _ | refine And.intro ?_ ?_ | refine Fin.mk ?_ | refine CallG.plain rfl ?_ ?_ | refine CallG.mk rfl ?_ ?_ | refine CallG.nwl rfl ?_ ?_ | refine CallG.nw ?_ ?_ | refine CallF.nwl rfl ?_ ?_ | refine CallF.nw ?_ ?_ | refine AppN.mk ?_ | (refine CallS.q ?_; (conv => whnf); first | refine CallG.plain rfl ?_ ?_ | refine CallG.mk rfl ?_ ?_) | (refine CallS.m ?_; (conv => whnf); refine CallM.mk rfl ?_ ?_) | (refine CallS.h ?_; (conv => whnf); refine CallM.mk rfl ?_ ?_) | (refine CallS.b ?_; (conv => whnf); refine CallM.mk rfl ?_ ?_) | (refine CallS.z ?_; (conv => whnf); refine CallM.mk rfl ?_ ?_))
  all_goals (try (conv => whnf))
  all_goals (try (exact Ob.mk (u8_bnd _)))
  all_goals (try (refine Ob.mk ?_; first | exact True.intro | assumption | omega | (try simp only [decide_eq_true_eq, decide_eq_false_iff_not, beq_iff_eq, beq_eq_false_iff_ne, bne_iff_ne, bne_eq_false_iff_eq, ne_eq, Bool.and_eq_true, Bool.or_eq_true, Bool.not_eq_true, Bool.not_eq_false, Bool.not_eq_true', Bool.not_eq_false', Int.toNat_natCast, Int.not_lt, Int.not_le, UInt8.ofNat_toNat, cast_eq] at *; omega)))
  all_goals (try ((show (_:Int) = _); omega))
  all_goals (try (show tupSV _ = _; with_unfolding_all rfl))
  all_goals (try ((show (_ : Nat) ≤ _); (simp <;> omega)))
  all_goals (try ((show (_ : Nat) ≤ _ ∧ (_ : Nat) ≤ _); (simp <;> omega)))
  all_goals (try ((show (_ : Int) ≤ _ ∧ (_ : Int) ≤ _ ∧ (_ : Int) ≤ _ ∧ (_ : Int) ≤ _); (simp <;> omega)))
instance rHSl (s p : List UInt8) : Fn BB 76 [.str s, .str p] True (.bool (endP s p)) := by
  refine Fn.intro (N := 21) [0, 1, 4] [] Tryd.call76 Tryd.func76 rfl rfl (by kernel_rfl) (fun hpre => ?_)
  repeat' ((conv => whnf); first | (with_reducible rfl) | exact True.intro | (with_reducible exact absTF) | (with_reducible exact absFT) | intro _ | refine And.intro ?_ ?_ | refine Fin.mk ?_ | refine CallG.plain rfl ?_ ?_ | refine CallG.mk rfl ?_ ?_ | refine CallG.nwl rfl ?_ ?_ | refine CallG.nw ?_ ?_ | refine CallF.nwl rfl ?_ ?_ | refine CallF.nw ?_ ?_ | refine AppN.mk ?_ | (refine CallS.q ?_; (conv => whnf); first | refine CallG.plain rfl ?_ ?_ | refine CallG.mk rfl ?_ ?_) | (refine CallS.m ?_; (conv => whnf); refine CallM.mk rfl ?_ ?_) | (refine CallS.h ?_; (conv => whnf); refine CallM.mk rfl ?_ ?_) | (refine CallS.b ?_; (conv => whnf); refine CallM.mk rfl ?_ ?_) | (refine CallS.z ?_; (conv => whnf); refine CallM.mk rfl ?_ ?_))
  all_goals (try (conv => whnf))
  all_goals (try (exact Ob.mk (u8_bnd _)))
  all_goals (try (refine Ob.mk ?_; first | exact True.intro | assumption | omega | (try simp only [decide_eq_true_eq, decide_eq_false_iff_not, beq_iff_eq, beq_eq_false_iff_ne, bne_iff_ne, bne_eq_false_iff_eq, ne_eq, Bool.and_eq_true, Bool.or_eq_true, Bool.not_eq_true, Bool.not_eq_false, Bool.not_eq_true', Bool.not_eq_false', Int.toNat_natCast, Int.not_lt, Int.not_le, UInt8.ofNat_toNat, cast_eq] at *; omega)))
  all_goals (try ((show (_:Int) = _); omega))
  all_goals (try (show tupSV _ = _; with_unfolding_all rfl))
  all_goals (try ((show (_ : Nat) ≤ _); (simp <;> omega)))
  all_goals (try ((show (_ : Nat) ≤ _ ∧ (_ : Nat) ≤ _); (simp <;> omega)))
  all_goals (try ((show (_ : Int) ≤ _ ∧ (_ : Int) ≤ _ ∧ (_ : Int) ≤ _ ∧ (_ : Int) ≤ _); (simp <;> omega)))
  have e : ((s.length : Int) - (p.length : Int)).toNat = s.length - p.length := by omega
  rw [e]; rfl
instance rHS (s p : List UInt8) : Fn BB 71 [.str s, .str p] True (.bool (endP s p)) := by
  refine Fn.intro (N := 8) [0, 1, 4] [] Tryd.call71 Tryd.func71 rfl rfl (by kernel_rfl) (fun hpre => ?_)
  repeat' ((conv => whnf); first | (with_reducible rfl) | exact True.intro | (with_reducible exact absTF) | (with_reducible exact absFT) | intro _ | refine And.intro ?_ ?_ | refine Fin.mk ?_ | refine CallG.plain rfl ?_ ?_ | refine CallG.mk rfl ?_ ?_ | refine CallG.nwl rfl ?_ ?_ | refine CallG.nw ?_ ?_ | refine CallF.nwl rfl ?_ ?_ | refine CallF.nw ?_ ?_ | refine AppN.mk ?_ | (refine CallS.q ?_; (conv => whnf); first | refine CallG.plain rfl ?_ ?_ | refine CallG.mk rfl ?_ ?_) | (refine CallS.m ?_; (conv => whnf); refine CallM.mk rfl ?_ ?_) | (refine CallS.h ?_; (conv => whnf); refine CallM.mk rfl ?_ ?_) | (refine CallS.b ?_; (conv => whnf); refine CallM.mk rfl ?_ ?_) | (refine CallS.z ?_; (conv => whnf); refine CallM.mk rfl ?_ ?_))
  all_goals (try (conv => whnf))
  all_goals (try (exact Ob.mk (u8_bnd _)))
  all_goals (try (refine Ob.mk ?_; first | exact True.intro | assumption | omega | (try simp only [decide_eq_true_eq, decide_eq_false_iff_not, beq_iff_eq, beq_eq_false_iff_ne, bne_iff_ne, bne_eq_false_iff_eq, ne_eq, Bool.and_eq_true, Bool.or_eq_true, Bool.not_eq_true, Bool.not_eq_false, Bool.not_eq_true', Bool.not_eq_false', Int.toNat_natCast, Int.not_lt, Int.not_le, UInt8.ofNat_toNat, cast_eq] at *; omega)))
  all_goals (try ((show (_:Int) = _); omega))
  all_goals (try (show tupSV _ = _; with_unfolding_all rfl))
  all_goals (try ((show (_ : Nat) ≤ _); (simp <;> omega)))
  all_goals (try ((show (_ : Nat) ≤ _ ∧ (_ : Nat) ≤ _); (simp <;> omega)))
  all_goals (try ((show (_ : Int) ≤ _ ∧ (_ : Int) ≤ _ ∧ (_ : Int) ≤ _ ∧ (_ : Int) ≤ _); (simp <;> omega)))
instance rCPl (s p : List UInt8) : Fn BB 61 [.str s, .str p] True (.tup [.str (if begP s p = true then s.drop p.length else s), .bool (begP s p)]) := by
  refine Fn.intro (N := 15) [0, 1, 4, 5, 9] [] Tryd.call61 Tryd.func61 rfl rfl (by kernel_rfl) (fun hpre => ?_)
  cases hb : begP s p
  · repeat' ((conv => whnf); first | (with_reducible rfl) | exact True.intro | (with_reducible exact absTF) | (with_reducible exact absFT) | intro _ | refine And.intro ?_ ?_ | refine Fin.mk ?_ | refine CallG.plain rfl ?_ ?_ | refine CallG.mk rfl ?_ ?_ | refine CallG.nwl rfl ?_ ?_ | refine CallG.nw ?_ ?_ | refine CallF.nwl rfl ?_ ?_ | refine CallF.nw ?_ ?_ | refine AppN.mk ?_ | (refine CallS.q ?_; (conv => whnf); first | refine CallG.plain rfl ?_ ?_ | refine CallG.mk rfl ?_ ?_) | (refine CallS.m ?_; (conv => whnf); refine CallM.mk rfl ?_ ?_) | (refine CallS.h ?_; (conv => whnf); refine CallM.mk rfl ?_ ?_) | (refine CallS.b ?_; (conv => whnf); refine CallM.mk rfl ?_ ?_) | (refine CallS.z ?_; (conv => whnf); refine CallM.mk rfl ?_ ?_))
    all_goals (try (conv => whnf))
    all_goals (try (exact Ob.mk (u8_bnd _)))
    all_goals (try (refine Ob.mk ?_; first | exact True.intro | assumption | omega | (try simp only [decide_eq_true_eq, decide_eq_false_iff_not, beq_iff_eq, beq_eq_false_iff_ne, bne_iff_ne, bne_eq_false_iff_eq, ne_eq, Bool.and_eq_true, Bool.or_eq_true, Bool.not_eq_true, Bool.not_eq_false, Bool.not_eq_true', Bool.not_eq_false', Int.toNat_natCast, Int.not_lt, Int.not_le, UInt8.ofNat_toNat, cast_eq] at *; omega)))
    all_goals (try ((show (_:Int) = _); omega))
    all_goals (try (show tupSV _ = _; with_unfolding_all rfl))
    all_goals (try ((show (_ : Nat) ≤ _); (simp <;> omega)))
    all_goals (try ((show (_ : Nat) ≤ _ ∧ (_ : Nat) ≤ _); (simp <;> omega)))
    all_goals (try ((show (_ : Int) ≤ _ ∧ (_ : Int) ≤ _ ∧ (_ : Int) ≤ _ ∧ (_ : Int) ≤ _); (simp <;> omega)))
    all_goals (first | rfl | (exfalso; have h : (!begP s p) = false := ‹_›; rw [hb] at h; cases h) | (rw [hb]; done) | trace_state)
  · have hl : p.length ≤ s.length := by
      unfold begP at hb
      rw [Bool.and_eq_true] at hb
      have := of_decide_eq_true hb.1; omega
    repeat' ((conv => whnf); first | (with_reducible rfl) | exact True.intro | (with_reducible exact absTF) | (with_reducible exact absFT) | intro _ | refine And.intro ?_ ?_ | refine Fin.mk ?_ | refine CallG.plain rfl ?_ ?_ | refine CallG.mk rfl ?_ ?_ | refine CallG.nwl rfl ?_ ?_ | refine CallG.nw ?_ ?_ | refine CallF.nwl rfl ?_ ?_ | refine CallF.nw ?_ ?_ | refine AppN.mk ?_ | (refine CallS.q ?_; (conv => whnf); first | refine CallG.plain rfl ?_ ?_ | refine CallG.mk rfl ?_ ?_) | (refine CallS.m ?_; (conv => whnf); refine CallM.mk rfl ?_ ?_) | (refine CallS.h ?_; (conv => whnf); refine CallM.mk rfl ?_ ?_) | (refine CallS.b ?_; (conv => whnf); refine CallM.mk rfl ?_ ?_) | (refine CallS.z ?_; (conv => whnf); refine CallM.mk rfl ?_ ?_))
    all_goals (try (conv => whnf))
    all_goals (try (exact Ob.mk (u8_bnd _)))
    all_goals (try (refine Ob.mk ?_; first | exact True.intro | assumption | omega | (try simp only [decide_eq_true_eq, decide_eq_false_iff_not, beq_iff_eq, beq_eq_false_iff_ne, bne_iff_ne, bne_eq_false_iff_eq, ne_eq, Bool.and_eq_true, Bool.or_eq_true, Bool.not_eq_true, Bool.not_eq_false, Bool.not_eq_true', Bool.not_eq_false', Int.toNat_natCast, Int.not_lt, Int.not_le, UInt8.ofNat_toNat, cast_eq] at *; omega)))
    all_goals (try ((show (_:Int) = _); omega))
    all_goals (try (show tupSV _ = _; with_unfolding_all rfl))
    all_goals (try ((show (_ : Nat) ≤ _); (simp <;> omega)))
    all_goals (try ((show (_ : Nat) ≤ _ ∧ (_ : Nat) ≤ _); (simp <;> omega)))
    all_goals (try ((show (_ : Int) ≤ _ ∧ (_ : Int) ≤ _ ∧ (_ : Int) ≤ _ ∧ (_ : Int) ≤ _); (simp <;> omega)))
    all_goals (first | (exfalso; have h : (!begP s p) = true := ‹_›; rw [hb] at h; cases h; done) | (rw [hb]; done) | omega | (simp; done) | trace_state)
instance rCP (s p : List UInt8) : Fn BB 49 [.str s, .str p] True (.tup [.str (if begP s p = true then s.drop p.length else s), .bool (begP s p)]) := by
  refine Fn.intro (N := 11) [0, 1, 4, 5] [] Tryd.call49 Tryd.func49 rfl rfl (by kernel_rfl) (fun hpre => ?_)
  repeat' ((conv => whnf); first | (with_reducible rfl) | exact True.intro | (with_reducible exact absTF) | (with_reducible exact absFT) | intro _ | refine And.intro ?_ ?_ | refine Fin.mk ?_ | refine CallG.plain rfl ?_ ?_ | refine CallG.mk rfl ?_ ?_ | refine CallG.nwl rfl ?_ ?_ | refine CallG.nw ?_ ?_ | refine CallF.nwl rfl ?_ ?_ | refine CallF.nw ?_ ?_ | refine AppN.mk ?_ | (refine CallS.q ?_; (conv => whnf); first | refine CallG.plain rfl ?_ ?_ | refine CallG.mk rfl ?_ ?_) | (refine CallS.m ?_; (conv => whnf); refine CallM.mk rfl ?_ ?_) | (refine CallS.h ?_; (conv => whnf); refine CallM.mk rfl ?_ ?_) | (refine CallS.b ?_; (conv => whnf); refine CallM.mk rfl ?_ ?_) | (refine CallS.z ?_; (conv => whnf); refine CallM.mk rfl ?_ ?_))
  all_goals (try (conv => whnf))
  all_goals (try (exact Ob.mk (u8_bnd _)))
  all_goals (try (refine Ob.mk ?_; first | exact True.intro | assumption | omega | (try simp only [decide_eq_true_eq, decide_eq_false_iff_not, beq_iff_eq, beq_eq_false_iff_ne, bne_iff_ne, bne_eq_false_iff_eq, ne_eq, Bool.and_eq_true, Bool.or_eq_true, Bool.not_eq_true, Bool.not_eq_false, Bool.not_eq_true', Bool.not_eq_false', Int.toNat_natCast, Int.not_lt, Int.not_le, UInt8.ofNat_toNat, cast_eq] at *; omega)))
  all_goals (try ((show (_:Int) = _); omega))
  all_goals (try (show tupSV _ = _; with_unfolding_all rfl))
  all_goals (try ((show (_ : Nat) ≤ _); (simp <;> omega)))
  all_goals (try ((show (_ : Nat) ≤ _ ∧ (_ : Nat) ≤ _); (simp <;> omega)))
  all_goals (try ((show (_ : Int) ≤ _ ∧ (_ : Int) ≤ _ ∧ (_ : Int) ≤ _ ∧ (_ : Int) ≤ _); (simp <;> omega)))
  all_goals trace_state
end Go.Vc

namespace Go.Vc
open Go.Proofs
set_option linter.unusedVariables false
set_option maxRecDepth 10000
set_option linter.unusedSimpArgs false
set_option maxHeartbeats 2000000
abbrev Rk := Int × List UInt8 × List UInt8 × Int × Bool
def tokSV (k : Int) (nm da : List UInt8) : SV := .agg [.int .i64 k, .str nm, .nils, .bool false, .str da]
def rkSV (x : Rk) : SV := .tup [tokSV x.1 x.2.1 x.2.2.1, .int .i64 x.2.2.2.1, .bool x.2.2.2.2]
def fdB (s p : List UInt8) : Bool := decide (fnd s p + p.length ≤ s.length)
def ixI (s p : List UInt8) : Int := if fdB s p = true then (fnd s p : Int) else -1
instance rIx (s p : List UInt8) : Fn BB 40 [.str s, .str p] (p ≠ [] ∧ s.length ≤ 1000000) (.int .i64 (ixI s p)) := by
  refine Fn.liftB Tryd.call40 fun hp r β w vs hG m h => ?_
  obtain ⟨rfl, h1, h2⟩ := h.str2
  obtain ⟨mm, hm⟩ := hG.len
  have := Tryd.strings_Index ⟨s.toArray⟩ ⟨p.toArray⟩ mm w (by show s.toArray.size < _; simp; omega) (cellR_at m.vis hm)
  refine ⟨_, this.mono fun e w' hh => ?_, .int⟩
  obtain ⟨rfl, rfl⟩ := hh
  refine ⟨?_, Go.RowKit.Below.refl _ _⟩
  have e := index_fnd s p hp.1
  unfold ixI fdB
  show Ending.returned (Value.int .i64 (Lib.index s p)) = _
  rw [e]
  by_cases q : fnd s p + p.length ≤ s.length <;> simp [q]
instance rCt (s p : List UInt8) : Fn BB 28 [.str s, .str p] (p ≠ [] ∧ s.length ≤ 1000000) (.bool (fdB s p)) := by
  refine Fn.intro (N := 9) [0, 1, 4] [] Tryd.call28 Tryd.func28 rfl rfl (by kernel_rfl) (fun hpre => ?_)
  repeat' ((conv => whnf); first | (with_reducible rfl) | exact True.intro | (with_reducible exact absTF) | (with_reducible exact absFT) | intro _ | refine And.intro ?_ ?_ | refine Fin.mk ?_ | refine CallG.plain rfl ?_ ?_ | refine CallG.mk rfl ?_ ?_ | refine CallG.nwl rfl ?_ ?_ | refine CallG.nw ?_ ?_ | refine CallF.nwl rfl ?_ ?_ | refine CallF.nw ?_ ?_ | refine AppN.mk ?_ | (refine CallS.q ?_; (conv => whnf); first | refine CallG.plain rfl ?_ ?_ | refine CallG.mk rfl ?_ ?_) | (refine CallS.m ?_; (conv => whnf); refine CallM.mk rfl ?_ ?_) | (refine CallS.h ?_; (conv => whnf); refine CallM.mk rfl ?_ ?_) | (refine CallS.b ?_; (conv => whnf); refine CallM.mk rfl ?_ ?_) | (refine CallS.z ?_; (conv => whnf); refine CallM.mk rfl ?_ ?_))
  all_goals (try (conv => whnf))
  all_goals (try (exact Ob.mk (u8_bnd _)))
  all_goals (try (refine Ob.mk ?_; first | exact True.intro | assumption | omega | (try simp only [decide_eq_true_eq, decide_eq_false_iff_not, beq_iff_eq, beq_eq_false_iff_ne, bne_iff_ne, bne_eq_false_iff_eq, ne_eq, Bool.and_eq_true, Bool.or_eq_true, Bool.not_eq_true, Bool.not_eq_false, Bool.not_eq_true', Bool.not_eq_false', Int.toNat_natCast, Int.not_lt, Int.not_le, UInt8.ofNat_toNat, cast_eq] at *; omega)))
  all_goals (try ((show (_:Int) = _); omega))
  all_goals (try (show tupSV _ = _; with_unfolding_all rfl))
  all_goals (try ((show (_ : Nat) ≤ _); (simp <;> omega)))
  all_goals (try ((show (_ : Nat) ≤ _ ∧ (_ : Nat) ≤ _); (simp <;> omega)))
  all_goals (try ((show (_ : Int) ≤ _ ∧ (_ : Int) ≤ _ ∧ (_ : Int) ≤ _ ∧ (_ : Int) ≤ _); (simp <;> omega)))
  all_goals (unfold ixI; cases fdB s p <;> simp; try omega)
instance rUp (s p : List UInt8) : Fn BB 53 [.str s, .str p] (p ≠ [] ∧ s.length ≤ 1000000) (.tup [.str (s.take (fnd s p)), .int .i64 (uN s p), .bool (fdB s p)]) := by
  refine Fn.intro (N := 23) [0, 1, 4, 5, 6, 7, 12] [] Tryd.call53 Tryd.func53 rfl rfl (by kernel_rfl) (fun hpre => ?_)
  have hle := fnd_le s p
  have hun : fdB s p = true → (uN s p = fnd s p + p.length ∧ fnd s p + p.length ≤ s.length) := fun h => by
    have h' := of_decide_eq_true h
    exact ⟨by unfold uN; rw [if_pos h'], h'⟩
  have hun2 : fdB s p = false → uN s p = s.length ∧ s.take (fnd s p) = s := fun h => by
    have h' := of_decide_eq_false h
    refine ⟨by unfold uN; rw [if_neg h'], ?_⟩
    rcases fnd_cases s p hpre.1 with q | q
    · exact absurd q.2 h'
    · rw [q.1, List.take_length]
  cases hf : fdB s p
  · obtain ⟨a1, a2⟩ := hun2 hf
    have hx : ixI s p = -1 := by unfold ixI; rw [hf]; rfl
    repeat' ((conv => whnf); first | (with_reducible rfl) | exact True.intro | (with_reducible exact absTF) | (with_reducible exact absFT) | intro _ | refine And.intro ?_ ?_ | refine Fin.mk ?_ | refine CallG.plain rfl ?_ ?_ | refine CallG.mk rfl ?_ ?_ | refine CallG.nwl rfl ?_ ?_ | refine CallG.nw ?_ ?_ | refine CallF.nwl rfl ?_ ?_ | refine CallF.nw ?_ ?_ | refine AppN.mk ?_ | (refine CallS.q ?_; (conv => whnf); first | refine CallG.plain rfl ?_ ?_ | refine CallG.mk rfl ?_ ?_) | (refine CallS.m ?_; (conv => whnf); refine CallM.mk rfl ?_ ?_) | (refine CallS.h ?_; (conv => whnf); refine CallM.mk rfl ?_ ?_) | (refine CallS.b ?_; (conv => whnf); refine CallM.mk rfl ?_ ?_) | (refine CallS.z ?_; (conv => whnf); refine CallM.mk rfl ?_ ?_))
    all_goals (try (conv => whnf))
    all_goals (try (exact Ob.mk (u8_bnd _)))
    all_goals (try (refine Ob.mk ?_; first | exact True.intro | assumption | omega | (try simp only [decide_eq_true_eq, decide_eq_false_iff_not, beq_iff_eq, beq_eq_false_iff_ne, bne_iff_ne, bne_eq_false_iff_eq, ne_eq, Bool.and_eq_true, Bool.or_eq_true, Bool.not_eq_true, Bool.not_eq_false, Bool.not_eq_true', Bool.not_eq_false', Int.toNat_natCast, Int.not_lt, Int.not_le, UInt8.ofNat_toNat, cast_eq] at *; omega)))
    all_goals (try ((show (_:Int) = _); omega))
    all_goals (try (show tupSV _ = _; with_unfolding_all rfl))
    all_goals (try ((show (_ : Nat) ≤ _); (simp <;> omega)))
    all_goals (try ((show (_ : Nat) ≤ _ ∧ (_ : Nat) ≤ _); (simp <;> omega)))
    all_goals (try ((show (_ : Int) ≤ _ ∧ (_ : Int) ≤ _ ∧ (_ : Int) ≤ _ ∧ (_ : Int) ≤ _); (simp <;> omega)))
    all_goals (simp only [hx] at *)
    all_goals (try (exfalso; exact absurd ‹decide ((-1 : Int) < 0) = false› (by decide)))
    all_goals (first | exact a2.symm | (rw [a1]; done) | exact hf.symm | trace_state)
  · obtain ⟨a1, a2⟩ := hun hf
    have hx : ixI s p = (fnd s p : Int) := by unfold ixI; rw [hf]; rfl
    repeat' ((conv => whnf); first | (with_reducible rfl) | exact True.intro | (with_reducible exact absTF) | (with_reducible exact absFT) | intro _ | refine And.intro ?_ ?_ | refine Fin.mk ?_ | refine CallG.plain rfl ?_ ?_ | refine CallG.mk rfl ?_ ?_ | refine CallG.nwl rfl ?_ ?_ | refine CallG.nw ?_ ?_ | refine CallF.nwl rfl ?_ ?_ | refine CallF.nw ?_ ?_ | refine AppN.mk ?_ | (refine CallS.q ?_; (conv => whnf); first | refine CallG.plain rfl ?_ ?_ | refine CallG.mk rfl ?_ ?_) | (refine CallS.m ?_; (conv => whnf); refine CallM.mk rfl ?_ ?_) | (refine CallS.h ?_; (conv => whnf); refine CallM.mk rfl ?_ ?_) | (refine CallS.b ?_; (conv => whnf); refine CallM.mk rfl ?_ ?_) | (refine CallS.z ?_; (conv => whnf); refine CallM.mk rfl ?_ ?_))
    all_goals (try (conv => whnf))
    all_goals (try (exact Ob.mk (u8_bnd _)))
    all_goals (try (refine Ob.mk ?_; first | exact True.intro | assumption | omega | (try simp only [decide_eq_true_eq, decide_eq_false_iff_not, beq_iff_eq, beq_eq_false_iff_ne, bne_iff_ne, bne_eq_false_iff_eq, ne_eq, Bool.and_eq_true, Bool.or_eq_true, Bool.not_eq_true, Bool.not_eq_false, Bool.not_eq_true', Bool.not_eq_false', Int.toNat_natCast, Int.not_lt, Int.not_le, UInt8.ofNat_toNat, cast_eq] at *; omega)))
    all_goals (try ((show (_:Int) = _); omega))
    all_goals (try (show tupSV _ = _; with_unfolding_all rfl))
    all_goals (try ((show (_ : Nat) ≤ _); (simp <;> omega)))
    all_goals (try ((show (_ : Nat) ≤ _ ∧ (_ : Nat) ≤ _); (simp <;> omega)))
    all_goals (try ((show (_ : Int) ≤ _ ∧ (_ : Int) ≤ _ ∧ (_ : Int) ≤ _ ∧ (_ : Int) ≤ _); (simp <;> omega)))
    all_goals (simp only [hx, Int.toNat_natCast] at *)
    all_goals (try (exfalso; have h := of_decide_eq_true ‹decide ((fnd s p : Int) < 0) = true›; omega))
    all_goals (first | rfl | (constructor <;> omega) | omega | exact hf.symm | trace_state)
end Go.Vc

namespace Go.Vc
set_option autoImplicit false
theorem ixAny_take (cs s : List UInt8) : (0 ≤ Lib.indexAny s cs ∧ s.take (Lib.indexAny s cs).toNat = s.takeWhile (fun c => !cs.contains c)) ∨ (Lib.indexAny s cs = -1 ∧ s.takeWhile (fun c => !cs.contains c) = s) := by
  induction s with
  | nil => right; exact ⟨rfl, rfl⟩
  | cons b l ih =>
    unfold Lib.indexAny
    cases h : cs.contains b with
    | true => left; simp only [if_true]; refine ⟨by omega, ?_⟩; rw [List.takeWhile_cons, h]; rfl
    | false =>
      simp only [Bool.false_eq_true, if_false]
      rcases ih with ⟨h1, h2⟩ | ⟨h1, h2⟩
      · left
        have e : (Lib.indexAny l cs == -1) = false := beq_eq_false_iff_ne.2 (by omega)
        rw [e]
        simp only [Bool.false_eq_true, if_false]
        refine ⟨by omega, ?_⟩
        have : (Lib.indexAny l cs + 1).toNat = (Lib.indexAny l cs).toNat + 1 := by omega
        rw [this, List.take_succ_cons, h2, List.takeWhile_cons, h]
        rfl
      · right
        rw [h1]
        refine ⟨rfl, ?_⟩
        rw [List.takeWhile_cons, h, h2]
        rfl
end Go.Vc

/-! Any bytes, read rune by rune: what is below 128 is itself, all else is 128 and more. -/
namespace Go.Vc
set_option autoImplicit false
theorem decN_hi (n b0 b1 b2 b3 : Nat) (h : 128 ≤ b0) (h0 : b0 < 256) (hn : 1 ≤ n) : 128 ≤ (Lib.decodeN n b0 b1 b2 b3).1 ∧ 1 ≤ (Lib.decodeN n b0 b1 b2 b3).2 ∧ (Lib.decodeN n b0 b1 b2 b3).2 ≤ 4 ∧ (Lib.decodeN n b0 b1 b2 b3).2 ≤ n ∧ (2 ≤ (Lib.decodeN n b0 b1 b2 b3).2 → 128 ≤ b1) ∧ (3 ≤ (Lib.decodeN n b0 b1 b2 b3).2 → 128 ≤ b2) ∧ (4 ≤ (Lib.decodeN n b0 b1 b2 b3).2 → 128 ≤ b3) := by
  unfold Lib.decodeN
  rw [if_neg (by omega)]
  repeat' split
  all_goals (simp only []; omega)
theorem decL_at (l : List UInt8) : Lib.decodeL l = Lib.decodeN l.length (l.getD 0 0).toNat (l.getD 1 0).toNat (l.getD 2 0).toNat (l.getD 3 0).toNat := by
  unfold Lib.decodeL
  rw [Lib.decode_at]
  have hs : (⟨l.toArray⟩ : ByteArray).size = l.length := by show l.toArray.size = _; simp
  have hg : ∀ k, (⟨l.toArray⟩ : ByteArray).get! k = l.getD k 0 := fun k => by
    show l.toArray[k]! = _
    simp [List.getD]; rfl
  rw [hs, hg, hg, hg, hg]; rfl
theorem dec_from (l : List UInt8) (i : Nat) : Utf8.decode ⟨l.toArray⟩ i = Lib.decodeL (l.drop i) := by
  rw [decL_at, Lib.decode_at]
  have hs : (⟨l.toArray⟩ : ByteArray).size - i = (l.drop i).length := by
    show l.toArray.size - i = _
    simp
  have hg : ∀ k, (⟨l.toArray⟩ : ByteArray).get! (i + k) = (l.drop i).getD k 0 := fun k => by
    show l.toArray[i + k]! = _
    simp [List.getD]; rfl
  rw [hs, show (⟨l.toArray⟩ : ByteArray).get! i = (l.drop i).getD 0 0 from hg 0, hg, hg, hg]
theorem decL_low (l : List UInt8) (h : (l.getD 0 0).toNat < 128) : Lib.decodeL l = ((l.getD 0 0).toNat, 1) := by
  rw [decL_at]; unfold Lib.decodeN; rw [if_pos h]
theorem decL_hi (l : List UInt8) (hne : l ≠ []) (h : 128 ≤ (l.getD 0 0).toNat) : 128 ≤ (Lib.decodeL l).1 ∧ 1 ≤ (Lib.decodeL l).2 ∧ (Lib.decodeL l).2 ≤ l.length ∧ ∀ j < (Lib.decodeL l).2, 128 ≤ (l.getD j 0).toNat := by
  rw [decL_at]
  have := decN_hi l.length (l.getD 0 0).toNat (l.getD 1 0).toNat (l.getD 2 0).toNat (l.getD 3 0).toNat h (UInt8.toNat_lt _) (List.length_pos_iff.mpr hne)
  obtain ⟨a, b, c, d, e, f, g⟩ := this
  refine ⟨a, b, d, fun j hj => ?_⟩
  have : j = 0 ∨ j = 1 ∨ j = 2 ∨ j = 3 := by omega
  rcases this with rfl | rfl | rfl | rfl
  · exact h
  · exact e (by omega)
  · exact f (by omega)
  · exact g (by omega)
/-- the rune at a place, and the bytes that it takes -/
theorem dec_place (s : List UInt8) (p : Nat) (hp : p < s.length) :
    ((s.getD p 0).toNat < 128 ∧ Utf8.decode ⟨s.toArray⟩ p = ((s.getD p 0).toNat, 1)) ∨
    (128 ≤ (s.getD p 0).toNat ∧ 128 ≤ (Utf8.decode ⟨s.toArray⟩ p).1 ∧ 1 ≤ (Utf8.decode ⟨s.toArray⟩ p).2 ∧ p + (Utf8.decode ⟨s.toArray⟩ p).2 ≤ s.length ∧ ∀ j, p ≤ j → j < p + (Utf8.decode ⟨s.toArray⟩ p).2 → 128 ≤ (s.getD j 0).toNat) := by
  have hd : ∀ k, (s.drop p).getD k 0 = s.getD (p + k) 0 := fun k => by simp [List.getD]
  rw [dec_from]
  by_cases h : (s.getD p 0).toNat < 128
  · left
    have := decL_low (s.drop p) (by rw [hd]; exact h)
    rw [hd] at this
    exact ⟨h, this⟩
  · right
    have hne : s.drop p ≠ [] := fun q => by have := congrArg List.length q; rw [List.length_drop] at this; simp at this; omega
    have := decL_hi (s.drop p) hne (by rw [hd]; show 128 ≤ (s.getD p 0).toNat; omega)
    rw [List.length_drop] at this
    refine ⟨by omega, this.1, this.2.1, by omega, fun j h1 h2 => ?_⟩
    have := this.2.2.2 (j - p) (by omega)
    rw [hd, show p + (j - p) = j by omega] at this
    exact this
theorem index_none (l : List UInt8) (c : UInt8) (h : ∀ b ∈ l, b ≠ c) : Lib.indexByte l c = -1 := by
  induction l with
  | nil => rfl
  | cons x r ih =>
    have h1 := h x (by simp)
    have h2 := ih fun b hb => h b (by simp [hb])
    unfold Lib.indexByte
    rw [if_neg (by simpa using h1), h2]; rfl
theorem index_mem (l : List UInt8) (c : UInt8) : decide (Lib.indexByte l c ≥ 0) = l.contains c := by
  induction l with
  | nil => rfl
  | cons x r ih =>
    unfold Lib.indexByte
    rw [List.contains_cons]
    have hg := Lib.indexByte_ge r c
    by_cases h : x = c
    · subst h; simp
    · have e : (x == c) = false := beq_eq_false_iff_ne.2 h
      have e' : (c == x) = false := beq_eq_false_iff_ne.2 (fun q => h q.symm)
      rw [e, e', Bool.false_or, ← ih]
      simp only [Bool.false_eq_true, if_false]
      by_cases q : Lib.indexByte r c = -1
      · rw [q]; rfl
      · have : (Lib.indexByte r c == -1) = false := beq_eq_false_iff_ne.2 q
        rw [this]
        simp only [Bool.false_eq_true, if_false]
        rw [Bool.eq_iff_iff]; simp; omega
end Go.Vc

namespace Go.Vc
open Go.Proofs
set_option linter.unusedVariables false
set_option maxRecDepth 10000
set_option linter.unusedSimpArgs false
set_option maxHeartbeats 8000000
def ascB (cs : List UInt8) : Bool := cs.all fun b => decide (b.toNat < 128)
theorem ascB_mem {cs : List UInt8} (h : ascB cs = true) {b : UInt8} (hb : b ∈ cs) : b.toNat < 128 := by
  have := List.all_eq_true.1 h b hb
  exact of_decide_eq_true this
theorem ascB_get {cs : List UInt8} (h : ascB cs = true) (i : Nat) : (cs.getD i 0).toNat < 128 := by
  rcases Nat.lt_or_ge i cs.length with q | q
  · rw [List.getD_eq_getElem?_getD, List.getElem?_eq_getElem q]; exact ascB_mem h (List.getElem_mem q)
  · rw [List.getD_eq_getElem?_getD, List.getElem?_eq_none q]; decide
/-- where a rune is in a text of ASCII -/
def irC (cs : List UInt8) (r : Int) : Int := if 0 ≤ r ∧ r < 128 then Lib.indexByte cs r.toNat.toUInt8 else -1
theorem encR' (r : Int) (h : 128 ≤ r) (hv : Utf8.valid r = true) : 2 ≤ (Utf8.encode r).data.toList.length ∧ (Utf8.encode r).data.toList.length ≤ 4 ∧ 128 ≤ ((Utf8.encode r).data.toList.getD ((Utf8.encode r).data.toList.length - 1) 0).toNat := by
  unfold Utf8.encode
  rw [if_pos hv]
  dsimp only
  rw [if_neg (by omega)]
  have key : ∀ x : Nat, 128 ≤ (UInt8.ofNat (128 + x % 64)).toNat := fun x => by rw [UInt8.toNat_ofNat']; omega
  split
  · exact ⟨by simp, by simp, key _⟩
  · split
    · exact ⟨by simp, by simp, key _⟩
    · exact ⟨by simp, by simp, key _⟩
theorem okR_valid' (r : Int) : okR r = Utf8.valid r := by
  unfold okR Utf8.valid
  rw [Bool.eq_iff_iff]
  simp only [Bool.or_eq_true, Bool.and_eq_true, decide_eq_true_eq]
  omega
instance fIRc (cs : List UInt8) (r : Int) : Fn BB 69 [.str cs, .int .i32 r] (ascB cs = true ∧ cs.length ≤ 1000) (.int .i64 (irC cs r)) := by
  refine Fn.intro (N := 187) [0, 1, 4, 5, 6, 7, 8, 9, 10, 11, 12, 13, 14, 15, 16, 26, 33, 43, 51, 64, 98, 108, 124, 139, 143, 156, 160, 171, 175, 176, 177, 181, 183] [(6, [0, 0, 0, 0, 0, 0, 0]), (7, [0, 0, 0, 0, 0, 0, 0, 3, 3]), (14, [0, 0, 0, 0, 0, 0, 0, 0, 0, 0, 0]), (31, [0, 0, 0, 0, 0, 0, 0, 0, 0, 0, 0])] Tryd.call69 Tryd.func69 rfl rfl (by kernel_rfl) (fun hpre => ?_)
  obtain ⟨hp1, hp2⟩ := hpre
  repeat' ((conv => whnf); first | (with_reducible rfl) | exact True.intro | (with_reducible exact absTF) | (with_reducible exact absFT) | intro _ | refine And.intro ?_ ?_ | refine Fin.mk ?_ | refine CallG.plain rfl ?_ ?_ | refine CallG.mk rfl ?_ ?_ | refine CallG.nwl rfl ?_ ?_ | refine CallG.nw ?_ ?_ | refine CallF.nwl rfl ?_ ?_ | refine CallF.nw ?_ ?_ | refine AppN.mk ?_ | (refine CallS.q ?_; (conv => whnf); first | refine CallG.plain rfl ?_ ?_ | refine CallG.mk rfl ?_ ?_) | (refine CallS.m ?_; (conv => whnf); refine CallM.mk rfl ?_ ?_) | (refine CallS.h ?_; (conv => whnf); refine CallM.mk rfl ?_ ?_) | (refine CallS.b ?_; (conv => whnf); refine CallM.mk rfl ?_ ?_) | (refine CallS.z ?_; (conv => whnf); refine CallM.mk rfl ?_ ?_))
  all_goals (try (conv => whnf))
  all_goals (try (exact Ob.mk (u8_bnd _)))
  all_goals (try (refine Ob.mk ?_; first | exact True.intro | assumption | omega | (try simp only [decide_eq_true_eq, decide_eq_false_iff_not, beq_iff_eq, beq_eq_false_iff_ne, bne_iff_ne, bne_eq_false_iff_eq, ne_eq, Bool.and_eq_true, Bool.or_eq_true, Bool.not_eq_true, Bool.not_eq_false, Bool.not_eq_true', Bool.not_eq_false', Int.toNat_natCast, Int.not_lt, Int.not_le, UInt8.ofNat_toNat, cast_eq] at *; omega)))
  all_goals (try ((show (_:Int) = _); omega))
  all_goals (try (show tupSV _ = _; with_unfolding_all rfl))
  all_goals (try ((show (_ : Nat) ≤ _); (simp <;> omega)))
  all_goals (try ((show (_ : Nat) ≤ _ ∧ (_ : Nat) ≤ _); (simp <;> omega)))
  all_goals (try ((show (_ : Int) ≤ _ ∧ (_ : Int) ≤ _ ∧ (_ : Int) ≤ _ ∧ (_ : Int) ≤ _); (simp <;> omega)))
  · have h : 0 ≤ r ∧ r < 128 := by simpa using ‹(decide (0 ≤ r) && decide (r < 128)) = true›
    have e : IntKind.u8.wrap r = r := wrap8 r (by omega)
    unfold irC
    rw [if_pos h, e]
  · refine LoopStop.mk (α := Nat) (fun p => []) (fun p => [(0, .iter cs p)]) 20 (fun p => p ≤ cs.length) (fun p => cs.length - p) 0 (by omega) ?_ (fun p hp => ?_)
    · repeat' ((conv => whnf); first | (with_reducible rfl) | exact True.intro | (with_reducible exact absTF) | (with_reducible exact absFT) | intro _ | refine And.intro ?_ ?_ | refine Fin.mk ?_ | refine CallG.plain rfl ?_ ?_ | refine CallG.mk rfl ?_ ?_ | refine CallG.nwl rfl ?_ ?_ | refine CallG.nw ?_ ?_ | refine CallF.nwl rfl ?_ ?_ | refine CallF.nw ?_ ?_ | refine AppN.mk ?_ | (refine CallS.q ?_; (conv => whnf); first | refine CallG.plain rfl ?_ ?_ | refine CallG.mk rfl ?_ ?_) | (refine CallS.m ?_; (conv => whnf); refine CallM.mk rfl ?_ ?_) | (refine CallS.h ?_; (conv => whnf); refine CallM.mk rfl ?_ ?_) | (refine CallS.b ?_; (conv => whnf); refine CallM.mk rfl ?_ ?_) | (refine CallS.z ?_; (conv => whnf); refine CallM.mk rfl ?_ ?_))
      all_goals (try (conv => whnf))
      all_goals (try (exact Ob.mk (u8_bnd _)))
      all_goals (try (refine Ob.mk ?_; first | exact True.intro | assumption | omega | (try simp only [decide_eq_true_eq, decide_eq_false_iff_not, beq_iff_eq, beq_eq_false_iff_ne, bne_iff_ne, bne_eq_false_iff_eq, ne_eq, Bool.and_eq_true, Bool.or_eq_true, Bool.not_eq_true, Bool.not_eq_false, Bool.not_eq_true', Bool.not_eq_false', Int.toNat_natCast, Int.not_lt, Int.not_le, UInt8.ofNat_toNat, cast_eq] at *; omega)))
      all_goals (try ((show (_:Int) = _); omega))
      all_goals (try (show tupSV _ = _; with_unfolding_all rfl))
      all_goals (try ((show (_ : Nat) ≤ _); (simp <;> omega)))
      all_goals (try ((show (_ : Nat) ≤ _ ∧ (_ : Nat) ≤ _); (simp <;> omega)))
      all_goals (try ((show (_ : Int) ≤ _ ∧ (_ : Int) ≤ _ ∧ (_ : Int) ≤ _ ∧ (_ : Int) ≤ _); (simp <;> omega)))
      all_goals rfl
    · have h : r = 65533 := by simpa using ‹(r == 65533) = true›
      have key : p < cs.length → decL cs p = ((cs.getD p 0).toNat, 1) := fun hl => by
        rcases dec_place cs p hl with q | q
        · exact q.2
        · have := ascB_get hp1 p; omega
      have hlow := ascB_get hp1 p
      repeat' ((conv => whnf); first | (with_reducible rfl) | exact True.intro | (with_reducible exact absTF) | (with_reducible exact absFT) | intro _ | refine And.intro ?_ ?_ | refine Fin.mk ?_ | refine CallG.plain rfl ?_ ?_ | refine CallG.mk rfl ?_ ?_ | refine CallG.nwl rfl ?_ ?_ | refine CallG.nw ?_ ?_ | refine CallF.nwl rfl ?_ ?_ | refine CallF.nw ?_ ?_ | refine AppN.mk ?_ | (refine CallS.q ?_; (conv => whnf); first | refine CallG.plain rfl ?_ ?_ | refine CallG.mk rfl ?_ ?_) | (refine CallS.m ?_; (conv => whnf); refine CallM.mk rfl ?_ ?_) | (refine CallS.h ?_; (conv => whnf); refine CallM.mk rfl ?_ ?_) | (refine CallS.b ?_; (conv => whnf); refine CallM.mk rfl ?_ ?_) | (refine CallS.z ?_; (conv => whnf); refine CallM.mk rfl ?_ ?_))
      all_goals (try (conv => whnf))
      all_goals (try (exact Ob.mk (u8_bnd _)))
      all_goals (try (refine Ob.mk ?_; first | exact True.intro | assumption | omega | (try simp only [decide_eq_true_eq, decide_eq_false_iff_not, beq_iff_eq, beq_eq_false_iff_ne, bne_iff_ne, bne_eq_false_iff_eq, ne_eq, Bool.and_eq_true, Bool.or_eq_true, Bool.not_eq_true, Bool.not_eq_false, Bool.not_eq_true', Bool.not_eq_false', Int.toNat_natCast, Int.not_lt, Int.not_le, UInt8.ofNat_toNat, cast_eq] at *; omega)))
      all_goals (try ((show (_:Int) = _); omega))
      all_goals (try (show tupSV _ = _; with_unfolding_all rfl))
      all_goals (try ((show (_ : Nat) ≤ _); (simp <;> omega)))
      all_goals (try ((show (_ : Nat) ≤ _ ∧ (_ : Nat) ≤ _); (simp <;> omega)))
      all_goals (try ((show (_ : Int) ≤ _ ∧ (_ : Int) ≤ _ ∧ (_ : Int) ≤ _ ∧ (_ : Int) ≤ _); (simp <;> omega)))
      · have hl : p < cs.length := ‹_›
        have hh : ((decL cs p).1 : Int) = 65533 := by simpa using ‹(((decL cs p).fst : Int) == 65533) = true›
        rw [key hl] at hh
        simp only at hh
        omega
      · have hl : p < cs.length := ‹_›
        refine Rnd.mk ⟨p + 1, by omega, by omega, ?_⟩
        repeat' ((conv => whnf); first | (with_reducible rfl) | exact True.intro | (with_reducible exact absTF) | (with_reducible exact absFT) | intro _ | refine And.intro ?_ ?_ | refine Fin.mk ?_ | refine CallG.plain rfl ?_ ?_ | refine CallG.mk rfl ?_ ?_ | refine CallG.nwl rfl ?_ ?_ | refine CallG.nw ?_ ?_ | refine CallF.nwl rfl ?_ ?_ | refine CallF.nw ?_ ?_ | refine AppN.mk ?_ | (refine CallS.q ?_; (conv => whnf); first | refine CallG.plain rfl ?_ ?_ | refine CallG.mk rfl ?_ ?_) | (refine CallS.m ?_; (conv => whnf); refine CallM.mk rfl ?_ ?_) | (refine CallS.h ?_; (conv => whnf); refine CallM.mk rfl ?_ ?_) | (refine CallS.b ?_; (conv => whnf); refine CallM.mk rfl ?_ ?_) | (refine CallS.z ?_; (conv => whnf); refine CallM.mk rfl ?_ ?_))
        all_goals (try (conv => whnf))
        all_goals (try (exact Ob.mk (u8_bnd _)))
        all_goals (try (refine Ob.mk ?_; first | exact True.intro | assumption | omega | (try simp only [decide_eq_true_eq, decide_eq_false_iff_not, beq_iff_eq, beq_eq_false_iff_ne, bne_iff_ne, bne_eq_false_iff_eq, ne_eq, Bool.and_eq_true, Bool.or_eq_true, Bool.not_eq_true, Bool.not_eq_false, Bool.not_eq_true', Bool.not_eq_false', Int.toNat_natCast, Int.not_lt, Int.not_le, UInt8.ofNat_toNat, cast_eq] at *; omega)))
        all_goals (try ((show (_:Int) = _); omega))
        all_goals (try (show tupSV _ = _; with_unfolding_all rfl))
        all_goals (try ((show (_ : Nat) ≤ _); (simp <;> omega)))
        all_goals (try ((show (_ : Nat) ≤ _ ∧ (_ : Nat) ≤ _); (simp <;> omega)))
        all_goals (try ((show (_ : Int) ≤ _ ∧ (_ : Int) ≤ _ ∧ (_ : Int) ≤ _ ∧ (_ : Int) ≤ _); (simp <;> omega)))
        all_goals (first | rfl | (rw [key hl]) | skip)
      · unfold irC; rw [if_neg (by omega)]
  · have h : (decide (0 ≤ r) && decide (r < 128)) = false := ‹_›
    have : ¬ (0 ≤ r ∧ r < 128) := fun q => by simp [q.1, q.2] at h
    unfold irC; rw [if_neg this]
  · have h : (decide (0 ≤ r) && decide (r < 128)) = false := ‹_›
    have hk : (!okR r) = false := ‹_›
    have hn : ¬ (0 ≤ r ∧ r < 128) := fun q => by simp [q.1, q.2] at h
    have e0 : irC cs r = -1 := by unfold irC; rw [if_neg hn]
    rw [e0]
    have hv : Utf8.valid r = true := by rw [← okR_valid']; simpa using hk
    have h128 : 128 ≤ r := by
      have h0 : 0 ≤ r := by unfold Utf8.valid at hv; simp at hv; omega
      omega
    have key := encR' r h128 hv
    generalize (Utf8.encode r).data.toList = L at *
    obtain ⟨k1, k2, k3⟩ := key
    refine LoopStop.mk (α := Unit) (fun p => [(9, .int .i64 ((L.length : Int) - 1)), (10, .int .i64 0)]) (fun p => []) 20 (fun p => True) (fun p => 0) () True.intro ?_ (fun p hp => ?_)
    · repeat' ((conv => whnf); first | (with_reducible rfl) | exact True.intro | (with_reducible exact absTF) | (with_reducible exact absFT) | intro _ | refine And.intro ?_ ?_ | refine Fin.mk ?_ | refine CallG.plain rfl ?_ ?_ | refine CallG.mk rfl ?_ ?_ | refine CallG.nwl rfl ?_ ?_ | refine CallG.nw ?_ ?_ | refine CallF.nwl rfl ?_ ?_ | refine CallF.nw ?_ ?_ | refine AppN.mk ?_ | (refine CallS.q ?_; (conv => whnf); first | refine CallG.plain rfl ?_ ?_ | refine CallG.mk rfl ?_ ?_) | (refine CallS.m ?_; (conv => whnf); refine CallM.mk rfl ?_ ?_) | (refine CallS.h ?_; (conv => whnf); refine CallM.mk rfl ?_ ?_) | (refine CallS.b ?_; (conv => whnf); refine CallM.mk rfl ?_ ?_) | (refine CallS.z ?_; (conv => whnf); refine CallM.mk rfl ?_ ?_))
      all_goals (try (conv => whnf))
      all_goals (try (exact Ob.mk (u8_bnd _)))
      all_goals (try (refine Ob.mk ?_; first | exact True.intro | assumption | omega | (try simp only [decide_eq_true_eq, decide_eq_false_iff_not, beq_iff_eq, beq_eq_false_iff_ne, bne_iff_ne, bne_eq_false_iff_eq, ne_eq, Bool.and_eq_true, Bool.or_eq_true, Bool.not_eq_true, Bool.not_eq_false, Bool.not_eq_true', Bool.not_eq_false', Int.toNat_natCast, Int.not_lt, Int.not_le, UInt8.ofNat_toNat, cast_eq] at *; omega)))
      all_goals (try ((show (_:Int) = _); omega))
      all_goals (try (show tupSV _ = _; with_unfolding_all rfl))
      all_goals (try ((show (_ : Nat) ≤ _); (simp <;> omega)))
      all_goals (try ((show (_ : Nat) ≤ _ ∧ (_ : Nat) ≤ _); (simp <;> omega)))
      all_goals (try ((show (_ : Int) ≤ _ ∧ (_ : Int) ≤ _ ∧ (_ : Int) ≤ _ ∧ (_ : Int) ≤ _); (simp <;> omega)))
      all_goals rfl
    · have el : ((L.length : Int) - 1).toNat = L.length - 1 := by omega
      have kneg : ∀ (x : Int) (cs' : List UInt8), (∀ b ∈ cs', b.toNat < 128) → 128 ≤ x.toNat ∧ x.toNat < 256 → Lib.indexByte cs' x.toNat.toUInt8 = -1 := fun x cs' hc hx => by
        refine index_none _ _ fun b hb q => ?_
        have := hc b hb
        rw [q] at this
        simp at this
        omega
      have kdrop : ∀ i, ∀ b ∈ cs.drop i, b.toNat < 128 := fun i b hb => ascB_mem hp1 (List.mem_of_mem_drop hb)
      have kb := UInt8.toNat_lt (L.getD (L.length - 1) 0)
      have kne : ((cs.getD ((L.length : Int) - 1).toNat 0).toNat : Int) ≠ ((L.getD ((L.length : Int) - 1).toNat 0).toNat : Int) := by
        have := ascB_get hp1 ((L.length : Int) - 1).toNat
        rw [el] at this ⊢
        omega
      have kx := kneg ((L.getD ((L.length : Int) - 1).toNat 0).toNat : Int) _ (kdrop ((L.length : Int) - 1 + 1).toNat) (by rw [el]; simp only [Int.toNat_natCast]; omega)
      repeat' ((conv => whnf); first | (with_reducible rfl) | exact True.intro | (with_reducible exact absTF) | (with_reducible exact absFT) | intro _ | refine And.intro ?_ ?_ | refine Fin.mk ?_ | refine CallG.plain rfl ?_ ?_ | refine CallG.mk rfl ?_ ?_ | refine CallG.nwl rfl ?_ ?_ | refine CallG.nw ?_ ?_ | refine CallF.nwl rfl ?_ ?_ | refine CallF.nw ?_ ?_ | refine AppN.mk ?_ | (refine CallS.q ?_; (conv => whnf); first | refine CallG.plain rfl ?_ ?_ | refine CallG.mk rfl ?_ ?_) | (refine CallS.m ?_; (conv => whnf); refine CallM.mk rfl ?_ ?_) | (refine CallS.h ?_; (conv => whnf); refine CallM.mk rfl ?_ ?_) | (refine CallS.b ?_; (conv => whnf); refine CallM.mk rfl ?_ ?_) | (refine CallS.z ?_; (conv => whnf); refine CallM.mk rfl ?_ ?_))
      all_goals (try (conv => whnf))
      all_goals (try (exact Ob.mk (u8_bnd _)))
      all_goals (try (refine Ob.mk ?_; first | exact True.intro | assumption | omega | (try simp only [decide_eq_true_eq, decide_eq_false_iff_not, beq_iff_eq, beq_eq_false_iff_ne, bne_iff_ne, bne_eq_false_iff_eq, ne_eq, Bool.and_eq_true, Bool.or_eq_true, Bool.not_eq_true, Bool.not_eq_false, Bool.not_eq_true', Bool.not_eq_false', Int.toNat_natCast, Int.not_lt, Int.not_le, UInt8.ofNat_toNat, cast_eq] at *; omega)))
      all_goals (try ((show (_:Int) = _); omega))
      all_goals (try (show tupSV _ = _; with_unfolding_all rfl))
      all_goals (try ((show (_ : Nat) ≤ _); (simp <;> omega)))
      all_goals (try ((show (_ : Nat) ≤ _ ∧ (_ : Nat) ≤ _); (simp <;> omega)))
      all_goals (try ((show (_ : Int) ≤ _ ∧ (_ : Int) ≤ _ ∧ (_ : Int) ≤ _ ∧ (_ : Int) ≤ _); (simp <;> omega)))
      all_goals (try (exfalso; rw [kx] at *; revert ‹decide ((-1 : Int) < 0) = false›; decide))
      all_goals (try (exfalso; exact kne (bne_eq_false_iff_eq.1 ‹_›)))
      all_goals trace_state
instance fSU (n : Int) : Fn BB 73 [.int .i64 n] True (.bool (decide (n > 8))) := by
  refine Fn.intro (N := 5) [0, 2] [] Tryd.call73 Tryd.func73 rfl rfl (by kernel_rfl) (fun hpre => ?_)
  repeat' ((conv => whnf); first | (with_reducible rfl) | exact True.intro | (with_reducible exact absTF) | (with_reducible exact absFT) | intro _ | refine And.intro ?_ ?_ | refine Fin.mk ?_ | refine CallG.plain rfl ?_ ?_ | refine CallG.mk rfl ?_ ?_ | refine CallG.nwl rfl ?_ ?_ | refine CallG.nw ?_ ?_ | refine CallF.nwl rfl ?_ ?_ | refine CallF.nw ?_ ?_ | refine AppN.mk ?_ | (refine CallS.q ?_; (conv => whnf); first | refine CallG.plain rfl ?_ ?_ | refine CallG.mk rfl ?_ ?_) | (refine CallS.m ?_; (conv => whnf); refine CallM.mk rfl ?_ ?_) | (refine CallS.h ?_; (conv => whnf); refine CallM.mk rfl ?_ ?_) | (refine CallS.b ?_; (conv => whnf); refine CallM.mk rfl ?_ ?_) | (refine CallS.z ?_; (conv => whnf); refine CallM.mk rfl ?_ ?_))
  all_goals (try (conv => whnf))
  all_goals (try (exact Ob.mk (u8_bnd _)))
  all_goals (try (refine Ob.mk ?_; first | exact True.intro | assumption | omega | (try simp only [decide_eq_true_eq, decide_eq_false_iff_not, beq_iff_eq, beq_eq_false_iff_ne, bne_iff_ne, bne_eq_false_iff_eq, ne_eq, Bool.and_eq_true, Bool.or_eq_true, Bool.not_eq_true, Bool.not_eq_false, Bool.not_eq_true', Bool.not_eq_false', Int.toNat_natCast, Int.not_lt, Int.not_le, UInt8.ofNat_toNat, cast_eq] at *; omega)))
  all_goals (try ((show (_:Int) = _); omega))
  all_goals (try (show tupSV _ = _; with_unfolding_all rfl))
  all_goals (try ((show (_ : Nat) ≤ _); (simp <;> omega)))
  all_goals (try ((show (_ : Nat) ≤ _ ∧ (_ : Nat) ≤ _); (simp <;> omega)))
  all_goals (try ((show (_ : Int) ≤ _ ∧ (_ : Int) ≤ _ ∧ (_ : Int) ≤ _ ∧ (_ : Int) ≤ _); (simp <;> omega)))
end Go.Vc

namespace Go.Vc
open Go.Proofs
set_option linter.unusedVariables false
set_option maxRecDepth 10000
set_option linter.unusedSimpArgs false
set_option maxHeartbeats 8000000
theorem irC_low (cs : List UInt8) (b : UInt8) (h : b.toNat < 128) : decide (irC cs (b.toNat : Int) ≥ 0) = cs.contains b := by
  unfold irC
  rw [if_pos (by omega), ← index_mem]
  simp
theorem irC_hi (cs : List UInt8) (r : Int) (h : 128 ≤ r) : decide (irC cs r ≥ 0) = false := by
  unfold irC; rw [if_neg (by omega)]; rfl
theorem noAny_more {s cs : List UInt8} {p q : Nat} (hcs : ascB cs = true) (h : Lib.NoAny s cs p) (hh : ∀ j, p ≤ j → j < q → 128 ≤ (s.getD j 0).toNat) : Lib.NoAny s cs q := by
  intro j b hj hs
  rcases Nat.lt_or_ge j p with c | c
  · exact h j b c hs
  · have := hh j c hj
    have e : s.getD j 0 = b := by simp [List.getD, hs]
    rw [e] at this
    rw [Bool.eq_false_iff]
    intro hc
    rw [List.contains_iff_mem] at hc
    have := ascB_mem hcs hc
    omega
theorem fIAsc (s cs : List UInt8) : Fn BB 64 [.str s, .str cs] (s.length ≤ 8 ∧ 2 ≤ cs.length ∧ cs.length ≤ 1000 ∧ ascB cs = true) (.int .i64 (Lib.indexAny s cs)) := by
  refine Fn.intro (N := 55) [0, 1, 4, 5, 6, 7, 8, 9, 10, 12, 15, 20, 26, 32, 36, 42, 45, 46, 47, 53] [] Tryd.call64 Tryd.func64 rfl rfl (by kernel_rfl) (fun hpre => ?_)
  obtain ⟨hp1, hp2, hp3, hp4⟩ := hpre
  repeat' ((conv => whnf); first | (with_reducible rfl) | exact True.intro | (with_reducible exact absTF) | (with_reducible exact absFT) | (intro hq; (try simp only [decide_eq_true_eq, decide_eq_false_iff_not, beq_iff_eq, beq_eq_false_iff_ne, bne_iff_ne, bne_eq_false_iff_eq, ne_eq, Bool.and_eq_true, Bool.or_eq_true, Bool.and_eq_false_iff, Bool.or_eq_false_iff, Bool.not_eq_true, Bool.not_eq_false, Bool.not_eq_true', Bool.not_eq_false', Int.toNat_natCast, Int.not_lt, Int.not_le, ge_iff_le, gt_iff_lt, UInt8.ofNat_toNat, cast_eq] at hq); (try (exfalso; first | omega | exact hq trivial | exact absurd hq (by decide)))) | refine And.intro ?_ ?_ | refine Fin.mk ?_ | refine CallG.plain rfl ?_ ?_ | refine CallG.mk rfl ?_ ?_ | refine CallG.nwl rfl ?_ ?_ | refine CallG.nw ?_ ?_ | refine CallF.nwl rfl ?_ ?_ | refine CallF.nw ?_ ?_ | refine AppN.mk ?_ | (refine CallS.q ?_; (conv => whnf); first | refine CallG.plain rfl ?_ ?_ | refine CallG.mk rfl ?_ ?_) | (refine CallS.m ?_; (conv => whnf); refine CallM.mk rfl ?_ ?_) | (refine CallS.h ?_; (conv => whnf); refine CallM.mk rfl ?_ ?_) | (refine CallS.b ?_; (conv => whnf); refine CallM.mk rfl ?_ ?_) | (refine CallS.z ?_; (conv => whnf); refine CallM.mk rfl ?_ ?_))
  all_goals (try (conv => whnf))
  all_goals (try (exact Ob.mk (u8_bnd _)))
  all_goals (try (refine Ob.mk ?_; first | exact True.intro | assumption | omega | (try simp only [decide_eq_true_eq, decide_eq_false_iff_not, beq_iff_eq, beq_eq_false_iff_ne, bne_iff_ne, bne_eq_false_iff_eq, ne_eq, Bool.and_eq_true, Bool.or_eq_true, Bool.not_eq_true, Bool.not_eq_false, Bool.not_eq_true', Bool.not_eq_false', Int.toNat_natCast, Int.not_lt, Int.not_le, UInt8.ofNat_toNat, cast_eq] at *; omega)))
  all_goals (try ((show (_:Int) = _); omega))
  all_goals (try (show tupSV _ = _; with_unfolding_all rfl))
  all_goals (try ((show (_ : Nat) ≤ _); (simp <;> omega)))
  all_goals (try ((show (_ : Nat) ≤ _ ∧ (_ : Nat) ≤ _); (simp <;> omega)))
  all_goals (try ((show (_ : Int) ≤ _ ∧ (_ : Int) ≤ _ ∧ (_ : Int) ≤ _ ∧ (_ : Int) ≤ _); (simp <;> omega)))
  · exfalso; simp_all
  refine LoopStop.mk (α := Nat) (fun p => []) (fun p => [(0, .iter s p)]) 20 (fun p => p ≤ s.length ∧ Lib.NoAny s cs p) (fun p => s.length - p) 0 ⟨by omega, Lib.NoAny.zero _ _⟩ ?_ (fun p hp => ?_)
  · repeat' ((conv => whnf); first | (with_reducible rfl) | exact True.intro | (with_reducible exact absTF) | (with_reducible exact absFT) | intro _ | refine And.intro ?_ ?_ | refine Fin.mk ?_ | refine CallG.plain rfl ?_ ?_ | refine CallG.mk rfl ?_ ?_ | refine CallG.nwl rfl ?_ ?_ | refine CallG.nw ?_ ?_ | refine CallF.nwl rfl ?_ ?_ | refine CallF.nw ?_ ?_ | refine AppN.mk ?_ | (refine CallS.q ?_; (conv => whnf); first | refine CallG.plain rfl ?_ ?_ | refine CallG.mk rfl ?_ ?_) | (refine CallS.m ?_; (conv => whnf); refine CallM.mk rfl ?_ ?_) | (refine CallS.h ?_; (conv => whnf); refine CallM.mk rfl ?_ ?_) | (refine CallS.b ?_; (conv => whnf); refine CallM.mk rfl ?_ ?_) | (refine CallS.z ?_; (conv => whnf); refine CallM.mk rfl ?_ ?_))
    all_goals (try (conv => whnf))
    all_goals (try (exact Ob.mk (u8_bnd _)))
    all_goals (try (refine Ob.mk ?_; first | exact True.intro | assumption | omega | (try simp only [decide_eq_true_eq, decide_eq_false_iff_not, beq_iff_eq, beq_eq_false_iff_ne, bne_iff_ne, bne_eq_false_iff_eq, ne_eq, Bool.and_eq_true, Bool.or_eq_true, Bool.not_eq_true, Bool.not_eq_false, Bool.not_eq_true', Bool.not_eq_false', Int.toNat_natCast, Int.not_lt, Int.not_le, UInt8.ofNat_toNat, cast_eq] at *; omega)))
    all_goals (try ((show (_:Int) = _); omega))
    all_goals (try (show tupSV _ = _; with_unfolding_all rfl))
    all_goals (try ((show (_ : Nat) ≤ _); (simp <;> omega)))
    all_goals (try ((show (_ : Nat) ≤ _ ∧ (_ : Nat) ≤ _); (simp <;> omega)))
    all_goals (try ((show (_ : Int) ≤ _ ∧ (_ : Int) ≤ _ ∧ (_ : Int) ≤ _ ∧ (_ : Int) ≤ _); (simp <;> omega)))
    all_goals rfl
  · obtain ⟨q1, q3⟩ := hp
    have hget : p < s.length → s[p]? = some (s.getD p 0) := fun hl => by simp [List.getD, List.getElem?_eq_getElem hl]
    have key : p < s.length → ((s.getD p 0).toNat < 128 ∧ decL s p = ((s.getD p 0).toNat, 1)) ∨ (128 ≤ (s.getD p 0).toNat ∧ 128 ≤ (decL s p).1 ∧ 1 ≤ (decL s p).2 ∧ p + (decL s p).2 ≤ s.length ∧ ∀ j, p ≤ j → j < p + (decL s p).2 → 128 ≤ (s.getD j 0).toNat) := fun hl => dec_place s p hl
    repeat' ((conv => whnf); first | (with_reducible rfl) | exact True.intro | (with_reducible exact absTF) | (with_reducible exact absFT) | intro _ | refine And.intro ?_ ?_ | refine Fin.mk ?_ | refine CallG.plain rfl ?_ ?_ | refine CallG.mk rfl ?_ ?_ | refine CallG.nwl rfl ?_ ?_ | refine CallG.nw ?_ ?_ | refine CallF.nwl rfl ?_ ?_ | refine CallF.nw ?_ ?_ | refine AppN.mk ?_ | (refine CallS.q ?_; (conv => whnf); first | refine CallG.plain rfl ?_ ?_ | refine CallG.mk rfl ?_ ?_) | (refine CallS.m ?_; (conv => whnf); refine CallM.mk rfl ?_ ?_) | (refine CallS.h ?_; (conv => whnf); refine CallM.mk rfl ?_ ?_) | (refine CallS.b ?_; (conv => whnf); refine CallM.mk rfl ?_ ?_) | (refine CallS.z ?_; (conv => whnf); refine CallM.mk rfl ?_ ?_))
    all_goals (try (conv => whnf))
    all_goals (try (exact Ob.mk (u8_bnd _)))
    all_goals (try (refine Ob.mk ?_; first | exact True.intro | assumption | omega | (try simp only [decide_eq_true_eq, decide_eq_false_iff_not, beq_iff_eq, beq_eq_false_iff_ne, bne_iff_ne, bne_eq_false_iff_eq, ne_eq, Bool.and_eq_true, Bool.or_eq_true, Bool.not_eq_true, Bool.not_eq_false, Bool.not_eq_true', Bool.not_eq_false', Int.toNat_natCast, Int.not_lt, Int.not_le, UInt8.ofNat_toNat, cast_eq] at *; omega)))
    all_goals (try ((show (_:Int) = _); omega))
    all_goals (try (show tupSV _ = _; with_unfolding_all rfl))
    all_goals (try ((show (_ : Nat) ≤ _); (simp <;> omega)))
    all_goals (try ((show (_ : Nat) ≤ _ ∧ (_ : Nat) ≤ _); (simp <;> omega)))
    all_goals (try ((show (_ : Int) ≤ _ ∧ (_ : Int) ≤ _ ∧ (_ : Int) ≤ _ ∧ (_ : Int) ≤ _); (simp <;> omega)))
    · exact ⟨hp4, hp3⟩
    · have hl : p < s.length := ‹_›
      have hq : decide (irC cs ((decL s p).1 : Int) ≥ 0) = true := ‹_›
      rcases key hl with ⟨k1, k2⟩ | ⟨k1, k2, _⟩
      · rw [k2, irC_low cs _ k1] at hq
        exact (Lib.indexAny_hit q3 (hget hl) hq).symm
      · rw [irC_hi cs _ (by omega)] at hq; cases hq
    · have hl : p < s.length := ‹_›
      have hq : decide (irC cs ((decL s p).1 : Int) ≥ 0) = false := ‹_›
      refine Rnd.mk ⟨p + (decL s p).2, ?_, ?_, ?_⟩
      · rcases key hl with ⟨k1, k2⟩ | ⟨k1, k2, k3, k4, k5⟩
        · rw [k2, irC_low cs _ k1] at hq
          rw [k2]
          exact ⟨by simp only; omega, q3.succ (hget hl) hq⟩
        · exact ⟨k4, noAny_more hp4 q3 k5⟩
      · rcases key hl with ⟨k1, k2⟩ | ⟨k1, k2, k3, k4, k5⟩
        · rw [k2]; simp only; omega
        · omega
      · repeat' ((conv => whnf); first | (with_reducible rfl) | exact True.intro | (with_reducible exact absTF) | (with_reducible exact absFT) | intro _ | refine And.intro ?_ ?_ | refine Fin.mk ?_ | refine CallG.plain rfl ?_ ?_ | refine CallG.mk rfl ?_ ?_ | refine CallG.nwl rfl ?_ ?_ | refine CallG.nw ?_ ?_ | refine CallF.nwl rfl ?_ ?_ | refine CallF.nw ?_ ?_ | refine AppN.mk ?_ | (refine CallS.q ?_; (conv => whnf); first | refine CallG.plain rfl ?_ ?_ | refine CallG.mk rfl ?_ ?_) | (refine CallS.m ?_; (conv => whnf); refine CallM.mk rfl ?_ ?_) | (refine CallS.h ?_; (conv => whnf); refine CallM.mk rfl ?_ ?_) | (refine CallS.b ?_; (conv => whnf); refine CallM.mk rfl ?_ ?_) | (refine CallS.z ?_; (conv => whnf); refine CallM.mk rfl ?_ ?_))
        all_goals (try (conv => whnf))
        all_goals (try (exact Ob.mk (u8_bnd _)))
        all_goals (try (refine Ob.mk ?_; first | exact True.intro | assumption | omega | (try simp only [decide_eq_true_eq, decide_eq_false_iff_not, beq_iff_eq, beq_eq_false_iff_ne, bne_iff_ne, bne_eq_false_iff_eq, ne_eq, Bool.and_eq_true, Bool.or_eq_true, Bool.not_eq_true, Bool.not_eq_false, Bool.not_eq_true', Bool.not_eq_false', Int.toNat_natCast, Int.not_lt, Int.not_le, UInt8.ofNat_toNat, cast_eq] at *; omega)))
        all_goals (try ((show (_:Int) = _); omega))
        all_goals (try (show tupSV _ = _; with_unfolding_all rfl))
        all_goals (try ((show (_ : Nat) ≤ _); (simp <;> omega)))
        all_goals (try ((show (_ : Nat) ≤ _ ∧ (_ : Nat) ≤ _); (simp <;> omega)))
        all_goals (try ((show (_ : Int) ≤ _ ∧ (_ : Int) ≤ _ ∧ (_ : Int) ≤ _ ∧ (_ : Int) ≤ _); (simp <;> omega)))
        all_goals rfl
    · have hl : ¬ p < s.length := ‹_›
      obtain rfl : p = s.length := by omega
      exact (Lib.indexAny_none q3).symm
instance fIAc (s cs : List UInt8) : Fn BB 64 [.str s, .str cs] (s.length ≤ 1000000 ∧ 2 ≤ cs.length ∧ cs.length ≤ 1000 ∧ ascB cs = true) (.int .i64 (Lib.indexAny s cs)) := by
  by_cases hl : s.length ≤ 8
  · exact ⟨(fIAsc s cs).1, fun hp => (fIAsc s cs).2 ⟨hl, hp.2⟩⟩
  · refine Fn.liftB Tryd.call64 fun hp r β w vs hG m h => ?_
    obtain ⟨rfl, h1, h2⟩ := h.str2
    have hs : (⟨s.toArray⟩ : ByteArray).size = s.length := by show s.toArray.size = _; simp
    have hc : (⟨cs.toArray⟩ : ByteArray).size = cs.length := by show cs.toArray.size = _; simp
    refine ⟨_, (Tryd.strings_IndexAny_long (by exact Tryd.zeroValue47) ⟨s.toArray⟩ ⟨cs.toArray⟩ w (by rw [hc]; omega) (by rw [hs]; omega) (by rw [hs]; omega) (by rw [hc]; omega) (fun j b hb => ascB_mem hp.2.2.2 (List.mem_of_getElem? hb))).mono fun e w' hh => ?_, .int⟩
    obtain ⟨rfl, rfl⟩ := hh
    exact ⟨rfl, ((Go.RowKit.Below.refl _ _).alloc (Nat.le_refl _) _).alloc (by simp) _⟩
theorem ixAnyC (cs s : List UInt8) : decide (Lib.indexAny s cs ≥ 0) = s.any fun b => cs.contains b := by
  induction s with
  | nil => rfl
  | cons b l ih =>
    have hge := Lib.indexAny_ge cs l
    unfold Lib.indexAny
    rw [List.any_cons]
    cases cs.contains b with
    | true => rfl
    | false =>
      simp only [Bool.false_eq_true, if_false, Bool.false_or]
      rw [← ih]
      by_cases h : Lib.indexAny l cs = -1
      · rw [h]; rfl
      · rw [if_neg (by simpa using h)]
        rw [Bool.eq_iff_iff]; simp; omega
end Go.Vc
