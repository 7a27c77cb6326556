/- A part of the proof: lemmas and walks that the last text of the claim joins; no condition. -/
import Derived.Test.YtgggnkinalmmlaaTJ
import Derived.Test.YtgggnkinalmmlaaTK
set_option linter.unusedVariables false
set_option linter.unusedSimpArgs false
namespace Go.Vc
open Go.Proofs
set_option linter.unusedVariables false
set_option maxRecDepth 10000
set_option linter.unusedSimpArgs false
set_option maxHeartbeats 2000000
def upB (c : UInt8) : Bool := decide (65 ≤ c.toNat) && decide (c.toNat ≤ 90)
def lowB (c : UInt8) : UInt8 := if upB c then c + 32 else c
def lowL (s : List UInt8) : List UInt8 := s.map lowB
def lowAt (s : List UInt8) (i : Nat) : List UInt8 := (s.take i).map lowB ++ s.drop i
theorem lowAt_len (s : List UInt8) (i : Nat) (h : i ≤ s.length) : (lowAt s i).length = s.length := by simp [lowAt]; omega
theorem lowAt_get (s : List UInt8) (i : Nat) (h : i < s.length) : (lowAt s i).getD i 0 = s.getD i 0 := by
  unfold lowAt
  have hl : ((s.take i).map lowB).length = i := by simp; omega
  simp only [List.getD]
  rw [List.getElem?_append_right (by omega), hl]
  simp
theorem lowAt_set (s : List UInt8) (i : Nat) (h : i < s.length) : (lowAt s i).set i (lowB (s.getD i 0)) = lowAt s (i + 1) := by
  unfold lowAt
  have hl : ((s.take i).map lowB).length = i := by simp; omega
  rw [List.set_append_right _ _ (by omega), hl, Nat.sub_self, List.drop_eq_getElem_cons h, List.set_cons_zero, List.take_succ_eq_append_getElem h, List.map_append]
  simp [List.getD, List.getElem?_eq_getElem h]
theorem lowAt_same (s : List UInt8) (i : Nat) (h : i < s.length) (hu : upB (s.getD i 0) = false) : lowAt s (i + 1) = lowAt s i := by
  rw [← lowAt_set s i h]
  have : lowB (s.getD i 0) = s.getD i 0 := by unfold lowB; rw [hu]; rfl
  rw [this]
  have h2 := lowAt_get s i h
  have hl := lowAt_len s i (by omega)
  apply List.ext_getElem? 
  intro j
  rw [List.getElem?_set]
  split
  · rename_i e
    subst e
    rw [if_pos (by omega), ← h2]
    simp [List.getD, List.getElem?_eq_getElem (show i < (lowAt s i).length by omega)]
  · rfl
theorem lowAt_end (s : List UInt8) : lowAt s s.length = lowL s := by simp [lowAt, lowL]
theorem low_or (c : UInt8) (h : upB c = true) : UInt8.ofNat (bitsI .or .u8 (c.toNat : Int) 32).toNat = lowB c := by
  have key : ∀ k : _root_.Fin 256, upB (UInt8.ofNat k.val) = true → UInt8.ofNat (bitsI .or .u8 (k.val : Int) 32).toNat = lowB (UInt8.ofNat k.val) := by decide +kernel
  have := key ⟨c.toNat, c.toNat_lt⟩
  simp only [UInt8.ofNat_toNat] at this
  exact this h
theorem low_orb (c : UInt8) : 0 ≤ bitsI .or .u8 (c.toNat : Int) 32 ∧ bitsI .or .u8 (c.toNat : Int) 32 ≤ 255 := by
  have key : ∀ k : _root_.Fin 256, 0 ≤ bitsI .or .u8 (k.val : Int) 32 ∧ bitsI .or .u8 (k.val : Int) 32 ≤ 255 := by decide +kernel
  exact key ⟨c.toNat, c.toNat_lt⟩
theorem low_add (c : UInt8) (h : upB c = true) : UInt8.ofNat (IntKind.u8.wrap ((c.toNat : Int) + 32)).toNat = lowB c := by
  have key : ∀ k : _root_.Fin 256, upB (UInt8.ofNat k.val) = true → UInt8.ofNat (IntKind.u8.wrap ((k.val : Int) + 32)).toNat = lowB (UInt8.ofNat k.val) := by decide +kernel
  have := key ⟨c.toNat, c.toNat_lt⟩
  simp only [UInt8.ofNat_toNat] at this
  exact this h
theorem low_addb (c : UInt8) : 0 ≤ IntKind.u8.wrap ((c.toNat : Int) + 32) ∧ IntKind.u8.wrap ((c.toNat : Int) + 32) ≤ 255 := by
  have key : ∀ k : _root_.Fin 256, 0 ≤ IntKind.u8.wrap ((k.val : Int) + 32) ∧ IntKind.u8.wrap ((k.val : Int) + 32) ≤ 255 := by decide +kernel
  exact key ⟨c.toNat, c.toNat_lt⟩
theorem up_eq (c : UInt8) : (decide ((65 : Int) ≤ (c.toNat : Int)) && decide ((c.toNat : Int) ≤ 90)) = upB c := by
  unfold upB
  congr 1 <;> (rw [Bool.eq_iff_iff]; simp; try omega)
instance lLower (s : List UInt8) : Fn BB 18 [.str s] True (.str (lowL s)) := by
  refine Fn.intro (N := 29) [0, 2, 3, 4, 5, 8, 9, 10, 11, 20] [] Try.call18 Try.func18 rfl rfl (by kernel_rfl) (fun hpre => ?_)
  repeat' ((conv => whnf); first | (with_reducible rfl) | exact True.intro | (with_reducible exact absTF) | (with_reducible exact absFT) | intro _ | refine And.intro ?_ ?_ | refine Fin.mk ?_ | refine CallG.plain rfl ?_ ?_ | refine CallG.mk rfl ?_ ?_ | refine CallG.nwl rfl ?_ ?_ | refine CallG.nw ?_ ?_ | refine CallF.nwl rfl ?_ ?_ | refine CallF.nw ?_ ?_ | refine AppN.mk ?_ | (refine CallS.q ?_; (conv => whnf); first | refine CallG.plain rfl ?_ ?_ | refine CallG.mk rfl ?_ ?_) | (refine CallS.m ?_; (conv => whnf); refine CallM.mk rfl ?_ ?_) | (refine CallS.h ?_; (conv => whnf); refine CallM.mk rfl ?_ ?_) | (refine CallS.b ?_; (conv => whnf); refine CallM.mk rfl ?_ ?_) | (refine CallS.z ?_; (conv => whnf); refine CallM.mk rfl ?_ ?_))
  all_goals (try (conv => whnf))
  all_goals (try (exact Ob.mk (u8_bnd _)))
  all_goals (try (refine Ob.mk ?_; first | exact True.intro | assumption | omega | (try simp only [decide_eq_true_eq, decide_eq_false_iff_not, beq_iff_eq, beq_eq_false_iff_ne, bne_iff_ne, bne_eq_false_iff_eq, ne_eq, Bool.and_eq_true, Bool.or_eq_true, Bool.not_eq_true, Bool.not_eq_false, Bool.not_eq_true', Bool.not_eq_false', Int.toNat_natCast, Int.not_lt, Int.not_le, UInt8.ofNat_toNat, cast_eq] at *; omega)))
  all_goals (try ((show (_:Int) = _); omega))
  all_goals (try (show tupSV _ = _; with_unfolding_all rfl))
  all_goals (try ((show (_ : Nat) ≤ _); (simp <;> omega)))
  all_goals (try ((show (_ : Nat) ≤ _ ∧ (_ : Nat) ≤ _); (simp <;> omega)))
  all_goals (try ((show (_ : Int) ≤ _ ∧ (_ : Int) ≤ _ ∧ (_ : Int) ≤ _ ∧ (_ : Int) ≤ _); (simp <;> omega)))
  refine LoopStop.mk (α := Nat) (fun i => [(10, .int .i64 i)]) (fun i => [(0, .own .byte (lowAt s i))]) 20 (fun i => i ≤ s.length) (fun i => s.length + 1 - i) 0 (by simp) ?_ (fun i hi => ?_)
  · repeat' ((conv => whnf); first | (with_reducible rfl) | exact True.intro | (with_reducible exact absTF) | (with_reducible exact absFT) | intro _ | refine And.intro ?_ ?_ | refine Fin.mk ?_ | refine CallG.plain rfl ?_ ?_ | refine CallG.mk rfl ?_ ?_ | refine CallG.nwl rfl ?_ ?_ | refine CallG.nw ?_ ?_ | refine CallF.nwl rfl ?_ ?_ | refine CallF.nw ?_ ?_ | refine AppN.mk ?_ | (refine CallS.q ?_; (conv => whnf); first | refine CallG.plain rfl ?_ ?_ | refine CallG.mk rfl ?_ ?_) | (refine CallS.m ?_; (conv => whnf); refine CallM.mk rfl ?_ ?_) | (refine CallS.h ?_; (conv => whnf); refine CallM.mk rfl ?_ ?_) | (refine CallS.b ?_; (conv => whnf); refine CallM.mk rfl ?_ ?_) | (refine CallS.z ?_; (conv => whnf); refine CallM.mk rfl ?_ ?_))
    all_goals (try (conv => whnf))
    all_goals (try (exact Ob.mk (u8_bnd _)))
    all_goals (try (refine Ob.mk ?_; first | exact True.intro | assumption | omega | (try simp only [decide_eq_true_eq, decide_eq_false_iff_not, beq_iff_eq, beq_eq_false_iff_ne, bne_iff_ne, bne_eq_false_iff_eq, ne_eq, Bool.and_eq_true, Bool.or_eq_true, Bool.not_eq_true, Bool.not_eq_false, Bool.not_eq_true', Bool.not_eq_false', Int.toNat_natCast, Int.not_lt, Int.not_le, UInt8.ofNat_toNat, cast_eq] at *; omega)))
    all_goals (try ((show (_:Int) = _); omega))
    all_goals (try (show tupSV _ = _; with_unfolding_all rfl))
    all_goals (try ((show (_ : Nat) ≤ _); (simp <;> omega)))
    all_goals (try ((show (_ : Nat) ≤ _ ∧ (_ : Nat) ≤ _); (simp <;> omega)))
    all_goals (try ((show (_ : Int) ≤ _ ∧ (_ : Int) ≤ _ ∧ (_ : Int) ≤ _ ∧ (_ : Int) ≤ _); (simp <;> omega)))
    all_goals rfl
  · have hg := fun h => lowAt_get s i h
    have hst := fun h => lowAt_set s i h
    have hln := lowAt_len s i hi
    repeat' ((conv => whnf); first | (with_reducible rfl) | exact True.intro | (with_reducible exact absTF) | (with_reducible exact absFT) | intro _ | refine And.intro ?_ ?_ | refine Fin.mk ?_ | refine CallG.plain rfl ?_ ?_ | refine CallG.mk rfl ?_ ?_ | refine CallG.nwl rfl ?_ ?_ | refine CallG.nw ?_ ?_ | refine CallF.nwl rfl ?_ ?_ | refine CallF.nw ?_ ?_ | refine AppN.mk ?_ | (refine CallS.q ?_; (conv => whnf); first | refine CallG.plain rfl ?_ ?_ | refine CallG.mk rfl ?_ ?_) | (refine CallS.m ?_; (conv => whnf); refine CallM.mk rfl ?_ ?_) | (refine CallS.h ?_; (conv => whnf); refine CallM.mk rfl ?_ ?_) | (refine CallS.b ?_; (conv => whnf); refine CallM.mk rfl ?_ ?_) | (refine CallS.z ?_; (conv => whnf); refine CallM.mk rfl ?_ ?_))
    all_goals (try (conv => whnf))
    all_goals (try (exact Ob.mk (u8_bnd _)))
    all_goals (try (refine Ob.mk ?_; first | exact True.intro | assumption | omega | (try simp only [decide_eq_true_eq, decide_eq_false_iff_not, beq_iff_eq, beq_eq_false_iff_ne, bne_iff_ne, bne_eq_false_iff_eq, ne_eq, Bool.and_eq_true, Bool.or_eq_true, Bool.not_eq_true, Bool.not_eq_false, Bool.not_eq_true', Bool.not_eq_false', Int.toNat_natCast, Int.not_lt, Int.not_le, UInt8.ofNat_toNat, cast_eq] at *; omega)))
    all_goals (try ((show (_:Int) = _); omega))
    all_goals (try (show tupSV _ = _; with_unfolding_all rfl))
    all_goals (try ((show (_ : Nat) ≤ _); (simp <;> omega)))
    all_goals (try ((show (_ : Nat) ≤ _ ∧ (_ : Nat) ≤ _); (simp <;> omega)))
    all_goals (try ((show (_ : Int) ≤ _ ∧ (_ : Int) ≤ _ ∧ (_ : Int) ≤ _ ∧ (_ : Int) ≤ _); (simp <;> omega)))
    all_goals (try simp only [Int.toNat_natCast, Ty.dflt] at *)
    all_goals (first | exact low_orb _ | skip)
    · rename_i hl h
      have hl := of_decide_eq_true hl
      have h : upB ((lowAt s i).getD i 0) = true := (up_eq _).symm.trans h
      refine Rnd.mk ⟨i + 1, by omega, by omega, ?_⟩
      repeat' ((conv => whnf); first | (with_reducible rfl) | exact True.intro | (with_reducible exact absTF) | (with_reducible exact absFT) | intro _ | refine And.intro ?_ ?_ | refine Fin.mk ?_ | refine CallG.plain rfl ?_ ?_ | refine CallG.mk rfl ?_ ?_ | refine CallG.nwl rfl ?_ ?_ | refine CallG.nw ?_ ?_ | refine CallF.nwl rfl ?_ ?_ | refine CallF.nw ?_ ?_ | refine AppN.mk ?_ | (refine CallS.q ?_; (conv => whnf); first | refine CallG.plain rfl ?_ ?_ | refine CallG.mk rfl ?_ ?_) | (refine CallS.m ?_; (conv => whnf); refine CallM.mk rfl ?_ ?_) | (refine CallS.h ?_; (conv => whnf); refine CallM.mk rfl ?_ ?_) | (refine CallS.b ?_; (conv => whnf); refine CallM.mk rfl ?_ ?_) | (refine CallS.z ?_; (conv => whnf); refine CallM.mk rfl ?_ ?_))
      all_goals (try (conv => whnf))
      all_goals (try (exact Ob.mk (u8_bnd _)))
      all_goals (try (refine Ob.mk ?_; first | exact True.intro | assumption | omega | (try simp only [decide_eq_true_eq, decide_eq_false_iff_not, beq_iff_eq, beq_eq_false_iff_ne, bne_iff_ne, bne_eq_false_iff_eq, ne_eq, Bool.and_eq_true, Bool.or_eq_true, Bool.not_eq_true, Bool.not_eq_false, Bool.not_eq_true', Bool.not_eq_false', Int.toNat_natCast, Int.not_lt, Int.not_le, UInt8.ofNat_toNat, cast_eq] at *; omega)))
      all_goals (try ((show (_:Int) = _); omega))
      all_goals (try (show tupSV _ = _; with_unfolding_all rfl))
      all_goals (try ((show (_ : Nat) ≤ _); (simp <;> omega)))
      all_goals (try ((show (_ : Nat) ≤ _ ∧ (_ : Nat) ≤ _); (simp <;> omega)))
      all_goals (try ((show (_ : Int) ≤ _ ∧ (_ : Int) ≤ _ ∧ (_ : Int) ≤ _ ∧ (_ : Int) ≤ _); (simp <;> omega)))
      all_goals (rw [low_or _ h, hg (by omega), hst (by omega)])
    · rename_i hl h
      have hl := of_decide_eq_true hl
      have h : upB ((lowAt s i).getD i 0) = false := (up_eq _).symm.trans h
      rw [hg (by omega)] at h
      refine Rnd.mk ⟨i + 1, by omega, by omega, ?_⟩
      repeat' ((conv => whnf); first | (with_reducible rfl) | exact True.intro | (with_reducible exact absTF) | (with_reducible exact absFT) | intro _ | refine And.intro ?_ ?_ | refine Fin.mk ?_ | refine CallG.plain rfl ?_ ?_ | refine CallG.mk rfl ?_ ?_ | refine CallG.nwl rfl ?_ ?_ | refine CallG.nw ?_ ?_ | refine CallF.nwl rfl ?_ ?_ | refine CallF.nw ?_ ?_ | refine AppN.mk ?_ | (refine CallS.q ?_; (conv => whnf); first | refine CallG.plain rfl ?_ ?_ | refine CallG.mk rfl ?_ ?_) | (refine CallS.m ?_; (conv => whnf); refine CallM.mk rfl ?_ ?_) | (refine CallS.h ?_; (conv => whnf); refine CallM.mk rfl ?_ ?_) | (refine CallS.b ?_; (conv => whnf); refine CallM.mk rfl ?_ ?_) | (refine CallS.z ?_; (conv => whnf); refine CallM.mk rfl ?_ ?_))
      all_goals (try (conv => whnf))
      all_goals (try (exact Ob.mk (u8_bnd _)))
      all_goals (try (refine Ob.mk ?_; first | exact True.intro | assumption | omega | (try simp only [decide_eq_true_eq, decide_eq_false_iff_not, beq_iff_eq, beq_eq_false_iff_ne, bne_iff_ne, bne_eq_false_iff_eq, ne_eq, Bool.and_eq_true, Bool.or_eq_true, Bool.not_eq_true, Bool.not_eq_false, Bool.not_eq_true', Bool.not_eq_false', Int.toNat_natCast, Int.not_lt, Int.not_le, UInt8.ofNat_toNat, cast_eq] at *; omega)))
      all_goals (try ((show (_:Int) = _); omega))
      all_goals (try (show tupSV _ = _; with_unfolding_all rfl))
      all_goals (try ((show (_ : Nat) ≤ _); (simp <;> omega)))
      all_goals (try ((show (_ : Nat) ≤ _ ∧ (_ : Nat) ≤ _); (simp <;> omega)))
      all_goals (try ((show (_ : Int) ≤ _ ∧ (_ : Int) ≤ _ ∧ (_ : Int) ≤ _ ∧ (_ : Int) ≤ _); (simp <;> omega)))
      all_goals (rw [lowAt_same s i (by omega) h])
    · rename_i hl
      have hl := of_decide_eq_false hl
      have : i = s.length := by omega
      rw [this, lowAt_end]
instance lRLower (s : List UInt8) : Fn BB 22 [.str s] True (.str (lowL s)) := by
  refine Fn.intro (N := 33) [0, 2, 3, 4, 10, 24] [] Try.call22 Try.func22 rfl rfl (by kernel_rfl) (fun hpre => ?_)
  repeat' ((conv => whnf); first | (with_reducible rfl) | exact True.intro | (with_reducible exact absTF) | (with_reducible exact absFT) | intro _ | refine And.intro ?_ ?_ | refine Fin.mk ?_ | refine CallG.plain rfl ?_ ?_ | refine CallG.mk rfl ?_ ?_ | refine CallG.nwl rfl ?_ ?_ | refine CallG.nw ?_ ?_ | refine CallF.nwl rfl ?_ ?_ | refine CallF.nw ?_ ?_ | refine AppN.mk ?_ | (refine CallS.q ?_; (conv => whnf); first | refine CallG.plain rfl ?_ ?_ | refine CallG.mk rfl ?_ ?_) | (refine CallS.m ?_; (conv => whnf); refine CallM.mk rfl ?_ ?_) | (refine CallS.h ?_; (conv => whnf); refine CallM.mk rfl ?_ ?_) | (refine CallS.b ?_; (conv => whnf); refine CallM.mk rfl ?_ ?_) | (refine CallS.z ?_; (conv => whnf); refine CallM.mk rfl ?_ ?_))
  all_goals (try (conv => whnf))
  all_goals (try (exact Ob.mk (u8_bnd _)))
  all_goals (try (refine Ob.mk ?_; first | exact True.intro | assumption | omega | (try simp only [decide_eq_true_eq, decide_eq_false_iff_not, beq_iff_eq, beq_eq_false_iff_ne, bne_iff_ne, bne_eq_false_iff_eq, ne_eq, Bool.and_eq_true, Bool.or_eq_true, Bool.not_eq_true, Bool.not_eq_false, Bool.not_eq_true', Bool.not_eq_false', Int.toNat_natCast, Int.not_lt, Int.not_le, UInt8.ofNat_toNat, cast_eq] at *; omega)))
  all_goals (try ((show (_:Int) = _); omega))
  all_goals (try (show tupSV _ = _; with_unfolding_all rfl))
  all_goals (try ((show (_ : Nat) ≤ _); (simp <;> omega)))
  all_goals (try ((show (_ : Nat) ≤ _ ∧ (_ : Nat) ≤ _); (simp <;> omega)))
  all_goals (try ((show (_ : Int) ≤ _ ∧ (_ : Int) ≤ _ ∧ (_ : Int) ≤ _ ∧ (_ : Int) ≤ _); (simp <;> omega)))
  refine LoopStop.mk (α := Nat) (fun i => [(4, .int .i64 i)]) (fun i => [(0, .own .byte (lowAt s i))]) 20 (fun i => i ≤ s.length) (fun i => s.length + 1 - i) 0 (by simp) ?_ (fun i hi => ?_)
  · repeat' ((conv => whnf); first | (with_reducible rfl) | exact True.intro | (with_reducible exact absTF) | (with_reducible exact absFT) | intro _ | refine And.intro ?_ ?_ | refine Fin.mk ?_ | refine CallG.plain rfl ?_ ?_ | refine CallG.mk rfl ?_ ?_ | refine CallG.nwl rfl ?_ ?_ | refine CallG.nw ?_ ?_ | refine CallF.nwl rfl ?_ ?_ | refine CallF.nw ?_ ?_ | refine AppN.mk ?_ | (refine CallS.q ?_; (conv => whnf); first | refine CallG.plain rfl ?_ ?_ | refine CallG.mk rfl ?_ ?_) | (refine CallS.m ?_; (conv => whnf); refine CallM.mk rfl ?_ ?_) | (refine CallS.h ?_; (conv => whnf); refine CallM.mk rfl ?_ ?_) | (refine CallS.b ?_; (conv => whnf); refine CallM.mk rfl ?_ ?_) | (refine CallS.z ?_; (conv => whnf); refine CallM.mk rfl ?_ ?_))
    all_goals (try (conv => whnf))
    all_goals (try (exact Ob.mk (u8_bnd _)))
    all_goals (try (refine Ob.mk ?_; first | exact True.intro | assumption | omega | (try simp only [decide_eq_true_eq, decide_eq_false_iff_not, beq_iff_eq, beq_eq_false_iff_ne, bne_iff_ne, bne_eq_false_iff_eq, ne_eq, Bool.and_eq_true, Bool.or_eq_true, Bool.not_eq_true, Bool.not_eq_false, Bool.not_eq_true', Bool.not_eq_false', Int.toNat_natCast, Int.not_lt, Int.not_le, UInt8.ofNat_toNat, cast_eq] at *; omega)))
    all_goals (try ((show (_:Int) = _); omega))
    all_goals (try (show tupSV _ = _; with_unfolding_all rfl))
    all_goals (try ((show (_ : Nat) ≤ _); (simp <;> omega)))
    all_goals (try ((show (_ : Nat) ≤ _ ∧ (_ : Nat) ≤ _); (simp <;> omega)))
    all_goals (try ((show (_ : Int) ≤ _ ∧ (_ : Int) ≤ _ ∧ (_ : Int) ≤ _ ∧ (_ : Int) ≤ _); (simp <;> omega)))
    all_goals rfl
  · have hg := fun h => lowAt_get s i h
    have hst := fun h => lowAt_set s i h
    have hln := lowAt_len s i hi
    have ue : (decide ((((lowAt s i).getD i 0).toNat : Int) ≥ 65) && decide ((((lowAt s i).getD i 0).toNat : Int) ≤ 90)) = upB ((lowAt s i).getD i 0) := up_eq _
    repeat' ((conv => whnf); first | (with_reducible rfl) | exact True.intro | (with_reducible exact absTF) | (with_reducible exact absFT) | intro _ | refine And.intro ?_ ?_ | refine Fin.mk ?_ | refine CallG.plain rfl ?_ ?_ | refine CallG.mk rfl ?_ ?_ | refine CallG.nwl rfl ?_ ?_ | refine CallG.nw ?_ ?_ | refine CallF.nwl rfl ?_ ?_ | refine CallF.nw ?_ ?_ | refine AppN.mk ?_ | (refine CallS.q ?_; (conv => whnf); first | refine CallG.plain rfl ?_ ?_ | refine CallG.mk rfl ?_ ?_) | (refine CallS.m ?_; (conv => whnf); refine CallM.mk rfl ?_ ?_) | (refine CallS.h ?_; (conv => whnf); refine CallM.mk rfl ?_ ?_) | (refine CallS.b ?_; (conv => whnf); refine CallM.mk rfl ?_ ?_) | (refine CallS.z ?_; (conv => whnf); refine CallM.mk rfl ?_ ?_))
    all_goals (try (conv => whnf))
    all_goals (try (exact Ob.mk (u8_bnd _)))
    all_goals (try (refine Ob.mk ?_; first | exact True.intro | assumption | omega | (try simp only [decide_eq_true_eq, decide_eq_false_iff_not, beq_iff_eq, beq_eq_false_iff_ne, bne_iff_ne, bne_eq_false_iff_eq, ne_eq, Bool.and_eq_true, Bool.or_eq_true, Bool.not_eq_true, Bool.not_eq_false, Bool.not_eq_true', Bool.not_eq_false', Int.toNat_natCast, Int.not_lt, Int.not_le, UInt8.ofNat_toNat, cast_eq] at *; omega)))
    all_goals (try ((show (_:Int) = _); omega))
    all_goals (try (show tupSV _ = _; with_unfolding_all rfl))
    all_goals (try ((show (_ : Nat) ≤ _); (simp <;> omega)))
    all_goals (try ((show (_ : Nat) ≤ _ ∧ (_ : Nat) ≤ _); (simp <;> omega)))
    all_goals (try ((show (_ : Int) ≤ _ ∧ (_ : Int) ≤ _ ∧ (_ : Int) ≤ _ ∧ (_ : Int) ≤ _); (simp <;> omega)))
    all_goals (try simp only [Int.toNat_natCast, Ty.dflt] at *)
    all_goals (first | exact low_addb _ | skip)
    · rename_i hl h
      have hl := of_decide_eq_true hl
      have h : upB ((lowAt s i).getD i 0) = true := ue.symm.trans h
      refine Rnd.mk ⟨i + 1, by omega, by omega, ?_⟩
      repeat' ((conv => whnf); first | (with_reducible rfl) | exact True.intro | (with_reducible exact absTF) | (with_reducible exact absFT) | intro _ | refine And.intro ?_ ?_ | refine Fin.mk ?_ | refine CallG.plain rfl ?_ ?_ | refine CallG.mk rfl ?_ ?_ | refine CallG.nwl rfl ?_ ?_ | refine CallG.nw ?_ ?_ | refine CallF.nwl rfl ?_ ?_ | refine CallF.nw ?_ ?_ | refine AppN.mk ?_ | (refine CallS.q ?_; (conv => whnf); first | refine CallG.plain rfl ?_ ?_ | refine CallG.mk rfl ?_ ?_) | (refine CallS.m ?_; (conv => whnf); refine CallM.mk rfl ?_ ?_) | (refine CallS.h ?_; (conv => whnf); refine CallM.mk rfl ?_ ?_) | (refine CallS.b ?_; (conv => whnf); refine CallM.mk rfl ?_ ?_) | (refine CallS.z ?_; (conv => whnf); refine CallM.mk rfl ?_ ?_))
      all_goals (try (conv => whnf))
      all_goals (try (exact Ob.mk (u8_bnd _)))
      all_goals (try (refine Ob.mk ?_; first | exact True.intro | assumption | omega | (try simp only [decide_eq_true_eq, decide_eq_false_iff_not, beq_iff_eq, beq_eq_false_iff_ne, bne_iff_ne, bne_eq_false_iff_eq, ne_eq, Bool.and_eq_true, Bool.or_eq_true, Bool.not_eq_true, Bool.not_eq_false, Bool.not_eq_true', Bool.not_eq_false', Int.toNat_natCast, Int.not_lt, Int.not_le, UInt8.ofNat_toNat, cast_eq] at *; omega)))
      all_goals (try ((show (_:Int) = _); omega))
      all_goals (try (show tupSV _ = _; with_unfolding_all rfl))
      all_goals (try ((show (_ : Nat) ≤ _); (simp <;> omega)))
      all_goals (try ((show (_ : Nat) ≤ _ ∧ (_ : Nat) ≤ _); (simp <;> omega)))
      all_goals (try ((show (_ : Int) ≤ _ ∧ (_ : Int) ≤ _ ∧ (_ : Int) ≤ _ ∧ (_ : Int) ≤ _); (simp <;> omega)))
      all_goals (rw [low_add _ h, hg (by omega), hst (by omega)])
    · rename_i hl h
      have hl := of_decide_eq_true hl
      have h : upB ((lowAt s i).getD i 0) = false := ue.symm.trans h
      rw [hg (by omega)] at h
      refine Rnd.mk ⟨i + 1, by omega, by omega, ?_⟩
      repeat' ((conv => whnf); first | (with_reducible rfl) | exact True.intro | (with_reducible exact absTF) | (with_reducible exact absFT) | intro _ | refine And.intro ?_ ?_ | refine Fin.mk ?_ | refine CallG.plain rfl ?_ ?_ | refine CallG.mk rfl ?_ ?_ | refine CallG.nwl rfl ?_ ?_ | refine CallG.nw ?_ ?_ | refine CallF.nwl rfl ?_ ?_ | refine CallF.nw ?_ ?_ | refine AppN.mk ?_ | (refine CallS.q ?_; (conv => whnf); first | refine CallG.plain rfl ?_ ?_ | refine CallG.mk rfl ?_ ?_) | (refine CallS.m ?_; (conv => whnf); refine CallM.mk rfl ?_ ?_) | (refine CallS.h ?_; (conv => whnf); refine CallM.mk rfl ?_ ?_) | (refine CallS.b ?_; (conv => whnf); refine CallM.mk rfl ?_ ?_) | (refine CallS.z ?_; (conv => whnf); refine CallM.mk rfl ?_ ?_))
      all_goals (try (conv => whnf))
      all_goals (try (exact Ob.mk (u8_bnd _)))
      all_goals (try (refine Ob.mk ?_; first | exact True.intro | assumption | omega | (try simp only [decide_eq_true_eq, decide_eq_false_iff_not, beq_iff_eq, beq_eq_false_iff_ne, bne_iff_ne, bne_eq_false_iff_eq, ne_eq, Bool.and_eq_true, Bool.or_eq_true, Bool.not_eq_true, Bool.not_eq_false, Bool.not_eq_true', Bool.not_eq_false', Int.toNat_natCast, Int.not_lt, Int.not_le, UInt8.ofNat_toNat, cast_eq] at *; omega)))
      all_goals (try ((show (_:Int) = _); omega))
      all_goals (try (show tupSV _ = _; with_unfolding_all rfl))
      all_goals (try ((show (_ : Nat) ≤ _); (simp <;> omega)))
      all_goals (try ((show (_ : Nat) ≤ _ ∧ (_ : Nat) ≤ _); (simp <;> omega)))
      all_goals (try ((show (_ : Int) ≤ _ ∧ (_ : Int) ≤ _ ∧ (_ : Int) ≤ _ ∧ (_ : Int) ≤ _); (simp <;> omega)))
      all_goals (rw [lowAt_same s i (by omega) h])
    · rename_i hl
      have hl := of_decide_eq_false hl
      have : i = s.length := by omega
      rw [this, lowAt_end]
theorem lowL_len (s : List UInt8) : (lowL s).length = s.length := by simp [lowL]
instance aFold (s t : List UInt8) : Fn BB 27 [.str s, .str t] True (.bool (lowL s == lowL t)) := by
  refine Fn.intro (N := 17) [0, 1, 4] [] Try.call27 Try.func27 rfl rfl (by kernel_rfl) (fun hpre => ?_)
  repeat' ((conv => whnf); first | (with_reducible rfl) | exact True.intro | (with_reducible exact absTF) | (with_reducible exact absFT) | intro _ | refine And.intro ?_ ?_ | refine Fin.mk ?_ | refine CallG.plain rfl ?_ ?_ | refine CallG.mk rfl ?_ ?_ | refine CallG.nwl rfl ?_ ?_ | refine CallG.nw ?_ ?_ | refine CallF.nwl rfl ?_ ?_ | refine CallF.nw ?_ ?_ | refine AppN.mk ?_ | (refine CallS.q ?_; (conv => whnf); first | refine CallG.plain rfl ?_ ?_ | refine CallG.mk rfl ?_ ?_) | (refine CallS.m ?_; (conv => whnf); refine CallM.mk rfl ?_ ?_) | (refine CallS.h ?_; (conv => whnf); refine CallM.mk rfl ?_ ?_) | (refine CallS.b ?_; (conv => whnf); refine CallM.mk rfl ?_ ?_) | (refine CallS.z ?_; (conv => whnf); refine CallM.mk rfl ?_ ?_))
  all_goals (try (conv => whnf))
  all_goals (try (exact Ob.mk (u8_bnd _)))
  all_goals (try (refine Ob.mk ?_; first | exact True.intro | assumption | omega | (try simp only [decide_eq_true_eq, decide_eq_false_iff_not, beq_iff_eq, beq_eq_false_iff_ne, bne_iff_ne, bne_eq_false_iff_eq, ne_eq, Bool.and_eq_true, Bool.or_eq_true, Bool.not_eq_true, Bool.not_eq_false, Bool.not_eq_true', Bool.not_eq_false', Int.toNat_natCast, Int.not_lt, Int.not_le, UInt8.ofNat_toNat, cast_eq] at *; omega)))
  all_goals (try ((show (_:Int) = _); omega))
  all_goals (try (show tupSV _ = _; with_unfolding_all rfl))
  all_goals (try ((show (_ : Nat) ≤ _); (simp <;> omega)))
  all_goals (try ((show (_ : Nat) ≤ _ ∧ (_ : Nat) ≤ _); (simp <;> omega)))
  all_goals (try ((show (_ : Int) ≤ _ ∧ (_ : Int) ≤ _ ∧ (_ : Int) ≤ _ ∧ (_ : Int) ≤ _); (simp <;> omega)))
  by_cases q : lowL s = lowL t
  · have h1 := congrArg List.length q
    rw [lowL_len, lowL_len] at h1
    simp [q, h1]
  · simp [q]
instance aRFold (s t : List UInt8) : Fn BB 29 [.str s, .str t] True (.bool (lowL s == lowL t)) := by
  refine Fn.intro (N := 10) [0, 1, 4] [] Try.call29 Try.func29 rfl rfl (by kernel_rfl) (fun hpre => ?_)
  repeat' ((conv => whnf); first | (with_reducible rfl) | exact True.intro | (with_reducible exact absTF) | (with_reducible exact absFT) | intro _ | refine And.intro ?_ ?_ | refine Fin.mk ?_ | refine CallG.plain rfl ?_ ?_ | refine CallG.mk rfl ?_ ?_ | refine CallG.nwl rfl ?_ ?_ | refine CallG.nw ?_ ?_ | refine CallF.nwl rfl ?_ ?_ | refine CallF.nw ?_ ?_ | refine AppN.mk ?_ | (refine CallS.q ?_; (conv => whnf); first | refine CallG.plain rfl ?_ ?_ | refine CallG.mk rfl ?_ ?_) | (refine CallS.m ?_; (conv => whnf); refine CallM.mk rfl ?_ ?_) | (refine CallS.h ?_; (conv => whnf); refine CallM.mk rfl ?_ ?_) | (refine CallS.b ?_; (conv => whnf); refine CallM.mk rfl ?_ ?_) | (refine CallS.z ?_; (conv => whnf); refine CallM.mk rfl ?_ ?_))
  all_goals (try (conv => whnf))
  all_goals (try (exact Ob.mk (u8_bnd _)))
  all_goals (try (refine Ob.mk ?_; first | exact True.intro | assumption | omega | (try simp only [decide_eq_true_eq, decide_eq_false_iff_not, beq_iff_eq, beq_eq_false_iff_ne, bne_iff_ne, bne_eq_false_iff_eq, ne_eq, Bool.and_eq_true, Bool.or_eq_true, Bool.not_eq_true, Bool.not_eq_false, Bool.not_eq_true', Bool.not_eq_false', Int.toNat_natCast, Int.not_lt, Int.not_le, UInt8.ofNat_toNat, cast_eq] at *; omega)))
  all_goals (try ((show (_:Int) = _); omega))
  all_goals (try (show tupSV _ = _; with_unfolding_all rfl))
  all_goals (try ((show (_ : Nat) ≤ _); (simp <;> omega)))
  all_goals (try ((show (_ : Nat) ≤ _ ∧ (_ : Nat) ≤ _); (simp <;> omega)))
  all_goals (try ((show (_ : Int) ≤ _ ∧ (_ : Int) ≤ _ ∧ (_ : Int) ≤ _ ∧ (_ : Int) ≤ _); (simp <;> omega)))
end Go.Vc

namespace Go.Vc
open Go.Proofs
set_option linter.unusedVariables false
set_option maxRecDepth 10000
set_option linter.unusedSimpArgs false
set_option maxHeartbeats 4000000
abbrev AttrD := List UInt8 × List UInt8
def blB (c : UInt8) : Bool := W.isSp c.toNat
/-- how far a text goes on so -/
def twN (p : UInt8 → Bool) (l : List UInt8) : Nat := (l.takeWhile p).length
theorem twN_le (p : UInt8 → Bool) (l : List UInt8) : twN p l ≤ l.length := (List.takeWhile_sublist p (l := l)).length_le
theorem tw_at (p : UInt8 → Bool) (s : List UInt8) (i : Nat) (h : i < s.length) : twN p (s.drop i) = if p (s.getD i 0) = true then twN p (s.drop (i + 1)) + 1 else 0 := by
  have e : s.getD i 0 = s[i] := by simp [List.getD, List.getElem?_eq_getElem h]
  rw [e]
  unfold twN
  rw [List.drop_eq_getElem_cons h, List.takeWhile_cons]
  split <;> simp
theorem tw_end (p : UInt8 → Bool) (s : List UInt8) (i : Nat) (h : s.length ≤ i) : twN p (s.drop i) = 0 := by
  rw [List.drop_eq_nil_of_le h]; rfl
def upTo (p : UInt8 → Bool) (s : List UInt8) (i : Nat) : Nat := i + twN p (s.drop i)
theorem upTo_le (p : UInt8 → Bool) (s : List UInt8) (i : Nat) (h : i ≤ s.length) : i ≤ upTo p s i ∧ upTo p s i ≤ s.length := by
  have := twN_le p (s.drop i)
  rw [List.length_drop] at this
  unfold upTo; omega
theorem upTo_step (p : UInt8 → Bool) (s : List UInt8) (i : Nat) (h : i < s.length) (hp : p (s.getD i 0) = true) : upTo p s (i + 1) = upTo p s i := by
  unfold upTo
  rw [tw_at p s i h, if_pos hp]; omega
theorem upTo_stop (p : UInt8 → Bool) (s : List UInt8) (i : Nat) (h : i < s.length) (hp : p (s.getD i 0) = false) : upTo p s i = i := by
  unfold upTo
  rw [tw_at p s i h, hp]; rfl
theorem upTo_end (p : UInt8 → Bool) (s : List UInt8) (i : Nat) (h : s.length ≤ i) : upTo p s i = i := by
  unfold upTo
  rw [tw_end p s i h]; rfl
def stP (st : List UInt8) (c : UInt8) : Bool := !blB c && !st.contains c
/-- a scanner -/
abbrev scC (s : List UInt8) (i : Int) (k : Int) (nm : List UInt8) (y : SV) (sf : Bool) (da x : List UInt8) : Chunk := .box [.str s, .int .i64 i, .int .i64 k, .str nm, y, .bool sf, .str da, .str x]
theorem b_iff (c k : UInt8) : ((c.toNat : Int) == (k.toNat : Int)) = (c == k) := by
  rw [Bool.eq_iff_iff, beq_iff_eq, beq_iff_eq]
  constructor
  · intro h; exact UInt8.toNat_inj.1 (by omega)
  · rintro rfl; rfl
theorem FnM.weaken {f : FuncId} {args : List SV} {Φ Φ' : Phi} {pre pre' : Prop} {res : SV} (h : FnM BB f args Φ pre res Φ') (hp : pre' → pre) : FnM BB f args Φ pre' res Φ' := ⟨h.1, fun q => h.2 (hp q)⟩
theorem FnM.ofNat' {f : FuncId} {args : Int → List SV} {Φ Φ' : Int → Phi} {pre : Int → Prop} {res : Int → SV} (i : Int) (h0 : pre i → 0 ≤ i) (h : ∀ n : Nat, FnM BB f (args n) (Φ n) (pre n) (res n) (Φ' n)) : FnM BB f (args i) (Φ i) (pre i) (res i) (Φ' i) :=
  ⟨(h 0).1, fun q => by obtain ⟨n, rfl⟩ := Int.eq_ofNat_of_zero_le (h0 q); exact (h n).2 q⟩
theorem ixb_le (l : List UInt8) (c : UInt8) : Lib.indexByte l c + 1 ≤ l.length ∨ Lib.indexByte l c = -1 := by
  induction l with
  | nil => right; rfl
  | cons b r ih => unfold Lib.indexByte; simp only [List.length_cons]; split
                   · left; omega
                   · split
                     · right; rfl
                     · left; rename_i h; simp at h; omega
def qB (c : UInt8) : Bool := c == 34 || c == 39
/-- the value at a place: what it is, the place behind it, and whether it ends -/
def valS (s : List UInt8) (i : Nat) : List UInt8 × Nat × Bool :=
  if qB (s.getD i 0) = true then (if Lib.indexByte (s.drop (i + 1)) (s.getD i 0) < 0 then ([], i, false) else ((s.drop (i + 1)).take (Lib.indexByte (s.drop (i + 1)) (s.getD i 0)).toNat, i + (Lib.indexByte (s.drop (i + 1)) (s.getD i 0)).toNat + 2, true))
  else ((s.take (upTo (stP [62]) s i)).drop i, upTo (stP [62]) s i, true)
theorem ixb (l : List UInt8) (c : UInt8) : decide (Lib.indexByte l ((c.toNat : Int)).toNat.toUInt8 < 0) = !l.contains c := by
  have e : ((c.toNat : Int)).toNat.toUInt8 = c := by simp
  rw [e]
  induction l with
  | nil => rfl
  | cons b r ih =>
    unfold Lib.indexByte
    rw [List.contains_cons]
    have hg := Lib.indexByte_ge r c
    by_cases h : b = c
    · subst h; simp
    · have e1 : (b == c) = false := beq_eq_false_iff_ne.2 h
      have e2 : (c == b) = false := beq_eq_false_iff_ne.2 (fun q => h q.symm)
      rw [e1, e2, Bool.false_or, ← ih]
      simp only [Bool.false_eq_true, if_false]
      by_cases q : Lib.indexByte r c = -1
      · rw [q]; rfl
      · have : (Lib.indexByte r c == -1) = false := beq_eq_false_iff_ne.2 q
        rw [this]
        simp only [Bool.false_eq_true, if_false]
        rw [Bool.eq_iff_iff]; simp; omega

theorem tOverAn (s nm da x : List UInt8) (i : Nat) (k : Int) (sf : Bool) : FnM BB 15 [.loc 0 0] [(0, scC s i k nm .nils sf da x)] True (.bool (decide ((i : Int) ≥ (s.length : Int)))) [(0, scC s i k nm .nils sf da x)] := by
  refine FnM.intro (N := 13) [0, 2] [(1, [0, 0, 0, 1, 0, 0, 0, 1, 1, 3, 3])] 1 Try.call15 Try.func15 rfl rfl (by kernel_rfl) (fun hpre => ?_)
  repeat' ((conv => whnf); first | (with_reducible rfl) | exact True.intro | (with_reducible exact absTF) | (with_reducible exact absFT) | intro _ | refine And.intro ?_ ?_ | refine Fin.mk ?_ | refine CallG.plain rfl ?_ ?_ | refine CallG.mk rfl ?_ ?_ | refine CallG.nwl rfl ?_ ?_ | refine CallG.nw ?_ ?_ | refine CallF.nwl rfl ?_ ?_ | refine CallF.nw ?_ ?_ | refine AppN.mk ?_ | (refine CallS.q ?_; (conv => whnf); first | refine CallG.plain rfl ?_ ?_ | refine CallG.mk rfl ?_ ?_) | (refine CallS.m ?_; (conv => whnf); refine CallM.mk rfl ?_ ?_) | (refine CallS.h ?_; (conv => whnf); refine CallM.mk rfl ?_ ?_) | (refine CallS.b ?_; (conv => whnf); refine CallM.mk rfl ?_ ?_) | (refine CallS.z ?_; (conv => whnf); refine CallM.mk rfl ?_ ?_))
  all_goals (try (conv => whnf))
  all_goals (try (exact Ob.mk (u8_bnd _)))
  all_goals (try (refine Ob.mk ?_; first | exact True.intro | assumption | omega | (try simp only [decide_eq_true_eq, decide_eq_false_iff_not, beq_iff_eq, beq_eq_false_iff_ne, bne_iff_ne, bne_eq_false_iff_eq, ne_eq, Bool.and_eq_true, Bool.or_eq_true, Bool.not_eq_true, Bool.not_eq_false, Bool.not_eq_true', Bool.not_eq_false', Int.toNat_natCast, Int.not_lt, Int.not_le, UInt8.ofNat_toNat, cast_eq] at *; omega)))
  all_goals (try ((show (_:Int) = _); omega))
  all_goals (try (show tupSV _ = _; with_unfolding_all rfl))
  all_goals (try ((show (_ : Nat) ≤ _); (simp <;> omega)))
  all_goals (try ((show (_ : Nat) ≤ _ ∧ (_ : Nat) ≤ _); (simp <;> omega)))
  all_goals (try ((show (_ : Int) ≤ _ ∧ (_ : Int) ≤ _ ∧ (_ : Int) ≤ _ ∧ (_ : Int) ≤ _); (simp <;> omega)))
theorem tIsAn (s nm da x : List UInt8) (i : Nat) (k : Int) (sf : Bool) (c : Int) : FnM BB 34 [.loc 0 0, .int .u8 c] [(0, scC s i k nm .nils sf da x)] True (.bool (decide ((i : Int) < (s.length : Int)) && ((s.getD i 0).toNat : Int) == c)) [(0, scC s i k nm .nils sf da x)] := by
  refine FnM.intro (N := 28) [0, 1, 4] [(1, [0, 0, 0, 1, 0, 0, 0, 1, 1, 1, 1, 1, 1, 1, 1, 1, 1, 1, 1, 1, 1, 3, 3, 3])] 1 Try.call34 Try.func34 rfl rfl (by kernel_rfl) (fun hpre => ?_)
  repeat' ((conv => whnf); first | (with_reducible rfl) | exact True.intro | (with_reducible exact absTF) | (with_reducible exact absFT) | intro _ | refine And.intro ?_ ?_ | refine Fin.mk ?_ | refine CallG.plain rfl ?_ ?_ | refine CallG.mk rfl ?_ ?_ | refine CallG.nwl rfl ?_ ?_ | refine CallG.nw ?_ ?_ | refine CallF.nwl rfl ?_ ?_ | refine CallF.nw ?_ ?_ | refine AppN.mk ?_ | (refine CallS.q ?_; (conv => whnf); first | refine CallG.plain rfl ?_ ?_ | refine CallG.mk rfl ?_ ?_) | (refine CallS.m ?_; (conv => whnf); refine CallM.mk rfl ?_ ?_) | (refine CallS.h ?_; (conv => whnf); refine CallM.mk rfl ?_ ?_) | (refine CallS.b ?_; (conv => whnf); refine CallM.mk rfl ?_ ?_) | (refine CallS.z ?_; (conv => whnf); refine CallM.mk rfl ?_ ?_))
  all_goals (try (conv => whnf))
  all_goals (try (exact Ob.mk (u8_bnd _)))
  all_goals (try (refine Ob.mk ?_; first | exact True.intro | assumption | omega | (try simp only [decide_eq_true_eq, decide_eq_false_iff_not, beq_iff_eq, beq_eq_false_iff_ne, bne_iff_ne, bne_eq_false_iff_eq, ne_eq, Bool.and_eq_true, Bool.or_eq_true, Bool.not_eq_true, Bool.not_eq_false, Bool.not_eq_true', Bool.not_eq_false', Int.toNat_natCast, Int.not_lt, Int.not_le, UInt8.ofNat_toNat, cast_eq] at *; omega)))
  all_goals (try ((show (_:Int) = _); omega))
  all_goals (try (show tupSV _ = _; with_unfolding_all rfl))
  all_goals (try ((show (_ : Nat) ≤ _); (simp <;> omega)))
  all_goals (try ((show (_ : Nat) ≤ _ ∧ (_ : Nat) ≤ _); (simp <;> omega)))
  all_goals (try ((show (_ : Int) ≤ _ ∧ (_ : Int) ≤ _ ∧ (_ : Int) ≤ _ ∧ (_ : Int) ≤ _); (simp <;> omega)))
  all_goals (first | rfl | omega | trace_state)
theorem tBlanksAn (s nm da x : List UInt8) (i : Nat) (k : Int) (sf : Bool) : FnM BB 33 [.loc 0 0] [(0, scC s i k nm .nils sf da x)] (i ≤ s.length ∧ s.length ≤ 100000) (.tup []) [(0, scC s (upTo blB s i : Nat) k nm .nils sf da x)] := by
  refine FnM.intro (N := 31) [0, 23] [(0, [0, 0, 0, 1, 0, 0, 0, 1, 1, 1, 1, 1, 1, 1, 1, 1, 1, 1, 1, 3, 3, 3])] 1 Try.call33 Try.func33 rfl rfl (by kernel_rfl) (fun hpre => ?_)
  obtain ⟨p1, p2⟩ := hpre
  repeat' ((conv => whnf); first | (with_reducible rfl) | exact True.intro | (with_reducible exact absTF) | (with_reducible exact absFT) | intro _ | refine And.intro ?_ ?_ | refine Fin.mk ?_ | refine CallG.plain rfl ?_ ?_ | refine CallG.mk rfl ?_ ?_ | refine CallG.nwl rfl ?_ ?_ | refine CallG.nw ?_ ?_ | refine CallF.nwl rfl ?_ ?_ | refine CallF.nw ?_ ?_ | refine AppN.mk ?_ | (refine CallS.q ?_; (conv => whnf); first | refine CallG.plain rfl ?_ ?_ | refine CallG.mk rfl ?_ ?_) | (refine CallS.m ?_; (conv => whnf); refine CallM.mk rfl ?_ ?_) | (refine CallS.h ?_; (conv => whnf); refine CallM.mk rfl ?_ ?_) | (refine CallS.b ?_; (conv => whnf); refine CallM.mk rfl ?_ ?_) | (refine CallS.z ?_; (conv => whnf); refine CallM.mk rfl ?_ ?_))
  all_goals (try (conv => whnf))
  all_goals (try (exact Ob.mk (u8_bnd _)))
  all_goals (try (refine Ob.mk ?_; first | exact True.intro | assumption | omega | (try simp only [decide_eq_true_eq, decide_eq_false_iff_not, beq_iff_eq, beq_eq_false_iff_ne, bne_iff_ne, bne_eq_false_iff_eq, ne_eq, Bool.and_eq_true, Bool.or_eq_true, Bool.not_eq_true, Bool.not_eq_false, Bool.not_eq_true', Bool.not_eq_false', Int.toNat_natCast, Int.not_lt, Int.not_le, UInt8.ofNat_toNat, cast_eq] at *; omega)))
  all_goals (try ((show (_:Int) = _); omega))
  all_goals (try (show tupSV _ = _; with_unfolding_all rfl))
  all_goals (try ((show (_ : Nat) ≤ _); (simp <;> omega)))
  all_goals (try ((show (_ : Nat) ≤ _ ∧ (_ : Nat) ≤ _); (simp <;> omega)))
  all_goals (try ((show (_ : Int) ≤ _ ∧ (_ : Int) ≤ _ ∧ (_ : Int) ≤ _ ∧ (_ : Int) ≤ _); (simp <;> omega)))
  refine LoopStop.mk (α := Nat) (fun j => []) (fun j => [(0, scC s j k nm .nils sf da x)]) 20 (fun j => j ≤ s.length ∧ upTo blB s j = upTo blB s i) (fun j => s.length - j) i ⟨p1, rfl⟩ ?_ (fun j hj => ?_)
  · repeat' ((conv => whnf); first | (with_reducible rfl) | exact True.intro | (with_reducible exact absTF) | (with_reducible exact absFT) | intro _ | refine And.intro ?_ ?_ | refine Fin.mk ?_ | refine CallG.plain rfl ?_ ?_ | refine CallG.mk rfl ?_ ?_ | refine CallG.nwl rfl ?_ ?_ | refine CallG.nw ?_ ?_ | refine CallF.nwl rfl ?_ ?_ | refine CallF.nw ?_ ?_ | refine AppN.mk ?_ | (refine CallS.q ?_; (conv => whnf); first | refine CallG.plain rfl ?_ ?_ | refine CallG.mk rfl ?_ ?_) | (refine CallS.m ?_; (conv => whnf); refine CallM.mk rfl ?_ ?_) | (refine CallS.h ?_; (conv => whnf); refine CallM.mk rfl ?_ ?_) | (refine CallS.b ?_; (conv => whnf); refine CallM.mk rfl ?_ ?_) | (refine CallS.z ?_; (conv => whnf); refine CallM.mk rfl ?_ ?_))
    all_goals (try (conv => whnf))
    all_goals (try (exact Ob.mk (u8_bnd _)))
    all_goals (try (refine Ob.mk ?_; first | exact True.intro | assumption | omega | (try simp only [decide_eq_true_eq, decide_eq_false_iff_not, beq_iff_eq, beq_eq_false_iff_ne, bne_iff_ne, bne_eq_false_iff_eq, ne_eq, Bool.and_eq_true, Bool.or_eq_true, Bool.not_eq_true, Bool.not_eq_false, Bool.not_eq_true', Bool.not_eq_false', Int.toNat_natCast, Int.not_lt, Int.not_le, UInt8.ofNat_toNat, cast_eq] at *; omega)))
    all_goals (try ((show (_:Int) = _); omega))
    all_goals (try (show tupSV _ = _; with_unfolding_all rfl))
    all_goals (try ((show (_ : Nat) ≤ _); (simp <;> omega)))
    all_goals (try ((show (_ : Nat) ≤ _ ∧ (_ : Nat) ≤ _); (simp <;> omega)))
    all_goals (try ((show (_ : Int) ≤ _ ∧ (_ : Int) ≤ _ ∧ (_ : Int) ≤ _ ∧ (_ : Int) ≤ _); (simp <;> omega)))
    all_goals rfl
  · obtain ⟨q1, q2⟩ := hj
    have cc : (decide ((j : Int) < (s.length : Int)) && W.isSp ((s.getD ((j : Int)).toNat 0).toNat : Int)) = (decide (j < s.length) && blB (s.getD j 0)) := by
      rw [Int.toNat_natCast]
      congr 1
      rw [Bool.eq_iff_iff]; simp
    repeat' ((conv => whnf); first | (with_reducible rfl) | exact True.intro | (with_reducible exact absTF) | (with_reducible exact absFT) | intro _ | refine And.intro ?_ ?_ | refine Fin.mk ?_ | refine CallG.plain rfl ?_ ?_ | refine CallG.mk rfl ?_ ?_ | refine CallG.nwl rfl ?_ ?_ | refine CallG.nw ?_ ?_ | refine CallF.nwl rfl ?_ ?_ | refine CallF.nw ?_ ?_ | refine AppN.mk ?_ | (refine CallS.q ?_; (conv => whnf); first | refine CallG.plain rfl ?_ ?_ | refine CallG.mk rfl ?_ ?_) | (refine CallS.m ?_; (conv => whnf); refine CallM.mk rfl ?_ ?_) | (refine CallS.h ?_; (conv => whnf); refine CallM.mk rfl ?_ ?_) | (refine CallS.b ?_; (conv => whnf); refine CallM.mk rfl ?_ ?_) | (refine CallS.z ?_; (conv => whnf); refine CallM.mk rfl ?_ ?_))
    all_goals (try (conv => whnf))
    all_goals (try (exact Ob.mk (u8_bnd _)))
    all_goals (try (refine Ob.mk ?_; first | exact True.intro | assumption | omega | (try simp only [decide_eq_true_eq, decide_eq_false_iff_not, beq_iff_eq, beq_eq_false_iff_ne, bne_iff_ne, bne_eq_false_iff_eq, ne_eq, Bool.and_eq_true, Bool.or_eq_true, Bool.not_eq_true, Bool.not_eq_false, Bool.not_eq_true', Bool.not_eq_false', Int.toNat_natCast, Int.not_lt, Int.not_le, UInt8.ofNat_toNat, cast_eq] at *; omega)))
    all_goals (try ((show (_:Int) = _); omega))
    all_goals (try (show tupSV _ = _; with_unfolding_all rfl))
    all_goals (try ((show (_ : Nat) ≤ _); (simp <;> omega)))
    all_goals (try ((show (_ : Nat) ≤ _ ∧ (_ : Nat) ≤ _); (simp <;> omega)))
    all_goals (try ((show (_ : Int) ≤ _ ∧ (_ : Int) ≤ _ ∧ (_ : Int) ≤ _ ∧ (_ : Int) ≤ _); (simp <;> omega)))
    all_goals (simp only [cc] at *)
    · have h : (decide (j < s.length) && blB (s.getD j 0)) = true := ‹_›
      rw [Bool.and_eq_true, decide_eq_true_eq] at h
      refine Rnd.mk ⟨j + 1, ⟨by omega, (upTo_step blB s j h.1 h.2).trans q2⟩, by omega, ?_⟩
      repeat' ((conv => whnf); first | (with_reducible rfl) | exact True.intro | (with_reducible exact absTF) | (with_reducible exact absFT) | intro _ | refine And.intro ?_ ?_ | refine Fin.mk ?_ | refine CallG.plain rfl ?_ ?_ | refine CallG.mk rfl ?_ ?_ | refine CallG.nwl rfl ?_ ?_ | refine CallG.nw ?_ ?_ | refine CallF.nwl rfl ?_ ?_ | refine CallF.nw ?_ ?_ | refine AppN.mk ?_ | (refine CallS.q ?_; (conv => whnf); first | refine CallG.plain rfl ?_ ?_ | refine CallG.mk rfl ?_ ?_) | (refine CallS.m ?_; (conv => whnf); refine CallM.mk rfl ?_ ?_) | (refine CallS.h ?_; (conv => whnf); refine CallM.mk rfl ?_ ?_) | (refine CallS.b ?_; (conv => whnf); refine CallM.mk rfl ?_ ?_) | (refine CallS.z ?_; (conv => whnf); refine CallM.mk rfl ?_ ?_))
      all_goals (try (conv => whnf))
      all_goals (try (exact Ob.mk (u8_bnd _)))
      all_goals (try (refine Ob.mk ?_; first | exact True.intro | assumption | omega | (try simp only [decide_eq_true_eq, decide_eq_false_iff_not, beq_iff_eq, beq_eq_false_iff_ne, bne_iff_ne, bne_eq_false_iff_eq, ne_eq, Bool.and_eq_true, Bool.or_eq_true, Bool.not_eq_true, Bool.not_eq_false, Bool.not_eq_true', Bool.not_eq_false', Int.toNat_natCast, Int.not_lt, Int.not_le, UInt8.ofNat_toNat, cast_eq] at *; omega)))
      all_goals (try ((show (_:Int) = _); omega))
      all_goals (try (show tupSV _ = _; with_unfolding_all rfl))
      all_goals (try ((show (_ : Nat) ≤ _); (simp <;> omega)))
      all_goals (try ((show (_ : Nat) ≤ _ ∧ (_ : Nat) ≤ _); (simp <;> omega)))
      all_goals (try ((show (_ : Int) ≤ _ ∧ (_ : Int) ≤ _ ∧ (_ : Int) ≤ _ ∧ (_ : Int) ≤ _); (simp <;> omega)))
      all_goals rfl
    · have h : (decide (j < s.length) && blB (s.getD j 0)) = false := ‹_›
      rw [← q2]
      rcases Nat.lt_or_ge j s.length with hl | hl
      · rw [decide_eq_true hl, Bool.true_and] at h
        rw [upTo_stop blB s j hl h]
      · rw [upTo_end blB s j hl]
theorem tUntilAn (s nm da x : List UInt8) (i : Nat) (k : Int) (sf : Bool) (st : List UInt8) : FnM BB 17 [.loc 0 0, .str st] [(0, scC s i k nm .nils sf da x)] (i ≤ s.length ∧ s.length ≤ 100000) (.tup []) [(0, scC s (upTo (stP st) s i : Nat) k nm .nils sf da x)] := by
  refine FnM.intro (N := 48) [0, 1, 40] [(0, [0, 0, 0, 1, 0, 0, 0, 1, 1, 1, 1, 1, 1, 1, 1, 1, 1, 1, 1, 1, 1, 1, 1, 1, 1, 1, 1, 1, 1, 1, 1, 1, 1, 1, 3, 3, 3])] 1 Try.call17 Try.func17 rfl rfl (by kernel_rfl) (fun hpre => ?_)
  obtain ⟨p1, p2⟩ := hpre
  repeat' ((conv => whnf); first | (with_reducible rfl) | exact True.intro | (with_reducible exact absTF) | (with_reducible exact absFT) | intro _ | refine And.intro ?_ ?_ | refine Fin.mk ?_ | refine CallG.plain rfl ?_ ?_ | refine CallG.mk rfl ?_ ?_ | refine CallG.nwl rfl ?_ ?_ | refine CallG.nw ?_ ?_ | refine CallF.nwl rfl ?_ ?_ | refine CallF.nw ?_ ?_ | refine AppN.mk ?_ | (refine CallS.q ?_; (conv => whnf); first | refine CallG.plain rfl ?_ ?_ | refine CallG.mk rfl ?_ ?_) | (refine CallS.m ?_; (conv => whnf); refine CallM.mk rfl ?_ ?_) | (refine CallS.h ?_; (conv => whnf); refine CallM.mk rfl ?_ ?_) | (refine CallS.b ?_; (conv => whnf); refine CallM.mk rfl ?_ ?_) | (refine CallS.z ?_; (conv => whnf); refine CallM.mk rfl ?_ ?_))
  all_goals (try (conv => whnf))
  all_goals (try (exact Ob.mk (u8_bnd _)))
  all_goals (try (refine Ob.mk ?_; first | exact True.intro | assumption | omega | (try simp only [decide_eq_true_eq, decide_eq_false_iff_not, beq_iff_eq, beq_eq_false_iff_ne, bne_iff_ne, bne_eq_false_iff_eq, ne_eq, Bool.and_eq_true, Bool.or_eq_true, Bool.not_eq_true, Bool.not_eq_false, Bool.not_eq_true', Bool.not_eq_false', Int.toNat_natCast, Int.not_lt, Int.not_le, UInt8.ofNat_toNat, cast_eq] at *; omega)))
  all_goals (try ((show (_:Int) = _); omega))
  all_goals (try (show tupSV _ = _; with_unfolding_all rfl))
  all_goals (try ((show (_ : Nat) ≤ _); (simp <;> omega)))
  all_goals (try ((show (_ : Nat) ≤ _ ∧ (_ : Nat) ≤ _); (simp <;> omega)))
  all_goals (try ((show (_ : Int) ≤ _ ∧ (_ : Int) ≤ _ ∧ (_ : Int) ≤ _ ∧ (_ : Int) ≤ _); (simp <;> omega)))
  refine LoopStop.mk (α := Nat) (fun j => []) (fun j => [(0, scC s j k nm .nils sf da x)]) 20 (fun j => j ≤ s.length ∧ upTo (stP st) s j = upTo (stP st) s i) (fun j => s.length - j) i ⟨p1, rfl⟩ ?_ (fun j hj => ?_)
  · repeat' ((conv => whnf); first | (with_reducible rfl) | exact True.intro | (with_reducible exact absTF) | (with_reducible exact absFT) | intro _ | refine And.intro ?_ ?_ | refine Fin.mk ?_ | refine CallG.plain rfl ?_ ?_ | refine CallG.mk rfl ?_ ?_ | refine CallG.nwl rfl ?_ ?_ | refine CallG.nw ?_ ?_ | refine CallF.nwl rfl ?_ ?_ | refine CallF.nw ?_ ?_ | refine AppN.mk ?_ | (refine CallS.q ?_; (conv => whnf); first | refine CallG.plain rfl ?_ ?_ | refine CallG.mk rfl ?_ ?_) | (refine CallS.m ?_; (conv => whnf); refine CallM.mk rfl ?_ ?_) | (refine CallS.h ?_; (conv => whnf); refine CallM.mk rfl ?_ ?_) | (refine CallS.b ?_; (conv => whnf); refine CallM.mk rfl ?_ ?_) | (refine CallS.z ?_; (conv => whnf); refine CallM.mk rfl ?_ ?_))
    all_goals (try (conv => whnf))
    all_goals (try (exact Ob.mk (u8_bnd _)))
    all_goals (try (refine Ob.mk ?_; first | exact True.intro | assumption | omega | (try simp only [decide_eq_true_eq, decide_eq_false_iff_not, beq_iff_eq, beq_eq_false_iff_ne, bne_iff_ne, bne_eq_false_iff_eq, ne_eq, Bool.and_eq_true, Bool.or_eq_true, Bool.not_eq_true, Bool.not_eq_false, Bool.not_eq_true', Bool.not_eq_false', Int.toNat_natCast, Int.not_lt, Int.not_le, UInt8.ofNat_toNat, cast_eq] at *; omega)))
    all_goals (try ((show (_:Int) = _); omega))
    all_goals (try (show tupSV _ = _; with_unfolding_all rfl))
    all_goals (try ((show (_ : Nat) ≤ _); (simp <;> omega)))
    all_goals (try ((show (_ : Nat) ≤ _ ∧ (_ : Nat) ≤ _); (simp <;> omega)))
    all_goals (try ((show (_ : Int) ≤ _ ∧ (_ : Int) ≤ _ ∧ (_ : Int) ≤ _ ∧ (_ : Int) ≤ _); (simp <;> omega)))
    all_goals rfl
  · obtain ⟨q1, q2⟩ := hj
    have cc : (decide ((j : Int) < (s.length : Int)) && !W.isSp ((s.getD ((j : Int)).toNat 0).toNat : Int) && decide (Lib.indexByte st ((s.getD ((j : Int)).toNat 0).toNat : Int).toNat.toUInt8 < 0)) = (decide (j < s.length) && stP st (s.getD j 0)) := by
      rw [Int.toNat_natCast, ixb st (s.getD j 0), Bool.and_assoc]
      congr 1
      rw [Bool.eq_iff_iff]; simp
    repeat' ((conv => whnf); first | (with_reducible rfl) | exact True.intro | (with_reducible exact absTF) | (with_reducible exact absFT) | intro _ | refine And.intro ?_ ?_ | refine Fin.mk ?_ | refine CallG.plain rfl ?_ ?_ | refine CallG.mk rfl ?_ ?_ | refine CallG.nwl rfl ?_ ?_ | refine CallG.nw ?_ ?_ | refine CallF.nwl rfl ?_ ?_ | refine CallF.nw ?_ ?_ | refine AppN.mk ?_ | (refine CallS.q ?_; (conv => whnf); first | refine CallG.plain rfl ?_ ?_ | refine CallG.mk rfl ?_ ?_) | (refine CallS.m ?_; (conv => whnf); refine CallM.mk rfl ?_ ?_) | (refine CallS.h ?_; (conv => whnf); refine CallM.mk rfl ?_ ?_) | (refine CallS.b ?_; (conv => whnf); refine CallM.mk rfl ?_ ?_) | (refine CallS.z ?_; (conv => whnf); refine CallM.mk rfl ?_ ?_))
    all_goals (try (conv => whnf))
    all_goals (try (exact Ob.mk (u8_bnd _)))
    all_goals (try (refine Ob.mk ?_; first | exact True.intro | assumption | omega | (try simp only [decide_eq_true_eq, decide_eq_false_iff_not, beq_iff_eq, beq_eq_false_iff_ne, bne_iff_ne, bne_eq_false_iff_eq, ne_eq, Bool.and_eq_true, Bool.or_eq_true, Bool.not_eq_true, Bool.not_eq_false, Bool.not_eq_true', Bool.not_eq_false', Int.toNat_natCast, Int.not_lt, Int.not_le, UInt8.ofNat_toNat, cast_eq] at *; omega)))
    all_goals (try ((show (_:Int) = _); omega))
    all_goals (try (show tupSV _ = _; with_unfolding_all rfl))
    all_goals (try ((show (_ : Nat) ≤ _); (simp <;> omega)))
    all_goals (try ((show (_ : Nat) ≤ _ ∧ (_ : Nat) ≤ _); (simp <;> omega)))
    all_goals (try ((show (_ : Int) ≤ _ ∧ (_ : Int) ≤ _ ∧ (_ : Int) ≤ _ ∧ (_ : Int) ≤ _); (simp <;> omega)))
    all_goals (simp only [cc] at *)
    · have h : (decide (j < s.length) && stP st (s.getD j 0)) = true := ‹_›
      rw [Bool.and_eq_true, decide_eq_true_eq] at h
      refine Rnd.mk ⟨j + 1, ⟨by omega, (upTo_step (stP st) s j h.1 h.2).trans q2⟩, by omega, ?_⟩
      repeat' ((conv => whnf); first | (with_reducible rfl) | exact True.intro | (with_reducible exact absTF) | (with_reducible exact absFT) | intro _ | refine And.intro ?_ ?_ | refine Fin.mk ?_ | refine CallG.plain rfl ?_ ?_ | refine CallG.mk rfl ?_ ?_ | refine CallG.nwl rfl ?_ ?_ | refine CallG.nw ?_ ?_ | refine CallF.nwl rfl ?_ ?_ | refine CallF.nw ?_ ?_ | refine AppN.mk ?_ | (refine CallS.q ?_; (conv => whnf); first | refine CallG.plain rfl ?_ ?_ | refine CallG.mk rfl ?_ ?_) | (refine CallS.m ?_; (conv => whnf); refine CallM.mk rfl ?_ ?_) | (refine CallS.h ?_; (conv => whnf); refine CallM.mk rfl ?_ ?_) | (refine CallS.b ?_; (conv => whnf); refine CallM.mk rfl ?_ ?_) | (refine CallS.z ?_; (conv => whnf); refine CallM.mk rfl ?_ ?_))
      all_goals (try (conv => whnf))
      all_goals (try (exact Ob.mk (u8_bnd _)))
      all_goals (try (refine Ob.mk ?_; first | exact True.intro | assumption | omega | (try simp only [decide_eq_true_eq, decide_eq_false_iff_not, beq_iff_eq, beq_eq_false_iff_ne, bne_iff_ne, bne_eq_false_iff_eq, ne_eq, Bool.and_eq_true, Bool.or_eq_true, Bool.not_eq_true, Bool.not_eq_false, Bool.not_eq_true', Bool.not_eq_false', Int.toNat_natCast, Int.not_lt, Int.not_le, UInt8.ofNat_toNat, cast_eq] at *; omega)))
      all_goals (try ((show (_:Int) = _); omega))
      all_goals (try (show tupSV _ = _; with_unfolding_all rfl))
      all_goals (try ((show (_ : Nat) ≤ _); (simp <;> omega)))
      all_goals (try ((show (_ : Nat) ≤ _ ∧ (_ : Nat) ≤ _); (simp <;> omega)))
      all_goals (try ((show (_ : Int) ≤ _ ∧ (_ : Int) ≤ _ ∧ (_ : Int) ≤ _ ∧ (_ : Int) ≤ _); (simp <;> omega)))
      all_goals rfl
    · have h : (decide (j < s.length) && stP st (s.getD j 0)) = false := ‹_›
      rw [← q2]
      rcases Nat.lt_or_ge j s.length with hl | hl
      · rw [decide_eq_true hl, Bool.true_and] at h
        rw [upTo_stop (stP st) s j hl h]
      · rw [upTo_end (stP st) s j hl]
theorem tValueAn (s nm da x : List UInt8) (i : Nat) (k : Int) (sf : Bool) : FnM BB 36 [.loc 0 0] [(0, scC s i k nm .nils sf da x)] (i < s.length ∧ s.length ≤ 100000) (.tup [.str (valS s i).1, .bool (valS s i).2.2]) [(0, scC s ((valS s i).2.1 : Nat) k nm .nils sf da x)] := by
  refine FnM.intro (N := 58) [0, 2, 3, 4, 5, 6, 18, 47] [(4, [0, 0, 0, 1, 0, 0, 0, 0, 1, 3, 3, 0])] 1 Try.call36 Try.func36 rfl rfl (by kernel_rfl) (fun hpre => ?_)
  obtain ⟨p1, p2⟩ := hpre
  have hu := upTo_le (stP [62]) s i (by omega)
  haveI := fun c : Int => tIsAn s nm da x i k sf c
  haveI := fun st : List UInt8 => tUntilAn s nm da x i k sf st
  have e1 : decide ((i : Int) < (s.length : Int)) = true := decide_eq_true (by omega)
  have e34 : (((s.getD i 0).toNat : Int) == 34) = (s.getD i 0 == 34) := b_iff _ 34
  have e39 : (((s.getD i 0).toNat : Int) == 39) = (s.getD i 0 == 39) := b_iff _ 39
  have qa : (!(decide ((i : Int) < (s.length : Int)) && ((s.getD i 0).toNat : Int) == 34)) = true → (true && !(decide ((i : Int) < (s.length : Int)) && ((s.getD i 0).toNat : Int) == 39)) = true → qB (s.getD i 0) = false := fun h h' => by
    rw [e1, Bool.true_and, e34] at h; rw [e1, Bool.true_and, Bool.true_and, e39] at h'
    unfold qB; cases h1 : s.getD i 0 == 34 <;> cases h2 : s.getD i 0 == 39 <;> simp_all
  have qb : (!(decide ((i : Int) < (s.length : Int)) && ((s.getD i 0).toNat : Int) == 34)) = true → (true && !(decide ((i : Int) < (s.length : Int)) && ((s.getD i 0).toNat : Int) == 39)) = false → qB (s.getD i 0) = true := fun h h' => by
    rw [e1, Bool.true_and, e34] at h; rw [e1, Bool.true_and, Bool.true_and, e39] at h'
    unfold qB; cases h1 : s.getD i 0 == 34 <;> cases h2 : s.getD i 0 == 39 <;> simp_all
  have qc : (!(decide ((i : Int) < (s.length : Int)) && ((s.getD i 0).toNat : Int) == 34)) = !true → qB (s.getD i 0) = true := fun h => by
    rw [e1, Bool.true_and, e34] at h
    unfold qB; cases h1 : s.getD i 0 == 34 <;> simp_all
  have hx := Lib.indexByte_ge (s.drop (i + 1)) (s.getD i 0)
  have hx2 := ixb_le (s.drop (i + 1)) (s.getD i 0)
  rw [List.length_drop] at hx2
  have ei : ((i : Int)).toNat = i := Int.toNat_natCast i
  have ei1 : ((i : Int) + 1).toNat = i + 1 := by omega
  have v1 : qB (s.getD i 0) = false → valS s i = ((s.take (upTo (stP [62]) s i)).drop i, upTo (stP [62]) s i, true) := fun h => by unfold valS; rw [h]; rfl
  have v2 : qB (s.getD i 0) = true → decide (Lib.indexByte (s.drop (i + 1)) (s.getD i 0) < 0) = true → valS s i = ([], i, false) := fun h h' => by unfold valS; rw [h, if_pos rfl, if_pos (of_decide_eq_true h')]
  have v3 : qB (s.getD i 0) = true → decide (Lib.indexByte (s.drop (i + 1)) (s.getD i 0) < 0) = false → valS s i = ((s.drop (i + 1)).take (Lib.indexByte (s.drop (i + 1)) (s.getD i 0)).toNat, i + (Lib.indexByte (s.drop (i + 1)) (s.getD i 0)).toNat + 2, true) := fun h h' => by unfold valS; rw [h, if_pos rfl, if_neg (of_decide_eq_false h')]
  repeat' ((conv => whnf); first | (with_reducible rfl) | exact True.intro | (with_reducible exact absTF) | (with_reducible exact absFT) | intro _ | refine And.intro ?_ ?_ | refine Fin.mk ?_ | refine CallG.plain rfl ?_ ?_ | refine CallG.mk rfl ?_ ?_ | refine CallG.nwl rfl ?_ ?_ | refine CallG.nw ?_ ?_ | refine CallF.nwl rfl ?_ ?_ | refine CallF.nw ?_ ?_ | refine AppN.mk ?_ | (refine CallS.q ?_; (conv => whnf); first | refine CallG.plain rfl ?_ ?_ | refine CallG.mk rfl ?_ ?_) | (refine CallS.m ?_; (conv => whnf); refine CallM.mk rfl ?_ ?_) | (refine CallS.h ?_; (conv => whnf); refine CallM.mk rfl ?_ ?_) | (refine CallS.b ?_; (conv => whnf); refine CallM.mk rfl ?_ ?_) | (refine CallS.z ?_; (conv => whnf); refine CallM.mk rfl ?_ ?_))
  all_goals (try (conv => whnf))
  all_goals (try (exact Ob.mk (u8_bnd _)))
  all_goals (try (refine Ob.mk ?_; first | exact True.intro | assumption | omega | (try simp only [decide_eq_true_eq, decide_eq_false_iff_not, beq_iff_eq, beq_eq_false_iff_ne, bne_iff_ne, bne_eq_false_iff_eq, ne_eq, Bool.and_eq_true, Bool.or_eq_true, Bool.not_eq_true, Bool.not_eq_false, Bool.not_eq_true', Bool.not_eq_false', Int.toNat_natCast, Int.not_lt, Int.not_le, UInt8.ofNat_toNat, cast_eq] at *; omega)))
  all_goals (try ((show (_:Int) = _); omega))
  all_goals (try (show tupSV _ = _; with_unfolding_all rfl))
  all_goals (try ((show (_ : Nat) ≤ _); (simp <;> omega)))
  all_goals (try ((show (_ : Nat) ≤ _ ∧ (_ : Nat) ≤ _); (simp <;> omega)))
  all_goals (try ((show (_ : Int) ≤ _ ∧ (_ : Int) ≤ _ ∧ (_ : Int) ≤ _ ∧ (_ : Int) ≤ _); (simp <;> omega)))
  all_goals (try simp only [ei, ei1, Int.toNat_natCast] at *)
  all_goals (have ec : (s.getD i 0).toNat.toUInt8 = s.getD i 0 := by simp)
  all_goals (try simp only [ec] at *)
  all_goals (try (have hge := of_decide_eq_false ‹decide (Lib.indexByte (s.drop (i + 1)) (s.getD i 0) < 0) = false›))
  all_goals (try (have hv := v1 (qa ‹_› ‹_›)))
  all_goals (try (have hv := v2 (qb ‹_› ‹_›) ‹_›))
  all_goals (try (have hv := v2 (qc ‹_›) ‹_›))
  all_goals (try (have hv := v3 (qb ‹_› ‹_›) ‹_›))
  all_goals (try (have hv := v3 (qc ‹_›) ‹_›))
  all_goals (first | (rw [hv]; done) | (rw [hv]; rfl) | omega | (constructor <;> omega) | (rw [hv]; simp only; omega) | (exact ⟨by omega, by rw [List.length_drop]; omega⟩) | trace_state)
instance tOverA (s nm da x : List UInt8) (i : Int) (k : Int) (sf : Bool) : FnM BB 15 [.loc 0 0] [(0, scC s i k nm .nils sf da x)] (0 ≤ i) (.bool (decide (i ≥ (s.length : Int)))) [(0, scC s i k nm .nils sf da x)] :=
  FnM.ofNat' (args := fun _ => [.loc 0 0]) (Φ := fun i => [(0, scC s i k nm .nils sf da x)]) (Φ' := fun i => [(0, scC s i k nm .nils sf da x)]) (pre := fun i => 0 ≤ i) (res := fun i => .bool (decide (i ≥ (s.length : Int)))) i (fun h => h) fun n => (tOverAn s nm da x n k sf).weaken fun _ => True.intro
instance tIsA (s nm da x : List UInt8) (i : Int) (k : Int) (sf : Bool) (c : Int) : FnM BB 34 [.loc 0 0, .int .u8 c] [(0, scC s i k nm .nils sf da x)] (0 ≤ i) (.bool (decide (i < (s.length : Int)) && ((s.getD i.toNat 0).toNat : Int) == c)) [(0, scC s i k nm .nils sf da x)] :=
  FnM.ofNat' (args := fun _ => [.loc 0 0, .int .u8 c]) (Φ := fun i => [(0, scC s i k nm .nils sf da x)]) (Φ' := fun i => [(0, scC s i k nm .nils sf da x)]) (pre := fun i => 0 ≤ i) (res := fun i => .bool (decide (i < (s.length : Int)) && ((s.getD i.toNat 0).toNat : Int) == c)) i (fun h => h) fun n => (tIsAn s nm da x n k sf c).weaken fun _ => True.intro
instance tBlanksA (s nm da x : List UInt8) (i : Int) (k : Int) (sf : Bool) : FnM BB 33 [.loc 0 0] [(0, scC s i k nm .nils sf da x)] (0 ≤ i ∧ i ≤ s.length ∧ s.length ≤ 100000) (.tup []) [(0, scC s (upTo blB s i.toNat : Nat) k nm .nils sf da x)] :=
  FnM.ofNat' (args := fun _ => [.loc 0 0]) (Φ := fun i => [(0, scC s i k nm .nils sf da x)]) (Φ' := fun i => [(0, scC s (upTo blB s i.toNat : Nat) k nm .nils sf da x)]) (pre := fun i => 0 ≤ i ∧ i ≤ s.length ∧ s.length ≤ 100000) (res := fun i => .tup []) i (fun h => h.1) fun n => (tBlanksAn s nm da x n k sf).weaken fun h => (by have h' := h.2; constructor <;> omega)
instance tUntilA (s nm da x : List UInt8) (i : Int) (k : Int) (sf : Bool) (st : List UInt8) : FnM BB 17 [.loc 0 0, .str st] [(0, scC s i k nm .nils sf da x)] (0 ≤ i ∧ i ≤ s.length ∧ s.length ≤ 100000) (.tup []) [(0, scC s (upTo (stP st) s i.toNat : Nat) k nm .nils sf da x)] :=
  FnM.ofNat' (args := fun _ => [.loc 0 0, .str st]) (Φ := fun i => [(0, scC s i k nm .nils sf da x)]) (Φ' := fun i => [(0, scC s (upTo (stP st) s i.toNat : Nat) k nm .nils sf da x)]) (pre := fun i => 0 ≤ i ∧ i ≤ s.length ∧ s.length ≤ 100000) (res := fun i => .tup []) i (fun h => h.1) fun n => (tUntilAn s nm da x n k sf st).weaken fun h => (by have h' := h.2; constructor <;> omega)
instance tValueA (s nm da x : List UInt8) (i : Int) (k : Int) (sf : Bool) : FnM BB 36 [.loc 0 0] [(0, scC s i k nm .nils sf da x)] (0 ≤ i ∧ i < s.length ∧ s.length ≤ 100000) (.tup [.str (valS s i.toNat).1, .bool (valS s i.toNat).2.2]) [(0, scC s ((valS s i.toNat).2.1 : Nat) k nm .nils sf da x)] :=
  FnM.ofNat' (args := fun _ => [.loc 0 0]) (Φ := fun i => [(0, scC s i k nm .nils sf da x)]) (Φ' := fun i => [(0, scC s ((valS s i.toNat).2.1 : Nat) k nm .nils sf da x)]) (pre := fun i => 0 ≤ i ∧ i < s.length ∧ s.length ≤ 100000) (res := fun i => .tup [.str (valS s i.toNat).1, .bool (valS s i.toNat).2.2]) i (fun h => h.1) fun n => (tValueAn s nm da x n k sf).weaken fun h => (by have h' := h.2; constructor <;> omega)

theorem tOverBn (s nm da x : List UInt8) (i : Nat) (k : Int) (sf : Bool) (l : List AttrD) : FnM BB 15 [.loc 0 0] [(0, scC s i k nm (.own 1) sf da x), (1, .own attrTy l)] True (.bool (decide ((i : Int) ≥ (s.length : Int)))) [(0, scC s i k nm (.own 1) sf da x), (1, .own attrTy l)] := by
  refine FnM.intro (N := 13) [0, 2] [(1, [0, 0, 0, 1, 0, 0, 0, 1, 1, 3, 3])] 2 Try.call15 Try.func15 rfl rfl (by kernel_rfl) (fun hpre => ?_)
  repeat' ((conv => whnf); first | (with_reducible rfl) | exact True.intro | (with_reducible exact absTF) | (with_reducible exact absFT) | intro _ | refine And.intro ?_ ?_ | refine Fin.mk ?_ | refine CallG.plain rfl ?_ ?_ | refine CallG.mk rfl ?_ ?_ | refine CallG.nwl rfl ?_ ?_ | refine CallG.nw ?_ ?_ | refine CallF.nwl rfl ?_ ?_ | refine CallF.nw ?_ ?_ | refine AppN.mk ?_ | (refine CallS.q ?_; (conv => whnf); first | refine CallG.plain rfl ?_ ?_ | refine CallG.mk rfl ?_ ?_) | (refine CallS.m ?_; (conv => whnf); refine CallM.mk rfl ?_ ?_) | (refine CallS.h ?_; (conv => whnf); refine CallM.mk rfl ?_ ?_) | (refine CallS.b ?_; (conv => whnf); refine CallM.mk rfl ?_ ?_) | (refine CallS.z ?_; (conv => whnf); refine CallM.mk rfl ?_ ?_))
  all_goals (try (conv => whnf))
  all_goals (try (exact Ob.mk (u8_bnd _)))
  all_goals (try (refine Ob.mk ?_; first | exact True.intro | assumption | omega | (try simp only [decide_eq_true_eq, decide_eq_false_iff_not, beq_iff_eq, beq_eq_false_iff_ne, bne_iff_ne, bne_eq_false_iff_eq, ne_eq, Bool.and_eq_true, Bool.or_eq_true, Bool.not_eq_true, Bool.not_eq_false, Bool.not_eq_true', Bool.not_eq_false', Int.toNat_natCast, Int.not_lt, Int.not_le, UInt8.ofNat_toNat, cast_eq] at *; omega)))
  all_goals (try ((show (_:Int) = _); omega))
  all_goals (try (show tupSV _ = _; with_unfolding_all rfl))
  all_goals (try ((show (_ : Nat) ≤ _); (simp <;> omega)))
  all_goals (try ((show (_ : Nat) ≤ _ ∧ (_ : Nat) ≤ _); (simp <;> omega)))
  all_goals (try ((show (_ : Int) ≤ _ ∧ (_ : Int) ≤ _ ∧ (_ : Int) ≤ _ ∧ (_ : Int) ≤ _); (simp <;> omega)))
theorem tIsBn (s nm da x : List UInt8) (i : Nat) (k : Int) (sf : Bool) (l : List AttrD) (c : Int) : FnM BB 34 [.loc 0 0, .int .u8 c] [(0, scC s i k nm (.own 1) sf da x), (1, .own attrTy l)] True (.bool (decide ((i : Int) < (s.length : Int)) && ((s.getD i 0).toNat : Int) == c)) [(0, scC s i k nm (.own 1) sf da x), (1, .own attrTy l)] := by
  refine FnM.intro (N := 28) [0, 1, 4] [(1, [0, 0, 0, 1, 0, 0, 0, 1, 1, 1, 1, 1, 1, 1, 1, 1, 1, 1, 1, 1, 1, 3, 3, 3])] 2 Try.call34 Try.func34 rfl rfl (by kernel_rfl) (fun hpre => ?_)
  repeat' ((conv => whnf); first | (with_reducible rfl) | exact True.intro | (with_reducible exact absTF) | (with_reducible exact absFT) | intro _ | refine And.intro ?_ ?_ | refine Fin.mk ?_ | refine CallG.plain rfl ?_ ?_ | refine CallG.mk rfl ?_ ?_ | refine CallG.nwl rfl ?_ ?_ | refine CallG.nw ?_ ?_ | refine CallF.nwl rfl ?_ ?_ | refine CallF.nw ?_ ?_ | refine AppN.mk ?_ | (refine CallS.q ?_; (conv => whnf); first | refine CallG.plain rfl ?_ ?_ | refine CallG.mk rfl ?_ ?_) | (refine CallS.m ?_; (conv => whnf); refine CallM.mk rfl ?_ ?_) | (refine CallS.h ?_; (conv => whnf); refine CallM.mk rfl ?_ ?_) | (refine CallS.b ?_; (conv => whnf); refine CallM.mk rfl ?_ ?_) | (refine CallS.z ?_; (conv => whnf); refine CallM.mk rfl ?_ ?_))
  all_goals (try (conv => whnf))
  all_goals (try (exact Ob.mk (u8_bnd _)))
  all_goals (try (refine Ob.mk ?_; first | exact True.intro | assumption | omega | (try simp only [decide_eq_true_eq, decide_eq_false_iff_not, beq_iff_eq, beq_eq_false_iff_ne, bne_iff_ne, bne_eq_false_iff_eq, ne_eq, Bool.and_eq_true, Bool.or_eq_true, Bool.not_eq_true, Bool.not_eq_false, Bool.not_eq_true', Bool.not_eq_false', Int.toNat_natCast, Int.not_lt, Int.not_le, UInt8.ofNat_toNat, cast_eq] at *; omega)))
  all_goals (try ((show (_:Int) = _); omega))
  all_goals (try (show tupSV _ = _; with_unfolding_all rfl))
  all_goals (try ((show (_ : Nat) ≤ _); (simp <;> omega)))
  all_goals (try ((show (_ : Nat) ≤ _ ∧ (_ : Nat) ≤ _); (simp <;> omega)))
  all_goals (try ((show (_ : Int) ≤ _ ∧ (_ : Int) ≤ _ ∧ (_ : Int) ≤ _ ∧ (_ : Int) ≤ _); (simp <;> omega)))
  all_goals (first | rfl | omega | trace_state)
theorem tBlanksBn (s nm da x : List UInt8) (i : Nat) (k : Int) (sf : Bool) (l : List AttrD) : FnM BB 33 [.loc 0 0] [(0, scC s i k nm (.own 1) sf da x), (1, .own attrTy l)] (i ≤ s.length ∧ s.length ≤ 100000) (.tup []) [(0, scC s (upTo blB s i : Nat) k nm (.own 1) sf da x), (1, .own attrTy l)] := by
  refine FnM.intro (N := 31) [0, 23] [(0, [0, 0, 0, 1, 0, 0, 0, 1, 1, 1, 1, 1, 1, 1, 1, 1, 1, 1, 1, 3, 3, 3])] 2 Try.call33 Try.func33 rfl rfl (by kernel_rfl) (fun hpre => ?_)
  obtain ⟨p1, p2⟩ := hpre
  repeat' ((conv => whnf); first | (with_reducible rfl) | exact True.intro | (with_reducible exact absTF) | (with_reducible exact absFT) | intro _ | refine And.intro ?_ ?_ | refine Fin.mk ?_ | refine CallG.plain rfl ?_ ?_ | refine CallG.mk rfl ?_ ?_ | refine CallG.nwl rfl ?_ ?_ | refine CallG.nw ?_ ?_ | refine CallF.nwl rfl ?_ ?_ | refine CallF.nw ?_ ?_ | refine AppN.mk ?_ | (refine CallS.q ?_; (conv => whnf); first | refine CallG.plain rfl ?_ ?_ | refine CallG.mk rfl ?_ ?_) | (refine CallS.m ?_; (conv => whnf); refine CallM.mk rfl ?_ ?_) | (refine CallS.h ?_; (conv => whnf); refine CallM.mk rfl ?_ ?_) | (refine CallS.b ?_; (conv => whnf); refine CallM.mk rfl ?_ ?_) | (refine CallS.z ?_; (conv => whnf); refine CallM.mk rfl ?_ ?_))
  all_goals (try (conv => whnf))
  all_goals (try (exact Ob.mk (u8_bnd _)))
  all_goals (try (refine Ob.mk ?_; first | exact True.intro | assumption | omega | (try simp only [decide_eq_true_eq, decide_eq_false_iff_not, beq_iff_eq, beq_eq_false_iff_ne, bne_iff_ne, bne_eq_false_iff_eq, ne_eq, Bool.and_eq_true, Bool.or_eq_true, Bool.not_eq_true, Bool.not_eq_false, Bool.not_eq_true', Bool.not_eq_false', Int.toNat_natCast, Int.not_lt, Int.not_le, UInt8.ofNat_toNat, cast_eq] at *; omega)))
  all_goals (try ((show (_:Int) = _); omega))
  all_goals (try (show tupSV _ = _; with_unfolding_all rfl))
  all_goals (try ((show (_ : Nat) ≤ _); (simp <;> omega)))
  all_goals (try ((show (_ : Nat) ≤ _ ∧ (_ : Nat) ≤ _); (simp <;> omega)))
  all_goals (try ((show (_ : Int) ≤ _ ∧ (_ : Int) ≤ _ ∧ (_ : Int) ≤ _ ∧ (_ : Int) ≤ _); (simp <;> omega)))
  refine LoopStop.mk (α := Nat) (fun j => []) (fun j => [(0, scC s j k nm (.own 1) sf da x)]) 20 (fun j => j ≤ s.length ∧ upTo blB s j = upTo blB s i) (fun j => s.length - j) i ⟨p1, rfl⟩ ?_ (fun j hj => ?_)
  · repeat' ((conv => whnf); first | (with_reducible rfl) | exact True.intro | (with_reducible exact absTF) | (with_reducible exact absFT) | intro _ | refine And.intro ?_ ?_ | refine Fin.mk ?_ | refine CallG.plain rfl ?_ ?_ | refine CallG.mk rfl ?_ ?_ | refine CallG.nwl rfl ?_ ?_ | refine CallG.nw ?_ ?_ | refine CallF.nwl rfl ?_ ?_ | refine CallF.nw ?_ ?_ | refine AppN.mk ?_ | (refine CallS.q ?_; (conv => whnf); first | refine CallG.plain rfl ?_ ?_ | refine CallG.mk rfl ?_ ?_) | (refine CallS.m ?_; (conv => whnf); refine CallM.mk rfl ?_ ?_) | (refine CallS.h ?_; (conv => whnf); refine CallM.mk rfl ?_ ?_) | (refine CallS.b ?_; (conv => whnf); refine CallM.mk rfl ?_ ?_) | (refine CallS.z ?_; (conv => whnf); refine CallM.mk rfl ?_ ?_))
    all_goals (try (conv => whnf))
    all_goals (try (exact Ob.mk (u8_bnd _)))
    all_goals (try (refine Ob.mk ?_; first | exact True.intro | assumption | omega | (try simp only [decide_eq_true_eq, decide_eq_false_iff_not, beq_iff_eq, beq_eq_false_iff_ne, bne_iff_ne, bne_eq_false_iff_eq, ne_eq, Bool.and_eq_true, Bool.or_eq_true, Bool.not_eq_true, Bool.not_eq_false, Bool.not_eq_true', Bool.not_eq_false', Int.toNat_natCast, Int.not_lt, Int.not_le, UInt8.ofNat_toNat, cast_eq] at *; omega)))
    all_goals (try ((show (_:Int) = _); omega))
    all_goals (try (show tupSV _ = _; with_unfolding_all rfl))
    all_goals (try ((show (_ : Nat) ≤ _); (simp <;> omega)))
    all_goals (try ((show (_ : Nat) ≤ _ ∧ (_ : Nat) ≤ _); (simp <;> omega)))
    all_goals (try ((show (_ : Int) ≤ _ ∧ (_ : Int) ≤ _ ∧ (_ : Int) ≤ _ ∧ (_ : Int) ≤ _); (simp <;> omega)))
    all_goals rfl
  · obtain ⟨q1, q2⟩ := hj
    have cc : (decide ((j : Int) < (s.length : Int)) && W.isSp ((s.getD ((j : Int)).toNat 0).toNat : Int)) = (decide (j < s.length) && blB (s.getD j 0)) := by
      rw [Int.toNat_natCast]
      congr 1
      rw [Bool.eq_iff_iff]; simp
    repeat' ((conv => whnf); first | (with_reducible rfl) | exact True.intro | (with_reducible exact absTF) | (with_reducible exact absFT) | intro _ | refine And.intro ?_ ?_ | refine Fin.mk ?_ | refine CallG.plain rfl ?_ ?_ | refine CallG.mk rfl ?_ ?_ | refine CallG.nwl rfl ?_ ?_ | refine CallG.nw ?_ ?_ | refine CallF.nwl rfl ?_ ?_ | refine CallF.nw ?_ ?_ | refine AppN.mk ?_ | (refine CallS.q ?_; (conv => whnf); first | refine CallG.plain rfl ?_ ?_ | refine CallG.mk rfl ?_ ?_) | (refine CallS.m ?_; (conv => whnf); refine CallM.mk rfl ?_ ?_) | (refine CallS.h ?_; (conv => whnf); refine CallM.mk rfl ?_ ?_) | (refine CallS.b ?_; (conv => whnf); refine CallM.mk rfl ?_ ?_) | (refine CallS.z ?_; (conv => whnf); refine CallM.mk rfl ?_ ?_))
    all_goals (try (conv => whnf))
    all_goals (try (exact Ob.mk (u8_bnd _)))
    all_goals (try (refine Ob.mk ?_; first | exact True.intro | assumption | omega | (try simp only [decide_eq_true_eq, decide_eq_false_iff_not, beq_iff_eq, beq_eq_false_iff_ne, bne_iff_ne, bne_eq_false_iff_eq, ne_eq, Bool.and_eq_true, Bool.or_eq_true, Bool.not_eq_true, Bool.not_eq_false, Bool.not_eq_true', Bool.not_eq_false', Int.toNat_natCast, Int.not_lt, Int.not_le, UInt8.ofNat_toNat, cast_eq] at *; omega)))
    all_goals (try ((show (_:Int) = _); omega))
    all_goals (try (show tupSV _ = _; with_unfolding_all rfl))
    all_goals (try ((show (_ : Nat) ≤ _); (simp <;> omega)))
    all_goals (try ((show (_ : Nat) ≤ _ ∧ (_ : Nat) ≤ _); (simp <;> omega)))
    all_goals (try ((show (_ : Int) ≤ _ ∧ (_ : Int) ≤ _ ∧ (_ : Int) ≤ _ ∧ (_ : Int) ≤ _); (simp <;> omega)))
    all_goals (simp only [cc] at *)
    · have h : (decide (j < s.length) && blB (s.getD j 0)) = true := ‹_›
      rw [Bool.and_eq_true, decide_eq_true_eq] at h
      refine Rnd.mk ⟨j + 1, ⟨by omega, (upTo_step blB s j h.1 h.2).trans q2⟩, by omega, ?_⟩
      repeat' ((conv => whnf); first | (with_reducible rfl) | exact True.intro | (with_reducible exact absTF) | (with_reducible exact absFT) | intro _ | refine And.intro ?_ ?_ | refine Fin.mk ?_ | refine CallG.plain rfl ?_ ?_ | refine CallG.mk rfl ?_ ?_ | refine CallG.nwl rfl ?_ ?_ | refine CallG.nw ?_ ?_ | refine CallF.nwl rfl ?_ ?_ | refine CallF.nw ?_ ?_ | refine AppN.mk ?_ | (refine CallS.q ?_; (conv => whnf); first | refine CallG.plain rfl ?_ ?_ | refine CallG.mk rfl ?_ ?_) | (refine CallS.m ?_; (conv => whnf); refine CallM.mk rfl ?_ ?_) | (refine CallS.h ?_; (conv => whnf); refine CallM.mk rfl ?_ ?_) | (refine CallS.b ?_; (conv => whnf); refine CallM.mk rfl ?_ ?_) | (refine CallS.z ?_; (conv => whnf); refine CallM.mk rfl ?_ ?_))
      all_goals (try (conv => whnf))
      all_goals (try (exact Ob.mk (u8_bnd _)))
      all_goals (try (refine Ob.mk ?_; first | exact True.intro | assumption | omega | (try simp only [decide_eq_true_eq, decide_eq_false_iff_not, beq_iff_eq, beq_eq_false_iff_ne, bne_iff_ne, bne_eq_false_iff_eq, ne_eq, Bool.and_eq_true, Bool.or_eq_true, Bool.not_eq_true, Bool.not_eq_false, Bool.not_eq_true', Bool.not_eq_false', Int.toNat_natCast, Int.not_lt, Int.not_le, UInt8.ofNat_toNat, cast_eq] at *; omega)))
      all_goals (try ((show (_:Int) = _); omega))
      all_goals (try (show tupSV _ = _; with_unfolding_all rfl))
      all_goals (try ((show (_ : Nat) ≤ _); (simp <;> omega)))
      all_goals (try ((show (_ : Nat) ≤ _ ∧ (_ : Nat) ≤ _); (simp <;> omega)))
      all_goals (try ((show (_ : Int) ≤ _ ∧ (_ : Int) ≤ _ ∧ (_ : Int) ≤ _ ∧ (_ : Int) ≤ _); (simp <;> omega)))
      all_goals rfl
    · have h : (decide (j < s.length) && blB (s.getD j 0)) = false := ‹_›
      rw [← q2]
      rcases Nat.lt_or_ge j s.length with hl | hl
      · rw [decide_eq_true hl, Bool.true_and] at h
        rw [upTo_stop blB s j hl h]
      · rw [upTo_end blB s j hl]
theorem tUntilBn (s nm da x : List UInt8) (i : Nat) (k : Int) (sf : Bool) (l : List AttrD) (st : List UInt8) : FnM BB 17 [.loc 0 0, .str st] [(0, scC s i k nm (.own 1) sf da x), (1, .own attrTy l)] (i ≤ s.length ∧ s.length ≤ 100000) (.tup []) [(0, scC s (upTo (stP st) s i : Nat) k nm (.own 1) sf da x), (1, .own attrTy l)] := by
  refine FnM.intro (N := 48) [0, 1, 40] [(0, [0, 0, 0, 1, 0, 0, 0, 1, 1, 1, 1, 1, 1, 1, 1, 1, 1, 1, 1, 1, 1, 1, 1, 1, 1, 1, 1, 1, 1, 1, 1, 1, 1, 1, 3, 3, 3])] 2 Try.call17 Try.func17 rfl rfl (by kernel_rfl) (fun hpre => ?_)
  obtain ⟨p1, p2⟩ := hpre
  repeat' ((conv => whnf); first | (with_reducible rfl) | exact True.intro | (with_reducible exact absTF) | (with_reducible exact absFT) | intro _ | refine And.intro ?_ ?_ | refine Fin.mk ?_ | refine CallG.plain rfl ?_ ?_ | refine CallG.mk rfl ?_ ?_ | refine CallG.nwl rfl ?_ ?_ | refine CallG.nw ?_ ?_ | refine CallF.nwl rfl ?_ ?_ | refine CallF.nw ?_ ?_ | refine AppN.mk ?_ | (refine CallS.q ?_; (conv => whnf); first | refine CallG.plain rfl ?_ ?_ | refine CallG.mk rfl ?_ ?_) | (refine CallS.m ?_; (conv => whnf); refine CallM.mk rfl ?_ ?_) | (refine CallS.h ?_; (conv => whnf); refine CallM.mk rfl ?_ ?_) | (refine CallS.b ?_; (conv => whnf); refine CallM.mk rfl ?_ ?_) | (refine CallS.z ?_; (conv => whnf); refine CallM.mk rfl ?_ ?_))
  all_goals (try (conv => whnf))
  all_goals (try (exact Ob.mk (u8_bnd _)))
  all_goals (try (refine Ob.mk ?_; first | exact True.intro | assumption | omega | (try simp only [decide_eq_true_eq, decide_eq_false_iff_not, beq_iff_eq, beq_eq_false_iff_ne, bne_iff_ne, bne_eq_false_iff_eq, ne_eq, Bool.and_eq_true, Bool.or_eq_true, Bool.not_eq_true, Bool.not_eq_false, Bool.not_eq_true', Bool.not_eq_false', Int.toNat_natCast, Int.not_lt, Int.not_le, UInt8.ofNat_toNat, cast_eq] at *; omega)))
  all_goals (try ((show (_:Int) = _); omega))
  all_goals (try (show tupSV _ = _; with_unfolding_all rfl))
  all_goals (try ((show (_ : Nat) ≤ _); (simp <;> omega)))
  all_goals (try ((show (_ : Nat) ≤ _ ∧ (_ : Nat) ≤ _); (simp <;> omega)))
  all_goals (try ((show (_ : Int) ≤ _ ∧ (_ : Int) ≤ _ ∧ (_ : Int) ≤ _ ∧ (_ : Int) ≤ _); (simp <;> omega)))
  refine LoopStop.mk (α := Nat) (fun j => []) (fun j => [(0, scC s j k nm (.own 1) sf da x)]) 20 (fun j => j ≤ s.length ∧ upTo (stP st) s j = upTo (stP st) s i) (fun j => s.length - j) i ⟨p1, rfl⟩ ?_ (fun j hj => ?_)
  · repeat' ((conv => whnf); first | (with_reducible rfl) | exact True.intro | (with_reducible exact absTF) | (with_reducible exact absFT) | intro _ | refine And.intro ?_ ?_ | refine Fin.mk ?_ | refine CallG.plain rfl ?_ ?_ | refine CallG.mk rfl ?_ ?_ | refine CallG.nwl rfl ?_ ?_ | refine CallG.nw ?_ ?_ | refine CallF.nwl rfl ?_ ?_ | refine CallF.nw ?_ ?_ | refine AppN.mk ?_ | (refine CallS.q ?_; (conv => whnf); first | refine CallG.plain rfl ?_ ?_ | refine CallG.mk rfl ?_ ?_) | (refine CallS.m ?_; (conv => whnf); refine CallM.mk rfl ?_ ?_) | (refine CallS.h ?_; (conv => whnf); refine CallM.mk rfl ?_ ?_) | (refine CallS.b ?_; (conv => whnf); refine CallM.mk rfl ?_ ?_) | (refine CallS.z ?_; (conv => whnf); refine CallM.mk rfl ?_ ?_))
    all_goals (try (conv => whnf))
    all_goals (try (exact Ob.mk (u8_bnd _)))
    all_goals (try (refine Ob.mk ?_; first | exact True.intro | assumption | omega | (try simp only [decide_eq_true_eq, decide_eq_false_iff_not, beq_iff_eq, beq_eq_false_iff_ne, bne_iff_ne, bne_eq_false_iff_eq, ne_eq, Bool.and_eq_true, Bool.or_eq_true, Bool.not_eq_true, Bool.not_eq_false, Bool.not_eq_true', Bool.not_eq_false', Int.toNat_natCast, Int.not_lt, Int.not_le, UInt8.ofNat_toNat, cast_eq] at *; omega)))
    all_goals (try ((show (_:Int) = _); omega))
    all_goals (try (show tupSV _ = _; with_unfolding_all rfl))
    all_goals (try ((show (_ : Nat) ≤ _); (simp <;> omega)))
    all_goals (try ((show (_ : Nat) ≤ _ ∧ (_ : Nat) ≤ _); (simp <;> omega)))
    all_goals (try ((show (_ : Int) ≤ _ ∧ (_ : Int) ≤ _ ∧ (_ : Int) ≤ _ ∧ (_ : Int) ≤ _); (simp <;> omega)))
    all_goals rfl
  · obtain ⟨q1, q2⟩ := hj
    have cc : (decide ((j : Int) < (s.length : Int)) && !W.isSp ((s.getD ((j : Int)).toNat 0).toNat : Int) && decide (Lib.indexByte st ((s.getD ((j : Int)).toNat 0).toNat : Int).toNat.toUInt8 < 0)) = (decide (j < s.length) && stP st (s.getD j 0)) := by
      rw [Int.toNat_natCast, ixb st (s.getD j 0), Bool.and_assoc]
      congr 1
      rw [Bool.eq_iff_iff]; simp
    repeat' ((conv => whnf); first | (with_reducible rfl) | exact True.intro | (with_reducible exact absTF) | (with_reducible exact absFT) | intro _ | refine And.intro ?_ ?_ | refine Fin.mk ?_ | refine CallG.plain rfl ?_ ?_ | refine CallG.mk rfl ?_ ?_ | refine CallG.nwl rfl ?_ ?_ | refine CallG.nw ?_ ?_ | refine CallF.nwl rfl ?_ ?_ | refine CallF.nw ?_ ?_ | refine AppN.mk ?_ | (refine CallS.q ?_; (conv => whnf); first | refine CallG.plain rfl ?_ ?_ | refine CallG.mk rfl ?_ ?_) | (refine CallS.m ?_; (conv => whnf); refine CallM.mk rfl ?_ ?_) | (refine CallS.h ?_; (conv => whnf); refine CallM.mk rfl ?_ ?_) | (refine CallS.b ?_; (conv => whnf); refine CallM.mk rfl ?_ ?_) | (refine CallS.z ?_; (conv => whnf); refine CallM.mk rfl ?_ ?_))
    all_goals (try (conv => whnf))
    all_goals (try (exact Ob.mk (u8_bnd _)))
    all_goals (try (refine Ob.mk ?_; first | exact True.intro | assumption | omega | (try simp only [decide_eq_true_eq, decide_eq_false_iff_not, beq_iff_eq, beq_eq_false_iff_ne, bne_iff_ne, bne_eq_false_iff_eq, ne_eq, Bool.and_eq_true, Bool.or_eq_true, Bool.not_eq_true, Bool.not_eq_false, Bool.not_eq_true', Bool.not_eq_false', Int.toNat_natCast, Int.not_lt, Int.not_le, UInt8.ofNat_toNat, cast_eq] at *; omega)))
    all_goals (try ((show (_:Int) = _); omega))
    all_goals (try (show tupSV _ = _; with_unfolding_all rfl))
    all_goals (try ((show (_ : Nat) ≤ _); (simp <;> omega)))
    all_goals (try ((show (_ : Nat) ≤ _ ∧ (_ : Nat) ≤ _); (simp <;> omega)))
    all_goals (try ((show (_ : Int) ≤ _ ∧ (_ : Int) ≤ _ ∧ (_ : Int) ≤ _ ∧ (_ : Int) ≤ _); (simp <;> omega)))
    all_goals (simp only [cc] at *)
    · have h : (decide (j < s.length) && stP st (s.getD j 0)) = true := ‹_›
      rw [Bool.and_eq_true, decide_eq_true_eq] at h
      refine Rnd.mk ⟨j + 1, ⟨by omega, (upTo_step (stP st) s j h.1 h.2).trans q2⟩, by omega, ?_⟩
      repeat' ((conv => whnf); first | (with_reducible rfl) | exact True.intro | (with_reducible exact absTF) | (with_reducible exact absFT) | intro _ | refine And.intro ?_ ?_ | refine Fin.mk ?_ | refine CallG.plain rfl ?_ ?_ | refine CallG.mk rfl ?_ ?_ | refine CallG.nwl rfl ?_ ?_ | refine CallG.nw ?_ ?_ | refine CallF.nwl rfl ?_ ?_ | refine CallF.nw ?_ ?_ | refine AppN.mk ?_ | (refine CallS.q ?_; (conv => whnf); first | refine CallG.plain rfl ?_ ?_ | refine CallG.mk rfl ?_ ?_) | (refine CallS.m ?_; (conv => whnf); refine CallM.mk rfl ?_ ?_) | (refine CallS.h ?_; (conv => whnf); refine CallM.mk rfl ?_ ?_) | (refine CallS.b ?_; (conv => whnf); refine CallM.mk rfl ?_ ?_) | (refine CallS.z ?_; (conv => whnf); refine CallM.mk rfl ?_ ?_))
      all_goals (try (conv => whnf))
      all_goals (try (exact Ob.mk (u8_bnd _)))
      all_goals (try (refine Ob.mk ?_; first | exact True.intro | assumption | omega | (try simp only [decide_eq_true_eq, decide_eq_false_iff_not, beq_iff_eq, beq_eq_false_iff_ne, bne_iff_ne, bne_eq_false_iff_eq, ne_eq, Bool.and_eq_true, Bool.or_eq_true, Bool.not_eq_true, Bool.not_eq_false, Bool.not_eq_true', Bool.not_eq_false', Int.toNat_natCast, Int.not_lt, Int.not_le, UInt8.ofNat_toNat, cast_eq] at *; omega)))
      all_goals (try ((show (_:Int) = _); omega))
      all_goals (try (show tupSV _ = _; with_unfolding_all rfl))
      all_goals (try ((show (_ : Nat) ≤ _); (simp <;> omega)))
      all_goals (try ((show (_ : Nat) ≤ _ ∧ (_ : Nat) ≤ _); (simp <;> omega)))
      all_goals (try ((show (_ : Int) ≤ _ ∧ (_ : Int) ≤ _ ∧ (_ : Int) ≤ _ ∧ (_ : Int) ≤ _); (simp <;> omega)))
      all_goals rfl
    · have h : (decide (j < s.length) && stP st (s.getD j 0)) = false := ‹_›
      rw [← q2]
      rcases Nat.lt_or_ge j s.length with hl | hl
      · rw [decide_eq_true hl, Bool.true_and] at h
        rw [upTo_stop (stP st) s j hl h]
      · rw [upTo_end (stP st) s j hl]
theorem tValueBn (s nm da x : List UInt8) (i : Nat) (k : Int) (sf : Bool) (l : List AttrD) : FnM BB 36 [.loc 0 0] [(0, scC s i k nm (.own 1) sf da x), (1, .own attrTy l)] (i < s.length ∧ s.length ≤ 100000) (.tup [.str (valS s i).1, .bool (valS s i).2.2]) [(0, scC s ((valS s i).2.1 : Nat) k nm (.own 1) sf da x), (1, .own attrTy l)] := by
  refine FnM.intro (N := 58) [0, 2, 3, 4, 5, 6, 18, 47] [(4, [0, 0, 0, 1, 0, 0, 0, 0, 1, 3, 3, 0])] 2 Try.call36 Try.func36 rfl rfl (by kernel_rfl) (fun hpre => ?_)
  obtain ⟨p1, p2⟩ := hpre
  have hu := upTo_le (stP [62]) s i (by omega)
  haveI := fun c : Int => tIsBn s nm da x i k sf l c
  haveI := fun st : List UInt8 => tUntilBn s nm da x i k sf l st
  have e1 : decide ((i : Int) < (s.length : Int)) = true := decide_eq_true (by omega)
  have e34 : (((s.getD i 0).toNat : Int) == 34) = (s.getD i 0 == 34) := b_iff _ 34
  have e39 : (((s.getD i 0).toNat : Int) == 39) = (s.getD i 0 == 39) := b_iff _ 39
  have qa : (!(decide ((i : Int) < (s.length : Int)) && ((s.getD i 0).toNat : Int) == 34)) = true → (true && !(decide ((i : Int) < (s.length : Int)) && ((s.getD i 0).toNat : Int) == 39)) = true → qB (s.getD i 0) = false := fun h h' => by
    rw [e1, Bool.true_and, e34] at h; rw [e1, Bool.true_and, Bool.true_and, e39] at h'
    unfold qB; cases h1 : s.getD i 0 == 34 <;> cases h2 : s.getD i 0 == 39 <;> simp_all
  have qb : (!(decide ((i : Int) < (s.length : Int)) && ((s.getD i 0).toNat : Int) == 34)) = true → (true && !(decide ((i : Int) < (s.length : Int)) && ((s.getD i 0).toNat : Int) == 39)) = false → qB (s.getD i 0) = true := fun h h' => by
    rw [e1, Bool.true_and, e34] at h; rw [e1, Bool.true_and, Bool.true_and, e39] at h'
    unfold qB; cases h1 : s.getD i 0 == 34 <;> cases h2 : s.getD i 0 == 39 <;> simp_all
  have qc : (!(decide ((i : Int) < (s.length : Int)) && ((s.getD i 0).toNat : Int) == 34)) = !true → qB (s.getD i 0) = true := fun h => by
    rw [e1, Bool.true_and, e34] at h
    unfold qB; cases h1 : s.getD i 0 == 34 <;> simp_all
  have hx := Lib.indexByte_ge (s.drop (i + 1)) (s.getD i 0)
  have hx2 := ixb_le (s.drop (i + 1)) (s.getD i 0)
  rw [List.length_drop] at hx2
  have ei : ((i : Int)).toNat = i := Int.toNat_natCast i
  have ei1 : ((i : Int) + 1).toNat = i + 1 := by omega
  have v1 : qB (s.getD i 0) = false → valS s i = ((s.take (upTo (stP [62]) s i)).drop i, upTo (stP [62]) s i, true) := fun h => by unfold valS; rw [h]; rfl
  have v2 : qB (s.getD i 0) = true → decide (Lib.indexByte (s.drop (i + 1)) (s.getD i 0) < 0) = true → valS s i = ([], i, false) := fun h h' => by unfold valS; rw [h, if_pos rfl, if_pos (of_decide_eq_true h')]
  have v3 : qB (s.getD i 0) = true → decide (Lib.indexByte (s.drop (i + 1)) (s.getD i 0) < 0) = false → valS s i = ((s.drop (i + 1)).take (Lib.indexByte (s.drop (i + 1)) (s.getD i 0)).toNat, i + (Lib.indexByte (s.drop (i + 1)) (s.getD i 0)).toNat + 2, true) := fun h h' => by unfold valS; rw [h, if_pos rfl, if_neg (of_decide_eq_false h')]
  repeat' ((conv => whnf); first | (with_reducible rfl) | exact True.intro | (with_reducible exact absTF) | (with_reducible exact absFT) | intro _ | refine And.intro ?_ ?_ | refine Fin.mk ?_ | refine CallG.plain rfl ?_ ?_ | refine CallG.mk rfl ?_ ?_ | refine CallG.nwl rfl ?_ ?_ | refine CallG.nw ?_ ?_ | refine CallF.nwl rfl ?_ ?_ | refine CallF.nw ?_ ?_ | refine AppN.mk ?_ | (refine CallS.q ?_; (conv => whnf); first | refine CallG.plain rfl ?_ ?_ | refine CallG.mk rfl ?_ ?_) | (refine CallS.m ?_; (conv => whnf); refine CallM.mk rfl ?_ ?_) | (refine CallS.h ?_; (conv => whnf); refine CallM.mk rfl ?_ ?_) | (refine CallS.b ?_; (conv => whnf); refine CallM.mk rfl ?_ ?_) | (refine CallS.z ?_; (conv => whnf); refine CallM.mk rfl ?_ ?_))
  all_goals (try (conv => whnf))
  all_goals (try (exact Ob.mk (u8_bnd _)))
  all_goals (try (refine Ob.mk ?_; first | exact True.intro | assumption | omega | (try simp only [decide_eq_true_eq, decide_eq_false_iff_not, beq_iff_eq, beq_eq_false_iff_ne, bne_iff_ne, bne_eq_false_iff_eq, ne_eq, Bool.and_eq_true, Bool.or_eq_true, Bool.not_eq_true, Bool.not_eq_false, Bool.not_eq_true', Bool.not_eq_false', Int.toNat_natCast, Int.not_lt, Int.not_le, UInt8.ofNat_toNat, cast_eq] at *; omega)))
  all_goals (try ((show (_:Int) = _); omega))
  all_goals (try (show tupSV _ = _; with_unfolding_all rfl))
  all_goals (try ((show (_ : Nat) ≤ _); (simp <;> omega)))
  all_goals (try ((show (_ : Nat) ≤ _ ∧ (_ : Nat) ≤ _); (simp <;> omega)))
  all_goals (try ((show (_ : Int) ≤ _ ∧ (_ : Int) ≤ _ ∧ (_ : Int) ≤ _ ∧ (_ : Int) ≤ _); (simp <;> omega)))
  all_goals (try simp only [ei, ei1, Int.toNat_natCast] at *)
  all_goals (have ec : (s.getD i 0).toNat.toUInt8 = s.getD i 0 := by simp)
  all_goals (try simp only [ec] at *)
  all_goals (try (have hge := of_decide_eq_false ‹decide (Lib.indexByte (s.drop (i + 1)) (s.getD i 0) < 0) = false›))
  all_goals (try (have hv := v1 (qa ‹_› ‹_›)))
  all_goals (try (have hv := v2 (qb ‹_› ‹_›) ‹_›))
  all_goals (try (have hv := v2 (qc ‹_›) ‹_›))
  all_goals (try (have hv := v3 (qb ‹_› ‹_›) ‹_›))
  all_goals (try (have hv := v3 (qc ‹_›) ‹_›))
  all_goals (first | (rw [hv]; done) | (rw [hv]; rfl) | omega | (constructor <;> omega) | (rw [hv]; simp only; omega) | (exact ⟨by omega, by rw [List.length_drop]; omega⟩) | trace_state)
instance tOverB (s nm da x : List UInt8) (i : Int) (k : Int) (sf : Bool) (l : List AttrD) : FnM BB 15 [.loc 0 0] [(0, scC s i k nm (.own 1) sf da x), (1, .own attrTy l)] (0 ≤ i) (.bool (decide (i ≥ (s.length : Int)))) [(0, scC s i k nm (.own 1) sf da x), (1, .own attrTy l)] :=
  FnM.ofNat' (args := fun _ => [.loc 0 0]) (Φ := fun i => [(0, scC s i k nm (.own 1) sf da x), (1, .own attrTy l)]) (Φ' := fun i => [(0, scC s i k nm (.own 1) sf da x), (1, .own attrTy l)]) (pre := fun i => 0 ≤ i) (res := fun i => .bool (decide (i ≥ (s.length : Int)))) i (fun h => h) fun n => (tOverBn s nm da x n k sf l).weaken fun _ => True.intro
instance tIsB (s nm da x : List UInt8) (i : Int) (k : Int) (sf : Bool) (l : List AttrD) (c : Int) : FnM BB 34 [.loc 0 0, .int .u8 c] [(0, scC s i k nm (.own 1) sf da x), (1, .own attrTy l)] (0 ≤ i) (.bool (decide (i < (s.length : Int)) && ((s.getD i.toNat 0).toNat : Int) == c)) [(0, scC s i k nm (.own 1) sf da x), (1, .own attrTy l)] :=
  FnM.ofNat' (args := fun _ => [.loc 0 0, .int .u8 c]) (Φ := fun i => [(0, scC s i k nm (.own 1) sf da x), (1, .own attrTy l)]) (Φ' := fun i => [(0, scC s i k nm (.own 1) sf da x), (1, .own attrTy l)]) (pre := fun i => 0 ≤ i) (res := fun i => .bool (decide (i < (s.length : Int)) && ((s.getD i.toNat 0).toNat : Int) == c)) i (fun h => h) fun n => (tIsBn s nm da x n k sf l c).weaken fun _ => True.intro
instance tBlanksB (s nm da x : List UInt8) (i : Int) (k : Int) (sf : Bool) (l : List AttrD) : FnM BB 33 [.loc 0 0] [(0, scC s i k nm (.own 1) sf da x), (1, .own attrTy l)] (0 ≤ i ∧ i ≤ s.length ∧ s.length ≤ 100000) (.tup []) [(0, scC s (upTo blB s i.toNat : Nat) k nm (.own 1) sf da x), (1, .own attrTy l)] :=
  FnM.ofNat' (args := fun _ => [.loc 0 0]) (Φ := fun i => [(0, scC s i k nm (.own 1) sf da x), (1, .own attrTy l)]) (Φ' := fun i => [(0, scC s (upTo blB s i.toNat : Nat) k nm (.own 1) sf da x), (1, .own attrTy l)]) (pre := fun i => 0 ≤ i ∧ i ≤ s.length ∧ s.length ≤ 100000) (res := fun i => .tup []) i (fun h => h.1) fun n => (tBlanksBn s nm da x n k sf l).weaken fun h => (by have h' := h.2; constructor <;> omega)
instance tUntilB (s nm da x : List UInt8) (i : Int) (k : Int) (sf : Bool) (l : List AttrD) (st : List UInt8) : FnM BB 17 [.loc 0 0, .str st] [(0, scC s i k nm (.own 1) sf da x), (1, .own attrTy l)] (0 ≤ i ∧ i ≤ s.length ∧ s.length ≤ 100000) (.tup []) [(0, scC s (upTo (stP st) s i.toNat : Nat) k nm (.own 1) sf da x), (1, .own attrTy l)] :=
  FnM.ofNat' (args := fun _ => [.loc 0 0, .str st]) (Φ := fun i => [(0, scC s i k nm (.own 1) sf da x), (1, .own attrTy l)]) (Φ' := fun i => [(0, scC s (upTo (stP st) s i.toNat : Nat) k nm (.own 1) sf da x), (1, .own attrTy l)]) (pre := fun i => 0 ≤ i ∧ i ≤ s.length ∧ s.length ≤ 100000) (res := fun i => .tup []) i (fun h => h.1) fun n => (tUntilBn s nm da x n k sf l st).weaken fun h => (by have h' := h.2; constructor <;> omega)
instance tValueB (s nm da x : List UInt8) (i : Int) (k : Int) (sf : Bool) (l : List AttrD) : FnM BB 36 [.loc 0 0] [(0, scC s i k nm (.own 1) sf da x), (1, .own attrTy l)] (0 ≤ i ∧ i < s.length ∧ s.length ≤ 100000) (.tup [.str (valS s i.toNat).1, .bool (valS s i.toNat).2.2]) [(0, scC s ((valS s i.toNat).2.1 : Nat) k nm (.own 1) sf da x), (1, .own attrTy l)] :=
  FnM.ofNat' (args := fun _ => [.loc 0 0]) (Φ := fun i => [(0, scC s i k nm (.own 1) sf da x), (1, .own attrTy l)]) (Φ' := fun i => [(0, scC s ((valS s i.toNat).2.1 : Nat) k nm (.own 1) sf da x), (1, .own attrTy l)]) (pre := fun i => 0 ≤ i ∧ i < s.length ∧ s.length ≤ 100000) (res := fun i => .tup [.str (valS s i.toNat).1, .bool (valS s i.toNat).2.2]) i (fun h => h.1) fun n => (tValueBn s nm da x n k sf l).weaken fun h => (by have h' := h.2; constructor <;> omega)

end Go.Vc
