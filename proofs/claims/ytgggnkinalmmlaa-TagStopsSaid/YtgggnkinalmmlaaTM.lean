/- A part of the proof: lemmas and walks that the last text of the claim joins; no condition. -/
import Derived.Test.YtgggnkinalmmlaaTL
set_option linter.unusedVariables false
set_option linter.unusedSimpArgs false
namespace Go.Vc
open Go.Proofs
set_option linter.unusedVariables false
set_option maxRecDepth 10000
set_option linter.unusedSimpArgs false
set_option maxHeartbeats 4000000
def hitN (nm : List UInt8) (a : AttrD) : Bool := a.1 == nm
/-- where something of a kind is; -1: nowhere -/
def ixP {α : Type} (p : α → Bool) : List α → Int
  | [] => -1
  | x :: r => if p x = true then 0 else if ixP p r = -1 then -1 else ixP p r + 1
theorem ixP_ge {α : Type} (p : α → Bool) (l : List α) : -1 ≤ ixP p l ∧ ixP p l < l.length ∨ ixP p l = -1 := by
  induction l with
  | nil => right; rfl
  | cons x r ih =>
    unfold ixP
    simp only [List.length_cons]
    split
    · left; omega
    · split
      · right; rfl
      · left; rename_i h; rcases ih with h2 | h2 <;> omega
theorem ixP_at {α : Type} {p : α → Bool} {l : List α} {k : Nat} {d : α} (hk : k < l.length) (ha : (l.take k).all (fun x => !p x) = true) (h : p (l.getD k d) = true) : ixP p l = k := by
  induction l generalizing k with
  | nil => simp at hk
  | cons x r ih =>
    cases k with
    | zero => unfold ixP; rw [if_pos (by simpa using h)]; rfl
    | succ k =>
      rw [List.take_succ_cons, List.all_cons, Bool.and_eq_true, Bool.not_eq_true'] at ha
      have := ih (by simpa using hk) ha.2 (by simpa using h)
      unfold ixP
      rw [if_neg (by rw [ha.1]; decide), this, if_neg (by omega)]
      rfl
theorem ixP_none {α : Type} {p : α → Bool} {l : List α} (ha : l.all (fun x => !p x) = true) : ixP p l = -1 := by
  induction l with
  | nil => rfl
  | cons x r ih =>
    rw [List.all_cons, Bool.and_eq_true, Bool.not_eq_true'] at ha
    unfold ixP
    rw [if_neg (by rw [ha.1]; decide), ih ha.2, if_pos rfl]
theorem ixP_neg {α : Type} (p : α → Bool) (l : List α) : decide (ixP p l < 0) = !l.any p := by
  induction l with
  | nil => rfl
  | cons x r ih =>
    unfold ixP
    rw [List.any_cons]
    cases h : p x with
    | true => rfl
    | false =>
      simp only [Bool.false_eq_true, if_false, Bool.false_or]
      rw [← ih]
      have := ixP_ge p r
      split
      · rename_i q; rw [q]
      · rw [Bool.eq_iff_iff]; simp; omega
theorem take_all {α : Type} (p : α → Bool) (l : List α) (k : Nat) (d : α) (hk : k < l.length) : (l.take (k + 1)).all p = ((l.take k).all p && p (l.getD k d)) := by
  rw [List.take_succ_eq_append_getElem hk, List.all_append]
  simp [List.getD, List.getElem?_eq_getElem hk]
/-- attributes with one more, if none has its name -/
def addL (l : List AttrD) (a : AttrD) : List AttrD := if l.any (hitN a.1) = true then l else l ++ [a]
instance tPl1 (a b nm : List UInt8) : FnM BB 56 [.agg [.str a, .str b], .loc 0 0] [(0, .box [.str nm])] True (.bool (a == nm)) [(0, .box [.str nm])] := by
  refine FnM.intro (N := 8) [0, 1, 2, 3] [] 1 Try.call56 Try.func56 rfl rfl (by kernel_rfl) (fun hpre => ?_)
  repeat' ((conv => whnf); first | (with_reducible rfl) | exact True.intro | (with_reducible exact absTF) | (with_reducible exact absFT) | intro _ | refine And.intro ?_ ?_ | refine Fin.mk ?_ | refine CallG.plain rfl ?_ ?_ | refine CallG.mk rfl ?_ ?_ | refine CallG.nwl rfl ?_ ?_ | refine CallG.nw ?_ ?_ | refine CallF.nwl rfl ?_ ?_ | refine CallF.nw ?_ ?_ | refine AppN.mk ?_ | (refine CallS.q ?_; (conv => whnf); first | refine CallG.plain rfl ?_ ?_ | refine CallG.mk rfl ?_ ?_) | (refine CallS.m ?_; (conv => whnf); refine CallM.mk rfl ?_ ?_) | (refine CallS.h ?_; (conv => whnf); refine CallM.mk rfl ?_ ?_) | (refine CallS.b ?_; (conv => whnf); refine CallM.mk rfl ?_ ?_) | (refine CallS.z ?_; (conv => whnf); refine CallM.mk rfl ?_ ?_))
  all_goals (try (conv => whnf))
  all_goals (try (exact Ob.mk (u8_bnd _)))
  all_goals (try (refine Ob.mk ?_; first | exact True.intro | assumption | omega | (try simp only [decide_eq_true_eq, decide_eq_false_iff_not, beq_iff_eq, beq_eq_false_iff_ne, bne_iff_ne, bne_eq_false_iff_eq, ne_eq, Bool.and_eq_true, Bool.or_eq_true, Bool.not_eq_true, Bool.not_eq_false, Bool.not_eq_true', Bool.not_eq_false', Int.toNat_natCast, Int.not_lt, Int.not_le, UInt8.ofNat_toNat, cast_eq] at *; omega)))
  all_goals (try ((show (_:Int) = _); omega))
  all_goals (try (show tupSV _ = _; with_unfolding_all rfl))
  all_goals (try ((show (_ : Nat) ≤ _); (simp <;> omega)))
  all_goals (try ((show (_ : Nat) ≤ _ ∧ (_ : Nat) ≤ _); (simp <;> omega)))
  all_goals (try ((show (_ : Int) ≤ _ ∧ (_ : Int) ≤ _ ∧ (_ : Int) ≤ _ ∧ (_ : Int) ≤ _); (simp <;> omega)))
instance tIxF (l : List AttrD) (nm : List UInt8) : FnM BB 55 [.own 0, .fn 56 [.loc 1 0]] [(0, .ro attrTy l), (1, .box [.str nm])] (l.length ≤ 100000) (.int .i64 (ixP (hitN nm) l)) [(0, .ro attrTy l), (1, .box [.str nm])] := by
  refine FnM.intro (N := 19) [0, 1, 4, 5, 7, 8, 9, 16] [] 2 Try.call55 Try.func55 rfl rfl (by kernel_rfl) (fun hpre => ?_)
  repeat' ((conv => whnf); first | (with_reducible rfl) | exact True.intro | (with_reducible exact absTF) | (with_reducible exact absFT) | intro _ | refine And.intro ?_ ?_ | refine Fin.mk ?_ | refine CallG.plain rfl ?_ ?_ | refine CallG.mk rfl ?_ ?_ | refine CallG.nwl rfl ?_ ?_ | refine CallG.nw ?_ ?_ | refine CallF.nwl rfl ?_ ?_ | refine CallF.nw ?_ ?_ | refine AppN.mk ?_ | (refine CallS.q ?_; (conv => whnf); first | refine CallG.plain rfl ?_ ?_ | refine CallG.mk rfl ?_ ?_) | (refine CallS.m ?_; (conv => whnf); refine CallM.mk rfl ?_ ?_) | (refine CallS.h ?_; (conv => whnf); refine CallM.mk rfl ?_ ?_) | (refine CallS.b ?_; (conv => whnf); refine CallM.mk rfl ?_ ?_) | (refine CallS.z ?_; (conv => whnf); refine CallM.mk rfl ?_ ?_))
  all_goals (try (conv => whnf))
  all_goals (try (exact Ob.mk (u8_bnd _)))
  all_goals (try (refine Ob.mk ?_; first | exact True.intro | assumption | omega | (try simp only [decide_eq_true_eq, decide_eq_false_iff_not, beq_iff_eq, beq_eq_false_iff_ne, bne_iff_ne, bne_eq_false_iff_eq, ne_eq, Bool.and_eq_true, Bool.or_eq_true, Bool.not_eq_true, Bool.not_eq_false, Bool.not_eq_true', Bool.not_eq_false', Int.toNat_natCast, Int.not_lt, Int.not_le, UInt8.ofNat_toNat, cast_eq] at *; omega)))
  all_goals (try ((show (_:Int) = _); omega))
  all_goals (try (show tupSV _ = _; with_unfolding_all rfl))
  all_goals (try ((show (_ : Nat) ≤ _); (simp <;> omega)))
  all_goals (try ((show (_ : Nat) ≤ _ ∧ (_ : Nat) ≤ _); (simp <;> omega)))
  all_goals (try ((show (_ : Int) ≤ _ ∧ (_ : Int) ≤ _ ∧ (_ : Int) ≤ _ ∧ (_ : Int) ≤ _); (simp <;> omega)))
  refine LoopStop.mk (α := Nat) (fun k => [(8, .int .i64 k)]) (fun _ => []) 20 (fun k => k ≤ l.length ∧ (l.take k).all (fun x => !hitN nm x) = true) (fun k => l.length - k) 0 (by simp) ?_ (fun k hk => ?_)
  · repeat' ((conv => whnf); first | (with_reducible rfl) | exact True.intro | (with_reducible exact absTF) | (with_reducible exact absFT) | intro _ | refine And.intro ?_ ?_ | refine Fin.mk ?_ | refine CallG.plain rfl ?_ ?_ | refine CallG.mk rfl ?_ ?_ | refine CallG.nwl rfl ?_ ?_ | refine CallG.nw ?_ ?_ | refine CallF.nwl rfl ?_ ?_ | refine CallF.nw ?_ ?_ | refine AppN.mk ?_ | (refine CallS.q ?_; (conv => whnf); first | refine CallG.plain rfl ?_ ?_ | refine CallG.mk rfl ?_ ?_) | (refine CallS.m ?_; (conv => whnf); refine CallM.mk rfl ?_ ?_) | (refine CallS.h ?_; (conv => whnf); refine CallM.mk rfl ?_ ?_) | (refine CallS.b ?_; (conv => whnf); refine CallM.mk rfl ?_ ?_) | (refine CallS.z ?_; (conv => whnf); refine CallM.mk rfl ?_ ?_))
    all_goals (try (conv => whnf))
    all_goals (try (exact Ob.mk (u8_bnd _)))
    all_goals (try (refine Ob.mk ?_; first | exact True.intro | assumption | omega | (try simp only [decide_eq_true_eq, decide_eq_false_iff_not, beq_iff_eq, beq_eq_false_iff_ne, bne_iff_ne, bne_eq_false_iff_eq, ne_eq, Bool.and_eq_true, Bool.or_eq_true, Bool.not_eq_true, Bool.not_eq_false, Bool.not_eq_true', Bool.not_eq_false', Int.toNat_natCast, Int.not_lt, Int.not_le, UInt8.ofNat_toNat, cast_eq] at *; omega)))
    all_goals (try ((show (_:Int) = _); omega))
    all_goals (try (show tupSV _ = _; with_unfolding_all rfl))
    all_goals (try ((show (_ : Nat) ≤ _); (simp <;> omega)))
    all_goals (try ((show (_ : Nat) ≤ _ ∧ (_ : Nat) ≤ _); (simp <;> omega)))
    all_goals (try ((show (_ : Int) ≤ _ ∧ (_ : Int) ≤ _ ∧ (_ : Int) ≤ _ ∧ (_ : Int) ≤ _); (simp <;> omega)))
    all_goals (try rfl)
  · obtain ⟨hk, ha⟩ := hk
    repeat' ((conv => whnf); first | (with_reducible rfl) | exact True.intro | (with_reducible exact absTF) | (with_reducible exact absFT) | intro _ | refine And.intro ?_ ?_ | refine Fin.mk ?_ | refine CallG.plain rfl ?_ ?_ | refine CallG.mk rfl ?_ ?_ | refine CallG.nwl rfl ?_ ?_ | refine CallG.nw ?_ ?_ | refine CallF.nwl rfl ?_ ?_ | refine CallF.nw ?_ ?_ | refine AppN.mk ?_ | (refine CallS.q ?_; (conv => whnf); first | refine CallG.plain rfl ?_ ?_ | refine CallG.mk rfl ?_ ?_) | (refine CallS.m ?_; (conv => whnf); refine CallM.mk rfl ?_ ?_) | (refine CallS.h ?_; (conv => whnf); refine CallM.mk rfl ?_ ?_) | (refine CallS.b ?_; (conv => whnf); refine CallM.mk rfl ?_ ?_) | (refine CallS.z ?_; (conv => whnf); refine CallM.mk rfl ?_ ?_))
    all_goals (try (conv => whnf))
    all_goals (try (exact Ob.mk (u8_bnd _)))
    all_goals (try (refine Ob.mk ?_; first | exact True.intro | assumption | omega | (try simp only [decide_eq_true_eq, decide_eq_false_iff_not, beq_iff_eq, beq_eq_false_iff_ne, bne_iff_ne, bne_eq_false_iff_eq, ne_eq, Bool.and_eq_true, Bool.or_eq_true, Bool.not_eq_true, Bool.not_eq_false, Bool.not_eq_true', Bool.not_eq_false', Int.toNat_natCast, Int.not_lt, Int.not_le, UInt8.ofNat_toNat, cast_eq] at *; omega)))
    all_goals (try ((show (_:Int) = _); omega))
    all_goals (try (show tupSV _ = _; with_unfolding_all rfl))
    all_goals (try ((show (_ : Nat) ≤ _); (simp <;> omega)))
    all_goals (try ((show (_ : Nat) ≤ _ ∧ (_ : Nat) ≤ _); (simp <;> omega)))
    all_goals (try ((show (_ : Int) ≤ _ ∧ (_ : Int) ≤ _ ∧ (_ : Int) ≤ _ ∧ (_ : Int) ≤ _); (simp <;> omega)))
    all_goals (try simp only [Int.toNat_natCast] at *)
    · have hp := of_decide_eq_true ‹decide ((k : Int) < (l.length : Int)) = true›
      have h : ((l.getD k attrTy.dflt).1 == nm) = true := ‹_›
      exact (ixP_at (p := hitN nm) (d := attrTy.dflt) (by omega) ha h).symm
    · have hp := of_decide_eq_true ‹decide ((k : Int) < (l.length : Int)) = true›
      have h : ((l.getD k attrTy.dflt).1 == nm) = false := ‹_›
      refine Rnd.mk ⟨k + 1, ⟨by omega, ?_⟩, by omega, ?_⟩
      · rw [take_all (fun x => !hitN nm x) l k attrTy.dflt (by omega), ha]
        show (true && !((l.getD k attrTy.dflt).1 == nm)) = true
        rw [h]; rfl
      · repeat' ((conv => whnf); first | (with_reducible rfl) | exact True.intro | (with_reducible exact absTF) | (with_reducible exact absFT) | intro _ | refine And.intro ?_ ?_ | refine Fin.mk ?_ | refine CallG.plain rfl ?_ ?_ | refine CallG.mk rfl ?_ ?_ | refine CallG.nwl rfl ?_ ?_ | refine CallG.nw ?_ ?_ | refine CallF.nwl rfl ?_ ?_ | refine CallF.nw ?_ ?_ | refine AppN.mk ?_ | (refine CallS.q ?_; (conv => whnf); first | refine CallG.plain rfl ?_ ?_ | refine CallG.mk rfl ?_ ?_) | (refine CallS.m ?_; (conv => whnf); refine CallM.mk rfl ?_ ?_) | (refine CallS.h ?_; (conv => whnf); refine CallM.mk rfl ?_ ?_) | (refine CallS.b ?_; (conv => whnf); refine CallM.mk rfl ?_ ?_) | (refine CallS.z ?_; (conv => whnf); refine CallM.mk rfl ?_ ?_))
        all_goals (try (conv => whnf))
        all_goals (try (exact Ob.mk (u8_bnd _)))
        all_goals (try (refine Ob.mk ?_; first | exact True.intro | assumption | omega | (try simp only [decide_eq_true_eq, decide_eq_false_iff_not, beq_iff_eq, beq_eq_false_iff_ne, bne_iff_ne, bne_eq_false_iff_eq, ne_eq, Bool.and_eq_true, Bool.or_eq_true, Bool.not_eq_true, Bool.not_eq_false, Bool.not_eq_true', Bool.not_eq_false', Int.toNat_natCast, Int.not_lt, Int.not_le, UInt8.ofNat_toNat, cast_eq] at *; omega)))
        all_goals (try ((show (_:Int) = _); omega))
        all_goals (try (show tupSV _ = _; with_unfolding_all rfl))
        all_goals (try ((show (_ : Nat) ≤ _); (simp <;> omega)))
        all_goals (try ((show (_ : Nat) ≤ _ ∧ (_ : Nat) ≤ _); (simp <;> omega)))
        all_goals (try ((show (_ : Int) ≤ _ ∧ (_ : Int) ≤ _ ∧ (_ : Int) ≤ _ ∧ (_ : Int) ≤ _); (simp <;> omega)))
        all_goals rfl
    · have hp := of_decide_eq_false ‹decide ((k : Int) < (l.length : Int)) = false›
      have : k = l.length := by omega
      subst this
      rw [List.take_length] at ha
      exact (ixP_none ha).symm
instance tClone (l : List AttrD) : FnM BB 48 [.own 0] [(0, .ro attrTy l)] (l.length ≤ 100000) (.own 1) [(0, .ro attrTy l), (1, .own attrTy l)] := by
  refine FnM.intro (N := 8) [0, 2, 4] [] 2 Try.call48 Try.func48 rfl rfl (by kernel_rfl) (fun hpre => ?_)
  repeat' ((conv => whnf); first | (with_reducible rfl) | exact True.intro | (with_reducible exact absTF) | (with_reducible exact absFT) | intro _ | refine And.intro ?_ ?_ | refine Fin.mk ?_ | refine CallG.plain rfl ?_ ?_ | refine CallG.mk rfl ?_ ?_ | refine CallG.nwl rfl ?_ ?_ | refine CallG.nw ?_ ?_ | refine CallF.nwl rfl ?_ ?_ | refine CallF.nw ?_ ?_ | refine AppN.mk ?_ | (refine CallS.q ?_; (conv => whnf); first | refine CallG.plain rfl ?_ ?_ | refine CallG.mk rfl ?_ ?_) | (refine CallS.m ?_; (conv => whnf); refine CallM.mk rfl ?_ ?_) | (refine CallS.h ?_; (conv => whnf); refine CallM.mk rfl ?_ ?_) | (refine CallS.b ?_; (conv => whnf); refine CallM.mk rfl ?_ ?_) | (refine CallS.z ?_; (conv => whnf); refine CallM.mk rfl ?_ ?_))
  all_goals (try (conv => whnf))
  all_goals (try (exact Ob.mk (u8_bnd _)))
  all_goals (try (refine Ob.mk ?_; first | exact True.intro | assumption | omega | (try simp only [decide_eq_true_eq, decide_eq_false_iff_not, beq_iff_eq, beq_eq_false_iff_ne, bne_iff_ne, bne_eq_false_iff_eq, ne_eq, Bool.and_eq_true, Bool.or_eq_true, Bool.not_eq_true, Bool.not_eq_false, Bool.not_eq_true', Bool.not_eq_false', Int.toNat_natCast, Int.not_lt, Int.not_le, UInt8.ofNat_toNat, cast_eq] at *; omega)))
  all_goals (try ((show (_:Int) = _); omega))
  all_goals (try (show tupSV _ = _; with_unfolding_all rfl))
  all_goals (try ((show (_ : Nat) ≤ _); (simp <;> omega)))
  all_goals (try ((show (_ : Nat) ≤ _ ∧ (_ : Nat) ≤ _); (simp <;> omega)))
  all_goals (try ((show (_ : Int) ≤ _ ∧ (_ : Int) ≤ _ ∧ (_ : Int) ≤ _ ∧ (_ : Int) ≤ _); (simp <;> omega)))
  all_goals (first | (rename_i h1 h2; exact h1 h2) | simp)
instance tCloneN : FnM BB 48 [.nils] [] True .nils [] := by
  refine FnM.intro (N := 8) [0, 2, 4] [] 1 Try.call48 Try.func48 rfl rfl (by kernel_rfl) (fun hpre => ?_)
  repeat' ((conv => whnf); first | (with_reducible rfl) | exact True.intro | (with_reducible exact absTF) | (with_reducible exact absFT) | intro _ | refine And.intro ?_ ?_ | refine Fin.mk ?_ | refine CallG.plain rfl ?_ ?_ | refine CallG.mk rfl ?_ ?_ | refine CallG.nwl rfl ?_ ?_ | refine CallG.nw ?_ ?_ | refine CallF.nwl rfl ?_ ?_ | refine CallF.nw ?_ ?_ | refine AppN.mk ?_ | (refine CallS.q ?_; (conv => whnf); first | refine CallG.plain rfl ?_ ?_ | refine CallG.mk rfl ?_ ?_) | (refine CallS.m ?_; (conv => whnf); refine CallM.mk rfl ?_ ?_) | (refine CallS.h ?_; (conv => whnf); refine CallM.mk rfl ?_ ?_) | (refine CallS.b ?_; (conv => whnf); refine CallM.mk rfl ?_ ?_) | (refine CallS.z ?_; (conv => whnf); refine CallM.mk rfl ?_ ?_))
  all_goals (try (conv => whnf))
  all_goals (try (exact Ob.mk (u8_bnd _)))
  all_goals (try (refine Ob.mk ?_; first | exact True.intro | assumption | omega | (try simp only [decide_eq_true_eq, decide_eq_false_iff_not, beq_iff_eq, beq_eq_false_iff_ne, bne_iff_ne, bne_eq_false_iff_eq, ne_eq, Bool.and_eq_true, Bool.or_eq_true, Bool.not_eq_true, Bool.not_eq_false, Bool.not_eq_true', Bool.not_eq_false', Int.toNat_natCast, Int.not_lt, Int.not_le, UInt8.ofNat_toNat, cast_eq] at *; omega)))
  all_goals (try ((show (_:Int) = _); omega))
  all_goals (try (show tupSV _ = _; with_unfolding_all rfl))
  all_goals (try ((show (_ : Nat) ≤ _); (simp <;> omega)))
  all_goals (try ((show (_ : Nat) ≤ _ ∧ (_ : Nat) ≤ _); (simp <;> omega)))
  all_goals (try ((show (_ : Int) ≤ _ ∧ (_ : Int) ≤ _ ∧ (_ : Int) ≤ _ ∧ (_ : Int) ≤ _); (simp <;> omega)))
  all_goals trace_state
instance tPlace (l : List AttrD) (nm : List UInt8) : FnM BB 49 [.own 0, .str nm] [(0, .ro attrTy l)] (l.length ≤ 100000) (.int .i64 (ixP (hitN nm) l)) [(0, .ro attrTy l)] := by
  refine FnM.intro (N := 8) [0, 1, 3, 4] [] 1 Try.call49 Try.func49 rfl rfl (by kernel_rfl) (fun hpre => ?_)
  repeat' ((conv => whnf); first | (with_reducible rfl) | exact True.intro | (with_reducible exact absTF) | (with_reducible exact absFT) | intro _ | refine And.intro ?_ ?_ | refine Fin.mk ?_ | refine CallG.plain rfl ?_ ?_ | refine CallG.mk rfl ?_ ?_ | refine CallG.nwl rfl ?_ ?_ | refine CallG.nw ?_ ?_ | refine CallF.nwl rfl ?_ ?_ | refine CallF.nw ?_ ?_ | refine AppN.mk ?_ | (refine CallS.q ?_; (conv => whnf); first | refine CallG.plain rfl ?_ ?_ | refine CallG.mk rfl ?_ ?_) | (refine CallS.m ?_; (conv => whnf); refine CallM.mk rfl ?_ ?_) | (refine CallS.h ?_; (conv => whnf); refine CallM.mk rfl ?_ ?_) | (refine CallS.b ?_; (conv => whnf); refine CallM.mk rfl ?_ ?_) | (refine CallS.z ?_; (conv => whnf); refine CallM.mk rfl ?_ ?_))
  all_goals (try (conv => whnf))
  all_goals (try (exact Ob.mk (u8_bnd _)))
  all_goals (try (refine Ob.mk ?_; first | exact True.intro | assumption | omega | (try simp only [decide_eq_true_eq, decide_eq_false_iff_not, beq_iff_eq, beq_eq_false_iff_ne, bne_iff_ne, bne_eq_false_iff_eq, ne_eq, Bool.and_eq_true, Bool.or_eq_true, Bool.not_eq_true, Bool.not_eq_false, Bool.not_eq_true', Bool.not_eq_false', Int.toNat_natCast, Int.not_lt, Int.not_le, UInt8.ofNat_toNat, cast_eq] at *; omega)))
  all_goals (try ((show (_:Int) = _); omega))
  all_goals (try (show tupSV _ = _; with_unfolding_all rfl))
  all_goals (try ((show (_ : Nat) ≤ _); (simp <;> omega)))
  all_goals (try ((show (_ : Nat) ≤ _ ∧ (_ : Nat) ≤ _); (simp <;> omega)))
  all_goals (try ((show (_ : Int) ≤ _ ∧ (_ : Int) ≤ _ ∧ (_ : Int) ≤ _ ∧ (_ : Int) ≤ _); (simp <;> omega)))
instance tIxN (nm : List UInt8) : FnM BB 55 [.nils, .fn 56 [.loc 0 0]] [(0, .box [.str nm])] True (.int .i64 (-1)) [(0, .box [.str nm])] := by
  refine FnM.intro (N := 19) [0, 1, 4, 5, 7, 8, 9, 16] [] 1 Try.call55 Try.func55 rfl rfl (by kernel_rfl) (fun hpre => ?_)
  repeat' ((conv => whnf); first | (with_reducible rfl) | exact True.intro | (with_reducible exact absTF) | (with_reducible exact absFT) | intro _ | refine And.intro ?_ ?_ | refine Fin.mk ?_ | refine CallG.plain rfl ?_ ?_ | refine CallG.mk rfl ?_ ?_ | refine CallG.nwl rfl ?_ ?_ | refine CallG.nw ?_ ?_ | refine CallF.nwl rfl ?_ ?_ | refine CallF.nw ?_ ?_ | refine AppN.mk ?_ | (refine CallS.q ?_; (conv => whnf); first | refine CallG.plain rfl ?_ ?_ | refine CallG.mk rfl ?_ ?_) | (refine CallS.m ?_; (conv => whnf); refine CallM.mk rfl ?_ ?_) | (refine CallS.h ?_; (conv => whnf); refine CallM.mk rfl ?_ ?_) | (refine CallS.b ?_; (conv => whnf); refine CallM.mk rfl ?_ ?_) | (refine CallS.z ?_; (conv => whnf); refine CallM.mk rfl ?_ ?_))
  all_goals (try (conv => whnf))
  all_goals (try (exact Ob.mk (u8_bnd _)))
  all_goals (try (refine Ob.mk ?_; first | exact True.intro | assumption | omega | (try simp only [decide_eq_true_eq, decide_eq_false_iff_not, beq_iff_eq, beq_eq_false_iff_ne, bne_iff_ne, bne_eq_false_iff_eq, ne_eq, Bool.and_eq_true, Bool.or_eq_true, Bool.not_eq_true, Bool.not_eq_false, Bool.not_eq_true', Bool.not_eq_false', Int.toNat_natCast, Int.not_lt, Int.not_le, UInt8.ofNat_toNat, cast_eq] at *; omega)))
  all_goals (try ((show (_:Int) = _); omega))
  all_goals (try (show tupSV _ = _; with_unfolding_all rfl))
  all_goals (try ((show (_ : Nat) ≤ _); (simp <;> omega)))
  all_goals (try ((show (_ : Nat) ≤ _ ∧ (_ : Nat) ≤ _); (simp <;> omega)))
  all_goals (try ((show (_ : Int) ≤ _ ∧ (_ : Int) ≤ _ ∧ (_ : Int) ≤ _ ∧ (_ : Int) ≤ _); (simp <;> omega)))
  refine LoopStop.mk (α := Unit) (fun k => [(8, .int .i64 0)]) (fun _ => []) 20 (fun k => True) (fun k => 0) () True.intro ?_ (fun k hk => ?_)
  · repeat' ((conv => whnf); first | (with_reducible rfl) | exact True.intro | (with_reducible exact absTF) | (with_reducible exact absFT) | intro _ | refine And.intro ?_ ?_ | refine Fin.mk ?_ | refine CallG.plain rfl ?_ ?_ | refine CallG.mk rfl ?_ ?_ | refine CallG.nwl rfl ?_ ?_ | refine CallG.nw ?_ ?_ | refine CallF.nwl rfl ?_ ?_ | refine CallF.nw ?_ ?_ | refine AppN.mk ?_ | (refine CallS.q ?_; (conv => whnf); first | refine CallG.plain rfl ?_ ?_ | refine CallG.mk rfl ?_ ?_) | (refine CallS.m ?_; (conv => whnf); refine CallM.mk rfl ?_ ?_) | (refine CallS.h ?_; (conv => whnf); refine CallM.mk rfl ?_ ?_) | (refine CallS.b ?_; (conv => whnf); refine CallM.mk rfl ?_ ?_) | (refine CallS.z ?_; (conv => whnf); refine CallM.mk rfl ?_ ?_))
    all_goals (try (conv => whnf))
    all_goals (try (exact Ob.mk (u8_bnd _)))
    all_goals (try (refine Ob.mk ?_; first | exact True.intro | assumption | omega | (try simp only [decide_eq_true_eq, decide_eq_false_iff_not, beq_iff_eq, beq_eq_false_iff_ne, bne_iff_ne, bne_eq_false_iff_eq, ne_eq, Bool.and_eq_true, Bool.or_eq_true, Bool.not_eq_true, Bool.not_eq_false, Bool.not_eq_true', Bool.not_eq_false', Int.toNat_natCast, Int.not_lt, Int.not_le, UInt8.ofNat_toNat, cast_eq] at *; omega)))
    all_goals (try ((show (_:Int) = _); omega))
    all_goals (try (show tupSV _ = _; with_unfolding_all rfl))
    all_goals (try ((show (_ : Nat) ≤ _); (simp <;> omega)))
    all_goals (try ((show (_ : Nat) ≤ _ ∧ (_ : Nat) ≤ _); (simp <;> omega)))
    all_goals (try ((show (_ : Int) ≤ _ ∧ (_ : Int) ≤ _ ∧ (_ : Int) ≤ _ ∧ (_ : Int) ≤ _); (simp <;> omega)))
    all_goals (try rfl)
  · repeat' ((conv => whnf); first | (with_reducible rfl) | exact True.intro | (with_reducible exact absTF) | (with_reducible exact absFT) | intro _ | refine And.intro ?_ ?_ | refine Fin.mk ?_ | refine CallG.plain rfl ?_ ?_ | refine CallG.mk rfl ?_ ?_ | refine CallG.nwl rfl ?_ ?_ | refine CallG.nw ?_ ?_ | refine CallF.nwl rfl ?_ ?_ | refine CallF.nw ?_ ?_ | refine AppN.mk ?_ | (refine CallS.q ?_; (conv => whnf); first | refine CallG.plain rfl ?_ ?_ | refine CallG.mk rfl ?_ ?_) | (refine CallS.m ?_; (conv => whnf); refine CallM.mk rfl ?_ ?_) | (refine CallS.h ?_; (conv => whnf); refine CallM.mk rfl ?_ ?_) | (refine CallS.b ?_; (conv => whnf); refine CallM.mk rfl ?_ ?_) | (refine CallS.z ?_; (conv => whnf); refine CallM.mk rfl ?_ ?_))
    all_goals (try (conv => whnf))
    all_goals (try (exact Ob.mk (u8_bnd _)))
    all_goals (try (refine Ob.mk ?_; first | exact True.intro | assumption | omega | (try simp only [decide_eq_true_eq, decide_eq_false_iff_not, beq_iff_eq, beq_eq_false_iff_ne, bne_iff_ne, bne_eq_false_iff_eq, ne_eq, Bool.and_eq_true, Bool.or_eq_true, Bool.not_eq_true, Bool.not_eq_false, Bool.not_eq_true', Bool.not_eq_false', Int.toNat_natCast, Int.not_lt, Int.not_le, UInt8.ofNat_toNat, cast_eq] at *; omega)))
    all_goals (try ((show (_:Int) = _); omega))
    all_goals (try (show tupSV _ = _; with_unfolding_all rfl))
    all_goals (try ((show (_ : Nat) ≤ _); (simp <;> omega)))
    all_goals (try ((show (_ : Nat) ≤ _ ∧ (_ : Nat) ≤ _); (simp <;> omega)))
    all_goals (try ((show (_ : Int) ≤ _ ∧ (_ : Int) ≤ _ ∧ (_ : Int) ≤ _ ∧ (_ : Int) ≤ _); (simp <;> omega)))
    all_goals (first | (exfalso; exact absurd ‹decide ((0 : Int) < 0) = true› (by decide)) | rfl | trace_state)
instance tPlaceN (nm : List UInt8) : FnM BB 49 [.nils, .str nm] [] True (.int .i64 (-1)) [] := by
  refine FnM.intro (N := 8) [0, 1, 3, 4] [] 0 Try.call49 Try.func49 rfl rfl (by kernel_rfl) (fun hpre => ?_)
  repeat' ((conv => whnf); first | (with_reducible rfl) | exact True.intro | (with_reducible exact absTF) | (with_reducible exact absFT) | intro _ | refine And.intro ?_ ?_ | refine Fin.mk ?_ | refine CallG.plain rfl ?_ ?_ | refine CallG.mk rfl ?_ ?_ | refine CallG.nwl rfl ?_ ?_ | refine CallG.nw ?_ ?_ | refine CallF.nwl rfl ?_ ?_ | refine CallF.nw ?_ ?_ | refine AppN.mk ?_ | (refine CallS.q ?_; (conv => whnf); first | refine CallG.plain rfl ?_ ?_ | refine CallG.mk rfl ?_ ?_) | (refine CallS.m ?_; (conv => whnf); refine CallM.mk rfl ?_ ?_) | (refine CallS.h ?_; (conv => whnf); refine CallM.mk rfl ?_ ?_) | (refine CallS.b ?_; (conv => whnf); refine CallM.mk rfl ?_ ?_) | (refine CallS.z ?_; (conv => whnf); refine CallM.mk rfl ?_ ?_))
  all_goals (try (conv => whnf))
  all_goals (try (exact Ob.mk (u8_bnd _)))
  all_goals (try (refine Ob.mk ?_; first | exact True.intro | assumption | omega | (try simp only [decide_eq_true_eq, decide_eq_false_iff_not, beq_iff_eq, beq_eq_false_iff_ne, bne_iff_ne, bne_eq_false_iff_eq, ne_eq, Bool.and_eq_true, Bool.or_eq_true, Bool.not_eq_true, Bool.not_eq_false, Bool.not_eq_true', Bool.not_eq_false', Int.toNat_natCast, Int.not_lt, Int.not_le, UInt8.ofNat_toNat, cast_eq] at *; omega)))
  all_goals (try ((show (_:Int) = _); omega))
  all_goals (try (show tupSV _ = _; with_unfolding_all rfl))
  all_goals (try ((show (_ : Nat) ≤ _); (simp <;> omega)))
  all_goals (try ((show (_ : Nat) ≤ _ ∧ (_ : Nat) ≤ _); (simp <;> omega)))
  all_goals (try ((show (_ : Int) ≤ _ ∧ (_ : Int) ≤ _ ∧ (_ : Int) ≤ _ ∧ (_ : Int) ≤ _); (simp <;> omega)))
instance tAdd (l : List AttrD) (a b : List UInt8) : FnM BB 43 [.own 0, .agg [.str a, .str b]] [(0, .ro attrTy l)] (l.length ≤ 50000) (.own 1) [(0, .ro attrTy l), (1, .own attrTy (addL l (a, b)))] := by
  refine FnM.intro (N := 18) [0, 1, 3, 4, 5, 12] [] 1 Try.call43 Try.func43 rfl rfl (by kernel_rfl) (fun hpre => ?_)
  have e : addL l (a, b) = if l.any (hitN a) = true then l else l ++ [(a, b)] := rfl
  have hn := ixP_neg (hitN a) l
  have e1 : decide (ixP (hitN a) l < 0) = true → addL l (a, b) = l ++ [(a, b)] := fun h => by rw [hn] at h; rw [e, if_neg (by simpa using h)]
  have e2 : decide (ixP (hitN a) l < 0) = false → addL l (a, b) = l := fun h => by rw [hn] at h; rw [e, if_pos (by simpa using h)]
  repeat' ((conv => whnf); first | (with_reducible rfl) | exact True.intro | (with_reducible exact absTF) | (with_reducible exact absFT) | intro _ | refine And.intro ?_ ?_ | refine Fin.mk ?_ | refine CallG.plain rfl ?_ ?_ | refine CallG.mk rfl ?_ ?_ | refine CallG.nwl rfl ?_ ?_ | refine CallG.nw ?_ ?_ | refine CallF.nwl rfl ?_ ?_ | refine CallF.nw ?_ ?_ | refine AppN.mk ?_ | (refine CallS.q ?_; (conv => whnf); first | refine CallG.plain rfl ?_ ?_ | refine CallG.mk rfl ?_ ?_) | (refine CallS.m ?_; (conv => whnf); refine CallM.mk rfl ?_ ?_) | (refine CallS.h ?_; (conv => whnf); refine CallM.mk rfl ?_ ?_) | (refine CallS.b ?_; (conv => whnf); refine CallM.mk rfl ?_ ?_) | (refine CallS.z ?_; (conv => whnf); refine CallM.mk rfl ?_ ?_))
  all_goals (try (conv => whnf))
  all_goals (try (exact Ob.mk (u8_bnd _)))
  all_goals (try (refine Ob.mk ?_; first | exact True.intro | assumption | omega | (try simp only [decide_eq_true_eq, decide_eq_false_iff_not, beq_iff_eq, beq_eq_false_iff_ne, bne_iff_ne, bne_eq_false_iff_eq, ne_eq, Bool.and_eq_true, Bool.or_eq_true, Bool.not_eq_true, Bool.not_eq_false, Bool.not_eq_true', Bool.not_eq_false', Int.toNat_natCast, Int.not_lt, Int.not_le, UInt8.ofNat_toNat, cast_eq] at *; omega)))
  all_goals (try ((show (_:Int) = _); omega))
  all_goals (try (show tupSV _ = _; with_unfolding_all rfl))
  all_goals (try ((show (_ : Nat) ≤ _); (simp <;> omega)))
  all_goals (try ((show (_ : Nat) ≤ _ ∧ (_ : Nat) ≤ _); (simp <;> omega)))
  all_goals (try ((show (_ : Int) ≤ _ ∧ (_ : Int) ≤ _ ∧ (_ : Int) ≤ _ ∧ (_ : Int) ≤ _); (simp <;> omega)))
  · rw [e1 ‹_›]; rfl
  · rw [e2 ‹_›]
instance tAddN (a b : List UInt8) : FnM BB 43 [.nils, .agg [.str a, .str b]] [] True (.own 0) [(0, .own attrTy [(a, b)])] := by
  refine FnM.intro (N := 18) [0, 1, 3, 4, 5, 12] [] 0 Try.call43 Try.func43 rfl rfl (by kernel_rfl) (fun hpre => ?_)
  repeat' ((conv => whnf); first | (with_reducible rfl) | exact True.intro | (with_reducible exact absTF) | (with_reducible exact absFT) | intro _ | refine And.intro ?_ ?_ | refine Fin.mk ?_ | refine CallG.plain rfl ?_ ?_ | refine CallG.mk rfl ?_ ?_ | refine CallG.nwl rfl ?_ ?_ | refine CallG.nw ?_ ?_ | refine CallF.nwl rfl ?_ ?_ | refine CallF.nw ?_ ?_ | refine AppN.mk ?_ | (refine CallS.q ?_; (conv => whnf); first | refine CallG.plain rfl ?_ ?_ | refine CallG.mk rfl ?_ ?_) | (refine CallS.m ?_; (conv => whnf); refine CallM.mk rfl ?_ ?_) | (refine CallS.h ?_; (conv => whnf); refine CallM.mk rfl ?_ ?_) | (refine CallS.b ?_; (conv => whnf); refine CallM.mk rfl ?_ ?_) | (refine CallS.z ?_; (conv => whnf); refine CallM.mk rfl ?_ ?_))
  all_goals (try (conv => whnf))
  all_goals (try (exact Ob.mk (u8_bnd _)))
  all_goals (try (refine Ob.mk ?_; first | exact True.intro | assumption | omega | (try simp only [decide_eq_true_eq, decide_eq_false_iff_not, beq_iff_eq, beq_eq_false_iff_ne, bne_iff_ne, bne_eq_false_iff_eq, ne_eq, Bool.and_eq_true, Bool.or_eq_true, Bool.not_eq_true, Bool.not_eq_false, Bool.not_eq_true', Bool.not_eq_false', Int.toNat_natCast, Int.not_lt, Int.not_le, UInt8.ofNat_toNat, cast_eq] at *; omega)))
  all_goals (try ((show (_:Int) = _); omega))
  all_goals (try (show tupSV _ = _; with_unfolding_all rfl))
  all_goals (try ((show (_ : Nat) ≤ _); (simp <;> omega)))
  all_goals (try ((show (_ : Nat) ≤ _ ∧ (_ : Nat) ≤ _); (simp <;> omega)))
  all_goals (try ((show (_ : Int) ≤ _ ∧ (_ : Int) ≤ _ ∧ (_ : Int) ≤ _ ∧ (_ : Int) ≤ _); (simp <;> omega)))
  · rfl
  · exact absurd ‹decide ((-1 : Int) < 0) = false› (by decide)
instance tPutA (s nm da x v : List UInt8) (i k : Int) (sf : Bool) : FnM BB 35 [.loc 0 0, .str v] [(0, scC s i k nm .nils sf da x)] (v.length ≤ 100000) (.tup []) [(0, scC s i k nm (.own 1) sf da x), (1, .own attrTy [(x, decF v true)])] := by
  refine FnM.intro (N := 21) [0, 1] [(0, [0, 0, 0, 0, 0, 1, 0, 0, 0, 1, 0, 1, 1, 3, 0, 0, 0, 3])] 1 Try.call35 Try.func35 rfl rfl (by kernel_rfl) (fun hpre => ?_)
  repeat' ((conv => whnf); first | (with_reducible rfl) | exact True.intro | (with_reducible exact absTF) | (with_reducible exact absFT) | intro _ | refine And.intro ?_ ?_ | refine Fin.mk ?_ | refine CallG.plain rfl ?_ ?_ | refine CallG.mk rfl ?_ ?_ | refine CallG.nwl rfl ?_ ?_ | refine CallG.nw ?_ ?_ | refine CallF.nwl rfl ?_ ?_ | refine CallF.nw ?_ ?_ | refine AppN.mk ?_ | (refine CallS.q ?_; (conv => whnf); first | refine CallG.plain rfl ?_ ?_ | refine CallG.mk rfl ?_ ?_) | (refine CallS.m ?_; (conv => whnf); refine CallM.mk rfl ?_ ?_) | (refine CallS.h ?_; (conv => whnf); refine CallM.mk rfl ?_ ?_) | (refine CallS.b ?_; (conv => whnf); refine CallM.mk rfl ?_ ?_) | (refine CallS.z ?_; (conv => whnf); refine CallM.mk rfl ?_ ?_))
  all_goals (try (conv => whnf))
  all_goals (try (exact Ob.mk (u8_bnd _)))
  all_goals (try (refine Ob.mk ?_; first | exact True.intro | assumption | omega | (try simp only [decide_eq_true_eq, decide_eq_false_iff_not, beq_iff_eq, beq_eq_false_iff_ne, bne_iff_ne, bne_eq_false_iff_eq, ne_eq, Bool.and_eq_true, Bool.or_eq_true, Bool.not_eq_true, Bool.not_eq_false, Bool.not_eq_true', Bool.not_eq_false', Int.toNat_natCast, Int.not_lt, Int.not_le, UInt8.ofNat_toNat, cast_eq] at *; omega)))
  all_goals (try ((show (_:Int) = _); omega))
  all_goals (try (show tupSV _ = _; with_unfolding_all rfl))
  all_goals (try ((show (_ : Nat) ≤ _); (simp <;> omega)))
  all_goals (try ((show (_ : Nat) ≤ _ ∧ (_ : Nat) ≤ _); (simp <;> omega)))
  all_goals (try ((show (_ : Int) ≤ _ ∧ (_ : Int) ≤ _ ∧ (_ : Int) ≤ _ ∧ (_ : Int) ≤ _); (simp <;> omega)))
  all_goals trace_state
instance tPutB (s nm da x v : List UInt8) (i k : Int) (sf : Bool) (l : List AttrD) : FnM BB 35 [.loc 0 0, .str v] [(0, scC s i k nm (.own 1) sf da x), (1, .own attrTy l)] (v.length ≤ 100000 ∧ l.length ≤ 50000) (.tup []) [(0, scC s i k nm (.own 2) sf da x), (1, .own attrTy l), (2, .own attrTy (addL l (x, decF v true)))] := by
  refine FnM.intro (N := 21) [0, 1] [(0, [0, 0, 0, 0, 0, 1, 0, 0, 0, 1, 0, 1, 1, 3, 0, 0, 0, 3])] 2 Try.call35 Try.func35 rfl rfl (by kernel_rfl) (fun hpre => ?_)
  repeat' ((conv => whnf); first | (with_reducible rfl) | exact True.intro | (with_reducible exact absTF) | (with_reducible exact absFT) | intro _ | refine And.intro ?_ ?_ | refine Fin.mk ?_ | refine CallG.plain rfl ?_ ?_ | refine CallG.mk rfl ?_ ?_ | refine CallG.nwl rfl ?_ ?_ | refine CallG.nw ?_ ?_ | refine CallF.nwl rfl ?_ ?_ | refine CallF.nw ?_ ?_ | refine AppN.mk ?_ | (refine CallS.q ?_; (conv => whnf); first | refine CallG.plain rfl ?_ ?_ | refine CallG.mk rfl ?_ ?_) | (refine CallS.m ?_; (conv => whnf); refine CallM.mk rfl ?_ ?_) | (refine CallS.h ?_; (conv => whnf); refine CallM.mk rfl ?_ ?_) | (refine CallS.b ?_; (conv => whnf); refine CallM.mk rfl ?_ ?_) | (refine CallS.z ?_; (conv => whnf); refine CallM.mk rfl ?_ ?_))
  all_goals (try (conv => whnf))
  all_goals (try (exact Ob.mk (u8_bnd _)))
  all_goals (try (refine Ob.mk ?_; first | exact True.intro | assumption | omega | (try simp only [decide_eq_true_eq, decide_eq_false_iff_not, beq_iff_eq, beq_eq_false_iff_ne, bne_iff_ne, bne_eq_false_iff_eq, ne_eq, Bool.and_eq_true, Bool.or_eq_true, Bool.not_eq_true, Bool.not_eq_false, Bool.not_eq_true', Bool.not_eq_false', Int.toNat_natCast, Int.not_lt, Int.not_le, UInt8.ofNat_toNat, cast_eq] at *; omega)))
  all_goals (try ((show (_:Int) = _); omega))
  all_goals (try (show tupSV _ = _; with_unfolding_all rfl))
  all_goals (try ((show (_ : Nat) ≤ _); (simp <;> omega)))
  all_goals (try ((show (_ : Nat) ≤ _ ∧ (_ : Nat) ≤ _); (simp <;> omega)))
  all_goals (try ((show (_ : Int) ≤ _ ∧ (_ : Int) ≤ _ ∧ (_ : Int) ≤ _ ∧ (_ : Int) ≤ _); (simp <;> omega)))
  all_goals trace_state
end Go.Vc

namespace Go.Vc
open Go.Proofs
set_option linter.unusedVariables false
set_option maxRecDepth 10000
set_option linter.unusedSimpArgs false
set_option maxHeartbeats 8000000
abbrev RunR := Bool × Nat × List AttrD × Bool × List UInt8
/-- through a tag, from behind its name: does it end, the place, the attributes, does it close itself, the last name -/
def runT (s : List UInt8) : Nat → Nat → List AttrD → List UInt8 → RunR
  | 0, i, l, x => (false, i, l, false, x)
  | f + 1, i, l, x =>
    if s.length ≤ upTo blB s i then (false, upTo blB s i, l, false, x)
    else if s.getD (upTo blB s i) 0 = 62 then (true, upTo blB s i + 1, l, false, x)
    else if s.getD (upTo blB s i) 0 = 47 then
      (if upTo blB s i + 1 < s.length ∧ s.getD (upTo blB s i + 1) 0 = 62 then (true, upTo blB s i + 2, l, true, x) else runT s f (upTo blB s i + 1) l x)
    else atT (upTo blB s i) (upTo (stP [47, 62, 61]) s (upTo blB s i + 1)) (fun i l x => runT s f i l x) l
where
  atT (i j : Nat) (run : Nat → List AttrD → List UInt8 → RunR) (l : List AttrD) : RunR :=
    if ¬ (upTo blB s j < s.length ∧ s.getD (upTo blB s j) 0 = 61) then run (upTo blB s j) (addL l (lowL ((s.take j).drop i), decF [] true)) (lowL ((s.take j).drop i))
    else if s.length ≤ upTo blB s (upTo blB s j + 1) then (false, upTo blB s (upTo blB s j + 1), l, false, lowL ((s.take j).drop i))
    else if (valS s (upTo blB s (upTo blB s j + 1))).2.2 = false then (false, (valS s (upTo blB s (upTo blB s j + 1))).2.1, l, false, lowL ((s.take j).drop i))
    else run (valS s (upTo blB s (upTo blB s j + 1))).2.1 (addL l (lowL ((s.take j).drop i), decF (valS s (upTo blB s (upTo blB s j + 1))).1 true)) (lowL ((s.take j).drop i))
def cOv (s : List UInt8) (i : Nat) : Bool := decide ((i : Int) ≥ (s.length : Int))
def cIs (s : List UInt8) (i : Nat) (c : Int) : Bool := decide ((i : Int) < (s.length : Int)) && ((s.getD i 0).toNat : Int) == c
theorem cOv_iff (s : List UInt8) (i : Nat) : cOv s i = true ↔ s.length ≤ i := by unfold cOv; rw [decide_eq_true_eq]; omega
theorem cOv_not (s : List UInt8) (i : Nat) : cOv s i = false ↔ i < s.length := by unfold cOv; rw [decide_eq_false_iff_not]; omega
theorem cIs_iff (s : List UInt8) (i : Nat) (c : UInt8) : cIs s i (c.toNat : Int) = true ↔ i < s.length ∧ s.getD i 0 = c := by
  unfold cIs; rw [b_iff, Bool.and_eq_true, decide_eq_true_eq, beq_iff_eq]
  constructor <;> (rintro ⟨a, b⟩; exact ⟨by omega, b⟩)
theorem cIs62 (s : List UInt8) (i : Nat) : cIs s i 62 = true ↔ i < s.length ∧ s.getD i 0 = 62 := cIs_iff s i 62
theorem cIs47 (s : List UInt8) (i : Nat) : cIs s i 47 = true ↔ i < s.length ∧ s.getD i 0 = 47 := cIs_iff s i 47
theorem cIs61 (s : List UInt8) (i : Nat) : cIs s i 61 = true ↔ i < s.length ∧ s.getD i 0 = 61 := cIs_iff s i 61
theorem nIs {s : List UInt8} {i : Nat} {c : Int} {P : Prop} (h : cIs s i c = false) (hi : cIs s i c = true ↔ P) : ¬ P := fun p => by rw [hi.2 p] at h; cases h
section
variable {s : List UInt8} {f i : Nat} {l : List AttrD} {x : List UInt8}
def nmT (s : List UInt8) (i : Nat) : List UInt8 := lowL ((s.take (upTo (stP [47, 62, 61]) s (upTo blB s i + 1))).drop (upTo blB s i))
def iJ (s : List UInt8) (i : Nat) : Nat := upTo blB s (upTo (stP [47, 62, 61]) s (upTo blB s i + 1))
def iV (s : List UInt8) (i : Nat) : Nat := upTo blB s (iJ s i + 1)
theorem st1 (h1 : cOv s (upTo blB s i) = true) : runT s (f + 1) i l x = (false, upTo blB s i, l, false, x) := by
  unfold runT; rw [if_pos ((cOv_iff _ _).1 h1)]
theorem st2 (h1 : cOv s (upTo blB s i) = false) (h2 : cIs s (upTo blB s i) 62 = true) : runT s (f + 1) i l x = (true, upTo blB s i + 1, l, false, x) := by
  have a := (cOv_not _ _).1 h1
  unfold runT; rw [if_neg (by omega), if_pos ((cIs62 _ _).1 h2).2]
theorem st3 (h1 : cOv s (upTo blB s i) = false) (h2 : cIs s (upTo blB s i) 62 = false) (h3 : cIs s (upTo blB s i) 47 = true) (h4 : cIs s (upTo blB s i + 1) 62 = true) : runT s (f + 1) i l x = (true, upTo blB s i + 2, l, true, x) := by
  have a := (cOv_not _ _).1 h1
  have b := nIs h2 (cIs62 _ _)
  unfold runT; rw [if_neg (by omega), if_neg (fun q => b ⟨a, q⟩), if_pos ((cIs47 _ _).1 h3).2, if_pos ((cIs62 _ _).1 h4)]
theorem st4 (h1 : cOv s (upTo blB s i) = false) (h2 : cIs s (upTo blB s i) 62 = false) (h3 : cIs s (upTo blB s i) 47 = true) (h4 : cIs s (upTo blB s i + 1) 62 = false) : runT s (f + 1) i l x = runT s f (upTo blB s i + 1) l x := by
  have a := (cOv_not _ _).1 h1
  have b := nIs h2 (cIs62 _ _)
  have c := nIs h4 (cIs62 _ _)
  rw [runT, if_neg (by omega), if_neg (fun q => b ⟨a, q⟩), if_pos ((cIs47 _ _).1 h3).2, if_neg c]
theorem stA (h1 : cOv s (upTo blB s i) = false) (h2 : cIs s (upTo blB s i) 62 = false) (h3 : cIs s (upTo blB s i) 47 = false) : runT s (f + 1) i l x = runT.atT s (upTo blB s i) (upTo (stP [47, 62, 61]) s (upTo blB s i + 1)) (fun i l x => runT s f i l x) l := by
  have a := (cOv_not _ _).1 h1
  have b := nIs h2 (cIs62 _ _)
  have c := nIs h3 (cIs47 _ _)
  rw [runT, if_neg (by omega), if_neg (fun q => b ⟨a, q⟩), if_neg (fun q => c ⟨a, q⟩)]
theorem st5 (h1 : cOv s (upTo blB s i) = false) (h2 : cIs s (upTo blB s i) 62 = false) (h3 : cIs s (upTo blB s i) 47 = false) (h5 : (!cIs s (iJ s i) 61) = true) : runT s (f + 1) i l x = runT s f (iJ s i) (addL l (nmT s i, decF [] true)) (nmT s i) := by
  rw [stA h1 h2 h3]
  have c := nIs (by simpa using h5) (cIs61 s (iJ s i))
  unfold runT.atT
  exact if_pos c
theorem st6 (h1 : cOv s (upTo blB s i) = false) (h2 : cIs s (upTo blB s i) 62 = false) (h3 : cIs s (upTo blB s i) 47 = false) (h5 : (!cIs s (iJ s i) 61) = false) (h6 : cOv s (iV s i) = true) : runT s (f + 1) i l x = (false, iV s i, l, false, nmT s i) := by
  rw [stA h1 h2 h3]
  have c := (cIs61 s (iJ s i)).1 (by simpa using h5)
  unfold runT.atT
  exact (if_neg (fun q => q c)).trans (if_pos ((cOv_iff _ _).1 h6))
theorem st7 (h1 : cOv s (upTo blB s i) = false) (h2 : cIs s (upTo blB s i) 62 = false) (h3 : cIs s (upTo blB s i) 47 = false) (h5 : (!cIs s (iJ s i) 61) = false) (h6 : cOv s (iV s i) = false) (h7 : (!(valS s (iV s i)).2.2) = true) : runT s (f + 1) i l x = (false, (valS s (iV s i)).2.1, l, false, nmT s i) := by
  rw [stA h1 h2 h3]
  have c := (cIs61 s (iJ s i)).1 (by simpa using h5)
  have d := (cOv_not _ _).1 h6
  unfold runT.atT
  exact (if_neg (fun q => q c)).trans ((if_neg (show ¬ s.length ≤ iV s i by omega)).trans (if_pos (show (valS s (iV s i)).2.2 = false by simpa using h7)))
theorem st8 (h1 : cOv s (upTo blB s i) = false) (h2 : cIs s (upTo blB s i) 62 = false) (h3 : cIs s (upTo blB s i) 47 = false) (h5 : (!cIs s (iJ s i) 61) = false) (h6 : cOv s (iV s i) = false) (h7 : (!(valS s (iV s i)).2.2) = false) : runT s (f + 1) i l x = runT s f (valS s (iV s i)).2.1 (addL l (nmT s i, decF (valS s (iV s i)).1 true)) (nmT s i) := by
  rw [stA h1 h2 h3]
  have c := (cIs61 s (iJ s i)).1 (by simpa using h5)
  have d := (cOv_not _ _).1 h6
  unfold runT.atT
  exact (if_neg (fun q => q c)).trans ((if_neg (show ¬ s.length ≤ iV s i by omega)).trans (if_neg (show ¬ (valS s (iV s i)).2.2 = false by simpa using h7)))
theorem valS_le (s : List UInt8) (i : Nat) (h : i < s.length) : i ≤ (valS s i).2.1 ∧ (valS s i).2.1 ≤ s.length ∧ (valS s i).1.length ≤ s.length := by
  have hu := upTo_le (stP [62]) s i (by omega)
  have hx := ixb_le (s.drop (i + 1)) (s.getD i 0)
  have hg := Lib.indexByte_ge (s.drop (i + 1)) (s.getD i 0)
  rw [List.length_drop] at hx
  unfold valS
  split
  · split
    · simp; omega
    · simp only [List.length_take, List.length_drop]; omega
  · simp only [List.length_take, List.length_drop]; omega
theorem addL_len (l : List AttrD) (a : AttrD) : (addL l a).length ≤ l.length + 1 := by
  unfold addL; split <;> simp
end
instance tRun (s nm da x : List UInt8) (i : Nat) (k : Int) : FnM BB 19 [.loc 0 0] [(0, scC s i k nm .nils false da x)] (i ≤ s.length ∧ s.length ≤ 50000) (.bool (runT s (s.length + 1) i [] x).1)
    [(0, scC s ((runT s (s.length + 1) i [] x).2.1 : Nat) k nm (.own 1) (runT s (s.length + 1) i [] x).2.2.2.1 da (runT s (s.length + 1) i [] x).2.2.2.2), (1, .own attrTy (runT s (s.length + 1) i [] x).2.2.1)] := by
  refine FnM.intro (N := 92) [0, 2, 3, 4, 5, 8, 11, 14, 25, 61, 74, 81] [(15, [0, 0, 0, 0, 1, 0, 0, 0, 0, 1, 3, 3, 0, 0, 3])] 1 Try.call19 Try.func19 rfl rfl (by kernel_rfl) (fun hpre => ?_)
  obtain ⟨p1, p2⟩ := hpre
  generalize hR : runT s (s.length + 1) i [] x = R
  repeat' ((conv => whnf); first | (with_reducible rfl) | exact True.intro | (with_reducible exact absTF) | (with_reducible exact absFT) | intro _ | refine And.intro ?_ ?_ | refine Fin.mk ?_ | refine CallG.plain rfl ?_ ?_ | refine CallG.mk rfl ?_ ?_ | refine CallG.nwl rfl ?_ ?_ | refine CallG.nw ?_ ?_ | refine CallF.nwl rfl ?_ ?_ | refine CallF.nw ?_ ?_ | refine AppN.mk ?_ | (refine CallS.q ?_; (conv => whnf); first | refine CallG.plain rfl ?_ ?_ | refine CallG.mk rfl ?_ ?_) | (refine CallS.m ?_; (conv => whnf); refine CallM.mk rfl ?_ ?_) | (refine CallS.h ?_; (conv => whnf); refine CallM.mk rfl ?_ ?_) | (refine CallS.b ?_; (conv => whnf); refine CallM.mk rfl ?_ ?_) | (refine CallS.z ?_; (conv => whnf); refine CallM.mk rfl ?_ ?_))
  all_goals (try (conv => whnf))
  refine ScopeStop.mk (α := Bool × Nat × Nat × List AttrD × Bool × List UInt8) (fun a => bif a.1 then 1 else 0) (fun a => [(3, .und), (4, .und), (5, .und)]) (fun a => [(0, scC s (a.2.2.1 : Nat) k nm (.own 1) a.2.2.2.2.1 da a.2.2.2.2.2), (1, .own attrTy a.2.2.2.1)]) 60
    (fun a => a.2.2.1 ≤ s.length ∧ a.2.2.2.1.length ≤ a.2.2.1 ∧ (a.1 = false → a.2.2.2.2.1 = false ∧ s.length - a.2.2.1 < a.2.1 ∧ runT s a.2.1 a.2.2.1 a.2.2.2.1 a.2.2.2.2.2 = R) ∧ (a.1 = true → a.2.2.1 < s.length ∧ R = (true, a.2.2.1 + 1, a.2.2.2.1, a.2.2.2.2.1, a.2.2.2.2.2)))
    (fun a => bif a.1 then 0 else a.2.1) (fun a h => ?_) ?_ (fun a ha => ?_)
  · obtain ⟨b, a⟩ := a
    cases b <;> rfl
  · have tn0 : ∀ n : Nat, ((n : Int)).toNat = n := Int.toNat_natCast
    have tn1 : ∀ n : Nat, ((n : Int) + 1).toNat = n + 1 := fun n => by omega
    have hI := upTo_le blB s i p1
    repeat' ((conv => whnf); first | (with_reducible rfl) | exact True.intro | (with_reducible exact absTF) | (with_reducible exact absFT) | intro _ | refine And.intro ?_ ?_ | refine Fin.mk ?_ | refine CallG.plain rfl ?_ ?_ | refine CallG.mk rfl ?_ ?_ | refine CallG.nwl rfl ?_ ?_ | refine CallG.nw ?_ ?_ | refine CallF.nwl rfl ?_ ?_ | refine CallF.nw ?_ ?_ | refine AppN.mk ?_ | (refine CallS.q ?_; (conv => whnf); first | refine CallG.plain rfl ?_ ?_ | refine CallG.mk rfl ?_ ?_) | (refine CallS.m ?_; (conv => whnf); refine CallM.mk rfl ?_ ?_) | (refine CallS.h ?_; (conv => whnf); refine CallM.mk rfl ?_ ?_) | (refine CallS.b ?_; (conv => whnf); refine CallM.mk rfl ?_ ?_) | (refine CallS.z ?_; (conv => whnf); refine CallM.mk rfl ?_ ?_))
    all_goals (try (conv => whnf))
    all_goals (try (exact Ob.mk (u8_bnd _)))
    all_goals (try (refine Ob.mk ?_; first | exact True.intro | assumption | omega | (try simp only [decide_eq_true_eq, decide_eq_false_iff_not, beq_iff_eq, beq_eq_false_iff_ne, bne_iff_ne, bne_eq_false_iff_eq, ne_eq, Bool.and_eq_true, Bool.or_eq_true, Bool.not_eq_true, Bool.not_eq_false, Bool.not_eq_true', Bool.not_eq_false', Int.toNat_natCast, Int.not_lt, Int.not_le, UInt8.ofNat_toNat, cast_eq] at *; omega)))
    all_goals (try ((show (_:Int) = _); omega))
    all_goals (try (show tupSV _ = _; with_unfolding_all rfl))
    all_goals (try ((show (_ : Nat) ≤ _); (simp <;> omega)))
    all_goals (try ((show (_ : Nat) ≤ _ ∧ (_ : Nat) ≤ _); (simp <;> omega)))
    all_goals (try ((show (_ : Int) ≤ _ ∧ (_ : Int) ≤ _ ∧ (_ : Int) ≤ _ ∧ (_ : Int) ≤ _); (simp <;> omega)))
    all_goals (try simp only [tn0, tn1] at *)
    all_goals (try (have q := hR.symm.trans (st1 (f := s.length) (l := []) (x := x)  ‹_›); rw [q]; done))
    all_goals (try (have q := hR.symm.trans (st6 (f := s.length) (l := []) (x := x)  ‹_› ‹_› ‹_› ‹_› ‹_›); rw [q]; first | done | rfl))
    all_goals (try (have q := hR.symm.trans (st7 (f := s.length) (l := []) (x := x)  ‹_› ‹_› ‹_› ‹_› ‹_› ‹_›); rw [q]; first | done | rfl))
    all_goals (try (have hIl : upTo blB s i < s.length := (cOv_not s (upTo blB s i)).1 ‹_›))
    all_goals (try (have hJ := upTo_le (stP [47, 62, 61]) s (upTo blB s i + 1) (by omega)))
    all_goals (try (have hJ2 : upTo (stP [47, 62, 61]) s (upTo blB s i + 1) ≤ iJ s i ∧ iJ s i ≤ s.length := upTo_le blB s (upTo (stP [47, 62, 61]) s (upTo blB s i + 1)) (by omega)))
    all_goals (try (have hJl : iJ s i < s.length := ((cIs61 s (iJ s i)).1 (by have h : (!cIs s (iJ s i) 61) = false := ‹_›; simpa using h)).1; have hJ3 : iJ s i + 1 ≤ iV s i ∧ iV s i ≤ s.length := upTo_le blB s (iJ s i + 1) (by omega)))
    all_goals (try (have hVl : iV s i < s.length := (cOv_not s (iV s i)).1 ‹_›; have hV := valS_le s (iV s i) hVl))
    · have q := hR.symm.trans (st2 (f := s.length) (l := []) (x := x)  ‹_› ‹_›)
      refine Rnd.mk ⟨(true, 0, upTo blB s i, [], false, x), rfl, ⟨by simp only; omega, by simp only [List.length_nil]; omega, fun h => (by cases h), fun _ => ⟨by simp only; omega, q⟩⟩, ?_⟩
      repeat' ((conv => whnf); first | (with_reducible rfl) | exact True.intro | (with_reducible exact absTF) | (with_reducible exact absFT) | intro _ | refine And.intro ?_ ?_ | refine Fin.mk ?_ | refine CallG.plain rfl ?_ ?_ | refine CallG.mk rfl ?_ ?_ | refine CallG.nwl rfl ?_ ?_ | refine CallG.nw ?_ ?_ | refine CallF.nwl rfl ?_ ?_ | refine CallF.nw ?_ ?_ | refine AppN.mk ?_ | (refine CallS.q ?_; (conv => whnf); first | refine CallG.plain rfl ?_ ?_ | refine CallG.mk rfl ?_ ?_) | (refine CallS.m ?_; (conv => whnf); refine CallM.mk rfl ?_ ?_) | (refine CallS.h ?_; (conv => whnf); refine CallM.mk rfl ?_ ?_) | (refine CallS.b ?_; (conv => whnf); refine CallM.mk rfl ?_ ?_) | (refine CallS.z ?_; (conv => whnf); refine CallM.mk rfl ?_ ?_))
      all_goals (try (conv => whnf))
      all_goals (try (exact Ob.mk (u8_bnd _)))
      all_goals (try (refine Ob.mk ?_; first | exact True.intro | assumption | omega | (try simp only [decide_eq_true_eq, decide_eq_false_iff_not, beq_iff_eq, beq_eq_false_iff_ne, bne_iff_ne, bne_eq_false_iff_eq, ne_eq, Bool.and_eq_true, Bool.or_eq_true, Bool.not_eq_true, Bool.not_eq_false, Bool.not_eq_true', Bool.not_eq_false', Int.toNat_natCast, Int.not_lt, Int.not_le, UInt8.ofNat_toNat, cast_eq] at *; omega)))
      all_goals (try ((show (_:Int) = _); omega))
      all_goals (try (show tupSV _ = _; with_unfolding_all rfl))
      all_goals (try ((show (_ : Nat) ≤ _); (simp <;> omega)))
      all_goals (try ((show (_ : Nat) ≤ _ ∧ (_ : Nat) ≤ _); (simp <;> omega)))
      all_goals (try ((show (_ : Int) ≤ _ ∧ (_ : Int) ≤ _ ∧ (_ : Int) ≤ _ ∧ (_ : Int) ≤ _); (simp <;> omega)))
      all_goals (first | rfl | omega | trace_state)
    · have q := hR.symm.trans (st3 (f := s.length) (l := []) (x := x)  ‹_› ‹_› ‹_› ‹_›)
      refine Rnd.mk ⟨(true, 0, upTo blB s i + 1, [], true, x), rfl, ⟨by have h := ((cIs62 s (upTo blB s i + 1)).1 ‹_›).1; simp only; omega, by simp only [List.length_nil]; omega, fun h => (by cases h), fun _ => ⟨((cIs62 s (upTo blB s i + 1)).1 ‹_›).1, q⟩⟩, ?_⟩
      repeat' ((conv => whnf); first | (with_reducible rfl) | exact True.intro | (with_reducible exact absTF) | (with_reducible exact absFT) | intro _ | refine And.intro ?_ ?_ | refine Fin.mk ?_ | refine CallG.plain rfl ?_ ?_ | refine CallG.mk rfl ?_ ?_ | refine CallG.nwl rfl ?_ ?_ | refine CallG.nw ?_ ?_ | refine CallF.nwl rfl ?_ ?_ | refine CallF.nw ?_ ?_ | refine AppN.mk ?_ | (refine CallS.q ?_; (conv => whnf); first | refine CallG.plain rfl ?_ ?_ | refine CallG.mk rfl ?_ ?_) | (refine CallS.m ?_; (conv => whnf); refine CallM.mk rfl ?_ ?_) | (refine CallS.h ?_; (conv => whnf); refine CallM.mk rfl ?_ ?_) | (refine CallS.b ?_; (conv => whnf); refine CallM.mk rfl ?_ ?_) | (refine CallS.z ?_; (conv => whnf); refine CallM.mk rfl ?_ ?_))
      all_goals (try (conv => whnf))
      all_goals (try (exact Ob.mk (u8_bnd _)))
      all_goals (try (refine Ob.mk ?_; first | exact True.intro | assumption | omega | (try simp only [decide_eq_true_eq, decide_eq_false_iff_not, beq_iff_eq, beq_eq_false_iff_ne, bne_iff_ne, bne_eq_false_iff_eq, ne_eq, Bool.and_eq_true, Bool.or_eq_true, Bool.not_eq_true, Bool.not_eq_false, Bool.not_eq_true', Bool.not_eq_false', Int.toNat_natCast, Int.not_lt, Int.not_le, UInt8.ofNat_toNat, cast_eq] at *; omega)))
      all_goals (try ((show (_:Int) = _); omega))
      all_goals (try (show tupSV _ = _; with_unfolding_all rfl))
      all_goals (try ((show (_ : Nat) ≤ _); (simp <;> omega)))
      all_goals (try ((show (_ : Nat) ≤ _ ∧ (_ : Nat) ≤ _); (simp <;> omega)))
      all_goals (try ((show (_ : Int) ≤ _ ∧ (_ : Int) ≤ _ ∧ (_ : Int) ≤ _ ∧ (_ : Int) ≤ _); (simp <;> omega)))
      all_goals (first | rfl | omega | trace_state)
    · have q := hR.symm.trans (st4 (f := s.length) (l := []) (x := x)  ‹_› ‹_› ‹_› ‹_›)
      refine Rnd.mk ⟨(false, s.length, upTo blB s i + 1, [], false, x), rfl, ⟨by simp only; omega, by simp only [List.length_nil]; omega, fun _ => ⟨rfl, by simp only; omega, q.symm⟩, fun h => (by cases h)⟩, ?_⟩
      repeat' ((conv => whnf); first | (with_reducible rfl) | exact True.intro | (with_reducible exact absTF) | (with_reducible exact absFT) | intro _ | refine And.intro ?_ ?_ | refine Fin.mk ?_ | refine CallG.plain rfl ?_ ?_ | refine CallG.mk rfl ?_ ?_ | refine CallG.nwl rfl ?_ ?_ | refine CallG.nw ?_ ?_ | refine CallF.nwl rfl ?_ ?_ | refine CallF.nw ?_ ?_ | refine AppN.mk ?_ | (refine CallS.q ?_; (conv => whnf); first | refine CallG.plain rfl ?_ ?_ | refine CallG.mk rfl ?_ ?_) | (refine CallS.m ?_; (conv => whnf); refine CallM.mk rfl ?_ ?_) | (refine CallS.h ?_; (conv => whnf); refine CallM.mk rfl ?_ ?_) | (refine CallS.b ?_; (conv => whnf); refine CallM.mk rfl ?_ ?_) | (refine CallS.z ?_; (conv => whnf); refine CallM.mk rfl ?_ ?_))
      all_goals (try (conv => whnf))
      all_goals (try (exact Ob.mk (u8_bnd _)))
      all_goals (try (refine Ob.mk ?_; first | exact True.intro | assumption | omega | (try simp only [decide_eq_true_eq, decide_eq_false_iff_not, beq_iff_eq, beq_eq_false_iff_ne, bne_iff_ne, bne_eq_false_iff_eq, ne_eq, Bool.and_eq_true, Bool.or_eq_true, Bool.not_eq_true, Bool.not_eq_false, Bool.not_eq_true', Bool.not_eq_false', Int.toNat_natCast, Int.not_lt, Int.not_le, UInt8.ofNat_toNat, cast_eq] at *; omega)))
      all_goals (try ((show (_:Int) = _); omega))
      all_goals (try (show tupSV _ = _; with_unfolding_all rfl))
      all_goals (try ((show (_ : Nat) ≤ _); (simp <;> omega)))
      all_goals (try ((show (_ : Nat) ≤ _ ∧ (_ : Nat) ≤ _); (simp <;> omega)))
      all_goals (try ((show (_ : Int) ≤ _ ∧ (_ : Int) ≤ _ ∧ (_ : Int) ≤ _ ∧ (_ : Int) ≤ _); (simp <;> omega)))
      all_goals (first | rfl | omega | trace_state)
    · exact ⟨by omega, by omega, by omega⟩
    · exact ⟨by omega, by omega, by omega⟩
    · have q := hR.symm.trans (st5 (f := s.length) (l := []) (x := x)  ‹_› ‹_› ‹_› ‹_›)
      refine Rnd.mk ⟨(false, s.length, iJ s i, addL [] (nmT s i, decF [] true), false, nmT s i), rfl, ⟨by simp only; omega, by have h := addL_len [] (nmT s i, decF [] true); simp only at h ⊢; simp only [List.length_nil] at h; omega, fun _ => ⟨rfl, by simp only; omega, q.symm⟩, fun h => (by cases h)⟩, ?_⟩
      repeat' ((conv => whnf); first | (with_reducible rfl) | exact True.intro | (with_reducible exact absTF) | (with_reducible exact absFT) | intro _ | refine And.intro ?_ ?_ | refine Fin.mk ?_ | refine CallG.plain rfl ?_ ?_ | refine CallG.mk rfl ?_ ?_ | refine CallG.nwl rfl ?_ ?_ | refine CallG.nw ?_ ?_ | refine CallF.nwl rfl ?_ ?_ | refine CallF.nw ?_ ?_ | refine AppN.mk ?_ | (refine CallS.q ?_; (conv => whnf); first | refine CallG.plain rfl ?_ ?_ | refine CallG.mk rfl ?_ ?_) | (refine CallS.m ?_; (conv => whnf); refine CallM.mk rfl ?_ ?_) | (refine CallS.h ?_; (conv => whnf); refine CallM.mk rfl ?_ ?_) | (refine CallS.b ?_; (conv => whnf); refine CallM.mk rfl ?_ ?_) | (refine CallS.z ?_; (conv => whnf); refine CallM.mk rfl ?_ ?_))
      all_goals (try (conv => whnf))
      all_goals (try (exact Ob.mk (u8_bnd _)))
      all_goals (try (refine Ob.mk ?_; first | exact True.intro | assumption | omega | (try simp only [decide_eq_true_eq, decide_eq_false_iff_not, beq_iff_eq, beq_eq_false_iff_ne, bne_iff_ne, bne_eq_false_iff_eq, ne_eq, Bool.and_eq_true, Bool.or_eq_true, Bool.not_eq_true, Bool.not_eq_false, Bool.not_eq_true', Bool.not_eq_false', Int.toNat_natCast, Int.not_lt, Int.not_le, UInt8.ofNat_toNat, cast_eq] at *; omega)))
      all_goals (try ((show (_:Int) = _); omega))
      all_goals (try (show tupSV _ = _; with_unfolding_all rfl))
      all_goals (try ((show (_ : Nat) ≤ _); (simp <;> omega)))
      all_goals (try ((show (_ : Nat) ≤ _ ∧ (_ : Nat) ≤ _); (simp <;> omega)))
      all_goals (try ((show (_ : Int) ≤ _ ∧ (_ : Int) ≤ _ ∧ (_ : Int) ≤ _ ∧ (_ : Int) ≤ _); (simp <;> omega)))
      all_goals (first | rfl | omega | trace_state)
    · show (valS s (iV s i)).1.length ≤ 100000
      omega
    · have q := hR.symm.trans (st8 (f := s.length) (l := []) (x := x)  ‹_› ‹_› ‹_› ‹_› ‹_› ‹_›)
      refine Rnd.mk ⟨(false, s.length, (valS s (iV s i)).2.1, addL [] (nmT s i, decF (valS s (iV s i)).1 true), false, nmT s i), rfl, ⟨by simp only; omega, by have h := addL_len [] (nmT s i, decF (valS s (iV s i)).1 true); simp only at h ⊢; simp only [List.length_nil] at h; omega, fun _ => ⟨rfl, by simp only; omega, q.symm⟩, fun h => (by cases h)⟩, ?_⟩
      repeat' ((conv => whnf); first | (with_reducible rfl) | exact True.intro | (with_reducible exact absTF) | (with_reducible exact absFT) | intro _ | refine And.intro ?_ ?_ | refine Fin.mk ?_ | refine CallG.plain rfl ?_ ?_ | refine CallG.mk rfl ?_ ?_ | refine CallG.nwl rfl ?_ ?_ | refine CallG.nw ?_ ?_ | refine CallF.nwl rfl ?_ ?_ | refine CallF.nw ?_ ?_ | refine AppN.mk ?_ | (refine CallS.q ?_; (conv => whnf); first | refine CallG.plain rfl ?_ ?_ | refine CallG.mk rfl ?_ ?_) | (refine CallS.m ?_; (conv => whnf); refine CallM.mk rfl ?_ ?_) | (refine CallS.h ?_; (conv => whnf); refine CallM.mk rfl ?_ ?_) | (refine CallS.b ?_; (conv => whnf); refine CallM.mk rfl ?_ ?_) | (refine CallS.z ?_; (conv => whnf); refine CallM.mk rfl ?_ ?_))
      all_goals (try (conv => whnf))
      all_goals (try (exact Ob.mk (u8_bnd _)))
      all_goals (try (refine Ob.mk ?_; first | exact True.intro | assumption | omega | (try simp only [decide_eq_true_eq, decide_eq_false_iff_not, beq_iff_eq, beq_eq_false_iff_ne, bne_iff_ne, bne_eq_false_iff_eq, ne_eq, Bool.and_eq_true, Bool.or_eq_true, Bool.not_eq_true, Bool.not_eq_false, Bool.not_eq_true', Bool.not_eq_false', Int.toNat_natCast, Int.not_lt, Int.not_le, UInt8.ofNat_toNat, cast_eq] at *; omega)))
      all_goals (try ((show (_:Int) = _); omega))
      all_goals (try (show tupSV _ = _; with_unfolding_all rfl))
      all_goals (try ((show (_ : Nat) ≤ _); (simp <;> omega)))
      all_goals (try ((show (_ : Nat) ≤ _ ∧ (_ : Nat) ≤ _); (simp <;> omega)))
      all_goals (try ((show (_ : Int) ≤ _ ∧ (_ : Int) ≤ _ ∧ (_ : Int) ≤ _ ∧ (_ : Int) ≤ _); (simp <;> omega)))
      all_goals (first | rfl | omega | trace_state)
  · have tn0 : ∀ n : Nat, ((n : Int)).toNat = n := Int.toNat_natCast
    have tn1 : ∀ n : Nat, ((n : Int) + 1).toNat = n + 1 := fun n => by omega
    clear hR p1
    obtain ⟨b, f, i, l, sf, x'⟩ := a
    obtain ⟨p1, q1, q2, q3⟩ := ha
    dsimp only at p1 q1 q2 q3
    cases b with
    | true =>
      obtain ⟨q4, q5⟩ := q3 rfl
      repeat' ((conv => whnf); first | (with_reducible rfl) | exact True.intro | (with_reducible exact absTF) | (with_reducible exact absFT) | intro _ | refine And.intro ?_ ?_ | refine Fin.mk ?_ | refine CallG.plain rfl ?_ ?_ | refine CallG.mk rfl ?_ ?_ | refine CallG.nwl rfl ?_ ?_ | refine CallG.nw ?_ ?_ | refine CallF.nwl rfl ?_ ?_ | refine CallF.nw ?_ ?_ | refine AppN.mk ?_ | (refine CallS.q ?_; (conv => whnf); first | refine CallG.plain rfl ?_ ?_ | refine CallG.mk rfl ?_ ?_) | (refine CallS.m ?_; (conv => whnf); refine CallM.mk rfl ?_ ?_) | (refine CallS.h ?_; (conv => whnf); refine CallM.mk rfl ?_ ?_) | (refine CallS.b ?_; (conv => whnf); refine CallM.mk rfl ?_ ?_) | (refine CallS.z ?_; (conv => whnf); refine CallM.mk rfl ?_ ?_))
      all_goals (try (conv => whnf))
      all_goals (try (exact Ob.mk (u8_bnd _)))
      all_goals (try (refine Ob.mk ?_; first | exact True.intro | assumption | omega | (try simp only [decide_eq_true_eq, decide_eq_false_iff_not, beq_iff_eq, beq_eq_false_iff_ne, bne_iff_ne, bne_eq_false_iff_eq, ne_eq, Bool.and_eq_true, Bool.or_eq_true, Bool.not_eq_true, Bool.not_eq_false, Bool.not_eq_true', Bool.not_eq_false', Int.toNat_natCast, Int.not_lt, Int.not_le, UInt8.ofNat_toNat, cast_eq] at *; omega)))
      all_goals (try ((show (_:Int) = _); omega))
      all_goals (try (show tupSV _ = _; with_unfolding_all rfl))
      all_goals (try ((show (_ : Nat) ≤ _); (simp <;> omega)))
      all_goals (try ((show (_ : Nat) ≤ _ ∧ (_ : Nat) ≤ _); (simp <;> omega)))
      all_goals (try ((show (_ : Int) ≤ _ ∧ (_ : Int) ≤ _ ∧ (_ : Int) ≤ _ ∧ (_ : Int) ≤ _); (simp <;> omega)))
      all_goals (first | (rw [q5]; done) | (rw [q5]; rfl) | (constructor <;> omega) | trace_state)
    | false =>
    obtain ⟨rfl, q4, hR⟩ := q2 rfl
    obtain ⟨f', rfl⟩ : ∃ f', f = f' + 1 := ⟨f - 1, by omega⟩
    have hI := upTo_le blB s i p1
    repeat' ((conv => whnf); first | (with_reducible rfl) | exact True.intro | (with_reducible exact absTF) | (with_reducible exact absFT) | intro _ | refine And.intro ?_ ?_ | refine Fin.mk ?_ | refine CallG.plain rfl ?_ ?_ | refine CallG.mk rfl ?_ ?_ | refine CallG.nwl rfl ?_ ?_ | refine CallG.nw ?_ ?_ | refine CallF.nwl rfl ?_ ?_ | refine CallF.nw ?_ ?_ | refine AppN.mk ?_ | (refine CallS.q ?_; (conv => whnf); first | refine CallG.plain rfl ?_ ?_ | refine CallG.mk rfl ?_ ?_) | (refine CallS.m ?_; (conv => whnf); refine CallM.mk rfl ?_ ?_) | (refine CallS.h ?_; (conv => whnf); refine CallM.mk rfl ?_ ?_) | (refine CallS.b ?_; (conv => whnf); refine CallM.mk rfl ?_ ?_) | (refine CallS.z ?_; (conv => whnf); refine CallM.mk rfl ?_ ?_))
    all_goals (try (conv => whnf))
    all_goals (try (exact Ob.mk (u8_bnd _)))
    all_goals (try (refine Ob.mk ?_; first | exact True.intro | assumption | omega | (try simp only [decide_eq_true_eq, decide_eq_false_iff_not, beq_iff_eq, beq_eq_false_iff_ne, bne_iff_ne, bne_eq_false_iff_eq, ne_eq, Bool.and_eq_true, Bool.or_eq_true, Bool.not_eq_true, Bool.not_eq_false, Bool.not_eq_true', Bool.not_eq_false', Int.toNat_natCast, Int.not_lt, Int.not_le, UInt8.ofNat_toNat, cast_eq] at *; omega)))
    all_goals (try ((show (_:Int) = _); omega))
    all_goals (try (show tupSV _ = _; with_unfolding_all rfl))
    all_goals (try ((show (_ : Nat) ≤ _); (simp <;> omega)))
    all_goals (try ((show (_ : Nat) ≤ _ ∧ (_ : Nat) ≤ _); (simp <;> omega)))
    all_goals (try ((show (_ : Int) ≤ _ ∧ (_ : Int) ≤ _ ∧ (_ : Int) ≤ _ ∧ (_ : Int) ≤ _); (simp <;> omega)))
    all_goals (try simp only [tn0, tn1] at *)
    all_goals (try (have q := hR.symm.trans (st1 (f := f') (l := l) (x := x')  ‹_›); rw [q]; done))
    all_goals (try (have q := hR.symm.trans (st6 (f := f') (l := l) (x := x')  ‹_› ‹_› ‹_› ‹_› ‹_›); rw [q]; first | done | rfl))
    all_goals (try (have q := hR.symm.trans (st7 (f := f') (l := l) (x := x')  ‹_› ‹_› ‹_› ‹_› ‹_› ‹_›); rw [q]; first | done | rfl))
    all_goals (try (have hIl : upTo blB s i < s.length := (cOv_not s (upTo blB s i)).1 ‹_›))
    all_goals (try (have hJ := upTo_le (stP [47, 62, 61]) s (upTo blB s i + 1) (by omega)))
    all_goals (try (have hJ2 : upTo (stP [47, 62, 61]) s (upTo blB s i + 1) ≤ iJ s i ∧ iJ s i ≤ s.length := upTo_le blB s (upTo (stP [47, 62, 61]) s (upTo blB s i + 1)) (by omega)))
    all_goals (try (have hJl : iJ s i < s.length := ((cIs61 s (iJ s i)).1 (by have h : (!cIs s (iJ s i) 61) = false := ‹_›; simpa using h)).1; have hJ3 : iJ s i + 1 ≤ iV s i ∧ iV s i ≤ s.length := upTo_le blB s (iJ s i + 1) (by omega)))
    all_goals (try (have hVl : iV s i < s.length := (cOv_not s (iV s i)).1 ‹_›; have hV := valS_le s (iV s i) hVl))
    · have q := hR.symm.trans (st2 (f := f') (l := l) (x := x')  ‹_› ‹_›)
      refine Rnd.mk ⟨(true, 0, upTo blB s i, l, false, x'), rfl, ⟨by simp only; omega, by simp only; omega, fun h => (by cases h), fun _ => ⟨by simp only; omega, q⟩⟩, by show _ < f' + 1; simp only [cond_true, cond_false]; omega, ?_⟩
      repeat' ((conv => whnf); first | (with_reducible rfl) | exact True.intro | (with_reducible exact absTF) | (with_reducible exact absFT) | intro _ | refine And.intro ?_ ?_ | refine Fin.mk ?_ | refine CallG.plain rfl ?_ ?_ | refine CallG.mk rfl ?_ ?_ | refine CallG.nwl rfl ?_ ?_ | refine CallG.nw ?_ ?_ | refine CallF.nwl rfl ?_ ?_ | refine CallF.nw ?_ ?_ | refine AppN.mk ?_ | (refine CallS.q ?_; (conv => whnf); first | refine CallG.plain rfl ?_ ?_ | refine CallG.mk rfl ?_ ?_) | (refine CallS.m ?_; (conv => whnf); refine CallM.mk rfl ?_ ?_) | (refine CallS.h ?_; (conv => whnf); refine CallM.mk rfl ?_ ?_) | (refine CallS.b ?_; (conv => whnf); refine CallM.mk rfl ?_ ?_) | (refine CallS.z ?_; (conv => whnf); refine CallM.mk rfl ?_ ?_))
      all_goals (try (conv => whnf))
      all_goals (try (exact Ob.mk (u8_bnd _)))
      all_goals (try (refine Ob.mk ?_; first | exact True.intro | assumption | omega | (try simp only [decide_eq_true_eq, decide_eq_false_iff_not, beq_iff_eq, beq_eq_false_iff_ne, bne_iff_ne, bne_eq_false_iff_eq, ne_eq, Bool.and_eq_true, Bool.or_eq_true, Bool.not_eq_true, Bool.not_eq_false, Bool.not_eq_true', Bool.not_eq_false', Int.toNat_natCast, Int.not_lt, Int.not_le, UInt8.ofNat_toNat, cast_eq] at *; omega)))
      all_goals (try ((show (_:Int) = _); omega))
      all_goals (try (show tupSV _ = _; with_unfolding_all rfl))
      all_goals (try ((show (_ : Nat) ≤ _); (simp <;> omega)))
      all_goals (try ((show (_ : Nat) ≤ _ ∧ (_ : Nat) ≤ _); (simp <;> omega)))
      all_goals (try ((show (_ : Int) ≤ _ ∧ (_ : Int) ≤ _ ∧ (_ : Int) ≤ _ ∧ (_ : Int) ≤ _); (simp <;> omega)))
      all_goals (first | rfl | omega | trace_state)
    · have q := hR.symm.trans (st3 (f := f') (l := l) (x := x')  ‹_› ‹_› ‹_› ‹_›)
      refine Rnd.mk ⟨(true, 0, upTo blB s i + 1, l, true, x'), rfl, ⟨by have h := ((cIs62 s (upTo blB s i + 1)).1 ‹_›).1; simp only; omega, by simp only; omega, fun h => (by cases h), fun _ => ⟨((cIs62 s (upTo blB s i + 1)).1 ‹_›).1, q⟩⟩, by show _ < f' + 1; simp only [cond_true, cond_false]; omega, ?_⟩
      repeat' ((conv => whnf); first | (with_reducible rfl) | exact True.intro | (with_reducible exact absTF) | (with_reducible exact absFT) | intro _ | refine And.intro ?_ ?_ | refine Fin.mk ?_ | refine CallG.plain rfl ?_ ?_ | refine CallG.mk rfl ?_ ?_ | refine CallG.nwl rfl ?_ ?_ | refine CallG.nw ?_ ?_ | refine CallF.nwl rfl ?_ ?_ | refine CallF.nw ?_ ?_ | refine AppN.mk ?_ | (refine CallS.q ?_; (conv => whnf); first | refine CallG.plain rfl ?_ ?_ | refine CallG.mk rfl ?_ ?_) | (refine CallS.m ?_; (conv => whnf); refine CallM.mk rfl ?_ ?_) | (refine CallS.h ?_; (conv => whnf); refine CallM.mk rfl ?_ ?_) | (refine CallS.b ?_; (conv => whnf); refine CallM.mk rfl ?_ ?_) | (refine CallS.z ?_; (conv => whnf); refine CallM.mk rfl ?_ ?_))
      all_goals (try (conv => whnf))
      all_goals (try (exact Ob.mk (u8_bnd _)))
      all_goals (try (refine Ob.mk ?_; first | exact True.intro | assumption | omega | (try simp only [decide_eq_true_eq, decide_eq_false_iff_not, beq_iff_eq, beq_eq_false_iff_ne, bne_iff_ne, bne_eq_false_iff_eq, ne_eq, Bool.and_eq_true, Bool.or_eq_true, Bool.not_eq_true, Bool.not_eq_false, Bool.not_eq_true', Bool.not_eq_false', Int.toNat_natCast, Int.not_lt, Int.not_le, UInt8.ofNat_toNat, cast_eq] at *; omega)))
      all_goals (try ((show (_:Int) = _); omega))
      all_goals (try (show tupSV _ = _; with_unfolding_all rfl))
      all_goals (try ((show (_ : Nat) ≤ _); (simp <;> omega)))
      all_goals (try ((show (_ : Nat) ≤ _ ∧ (_ : Nat) ≤ _); (simp <;> omega)))
      all_goals (try ((show (_ : Int) ≤ _ ∧ (_ : Int) ≤ _ ∧ (_ : Int) ≤ _ ∧ (_ : Int) ≤ _); (simp <;> omega)))
      all_goals (first | rfl | omega | trace_state)
    · have q := hR.symm.trans (st4 (f := f') (l := l) (x := x')  ‹_› ‹_› ‹_› ‹_›)
      refine Rnd.mk ⟨(false, f', upTo blB s i + 1, l, false, x'), rfl, ⟨by simp only; omega, by simp only; omega, fun _ => ⟨rfl, by simp only; omega, q.symm⟩, fun h => (by cases h)⟩, by show _ < f' + 1; simp only [cond_true, cond_false]; omega, ?_⟩
      repeat' ((conv => whnf); first | (with_reducible rfl) | exact True.intro | (with_reducible exact absTF) | (with_reducible exact absFT) | intro _ | refine And.intro ?_ ?_ | refine Fin.mk ?_ | refine CallG.plain rfl ?_ ?_ | refine CallG.mk rfl ?_ ?_ | refine CallG.nwl rfl ?_ ?_ | refine CallG.nw ?_ ?_ | refine CallF.nwl rfl ?_ ?_ | refine CallF.nw ?_ ?_ | refine AppN.mk ?_ | (refine CallS.q ?_; (conv => whnf); first | refine CallG.plain rfl ?_ ?_ | refine CallG.mk rfl ?_ ?_) | (refine CallS.m ?_; (conv => whnf); refine CallM.mk rfl ?_ ?_) | (refine CallS.h ?_; (conv => whnf); refine CallM.mk rfl ?_ ?_) | (refine CallS.b ?_; (conv => whnf); refine CallM.mk rfl ?_ ?_) | (refine CallS.z ?_; (conv => whnf); refine CallM.mk rfl ?_ ?_))
      all_goals (try (conv => whnf))
      all_goals (try (exact Ob.mk (u8_bnd _)))
      all_goals (try (refine Ob.mk ?_; first | exact True.intro | assumption | omega | (try simp only [decide_eq_true_eq, decide_eq_false_iff_not, beq_iff_eq, beq_eq_false_iff_ne, bne_iff_ne, bne_eq_false_iff_eq, ne_eq, Bool.and_eq_true, Bool.or_eq_true, Bool.not_eq_true, Bool.not_eq_false, Bool.not_eq_true', Bool.not_eq_false', Int.toNat_natCast, Int.not_lt, Int.not_le, UInt8.ofNat_toNat, cast_eq] at *; omega)))
      all_goals (try ((show (_:Int) = _); omega))
      all_goals (try (show tupSV _ = _; with_unfolding_all rfl))
      all_goals (try ((show (_ : Nat) ≤ _); (simp <;> omega)))
      all_goals (try ((show (_ : Nat) ≤ _ ∧ (_ : Nat) ≤ _); (simp <;> omega)))
      all_goals (try ((show (_ : Int) ≤ _ ∧ (_ : Int) ≤ _ ∧ (_ : Int) ≤ _ ∧ (_ : Int) ≤ _); (simp <;> omega)))
      all_goals (first | rfl | omega | trace_state)
    · exact ⟨by omega, by omega, by omega⟩
    · exact ⟨by omega, by omega, by omega⟩
    · have q := hR.symm.trans (st5 (f := f') (l := l) (x := x')  ‹_› ‹_› ‹_› ‹_›)
      refine Rnd.mk ⟨(false, f', iJ s i, addL l (nmT s i, decF [] true), false, nmT s i), rfl, ⟨by simp only; omega, by have h := addL_len l (nmT s i, decF [] true); simp only; omega, fun _ => ⟨rfl, by simp only; omega, q.symm⟩, fun h => (by cases h)⟩, by show _ < f' + 1; simp only [cond_true, cond_false]; omega, ?_⟩
      repeat' ((conv => whnf); first | (with_reducible rfl) | exact True.intro | (with_reducible exact absTF) | (with_reducible exact absFT) | intro _ | refine And.intro ?_ ?_ | refine Fin.mk ?_ | refine CallG.plain rfl ?_ ?_ | refine CallG.mk rfl ?_ ?_ | refine CallG.nwl rfl ?_ ?_ | refine CallG.nw ?_ ?_ | refine CallF.nwl rfl ?_ ?_ | refine CallF.nw ?_ ?_ | refine AppN.mk ?_ | (refine CallS.q ?_; (conv => whnf); first | refine CallG.plain rfl ?_ ?_ | refine CallG.mk rfl ?_ ?_) | (refine CallS.m ?_; (conv => whnf); refine CallM.mk rfl ?_ ?_) | (refine CallS.h ?_; (conv => whnf); refine CallM.mk rfl ?_ ?_) | (refine CallS.b ?_; (conv => whnf); refine CallM.mk rfl ?_ ?_) | (refine CallS.z ?_; (conv => whnf); refine CallM.mk rfl ?_ ?_))
      all_goals (try (conv => whnf))
      all_goals (try (exact Ob.mk (u8_bnd _)))
      all_goals (try (refine Ob.mk ?_; first | exact True.intro | assumption | omega | (try simp only [decide_eq_true_eq, decide_eq_false_iff_not, beq_iff_eq, beq_eq_false_iff_ne, bne_iff_ne, bne_eq_false_iff_eq, ne_eq, Bool.and_eq_true, Bool.or_eq_true, Bool.not_eq_true, Bool.not_eq_false, Bool.not_eq_true', Bool.not_eq_false', Int.toNat_natCast, Int.not_lt, Int.not_le, UInt8.ofNat_toNat, cast_eq] at *; omega)))
      all_goals (try ((show (_:Int) = _); omega))
      all_goals (try (show tupSV _ = _; with_unfolding_all rfl))
      all_goals (try ((show (_ : Nat) ≤ _); (simp <;> omega)))
      all_goals (try ((show (_ : Nat) ≤ _ ∧ (_ : Nat) ≤ _); (simp <;> omega)))
      all_goals (try ((show (_ : Int) ≤ _ ∧ (_ : Int) ≤ _ ∧ (_ : Int) ≤ _ ∧ (_ : Int) ≤ _); (simp <;> omega)))
      all_goals (first | rfl | omega | trace_state)
    · refine ⟨?_, by omega⟩
      show (valS s (iV s i)).1.length ≤ 100000
      omega
    · have q := hR.symm.trans (st8 (f := f') (l := l) (x := x')  ‹_› ‹_› ‹_› ‹_› ‹_› ‹_›)
      refine Rnd.mk ⟨(false, f', (valS s (iV s i)).2.1, addL l (nmT s i, decF (valS s (iV s i)).1 true), false, nmT s i), rfl, ⟨by simp only; omega, by have h := addL_len l (nmT s i, decF (valS s (iV s i)).1 true); simp only; omega, fun _ => ⟨rfl, by simp only; omega, q.symm⟩, fun h => (by cases h)⟩, by show _ < f' + 1; simp only [cond_true, cond_false]; omega, ?_⟩
      repeat' ((conv => whnf); first | (with_reducible rfl) | exact True.intro | (with_reducible exact absTF) | (with_reducible exact absFT) | intro _ | refine And.intro ?_ ?_ | refine Fin.mk ?_ | refine CallG.plain rfl ?_ ?_ | refine CallG.mk rfl ?_ ?_ | refine CallG.nwl rfl ?_ ?_ | refine CallG.nw ?_ ?_ | refine CallF.nwl rfl ?_ ?_ | refine CallF.nw ?_ ?_ | refine AppN.mk ?_ | (refine CallS.q ?_; (conv => whnf); first | refine CallG.plain rfl ?_ ?_ | refine CallG.mk rfl ?_ ?_) | (refine CallS.m ?_; (conv => whnf); refine CallM.mk rfl ?_ ?_) | (refine CallS.h ?_; (conv => whnf); refine CallM.mk rfl ?_ ?_) | (refine CallS.b ?_; (conv => whnf); refine CallM.mk rfl ?_ ?_) | (refine CallS.z ?_; (conv => whnf); refine CallM.mk rfl ?_ ?_))
      all_goals (try (conv => whnf))
      all_goals (try (exact Ob.mk (u8_bnd _)))
      all_goals (try (refine Ob.mk ?_; first | exact True.intro | assumption | omega | (try simp only [decide_eq_true_eq, decide_eq_false_iff_not, beq_iff_eq, beq_eq_false_iff_ne, bne_iff_ne, bne_eq_false_iff_eq, ne_eq, Bool.and_eq_true, Bool.or_eq_true, Bool.not_eq_true, Bool.not_eq_false, Bool.not_eq_true', Bool.not_eq_false', Int.toNat_natCast, Int.not_lt, Int.not_le, UInt8.ofNat_toNat, cast_eq] at *; omega)))
      all_goals (try ((show (_:Int) = _); omega))
      all_goals (try (show tupSV _ = _; with_unfolding_all rfl))
      all_goals (try ((show (_ : Nat) ≤ _); (simp <;> omega)))
      all_goals (try ((show (_ : Nat) ≤ _ ∧ (_ : Nat) ≤ _); (simp <;> omega)))
      all_goals (try ((show (_ : Int) ≤ _ ∧ (_ : Int) ≤ _ ∧ (_ : Int) ≤ _ ∧ (_ : Int) ≤ _); (simp <;> omega)))
      all_goals (first | rfl | omega | trace_state)
end Go.Vc

namespace Go.Vc
open Go.Proofs
set_option linter.unusedVariables false
set_option maxRecDepth 10000
set_option linter.unusedSimpArgs false
set_option maxHeartbeats 8000000
def begP (s p : List UInt8) : Bool := decide ((s.length : Int) ≥ (p.length : Int)) && s.take p.length == p
instance gHPl (s p : List UInt8) : Fn BB 31 [.str s, .str p] True (.bool (begP s p)) := by
  refine Fn.intro (N := 18) [0, 1, 4] [] Try.call31 Try.func31 rfl rfl (by kernel_rfl) (fun hpre => ?_)
  repeat' ((conv => whnf); first | (with_reducible rfl) | exact True.intro | (with_reducible exact absTF) | (with_reducible exact absFT) | intro _ | refine And.intro ?_ ?_ | refine Fin.mk ?_ | refine CallG.plain rfl ?_ ?_ | refine CallG.mk rfl ?_ ?_ | refine CallG.nwl rfl ?_ ?_ | refine CallG.nw ?_ ?_ | refine CallF.nwl rfl ?_ ?_ | refine CallF.nw ?_ ?_ | refine AppN.mk ?_ | (refine CallS.q ?_; (conv => whnf); first | refine CallG.plain rfl ?_ ?_ | refine CallG.mk rfl ?_ ?_) | (refine CallS.m ?_; (conv => whnf); refine CallM.mk rfl ?_ ?_) | (refine CallS.h ?_; (conv => whnf); refine CallM.mk rfl ?_ ?_) | (refine CallS.b ?_; (conv => whnf); refine CallM.mk rfl ?_ ?_) | (refine CallS.z ?_; (conv => whnf); refine CallM.mk rfl ?_ ?_))
  all_goals (try (conv => whnf))
  all_goals (try (exact Ob.mk (u8_bnd _)))
  all_goals (try (refine Ob.mk ?_; first | exact True.intro | assumption | omega | (try simp only [decide_eq_true_eq, decide_eq_false_iff_not, beq_iff_eq, beq_eq_false_iff_ne, bne_iff_ne, bne_eq_false_iff_eq, ne_eq, Bool.and_eq_true, Bool.or_eq_true, Bool.not_eq_true, Bool.not_eq_false, Bool.not_eq_true', Bool.not_eq_false', Int.toNat_natCast, Int.not_lt, Int.not_le, UInt8.ofNat_toNat, cast_eq] at *; omega)))
  all_goals (try ((show (_:Int) = _); omega))
  all_goals (try (show tupSV _ = _; with_unfolding_all rfl))
  all_goals (try ((show (_ : Nat) ≤ _); (simp <;> omega)))
  all_goals (try ((show (_ : Nat) ≤ _ ∧ (_ : Nat) ≤ _); (simp <;> omega)))
  all_goals (try ((show (_ : Int) ≤ _ ∧ (_ : Int) ≤ _ ∧ (_ : Int) ≤ _ ∧ (_ : Int) ≤ _); (simp <;> omega)))
  all_goals (try simp only [decide_eq_true_eq, decide_eq_false_iff_not, beq_iff_eq, beq_eq_false_iff_ne, bne_iff_ne, bne_eq_false_iff_eq, ne_eq, Bool.and_eq_true, Bool.or_eq_true, Bool.not_eq_true, Bool.not_eq_false, Bool.not_eq_true', Bool.not_eq_false', Int.toNat_natCast, Int.not_lt, Int.not_le, UInt8.ofNat_toNat, cast_eq] at *)
  all_goals rfl
instance gHP (s p : List UInt8) : Fn BB 14 [.str s, .str p] True (.bool (begP s p)) := by
  refine Fn.intro (N := 8) [0, 1, 4] [] Try.call14 Try.func14 rfl rfl (by kernel_rfl) (fun hpre => ?_)
  repeat' ((conv => whnf); first | (with_reducible rfl) | exact True.intro | (with_reducible exact absTF) | (with_reducible exact absFT) | intro _ | refine And.intro ?_ ?_ | refine Fin.mk ?_ | refine CallG.plain rfl ?_ ?_ | refine CallG.mk rfl ?_ ?_ | refine CallG.nwl rfl ?_ ?_ | refine CallG.nw ?_ ?_ | refine CallF.nwl rfl ?_ ?_ | refine CallF.nw ?_ ?_ | refine AppN.mk ?_ | (refine CallS.q ?_; (conv => whnf); first | refine CallG.plain rfl ?_ ?_ | refine CallG.mk rfl ?_ ?_) | (refine CallS.m ?_; (conv => whnf); refine CallM.mk rfl ?_ ?_) | (refine CallS.h ?_; (conv => whnf); refine CallM.mk rfl ?_ ?_) | (refine CallS.b ?_; (conv => whnf); refine CallM.mk rfl ?_ ?_) | (refine CallS.z ?_; (conv => whnf); refine CallM.mk rfl ?_ ?_))
  all_goals (try (conv => whnf))
  all_goals (try (exact Ob.mk (u8_bnd _)))
  all_goals (try (refine Ob.mk ?_; first | exact True.intro | assumption | omega | (try simp only [decide_eq_true_eq, decide_eq_false_iff_not, beq_iff_eq, beq_eq_false_iff_ne, bne_iff_ne, bne_eq_false_iff_eq, ne_eq, Bool.and_eq_true, Bool.or_eq_true, Bool.not_eq_true, Bool.not_eq_false, Bool.not_eq_true', Bool.not_eq_false', Int.toNat_natCast, Int.not_lt, Int.not_le, UInt8.ofNat_toNat, cast_eq] at *; omega)))
  all_goals (try ((show (_:Int) = _); omega))
  all_goals (try (show tupSV _ = _; with_unfolding_all rfl))
  all_goals (try ((show (_ : Nat) ≤ _); (simp <;> omega)))
  all_goals (try ((show (_ : Nat) ≤ _ ∧ (_ : Nat) ≤ _); (simp <;> omega)))
  all_goals (try ((show (_ : Int) ≤ _ ∧ (_ : Int) ≤ _ ∧ (_ : Int) ≤ _ ∧ (_ : Int) ≤ _); (simp <;> omega)))
abbrev TagR := Int × List UInt8 × List AttrD × Bool × Int × Bool
def nmG (s : List UInt8) (at_ : Nat) : List UInt8 := lowL ((s.take (upTo (stP [47, 62]) s at_)).drop at_)
def rnG (s : List UInt8) (at_ : Nat) : RunR := runT s (s.length + 1) (upTo (stP [47, 62]) s at_) [] []
/-- the tag with which a text begins, from a place on -/
def tagAt (s : List UInt8) (c : Bool) (at_ : Nat) : TagR :=
  if s = [] ∨ s.getD 0 0 ≠ 60 ∨ s.length ≤ at_ ∨ alB (s.getD at_ 0) = false then (0, [], [], false, 0, false)
  else if (rnG s at_).1 = false then (0, [], [], false, (s.length : Int), false)
  else if c = true then (2, nmG s at_, [], false, ((rnG s at_).2.1 : Int), true)
  else (1, nmG s at_, (rnG s at_).2.2.1, (rnG s at_).2.2.2.1, ((rnG s at_).2.1 : Int), true)
def tagP (s : List UInt8) : TagR := if begP s [60, 47] = true then tagAt s true 2 else tagAt s false 1
section
variable {s : List UInt8} {c : Bool} {n : Nat} {k : Int}
theorem h60 (s : List UInt8) : (s == [] || ((s.getD (Int.toNat 0) 0).toNat : Int) != 60) = true ↔ (s = [] ∨ s.getD 0 0 ≠ 60) := by
  have e : (((s.getD (Int.toNat 0) 0).toNat : Int) != 60) = !(s.getD 0 0 == 60) := by
    rw [bne, show (((s.getD (Int.toNat 0) 0).toNat : Int) == 60) = (s.getD 0 0 == 60) from b_iff _ 60]
  rw [e, Bool.or_eq_true, beq_iff_eq, Bool.not_eq_true', beq_eq_false_iff_ne]
theorem tA1 (h : (s == [] || ((s.getD (Int.toNat 0) 0).toNat : Int) != 60) = !false) : tagAt s c n = (0, [], [], false, 0, false) := by
  have := (h60 s).1 h
  unfold tagAt; rw [if_pos (by rcases this with h | h; exact .inl h; exact .inr (.inl h))]
theorem tA2 (hk : k = n) (h : (false || decide (k ≥ (s.length : Int)) || !alI ((s.getD k.toNat 0).toNat : Int)) = true) : tagAt s c n = (0, [], [], false, 0, false) := by
  subst hk
  rw [Bool.false_or, Bool.or_eq_true, decide_eq_true_eq, Int.toNat_natCast, Bool.not_eq_true'] at h
  unfold tagAt; rw [if_pos (by rcases h with h | h; exact .inr (.inr (.inl (by omega))); exact .inr (.inr (.inr h)))]
theorem tOk (hk : k = n) (h : (s == [] || ((s.getD (Int.toNat 0) 0).toNat : Int) != 60) = false) (h' : (false || decide (k ≥ (s.length : Int)) || !alI ((s.getD k.toNat 0).toNat : Int)) = false) : ¬ (s = [] ∨ s.getD 0 0 ≠ 60 ∨ s.length ≤ n ∨ alB (s.getD n 0) = false) := by
  subst hk
  rw [Bool.false_or, Bool.or_eq_false_iff, decide_eq_false_iff_not, Int.toNat_natCast, Bool.not_eq_false'] at h'
  rintro (q | q | q | q)
  · rw [(h60 s).2 (.inl q)] at h; cases h
  · rw [(h60 s).2 (.inr q)] at h; cases h
  · exact h'.1 (by omega)
  · unfold alB at q; rw [h'.2] at q; cases q
theorem tA3 (hk : k = n) (h : (s == [] || ((s.getD (Int.toNat 0) 0).toNat : Int) != 60) = false) (h' : (false || decide (k ≥ (s.length : Int)) || !alI ((s.getD k.toNat 0).toNat : Int)) = false) (hr : (!(rnG s k.toNat).1) = true) : tagAt s c n = (0, [], [], false, (s.length : Int), false) := by
  have := tOk hk h h'
  subst hk
  rw [Int.toNat_natCast] at hr
  unfold tagAt; rw [if_neg this, if_pos (by simpa using hr)]
theorem tA4 (hk : k = n) (h : (s == [] || ((s.getD (Int.toNat 0) 0).toNat : Int) != 60) = false) (h' : (false || decide (k ≥ (s.length : Int)) || !alI ((s.getD k.toNat 0).toNat : Int)) = false) (hr : (!(rnG s k.toNat).1) = false) : tagAt s c n = if c = true then (2, nmG s n, [], false, ((rnG s n).2.1 : Int), true) else (1, nmG s n, (rnG s n).2.2.1, (rnG s n).2.2.2.1, ((rnG s n).2.1 : Int), true) := by
  have := tOk hk h h'
  subst hk
  rw [Int.toNat_natCast] at hr
  unfold tagAt; rw [if_neg this, if_neg (by simpa using hr)]
theorem tBnd (hk : k = n) (h : (s == [] || ((s.getD (Int.toNat 0) 0).toNat : Int) != 60) = false) (h' : (false || decide (k ≥ (s.length : Int)) || !alI ((s.getD k.toNat 0).toNat : Int)) = false) : n < s.length := by
  have := tOk hk h h'
  rcases Nat.lt_or_ge n s.length with q | q
  · exact q
  · exact absurd (.inr (.inr (.inl q))) this
end
instance tRead (s : List UInt8) : FnM BB 7 [.str s] [] (s.length ≤ 50000) (.tup [.agg [.int .i64 (tagP s).1, .str (tagP s).2.1, .own 0, .bool (tagP s).2.2.2.1, .str []], .int .i64 (tagP s).2.2.2.2.1, .bool (tagP s).2.2.2.2.2]) [(0, .own attrTy (tagP s).2.2.1)] := by
  refine FnM.intro (N := 62) [0, 2, 3, 4, 5, 6, 11, 32, 46, 53] [(13, [0, 4, 0, 4, 4, 4, 0])] 0 Try.call7 Try.func7 rfl rfl (by kernel_rfl) (fun hpre => ?_)
  have e1 : begP s [60, 47] = true → tagP s = tagAt s true 2 := fun h => by unfold tagP; rw [if_pos h]
  have e0 : begP s [60, 47] = false → tagP s = tagAt s false 1 := fun h => by unfold tagP; rw [if_neg (by rw [h]; decide)]
  have n2 : (2 : Int).toNat = 2 := rfl
  have n1 : (1 : Int).toNat = 1 := rfl
  repeat' ((conv => whnf); first | (with_reducible rfl) | exact True.intro | (with_reducible exact absTF) | (with_reducible exact absFT) | intro _ | refine And.intro ?_ ?_ | refine Fin.mk ?_ | refine CallG.plain rfl ?_ ?_ | refine CallG.mk rfl ?_ ?_ | refine CallG.nwl rfl ?_ ?_ | refine CallG.nw ?_ ?_ | refine CallF.nwl rfl ?_ ?_ | refine CallF.nw ?_ ?_ | refine AppN.mk ?_ | (refine CallS.q ?_; (conv => whnf); first | refine CallG.plain rfl ?_ ?_ | refine CallG.mk rfl ?_ ?_) | (refine CallS.m ?_; (conv => whnf); refine CallM.mk rfl ?_ ?_) | (refine CallS.h ?_; (conv => whnf); refine CallM.mk rfl ?_ ?_) | (refine CallS.b ?_; (conv => whnf); refine CallM.mk rfl ?_ ?_) | (refine CallS.z ?_; (conv => whnf); refine CallM.mk rfl ?_ ?_))
  all_goals (try (conv => whnf))
  all_goals (try (exact Ob.mk (u8_bnd _)))
  all_goals (try (refine Ob.mk ?_; first | exact True.intro | assumption | omega | (try simp only [decide_eq_true_eq, decide_eq_false_iff_not, beq_iff_eq, beq_eq_false_iff_ne, bne_iff_ne, bne_eq_false_iff_eq, ne_eq, Bool.and_eq_true, Bool.or_eq_true, Bool.not_eq_true, Bool.not_eq_false, Bool.not_eq_true', Bool.not_eq_false', Int.toNat_natCast, Int.not_lt, Int.not_le, UInt8.ofNat_toNat, cast_eq] at *; omega)))
  all_goals (try ((show (_:Int) = _); omega))
  all_goals (try (show tupSV _ = _; with_unfolding_all rfl))
  all_goals (try ((show (_ : Nat) ≤ _); (simp <;> omega)))
  all_goals (try ((show (_ : Nat) ≤ _ ∧ (_ : Nat) ≤ _); (simp <;> omega)))
  all_goals (try ((show (_ : Int) ≤ _ ∧ (_ : Int) ≤ _ ∧ (_ : Int) ≤ _ ∧ (_ : Int) ≤ _); (simp <;> omega)))
  all_goals (try (have q := (e1 ‹_›).trans (tA1 ‹_›)))
  all_goals (try (have q := (e0 ‹_›).trans (tA1 ‹_›)))
  all_goals (try (have q := (e1 ‹_›).trans (tA2 (k := 2) rfl ‹_›)))
  all_goals (try (have q := (e0 ‹_›).trans (tA2 (k := 1) rfl ‹_›)))
  all_goals (try (have q := (e1 ‹_›).trans (tA3 (k := 2) rfl ‹_› ‹_› ‹_›)))
  all_goals (try (have q := (e0 ‹_›).trans (tA3 (k := 1) rfl ‹_› ‹_› ‹_›)))
  all_goals (try (have q := (e1 ‹_›).trans (tA4 (k := 2) rfl ‹_› ‹_› ‹_›)))
  all_goals (try (have q := (e0 ‹_›).trans (tA4 (k := 1) rfl ‹_› ‹_› ‹_›)))
  all_goals (try (have b := tBnd (n := 2) (k := 2) rfl ‹_› ‹_›; have u := upTo_le (stP [47, 62]) s 2 (by omega)))
  all_goals (try (have b := tBnd (n := 1) (k := 1) rfl ‹_› ‹_›; have u := upTo_le (stP [47, 62]) s 1 (by omega)))
  all_goals (try (exfalso; exact absurd ‹((1 : Int) == 2) = true› (by decide)))
  all_goals (try (exfalso; exact absurd ‹((2 : Int) == 2) = false› (by decide)))
  all_goals (try (exfalso; have h : (true || !alI ((s.getD (Int.toNat 2) 0).toNat : Int)) = false := ‹_›; simp at h; done))
  all_goals (try (exfalso; have h : (true || !alI ((s.getD (Int.toNat 1) 0).toNat : Int)) = false := ‹_›; simp at h; done))
  all_goals (try (have hne : s ≠ [] := fun z => by have h : (s == []) = false := ‹_›; rw [z] at h; cases h))
  all_goals (try (have hpos : 0 < s.length := List.length_pos_iff.mpr hne))
  all_goals (try (have h2' : ¬ (2 ≥ (s.length : Int)) := by have h : (false || decide (2 ≥ (s.length : Int))) = false := ‹_›; rw [Bool.false_or] at h; exact of_decide_eq_false h))
  all_goals (try (have h1' : ¬ (1 ≥ (s.length : Int)) := by have h : (false || decide (1 ≥ (s.length : Int))) = false := ‹_›; rw [Bool.false_or] at h; exact of_decide_eq_false h))
  all_goals (try simp only [n1, n2] at *)
  all_goals (first | (rw [q]; done) | (rw [q]; rfl) | omega | exact ⟨by omega, by omega⟩ | exact ⟨by omega, by omega, by omega⟩ | skip)
  all_goals trace_state
end Go.Vc
