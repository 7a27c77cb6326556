/- A part of the proof: lemmas and walks that the last text of the claim joins; no condition. -/
import Derived.Test.YtgggnkinalmmlaaTM
set_option linter.unusedVariables false
set_option linter.unusedSimpArgs false
namespace Go.Vc
open Go.Proofs
set_option linter.unusedVariables false
set_option maxRecDepth 10000
set_option linter.unusedSimpArgs false
set_option maxHeartbeats 8000000
theorem loop_up {p : UInt8 → Bool} {s : List UInt8} {j i0 : Nat} (hq : upTo p s j = upTo p s i0) (b : Bool) (h : (decide (j < s.length) && p (s.getD j 0)) = b) (hj : j ≤ s.length) :
    (b = true → j < s.length ∧ upTo p s (j + 1) = upTo p s i0) ∧ (b = false → j = upTo p s i0) := by
  constructor
  · rintro rfl
    rw [Bool.and_eq_true, decide_eq_true_eq] at h
    exact ⟨h.1, (upTo_step p s j h.1 h.2).trans hq⟩
  · rintro rfl
    rw [← hq]
    rcases Nat.lt_or_ge j s.length with hl | hl
    · rw [decide_eq_true hl, Bool.true_and] at h
      rw [upTo_stop p s j hl h]
    · rw [upTo_end p s j hl]
theorem dlt (j : Nat) (s : List UInt8) : decide ((j : Int) < (s.length : Int)) = decide (j < s.length) := by rw [Bool.eq_iff_iff]; simp
instance gSkip (s : List UInt8) (i : Int) : Fn BB 23 [.str s, .int .i64 i] (0 ≤ i ∧ i ≤ s.length ∧ s.length ≤ 100000) (.int .i64 (upTo blB s i.toNat : Nat)) := by
  refine Fn.intro (N := 18) [0, 1, 4, 14] [] Try.call23 Try.func23 rfl rfl (by kernel_rfl) (fun hpre => ?_)
  obtain ⟨p0, p1, p2⟩ := hpre
  obtain ⟨i, rfl⟩ := Int.eq_ofNat_of_zero_le p0
  rw [Int.toNat_natCast]
  repeat' ((conv => whnf); first | (with_reducible rfl) | exact True.intro | (with_reducible exact absTF) | (with_reducible exact absFT) | intro _ | refine And.intro ?_ ?_ | refine Fin.mk ?_ | refine CallG.plain rfl ?_ ?_ | refine CallG.mk rfl ?_ ?_ | refine CallG.nwl rfl ?_ ?_ | refine CallG.nw ?_ ?_ | refine CallF.nwl rfl ?_ ?_ | refine CallF.nw ?_ ?_ | refine AppN.mk ?_ | (refine CallS.q ?_; (conv => whnf); first | refine CallG.plain rfl ?_ ?_ | refine CallG.mk rfl ?_ ?_) | (refine CallS.m ?_; (conv => whnf); refine CallM.mk rfl ?_ ?_) | (refine CallS.h ?_; (conv => whnf); refine CallM.mk rfl ?_ ?_) | (refine CallS.b ?_; (conv => whnf); refine CallM.mk rfl ?_ ?_) | (refine CallS.z ?_; (conv => whnf); refine CallM.mk rfl ?_ ?_))
  all_goals (try (conv => whnf))
  all_goals (try (exact Ob.mk (u8_bnd _)))
  all_goals (try (refine Ob.mk ?_; first | exact True.intro | assumption | omega | (try simp only [decide_eq_true_eq, decide_eq_false_iff_not, beq_iff_eq, beq_eq_false_iff_ne, bne_iff_ne, bne_eq_false_iff_eq, ne_eq, Bool.and_eq_true, Bool.or_eq_true, Bool.not_eq_true, Bool.not_eq_false, Bool.not_eq_true', Bool.not_eq_false', Int.toNat_natCast, Int.not_lt, Int.not_le, UInt8.ofNat_toNat, cast_eq] at *; omega)))
  all_goals (try ((show (_:Int) = _); omega))
  all_goals (try (show tupSV _ = _; with_unfolding_all rfl))
  all_goals (try ((show (_ : Nat) ≤ _); (simp <;> omega)))
  all_goals (try ((show (_ : Nat) ≤ _ ∧ (_ : Nat) ≤ _); (simp <;> omega)))
  all_goals (try ((show (_ : Int) ≤ _ ∧ (_ : Int) ≤ _ ∧ (_ : Int) ≤ _ ∧ (_ : Int) ≤ _); (simp <;> omega)))
  refine LoopStop.mk (α := Nat) (fun j => [(1, .int .i64 j)]) (fun j => []) 20 (fun j => j ≤ s.length ∧ upTo blB s j = upTo blB s i) (fun j => s.length - j) i ⟨by omega, rfl⟩ ?_ (fun j hj => ?_)
  · repeat' ((conv => whnf); first | (with_reducible rfl) | exact True.intro | (with_reducible exact absTF) | (with_reducible exact absFT) | intro _ | refine And.intro ?_ ?_ | refine Fin.mk ?_ | refine CallG.plain rfl ?_ ?_ | refine CallG.mk rfl ?_ ?_ | refine CallG.nwl rfl ?_ ?_ | refine CallG.nw ?_ ?_ | refine CallF.nwl rfl ?_ ?_ | refine CallF.nw ?_ ?_ | refine AppN.mk ?_ | (refine CallS.q ?_; (conv => whnf); first | refine CallG.plain rfl ?_ ?_ | refine CallG.mk rfl ?_ ?_) | (refine CallS.m ?_; (conv => whnf); refine CallM.mk rfl ?_ ?_) | (refine CallS.h ?_; (conv => whnf); refine CallM.mk rfl ?_ ?_) | (refine CallS.b ?_; (conv => whnf); refine CallM.mk rfl ?_ ?_) | (refine CallS.z ?_; (conv => whnf); refine CallM.mk rfl ?_ ?_))
    all_goals (try (conv => whnf))
    all_goals (try (exact Ob.mk (u8_bnd _)))
    all_goals (try (refine Ob.mk ?_; first | exact True.intro | assumption | omega | (try simp only [decide_eq_true_eq, decide_eq_false_iff_not, beq_iff_eq, beq_eq_false_iff_ne, bne_iff_ne, bne_eq_false_iff_eq, ne_eq, Bool.and_eq_true, Bool.or_eq_true, Bool.not_eq_true, Bool.not_eq_false, Bool.not_eq_true', Bool.not_eq_false', Int.toNat_natCast, Int.not_lt, Int.not_le, UInt8.ofNat_toNat, cast_eq] at *; omega)))
    all_goals (try ((show (_:Int) = _); omega))
    all_goals (try (show tupSV _ = _; with_unfolding_all rfl))
    all_goals (try ((show (_ : Nat) ≤ _); (simp <;> omega)))
    all_goals (try ((show (_ : Nat) ≤ _ ∧ (_ : Nat) ≤ _); (simp <;> omega)))
    all_goals (try ((show (_ : Int) ≤ _ ∧ (_ : Int) ≤ _ ∧ (_ : Int) ≤ _ ∧ (_ : Int) ≤ _); (simp <;> omega)))
    all_goals rfl
  · obtain ⟨q1, q2⟩ := hj
    have cc : (decide ((j : Int) < (s.length : Int)) && W.isSp ((s.getD ((j : Int)).toNat 0).toNat : Int)) = (decide (j < s.length) && blB (s.getD j 0)) := by rw [Int.toNat_natCast, dlt]; rfl
    repeat' ((conv => whnf); first | (with_reducible rfl) | exact True.intro | (with_reducible exact absTF) | (with_reducible exact absFT) | intro _ | refine And.intro ?_ ?_ | refine Fin.mk ?_ | refine CallG.plain rfl ?_ ?_ | refine CallG.mk rfl ?_ ?_ | refine CallG.nwl rfl ?_ ?_ | refine CallG.nw ?_ ?_ | refine CallF.nwl rfl ?_ ?_ | refine CallF.nw ?_ ?_ | refine AppN.mk ?_ | (refine CallS.q ?_; (conv => whnf); first | refine CallG.plain rfl ?_ ?_ | refine CallG.mk rfl ?_ ?_) | (refine CallS.m ?_; (conv => whnf); refine CallM.mk rfl ?_ ?_) | (refine CallS.h ?_; (conv => whnf); refine CallM.mk rfl ?_ ?_) | (refine CallS.b ?_; (conv => whnf); refine CallM.mk rfl ?_ ?_) | (refine CallS.z ?_; (conv => whnf); refine CallM.mk rfl ?_ ?_))
    all_goals (try (conv => whnf))
    all_goals (try (exact Ob.mk (u8_bnd _)))
    all_goals (try (refine Ob.mk ?_; first | exact True.intro | assumption | omega | (try simp only [decide_eq_true_eq, decide_eq_false_iff_not, beq_iff_eq, beq_eq_false_iff_ne, bne_iff_ne, bne_eq_false_iff_eq, ne_eq, Bool.and_eq_true, Bool.or_eq_true, Bool.not_eq_true, Bool.not_eq_false, Bool.not_eq_true', Bool.not_eq_false', Int.toNat_natCast, Int.not_lt, Int.not_le, UInt8.ofNat_toNat, cast_eq] at *; omega)))
    all_goals (try ((show (_:Int) = _); omega))
    all_goals (try (show tupSV _ = _; with_unfolding_all rfl))
    all_goals (try ((show (_ : Nat) ≤ _); (simp <;> omega)))
    all_goals (try ((show (_ : Nat) ≤ _ ∧ (_ : Nat) ≤ _); (simp <;> omega)))
    all_goals (try ((show (_ : Int) ≤ _ ∧ (_ : Int) ≤ _ ∧ (_ : Int) ≤ _ ∧ (_ : Int) ≤ _); (simp <;> omega)))
    all_goals (simp only [cc] at *)
    · obtain ⟨h1, h2⟩ := (loop_up q2 true ‹_› q1).1 rfl
      refine Rnd.mk ⟨j + 1, ⟨by omega, h2⟩, by omega, ?_⟩
      repeat' ((conv => whnf); first | (with_reducible rfl) | exact True.intro | (with_reducible exact absTF) | (with_reducible exact absFT) | intro _ | refine And.intro ?_ ?_ | refine Fin.mk ?_ | refine CallG.plain rfl ?_ ?_ | refine CallG.mk rfl ?_ ?_ | refine CallG.nwl rfl ?_ ?_ | refine CallG.nw ?_ ?_ | refine CallF.nwl rfl ?_ ?_ | refine CallF.nw ?_ ?_ | refine AppN.mk ?_ | (refine CallS.q ?_; (conv => whnf); first | refine CallG.plain rfl ?_ ?_ | refine CallG.mk rfl ?_ ?_) | (refine CallS.m ?_; (conv => whnf); refine CallM.mk rfl ?_ ?_) | (refine CallS.h ?_; (conv => whnf); refine CallM.mk rfl ?_ ?_) | (refine CallS.b ?_; (conv => whnf); refine CallM.mk rfl ?_ ?_) | (refine CallS.z ?_; (conv => whnf); refine CallM.mk rfl ?_ ?_))
      all_goals (try (conv => whnf))
      all_goals (try (exact Ob.mk (u8_bnd _)))
      all_goals (try (refine Ob.mk ?_; first | exact True.intro | assumption | omega | (try simp only [decide_eq_true_eq, decide_eq_false_iff_not, beq_iff_eq, beq_eq_false_iff_ne, bne_iff_ne, bne_eq_false_iff_eq, ne_eq, Bool.and_eq_true, Bool.or_eq_true, Bool.not_eq_true, Bool.not_eq_false, Bool.not_eq_true', Bool.not_eq_false', Int.toNat_natCast, Int.not_lt, Int.not_le, UInt8.ofNat_toNat, cast_eq] at *; omega)))
      all_goals (try ((show (_:Int) = _); omega))
      all_goals (try (show tupSV _ = _; with_unfolding_all rfl))
      all_goals (try ((show (_ : Nat) ≤ _); (simp <;> omega)))
      all_goals (try ((show (_ : Nat) ≤ _ ∧ (_ : Nat) ≤ _); (simp <;> omega)))
      all_goals (try ((show (_ : Int) ≤ _ ∧ (_ : Int) ≤ _ ∧ (_ : Int) ≤ _ ∧ (_ : Int) ≤ _); (simp <;> omega)))
      all_goals rfl
    · rw [← (loop_up q2 false ‹_› q1).2 rfl]
def valR (s : List UInt8) (i : Nat) : List UInt8 × Nat × Bool := if s.length ≤ i then ([], i, false) else valS s i
/-- a byte in a text, from a place on -/
theorem ixb_miss (l : List UInt8) (c : UInt8) (h : ∀ j < l.length, l.getD j 0 ≠ c) : Lib.indexByte l c = -1 := by
  induction l with
  | nil => rfl
  | cons b r ih =>
    have h0 := h 0 (by simp)
    have := ih fun j hj => by have := h (j + 1) (by simp; omega); simpa using this
    unfold Lib.indexByte
    rw [if_neg (by simpa using h0), this]; rfl
theorem ixb_hit (l : List UInt8) (c : UInt8) (k : Nat) (hk : k < l.length) (h : ∀ j < k, l.getD j 0 ≠ c) (hc : l.getD k 0 = c) : Lib.indexByte l c = k := by
  induction l generalizing k with
  | nil => simp at hk
  | cons b r ih =>
    cases k with
    | zero => unfold Lib.indexByte; rw [if_pos (by simpa using hc)]; rfl
    | succ k =>
      have h0 := h 0 (by omega)
      have := ih k (by simpa using hk) (fun j hj => by have := h (j + 1) (by omega); simpa using this) (by simpa using hc)
      unfold Lib.indexByte
      rw [if_neg (by simpa using h0), this, if_neg (by simp)]
      simp
instance gValue (s : List UInt8) (i : Int) : Fn BB 37 [.str s, .int .i64 i] (0 ≤ i ∧ i ≤ s.length ∧ s.length ≤ 100000) (.tup [.str (valR s i.toNat).1, .int .i64 ((valR s i.toNat).2.1 : Nat), .bool (valR s i.toNat).2.2]) := by
  refine Fn.intro (N := 72) [0, 1, 4, 5, 6, 7, 8, 12, 23, 29, 38, 64] [(7, [0, 0, 0, 0, 0, 0, 0])] Try.call37 Try.func37 rfl rfl (by kernel_rfl) (fun hpre => ?_)
  obtain ⟨p0, p1, p2⟩ := hpre
  obtain ⟨i, rfl⟩ := Int.eq_ofNat_of_zero_le p0
  have ei : ((i : Int)).toNat = i := Int.toNat_natCast i
  rw [ei]
  have v0 : decide ((i : Int) ≥ (s.length : Int)) = true → valR s i = ([], i, false) := fun h => by
    have h := of_decide_eq_true h; unfold valR; rw [if_pos (by omega)]
  have v1 : decide ((i : Int) ≥ (s.length : Int)) = false → valR s i = valS s i ∧ i < s.length := fun h => by
    have h := of_decide_eq_false h; unfold valR; rw [if_neg (by omega)]; exact ⟨rfl, by omega⟩
  have cq : (((s.getD ((i : Int)).toNat 0).toNat : Int) == 34 || ((s.getD ((i : Int)).toNat 0).toNat : Int) == 39) = qB (s.getD i 0) := by
    rw [ei]; unfold qB
    rw [show (((s.getD i 0).toNat : Int) == 34) = (s.getD i 0 == 34) from b_iff _ 34, show (((s.getD i 0).toNat : Int) == 39) = (s.getD i 0 == 39) from b_iff _ 39]
  repeat' ((conv => whnf); first | (with_reducible rfl) | exact True.intro | (with_reducible exact absTF) | (with_reducible exact absFT) | intro _ | refine And.intro ?_ ?_ | refine Fin.mk ?_ | refine CallG.plain rfl ?_ ?_ | refine CallG.mk rfl ?_ ?_ | refine CallG.nwl rfl ?_ ?_ | refine CallG.nw ?_ ?_ | refine CallF.nwl rfl ?_ ?_ | refine CallF.nw ?_ ?_ | refine AppN.mk ?_ | (refine CallS.q ?_; (conv => whnf); first | refine CallG.plain rfl ?_ ?_ | refine CallG.mk rfl ?_ ?_) | (refine CallS.m ?_; (conv => whnf); refine CallM.mk rfl ?_ ?_) | (refine CallS.h ?_; (conv => whnf); refine CallM.mk rfl ?_ ?_) | (refine CallS.b ?_; (conv => whnf); refine CallM.mk rfl ?_ ?_) | (refine CallS.z ?_; (conv => whnf); refine CallM.mk rfl ?_ ?_))
  all_goals (try (conv => whnf))
  all_goals (try (exact Ob.mk (u8_bnd _)))
  all_goals (try (refine Ob.mk ?_; first | exact True.intro | assumption | omega | (try simp only [decide_eq_true_eq, decide_eq_false_iff_not, beq_iff_eq, beq_eq_false_iff_ne, bne_iff_ne, bne_eq_false_iff_eq, ne_eq, Bool.and_eq_true, Bool.or_eq_true, Bool.not_eq_true, Bool.not_eq_false, Bool.not_eq_true', Bool.not_eq_false', Int.toNat_natCast, Int.not_lt, Int.not_le, UInt8.ofNat_toNat, cast_eq] at *; omega)))
  all_goals (try ((show (_:Int) = _); omega))
  all_goals (try (show tupSV _ = _; with_unfolding_all rfl))
  all_goals (try ((show (_ : Nat) ≤ _); (simp <;> omega)))
  all_goals (try ((show (_ : Nat) ≤ _ ∧ (_ : Nat) ≤ _); (simp <;> omega)))
  all_goals (try ((show (_ : Int) ≤ _ ∧ (_ : Int) ≤ _ ∧ (_ : Int) ≤ _ ∧ (_ : Int) ≤ _); (simp <;> omega)))
  all_goals (try (have hv := v0 ‹_›; first | (rw [hv]; done) | (rw [hv]; rfl)))
  all_goals (have hv := v1 ‹_›; obtain ⟨hv, hl⟩ := hv)
  all_goals (try simp only [cq] at *)
  all_goals (try omega)
  · have hq : qB (s.getD i 0) = true := ‹_›
    have hd : ∀ j, (s.drop (i + 1)).getD j 0 = s.getD (i + 1 + j) 0 := fun j => by simp [List.getD]
    have hld : (s.drop (i + 1)).length = s.length - (i + 1) := List.length_drop
    refine LoopStop.mk (α := Nat) (fun k => [(7, .int .i64 k)]) (fun k => []) 20 (fun k => i + 1 ≤ k ∧ k ≤ s.length ∧ ∀ j < k - (i + 1), (s.drop (i + 1)).getD j 0 ≠ s.getD i 0) (fun k => s.length - k) (i + 1) ⟨by omega, by omega, fun j hj => by omega⟩ ?_ (fun k hk => ?_)
    · repeat' ((conv => whnf); first | (with_reducible rfl) | exact True.intro | (with_reducible exact absTF) | (with_reducible exact absFT) | intro _ | refine And.intro ?_ ?_ | refine Fin.mk ?_ | refine CallG.plain rfl ?_ ?_ | refine CallG.mk rfl ?_ ?_ | refine CallG.nwl rfl ?_ ?_ | refine CallG.nw ?_ ?_ | refine CallF.nwl rfl ?_ ?_ | refine CallF.nw ?_ ?_ | refine AppN.mk ?_ | (refine CallS.q ?_; (conv => whnf); first | refine CallG.plain rfl ?_ ?_ | refine CallG.mk rfl ?_ ?_) | (refine CallS.m ?_; (conv => whnf); refine CallM.mk rfl ?_ ?_) | (refine CallS.h ?_; (conv => whnf); refine CallM.mk rfl ?_ ?_) | (refine CallS.b ?_; (conv => whnf); refine CallM.mk rfl ?_ ?_) | (refine CallS.z ?_; (conv => whnf); refine CallM.mk rfl ?_ ?_))
      all_goals (try (conv => whnf))
      all_goals (try (exact Ob.mk (u8_bnd _)))
      all_goals (try (refine Ob.mk ?_; first | exact True.intro | assumption | omega | (try simp only [decide_eq_true_eq, decide_eq_false_iff_not, beq_iff_eq, beq_eq_false_iff_ne, bne_iff_ne, bne_eq_false_iff_eq, ne_eq, Bool.and_eq_true, Bool.or_eq_true, Bool.not_eq_true, Bool.not_eq_false, Bool.not_eq_true', Bool.not_eq_false', Int.toNat_natCast, Int.not_lt, Int.not_le, UInt8.ofNat_toNat, cast_eq] at *; omega)))
      all_goals (try ((show (_:Int) = _); omega))
      all_goals (try (show tupSV _ = _; with_unfolding_all rfl))
      all_goals (try ((show (_ : Nat) ≤ _); (simp <;> omega)))
      all_goals (try ((show (_ : Nat) ≤ _ ∧ (_ : Nat) ≤ _); (simp <;> omega)))
      all_goals (try ((show (_ : Int) ≤ _ ∧ (_ : Int) ≤ _ ∧ (_ : Int) ≤ _ ∧ (_ : Int) ≤ _); (simp <;> omega)))
      all_goals rfl
    · obtain ⟨k1, k2, k3⟩ := hk
      have cb : (((s.getD k 0).toNat : Int) == ((s.getD i 0).toNat : Int)) = (s.getD k 0 == s.getD i 0) := b_iff _ _
      have ek : (s.drop (i + 1)).getD (k - (i + 1)) 0 = s.getD k 0 := by rw [hd]; congr 1; omega
      have tn : ((i : Int) + 1).toNat = i + 1 := by omega
      repeat' ((conv => whnf); first | (with_reducible rfl) | exact True.intro | (with_reducible exact absTF) | (with_reducible exact absFT) | intro _ | refine And.intro ?_ ?_ | refine Fin.mk ?_ | refine CallG.plain rfl ?_ ?_ | refine CallG.mk rfl ?_ ?_ | refine CallG.nwl rfl ?_ ?_ | refine CallG.nw ?_ ?_ | refine CallF.nwl rfl ?_ ?_ | refine CallF.nw ?_ ?_ | refine AppN.mk ?_ | (refine CallS.q ?_; (conv => whnf); first | refine CallG.plain rfl ?_ ?_ | refine CallG.mk rfl ?_ ?_) | (refine CallS.m ?_; (conv => whnf); refine CallM.mk rfl ?_ ?_) | (refine CallS.h ?_; (conv => whnf); refine CallM.mk rfl ?_ ?_) | (refine CallS.b ?_; (conv => whnf); refine CallM.mk rfl ?_ ?_) | (refine CallS.z ?_; (conv => whnf); refine CallM.mk rfl ?_ ?_))
      all_goals (try (conv => whnf))
      all_goals (try (exact Ob.mk (u8_bnd _)))
      all_goals (try (refine Ob.mk ?_; first | exact True.intro | assumption | omega | (try simp only [decide_eq_true_eq, decide_eq_false_iff_not, beq_iff_eq, beq_eq_false_iff_ne, bne_iff_ne, bne_eq_false_iff_eq, ne_eq, Bool.and_eq_true, Bool.or_eq_true, Bool.not_eq_true, Bool.not_eq_false, Bool.not_eq_true', Bool.not_eq_false', Int.toNat_natCast, Int.not_lt, Int.not_le, UInt8.ofNat_toNat, cast_eq] at *; omega)))
      all_goals (try ((show (_:Int) = _); omega))
      all_goals (try (show tupSV _ = _; with_unfolding_all rfl))
      all_goals (try ((show (_ : Nat) ≤ _); (simp <;> omega)))
      all_goals (try ((show (_ : Nat) ≤ _ ∧ (_ : Nat) ≤ _); (simp <;> omega)))
      all_goals (try ((show (_ : Int) ≤ _ ∧ (_ : Int) ≤ _ ∧ (_ : Int) ≤ _ ∧ (_ : Int) ≤ _); (simp <;> omega)))
      all_goals (try simp only [tn, Int.toNat_natCast] at *)
      all_goals (try simp only [cb] at *)
      all_goals (try (have hl2 : k < s.length := by have h := of_decide_eq_true ‹decide ((k : Int) < (s.length : Int)) = true›; omega))
      all_goals (try (
        have hhit : s.getD k 0 = s.getD i 0 := by have h : (s.getD k 0 == s.getD i 0) = true := ‹_›; simpa using h
        have hx := ixb_hit (s.drop (i + 1)) (s.getD i 0) (k - (i + 1)) (by omega) k3 (ek.trans hhit)
        have hV : valS s i = ((s.take k).drop (i + 1), k + 1, true) := by
          unfold valS; rw [hq, if_pos rfl, hx, if_neg (by omega), Int.toNat_natCast, List.drop_take]
          congr 2; omega
        rw [hv, hV]; done))
      all_goals (try (
        have hhit : s.getD k 0 = s.getD i 0 := by have h : (s.getD k 0 == s.getD i 0) = true := ‹_›; simpa using h
        have hx := ixb_hit (s.drop (i + 1)) (s.getD i 0) (k - (i + 1)) (by omega) k3 (ek.trans hhit)
        have hV : valS s i = ((s.take k).drop (i + 1), k + 1, true) := by
          unfold valS; rw [hq, if_pos rfl, hx, if_neg (by omega), Int.toNat_natCast, List.drop_take]
          congr 2; omega
        rw [hv, hV]; rfl))
      all_goals (try (exact ⟨by omega, by omega, by omega⟩))
      · have hmiss : s.getD k 0 ≠ s.getD i 0 := by have h : (s.getD k 0 == s.getD i 0) = false := ‹_›; simpa using h
        refine Rnd.mk ⟨k + 1, ⟨by omega, by omega, fun j hj => ?_⟩, by omega, ?_⟩
        · rcases (by omega : j < k - (i + 1) ∨ j = k - (i + 1)) with q | q
          · exact k3 j q
          · rw [q, ek]; exact hmiss
        · repeat' ((conv => whnf); first | (with_reducible rfl) | exact True.intro | (with_reducible exact absTF) | (with_reducible exact absFT) | intro _ | refine And.intro ?_ ?_ | refine Fin.mk ?_ | refine CallG.plain rfl ?_ ?_ | refine CallG.mk rfl ?_ ?_ | refine CallG.nwl rfl ?_ ?_ | refine CallG.nw ?_ ?_ | refine CallF.nwl rfl ?_ ?_ | refine CallF.nw ?_ ?_ | refine AppN.mk ?_ | (refine CallS.q ?_; (conv => whnf); first | refine CallG.plain rfl ?_ ?_ | refine CallG.mk rfl ?_ ?_) | (refine CallS.m ?_; (conv => whnf); refine CallM.mk rfl ?_ ?_) | (refine CallS.h ?_; (conv => whnf); refine CallM.mk rfl ?_ ?_) | (refine CallS.b ?_; (conv => whnf); refine CallM.mk rfl ?_ ?_) | (refine CallS.z ?_; (conv => whnf); refine CallM.mk rfl ?_ ?_))
          all_goals (try (conv => whnf))
          all_goals (try (exact Ob.mk (u8_bnd _)))
          all_goals (try (refine Ob.mk ?_; first | exact True.intro | assumption | omega | (try simp only [decide_eq_true_eq, decide_eq_false_iff_not, beq_iff_eq, beq_eq_false_iff_ne, bne_iff_ne, bne_eq_false_iff_eq, ne_eq, Bool.and_eq_true, Bool.or_eq_true, Bool.not_eq_true, Bool.not_eq_false, Bool.not_eq_true', Bool.not_eq_false', Int.toNat_natCast, Int.not_lt, Int.not_le, UInt8.ofNat_toNat, cast_eq] at *; omega)))
          all_goals (try ((show (_:Int) = _); omega))
          all_goals (try (show tupSV _ = _; with_unfolding_all rfl))
          all_goals (try ((show (_ : Nat) ≤ _); (simp <;> omega)))
          all_goals (try ((show (_ : Nat) ≤ _ ∧ (_ : Nat) ≤ _); (simp <;> omega)))
          all_goals (try ((show (_ : Int) ≤ _ ∧ (_ : Int) ≤ _ ∧ (_ : Int) ≤ _ ∧ (_ : Int) ≤ _); (simp <;> omega)))
          all_goals rfl
      all_goals (
        have hl3 : ¬ k < s.length := by have h := of_decide_eq_false ‹decide ((k : Int) < (s.length : Int)) = false›; omega
        have hx := ixb_miss (s.drop (i + 1)) (s.getD i 0) (fun j hj => k3 j (by omega))
        have hV : valS s i = ([], i, false) := by unfold valS; rw [hq, if_pos rfl, hx, if_pos (by omega)])
      all_goals (first | (rw [hv, hV]; done) | (rw [hv, hV]; rfl) | trace_state)
  · have hq : qB (s.getD i 0) = false := ‹_›
    have hV : valS s i = ((s.take (upTo (stP [62]) s i)).drop i, upTo (stP [62]) s i, true) := by unfold valS; rw [hq]; rfl
    have hu := upTo_le (stP [62]) s i (by omega)
    refine LoopStop.mk (α := Nat) (fun j => [(8, .int .i64 j)]) (fun j => []) 40 (fun j => i ≤ j ∧ j ≤ s.length ∧ upTo (stP [62]) s j = upTo (stP [62]) s i) (fun j => s.length - j) i ⟨by omega, by omega, rfl⟩ ?_ (fun j hj => ?_)
    · repeat' ((conv => whnf); first | (with_reducible rfl) | exact True.intro | (with_reducible exact absTF) | (with_reducible exact absFT) | intro _ | refine And.intro ?_ ?_ | refine Fin.mk ?_ | refine CallG.plain rfl ?_ ?_ | refine CallG.mk rfl ?_ ?_ | refine CallG.nwl rfl ?_ ?_ | refine CallG.nw ?_ ?_ | refine CallF.nwl rfl ?_ ?_ | refine CallF.nw ?_ ?_ | refine AppN.mk ?_ | (refine CallS.q ?_; (conv => whnf); first | refine CallG.plain rfl ?_ ?_ | refine CallG.mk rfl ?_ ?_) | (refine CallS.m ?_; (conv => whnf); refine CallM.mk rfl ?_ ?_) | (refine CallS.h ?_; (conv => whnf); refine CallM.mk rfl ?_ ?_) | (refine CallS.b ?_; (conv => whnf); refine CallM.mk rfl ?_ ?_) | (refine CallS.z ?_; (conv => whnf); refine CallM.mk rfl ?_ ?_))
      all_goals (try (conv => whnf))
      all_goals (try (exact Ob.mk (u8_bnd _)))
      all_goals (try (refine Ob.mk ?_; first | exact True.intro | assumption | omega | (try simp only [decide_eq_true_eq, decide_eq_false_iff_not, beq_iff_eq, beq_eq_false_iff_ne, bne_iff_ne, bne_eq_false_iff_eq, ne_eq, Bool.and_eq_true, Bool.or_eq_true, Bool.not_eq_true, Bool.not_eq_false, Bool.not_eq_true', Bool.not_eq_false', Int.toNat_natCast, Int.not_lt, Int.not_le, UInt8.ofNat_toNat, cast_eq] at *; omega)))
      all_goals (try ((show (_:Int) = _); omega))
      all_goals (try (show tupSV _ = _; with_unfolding_all rfl))
      all_goals (try ((show (_ : Nat) ≤ _); (simp <;> omega)))
      all_goals (try ((show (_ : Nat) ≤ _ ∧ (_ : Nat) ≤ _); (simp <;> omega)))
      all_goals (try ((show (_ : Int) ≤ _ ∧ (_ : Int) ≤ _ ∧ (_ : Int) ≤ _ ∧ (_ : Int) ≤ _); (simp <;> omega)))
      all_goals rfl
    · obtain ⟨q0, q1, q2⟩ := hj
      have cc : (decide ((j : Int) < (s.length : Int)) && ((s.getD ((j : Int)).toNat 0).toNat : Int) != 62 && !W.isSp ((s.getD ((j : Int)).toNat 0).toNat : Int)) = (decide (j < s.length) && stP [62] (s.getD j 0)) := by
        rw [Int.toNat_natCast, dlt, Bool.and_assoc]
        congr 1
        rw [bne, show (((s.getD j 0).toNat : Int) == 62) = (s.getD j 0 == 62) from b_iff _ 62]
        have hc : ([62] : List UInt8).contains (s.getD j 0) = (s.getD j 0 == 62) := by rw [List.contains_cons]; simp
        unfold stP blB
        rw [hc, Bool.and_comm]
      repeat' ((conv => whnf); first | (with_reducible rfl) | exact True.intro | (with_reducible exact absTF) | (with_reducible exact absFT) | intro _ | refine And.intro ?_ ?_ | refine Fin.mk ?_ | refine CallG.plain rfl ?_ ?_ | refine CallG.mk rfl ?_ ?_ | refine CallG.nwl rfl ?_ ?_ | refine CallG.nw ?_ ?_ | refine CallF.nwl rfl ?_ ?_ | refine CallF.nw ?_ ?_ | refine AppN.mk ?_ | (refine CallS.q ?_; (conv => whnf); first | refine CallG.plain rfl ?_ ?_ | refine CallG.mk rfl ?_ ?_) | (refine CallS.m ?_; (conv => whnf); refine CallM.mk rfl ?_ ?_) | (refine CallS.h ?_; (conv => whnf); refine CallM.mk rfl ?_ ?_) | (refine CallS.b ?_; (conv => whnf); refine CallM.mk rfl ?_ ?_) | (refine CallS.z ?_; (conv => whnf); refine CallM.mk rfl ?_ ?_))
      all_goals (try (conv => whnf))
      all_goals (try (exact Ob.mk (u8_bnd _)))
      all_goals (try (refine Ob.mk ?_; first | exact True.intro | assumption | omega | (try simp only [decide_eq_true_eq, decide_eq_false_iff_not, beq_iff_eq, beq_eq_false_iff_ne, bne_iff_ne, bne_eq_false_iff_eq, ne_eq, Bool.and_eq_true, Bool.or_eq_true, Bool.not_eq_true, Bool.not_eq_false, Bool.not_eq_true', Bool.not_eq_false', Int.toNat_natCast, Int.not_lt, Int.not_le, UInt8.ofNat_toNat, cast_eq] at *; omega)))
      all_goals (try ((show (_:Int) = _); omega))
      all_goals (try (show tupSV _ = _; with_unfolding_all rfl))
      all_goals (try ((show (_ : Nat) ≤ _); (simp <;> omega)))
      all_goals (try ((show (_ : Nat) ≤ _ ∧ (_ : Nat) ≤ _); (simp <;> omega)))
      all_goals (try ((show (_ : Int) ≤ _ ∧ (_ : Int) ≤ _ ∧ (_ : Int) ≤ _ ∧ (_ : Int) ≤ _); (simp <;> omega)))
      all_goals (try simp only [cc] at *)
      · obtain ⟨h1, h2⟩ := (loop_up q2 true ‹_› q1).1 rfl
        refine Rnd.mk ⟨j + 1, ⟨by omega, by omega, h2⟩, by omega, ?_⟩
        repeat' ((conv => whnf); first | (with_reducible rfl) | exact True.intro | (with_reducible exact absTF) | (with_reducible exact absFT) | intro _ | refine And.intro ?_ ?_ | refine Fin.mk ?_ | refine CallG.plain rfl ?_ ?_ | refine CallG.mk rfl ?_ ?_ | refine CallG.nwl rfl ?_ ?_ | refine CallG.nw ?_ ?_ | refine CallF.nwl rfl ?_ ?_ | refine CallF.nw ?_ ?_ | refine AppN.mk ?_ | (refine CallS.q ?_; (conv => whnf); first | refine CallG.plain rfl ?_ ?_ | refine CallG.mk rfl ?_ ?_) | (refine CallS.m ?_; (conv => whnf); refine CallM.mk rfl ?_ ?_) | (refine CallS.h ?_; (conv => whnf); refine CallM.mk rfl ?_ ?_) | (refine CallS.b ?_; (conv => whnf); refine CallM.mk rfl ?_ ?_) | (refine CallS.z ?_; (conv => whnf); refine CallM.mk rfl ?_ ?_))
        all_goals (try (conv => whnf))
        all_goals (try (exact Ob.mk (u8_bnd _)))
        all_goals (try (refine Ob.mk ?_; first | exact True.intro | assumption | omega | (try simp only [decide_eq_true_eq, decide_eq_false_iff_not, beq_iff_eq, beq_eq_false_iff_ne, bne_iff_ne, bne_eq_false_iff_eq, ne_eq, Bool.and_eq_true, Bool.or_eq_true, Bool.not_eq_true, Bool.not_eq_false, Bool.not_eq_true', Bool.not_eq_false', Int.toNat_natCast, Int.not_lt, Int.not_le, UInt8.ofNat_toNat, cast_eq] at *; omega)))
        all_goals (try ((show (_:Int) = _); omega))
        all_goals (try (show tupSV _ = _; with_unfolding_all rfl))
        all_goals (try ((show (_ : Nat) ≤ _); (simp <;> omega)))
        all_goals (try ((show (_ : Nat) ≤ _ ∧ (_ : Nat) ≤ _); (simp <;> omega)))
        all_goals (try ((show (_ : Int) ≤ _ ∧ (_ : Int) ≤ _ ∧ (_ : Int) ≤ _ ∧ (_ : Int) ≤ _); (simp <;> omega)))
        all_goals rfl
      all_goals (have hj := (loop_up q2 false ‹_› q1).2 rfl)
      all_goals (try simp only [Int.toNat_natCast] at *)
      all_goals (first | omega | (rw [hv, hV, ← hj]; done) | exact ⟨by omega, by omega, by omega⟩ | (rw [hv, hV]; done) | trace_state)
end Go.Vc

namespace Go.Vc
open Go.Proofs
set_option linter.unusedVariables false
set_option maxRecDepth 10000
set_option linter.unusedSimpArgs false
set_option maxHeartbeats 8000000
def nmA (s : List UInt8) (i : Nat) : List UInt8 := lowL ((s.take (upTo (stP [47, 62, 61]) s (i + 1))).drop i)
def jA (s : List UInt8) (i : Nat) : Nat := upTo blB s (upTo (stP [47, 62, 61]) s (i + 1))
def attrR (s : List UInt8) (i : Nat) : List UInt8 × List UInt8 × Nat × Bool :=
  if (decide ((jA s i : Int) ≥ (s.length : Int)) || ((s.getD (jA s i) 0).toNat : Int) != 61) = true then (nmA s i, [], jA s i, true)
  else (nmA s i, decF (valR s (upTo blB s (jA s i + 1))).1 true, (valR s (upTo blB s (jA s i + 1))).2.1, (valR s (upTo blB s (jA s i + 1))).2.2)
theorem st3_eq (c : UInt8) : (((c.toNat : Int) != 47 && (c.toNat : Int) != 62) && (c.toNat : Int) != 61 && !W.isSp (c.toNat : Int)) = stP [47, 62, 61] c := by
  rw [bne, bne, bne, show ((c.toNat : Int) == 47) = (c == 47) from b_iff _ 47, show ((c.toNat : Int) == 62) = (c == 62) from b_iff _ 62, show ((c.toNat : Int) == 61) = (c == 61) from b_iff _ 61]
  unfold stP blB
  have hc : ([47, 62, 61] : List UInt8).contains c = (c == 47 || (c == 62 || c == 61)) := by rw [List.contains_cons, List.contains_cons, List.contains_cons]; simp only [List.contains_nil, Bool.or_false]
  rw [hc]
  cases c == 47 <;> cases c == 62 <;> cases c == 61 <;> cases W.isSp (c.toNat : Int) <;> rfl
theorem valR_le (s : List UInt8) (i : Nat) (h : i ≤ s.length) : (valR s i).1.length ≤ s.length ∧ (valR s i).2.1 ≤ s.length := by
  unfold valR
  split
  · simp; omega
  · have := valS_le s i (by omega); omega
instance gAttr (s : List UInt8) (i : Int) : Fn BB 24 [.str s, .int .i64 i] (0 ≤ i ∧ i < s.length ∧ s.length ≤ 100000) (.tup [.agg [.str (attrR s i.toNat).1, .str (attrR s i.toNat).2.1], .int .i64 ((attrR s i.toNat).2.2.1 : Nat), .bool (attrR s i.toNat).2.2.2]) := by
  refine Fn.intro (N := 82) [0, 1, 4, 5, 6, 7, 8, 9, 10, 11, 42, 63] [] Try.call24 Try.func24 rfl rfl (by kernel_rfl) (fun hpre => ?_)
  obtain ⟨p0, p1, p2⟩ := hpre
  obtain ⟨i, rfl⟩ := Int.eq_ofNat_of_zero_le p0
  have ei : ((i : Int)).toNat = i := Int.toNat_natCast i
  rw [ei]
  have hJ := upTo_le (stP [47, 62, 61]) s (i + 1) (by omega)
  have hJ2 : upTo (stP [47, 62, 61]) s (i + 1) ≤ jA s i ∧ jA s i ≤ s.length := upTo_le blB s _ hJ.2
  have a1 : (decide ((jA s i : Int) ≥ (s.length : Int)) || ((s.getD (jA s i) 0).toNat : Int) != 61) = true → attrR s i = (nmA s i, [], jA s i, true) := fun h => by unfold attrR; rw [if_pos h]
  have a2 : (decide ((jA s i : Int) ≥ (s.length : Int)) || ((s.getD (jA s i) 0).toNat : Int) != 61) = false → attrR s i = (nmA s i, decF (valR s (upTo blB s (jA s i + 1))).1 true, (valR s (upTo blB s (jA s i + 1))).2.1, (valR s (upTo blB s (jA s i + 1))).2.2) ∧ jA s i < s.length := fun h => by
    refine ⟨by unfold attrR; rw [if_neg (by rw [h]; decide)], ?_⟩
    rw [Bool.or_eq_false_iff] at h
    have := of_decide_eq_false h.1; omega
  repeat' ((conv => whnf); first | (with_reducible rfl) | exact True.intro | (with_reducible exact absTF) | (with_reducible exact absFT) | intro _ | refine And.intro ?_ ?_ | refine Fin.mk ?_ | refine CallG.plain rfl ?_ ?_ | refine CallG.mk rfl ?_ ?_ | refine CallG.nwl rfl ?_ ?_ | refine CallG.nw ?_ ?_ | refine CallF.nwl rfl ?_ ?_ | refine CallF.nw ?_ ?_ | refine AppN.mk ?_ | (refine CallS.q ?_; (conv => whnf); first | refine CallG.plain rfl ?_ ?_ | refine CallG.mk rfl ?_ ?_) | (refine CallS.m ?_; (conv => whnf); refine CallM.mk rfl ?_ ?_) | (refine CallS.h ?_; (conv => whnf); refine CallM.mk rfl ?_ ?_) | (refine CallS.b ?_; (conv => whnf); refine CallM.mk rfl ?_ ?_) | (refine CallS.z ?_; (conv => whnf); refine CallM.mk rfl ?_ ?_))
  all_goals (try (conv => whnf))
  all_goals (try (exact Ob.mk (u8_bnd _)))
  all_goals (try (refine Ob.mk ?_; first | exact True.intro | assumption | omega | (try simp only [decide_eq_true_eq, decide_eq_false_iff_not, beq_iff_eq, beq_eq_false_iff_ne, bne_iff_ne, bne_eq_false_iff_eq, ne_eq, Bool.and_eq_true, Bool.or_eq_true, Bool.not_eq_true, Bool.not_eq_false, Bool.not_eq_true', Bool.not_eq_false', Int.toNat_natCast, Int.not_lt, Int.not_le, UInt8.ofNat_toNat, cast_eq] at *; omega)))
  all_goals (try ((show (_:Int) = _); omega))
  all_goals (try (show tupSV _ = _; with_unfolding_all rfl))
  all_goals (try ((show (_ : Nat) ≤ _); (simp <;> omega)))
  all_goals (try ((show (_ : Nat) ≤ _ ∧ (_ : Nat) ≤ _); (simp <;> omega)))
  all_goals (try ((show (_ : Int) ≤ _ ∧ (_ : Int) ≤ _ ∧ (_ : Int) ≤ _ ∧ (_ : Int) ≤ _); (simp <;> omega)))
  refine LoopStop.mk (α := Nat) (fun j => [(7, .int .i64 j)]) (fun j => []) 40 (fun j => i + 1 ≤ j ∧ j ≤ s.length ∧ upTo (stP [47, 62, 61]) s j = upTo (stP [47, 62, 61]) s (i + 1)) (fun j => s.length - j) (i + 1) ⟨by omega, by omega, rfl⟩ ?_ (fun j hj => ?_)
  · repeat' ((conv => whnf); first | (with_reducible rfl) | exact True.intro | (with_reducible exact absTF) | (with_reducible exact absFT) | intro _ | refine And.intro ?_ ?_ | refine Fin.mk ?_ | refine CallG.plain rfl ?_ ?_ | refine CallG.mk rfl ?_ ?_ | refine CallG.nwl rfl ?_ ?_ | refine CallG.nw ?_ ?_ | refine CallF.nwl rfl ?_ ?_ | refine CallF.nw ?_ ?_ | refine AppN.mk ?_ | (refine CallS.q ?_; (conv => whnf); first | refine CallG.plain rfl ?_ ?_ | refine CallG.mk rfl ?_ ?_) | (refine CallS.m ?_; (conv => whnf); refine CallM.mk rfl ?_ ?_) | (refine CallS.h ?_; (conv => whnf); refine CallM.mk rfl ?_ ?_) | (refine CallS.b ?_; (conv => whnf); refine CallM.mk rfl ?_ ?_) | (refine CallS.z ?_; (conv => whnf); refine CallM.mk rfl ?_ ?_))
    all_goals (try (conv => whnf))
    all_goals (try (exact Ob.mk (u8_bnd _)))
    all_goals (try (refine Ob.mk ?_; first | exact True.intro | assumption | omega | (try simp only [decide_eq_true_eq, decide_eq_false_iff_not, beq_iff_eq, beq_eq_false_iff_ne, bne_iff_ne, bne_eq_false_iff_eq, ne_eq, Bool.and_eq_true, Bool.or_eq_true, Bool.not_eq_true, Bool.not_eq_false, Bool.not_eq_true', Bool.not_eq_false', Int.toNat_natCast, Int.not_lt, Int.not_le, UInt8.ofNat_toNat, cast_eq] at *; omega)))
    all_goals (try ((show (_:Int) = _); omega))
    all_goals (try (show tupSV _ = _; with_unfolding_all rfl))
    all_goals (try ((show (_ : Nat) ≤ _); (simp <;> omega)))
    all_goals (try ((show (_ : Nat) ≤ _ ∧ (_ : Nat) ≤ _); (simp <;> omega)))
    all_goals (try ((show (_ : Int) ≤ _ ∧ (_ : Int) ≤ _ ∧ (_ : Int) ≤ _ ∧ (_ : Int) ≤ _); (simp <;> omega)))
    all_goals rfl
  · obtain ⟨q0, q1, q2⟩ := hj
    have cc : ((decide ((j : Int) < (s.length : Int)) && ((s.getD ((j : Int)).toNat 0).toNat : Int) != 47 && ((s.getD ((j : Int)).toNat 0).toNat : Int) != 62) && ((s.getD ((j : Int)).toNat 0).toNat : Int) != 61 && !W.isSp ((s.getD ((j : Int)).toNat 0).toNat : Int)) = (decide (j < s.length) && stP [47, 62, 61] (s.getD j 0)) := by
      rw [Int.toNat_natCast, dlt, ← st3_eq]
      cases decide (j < s.length) <;> simp
    have tn : ∀ n : Nat, ((n : Int) + 1).toNat = n + 1 := fun n => by omega
    repeat' ((conv => whnf); first | (with_reducible rfl) | exact True.intro | (with_reducible exact absTF) | (with_reducible exact absFT) | intro _ | refine And.intro ?_ ?_ | refine Fin.mk ?_ | refine CallG.plain rfl ?_ ?_ | refine CallG.mk rfl ?_ ?_ | refine CallG.nwl rfl ?_ ?_ | refine CallG.nw ?_ ?_ | refine CallF.nwl rfl ?_ ?_ | refine CallF.nw ?_ ?_ | refine AppN.mk ?_ | (refine CallS.q ?_; (conv => whnf); first | refine CallG.plain rfl ?_ ?_ | refine CallG.mk rfl ?_ ?_) | (refine CallS.m ?_; (conv => whnf); refine CallM.mk rfl ?_ ?_) | (refine CallS.h ?_; (conv => whnf); refine CallM.mk rfl ?_ ?_) | (refine CallS.b ?_; (conv => whnf); refine CallM.mk rfl ?_ ?_) | (refine CallS.z ?_; (conv => whnf); refine CallM.mk rfl ?_ ?_))
    all_goals (try (conv => whnf))
    all_goals (try (exact Ob.mk (u8_bnd _)))
    all_goals (try (refine Ob.mk ?_; first | exact True.intro | assumption | omega | (try simp only [decide_eq_true_eq, decide_eq_false_iff_not, beq_iff_eq, beq_eq_false_iff_ne, bne_iff_ne, bne_eq_false_iff_eq, ne_eq, Bool.and_eq_true, Bool.or_eq_true, Bool.not_eq_true, Bool.not_eq_false, Bool.not_eq_true', Bool.not_eq_false', Int.toNat_natCast, Int.not_lt, Int.not_le, UInt8.ofNat_toNat, cast_eq] at *; omega)))
    all_goals (try ((show (_:Int) = _); omega))
    all_goals (try (show tupSV _ = _; with_unfolding_all rfl))
    all_goals (try ((show (_ : Nat) ≤ _); (simp <;> omega)))
    all_goals (try ((show (_ : Nat) ≤ _ ∧ (_ : Nat) ≤ _); (simp <;> omega)))
    all_goals (try ((show (_ : Int) ≤ _ ∧ (_ : Int) ≤ _ ∧ (_ : Int) ≤ _ ∧ (_ : Int) ≤ _); (simp <;> omega)))
    all_goals (try simp only [cc] at *)
    all_goals (try simp only [Int.toNat_natCast, tn] at *)
    · obtain ⟨h1, h2⟩ := (loop_up q2 true ‹_› q1).1 rfl
      refine Rnd.mk ⟨j + 1, ⟨by omega, by omega, h2⟩, by omega, ?_⟩
      repeat' ((conv => whnf); first | (with_reducible rfl) | exact True.intro | (with_reducible exact absTF) | (with_reducible exact absFT) | intro _ | refine And.intro ?_ ?_ | refine Fin.mk ?_ | refine CallG.plain rfl ?_ ?_ | refine CallG.mk rfl ?_ ?_ | refine CallG.nwl rfl ?_ ?_ | refine CallG.nw ?_ ?_ | refine CallF.nwl rfl ?_ ?_ | refine CallF.nw ?_ ?_ | refine AppN.mk ?_ | (refine CallS.q ?_; (conv => whnf); first | refine CallG.plain rfl ?_ ?_ | refine CallG.mk rfl ?_ ?_) | (refine CallS.m ?_; (conv => whnf); refine CallM.mk rfl ?_ ?_) | (refine CallS.h ?_; (conv => whnf); refine CallM.mk rfl ?_ ?_) | (refine CallS.b ?_; (conv => whnf); refine CallM.mk rfl ?_ ?_) | (refine CallS.z ?_; (conv => whnf); refine CallM.mk rfl ?_ ?_))
      all_goals (try (conv => whnf))
      all_goals (try (exact Ob.mk (u8_bnd _)))
      all_goals (try (refine Ob.mk ?_; first | exact True.intro | assumption | omega | (try simp only [decide_eq_true_eq, decide_eq_false_iff_not, beq_iff_eq, beq_eq_false_iff_ne, bne_iff_ne, bne_eq_false_iff_eq, ne_eq, Bool.and_eq_true, Bool.or_eq_true, Bool.not_eq_true, Bool.not_eq_false, Bool.not_eq_true', Bool.not_eq_false', Int.toNat_natCast, Int.not_lt, Int.not_le, UInt8.ofNat_toNat, cast_eq] at *; omega)))
      all_goals (try ((show (_:Int) = _); omega))
      all_goals (try (show tupSV _ = _; with_unfolding_all rfl))
      all_goals (try ((show (_ : Nat) ≤ _); (simp <;> omega)))
      all_goals (try ((show (_ : Nat) ≤ _ ∧ (_ : Nat) ≤ _); (simp <;> omega)))
      all_goals (try ((show (_ : Int) ≤ _ ∧ (_ : Int) ≤ _ ∧ (_ : Int) ≤ _ ∧ (_ : Int) ≤ _); (simp <;> omega)))
      all_goals rfl
    all_goals (have hj := (loop_up q2 false ‹_› q1).2 rfl)
    all_goals (subst hj)
    all_goals (try (have q := a1 ‹_›; first | (rw [q]; done) | (rw [q]; rfl)))
    all_goals (try (have q := (a2 ‹_›).1; have hl := (a2 ‹_›).2; have hK : jA s i + 1 ≤ upTo blB s (jA s i + 1) ∧ upTo blB s (jA s i + 1) ≤ s.length := upTo_le blB s (jA s i + 1) (by omega); have hV := valR_le s (upTo blB s (jA s i + 1)) hK.2))
    all_goals (first | (rw [q]; done) | (rw [q]; rfl) | (change InI64 ((jA s i : Int) + 1); constructor <;> omega) | (change 0 ≤ (jA s i : Int) + 1 ∧ (jA s i : Int) + 1 ≤ s.length ∧ s.length ≤ 100000; exact ⟨by omega, by omega, by omega⟩) | (change 0 ≤ (upTo blB s (jA s i + 1) : Int) ∧ (upTo blB s (jA s i + 1) : Int) ≤ s.length ∧ s.length ≤ 100000; exact ⟨by omega, by omega, by omega⟩) | (change (valR s (upTo blB s (jA s i + 1))).1.length ≤ 100000; omega) | omega | exact ⟨by omega, by omega, by omega⟩ | trace_state)
end Go.Vc

namespace Go.Vc
open Go.Proofs
set_option linter.unusedVariables false
set_option maxRecDepth 10000
set_option linter.unusedSimpArgs false
set_option maxHeartbeats 8000000
def getV (l : List AttrD) (nm : List UInt8) : List UInt8 := match l.find? (hitN nm) with | some a => a.2 | none => []
theorem getV_at {l : List AttrD} {nm : List UInt8} {k : Nat} (hk : k < l.length) (ha : (l.take k).all (fun x => !hitN nm x) = true) (h : hitN nm (l.getD k attrTy.dflt) = true) : getV l nm = (l.getD k attrTy.dflt).2 ∧ l.any (hitN nm) = true := by
  induction l generalizing k with
  | nil => simp at hk
  | cons x r ih =>
    cases k with
    | zero =>
      have h' : hitN nm x = true := h
      unfold getV
      rw [List.find?_cons, h', List.any_cons, h']
      exact ⟨rfl, rfl⟩
    | succ k =>
      rw [List.take_succ_cons, List.all_cons, Bool.and_eq_true, Bool.not_eq_true'] at ha
      have := ih (by simpa using hk) ha.2 h
      unfold getV at *
      rw [List.find?_cons, ha.1, List.any_cons, ha.1, Bool.false_or]
      exact this
theorem getV_none {l : List AttrD} {nm : List UInt8} (ha : l.all (fun x => !hitN nm x) = true) : getV l nm = [] ∧ l.any (hitN nm) = false := by
  induction l with
  | nil => exact ⟨rfl, rfl⟩
  | cons x r ih =>
    rw [List.all_cons, Bool.and_eq_true, Bool.not_eq_true'] at ha
    have := ih ha.2
    unfold getV at *
    rw [List.find?_cons, ha.1, List.any_cons, ha.1, Bool.false_or]
    exact this
instance gGet (l : List AttrD) (nm : List UInt8) : FnM BB 39 [.own 0, .str nm] [(0, .ro attrTy l)] (l.length ≤ 100000) (.tup [.str (getV l nm), .bool (l.any (hitN nm))]) [(0, .ro attrTy l)] := by
  refine FnM.intro (N := 25) [0, 1, 4, 5, 6, 10, 19] [] 1 Try.call39 Try.func39 rfl rfl (by kernel_rfl) (fun hpre => ?_)
  repeat' ((conv => whnf); first | (with_reducible rfl) | exact True.intro | (with_reducible exact absTF) | (with_reducible exact absFT) | intro _ | refine And.intro ?_ ?_ | refine Fin.mk ?_ | refine CallG.plain rfl ?_ ?_ | refine CallG.mk rfl ?_ ?_ | refine CallG.nwl rfl ?_ ?_ | refine CallG.nw ?_ ?_ | refine CallF.nwl rfl ?_ ?_ | refine CallF.nw ?_ ?_ | refine AppN.mk ?_ | (refine CallS.q ?_; (conv => whnf); first | refine CallG.plain rfl ?_ ?_ | refine CallG.mk rfl ?_ ?_) | (refine CallS.m ?_; (conv => whnf); refine CallM.mk rfl ?_ ?_) | (refine CallS.h ?_; (conv => whnf); refine CallM.mk rfl ?_ ?_) | (refine CallS.b ?_; (conv => whnf); refine CallM.mk rfl ?_ ?_) | (refine CallS.z ?_; (conv => whnf); refine CallM.mk rfl ?_ ?_))
  all_goals (try (conv => whnf))
  all_goals (try (exact Ob.mk (u8_bnd _)))
  all_goals (try (refine Ob.mk ?_; first | exact True.intro | assumption | omega | (try simp only [decide_eq_true_eq, decide_eq_false_iff_not, beq_iff_eq, beq_eq_false_iff_ne, bne_iff_ne, bne_eq_false_iff_eq, ne_eq, Bool.and_eq_true, Bool.or_eq_true, Bool.not_eq_true, Bool.not_eq_false, Bool.not_eq_true', Bool.not_eq_false', Int.toNat_natCast, Int.not_lt, Int.not_le, UInt8.ofNat_toNat, cast_eq] at *; omega)))
  all_goals (try ((show (_:Int) = _); omega))
  all_goals (try (show tupSV _ = _; with_unfolding_all rfl))
  all_goals (try ((show (_ : Nat) ≤ _); (simp <;> omega)))
  all_goals (try ((show (_ : Nat) ≤ _ ∧ (_ : Nat) ≤ _); (simp <;> omega)))
  all_goals (try ((show (_ : Int) ≤ _ ∧ (_ : Int) ≤ _ ∧ (_ : Int) ≤ _ ∧ (_ : Int) ≤ _); (simp <;> omega)))
  refine LoopStop.mk (α := Nat) (fun k => [(6, .int .i64 k)]) (fun _ => []) 20 (fun k => k ≤ l.length ∧ (l.take k).all (fun x => !hitN nm x) = true) (fun k => l.length - k) 0 (by simp) ?_ (fun k hk => ?_)
  · repeat' ((conv => whnf); first | (with_reducible rfl) | exact True.intro | (with_reducible exact absTF) | (with_reducible exact absFT) | intro _ | refine And.intro ?_ ?_ | refine Fin.mk ?_ | refine CallG.plain rfl ?_ ?_ | refine CallG.mk rfl ?_ ?_ | refine CallG.nwl rfl ?_ ?_ | refine CallG.nw ?_ ?_ | refine CallF.nwl rfl ?_ ?_ | refine CallF.nw ?_ ?_ | refine AppN.mk ?_ | (refine CallS.q ?_; (conv => whnf); first | refine CallG.plain rfl ?_ ?_ | refine CallG.mk rfl ?_ ?_) | (refine CallS.m ?_; (conv => whnf); refine CallM.mk rfl ?_ ?_) | (refine CallS.h ?_; (conv => whnf); refine CallM.mk rfl ?_ ?_) | (refine CallS.b ?_; (conv => whnf); refine CallM.mk rfl ?_ ?_) | (refine CallS.z ?_; (conv => whnf); refine CallM.mk rfl ?_ ?_))
    all_goals (try (conv => whnf))
    all_goals (try (exact Ob.mk (u8_bnd _)))
    all_goals (try (refine Ob.mk ?_; first | exact True.intro | assumption | omega | (try simp only [decide_eq_true_eq, decide_eq_false_iff_not, beq_iff_eq, beq_eq_false_iff_ne, bne_iff_ne, bne_eq_false_iff_eq, ne_eq, Bool.and_eq_true, Bool.or_eq_true, Bool.not_eq_true, Bool.not_eq_false, Bool.not_eq_true', Bool.not_eq_false', Int.toNat_natCast, Int.not_lt, Int.not_le, UInt8.ofNat_toNat, cast_eq] at *; omega)))
    all_goals (try ((show (_:Int) = _); omega))
    all_goals (try (show tupSV _ = _; with_unfolding_all rfl))
    all_goals (try ((show (_ : Nat) ≤ _); (simp <;> omega)))
    all_goals (try ((show (_ : Nat) ≤ _ ∧ (_ : Nat) ≤ _); (simp <;> omega)))
    all_goals (try ((show (_ : Int) ≤ _ ∧ (_ : Int) ≤ _ ∧ (_ : Int) ≤ _ ∧ (_ : Int) ≤ _); (simp <;> omega)))
    all_goals (try rfl)
  · obtain ⟨hk, ha⟩ := hk
    repeat' ((conv => whnf); first | (with_reducible rfl) | exact True.intro | (with_reducible exact absTF) | (with_reducible exact absFT) | intro _ | refine And.intro ?_ ?_ | refine Fin.mk ?_ | refine CallG.plain rfl ?_ ?_ | refine CallG.mk rfl ?_ ?_ | refine CallG.nwl rfl ?_ ?_ | refine CallG.nw ?_ ?_ | refine CallF.nwl rfl ?_ ?_ | refine CallF.nw ?_ ?_ | refine AppN.mk ?_ | (refine CallS.q ?_; (conv => whnf); first | refine CallG.plain rfl ?_ ?_ | refine CallG.mk rfl ?_ ?_) | (refine CallS.m ?_; (conv => whnf); refine CallM.mk rfl ?_ ?_) | (refine CallS.h ?_; (conv => whnf); refine CallM.mk rfl ?_ ?_) | (refine CallS.b ?_; (conv => whnf); refine CallM.mk rfl ?_ ?_) | (refine CallS.z ?_; (conv => whnf); refine CallM.mk rfl ?_ ?_))
    all_goals (try (conv => whnf))
    all_goals (try (exact Ob.mk (u8_bnd _)))
    all_goals (try (refine Ob.mk ?_; first | exact True.intro | assumption | omega | (try simp only [decide_eq_true_eq, decide_eq_false_iff_not, beq_iff_eq, beq_eq_false_iff_ne, bne_iff_ne, bne_eq_false_iff_eq, ne_eq, Bool.and_eq_true, Bool.or_eq_true, Bool.not_eq_true, Bool.not_eq_false, Bool.not_eq_true', Bool.not_eq_false', Int.toNat_natCast, Int.not_lt, Int.not_le, UInt8.ofNat_toNat, cast_eq] at *; omega)))
    all_goals (try ((show (_:Int) = _); omega))
    all_goals (try (show tupSV _ = _; with_unfolding_all rfl))
    all_goals (try ((show (_ : Nat) ≤ _); (simp <;> omega)))
    all_goals (try ((show (_ : Nat) ≤ _ ∧ (_ : Nat) ≤ _); (simp <;> omega)))
    all_goals (try ((show (_ : Int) ≤ _ ∧ (_ : Int) ≤ _ ∧ (_ : Int) ≤ _ ∧ (_ : Int) ≤ _); (simp <;> omega)))
    all_goals (try simp only [Int.toNat_natCast] at *)
    all_goals (try (have hp : k < l.length := by have h := of_decide_eq_true ‹decide ((k : Int) < (l.length : Int)) = true›; omega))
    all_goals (try (have hh := getV_at (nm := nm) hp ha (show ((l.getD k attrTy.dflt).1 == nm) = true from ‹_›)))
    all_goals (try (have hz : k = l.length := by have h := of_decide_eq_false ‹decide ((k : Int) < (l.length : Int)) = false›; omega))
    all_goals (first | omega | (rw [hh.1]; done) | (rw [hh.2]; done) | (subst hz; rw [List.take_length] at ha; rw [(getV_none ha).1]; done) | (subst hz; rw [List.take_length] at ha; rw [(getV_none ha).2]; done) | skip)
    have h : ((l.getD k attrTy.dflt).1 == nm) = false := ‹_›
    refine Rnd.mk ⟨k + 1, ⟨by omega, ?_⟩, by omega, ?_⟩
    · rw [take_all (fun x => !hitN nm x) l k attrTy.dflt hp, ha]
      show (true && !((l.getD k attrTy.dflt).1 == nm)) = true
      rw [h]; rfl
    · repeat' ((conv => whnf); first | (with_reducible rfl) | exact True.intro | (with_reducible exact absTF) | (with_reducible exact absFT) | intro _ | refine And.intro ?_ ?_ | refine Fin.mk ?_ | refine CallG.plain rfl ?_ ?_ | refine CallG.mk rfl ?_ ?_ | refine CallG.nwl rfl ?_ ?_ | refine CallG.nw ?_ ?_ | refine CallF.nwl rfl ?_ ?_ | refine CallF.nw ?_ ?_ | refine AppN.mk ?_ | (refine CallS.q ?_; (conv => whnf); first | refine CallG.plain rfl ?_ ?_ | refine CallG.mk rfl ?_ ?_) | (refine CallS.m ?_; (conv => whnf); refine CallM.mk rfl ?_ ?_) | (refine CallS.h ?_; (conv => whnf); refine CallM.mk rfl ?_ ?_) | (refine CallS.b ?_; (conv => whnf); refine CallM.mk rfl ?_ ?_) | (refine CallS.z ?_; (conv => whnf); refine CallM.mk rfl ?_ ?_))
      all_goals (try (conv => whnf))
      all_goals (try (exact Ob.mk (u8_bnd _)))
      all_goals (try (refine Ob.mk ?_; first | exact True.intro | assumption | omega | (try simp only [decide_eq_true_eq, decide_eq_false_iff_not, beq_iff_eq, beq_eq_false_iff_ne, bne_iff_ne, bne_eq_false_iff_eq, ne_eq, Bool.and_eq_true, Bool.or_eq_true, Bool.not_eq_true, Bool.not_eq_false, Bool.not_eq_true', Bool.not_eq_false', Int.toNat_natCast, Int.not_lt, Int.not_le, UInt8.ofNat_toNat, cast_eq] at *; omega)))
      all_goals (try ((show (_:Int) = _); omega))
      all_goals (try (show tupSV _ = _; with_unfolding_all rfl))
      all_goals (try ((show (_ : Nat) ≤ _); (simp <;> omega)))
      all_goals (try ((show (_ : Nat) ≤ _ ∧ (_ : Nat) ≤ _); (simp <;> omega)))
      all_goals (try ((show (_ : Int) ≤ _ ∧ (_ : Int) ≤ _ ∧ (_ : Int) ≤ _ ∧ (_ : Int) ≤ _); (simp <;> omega)))
      all_goals rfl
instance gGetN (nm : List UInt8) : Fn BB 39 [.nils, .str nm] True (.tup [.str [], .bool false]) := by
  refine Fn.intro (N := 25) [0, 1, 4, 5, 6, 10, 19] [] Try.call39 Try.func39 rfl rfl (by kernel_rfl) (fun hpre => ?_)
  repeat' ((conv => whnf); first | (with_reducible rfl) | exact True.intro | (with_reducible exact absTF) | (with_reducible exact absFT) | intro _ | refine And.intro ?_ ?_ | refine Fin.mk ?_ | refine CallG.plain rfl ?_ ?_ | refine CallG.mk rfl ?_ ?_ | refine CallG.nwl rfl ?_ ?_ | refine CallG.nw ?_ ?_ | refine CallF.nwl rfl ?_ ?_ | refine CallF.nw ?_ ?_ | refine AppN.mk ?_ | (refine CallS.q ?_; (conv => whnf); first | refine CallG.plain rfl ?_ ?_ | refine CallG.mk rfl ?_ ?_) | (refine CallS.m ?_; (conv => whnf); refine CallM.mk rfl ?_ ?_) | (refine CallS.h ?_; (conv => whnf); refine CallM.mk rfl ?_ ?_) | (refine CallS.b ?_; (conv => whnf); refine CallM.mk rfl ?_ ?_) | (refine CallS.z ?_; (conv => whnf); refine CallM.mk rfl ?_ ?_))
  all_goals (try (conv => whnf))
  all_goals (try (exact Ob.mk (u8_bnd _)))
  all_goals (try (refine Ob.mk ?_; first | exact True.intro | assumption | omega | (try simp only [decide_eq_true_eq, decide_eq_false_iff_not, beq_iff_eq, beq_eq_false_iff_ne, bne_iff_ne, bne_eq_false_iff_eq, ne_eq, Bool.and_eq_true, Bool.or_eq_true, Bool.not_eq_true, Bool.not_eq_false, Bool.not_eq_true', Bool.not_eq_false', Int.toNat_natCast, Int.not_lt, Int.not_le, UInt8.ofNat_toNat, cast_eq] at *; omega)))
  all_goals (try ((show (_:Int) = _); omega))
  all_goals (try (show tupSV _ = _; with_unfolding_all rfl))
  all_goals (try ((show (_ : Nat) ≤ _); (simp <;> omega)))
  all_goals (try ((show (_ : Nat) ≤ _ ∧ (_ : Nat) ≤ _); (simp <;> omega)))
  all_goals (try ((show (_ : Int) ≤ _ ∧ (_ : Int) ≤ _ ∧ (_ : Int) ≤ _ ∧ (_ : Int) ≤ _); (simp <;> omega)))
  refine LoopStop.mk (α := Unit) (fun k => [(6, .int .i64 0)]) (fun _ => []) 20 (fun k => True) (fun k => 0) () True.intro ?_ (fun k hk => ?_)
  · repeat' ((conv => whnf); first | (with_reducible rfl) | exact True.intro | (with_reducible exact absTF) | (with_reducible exact absFT) | intro _ | refine And.intro ?_ ?_ | refine Fin.mk ?_ | refine CallG.plain rfl ?_ ?_ | refine CallG.mk rfl ?_ ?_ | refine CallG.nwl rfl ?_ ?_ | refine CallG.nw ?_ ?_ | refine CallF.nwl rfl ?_ ?_ | refine CallF.nw ?_ ?_ | refine AppN.mk ?_ | (refine CallS.q ?_; (conv => whnf); first | refine CallG.plain rfl ?_ ?_ | refine CallG.mk rfl ?_ ?_) | (refine CallS.m ?_; (conv => whnf); refine CallM.mk rfl ?_ ?_) | (refine CallS.h ?_; (conv => whnf); refine CallM.mk rfl ?_ ?_) | (refine CallS.b ?_; (conv => whnf); refine CallM.mk rfl ?_ ?_) | (refine CallS.z ?_; (conv => whnf); refine CallM.mk rfl ?_ ?_))
    all_goals (try (conv => whnf))
    all_goals (try (exact Ob.mk (u8_bnd _)))
    all_goals (try (refine Ob.mk ?_; first | exact True.intro | assumption | omega | (try simp only [decide_eq_true_eq, decide_eq_false_iff_not, beq_iff_eq, beq_eq_false_iff_ne, bne_iff_ne, bne_eq_false_iff_eq, ne_eq, Bool.and_eq_true, Bool.or_eq_true, Bool.not_eq_true, Bool.not_eq_false, Bool.not_eq_true', Bool.not_eq_false', Int.toNat_natCast, Int.not_lt, Int.not_le, UInt8.ofNat_toNat, cast_eq] at *; omega)))
    all_goals (try ((show (_:Int) = _); omega))
    all_goals (try (show tupSV _ = _; with_unfolding_all rfl))
    all_goals (try ((show (_ : Nat) ≤ _); (simp <;> omega)))
    all_goals (try ((show (_ : Nat) ≤ _ ∧ (_ : Nat) ≤ _); (simp <;> omega)))
    all_goals (try ((show (_ : Int) ≤ _ ∧ (_ : Int) ≤ _ ∧ (_ : Int) ≤ _ ∧ (_ : Int) ≤ _); (simp <;> omega)))
    all_goals (try rfl)
  · repeat' ((conv => whnf); first | (with_reducible rfl) | exact True.intro | (with_reducible exact absTF) | (with_reducible exact absFT) | intro _ | refine And.intro ?_ ?_ | refine Fin.mk ?_ | refine CallG.plain rfl ?_ ?_ | refine CallG.mk rfl ?_ ?_ | refine CallG.nwl rfl ?_ ?_ | refine CallG.nw ?_ ?_ | refine CallF.nwl rfl ?_ ?_ | refine CallF.nw ?_ ?_ | refine AppN.mk ?_ | (refine CallS.q ?_; (conv => whnf); first | refine CallG.plain rfl ?_ ?_ | refine CallG.mk rfl ?_ ?_) | (refine CallS.m ?_; (conv => whnf); refine CallM.mk rfl ?_ ?_) | (refine CallS.h ?_; (conv => whnf); refine CallM.mk rfl ?_ ?_) | (refine CallS.b ?_; (conv => whnf); refine CallM.mk rfl ?_ ?_) | (refine CallS.z ?_; (conv => whnf); refine CallM.mk rfl ?_ ?_))
    all_goals (try (conv => whnf))
    all_goals (try (exact Ob.mk (u8_bnd _)))
    all_goals (try (refine Ob.mk ?_; first | exact True.intro | assumption | omega | (try simp only [decide_eq_true_eq, decide_eq_false_iff_not, beq_iff_eq, beq_eq_false_iff_ne, bne_iff_ne, bne_eq_false_iff_eq, ne_eq, Bool.and_eq_true, Bool.or_eq_true, Bool.not_eq_true, Bool.not_eq_false, Bool.not_eq_true', Bool.not_eq_false', Int.toNat_natCast, Int.not_lt, Int.not_le, UInt8.ofNat_toNat, cast_eq] at *; omega)))
    all_goals (try ((show (_:Int) = _); omega))
    all_goals (try (show tupSV _ = _; with_unfolding_all rfl))
    all_goals (try ((show (_ : Nat) ≤ _); (simp <;> omega)))
    all_goals (try ((show (_ : Nat) ≤ _ ∧ (_ : Nat) ≤ _); (simp <;> omega)))
    all_goals (try ((show (_ : Int) ≤ _ ∧ (_ : Int) ≤ _ ∧ (_ : Int) ≤ _ ∧ (_ : Int) ≤ _); (simp <;> omega)))
    all_goals (first | (exfalso; exact absurd ‹decide ((0 : Int) < 0) = true› (by decide)) | rfl | trace_state)
instance gAdd (l : List AttrD) (a b : List UInt8) : FnM BB 25 [.own 0, .agg [.str a, .str b]] [(0, .ro attrTy l)] (l.length ≤ 50000) (.own 1) [(0, .ro attrTy l), (1, .own attrTy (addL l (a, b)))] := by
  refine FnM.intro (N := 25) [0, 1, 3, 4, 5, 7, 19] [] 1 Try.call25 Try.func25 rfl rfl (by kernel_rfl) (fun hpre => ?_)
  have e1 : (!l.any (hitN a)) = true → addL l (a, b) = l ++ [(a, b)] := fun h => by unfold addL; rw [if_neg (by simpa using h)]
  have e2 : (!l.any (hitN a)) = false → addL l (a, b) = l := fun h => by unfold addL; rw [if_pos (by simpa using h)]
  repeat' ((conv => whnf); first | (with_reducible rfl) | exact True.intro | (with_reducible exact absTF) | (with_reducible exact absFT) | intro _ | refine And.intro ?_ ?_ | refine Fin.mk ?_ | refine CallG.plain rfl ?_ ?_ | refine CallG.mk rfl ?_ ?_ | refine CallG.nwl rfl ?_ ?_ | refine CallG.nw ?_ ?_ | refine CallF.nwl rfl ?_ ?_ | refine CallF.nw ?_ ?_ | refine AppN.mk ?_ | (refine CallS.q ?_; (conv => whnf); first | refine CallG.plain rfl ?_ ?_ | refine CallG.mk rfl ?_ ?_) | (refine CallS.m ?_; (conv => whnf); refine CallM.mk rfl ?_ ?_) | (refine CallS.h ?_; (conv => whnf); refine CallM.mk rfl ?_ ?_) | (refine CallS.b ?_; (conv => whnf); refine CallM.mk rfl ?_ ?_) | (refine CallS.z ?_; (conv => whnf); refine CallM.mk rfl ?_ ?_))
  all_goals (try (conv => whnf))
  all_goals (try (exact Ob.mk (u8_bnd _)))
  all_goals (try (refine Ob.mk ?_; first | exact True.intro | assumption | omega | (try simp only [decide_eq_true_eq, decide_eq_false_iff_not, beq_iff_eq, beq_eq_false_iff_ne, bne_iff_ne, bne_eq_false_iff_eq, ne_eq, Bool.and_eq_true, Bool.or_eq_true, Bool.not_eq_true, Bool.not_eq_false, Bool.not_eq_true', Bool.not_eq_false', Int.toNat_natCast, Int.not_lt, Int.not_le, UInt8.ofNat_toNat, cast_eq] at *; omega)))
  all_goals (try ((show (_:Int) = _); omega))
  all_goals (try (show tupSV _ = _; with_unfolding_all rfl))
  all_goals (try ((show (_ : Nat) ≤ _); (simp <;> omega)))
  all_goals (try ((show (_ : Nat) ≤ _ ∧ (_ : Nat) ≤ _); (simp <;> omega)))
  all_goals (try ((show (_ : Int) ≤ _ ∧ (_ : Int) ≤ _ ∧ (_ : Int) ≤ _ ∧ (_ : Int) ≤ _); (simp <;> omega)))
  all_goals (first | (rw [e1 ‹_›]; rfl) | (rw [e2 ‹_›]; rfl) | trace_state)
instance gAddN (a b : List UInt8) : FnM BB 25 [.nils, .agg [.str a, .str b]] [] True (.own 0) [(0, .own attrTy [(a, b)])] := by
  refine FnM.intro (N := 25) [0, 1, 3, 4, 5, 7, 19] [] 0 Try.call25 Try.func25 rfl rfl (by kernel_rfl) (fun hpre => ?_)
  repeat' ((conv => whnf); first | (with_reducible rfl) | exact True.intro | (with_reducible exact absTF) | (with_reducible exact absFT) | intro _ | refine And.intro ?_ ?_ | refine Fin.mk ?_ | refine CallG.plain rfl ?_ ?_ | refine CallG.mk rfl ?_ ?_ | refine CallG.nwl rfl ?_ ?_ | refine CallG.nw ?_ ?_ | refine CallF.nwl rfl ?_ ?_ | refine CallF.nw ?_ ?_ | refine AppN.mk ?_ | (refine CallS.q ?_; (conv => whnf); first | refine CallG.plain rfl ?_ ?_ | refine CallG.mk rfl ?_ ?_) | (refine CallS.m ?_; (conv => whnf); refine CallM.mk rfl ?_ ?_) | (refine CallS.h ?_; (conv => whnf); refine CallM.mk rfl ?_ ?_) | (refine CallS.b ?_; (conv => whnf); refine CallM.mk rfl ?_ ?_) | (refine CallS.z ?_; (conv => whnf); refine CallM.mk rfl ?_ ?_))
  all_goals (try (conv => whnf))
  all_goals (try (exact Ob.mk (u8_bnd _)))
  all_goals (try (refine Ob.mk ?_; first | exact True.intro | assumption | omega | (try simp only [decide_eq_true_eq, decide_eq_false_iff_not, beq_iff_eq, beq_eq_false_iff_ne, bne_iff_ne, bne_eq_false_iff_eq, ne_eq, Bool.and_eq_true, Bool.or_eq_true, Bool.not_eq_true, Bool.not_eq_false, Bool.not_eq_true', Bool.not_eq_false', Int.toNat_natCast, Int.not_lt, Int.not_le, UInt8.ofNat_toNat, cast_eq] at *; omega)))
  all_goals (try ((show (_:Int) = _); omega))
  all_goals (try (show tupSV _ = _; with_unfolding_all rfl))
  all_goals (try ((show (_ : Nat) ≤ _); (simp <;> omega)))
  all_goals (try ((show (_ : Nat) ≤ _ ∧ (_ : Nat) ≤ _); (simp <;> omega)))
  all_goals (try ((show (_ : Int) ≤ _ ∧ (_ : Int) ≤ _ ∧ (_ : Int) ≤ _ ∧ (_ : Int) ≤ _); (simp <;> omega)))
  · rfl
  · exact absurd ‹(!false) = false› (by decide)
end Go.Vc

namespace Go.Vc
open Go.Proofs
set_option linter.unusedVariables false
set_option maxRecDepth 10000
set_option linter.unusedSimpArgs false
set_option maxHeartbeats 8000000
abbrev cloB (s : List UInt8) : Bool := decide ((s.length : Int) > 1) && ((s.getD (Int.toNat 1) 0).toNat : Int) == 47
section
variable {s : List UInt8} {c : Bool} {n : Nat} {k : Int}
theorem r60 (s : List UInt8) : (((s.getD (Int.toNat 0) 0).toNat : Int) != 60) = !(s.getD 0 0 == 60) := by
  rw [bne, show (((s.getD (Int.toNat 0) 0).toNat : Int) == 60) = (s.getD 0 0 == 60) from b_iff _ 60]
theorem rOk (hk : k = n) (h : (decide ((s.length : Int) ≤ k) || ((s.getD (Int.toNat 0) 0).toNat : Int) != 60 || !alI ((s.getD k.toNat 0).toNat : Int)) = false) : ¬ (s = [] ∨ s.getD 0 0 ≠ 60 ∨ s.length ≤ n ∨ alB (s.getD n 0) = false) := by
  subst hk
  rw [r60, Bool.or_eq_false_iff, Bool.or_eq_false_iff, decide_eq_false_iff_not, Int.toNat_natCast, Bool.not_eq_false', Bool.not_eq_false', beq_iff_eq] at h
  rintro (q | q | q | q)
  · subst q; exact h.1.1 (by simp)
  · exact q h.1.2
  · exact h.1.1 (by omega)
  · unfold alB at q; rw [h.2] at q; cases q
theorem rZ (hk : k = n) (h : (decide ((s.length : Int) ≤ k) || ((s.getD (Int.toNat 0) 0).toNat : Int) != 60 || !alI ((s.getD k.toNat 0).toNat : Int)) = true) : tagAt s c n = (0, [], [], false, 0, false) := by
  subst hk
  rw [r60, Bool.or_eq_true, Bool.or_eq_true, decide_eq_true_eq, Int.toNat_natCast, Bool.not_eq_true', Bool.not_eq_true', beq_eq_false_iff_ne] at h
  unfold tagAt
  rw [if_pos]
  rcases h with (h | h) | h
  · exact .inr (.inr (.inl (by omega)))
  · exact .inr (.inl h)
  · exact .inr (.inr (.inr h))
theorem clo_iff (s : List UInt8) : cloB s = true ↔ 1 < s.length ∧ s.getD 1 0 = 47 := by
  unfold cloB
  rw [Bool.and_eq_true, decide_eq_true_eq, show (((s.getD (Int.toNat 1) 0).toNat : Int) == 47) = (s.getD 1 0 == 47) from b_iff _ 47, beq_iff_eq]
  constructor <;> (rintro ⟨a, b⟩; exact ⟨by omega, b⟩)
theorem beg47 (s : List UInt8) : begP s [60, 47] = true ↔ 1 < s.length ∧ s.getD 0 0 = 60 ∧ s.getD 1 0 = 47 := by
  unfold begP
  rw [Bool.and_eq_true, decide_eq_true_eq, beq_iff_eq]
  match s with
  | [] => simp
  | [a] => simp
  | a :: b :: r => simp; intros; omega
theorem rP1 (h : cloB s = true) : tagP s = tagAt s true 2 := by
  obtain ⟨h1, h2⟩ := (clo_iff s).1 h
  unfold tagP
  by_cases h0 : s.getD 0 0 = 60
  · rw [if_pos ((beg47 s).2 ⟨h1, h0, h2⟩)]
  · rw [if_neg (fun q => h0 ((beg47 s).1 q).2.1)]
    unfold tagAt; rw [if_pos (.inr (.inl h0)), if_pos (.inr (.inl h0))]
theorem rP0 (h : cloB s = false) : tagP s = tagAt s false 1 := by
  have h' : ¬ (1 < s.length ∧ s.getD 1 0 = 47) := fun q => by rw [(clo_iff s).2 q] at h; cases h
  unfold tagP
  rw [if_neg (fun q => h' ⟨((beg47 s).1 q).1, ((beg47 s).1 q).2.2⟩)]
theorem rV (hk : k = n) (h : (decide ((s.length : Int) ≤ k) || ((s.getD (Int.toNat 0) 0).toNat : Int) != 60 || !alI ((s.getD k.toNat 0).toNat : Int)) = false) : tagAt s c n = if (rnG s n).1 = false then (0, [], [], false, (s.length : Int), false) else if c = true then (2, nmG s n, [], false, ((rnG s n).2.1 : Int), true) else (1, nmG s n, (rnG s n).2.2.1, (rnG s n).2.2.2.1, ((rnG s n).2.1 : Int), true) := by
  have := rOk hk h
  unfold tagAt; rw [if_neg this]
theorem st2_eq (c : UInt8) : ((c.toNat : Int) != 47 && (c.toNat : Int) != 62 && !W.isSp (c.toNat : Int)) = stP [47, 62] c := by
  rw [bne, bne, show ((c.toNat : Int) == 47) = (c == 47) from b_iff _ 47, show ((c.toNat : Int) == 62) = (c == 62) from b_iff _ 62]
  unfold stP blB
  have hc : ([47, 62] : List UInt8).contains c = (c == 47 || c == 62) := by rw [List.contains_cons, List.contains_cons]; simp only [List.contains_nil, Bool.or_false]
  rw [hc]
  cases c == 47 <;> cases c == 62 <;> cases W.isSp (c.toNat : Int) <;> rfl
end
theorem c62_iff (c : UInt8) : ((c.toNat : Int) == 62) = (c == 62) := b_iff c 62
theorem c47_iff (c : UInt8) : ((c.toNat : Int) == 47) = (c == 47) := b_iff c 47
section
variable {s : List UInt8} {f i : Nat} {l : List AttrD} {x : List UInt8}
abbrev c2B (s : List UInt8) (j : Nat) : Bool := ((s.getD j 0).toNat : Int) == 62 || ((s.getD j 0).toNat : Int) == 47 && decide ((j : Int) + 1 < (s.length : Int)) && ((s.getD (j + 1) 0).toNat : Int) == 62
theorem is62 {j : Nat} (hl : j < s.length) : cIs s j 62 = (s.getD j 0 == 62) := by unfold cIs; rw [decide_eq_true (show (j : Int) < (s.length : Int) by omega), Bool.true_and]; exact b_iff _ 62
theorem is47 {j : Nat} (hl : j < s.length) : cIs s j 47 = (s.getD j 0 == 47) := by unfold cIs; rw [decide_eq_true (show (j : Int) < (s.length : Int) by omega), Bool.true_and]; exact b_iff _ 47
theorem is62' (j : Nat) : (decide ((j : Int) + 1 < (s.length : Int)) && ((s.getD (j + 1) 0).toNat : Int) == 62) = cIs s (j + 1) 62 := by unfold cIs; rfl
theorem u2 (h1 : cOv s (upTo blB s i) = false) (h2 : c2B s (upTo blB s i) = true) (h3 : (((s.getD (upTo blB s i) 0).toNat : Int) == 47) = true) : runT s (f + 1) i l x = (true, upTo blB s i + 2, l, true, x) := by
  have hl := (cOv_not _ _).1 h1
  rw [c47_iff, beq_iff_eq] at h3
  have a : cIs s (upTo blB s i) 62 = false := by rw [is62 hl, h3]; decide
  have b : cIs s (upTo blB s i) 47 = true := by rw [is47 hl, h3]; decide
  unfold c2B at h2
  rw [Bool.and_assoc, is62', c62_iff, c47_iff, h3] at h2
  refine st3 h1 a b (by simpa using h2)
theorem u3 (h1 : cOv s (upTo blB s i) = false) (h2 : c2B s (upTo blB s i) = true) (h3 : (((s.getD (upTo blB s i) 0).toNat : Int) == 47) = false) : runT s (f + 1) i l x = (true, upTo blB s i + 1, l, false, x) := by
  have hl := (cOv_not _ _).1 h1
  unfold c2B at h2
  rw [h3, Bool.false_and, Bool.false_and, Bool.or_false, c62_iff] at h2
  exact st2 h1 (by rw [is62 hl]; exact h2)
theorem u4 (h1 : cOv s (upTo blB s i) = false) (h2 : c2B s (upTo blB s i) = false) (h3 : (((s.getD (upTo blB s i) 0).toNat : Int) == 47) = true) : runT s (f + 1) i l x = runT s f (upTo blB s i + 1) l x := by
  have hl := (cOv_not _ _).1 h1
  unfold c2B at h2
  rw [Bool.and_assoc, is62', h3, Bool.or_eq_false_iff, Bool.true_and, c62_iff] at h2
  exact st4 h1 (by rw [is62 hl]; exact h2.1) (by rw [is47 hl, ← c47_iff]; exact h3) h2.2
theorem atC (s : List UInt8) (i : Nat) : (decide ((jA s (upTo blB s i) : Int) ≥ (s.length : Int)) || ((s.getD (jA s (upTo blB s i)) 0).toNat : Int) != 61) = !cIs s (iJ s i) 61 := by
  show (decide ((iJ s i : Int) ≥ (s.length : Int)) || ((s.getD (iJ s i) 0).toNat : Int) != 61) = _
  unfold cIs
  by_cases h : iJ s i < s.length
  · rw [decide_eq_true (show (iJ s i : Int) < (s.length : Int) by omega), decide_eq_false (show ¬ (iJ s i : Int) ≥ (s.length : Int) by omega)]; rfl
  · rw [decide_eq_false (show ¬ (iJ s i : Int) < (s.length : Int) by omega), decide_eq_true (show (iJ s i : Int) ≥ (s.length : Int) by omega)]; rfl
theorem u5 (h1 : cOv s (upTo blB s i) = false) (h2 : c2B s (upTo blB s i) = false) (h3 : (((s.getD (upTo blB s i) 0).toNat : Int) == 47) = false) (h5 : (!(attrR s (upTo blB s i)).2.2.2) = true) : (runT s (f + 1) i l x).1 = false := by
  have hl := (cOv_not _ _).1 h1
  unfold c2B at h2
  rw [h3, Bool.false_and, Bool.false_and, Bool.or_false, c62_iff] at h2
  have a : cIs s (upTo blB s i) 62 = false := by rw [is62 hl]; exact h2
  have b : cIs s (upTo blB s i) 47 = false := by rw [is47 hl, ← c47_iff]; exact h3
  unfold attrR at h5
  rw [atC] at h5
  cases h6 : (!cIs s (iJ s i) 61) with
  | true => rw [h6] at h5; exact absurd h5 (by simp)
  | false =>
    rw [h6, if_neg (by decide)] at h5
    have h5' : (valR s (iV s i)).2.2 = false := by have h := h5; rw [Bool.not_eq_true'] at h; exact h
    cases h7 : cOv s (iV s i) with
    | true => rw [st6 h1 a b h6 h7]
    | false =>
      have := (cOv_not _ _).1 h7
      unfold valR at h5'
      rw [if_neg (by omega)] at h5'
      rw [st7 h1 a b h6 h7 (by rw [h5']; rfl)]
theorem u6 (h1 : cOv s (upTo blB s i) = false) (h2 : c2B s (upTo blB s i) = false) (h3 : (((s.getD (upTo blB s i) 0).toNat : Int) == 47) = false) (h5 : (!(attrR s (upTo blB s i)).2.2.2) = false) : runT s (f + 1) i l x = runT s f (attrR s (upTo blB s i)).2.2.1 (addL l ((attrR s (upTo blB s i)).1, (attrR s (upTo blB s i)).2.1)) (nmT s i) := by
  have hl := (cOv_not _ _).1 h1
  unfold c2B at h2
  rw [h3, Bool.false_and, Bool.false_and, Bool.or_false, c62_iff] at h2
  have a : cIs s (upTo blB s i) 62 = false := by rw [is62 hl]; exact h2
  have b : cIs s (upTo blB s i) 47 = false := by rw [is47 hl, ← c47_iff]; exact h3
  unfold attrR at h5 ⊢
  rw [atC] at h5 ⊢
  cases h6 : (!cIs s (iJ s i) 61) with
  | true => rw [if_pos rfl, st5 h1 a b h6]; rfl
  | false =>
    rw [h6, if_neg (by decide)] at h5
    have h5' : (valR s (iV s i)).2.2 = true := by have h := h5; rw [Bool.not_eq_false'] at h; exact h
    rw [if_neg (by decide)]
    cases h7 : cOv s (iV s i) with
    | true =>
      have := (cOv_iff _ _).1 h7
      unfold valR at h5'
      rw [if_pos this] at h5'; cases h5'
    | false =>
      have hlt := (cOv_not _ _).1 h7
      have e : valR s (iV s i) = valS s (iV s i) := by unfold valR; rw [if_neg (by omega)]
      rw [e] at h5'
      rw [st8 h1 a b h6 h7 (by rw [h5']; rfl)]
      show runT s f (valS s (iV s i)).2.1 _ _ = runT s f (valR s (iV s i)).2.1 (addL l (nmT s i, decF (valR s (iV s i)).1 true)) (nmT s i)
      rw [e]
theorem attrR_le (s : List UInt8) (i : Nat) (h : i < s.length) : i < (attrR s i).2.2.1 ∧ (attrR s i).2.2.1 ≤ s.length := by
  have hJ := upTo_le (stP [47, 62, 61]) s (i + 1) (by omega)
  have hJ2 : upTo (stP [47, 62, 61]) s (i + 1) ≤ jA s i ∧ jA s i ≤ s.length := upTo_le blB s _ hJ.2
  unfold attrR
  split
  · simp only; omega
  · rename_i h6
    have h6 : (decide ((jA s i : Int) ≥ (s.length : Int)) || ((s.getD (jA s i) 0).toNat : Int) != 61) = false := by simpa only [Bool.not_eq_true] using h6
    rw [Bool.or_eq_false_iff] at h6
    have := of_decide_eq_false h6.1
    have hK : jA s i + 1 ≤ upTo blB s (jA s i + 1) ∧ upTo blB s (jA s i + 1) ≤ s.length := upTo_le blB s (jA s i + 1) (by omega)
    have hV := valR_le s (upTo blB s (jA s i + 1)) hK.2
    have hV2 : upTo blB s (jA s i + 1) ≤ (valR s (upTo blB s (jA s i + 1))).2.1 := by
      unfold valR; split
      · exact Nat.le_refl _
      · exact (valS_le s _ (by omega)).1
    simp only; omega
end
instance gRead (s : List UInt8) : FnM BB 8 [.str s] [] (s.length ≤ 50000) (.tup [.agg [.int .i64 (tagP s).1, .str (tagP s).2.1, .own 0, .bool (tagP s).2.2.2.1, .str []], .int .i64 (tagP s).2.2.2.2.1, .bool (tagP s).2.2.2.2.2]) [(0, .own attrTy (tagP s).2.2.1)] := by
  refine FnM.intro (N := 151) [0, 2, 3, 4, 5, 6, 7, 8, 9, 10, 19, 36, 61, 76, 103, 117, 122, 130, 141] [] 0 Try.call8 Try.func8 rfl rfl (by kernel_rfl) (fun hpre => ?_)
  have n2 : (2 : Int).toNat = 2 := rfl
  have n1 : (1 : Int).toNat = 1 := rfl
  have l0 : ∀ k : Int, (decide ((s.length : Int) ≤ k) || ((s.getD (Int.toNat 0) 0).toNat : Int) != 60) = false → ¬ (s.length : Int) ≤ k := fun k h => by rw [Bool.or_eq_false_iff] at h; exact of_decide_eq_false h.1
  have l1 : ∀ k : Int, (decide ((s.length : Int) ≤ k) || ((s.getD (Int.toNat 0) 0).toNat : Int) != 60 || !alI ((s.getD k.toNat 0).toNat : Int)) = false → ¬ (s.length : Int) ≤ k := fun k h => by rw [Bool.or_eq_false_iff, Bool.or_eq_false_iff] at h; exact of_decide_eq_false h.1.1
  repeat' ((conv => whnf); first | (with_reducible rfl) | exact True.intro | (with_reducible exact absTF) | (with_reducible exact absFT) | intro _ | refine And.intro ?_ ?_ | refine Fin.mk ?_ | refine CallG.plain rfl ?_ ?_ | refine CallG.mk rfl ?_ ?_ | refine CallG.nwl rfl ?_ ?_ | refine CallG.nw ?_ ?_ | refine CallF.nwl rfl ?_ ?_ | refine CallF.nw ?_ ?_ | refine AppN.mk ?_ | (refine CallS.q ?_; (conv => whnf); first | refine CallG.plain rfl ?_ ?_ | refine CallG.mk rfl ?_ ?_) | (refine CallS.m ?_; (conv => whnf); refine CallM.mk rfl ?_ ?_) | (refine CallS.h ?_; (conv => whnf); refine CallM.mk rfl ?_ ?_) | (refine CallS.b ?_; (conv => whnf); refine CallM.mk rfl ?_ ?_) | (refine CallS.z ?_; (conv => whnf); refine CallM.mk rfl ?_ ?_))
  all_goals (try (conv => whnf))
  all_goals (try (exact Ob.mk (u8_bnd _)))
  all_goals (try (refine Ob.mk ?_; first | exact True.intro | assumption | omega | (try simp only [decide_eq_true_eq, decide_eq_false_iff_not, beq_iff_eq, beq_eq_false_iff_ne, bne_iff_ne, bne_eq_false_iff_eq, ne_eq, Bool.and_eq_true, Bool.or_eq_true, Bool.not_eq_true, Bool.not_eq_false, Bool.not_eq_true', Bool.not_eq_false', Int.toNat_natCast, Int.not_lt, Int.not_le, UInt8.ofNat_toNat, cast_eq] at *; omega)))
  all_goals (try ((show (_:Int) = _); omega))
  all_goals (try (show tupSV _ = _; with_unfolding_all rfl))
  all_goals (try ((show (_ : Nat) ≤ _); (simp <;> omega)))
  all_goals (try ((show (_ : Nat) ≤ _ ∧ (_ : Nat) ≤ _); (simp <;> omega)))
  all_goals (try ((show (_ : Int) ≤ _ ∧ (_ : Int) ≤ _ ∧ (_ : Int) ≤ _ ∧ (_ : Int) ≤ _); (simp <;> omega)))
  all_goals (try (have q := (rP1 ‹cloB s = true›).trans (rZ (k := 2) rfl ‹_›); first | (rw [q]; done) | (rw [q]; rfl)))
  all_goals (try (have q := (rP0 ‹cloB s = false›).trans (rZ (k := 1) rfl ‹_›); first | (rw [q]; done) | (rw [q]; rfl)))
  all_goals (try (have b := l0 2 ‹_›))
  all_goals (try (have b := l0 1 ‹_›))
  all_goals (try (have b := l1 2 ‹_›))
  all_goals (try (have b := l1 1 ‹_›))
  all_goals (try (exact ⟨by omega, by omega⟩))
  · have hT := (rP1 ‹_›).trans (rV (c := true) (k := 2) rfl ‹_›)
    generalize tagP s = T at *
    have nm : nmG s 2 = lowL ((s.take (upTo (stP [47, 62]) s 2)).drop 2) := rfl
    have hJ := upTo_le (stP [47, 62]) s 2 (by omega)
    refine LoopStop.mk (α := Nat) (fun j => [(6, .int .i64 j)]) (fun j => []) 40 (fun j => 2 ≤ j ∧ j ≤ s.length ∧ upTo (stP [47, 62]) s j = upTo (stP [47, 62]) s 2) (fun j => s.length - j) 2 ⟨by omega, by omega, rfl⟩ ?_ (fun j hj => ?_)
    · repeat' ((conv => whnf); first | (with_reducible rfl) | exact True.intro | (with_reducible exact absTF) | (with_reducible exact absFT) | intro _ | refine And.intro ?_ ?_ | refine Fin.mk ?_ | refine CallG.plain rfl ?_ ?_ | refine CallG.mk rfl ?_ ?_ | refine CallG.nwl rfl ?_ ?_ | refine CallG.nw ?_ ?_ | refine CallF.nwl rfl ?_ ?_ | refine CallF.nw ?_ ?_ | refine AppN.mk ?_ | (refine CallS.q ?_; (conv => whnf); first | refine CallG.plain rfl ?_ ?_ | refine CallG.mk rfl ?_ ?_) | (refine CallS.m ?_; (conv => whnf); refine CallM.mk rfl ?_ ?_) | (refine CallS.h ?_; (conv => whnf); refine CallM.mk rfl ?_ ?_) | (refine CallS.b ?_; (conv => whnf); refine CallM.mk rfl ?_ ?_) | (refine CallS.z ?_; (conv => whnf); refine CallM.mk rfl ?_ ?_))
      all_goals (try (conv => whnf))
      all_goals (try (exact Ob.mk (u8_bnd _)))
      all_goals (try (refine Ob.mk ?_; first | exact True.intro | assumption | omega | (try simp only [decide_eq_true_eq, decide_eq_false_iff_not, beq_iff_eq, beq_eq_false_iff_ne, bne_iff_ne, bne_eq_false_iff_eq, ne_eq, Bool.and_eq_true, Bool.or_eq_true, Bool.not_eq_true, Bool.not_eq_false, Bool.not_eq_true', Bool.not_eq_false', Int.toNat_natCast, Int.not_lt, Int.not_le, UInt8.ofNat_toNat, cast_eq] at *; omega)))
      all_goals (try ((show (_:Int) = _); omega))
      all_goals (try (show tupSV _ = _; with_unfolding_all rfl))
      all_goals (try ((show (_ : Nat) ≤ _); (simp <;> omega)))
      all_goals (try ((show (_ : Nat) ≤ _ ∧ (_ : Nat) ≤ _); (simp <;> omega)))
      all_goals (try ((show (_ : Int) ≤ _ ∧ (_ : Int) ≤ _ ∧ (_ : Int) ≤ _ ∧ (_ : Int) ≤ _); (simp <;> omega)))
      all_goals rfl
    · obtain ⟨q0, q1, q2⟩ := hj
      have cc : (decide ((j : Int) < (s.length : Int)) && ((s.getD ((j : Int)).toNat 0).toNat : Int) != 47 && ((s.getD ((j : Int)).toNat 0).toNat : Int) != 62 && !W.isSp ((s.getD ((j : Int)).toNat 0).toNat : Int)) = (decide (j < s.length) && stP [47, 62] (s.getD j 0)) := by
        rw [Int.toNat_natCast, dlt, ← st2_eq]
        cases decide (j < s.length) <;> simp
      repeat' ((conv => whnf); first | (with_reducible rfl) | exact True.intro | (with_reducible exact absTF) | (with_reducible exact absFT) | intro _ | refine And.intro ?_ ?_ | refine Fin.mk ?_ | refine CallG.plain rfl ?_ ?_ | refine CallG.mk rfl ?_ ?_ | refine CallG.nwl rfl ?_ ?_ | refine CallG.nw ?_ ?_ | refine CallF.nwl rfl ?_ ?_ | refine CallF.nw ?_ ?_ | refine AppN.mk ?_ | (refine CallS.q ?_; (conv => whnf); first | refine CallG.plain rfl ?_ ?_ | refine CallG.mk rfl ?_ ?_) | (refine CallS.m ?_; (conv => whnf); refine CallM.mk rfl ?_ ?_) | (refine CallS.h ?_; (conv => whnf); refine CallM.mk rfl ?_ ?_) | (refine CallS.b ?_; (conv => whnf); refine CallM.mk rfl ?_ ?_) | (refine CallS.z ?_; (conv => whnf); refine CallM.mk rfl ?_ ?_))
      all_goals (try (conv => whnf))
      all_goals (try (exact Ob.mk (u8_bnd _)))
      all_goals (try (refine Ob.mk ?_; first | exact True.intro | assumption | omega | (try simp only [decide_eq_true_eq, decide_eq_false_iff_not, beq_iff_eq, beq_eq_false_iff_ne, bne_iff_ne, bne_eq_false_iff_eq, ne_eq, Bool.and_eq_true, Bool.or_eq_true, Bool.not_eq_true, Bool.not_eq_false, Bool.not_eq_true', Bool.not_eq_false', Int.toNat_natCast, Int.not_lt, Int.not_le, UInt8.ofNat_toNat, cast_eq] at *; omega)))
      all_goals (try ((show (_:Int) = _); omega))
      all_goals (try (show tupSV _ = _; with_unfolding_all rfl))
      all_goals (try ((show (_ : Nat) ≤ _); (simp <;> omega)))
      all_goals (try ((show (_ : Nat) ≤ _ ∧ (_ : Nat) ≤ _); (simp <;> omega)))
      all_goals (try ((show (_ : Int) ≤ _ ∧ (_ : Int) ≤ _ ∧ (_ : Int) ≤ _ ∧ (_ : Int) ≤ _); (simp <;> omega)))
      all_goals (try simp only [cc] at *)
      all_goals (try simp only [Int.toNat_natCast, n1, n2] at *)
      · obtain ⟨h1, h2⟩ := (loop_up q2 true ‹_› q1).1 rfl
        refine Rnd.mk ⟨j + 1, ⟨by omega, by omega, h2⟩, by omega, ?_⟩
        repeat' ((conv => whnf); first | (with_reducible rfl) | exact True.intro | (with_reducible exact absTF) | (with_reducible exact absFT) | intro _ | refine And.intro ?_ ?_ | refine Fin.mk ?_ | refine CallG.plain rfl ?_ ?_ | refine CallG.mk rfl ?_ ?_ | refine CallG.nwl rfl ?_ ?_ | refine CallG.nw ?_ ?_ | refine CallF.nwl rfl ?_ ?_ | refine CallF.nw ?_ ?_ | refine AppN.mk ?_ | (refine CallS.q ?_; (conv => whnf); first | refine CallG.plain rfl ?_ ?_ | refine CallG.mk rfl ?_ ?_) | (refine CallS.m ?_; (conv => whnf); refine CallM.mk rfl ?_ ?_) | (refine CallS.h ?_; (conv => whnf); refine CallM.mk rfl ?_ ?_) | (refine CallS.b ?_; (conv => whnf); refine CallM.mk rfl ?_ ?_) | (refine CallS.z ?_; (conv => whnf); refine CallM.mk rfl ?_ ?_))
        all_goals (try (conv => whnf))
        all_goals (try (exact Ob.mk (u8_bnd _)))
        all_goals (try (refine Ob.mk ?_; first | exact True.intro | assumption | omega | (try simp only [decide_eq_true_eq, decide_eq_false_iff_not, beq_iff_eq, beq_eq_false_iff_ne, bne_iff_ne, bne_eq_false_iff_eq, ne_eq, Bool.and_eq_true, Bool.or_eq_true, Bool.not_eq_true, Bool.not_eq_false, Bool.not_eq_true', Bool.not_eq_false', Int.toNat_natCast, Int.not_lt, Int.not_le, UInt8.ofNat_toNat, cast_eq] at *; omega)))
        all_goals (try ((show (_:Int) = _); omega))
        all_goals (try (show tupSV _ = _; with_unfolding_all rfl))
        all_goals (try ((show (_ : Nat) ≤ _); (simp <;> omega)))
        all_goals (try ((show (_ : Nat) ≤ _ ∧ (_ : Nat) ≤ _); (simp <;> omega)))
        all_goals (try ((show (_ : Int) ≤ _ ∧ (_ : Int) ≤ _ ∧ (_ : Int) ≤ _ ∧ (_ : Int) ≤ _); (simp <;> omega)))
        all_goals rfl
      all_goals (have hj := (loop_up q2 false ‹_› q1).2 rfl)
      all_goals (subst hj)
      · rw [← nm]
        have hG : rnG s 2 = runT s (s.length + 1) (upTo (stP [47, 62]) s 2) [] [] := rfl
        generalize rnG s 2 = R at *
        refine LoopStop.mk (α := Nat × Nat × List AttrD × List UInt8) (fun a => [(6, .int .i64 (a.2.1 : Nat))]) (fun a => [(1, .box [.int .i64 2, .str (nmG s 2), .own 2, .bool false, .str []]), (2, .own attrTy a.2.2.1)]) 60
          (fun a => a.2.1 ≤ s.length ∧ a.2.2.1.length ≤ a.2.1 ∧ s.length - a.2.1 < a.1 ∧ runT s a.1 a.2.1 a.2.2.1 a.2.2.2 = R) (fun a => a.1) (s.length + 1, upTo (stP [47, 62]) s 2, [], []) ⟨by simp only; omega, by simp, by simp only; omega, hG.symm⟩ ?_ (fun a ha => ?_)
        · repeat' ((conv => whnf); first | (with_reducible rfl) | exact True.intro | (with_reducible exact absTF) | (with_reducible exact absFT) | intro _ | refine And.intro ?_ ?_ | refine Fin.mk ?_ | refine CallG.plain rfl ?_ ?_ | refine CallG.mk rfl ?_ ?_ | refine CallG.nwl rfl ?_ ?_ | refine CallG.nw ?_ ?_ | refine CallF.nwl rfl ?_ ?_ | refine CallF.nw ?_ ?_ | refine AppN.mk ?_ | (refine CallS.q ?_; (conv => whnf); first | refine CallG.plain rfl ?_ ?_ | refine CallG.mk rfl ?_ ?_) | (refine CallS.m ?_; (conv => whnf); refine CallM.mk rfl ?_ ?_) | (refine CallS.h ?_; (conv => whnf); refine CallM.mk rfl ?_ ?_) | (refine CallS.b ?_; (conv => whnf); refine CallM.mk rfl ?_ ?_) | (refine CallS.z ?_; (conv => whnf); refine CallM.mk rfl ?_ ?_))
          all_goals (try (conv => whnf))
          all_goals (try (exact Ob.mk (u8_bnd _)))
          all_goals (try (refine Ob.mk ?_; first | exact True.intro | assumption | omega | (try simp only [decide_eq_true_eq, decide_eq_false_iff_not, beq_iff_eq, beq_eq_false_iff_ne, bne_iff_ne, bne_eq_false_iff_eq, ne_eq, Bool.and_eq_true, Bool.or_eq_true, Bool.not_eq_true, Bool.not_eq_false, Bool.not_eq_true', Bool.not_eq_false', Int.toNat_natCast, Int.not_lt, Int.not_le, UInt8.ofNat_toNat, cast_eq] at *; omega)))
          all_goals (try ((show (_:Int) = _); omega))
          all_goals (try (show tupSV _ = _; with_unfolding_all rfl))
          all_goals (try ((show (_ : Nat) ≤ _); (simp <;> omega)))
          all_goals (try ((show (_ : Nat) ≤ _ ∧ (_ : Nat) ≤ _); (simp <;> omega)))
          all_goals (try ((show (_ : Int) ≤ _ ∧ (_ : Int) ≤ _ ∧ (_ : Int) ≤ _ ∧ (_ : Int) ≤ _); (simp <;> omega)))
          all_goals trace_state
        · obtain ⟨f, i, l, x⟩ := a
          obtain ⟨p1, p3, p4, hR⟩ := ha
          dsimp only at p1 p3 p4 hR
          obtain ⟨f', rfl⟩ : ∃ f', f = f' + 1 := ⟨f - 1, by omega⟩
          have hI := upTo_le blB s i p1
          have tn1 : ∀ n : Nat, ((n : Int) + 1).toNat = n + 1 := fun n => by omega
          have w1 : cOv s (upTo blB s i) = true → T = (0, [], [], false, (s.length : Int), false) := fun h => by rw [hT, ← hR, st1 h]; rfl
          have w5 : cOv s (upTo blB s i) = false → c2B s (upTo blB s i) = false → (((s.getD (upTo blB s i) 0).toNat : Int) == 47) = false → (!(attrR s (upTo blB s i)).2.2.2) = true → T = (0, [], [], false, (s.length : Int), false) := fun a b c d => by rw [hT, ← hR, if_pos (u5 a b c d)]
          have w2 : cOv s (upTo blB s i) = false → c2B s (upTo blB s i) = true → (((s.getD (upTo blB s i) 0).toNat : Int) == 47) = true → T = (2, nmG s 2, [], false, ((upTo blB s i + 2 : Nat) : Int), true) := fun a b c => by rw [hT, ← hR, u2 a b c]; rfl
          have w3 : cOv s (upTo blB s i) = false → c2B s (upTo blB s i) = true → (((s.getD (upTo blB s i) 0).toNat : Int) == 47) = false → T = (2, nmG s 2, [], false, ((upTo blB s i + 1 : Nat) : Int), true) := fun a b c => by rw [hT, ← hR, u3 a b c]; rfl
          repeat' ((conv => whnf); first | (with_reducible rfl) | exact True.intro | (with_reducible exact absTF) | (with_reducible exact absFT) | intro _ | refine And.intro ?_ ?_ | refine Fin.mk ?_ | refine CallG.plain rfl ?_ ?_ | refine CallG.mk rfl ?_ ?_ | refine CallG.nwl rfl ?_ ?_ | refine CallG.nw ?_ ?_ | refine CallF.nwl rfl ?_ ?_ | refine CallF.nw ?_ ?_ | refine AppN.mk ?_ | (refine CallS.q ?_; (conv => whnf); first | refine CallG.plain rfl ?_ ?_ | refine CallG.mk rfl ?_ ?_) | (refine CallS.m ?_; (conv => whnf); refine CallM.mk rfl ?_ ?_) | (refine CallS.h ?_; (conv => whnf); refine CallM.mk rfl ?_ ?_) | (refine CallS.b ?_; (conv => whnf); refine CallM.mk rfl ?_ ?_) | (refine CallS.z ?_; (conv => whnf); refine CallM.mk rfl ?_ ?_))
          all_goals (try (conv => whnf))
          all_goals (try (exact Ob.mk (u8_bnd _)))
          all_goals (try (refine Ob.mk ?_; first | exact True.intro | assumption | omega | (try simp only [decide_eq_true_eq, decide_eq_false_iff_not, beq_iff_eq, beq_eq_false_iff_ne, bne_iff_ne, bne_eq_false_iff_eq, ne_eq, Bool.and_eq_true, Bool.or_eq_true, Bool.not_eq_true, Bool.not_eq_false, Bool.not_eq_true', Bool.not_eq_false', Int.toNat_natCast, Int.not_lt, Int.not_le, UInt8.ofNat_toNat, cast_eq] at *; omega)))
          all_goals (try ((show (_:Int) = _); omega))
          all_goals (try (show tupSV _ = _; with_unfolding_all rfl))
          all_goals (try ((show (_ : Nat) ≤ _); (simp <;> omega)))
          all_goals (try ((show (_ : Nat) ≤ _ ∧ (_ : Nat) ≤ _); (simp <;> omega)))
          all_goals (try ((show (_ : Int) ≤ _ ∧ (_ : Int) ≤ _ ∧ (_ : Int) ≤ _ ∧ (_ : Int) ≤ _); (simp <;> omega)))
          all_goals (try simp only [Int.toNat_natCast, tn1] at *)
          all_goals (try (have q := w1 ‹_›; first | (rw [q]; done) | (rw [q]; rfl)))
          all_goals (try (have hl : upTo blB s i < s.length := (cOv_not s (upTo blB s i)).1 ‹_›; have hN := attrR_le s (upTo blB s i) hl))
          all_goals (try (have q := w5 ‹_› ‹_› ‹_› ‹_›; first | (rw [q]; done) | (rw [q]; rfl)))
          all_goals (try (exfalso; exact absurd ‹((2 : Int) == 2) = false› (by decide)))
          all_goals (try (exfalso; exact absurd ‹((1 : Int) == 2) = true› (by decide)))
          all_goals (try (have q := w2 ‹_› ‹_› ‹_›; first | (rw [q]; done) | (rw [q]; rfl) | (rw [q, ‹(((s.getD (upTo blB s i) 0).toNat : Int) == 47) = true›]; rfl) | (rw [q]; simp only; omega)))
          all_goals (try (have q := w3 ‹_› ‹_› ‹_›; first | (rw [q]; done) | (rw [q]; rfl) | (rw [q, ‹(((s.getD (upTo blB s i) 0).toNat : Int) == 47) = false›]; rfl) | (rw [q]; simp only; omega)))
          all_goals (first | omega | exact ⟨by omega, by omega⟩ | exact ⟨by omega, by omega, by omega⟩ | skip)
          · have q := hR.symm.trans (u4 (f := f') (l := l) (x := x) ‹_› ‹_› ‹_›)
            refine Rnd.mk ⟨(f', upTo blB s i + 1, l, x), ⟨by simp only; omega, by simp only; omega, by simp only; omega, q.symm⟩, by simp only; omega, ?_⟩
            repeat' ((conv => whnf); first | (with_reducible rfl) | exact True.intro | (with_reducible exact absTF) | (with_reducible exact absFT) | intro _ | refine And.intro ?_ ?_ | refine Fin.mk ?_ | refine CallG.plain rfl ?_ ?_ | refine CallG.mk rfl ?_ ?_ | refine CallG.nwl rfl ?_ ?_ | refine CallG.nw ?_ ?_ | refine CallF.nwl rfl ?_ ?_ | refine CallF.nw ?_ ?_ | refine AppN.mk ?_ | (refine CallS.q ?_; (conv => whnf); first | refine CallG.plain rfl ?_ ?_ | refine CallG.mk rfl ?_ ?_) | (refine CallS.m ?_; (conv => whnf); refine CallM.mk rfl ?_ ?_) | (refine CallS.h ?_; (conv => whnf); refine CallM.mk rfl ?_ ?_) | (refine CallS.b ?_; (conv => whnf); refine CallM.mk rfl ?_ ?_) | (refine CallS.z ?_; (conv => whnf); refine CallM.mk rfl ?_ ?_))
            all_goals (try (conv => whnf))
            all_goals (try (exact Ob.mk (u8_bnd _)))
            all_goals (try (refine Ob.mk ?_; first | exact True.intro | assumption | omega | (try simp only [decide_eq_true_eq, decide_eq_false_iff_not, beq_iff_eq, beq_eq_false_iff_ne, bne_iff_ne, bne_eq_false_iff_eq, ne_eq, Bool.and_eq_true, Bool.or_eq_true, Bool.not_eq_true, Bool.not_eq_false, Bool.not_eq_true', Bool.not_eq_false', Int.toNat_natCast, Int.not_lt, Int.not_le, UInt8.ofNat_toNat, cast_eq] at *; omega)))
            all_goals (try ((show (_:Int) = _); omega))
            all_goals (try (show tupSV _ = _; with_unfolding_all rfl))
            all_goals (try ((show (_ : Nat) ≤ _); (simp <;> omega)))
            all_goals (try ((show (_ : Nat) ≤ _ ∧ (_ : Nat) ≤ _); (simp <;> omega)))
            all_goals (try ((show (_ : Int) ≤ _ ∧ (_ : Int) ≤ _ ∧ (_ : Int) ≤ _ ∧ (_ : Int) ≤ _); (simp <;> omega)))
            all_goals (first | rfl | omega | trace_state)
          · have q := hR.symm.trans (u6 (f := f') (l := l) (x := x) ‹_› ‹_› ‹_› ‹_›)
            have hA := addL_len l ((attrR s (upTo blB s i)).1, (attrR s (upTo blB s i)).2.1)
            refine Rnd.mk ⟨(f', (attrR s (upTo blB s i)).2.2.1, addL l ((attrR s (upTo blB s i)).1, (attrR s (upTo blB s i)).2.1), nmT s i), ⟨by simp only; omega, by simp only; omega, by simp only; omega, q.symm⟩, by simp only; omega, ?_⟩
            repeat' ((conv => whnf); first | (with_reducible rfl) | exact True.intro | (with_reducible exact absTF) | (with_reducible exact absFT) | intro _ | refine And.intro ?_ ?_ | refine Fin.mk ?_ | refine CallG.plain rfl ?_ ?_ | refine CallG.mk rfl ?_ ?_ | refine CallG.nwl rfl ?_ ?_ | refine CallG.nw ?_ ?_ | refine CallF.nwl rfl ?_ ?_ | refine CallF.nw ?_ ?_ | refine AppN.mk ?_ | (refine CallS.q ?_; (conv => whnf); first | refine CallG.plain rfl ?_ ?_ | refine CallG.mk rfl ?_ ?_) | (refine CallS.m ?_; (conv => whnf); refine CallM.mk rfl ?_ ?_) | (refine CallS.h ?_; (conv => whnf); refine CallM.mk rfl ?_ ?_) | (refine CallS.b ?_; (conv => whnf); refine CallM.mk rfl ?_ ?_) | (refine CallS.z ?_; (conv => whnf); refine CallM.mk rfl ?_ ?_))
            all_goals (try (conv => whnf))
            all_goals (try (exact Ob.mk (u8_bnd _)))
            all_goals (try (refine Ob.mk ?_; first | exact True.intro | assumption | omega | (try simp only [decide_eq_true_eq, decide_eq_false_iff_not, beq_iff_eq, beq_eq_false_iff_ne, bne_iff_ne, bne_eq_false_iff_eq, ne_eq, Bool.and_eq_true, Bool.or_eq_true, Bool.not_eq_true, Bool.not_eq_false, Bool.not_eq_true', Bool.not_eq_false', Int.toNat_natCast, Int.not_lt, Int.not_le, UInt8.ofNat_toNat, cast_eq] at *; omega)))
            all_goals (try ((show (_:Int) = _); omega))
            all_goals (try (show tupSV _ = _; with_unfolding_all rfl))
            all_goals (try ((show (_ : Nat) ≤ _); (simp <;> omega)))
            all_goals (try ((show (_ : Nat) ≤ _ ∧ (_ : Nat) ≤ _); (simp <;> omega)))
            all_goals (try ((show (_ : Int) ≤ _ ∧ (_ : Int) ≤ _ ∧ (_ : Int) ≤ _ ∧ (_ : Int) ≤ _); (simp <;> omega)))
            all_goals (first | rfl | omega | trace_state)
  · have hT := (rP0 ‹_›).trans (rV (c := false) (k := 1) rfl ‹_›)
    generalize tagP s = T at *
    have nm : nmG s 1 = lowL ((s.take (upTo (stP [47, 62]) s 1)).drop 1) := rfl
    have hJ := upTo_le (stP [47, 62]) s 1 (by omega)
    refine LoopStop.mk (α := Nat) (fun j => [(6, .int .i64 j)]) (fun j => []) 40 (fun j => 1 ≤ j ∧ j ≤ s.length ∧ upTo (stP [47, 62]) s j = upTo (stP [47, 62]) s 1) (fun j => s.length - j) 1 ⟨by omega, by omega, rfl⟩ ?_ (fun j hj => ?_)
    · repeat' ((conv => whnf); first | (with_reducible rfl) | exact True.intro | (with_reducible exact absTF) | (with_reducible exact absFT) | intro _ | refine And.intro ?_ ?_ | refine Fin.mk ?_ | refine CallG.plain rfl ?_ ?_ | refine CallG.mk rfl ?_ ?_ | refine CallG.nwl rfl ?_ ?_ | refine CallG.nw ?_ ?_ | refine CallF.nwl rfl ?_ ?_ | refine CallF.nw ?_ ?_ | refine AppN.mk ?_ | (refine CallS.q ?_; (conv => whnf); first | refine CallG.plain rfl ?_ ?_ | refine CallG.mk rfl ?_ ?_) | (refine CallS.m ?_; (conv => whnf); refine CallM.mk rfl ?_ ?_) | (refine CallS.h ?_; (conv => whnf); refine CallM.mk rfl ?_ ?_) | (refine CallS.b ?_; (conv => whnf); refine CallM.mk rfl ?_ ?_) | (refine CallS.z ?_; (conv => whnf); refine CallM.mk rfl ?_ ?_))
      all_goals (try (conv => whnf))
      all_goals (try (exact Ob.mk (u8_bnd _)))
      all_goals (try (refine Ob.mk ?_; first | exact True.intro | assumption | omega | (try simp only [decide_eq_true_eq, decide_eq_false_iff_not, beq_iff_eq, beq_eq_false_iff_ne, bne_iff_ne, bne_eq_false_iff_eq, ne_eq, Bool.and_eq_true, Bool.or_eq_true, Bool.not_eq_true, Bool.not_eq_false, Bool.not_eq_true', Bool.not_eq_false', Int.toNat_natCast, Int.not_lt, Int.not_le, UInt8.ofNat_toNat, cast_eq] at *; omega)))
      all_goals (try ((show (_:Int) = _); omega))
      all_goals (try (show tupSV _ = _; with_unfolding_all rfl))
      all_goals (try ((show (_ : Nat) ≤ _); (simp <;> omega)))
      all_goals (try ((show (_ : Nat) ≤ _ ∧ (_ : Nat) ≤ _); (simp <;> omega)))
      all_goals (try ((show (_ : Int) ≤ _ ∧ (_ : Int) ≤ _ ∧ (_ : Int) ≤ _ ∧ (_ : Int) ≤ _); (simp <;> omega)))
      all_goals rfl
    · obtain ⟨q0, q1, q2⟩ := hj
      have cc : (decide ((j : Int) < (s.length : Int)) && ((s.getD ((j : Int)).toNat 0).toNat : Int) != 47 && ((s.getD ((j : Int)).toNat 0).toNat : Int) != 62 && !W.isSp ((s.getD ((j : Int)).toNat 0).toNat : Int)) = (decide (j < s.length) && stP [47, 62] (s.getD j 0)) := by
        rw [Int.toNat_natCast, dlt, ← st2_eq]
        cases decide (j < s.length) <;> simp
      repeat' ((conv => whnf); first | (with_reducible rfl) | exact True.intro | (with_reducible exact absTF) | (with_reducible exact absFT) | intro _ | refine And.intro ?_ ?_ | refine Fin.mk ?_ | refine CallG.plain rfl ?_ ?_ | refine CallG.mk rfl ?_ ?_ | refine CallG.nwl rfl ?_ ?_ | refine CallG.nw ?_ ?_ | refine CallF.nwl rfl ?_ ?_ | refine CallF.nw ?_ ?_ | refine AppN.mk ?_ | (refine CallS.q ?_; (conv => whnf); first | refine CallG.plain rfl ?_ ?_ | refine CallG.mk rfl ?_ ?_) | (refine CallS.m ?_; (conv => whnf); refine CallM.mk rfl ?_ ?_) | (refine CallS.h ?_; (conv => whnf); refine CallM.mk rfl ?_ ?_) | (refine CallS.b ?_; (conv => whnf); refine CallM.mk rfl ?_ ?_) | (refine CallS.z ?_; (conv => whnf); refine CallM.mk rfl ?_ ?_))
      all_goals (try (conv => whnf))
      all_goals (try (exact Ob.mk (u8_bnd _)))
      all_goals (try (refine Ob.mk ?_; first | exact True.intro | assumption | omega | (try simp only [decide_eq_true_eq, decide_eq_false_iff_not, beq_iff_eq, beq_eq_false_iff_ne, bne_iff_ne, bne_eq_false_iff_eq, ne_eq, Bool.and_eq_true, Bool.or_eq_true, Bool.not_eq_true, Bool.not_eq_false, Bool.not_eq_true', Bool.not_eq_false', Int.toNat_natCast, Int.not_lt, Int.not_le, UInt8.ofNat_toNat, cast_eq] at *; omega)))
      all_goals (try ((show (_:Int) = _); omega))
      all_goals (try (show tupSV _ = _; with_unfolding_all rfl))
      all_goals (try ((show (_ : Nat) ≤ _); (simp <;> omega)))
      all_goals (try ((show (_ : Nat) ≤ _ ∧ (_ : Nat) ≤ _); (simp <;> omega)))
      all_goals (try ((show (_ : Int) ≤ _ ∧ (_ : Int) ≤ _ ∧ (_ : Int) ≤ _ ∧ (_ : Int) ≤ _); (simp <;> omega)))
      all_goals (try simp only [cc] at *)
      all_goals (try simp only [Int.toNat_natCast, n1, n2] at *)
      · obtain ⟨h1, h2⟩ := (loop_up q2 true ‹_› q1).1 rfl
        refine Rnd.mk ⟨j + 1, ⟨by omega, by omega, h2⟩, by omega, ?_⟩
        repeat' ((conv => whnf); first | (with_reducible rfl) | exact True.intro | (with_reducible exact absTF) | (with_reducible exact absFT) | intro _ | refine And.intro ?_ ?_ | refine Fin.mk ?_ | refine CallG.plain rfl ?_ ?_ | refine CallG.mk rfl ?_ ?_ | refine CallG.nwl rfl ?_ ?_ | refine CallG.nw ?_ ?_ | refine CallF.nwl rfl ?_ ?_ | refine CallF.nw ?_ ?_ | refine AppN.mk ?_ | (refine CallS.q ?_; (conv => whnf); first | refine CallG.plain rfl ?_ ?_ | refine CallG.mk rfl ?_ ?_) | (refine CallS.m ?_; (conv => whnf); refine CallM.mk rfl ?_ ?_) | (refine CallS.h ?_; (conv => whnf); refine CallM.mk rfl ?_ ?_) | (refine CallS.b ?_; (conv => whnf); refine CallM.mk rfl ?_ ?_) | (refine CallS.z ?_; (conv => whnf); refine CallM.mk rfl ?_ ?_))
        all_goals (try (conv => whnf))
        all_goals (try (exact Ob.mk (u8_bnd _)))
        all_goals (try (refine Ob.mk ?_; first | exact True.intro | assumption | omega | (try simp only [decide_eq_true_eq, decide_eq_false_iff_not, beq_iff_eq, beq_eq_false_iff_ne, bne_iff_ne, bne_eq_false_iff_eq, ne_eq, Bool.and_eq_true, Bool.or_eq_true, Bool.not_eq_true, Bool.not_eq_false, Bool.not_eq_true', Bool.not_eq_false', Int.toNat_natCast, Int.not_lt, Int.not_le, UInt8.ofNat_toNat, cast_eq] at *; omega)))
        all_goals (try ((show (_:Int) = _); omega))
        all_goals (try (show tupSV _ = _; with_unfolding_all rfl))
        all_goals (try ((show (_ : Nat) ≤ _); (simp <;> omega)))
        all_goals (try ((show (_ : Nat) ≤ _ ∧ (_ : Nat) ≤ _); (simp <;> omega)))
        all_goals (try ((show (_ : Int) ≤ _ ∧ (_ : Int) ≤ _ ∧ (_ : Int) ≤ _ ∧ (_ : Int) ≤ _); (simp <;> omega)))
        all_goals rfl
      all_goals (have hj := (loop_up q2 false ‹_› q1).2 rfl)
      all_goals (subst hj)
      · rw [← nm]
        have hG : rnG s 1 = runT s (s.length + 1) (upTo (stP [47, 62]) s 1) [] [] := rfl
        generalize rnG s 1 = R at *
        refine LoopStop.mk (α := Nat × Nat × List AttrD × List UInt8) (fun a => [(6, .int .i64 (a.2.1 : Nat))]) (fun a => [(1, .box [.int .i64 1, .str (nmG s 1), .own 2, .bool false, .str []]), (2, .own attrTy a.2.2.1)]) 60
          (fun a => a.2.1 ≤ s.length ∧ a.2.2.1.length ≤ a.2.1 ∧ s.length - a.2.1 < a.1 ∧ runT s a.1 a.2.1 a.2.2.1 a.2.2.2 = R) (fun a => a.1) (s.length + 1, upTo (stP [47, 62]) s 1, [], []) ⟨by simp only; omega, by simp, by simp only; omega, hG.symm⟩ ?_ (fun a ha => ?_)
        · repeat' ((conv => whnf); first | (with_reducible rfl) | exact True.intro | (with_reducible exact absTF) | (with_reducible exact absFT) | intro _ | refine And.intro ?_ ?_ | refine Fin.mk ?_ | refine CallG.plain rfl ?_ ?_ | refine CallG.mk rfl ?_ ?_ | refine CallG.nwl rfl ?_ ?_ | refine CallG.nw ?_ ?_ | refine CallF.nwl rfl ?_ ?_ | refine CallF.nw ?_ ?_ | refine AppN.mk ?_ | (refine CallS.q ?_; (conv => whnf); first | refine CallG.plain rfl ?_ ?_ | refine CallG.mk rfl ?_ ?_) | (refine CallS.m ?_; (conv => whnf); refine CallM.mk rfl ?_ ?_) | (refine CallS.h ?_; (conv => whnf); refine CallM.mk rfl ?_ ?_) | (refine CallS.b ?_; (conv => whnf); refine CallM.mk rfl ?_ ?_) | (refine CallS.z ?_; (conv => whnf); refine CallM.mk rfl ?_ ?_))
          all_goals (try (conv => whnf))
          all_goals (try (exact Ob.mk (u8_bnd _)))
          all_goals (try (refine Ob.mk ?_; first | exact True.intro | assumption | omega | (try simp only [decide_eq_true_eq, decide_eq_false_iff_not, beq_iff_eq, beq_eq_false_iff_ne, bne_iff_ne, bne_eq_false_iff_eq, ne_eq, Bool.and_eq_true, Bool.or_eq_true, Bool.not_eq_true, Bool.not_eq_false, Bool.not_eq_true', Bool.not_eq_false', Int.toNat_natCast, Int.not_lt, Int.not_le, UInt8.ofNat_toNat, cast_eq] at *; omega)))
          all_goals (try ((show (_:Int) = _); omega))
          all_goals (try (show tupSV _ = _; with_unfolding_all rfl))
          all_goals (try ((show (_ : Nat) ≤ _); (simp <;> omega)))
          all_goals (try ((show (_ : Nat) ≤ _ ∧ (_ : Nat) ≤ _); (simp <;> omega)))
          all_goals (try ((show (_ : Int) ≤ _ ∧ (_ : Int) ≤ _ ∧ (_ : Int) ≤ _ ∧ (_ : Int) ≤ _); (simp <;> omega)))
          all_goals trace_state
        · obtain ⟨f, i, l, x⟩ := a
          obtain ⟨p1, p3, p4, hR⟩ := ha
          dsimp only at p1 p3 p4 hR
          obtain ⟨f', rfl⟩ : ∃ f', f = f' + 1 := ⟨f - 1, by omega⟩
          have hI := upTo_le blB s i p1
          have tn1 : ∀ n : Nat, ((n : Int) + 1).toNat = n + 1 := fun n => by omega
          have w1 : cOv s (upTo blB s i) = true → T = (0, [], [], false, (s.length : Int), false) := fun h => by rw [hT, ← hR, st1 h]; rfl
          have w5 : cOv s (upTo blB s i) = false → c2B s (upTo blB s i) = false → (((s.getD (upTo blB s i) 0).toNat : Int) == 47) = false → (!(attrR s (upTo blB s i)).2.2.2) = true → T = (0, [], [], false, (s.length : Int), false) := fun a b c d => by rw [hT, ← hR, if_pos (u5 a b c d)]
          have w2 : cOv s (upTo blB s i) = false → c2B s (upTo blB s i) = true → (((s.getD (upTo blB s i) 0).toNat : Int) == 47) = true → T = (1, nmG s 1, l, true, ((upTo blB s i + 2 : Nat) : Int), true) := fun a b c => by rw [hT, ← hR, u2 a b c]; rfl
          have w3 : cOv s (upTo blB s i) = false → c2B s (upTo blB s i) = true → (((s.getD (upTo blB s i) 0).toNat : Int) == 47) = false → T = (1, nmG s 1, l, false, ((upTo blB s i + 1 : Nat) : Int), true) := fun a b c => by rw [hT, ← hR, u3 a b c]; rfl
          repeat' ((conv => whnf); first | (with_reducible rfl) | exact True.intro | (with_reducible exact absTF) | (with_reducible exact absFT) | intro _ | refine And.intro ?_ ?_ | refine Fin.mk ?_ | refine CallG.plain rfl ?_ ?_ | refine CallG.mk rfl ?_ ?_ | refine CallG.nwl rfl ?_ ?_ | refine CallG.nw ?_ ?_ | refine CallF.nwl rfl ?_ ?_ | refine CallF.nw ?_ ?_ | refine AppN.mk ?_ | (refine CallS.q ?_; (conv => whnf); first | refine CallG.plain rfl ?_ ?_ | refine CallG.mk rfl ?_ ?_) | (refine CallS.m ?_; (conv => whnf); refine CallM.mk rfl ?_ ?_) | (refine CallS.h ?_; (conv => whnf); refine CallM.mk rfl ?_ ?_) | (refine CallS.b ?_; (conv => whnf); refine CallM.mk rfl ?_ ?_) | (refine CallS.z ?_; (conv => whnf); refine CallM.mk rfl ?_ ?_))
          all_goals (try (conv => whnf))
          all_goals (try (exact Ob.mk (u8_bnd _)))
          all_goals (try (refine Ob.mk ?_; first | exact True.intro | assumption | omega | (try simp only [decide_eq_true_eq, decide_eq_false_iff_not, beq_iff_eq, beq_eq_false_iff_ne, bne_iff_ne, bne_eq_false_iff_eq, ne_eq, Bool.and_eq_true, Bool.or_eq_true, Bool.not_eq_true, Bool.not_eq_false, Bool.not_eq_true', Bool.not_eq_false', Int.toNat_natCast, Int.not_lt, Int.not_le, UInt8.ofNat_toNat, cast_eq] at *; omega)))
          all_goals (try ((show (_:Int) = _); omega))
          all_goals (try (show tupSV _ = _; with_unfolding_all rfl))
          all_goals (try ((show (_ : Nat) ≤ _); (simp <;> omega)))
          all_goals (try ((show (_ : Nat) ≤ _ ∧ (_ : Nat) ≤ _); (simp <;> omega)))
          all_goals (try ((show (_ : Int) ≤ _ ∧ (_ : Int) ≤ _ ∧ (_ : Int) ≤ _ ∧ (_ : Int) ≤ _); (simp <;> omega)))
          all_goals (try simp only [Int.toNat_natCast, tn1] at *)
          all_goals (try (have q := w1 ‹_›; first | (rw [q]; done) | (rw [q]; rfl)))
          all_goals (try (have hl : upTo blB s i < s.length := (cOv_not s (upTo blB s i)).1 ‹_›; have hN := attrR_le s (upTo blB s i) hl))
          all_goals (try (have q := w5 ‹_› ‹_› ‹_› ‹_›; first | (rw [q]; done) | (rw [q]; rfl)))
          all_goals (try (exfalso; exact absurd ‹((2 : Int) == 2) = false› (by decide)))
          all_goals (try (exfalso; exact absurd ‹((1 : Int) == 2) = true› (by decide)))
          all_goals (try (have q := w2 ‹_› ‹_› ‹_›; first | (rw [q]; done) | (rw [q]; rfl) | (rw [q, ‹(((s.getD (upTo blB s i) 0).toNat : Int) == 47) = true›]; rfl) | (rw [q]; simp only; omega)))
          all_goals (try (have q := w3 ‹_› ‹_› ‹_›; first | (rw [q]; done) | (rw [q]; rfl) | (rw [q, ‹(((s.getD (upTo blB s i) 0).toNat : Int) == 47) = false›]; rfl) | (rw [q]; simp only; omega)))
          all_goals (first | omega | exact ⟨by omega, by omega⟩ | exact ⟨by omega, by omega, by omega⟩ | skip)
          · have q := hR.symm.trans (u4 (f := f') (l := l) (x := x) ‹_› ‹_› ‹_›)
            refine Rnd.mk ⟨(f', upTo blB s i + 1, l, x), ⟨by simp only; omega, by simp only; omega, by simp only; omega, q.symm⟩, by simp only; omega, ?_⟩
            repeat' ((conv => whnf); first | (with_reducible rfl) | exact True.intro | (with_reducible exact absTF) | (with_reducible exact absFT) | intro _ | refine And.intro ?_ ?_ | refine Fin.mk ?_ | refine CallG.plain rfl ?_ ?_ | refine CallG.mk rfl ?_ ?_ | refine CallG.nwl rfl ?_ ?_ | refine CallG.nw ?_ ?_ | refine CallF.nwl rfl ?_ ?_ | refine CallF.nw ?_ ?_ | refine AppN.mk ?_ | (refine CallS.q ?_; (conv => whnf); first | refine CallG.plain rfl ?_ ?_ | refine CallG.mk rfl ?_ ?_) | (refine CallS.m ?_; (conv => whnf); refine CallM.mk rfl ?_ ?_) | (refine CallS.h ?_; (conv => whnf); refine CallM.mk rfl ?_ ?_) | (refine CallS.b ?_; (conv => whnf); refine CallM.mk rfl ?_ ?_) | (refine CallS.z ?_; (conv => whnf); refine CallM.mk rfl ?_ ?_))
            all_goals (try (conv => whnf))
            all_goals (try (exact Ob.mk (u8_bnd _)))
            all_goals (try (refine Ob.mk ?_; first | exact True.intro | assumption | omega | (try simp only [decide_eq_true_eq, decide_eq_false_iff_not, beq_iff_eq, beq_eq_false_iff_ne, bne_iff_ne, bne_eq_false_iff_eq, ne_eq, Bool.and_eq_true, Bool.or_eq_true, Bool.not_eq_true, Bool.not_eq_false, Bool.not_eq_true', Bool.not_eq_false', Int.toNat_natCast, Int.not_lt, Int.not_le, UInt8.ofNat_toNat, cast_eq] at *; omega)))
            all_goals (try ((show (_:Int) = _); omega))
            all_goals (try (show tupSV _ = _; with_unfolding_all rfl))
            all_goals (try ((show (_ : Nat) ≤ _); (simp <;> omega)))
            all_goals (try ((show (_ : Nat) ≤ _ ∧ (_ : Nat) ≤ _); (simp <;> omega)))
            all_goals (try ((show (_ : Int) ≤ _ ∧ (_ : Int) ≤ _ ∧ (_ : Int) ≤ _ ∧ (_ : Int) ≤ _); (simp <;> omega)))
            all_goals (first | rfl | omega | trace_state)
          · have q := hR.symm.trans (u6 (f := f') (l := l) (x := x) ‹_› ‹_› ‹_› ‹_›)
            have hA := addL_len l ((attrR s (upTo blB s i)).1, (attrR s (upTo blB s i)).2.1)
            refine Rnd.mk ⟨(f', (attrR s (upTo blB s i)).2.2.1, addL l ((attrR s (upTo blB s i)).1, (attrR s (upTo blB s i)).2.1), nmT s i), ⟨by simp only; omega, by simp only; omega, by simp only; omega, q.symm⟩, by simp only; omega, ?_⟩
            repeat' ((conv => whnf); first | (with_reducible rfl) | exact True.intro | (with_reducible exact absTF) | (with_reducible exact absFT) | intro _ | refine And.intro ?_ ?_ | refine Fin.mk ?_ | refine CallG.plain rfl ?_ ?_ | refine CallG.mk rfl ?_ ?_ | refine CallG.nwl rfl ?_ ?_ | refine CallG.nw ?_ ?_ | refine CallF.nwl rfl ?_ ?_ | refine CallF.nw ?_ ?_ | refine AppN.mk ?_ | (refine CallS.q ?_; (conv => whnf); first | refine CallG.plain rfl ?_ ?_ | refine CallG.mk rfl ?_ ?_) | (refine CallS.m ?_; (conv => whnf); refine CallM.mk rfl ?_ ?_) | (refine CallS.h ?_; (conv => whnf); refine CallM.mk rfl ?_ ?_) | (refine CallS.b ?_; (conv => whnf); refine CallM.mk rfl ?_ ?_) | (refine CallS.z ?_; (conv => whnf); refine CallM.mk rfl ?_ ?_))
            all_goals (try (conv => whnf))
            all_goals (try (exact Ob.mk (u8_bnd _)))
            all_goals (try (refine Ob.mk ?_; first | exact True.intro | assumption | omega | (try simp only [decide_eq_true_eq, decide_eq_false_iff_not, beq_iff_eq, beq_eq_false_iff_ne, bne_iff_ne, bne_eq_false_iff_eq, ne_eq, Bool.and_eq_true, Bool.or_eq_true, Bool.not_eq_true, Bool.not_eq_false, Bool.not_eq_true', Bool.not_eq_false', Int.toNat_natCast, Int.not_lt, Int.not_le, UInt8.ofNat_toNat, cast_eq] at *; omega)))
            all_goals (try ((show (_:Int) = _); omega))
            all_goals (try (show tupSV _ = _; with_unfolding_all rfl))
            all_goals (try ((show (_ : Nat) ≤ _); (simp <;> omega)))
            all_goals (try ((show (_ : Nat) ≤ _ ∧ (_ : Nat) ≤ _); (simp <;> omega)))
            all_goals (try ((show (_ : Int) ≤ _ ∧ (_ : Int) ≤ _ ∧ (_ : Int) ≤ _ ∧ (_ : Int) ≤ _); (simp <;> omega)))
            all_goals (first | rfl | omega | trace_state)
end Go.Vc
