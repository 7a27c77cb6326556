/- A part of the proof: lemmas and walks that the last text of the claim joins; no condition. -/
import Derived.Test.YtkgklfnnopiajaaOrderTellsTE
import Derived.Test.YtkgklfnnopiajaaOrderTellsVF
set_option linter.unusedVariables false
set_option linter.unusedSimpArgs false
namespace Go.Vc
open Go.Proofs
set_option linter.unusedVariables false
set_option maxRecDepth 10000
set_option linter.unusedSimpArgs false
instance f39 (l : List Int) (i j : Int) : FnM BB 37 [.own 0, .int .i64 i, .int .i64 j] [(0, .own intTy l)] (0 ≤ i ∧ i ≤ j ∧ j ≤ l.length) (.own 0) [(0, .own intTy (l.take i.toNat ++ l.drop j.toNat))] :=
  fnm_delete (B := BB) Try.laysNm223 rfl Try.call37 l i j
instance f38 (l : List Int) (i x : Int) : FnM BB 33 [.own 0, .int .i64 i, .own 1] [(0, .own intTy l), (1, .own intTy [x])] (0 ≤ i ∧ i ≤ l.length ∧ l.length ≤ 100000) (.own 0) [(0, .own intTy (l.take i.toNat ++ x :: l.drop i.toNat)), (1, .own intTy [x])] :=
  fnm_insert (B := BB) Try.laysNm221 rfl Try.call33 l i x
def addT (l : List NodeD) (n : NodeD) : List NodeD := l ++ [(n.1, n.2.1, n.2.2.1, n.2.2.2.1, n.2.2.2.2.1, -1, [])]
instance f12 (l : List NodeD) (k s : Int) (nm : List UInt8) (at_ : List AttrD) (d : List UInt8) (up : Int) (kids : List Int) :
    FnM BB 27 [.loc 0 0, .agg [.int .i64 k, .int .i64 s, .str nm, .rd attrTy at_, .str d, .int .i64 up, .rd intTy kids]] [(0, .box [.own 1]), (1, .own nodeTy l)] (l.length ≤ 100000 ∧ at_.length ≤ 100000)
      (.int .i64 l.length) [(0, .box [.own 1]), (1, .own nodeTy (addT l (k, s, nm, at_, d, up, kids)))] := by
  refine FnM.intro (N := 32) [0, 1, 3, 4] [(1, [0, 0, 0, 0, 1, 0, 1, 0, 1, 0, 1, 0, 1, 1, 0, 1, 1, 1, 3, 0, 0, 3])] 2 Try.call27 Try.func27 rfl rfl (by kernel_rfl) (fun hpre => ?_)
  obtain ⟨hp1, hp2⟩ := hpre
  repeat' ((conv => whnf); first | (with_reducible rfl) | exact True.intro | (with_reducible exact absTF) | (with_reducible exact absFT) | intro _ | refine And.intro ?_ ?_ | refine Fin.mk ?_ | refine CallG.plain rfl ?_ ?_ | refine CallG.mk rfl ?_ ?_ | refine CallG.nwl rfl ?_ ?_ | refine CallG.nw ?_ ?_ | refine CallF.nwl rfl ?_ ?_ | refine CallF.nw ?_ ?_ | refine AppN.mk ?_ | (refine CallS.q ?_; (conv => whnf); first | refine CallG.plain rfl ?_ ?_ | refine CallG.mk rfl ?_ ?_) | (refine CallS.m ?_; (conv => whnf); refine CallM.mk rfl ?_ ?_) | (refine CallS.h ?_; (conv => whnf); refine CallM.mk rfl ?_ ?_) | (refine CallS.b ?_; (conv => whnf); refine CallM.mk rfl ?_ ?_) | (refine CallS.z ?_; (conv => whnf); refine CallM.mk rfl ?_ ?_))
  all_goals (try (conv => whnf))
  all_goals (try (exact Ob.mk (u8_bnd _)))
  all_goals (try (refine Ob.mk ?_; first | exact True.intro | assumption | omega | (try simp only [decide_eq_true_eq, decide_eq_false_iff_not, beq_iff_eq, beq_eq_false_iff_ne, bne_iff_ne, bne_eq_false_iff_eq, ne_eq, Bool.and_eq_true, Bool.or_eq_true, Bool.not_eq_true, Bool.not_eq_false, Bool.not_eq_true', Bool.not_eq_false', Int.toNat_natCast, Int.not_lt, Int.not_le, UInt8.ofNat_toNat, cast_eq] at *; omega)))
  all_goals (try ((show (_:Int) = _); omega))
  all_goals (try (show tupSV _ = _; with_unfolding_all rfl))
  all_goals (try ((show (_ : Nat) ≤ _); (simp <;> omega)))
  all_goals (try ((show (_ : Nat) ≤ _ ∧ (_ : Nat) ≤ _); (simp <;> omega)))
  all_goals (try ((show (_ : Int) ≤ _ ∧ (_ : Int) ≤ _ ∧ (_ : Int) ≤ _ ∧ (_ : Int) ≤ _); (simp <;> omega)))
  · simp
  · rfl
def setKids (n : NodeD) (k : List Int) : NodeD := (n.1, n.2.1, n.2.2.1, n.2.2.2.1, n.2.2.2.2.1, n.2.2.2.2.2.1, k)
def setUp (n : NodeD) (u : Int) : NodeD := (n.1, n.2.1, n.2.2.1, n.2.2.2.1, n.2.2.2.2.1, u, n.2.2.2.2.2.2)
def cutA (l : List NodeD) (kid : Int) : List NodeD :=
  if placeT l kid ≥ 0 then l.set (nd l kid).up.toNat (setKids (nd l (nd l kid).up) ((nd l (nd l kid).up).kids.take (placeT l kid).toNat ++ (nd l (nd l kid).up).kids.drop (placeT l kid + 1).toNat)) else l
def cutT (l : List NodeD) (kid : Int) : List NodeD :=
  if kid ≠ 0 ∧ isT l kid = true then (cutA l kid).set kid.toNat (setUp (nd (cutA l kid) kid) (-1)) else cutA l kid
theorem isT_set {l : List NodeD} {i : Nat} {n : NodeD} {k : Int} : isT (l.set i n) k = isT l k := by simp [isT]
theorem ix_lt {l : List Int} {w : Int} (h : ixOf l w ≥ 0) : ixOf l w < l.length := by
  unfold ixOf at h ⊢
  split at h
  · rename_i hc
    rw [if_pos hc]
    have := List.idxOf_lt_length_of_mem (a := w) (l := l) (by simpa using hc)
    omega
  · omega
theorem place_nonneg {l : List NodeD} {kid : Int} (h : placeT l kid ≥ 0) : isT l kid = true ∧ isT l (nd l kid).up = true ∧ placeT l kid < (nd l (nd l kid).up).kids.length := by
  unfold placeT at h ⊢
  split at h
  · rename_i hc
    rw [if_pos hc]
    simp only [Bool.and_eq_true] at hc
    exact ⟨hc.1, hc.2, ix_lt h⟩
  · omega
theorem small_at {l : List NodeD} (h : smallT l = true) (i : Int) (hi : isT l i = true) : (nd l i).2.2.2.1.length ≤ 1000 ∧ (nd l i).kids.length ≤ 1000 := by
  simp only [smallT, Bool.and_eq_true, List.all_eq_true, decide_eq_true_eq] at h
  obtain ⟨h1, h2⟩ := isT_iff.1 hi
  refine h.2 (nd l i) ?_
  have : i.toNat < l.length := by omega
  simp [nd, List.getD, List.getElem?_eq_getElem this]
theorem small_len {l : List NodeD} (h : smallT l = true) : l.length ≤ 1000 := by
  simp only [smallT, Bool.and_eq_true, decide_eq_true_eq] at h
  exact h.1
instance f15 (l : List NodeD) (kid : Int) : FnM BB 32 [.loc 0 0, .int .i64 kid] [(0, .box [.own 1]), (1, .own nodeTy l)] (smallT l = true)
      (.tup []) [(0, .box [.own 1]), (1, .own nodeTy (cutT l kid))] := by
  refine FnM.intro (N := 54) [0, 1, 4, 5, 12, 46] [(2, [0, 0, 0, 1, 0, 0, 0, 1, 0, 1, 1, 1, 3, 3])] 2 Try.call32 Try.func32 rfl rfl (by kernel_rfl) (fun hpre => ?_)
  have H : placeT l kid ≥ 0 → (0 ≤ kid ∧ kid < l.length) ∧ (0 ≤ (nd l kid).up ∧ (nd l kid).up < l.length) ∧ placeT l kid < (nd l (nd l kid).up).kids.length ∧ (nd l (nd l kid).up).kids.length ≤ 1000 := by
    intro h
    obtain ⟨h1, h2, h3⟩ := place_nonneg h
    exact ⟨isT_iff.1 h1, isT_iff.1 h2, h3, (small_at hpre _ h2).2⟩
  by_cases h0 : placeT l kid ≥ 0
  · obtain ⟨f1, f2, f3, f4⟩ := H h0
    clear H
    repeat' ((conv => whnf); first | (with_reducible rfl) | exact True.intro | (with_reducible exact absTF) | (with_reducible exact absFT) | intro _ | refine And.intro ?_ ?_ | refine Fin.mk ?_ | refine CallG.plain rfl ?_ ?_ | refine CallG.mk rfl ?_ ?_ | refine CallG.nwl rfl ?_ ?_ | refine CallG.nw ?_ ?_ | refine CallF.nwl rfl ?_ ?_ | refine CallF.nw ?_ ?_ | refine AppN.mk ?_ | (refine CallS.q ?_; (conv => whnf); first | refine CallG.plain rfl ?_ ?_ | refine CallG.mk rfl ?_ ?_) | (refine CallS.m ?_; (conv => whnf); refine CallM.mk rfl ?_ ?_) | (refine CallS.h ?_; (conv => whnf); refine CallM.mk rfl ?_ ?_) | (refine CallS.b ?_; (conv => whnf); refine CallM.mk rfl ?_ ?_) | (refine CallS.z ?_; (conv => whnf); refine CallM.mk rfl ?_ ?_))
    all_goals (try (conv => whnf))
    all_goals (try (exact Ob.mk (u8_bnd _)))
    all_goals (try (refine Ob.mk ?_; first | exact True.intro | assumption | omega | (try simp only [decide_eq_true_eq, decide_eq_false_iff_not, beq_iff_eq, beq_eq_false_iff_ne, bne_iff_ne, bne_eq_false_iff_eq, ne_eq, Bool.and_eq_true, Bool.or_eq_true, Bool.not_eq_true, Bool.not_eq_false, Bool.not_eq_true', Bool.not_eq_false', Int.toNat_natCast, Int.not_lt, Int.not_le, UInt8.ofNat_toNat, cast_eq] at *; omega)))
    all_goals (try ((show (_:Int) = _); omega))
    all_goals (try (show tupSV _ = _; with_unfolding_all rfl))
    all_goals (try ((show (_ : Nat) ≤ _); (simp <;> omega)))
    all_goals (try ((show (_ : Nat) ≤ _ ∧ (_ : Nat) ≤ _); (simp <;> omega)))
    all_goals (try ((show (_ : Int) ≤ _ ∧ (_ : Int) ≤ _ ∧ (_ : Int) ≤ _ ∧ (_ : Int) ≤ _); (simp <;> omega)))
    all_goals (first
      | (show (nd l kid).up.toNat < _; omega)
      | exact Nat.le_trans f4 (by omega)
      | (show 0 ≤ placeT l kid ∧ _; refine ⟨h0, by omega, ?_⟩; show placeT l kid + 1 ≤ ((nd l (nd l kid).up).kids.length : Int); omega)
      | exact isT_iff.1 ((Bool.and_eq_true_iff.1 ‹(_ && _) = true›).2)
      | skip)
    · rename_i h
      have h := Bool.and_eq_true_iff.1 h
      have h2 : isT (cutA l kid) kid = true := by rw [cutA, if_pos h0]; exact h.2
      have h3 : isT l kid = true := by have := h.2; rw [isT_set] at this; exact this
      rw [cutT, if_pos ⟨by simpa using h.1, h3⟩, cutA, if_pos h0]
      rfl
    · rename_i h
      have h1 : ¬ (kid ≠ 0 ∧ isT l kid = true) := fun hc => by
        rw [isT_set] at h
        simp [hc.1, hc.2] at h
      rw [cutT, if_neg h1, cutA, if_pos h0]
      rfl
    all_goals (exfalso; have := of_decide_eq_false ‹decide (placeT l kid ≥ 0) = false›; exact this h0)
  · have h1 : decide (placeT l kid ≥ 0) = false := decide_eq_false h0
    clear H
    repeat' ((conv => whnf); first | (with_reducible rfl) | exact True.intro | (with_reducible exact absTF) | (with_reducible exact absFT) | intro _ | refine And.intro ?_ ?_ | refine Fin.mk ?_ | refine CallG.plain rfl ?_ ?_ | refine CallG.mk rfl ?_ ?_ | refine CallG.nwl rfl ?_ ?_ | refine CallG.nw ?_ ?_ | refine CallF.nwl rfl ?_ ?_ | refine CallF.nw ?_ ?_ | refine AppN.mk ?_ | (refine CallS.q ?_; (conv => whnf); first | refine CallG.plain rfl ?_ ?_ | refine CallG.mk rfl ?_ ?_) | (refine CallS.m ?_; (conv => whnf); refine CallM.mk rfl ?_ ?_) | (refine CallS.h ?_; (conv => whnf); refine CallM.mk rfl ?_ ?_) | (refine CallS.b ?_; (conv => whnf); refine CallM.mk rfl ?_ ?_) | (refine CallS.z ?_; (conv => whnf); refine CallM.mk rfl ?_ ?_))
    all_goals (try (conv => whnf))
    all_goals (try (exact Ob.mk (u8_bnd _)))
    all_goals (try (refine Ob.mk ?_; first | exact True.intro | assumption | omega | (try simp only [decide_eq_true_eq, decide_eq_false_iff_not, beq_iff_eq, beq_eq_false_iff_ne, bne_iff_ne, bne_eq_false_iff_eq, ne_eq, Bool.and_eq_true, Bool.or_eq_true, Bool.not_eq_true, Bool.not_eq_false, Bool.not_eq_true', Bool.not_eq_false', Int.toNat_natCast, Int.not_lt, Int.not_le, UInt8.ofNat_toNat, cast_eq] at *; omega)))
    all_goals (try ((show (_:Int) = _); omega))
    all_goals (try (show tupSV _ = _; with_unfolding_all rfl))
    all_goals (try ((show (_ : Nat) ≤ _); (simp <;> omega)))
    all_goals (try ((show (_ : Nat) ≤ _ ∧ (_ : Nat) ≤ _); (simp <;> omega)))
    all_goals (try ((show (_ : Int) ≤ _ ∧ (_ : Int) ≤ _ ∧ (_ : Int) ≤ _ ∧ (_ : Int) ≤ _); (simp <;> omega)))
    all_goals (first
      | (exfalso; exact h0 (of_decide_eq_true ‹decide (placeT l kid ≥ 0) = true›))
      | exact isT_iff.1 ((Bool.and_eq_true_iff.1 ‹(_ && _) = true›).2)
      | (have hh := isT_iff.1 ((Bool.and_eq_true_iff.1 ‹(kid != 0 && isT l kid) = true›).2); omega)
      | skip)
    · rename_i h
      have h := Bool.and_eq_true_iff.1 h
      rw [cutT, if_pos ⟨by simpa using h.1, h.2⟩, cutA, if_neg h0]
      rfl
    · rename_i h
      have h1 : ¬ (kid ≠ 0 ∧ isT l kid = true) := fun hc => by
        simp [hc.1, hc.2] at h
      rw [cutT, if_neg h1, cutA, if_neg h0]
def putT (l : List NodeD) (up at_ kid : Int) : List NodeD :=
  if (!isT l up || !isT l kid || kid == 0 || holdsT l kid up) = true then l else
  let c := cutT l kid
  let ks := (nd c up).kids
  let i := min (max at_ 0) (ks.length : Int)
  let c2 := c.set up.toNat (setKids (nd c up) (ks.take i.toNat ++ kid :: ks.drop i.toNat))
  c2.set kid.toNat (setUp (nd c2 kid) up)
theorem getD_set {l : List NodeD} {k i : Nat} {n : NodeD} : (l.set k n).getD i nodeTy.dflt = if k = i ∧ k < l.length then n else l.getD i nodeTy.dflt := by
  simp only [List.getD, List.getElem?_set]
  by_cases h : k = i
  · subst h
    by_cases h2 : k < l.length
    · simp [h2]
    · simp [h2]
  · simp [h]
/-- bounds on all that a tree holds -/
def smB (m : Nat) (l : List NodeD) : Prop := l.length ≤ m ∧ ∀ i, i < l.length → (l.getD i nodeTy.dflt).2.2.2.1.length ≤ m ∧ (l.getD i nodeTy.dflt).kids.length ≤ m
theorem smB_of {l : List NodeD} (h : smallT l = true) : smB 1000 l := by
  refine ⟨small_len h, fun i hi => ?_⟩
  have := small_at h i (isT_iff.2 ⟨by omega, by omega⟩)
  simpa [nd] using this
theorem smB_set {l : List NodeD} {m : Nat} (h : smB m l) {k : Nat} {n : NodeD} (hn : k < l.length → n.2.2.2.1.length ≤ m ∧ n.kids.length ≤ m) : smB m (l.set k n) := by
  refine ⟨by simpa using h.1, fun i hi => ?_⟩
  rw [getD_set]
  split
  · rename_i hc; exact hn hc.2
  · exact h.2 i (by simpa using hi)
theorem cutA_len {l : List NodeD} {kid : Int} : (cutA l kid).length = l.length := by unfold cutA; split <;> simp
theorem cutT_len {l : List NodeD} {kid : Int} : (cutT l kid).length = l.length := by
  unfold cutT; split
  · rw [List.length_set, cutA_len]
  · exact cutA_len
theorem cutA_sm {l : List NodeD} {m : Nat} {kid : Int} (h : smB m l) : smB m (cutA l kid) := by
  unfold cutA
  split
  · refine smB_set h fun hk => ?_
    have := h.2 _ hk
    refine ⟨this.1, ?_⟩
    have e : (setKids (nd l (nd l kid).up) ((nd l (nd l kid).up).kids.take (placeT l kid).toNat ++ (nd l (nd l kid).up).kids.drop (placeT l kid + 1).toNat)).kids.length ≤ (nd l (nd l kid).up).kids.length := by
      show ((nd l (nd l kid).up).kids.take (placeT l kid).toNat ++ (nd l (nd l kid).up).kids.drop (placeT l kid + 1).toNat).length ≤ _
      simp only [List.length_append, List.length_take, List.length_drop]
      omega
    exact Nat.le_trans e this.2
  · exact h
theorem cutT_sm {l : List NodeD} {m : Nat} {kid : Int} (h : smB m l) : smB m (cutT l kid) := by
  unfold cutT
  split
  · refine smB_set (cutA_sm h) fun hk => ?_
    exact (cutA_sm h (kid := kid)).2 _ hk
  · exact cutA_sm h
theorem min_of (a b : Int) : (bif false then max (bif true then max a 0 else min a 0) b else min (bif true then max a 0 else min a 0) b) = min (max a 0) b := rfl
instance f13 (l : List NodeD) (up at_ kid : Int) : FnM BB 26 [.loc 0 0, .int .i64 up, .int .i64 at_, .int .i64 kid] [(0, .box [.own 1]), (1, .own nodeTy l)] (smallT l = true)
      (.tup []) [(0, .box [.own 1]), (1, .own nodeTy (putT l up at_ kid))] := by
  refine FnM.intro (N := 71) [0, 1, 2, 3, 8, 34] [(3, [0, 0, 0, 0, 1, 2, 0, 1, 0, 0, 0, 1, 1, 1, 0, 2, 3, 0, 0, 3])] 2 Try.call26 Try.func26 rfl rfl (by kernel_rfl) (fun hpre => ?_)
  have hsm := cutT_sm (kid := kid) (smB_of hpre)
  have hll := small_len hpre
  have hu : (!isT l up || !isT l kid || kid == 0 || holdsT l kid up) = false → (0 ≤ up ∧ up < (cutT l kid).length) ∧ (0 ≤ kid ∧ kid < (cutT l kid).length) ∧ ((cutT l kid).getD up.toNat nodeTy.dflt).2.2.2.2.2.2.length ≤ 1000 := by
    intro h
    simp only [Bool.or_eq_false_iff, Bool.not_eq_false'] at h
    have h1 := isT_iff.1 h.1.1.1
    have h2 := isT_iff.1 h.1.1.2
    rw [cutT_len]
    exact ⟨h1, h2, (hsm.2 up.toNat (by rw [cutT_len]; omega)).2⟩
  repeat' ((conv => whnf); first | (with_reducible rfl) | exact True.intro | (with_reducible exact absTF) | (with_reducible exact absFT) | intro _ | refine And.intro ?_ ?_ | refine Fin.mk ?_ | refine CallG.plain rfl ?_ ?_ | refine CallG.mk rfl ?_ ?_ | refine CallG.nwl rfl ?_ ?_ | refine CallG.nw ?_ ?_ | refine CallF.nwl rfl ?_ ?_ | refine CallF.nw ?_ ?_ | refine AppN.mk ?_ | (refine CallS.q ?_; (conv => whnf); first | refine CallG.plain rfl ?_ ?_ | refine CallG.mk rfl ?_ ?_) | (refine CallS.m ?_; (conv => whnf); refine CallM.mk rfl ?_ ?_) | (refine CallS.h ?_; (conv => whnf); refine CallM.mk rfl ?_ ?_) | (refine CallS.b ?_; (conv => whnf); refine CallM.mk rfl ?_ ?_) | (refine CallS.z ?_; (conv => whnf); refine CallM.mk rfl ?_ ?_))
  all_goals (try (conv => whnf))
  all_goals (try (exact Ob.mk (u8_bnd _)))
  all_goals (try (refine Ob.mk ?_; first | exact True.intro | assumption | omega | (try simp only [decide_eq_true_eq, decide_eq_false_iff_not, beq_iff_eq, beq_eq_false_iff_ne, bne_iff_ne, bne_eq_false_iff_eq, ne_eq, Bool.and_eq_true, Bool.or_eq_true, Bool.not_eq_true, Bool.not_eq_false, Bool.not_eq_true', Bool.not_eq_false', Int.toNat_natCast, Int.not_lt, Int.not_le, UInt8.ofNat_toNat, cast_eq] at *; omega)))
  all_goals (try ((show (_:Int) = _); omega))
  all_goals (try (show tupSV _ = _; with_unfolding_all rfl))
  all_goals (try ((show (_ : Nat) ≤ _); (simp <;> omega)))
  all_goals (try ((show (_ : Nat) ≤ _ ∧ (_ : Nat) ≤ _); (simp <;> omega)))
  all_goals (try ((show (_ : Int) ≤ _ ∧ (_ : Int) ≤ _ ∧ (_ : Int) ≤ _ ∧ (_ : Int) ≤ _); (simp <;> omega)))
  all_goals (first
    | omega
    | (rename_i h; obtain ⟨g1, g2, g3⟩ := hu h; first
        | exact g1
        | exact g2
        | omega
        | exact Nat.le_trans g3 (by omega)
        | (rw [List.length_set]; first | exact g2 | omega)
        | (refine ⟨?_, ?_, Nat.le_trans g3 (by omega)⟩ <;> rw [min_of] <;> omega))
    | skip)
  · rename_i h; rw [putT, if_pos h]
  · rename_i h
    rw [putT, if_neg (by rw [h]; exact Bool.false_ne_true)]
    rfl
end Go.Vc

namespace Go.Vc
open Go.Proofs
set_option linter.unusedVariables false
set_option maxRecDepth 10000
set_option linter.unusedSimpArgs false
def rootN : NodeD := ((0 : Int), (0 : Int), ([] : List UInt8), ([] : List AttrD), ([] : List UInt8), (-1 : Int), ([] : List Int))
instance f18 : FnM BB 25 [] [] True (.agg [.own 0]) [(0, .own nodeTy [rootN])] := by
  refine FnM.intro (N := 4) [0] [] 1 Try.call25 Try.func25 rfl rfl (by kernel_rfl) (fun hpre => ?_)
  repeat' ((conv => whnf); first | (with_reducible rfl) | exact True.intro | (with_reducible exact absTF) | (with_reducible exact absFT) | intro _ | refine And.intro ?_ ?_ | refine Fin.mk ?_ | refine CallG.plain rfl ?_ ?_ | refine CallG.mk rfl ?_ ?_ | refine CallG.nwl rfl ?_ ?_ | refine CallG.nw ?_ ?_ | refine CallF.nwl rfl ?_ ?_ | refine CallF.nw ?_ ?_ | refine AppN.mk ?_ | (refine CallS.q ?_; (conv => whnf); first | refine CallG.plain rfl ?_ ?_ | refine CallG.mk rfl ?_ ?_) | (refine CallS.m ?_; (conv => whnf); refine CallM.mk rfl ?_ ?_) | (refine CallS.h ?_; (conv => whnf); refine CallM.mk rfl ?_ ?_) | (refine CallS.b ?_; (conv => whnf); refine CallM.mk rfl ?_ ?_) | (refine CallS.z ?_; (conv => whnf); refine CallM.mk rfl ?_ ?_))
  all_goals (try (conv => whnf))
  all_goals (try (exact Ob.mk (u8_bnd _)))
  all_goals (try (refine Ob.mk ?_; first | exact True.intro | assumption | omega | (try simp only [decide_eq_true_eq, decide_eq_false_iff_not, beq_iff_eq, beq_eq_false_iff_ne, bne_iff_ne, bne_eq_false_iff_eq, ne_eq, Bool.and_eq_true, Bool.or_eq_true, Bool.not_eq_true, Bool.not_eq_false, Bool.not_eq_true', Bool.not_eq_false', Int.toNat_natCast, Int.not_lt, Int.not_le, UInt8.ofNat_toNat, cast_eq] at *; omega)))
  all_goals (try ((show (_:Int) = _); omega))
  all_goals (try (show tupSV _ = _; with_unfolding_all rfl))
  all_goals (try ((show (_ : Nat) ≤ _); (simp <;> omega)))
  all_goals (try ((show (_ : Nat) ≤ _ ∧ (_ : Nat) ≤ _); (simp <;> omega)))
  all_goals (try ((show (_ : Int) ≤ _ ∧ (_ : Int) ≤ _ ∧ (_ : Int) ≤ _ ∧ (_ : Int) ≤ _); (simp <;> omega)))
  all_goals rfl
theorem FnM.wk {B : Base} {f : FuncId} {args args' : List SV} {Φ : Phi} {pre : Prop} {res : SV} {Φ' : Phi} (F : FnM B f args Φ pre res Φ') (h : ∀ r β vs, RelL r β args' vs → RelL r β args vs) : FnM B f args' Φ pre res Φ' :=
  ⟨F.call, fun hp r β w vs hG m hl => F.ok hp r β w vs hG m (h r β vs hl)⟩
theorem nils_rd {r β v} {τ : Ty} (h : Rel r β .nils v) : Rel r β (.rd τ []) v := by cases h; exact .rd .litsE
instance f12n (l : List NodeD) (k s : Int) (nm : List UInt8) (d : List UInt8) (up : Int) :
    FnM BB 27 [.loc 0 0, .agg [.int .i64 k, .int .i64 s, .str nm, .nils, .str d, .int .i64 up, .nils]] [(0, .box [.own 1]), (1, .own nodeTy l)] (l.length ≤ 100000 ∧ ([] : List AttrD).length ≤ 100000)
      (.int .i64 l.length) [(0, .box [.own 1]), (1, .own nodeTy (addT l (k, s, nm, [], d, up, [])))] :=
  FnM.wk (f12 l k s nm [] d up []) fun r β vs h => by
    refine ⟨h.1, fun i sv v h1 h2 => ?_⟩
    match i, h1 with
    | 0, h1 => cases h1; exact h.2 0 _ v rfl h2
    | 1, h1 =>
      cases h1
      obtain ⟨cs, rfl, hc⟩ := (h.2 1 _ v rfl h2).aggL_inv
      refine .aggL ⟨hc.1, fun j sv u q1 q2 => ?_⟩
      match j, q1 with
      | 0, q1 => cases q1; exact hc.2 0 _ u rfl q2
      | 1, q1 => cases q1; exact hc.2 1 _ u rfl q2
      | 2, q1 => cases q1; exact hc.2 2 _ u rfl q2
      | 3, q1 => cases q1; exact nils_rd (hc.2 3 _ u rfl q2)
      | 4, q1 => cases q1; exact hc.2 4 _ u rfl q2
      | 5, q1 => cases q1; exact hc.2 5 _ u rfl q2
      | 6, q1 => cases q1; exact nils_rd (hc.2 6 _ u rfl q2)
end Go.Vc

namespace Go.Vc
set_option autoImplicit false
/-- a node that is gone into, or left: node, up, count, left -/
abbrev Ev := Nat × Int × Nat × Bool
def unseen (s : List Bool) : Nat := s.count false
def okK (s : List Bool) (k : Int) : Bool := decide (0 ≤ k) && !(s.getD k.toNat true)
theorem okK_spec {s : List Bool} {k : Int} (h : okK s k = true) : 0 ≤ k ∧ k.toNat < s.length ∧ s[k.toNat]? = some false := by
  unfold okK at h
  simp only [Bool.and_eq_true, decide_eq_true_eq, Bool.not_eq_true'] at h
  have hl : k.toNat < s.length := by
    rcases Nat.lt_or_ge k.toNat s.length with q | q
    · exact q
    · have := h.2; simp [List.getD, List.getElem?_eq_none q] at this
  refine ⟨h.1, hl, ?_⟩
  have := h.2
  rw [List.getD_eq_getElem?_getD, List.getElem?_eq_getElem hl] at this
  rw [List.getElem?_eq_getElem hl]
  simpa using this
theorem unseen_set {s : List Bool} {k : Nat} (h : s[k]? = some false) : unseen (s.set k true) + 1 = unseen s := by
  unfold unseen
  induction s generalizing k with
  | nil => cases h
  | cons x r ih =>
    cases k with
    | zero => simp at h; subst h; simp
    | succ k =>
      have := ih (k := k) (by simpa using h)
      simp only [List.set_cons_succ, List.count_cons]
      omega
def dfs (K : Nat → List Int) (s : List Bool) (i j c : Nat) : List Ev × List Bool × Nat :=
  if h : j < (K i).length then
    if hk : okK s ((K i).getD j 0) = true then
      let r1 := dfs K (s.set ((K i).getD j 0).toNat true) ((K i).getD j 0).toNat 0 (c + 1)
      if hg : unseen r1.2.1 < unseen s then
        let r2 := dfs K r1.2.1 i (j + 1) r1.2.2
        ((((K i).getD j 0).toNat, (i : Int), c, false) :: (r1.1 ++ r2.1), r2.2.1, r2.2.2)
      else ([], s, c)
    else dfs K s i (j + 1) c
  else ([(i, 0, c, true)], s, c + 1)
termination_by (unseen s, (K i).length - j)
decreasing_by
  · have := unseen_set (okK_spec hk).2.2
    exact Prod.Lex.left _ _ (by omega)
  · exact Prod.Lex.left _ _ hg
  · exact Prod.Lex.right _ (by omega)
variable {K : Nat → List Int}
theorem dfs_end {s : List Bool} {i j c : Nat} (h : ¬ j < (K i).length) : dfs K s i j c = ([(i, 0, c, true)], s, c + 1) := by
  rw [dfs, dif_neg h]
theorem dfs_bad {s : List Bool} {i j c : Nat} (h : j < (K i).length) (hk : okK s ((K i).getD j 0) = false) : dfs K s i j c = dfs K s i (j + 1) c := by
  rw [dfs, dif_pos h, dif_neg (by rw [hk]; decide)]
theorem dfs_ok0 {s : List Bool} {i j c : Nat} (h : j < (K i).length) (hk : okK s ((K i).getD j 0) = true) : dfs K s i j c =
    (let r1 := dfs K (s.set ((K i).getD j 0).toNat true) ((K i).getD j 0).toNat 0 (c + 1)
      if hg : unseen r1.2.1 < unseen s then
        let r2 := dfs K r1.2.1 i (j + 1) r1.2.2
        ((((K i).getD j 0).toNat, (i : Int), c, false) :: (r1.1 ++ r2.1), r2.2.1, r2.2.2)
      else ([], s, c)) := by
  rw [dfs, dif_pos h, dif_pos hk]
/-- by the measure -/
theorem dfs_ind0 {P : List Bool → Nat → Nat → Nat → Prop}
    (h : ∀ s i j c, (∀ s' i' j' c', (unseen s' < unseen s ∨ (unseen s' = unseen s ∧ (K i').length - j' < (K i).length - j)) → P s' i' j' c') → P s i j c) : ∀ s i j c, P s i j c := by
  have main : ∀ a b s i j c, unseen s = a → (K i).length - j = b → P s i j c := by
    intro a
    induction a using Nat.strongRecOn with
    | ind a iha =>
      intro b
      induction b using Nat.strongRecOn with
      | ind b ihb =>
        intro s i j c ha hb
        refine h s i j c fun s' i' j' c' q => ?_
        rcases q with q | ⟨q1, q2⟩
        · exact iha (unseen s') (by omega) _ s' i' j' c' rfl rfl
        · exact ihb _ (by omega) s' i' j' c' (by omega) rfl
  exact fun s i j c => main _ _ s i j c rfl rfl
theorem unseen_le : ∀ (s : List Bool) (i j c : Nat), unseen (dfs K s i j c).2.1 ≤ unseen s := by
  refine dfs_ind0 (K := K) fun s i j c ih => ?_
  by_cases h : j < (K i).length
  · cases hk : okK s ((K i).getD j 0) with
    | false => rw [dfs_bad h hk]; exact ih s i (j + 1) c (.inr ⟨rfl, by omega⟩)
    | true =>
      rw [dfs_ok0 h hk]
      dsimp only
      split
      · rename_i hg
        have := ih _ i (j + 1) (dfs K (s.set ((K i).getD j 0).toNat true) ((K i).getD j 0).toNat 0 (c + 1)).2.2 (.inl hg)
        exact Nat.le_trans this (Nat.le_of_lt hg)
      · exact Nat.le_refl _
  · rw [dfs_end h]; exact Nat.le_refl _
theorem dfs_guard {s : List Bool} {k : Nat} (hk : s[k]? = some false) (c : Nat) : unseen (dfs K (s.set k true) k 0 c).2.1 < unseen s := by
  have h1 := unseen_le (K := K) (s.set k true) k 0 c
  have h2 := unseen_set hk
  omega
theorem dfs_ok {s : List Bool} {i j c : Nat} (h : j < (K i).length) (hk : okK s ((K i).getD j 0) = true) : dfs K s i j c =
    ((((K i).getD j 0).toNat, (i : Int), c, false) :: ((dfs K (s.set ((K i).getD j 0).toNat true) ((K i).getD j 0).toNat 0 (c + 1)).1 ++
      (dfs K (dfs K (s.set ((K i).getD j 0).toNat true) ((K i).getD j 0).toNat 0 (c + 1)).2.1 i (j + 1) (dfs K (s.set ((K i).getD j 0).toNat true) ((K i).getD j 0).toNat 0 (c + 1)).2.2).1),
     (dfs K (dfs K (s.set ((K i).getD j 0).toNat true) ((K i).getD j 0).toNat 0 (c + 1)).2.1 i (j + 1) (dfs K (s.set ((K i).getD j 0).toNat true) ((K i).getD j 0).toNat 0 (c + 1)).2.2).2.1,
     (dfs K (dfs K (s.set ((K i).getD j 0).toNat true) ((K i).getD j 0).toNat 0 (c + 1)).2.1 i (j + 1) (dfs K (s.set ((K i).getD j 0).toNat true) ((K i).getD j 0).toNat 0 (c + 1)).2.2).2.2) := by
  rw [dfs_ok0 h hk]
  dsimp only
  rw [dif_pos (dfs_guard (okK_spec hk).2.2 (c + 1))]
theorem dfs_ind {P : List Bool → Nat → Nat → Nat → Prop}
    (he : ∀ s i j c, ¬ j < (K i).length → P s i j c)
    (hb : ∀ s i j c, j < (K i).length → okK s ((K i).getD j 0) = false → P s i (j + 1) c → P s i j c)
    (ho : ∀ s i j c, j < (K i).length → okK s ((K i).getD j 0) = true → P (s.set ((K i).getD j 0).toNat true) ((K i).getD j 0).toNat 0 (c + 1) →
      (P (dfs K (s.set ((K i).getD j 0).toNat true) ((K i).getD j 0).toNat 0 (c + 1)).2.1 i (j + 1) (dfs K (s.set ((K i).getD j 0).toNat true) ((K i).getD j 0).toNat 0 (c + 1)).2.2) → P s i j c) :
    ∀ s i j c, P s i j c := by
  refine dfs_ind0 (K := K) fun s i j c ih => ?_
  by_cases h : j < (K i).length
  · cases hk : okK s ((K i).getD j 0) with
    | false => exact hb s i j c h hk (ih s i (j + 1) c (.inr ⟨rfl, by omega⟩))
    | true =>
      have h2 := unseen_set (okK_spec hk).2.2
      exact ho s i j c h hk (ih _ _ _ _ (.inl (by omega))) (ih _ _ _ _ (.inl (dfs_guard (okK_spec hk).2.2 (c + 1))))
  · exact he s i j c h
/-- the frames that are being gone through -/
def runS (K : Nat → List Int) : List (Nat × Nat) → List Bool → Nat → List Ev
  | [], _, _ => []
  | (i, j) :: rest, s, c => (dfs K s i j c).1 ++ runS K rest (dfs K s i j c).2.1 (dfs K s i j c).2.2
theorem runS_end {s : List Bool} {i j c : Nat} {rest : List (Nat × Nat)} (h : ¬ j < (K i).length) : runS K ((i, j) :: rest) s c = (i, 0, c, true) :: runS K rest s (c + 1) := by
  rw [runS, dfs_end h]; rfl
theorem runS_bad {s : List Bool} {i j c : Nat} {rest : List (Nat × Nat)} (h : j < (K i).length) (hk : okK s ((K i).getD j 0) = false) : runS K ((i, j) :: rest) s c = runS K ((i, j + 1) :: rest) s c := by
  rw [runS, runS, dfs_bad h hk]
theorem runS_ok {s : List Bool} {i j c : Nat} {rest : List (Nat × Nat)} (h : j < (K i).length) (hk : okK s ((K i).getD j 0) = true) :
    runS K ((i, j) :: rest) s c = (((K i).getD j 0).toNat, (i : Int), c, false) :: runS K ((((K i).getD j 0).toNat, 0) :: (i, j + 1) :: rest) (s.set ((K i).getD j 0).toNat true) (c + 1) := by
  rw [runS, dfs_ok h hk, runS, runS]
  simp only [List.cons_append, List.append_assoc]
/-- all of it -/
def evsT (K : Nat → List Int) (n : Nat) : List Ev := if n = 0 then [] else (0, -1, 0, false) :: runS K [(0, 0)] ((List.replicate n false).set 0 true) 1
end Go.Vc

namespace Go.Vc
set_option autoImplicit false
/-- where a tree is being gone through: the nodes gone into, those that are open, when they were gone into and left, how many events -/
structure St where
  L : List Nat
  P : List Nat
  I : List Int
  O : List Int
  m : Nat
def St.step (x : St) (e : Ev) : St :=
  if e.2.2.2 = true then { x with P := x.P.dropLast, O := x.O.set e.1 (x.m : Int), m := x.m + 1 }
  else { x with L := x.L ++ [e.1], P := x.P ++ [e.1], I := x.I.set e.1 (x.m : Int), m := x.m + 1 }
structure Good (n : Nat) (x : St) : Prop where
  lI : x.I.length = n
  lO : x.O.length = n
  lt : ∀ u ∈ x.L, u < n
  nod : x.L.Nodup
  out : ∀ u, u ∉ x.L → x.I.getD u (-1) = -1 ∧ x.O.getD u (-1) = -1
  rI : ∀ u ∈ x.L, 0 ≤ x.I.getD u (-1) ∧ x.I.getD u (-1) < x.m
  rO : ∀ u ∈ x.L, x.O.getD u (-1) = -1 ∨ (x.I.getD u (-1) < x.O.getD u (-1) ∧ x.O.getD u (-1) < x.m)
  srt : x.L.Pairwise fun a b => x.I.getD a (-1) < x.I.getD b (-1)
  stk : x.P = x.L.filter fun u => x.O.getD u (-1) == -1
  nest : ∀ u ∈ x.L, ∀ v ∈ x.L, x.I.getD u (-1) < x.I.getD v (-1) → x.O.getD u (-1) = -1 ∨ x.O.getD u (-1) < x.I.getD v (-1) ∨ (x.O.getD v (-1) ≠ -1 ∧ x.O.getD v (-1) < x.O.getD u (-1))
  dis : ∀ u ∈ x.L, ∀ v ∈ x.L, x.O.getD u (-1) ≠ -1 → x.O.getD u (-1) ≠ x.I.getD v (-1) ∧ (x.O.getD v (-1) = x.O.getD u (-1) → u = v)
  cnt : x.m + x.P.length = 2 * x.L.length
def EvOk (n : Nat) (x : St) (e : Ev) : Prop :=
  e.2.2.1 = x.m ∧ (if e.2.2.2 = true then x.P.getLast? = some e.1 else e.1 < n ∧ e.1 ∉ x.L)
theorem getD_setO {α : Type} (l : List α) (i j : Nat) (a d : α) : (l.set i a).getD j d = if i = j ∧ i < l.length then a else l.getD j d := by
  rw [List.getD_eq_getElem?_getD, List.getElem?_set]
  by_cases h : i = j
  · subst h
    by_cases hl : i < l.length
    · simp [hl]
    · simp [hl, List.getD_eq_getElem?_getD, List.getElem?_eq_none (Nat.le_of_not_lt hl)]
  · simp [h, List.getD_eq_getElem?_getD]
theorem Good.into {n : Nat} {x : St} (g : Good n x) {v : Nat} (hv : v < n) (hn : v ∉ x.L) :
    Good n { x with L := x.L ++ [v], P := x.P ++ [v], I := x.I.set v (x.m : Int), m := x.m + 1 } := by
  have hI : ∀ u, (x.I.set v (x.m : Int)).getD u (-1) = if v = u then (x.m : Int) else x.I.getD u (-1) := by
    intro u
    rw [getD_setO]
    by_cases h : v = u
    · rw [if_pos h, if_pos ⟨h, by rw [g.lI]; exact hv⟩]
    · rw [if_neg h, if_neg (fun q => h q.1)]
  have ho := g.out v hn
  have hne : ∀ u ∈ x.L, v ≠ u := fun u hu e => hn (e ▸ hu)
  refine ⟨by simp [g.lI], g.lO, ?_, ?_, ?_, ?_, ?_, ?_, ?_, ?_, ?_, ?_⟩ <;> dsimp only
  · intro u hu
    rcases List.mem_append.1 hu with h | h
    · exact g.lt u h
    · simp at h; subst h; exact hv
  · rw [List.nodup_append]
    refine ⟨g.nod, by simp, ?_⟩
    intro a ha b hb e
    simp at hb
    subst hb; subst e
    exact hn ha
  · intro u hu
    simp only [List.mem_append, List.mem_singleton, not_or] at hu
    rw [hI, if_neg (fun e => hu.2 e.symm)]
    exact g.out u hu.1
  · intro u hu
    rw [hI]
    rcases List.mem_append.1 hu with h | h
    · rw [if_neg (hne u h)]
      have := g.rI u h
      omega
    · simp at h; subst h; rw [if_pos rfl]; omega
  · intro u hu
    rw [hI]
    rcases List.mem_append.1 hu with h | h
    · rw [if_neg (hne u h)]
      have := g.rO u h
      omega
    · simp at h; subst h; exact .inl ho.2
  · rw [List.pairwise_append]
    refine ⟨?_, by simp, ?_⟩
    · refine g.srt.imp_of_mem ?_
      intro a b ha hb h
      rw [hI, hI, if_neg (hne a ha), if_neg (hne b hb)]
      exact h
    · intro a ha b hb
      simp at hb; subst hb
      rw [hI, hI, if_neg (hne a ha), if_pos rfl]
      exact (g.rI a ha).2
  · rw [List.filter_append, ← g.stk]
    simp only [List.filter_cons, List.filter_nil, ho.2]
    rfl
  · intro u hu w hw
    rw [hI, hI]
    rcases List.mem_append.1 hu with h | h
    · rw [if_neg (hne u h)]
      rcases List.mem_append.1 hw with k | k
      · rw [if_neg (hne w k)]; exact g.nest u h w k
      · simp at k; subst k
        rw [if_pos rfl]
        intro _
        have := g.rO u h
        omega
    · simp at h; subst h
      rw [if_pos rfl]
      exact fun _ => .inl ho.2
  · intro u hu w hw hq
    rw [hI]
    rcases List.mem_append.1 hu with h | h
    · rcases List.mem_append.1 hw with k | k
      · rw [if_neg (hne w k)]; exact g.dis u h w k hq
      · simp at k; subst k
        rw [if_pos rfl]
        have := g.rO u h
        refine ⟨by omega, fun e => ?_⟩
        rw [ho.2] at e
        exact absurd e.symm hq
    · simp at h; subst h
      exact absurd ho.2 hq
  · have := g.cnt
    simp only [List.length_append, List.length_cons, List.length_nil]
    omega
theorem filter_last {α : Type} [BEq α] [LawfulBEq α] {l : List α} (hn : l.Nodup) {p q : α → Bool} {v : α} (hv : (l.filter p).getLast? = some v)
    (hq : ∀ u, q u = (p u && !(u == v))) : l.filter q = (l.filter p).dropLast := by
  have e : l.filter q = (l.filter p).filter fun u => !(u == v) := by
    rw [List.filter_filter]
    exact List.filter_congr fun u _ => by rw [hq u, Bool.and_comm]
  rw [e]
  have hnp := hn.filter p
  generalize l.filter p = m at *
  rcases List.eq_nil_or_concat m with rfl | ⟨r, a, rfl⟩
  · simp at hv
  · rw [List.concat_eq_append] at *
    simp at hv
    subst hv
    rw [List.pairwise_append] at hnp
    simp only [List.filter_append, List.filter_cons, List.filter_nil, beq_self_eq_true, Bool.not_true, Bool.false_eq_true, if_false, List.append_nil, List.dropLast_concat]
    rw [List.filter_eq_self]
    intro u hu
    have := hnp.2.2 u hu a (by simp)
    simpa using this
theorem Good.leave {n : Nat} {x : St} (g : Good n x) {v : Nat} (hl : x.P.getLast? = some v) :
    Good n { x with P := x.P.dropLast, O := x.O.set v (x.m : Int), m := x.m + 1 } := by
  have hvP : v ∈ x.P := List.mem_of_getLast? hl
  have hvP' := hvP
  rw [g.stk, List.mem_filter] at hvP'
  have hvL := hvP'.1
  have hvO : x.O.getD v (-1) = -1 := by simpa using hvP'.2
  have hvn := g.lt v hvL
  have hO : ∀ u, (x.O.set v (x.m : Int)).getD u (-1) = if v = u then (x.m : Int) else x.O.getD u (-1) := by
    intro u
    rw [getD_setO]
    by_cases h : v = u
    · rw [if_pos h, if_pos ⟨h, by rw [g.lO]; exact hvn⟩]
    · rw [if_neg h, if_neg (fun q => h q.1)]
  have hlast : ∀ w ∈ x.L, x.I.getD v (-1) < x.I.getD w (-1) → x.O.getD w (-1) ≠ -1 := by
    intro w hw hlt ho
    have hwP : w ∈ x.P := by rw [g.stk, List.mem_filter]; exact ⟨hw, by simpa using ho⟩
    have hs : x.P.Pairwise fun a b => x.I.getD a (-1) < x.I.getD b (-1) := by rw [g.stk]; exact g.srt.filter _
    rcases List.eq_nil_or_concat x.P with he | ⟨r, a, he⟩
    · rw [he] at hl; cases hl
    · rw [List.concat_eq_append] at he
      rw [he] at hl hwP hs
      simp at hl
      subst hl
      rw [List.pairwise_append] at hs
      rcases List.mem_append.1 hwP with h | h
      · have := hs.2.2 w h a (by simp); omega
      · simp at h; subst h; omega
  refine ⟨g.lI, by simp [g.lO], g.lt, g.nod, ?_, ?_, ?_, g.srt, ?_, ?_, ?_, ?_⟩ <;> dsimp only
  · intro u hu
    rw [hO, if_neg (fun e : v = u => hu (e ▸ hvL))]
    exact g.out u hu
  · intro u hu
    have := g.rI u hu
    omega
  · intro u hu
    rw [hO]
    have h1 := g.rI u hu
    have h2 := g.rO u hu
    split <;> omega
  · rw [g.stk] at hl
    rw [g.stk]
    refine (filter_last g.nod hl fun u => ?_).symm
    rw [hO]
    by_cases h : v = u
    · subst h; rw [if_pos rfl]
      have : ((x.m : Int) == -1) = false := beq_eq_false_iff_ne.mpr (by omega)
      rw [this]; simp
    · rw [if_neg h, show (u == v) = false from beq_eq_false_iff_ne.mpr (fun e => h e.symm)]; simp
  · intro u hu w hw hlt
    rw [hO, hO]
    have h0 := g.nest u hu w hw hlt
    have hru := g.rO u hu
    by_cases h : v = u
    · subst h
      rw [if_pos rfl]
      have hwo := hlast w hw hlt
      have hrw := g.rO w hw
      rw [if_neg (by rintro rfl; omega)]
      omega
    · rw [if_neg h]
      by_cases h' : v = w
      · subst h'
        rw [if_pos rfl]
        omega
      · rw [if_neg h']; exact h0
  · intro u hu w hw hq
    rw [hO] at hq ⊢
    rw [hO]
    have hru := g.rO u hu
    have hrw := g.rO w hw
    have hiw := g.rI w hw
    by_cases h : v = u
    · subst h
      rw [if_pos rfl] at hq ⊢
      refine ⟨by omega, fun e => ?_⟩
      by_cases h' : v = w
      · exact h'
      · rw [if_neg h'] at e; omega
    · rw [if_neg h] at hq ⊢
      have h0 := g.dis u hu w hw hq
      refine ⟨h0.1, fun e => ?_⟩
      by_cases h' : v = w
      · rw [if_pos h'] at e; omega
      · rw [if_neg h'] at e; exact h0.2 e
  · have := g.cnt
    have hp : 0 < x.P.length := List.length_pos_of_mem hvP
    simp only [List.length_dropLast]
    omega
theorem Good.step {n : Nat} {x : St} (g : Good n x) {e : Ev} (h : EvOk n x e) : Good n (x.step e) := by
  obtain ⟨h1, h2⟩ := h
  unfold St.step
  split
  · rename_i hl
    rw [if_pos hl] at h2
    exact g.leave h2
  · rename_i hl
    rw [if_neg hl] at h2
    exact g.into h2.1 h2.2
/-- all events fit -/
def AllOk (n : Nat) : St → List Ev → Prop
  | _, [] => True
  | x, e :: r => EvOk n x e ∧ AllOk n (x.step e) r
def St.run (x : St) (l : List Ev) : St := l.foldl St.step x
theorem allOk_app {n : Nat} : ∀ {x : St} {a b : List Ev}, AllOk n x a → AllOk n (x.run a) b → AllOk n x (a ++ b) := by
  intro x a
  induction a generalizing x with
  | nil => intro b _ h; exact h
  | cons e a ih => intro b h1 h2; exact ⟨h1.1, ih h1.2 h2⟩
theorem run_app (x : St) (a b : List Ev) : x.run (a ++ b) = (x.run a).run b := by unfold St.run; rw [List.foldl_append]
theorem Good.run {n : Nat} : ∀ {l : List Ev} {x : St}, Good n x → AllOk n x l → Good n (x.run l) := by
  intro l
  induction l with
  | nil => intro x g _; exact g
  | cons e l ih => intro x g h; exact ih (g.step h.1) h.2
/-- what is seen is what was gone into -/
def Seen (s : List Bool) (x : St) : Prop := ∀ u, u < s.length → (s.getD u true = true ↔ u ∈ x.L)
theorem dfs_len {K : Nat → List Int} : ∀ (s : List Bool) (i j c : Nat), (dfs K s i j c).2.1.length = s.length := by
  refine dfs_ind (K := K) ?_ ?_ ?_
  · intro s i j c h; rw [dfs_end h]
  · intro s i j c h hk ih; rw [dfs_bad h hk]; exact ih
  · intro s i j c h hk i1 i2; rw [dfs_ok h hk]; dsimp only; rw [i2, i1, List.length_set]
theorem dfs_good {K : Nat → List Int} (n : Nat) : ∀ (s : List Bool) (i j c : Nat) (x : St) (P0 : List Nat), s.length = n → Seen s x → x.P = P0 ++ [i] → x.m = c →
    AllOk n x (dfs K s i j c).1 ∧ (x.run (dfs K s i j c).1).P = P0 ∧ (x.run (dfs K s i j c).1).m = (dfs K s i j c).2.2 ∧ Seen (dfs K s i j c).2.1 (x.run (dfs K s i j c).1) := by
  refine dfs_ind (K := K) ?_ ?_ ?_
  · intro s i j c h x P0 hs hx hP hm
    rw [dfs_end h]
    have e : x.run [(i, 0, c, true)] = { x with P := x.P.dropLast, O := x.O.set i (x.m : Int), m := x.m + 1 } := rfl
    refine ⟨⟨⟨hm.symm, ?_⟩, trivial⟩, ?_, ?_, ?_⟩
    · rw [if_pos rfl, hP]; simp
    · rw [e]; dsimp only; rw [hP]; simp
    · rw [e]; dsimp only; rw [hm]
    · rw [e]; exact hx
  · intro s i j c h hk ih
    rw [dfs_bad h hk]; exact ih
  · intro s i j c h hk i1 i2 x P0 hs hx hP hm
    have hok := okK_spec hk
    rw [dfs_ok h hk]
    dsimp only
    generalize hkk : ((K i).getD j 0).toNat = k at *
    have hkn : k < n := by rw [← hs]; exact hok.2.1
    have hkL : k ∉ x.L := by
      intro q
      have := (hx k (by omega)).2 q
      rw [List.getD_eq_getElem?_getD, hok.2.2] at this
      cases this
    have e0 : x.step (k, (i : Int), c, false) = { x with L := x.L ++ [k], P := x.P ++ [k], I := x.I.set k (x.m : Int), m := x.m + 1 } := rfl
    have hx1 : Seen (s.set k true) (x.step (k, (i : Int), c, false)) := by
      intro u hu
      rw [List.length_set] at hu
      rw [getD_setO, e0]
      dsimp only
      rw [List.mem_append, List.mem_singleton]
      by_cases q : k = u
      · rw [if_pos ⟨q, by omega⟩]; simp [q]
      · rw [if_neg (fun z => q z.1), hx u hu]
        constructor
        · exact .inl
        · rintro (z | z)
          · exact z
          · exact absurd z.symm q
    obtain ⟨a1, a2, a3, a4⟩ := i1 (x.step (k, (i : Int), c, false)) x.P (by rw [List.length_set]; exact hs) hx1 (by rw [e0]) (by rw [e0]; dsimp only; rw [hm])
    generalize hr1 : dfs K (s.set k true) k 0 (c + 1) = r1 at *
    have hl1 : r1.2.1.length = n := by rw [← hr1, dfs_len, List.length_set, hs]
    obtain ⟨b1, b2, b3, b4⟩ := i2 ((x.step (k, (i : Int), c, false)).run r1.1) P0 hl1 a4 (by rw [a2, hP]) a3
    refine ⟨⟨⟨hm.symm, ?_⟩, allOk_app a1 b1⟩, ?_, ?_, ?_⟩
    · rw [if_neg (by simp)]; exact ⟨hkn, hkL⟩
    · show ((x.step _).run (r1.1 ++ _)).P = P0; rw [run_app]; exact b2
    · show ((x.step _).run (r1.1 ++ _)).m = _; rw [run_app]; exact b3
    · show Seen _ ((x.step _).run (r1.1 ++ _)); rw [run_app]; exact b4
def st0 (n : Nat) : St := { L := [], P := [], I := List.replicate n (-1), O := List.replicate n (-1), m := 0 }
theorem getD_repO {α : Type} (n : Nat) (a : α) (u : Nat) : (List.replicate n a).getD u a = a := by
  rw [List.getD_eq_getElem?_getD, List.getElem?_replicate]
  split <;> rfl
theorem good0 (n : Nat) : Good n (st0 n) := by
  refine ⟨by simp [st0], by simp [st0], by simp [st0], by simp [st0], ?_, by simp [st0], by simp [st0], by simp [st0], by simp [st0], by simp [st0], by simp [st0], by simp [st0]⟩
  intro u _
  exact ⟨getD_repO n _ u, getD_repO n _ u⟩
/-- all of a tree's events fit -/
theorem evs_ok (K : Nat → List Int) (n : Nat) : AllOk n (st0 n) (evsT K n) ∧ ((st0 n).run (evsT K n)).P = [] := by
  unfold evsT
  split
  · exact ⟨trivial, rfl⟩
  · rename_i hn
    have hn : 0 < n := by omega
    have hseen : Seen ((List.replicate n false).set 0 true) ((st0 n).step (0, -1, 0, false)) := by
      intro u hu
      rw [List.length_set, List.length_replicate] at hu
      rw [getD_setO]
      show _ ↔ u ∈ [0]
      rw [List.mem_singleton, List.length_replicate]
      by_cases q : 0 = u
      · rw [if_pos ⟨q, hn⟩]; simp [q]
      · rw [if_neg (fun z => q z.1), List.getD_eq_getElem?_getD, List.getElem?_replicate, if_pos hu]
        constructor
        · intro z; cases z
        · intro z; exact absurd z.symm q
    obtain ⟨a1, a2, a3, a4⟩ := dfs_good (K := K) n ((List.replicate n false).set 0 true) 0 0 1 ((st0 n).step (0, -1, 0, false)) [] (by simp) hseen rfl rfl
    have e : runS K [(0, 0)] ((List.replicate n false).set 0 true) 1 = (dfs K ((List.replicate n false).set 0 true) 0 0 1).1 := by
      rw [runS, runS, List.append_nil]
    rw [e]
    exact ⟨⟨⟨rfl, by rw [if_neg (by decide)]; exact ⟨hn, by simp [st0]⟩⟩, a1⟩, a2⟩
end Go.Vc

namespace Go.Vc
set_option autoImplicit false
/-- what later events leave as it is -/
structure Mono (x y : St) : Prop where
  L : ∃ l, y.L = x.L ++ l ∧ ∀ u ∈ l, (x.m : Int) ≤ y.I.getD u (-1)
  I : ∀ u ∈ x.L, y.I.getD u (-1) = x.I.getD u (-1)
  O : ∀ u ∈ x.L, x.O.getD u (-1) ≠ -1 → y.O.getD u (-1) = x.O.getD u (-1)
  O' : ∀ u ∈ x.L, x.O.getD u (-1) = -1 → y.O.getD u (-1) = -1 ∨ (x.m : Int) ≤ y.O.getD u (-1)
  m : x.m ≤ y.m
theorem Mono.refl (x : St) : Mono x x := ⟨⟨[], by simp, by simp⟩, fun _ _ => rfl, fun _ _ _ => rfl, fun _ _ h => .inl h, Nat.le_refl _⟩
theorem Mono.step {n : Nat} {x : St} (g : Good n x) {e : Ev} (h : EvOk n x e) : Mono x (x.step e) := by
  obtain ⟨h1, h2⟩ := h
  unfold St.step
  split
  · rename_i hl
    rw [if_pos hl] at h2
    have hP : e.1 ∈ x.P := List.mem_of_getLast? h2
    rw [g.stk, List.mem_filter] at hP
    have hO : x.O.getD e.1 (-1) = -1 := by simpa using hP.2
    have hn := g.lt _ hP.1
    refine ⟨⟨[], by simp, by simp⟩, fun _ _ => rfl, ?_, ?_, Nat.le_succ _⟩ <;> dsimp only
    · intro u hu hq
      rw [getD_setO]
      by_cases q : e.1 = u
      · subst q; exact absurd hO hq
      · rw [if_neg (fun z => q z.1)]
    · intro u hu hq
      rw [getD_setO]
      by_cases q : e.1 = u
      · rw [if_pos ⟨q, by rw [g.lO]; exact hn⟩]; right; omega
      · rw [if_neg (fun z => q z.1)]; exact .inl hq
  · rename_i hl
    rw [if_neg hl] at h2
    have hI : ∀ u, (x.I.set e.1 (x.m : Int)).getD u (-1) = if e.1 = u then (x.m : Int) else x.I.getD u (-1) := by
      intro u
      rw [getD_setO]
      by_cases q : e.1 = u
      · rw [if_pos q, if_pos ⟨q, by rw [g.lI]; exact h2.1⟩]
      · rw [if_neg q, if_neg (fun z => q z.1)]
    refine ⟨⟨[e.1], rfl, ?_⟩, ?_, fun _ _ _ => rfl, fun _ _ h => .inl h, Nat.le_succ _⟩ <;> dsimp only
    · intro u hu
      simp at hu
      rw [hI, if_pos hu.symm]; omega
    · intro u hu
      rw [hI, if_neg (fun q : e.1 = u => h2.2 (q ▸ hu))]
theorem Mono.trans {x y z : St} (a : Mono x y) (b : Mono y z) : Mono x z := by
  obtain ⟨l, e1, h1⟩ := a.L
  obtain ⟨l', e2, h2⟩ := b.L
  have sub : ∀ u ∈ x.L, u ∈ y.L := fun u hu => by rw [e1]; exact List.mem_append_left _ hu
  have hm := a.m
  refine ⟨⟨l ++ l', by rw [e2, e1, List.append_assoc], ?_⟩, ?_, ?_, ?_, Nat.le_trans a.m b.m⟩
  · intro u hu
    rcases List.mem_append.1 hu with h | h
    · rw [b.I u (by rw [e1]; exact List.mem_append_right _ h)]; exact h1 u h
    · have := h2 u h; omega
  · intro u hu; rw [b.I u (sub u hu), a.I u hu]
  · intro u hu h
    have := a.O u hu h
    rw [b.O u (sub u hu) (by rw [this]; exact h), this]
  · intro u hu h
    rcases a.O' u hu h with q | q
    · rcases b.O' u (sub u hu) q with r | r
      · exact .inl r
      · right; omega
    · by_cases r : y.O.getD u (-1) = -1
      · omega
      · rw [b.O u (sub u hu) r]; exact .inr q
theorem Mono.run {n : Nat} : ∀ {l : List Ev} {x : St}, Good n x → AllOk n x l → Mono x (x.run l) := by
  intro l
  induction l with
  | nil => intro x _ _; exact Mono.refl x
  | cons e l ih => intro x g h; exact (Mono.step g h.1).trans (ih (g.step h.1) h.2)
/-- all that was gone into was left -/
structure Done (n : Nat) (y : St) : Prop extends Good n y where
  P0 : y.P = []
theorem Done.o {n : Nat} {y : St} (g : Done n y) {u : Nat} (hu : u ∈ y.L) : y.O.getD u (-1) ≠ -1 := by
  intro h
  have : u ∈ y.P := by rw [g.stk, List.mem_filter]; exact ⟨hu, by simpa using h⟩
  rw [g.P0] at this; cases this
/-- what a node is in -/
def pathQ (y : St) (v : Nat) : List Nat := y.L.filter fun u => decide (y.I.getD u (-1) < y.I.getD v (-1)) && decide (y.O.getD v (-1) < y.O.getD u (-1))
def pathE (v : Int) : List Ev → List Nat → Option (List Nat)
  | [], _ => none
  | e :: r, P => if e.2.2.2 = true then pathE v r P.dropLast else if (e.1 : Int) = v then some P else pathE v r (P ++ [e.1])
theorem path_at {n : Nat} {x : St} (g : Good n x) {v : Nat} (hv : v < n) (hn : v ∉ x.L) {r : List Ev} {c : Nat} {up : Int} (h : AllOk n (x.step (v, up, c, false)) r) (d : Done n ((x.step (v, up, c, false)).run r)) :
    x.P = pathQ ((x.step (v, up, c, false)).run r) v ∧ v ∈ ((x.step (v, up, c, false)).run r).L := by
  have e0 : x.step (v, up, c, false) = { x with L := x.L ++ [v], P := x.P ++ [v], I := x.I.set v (x.m : Int), m := x.m + 1 } := rfl
  have g' : Good n (x.step (v, up, c, false)) := by rw [e0]; exact g.into hv hn
  have mo := Mono.run g' h
  generalize (x.step (v, up, c, false)).run r = y at *
  have hvL : v ∈ (x.step (v, up, c, false)).L := by rw [e0]; simp
  obtain ⟨l, el, hl⟩ := mo.L
  have hIv : y.I.getD v (-1) = x.m := by
    rw [mo.I v hvL, e0]
    dsimp only
    rw [getD_setO, if_pos ⟨rfl, by rw [g.lI]; exact hv⟩]
  have hvy : v ∈ y.L := by rw [el]; exact List.mem_append_left _ hvL
  have hOv := d.rO v hvy
  have hOv' := d.o hvy
  refine ⟨?_, hvy⟩
  unfold pathQ
  rw [el, e0]
  dsimp only
  rw [List.filter_append, List.filter_append, g.stk]
  have hx : ∀ u ∈ x.L, v ≠ u := fun u hu q => hn (q ▸ hu)
  have e1 : List.filter (fun u => decide (y.I.getD u (-1) < y.I.getD v (-1)) && decide (y.O.getD v (-1) < y.O.getD u (-1))) [v] = [] := by
    simp
  have e2 : List.filter (fun u => decide (y.I.getD u (-1) < y.I.getD v (-1)) && decide (y.O.getD v (-1) < y.O.getD u (-1))) l = [] := by
    rw [List.filter_eq_nil_iff]
    intro u hu
    have := hl u hu
    rw [e0] at this
    dsimp only at this
    simp only [Bool.and_eq_true, decide_eq_true_eq, not_and]
    intro q; omega
  rw [e1, e2, List.append_nil, List.append_nil]
  refine List.filter_congr fun u hu => ?_
  have hu' : u ∈ (x.step (v, up, c, false)).L := by rw [e0]; exact List.mem_append_left _ hu
  have huy : u ∈ y.L := by rw [el]; exact List.mem_append_left _ hu'
  have hIu : y.I.getD u (-1) = x.I.getD u (-1) := by
    rw [mo.I u hu', e0]
    dsimp only
    rw [getD_setO, if_neg (fun z => hx u hu z.1)]
  have hrI := g.rI u hu
  have hxO : (x.step (v, up, c, false)).O.getD u (-1) = x.O.getD u (-1) := by rw [e0]
  rw [hIu, hIv, decide_eq_true hrI.2, Bool.true_and]
  by_cases q : x.O.getD u (-1) = -1
  · rw [q]
    have hm : (x.step (v, up, c, false)).m = x.m + 1 := rfl
    rcases mo.O' u hu' (by rw [hxO]; exact q) with z | z
    · exact absurd z (d.o huy)
    · rw [hm] at z
      have := d.nest u huy v hvy (by rw [hIu, hIv]; exact hrI.2)
      have k : y.O.getD v (-1) < y.O.getD u (-1) := by
        rcases this with t | t | t
        · exact absurd t (d.o huy)
        · omega
        · exact t.2
      rw [decide_eq_true k]; rfl
  · have z := mo.O u hu' (by rw [hxO]; exact q)
    rw [hxO] at z
    have hrO := g.rO u hu
    rw [beq_eq_false_iff_ne.mpr q, z]
    symm
    rw [decide_eq_false_iff_not]
    omega
theorem pathE_eq {n : Nat} (v : Nat) : ∀ {r : List Ev} {x : St}, Good n x → v ∉ x.L → AllOk n x r → Done n (x.run r) →
    pathE v r x.P = if v ∈ (x.run r).L then some (pathQ (x.run r) v) else none := by
  intro r
  induction r with
  | nil => intro x g hv _ _; rw [if_neg (by exact hv)]; rfl
  | cons e r ih =>
    intro x g hv h d
    obtain ⟨ev, eu, ec, el⟩ := e
    have h1 := h.1
    have hr : x.run ((ev, eu, ec, el) :: r) = (x.step (ev, eu, ec, el)).run r := rfl
    rw [hr] at d ⊢
    unfold pathE
    cases el with
    | true =>
      rw [if_pos rfl]
      have e0 : x.step (ev, eu, ec, true) = { x with P := x.P.dropLast, O := x.O.set ev (x.m : Int), m := x.m + 1 } := rfl
      have := ih (x := x.step (ev, eu, ec, true)) (g.step h1) (by rw [e0]; exact hv) h.2 d
      rw [← this, e0]
    | false =>
      rw [if_neg (by simp)]
      have h2 := h1.2
      rw [if_neg (by simp)] at h2
      have e0 : x.step (ev, eu, ec, false) = { x with L := x.L ++ [ev], P := x.P ++ [ev], I := x.I.set ev (x.m : Int), m := x.m + 1 } := rfl
      dsimp only at h2 ⊢
      by_cases q : ev = v
      · subst q
        rw [if_pos rfl]
        have := path_at g h2.1 h2.2 h.2 d
        rw [if_pos this.2, this.1]
      · rw [if_neg (by omega)]
        have := ih (x := x.step (ev, eu, ec, false)) (g.step h1) (by rw [e0]; simp [hv]; exact fun z => q z.symm) h.2 d
        rw [← this, e0]
theorem pathE_none {v : Int} : ∀ {r : List Ev} {P : List Nat}, (∀ e ∈ r, e.2.2.2 = false → (e.1 : Int) ≠ v) → pathE v r P = none := by
  intro r
  induction r with
  | nil => intro P _; rfl
  | cons e r ih =>
    intro P h
    unfold pathE
    split
    · exact ih fun e he => h e (List.mem_cons_of_mem _ he)
    · rename_i hl
      rw [if_neg (h e List.mem_cons_self (by simpa using hl))]
      exact ih fun e he => h e (List.mem_cons_of_mem _ he)
/-- how deep: what the deepest node is in -/
def deepE : List Ev → Int × Int → Int × Int
  | [], p => p
  | e :: r, p => deepE r (if e.2.2.2 = true then (p.1, p.2 - 1) else (max p.1 (p.2 + 1), p.2 + 1))
def MaxOf (D : Int) (S : Nat → Prop) (f : Nat → Int) : Prop := 0 ≤ D ∧ (∀ v, S v → f v ≤ D) ∧ (D = 0 ∨ ∃ v, S v ∧ D = f v)
theorem MaxOf.uniq {D D' : Int} {S : Nat → Prop} {f : Nat → Int} (h : MaxOf D S f) (h' : MaxOf D' S f) (hf : ∀ v, S v → 0 ≤ f v) : D = D' := by
  obtain ⟨a0, a1, a2⟩ := h
  obtain ⟨b0, b1, b2⟩ := h'
  rcases a2 with rfl | ⟨v, hv, rfl⟩
  · rcases b2 with rfl | ⟨w, hw, rfl⟩
    · rfl
    · have := a1 w hw; omega
  · have := b1 v hv
    rcases b2 with rfl | ⟨w, hw, rfl⟩
    · have := hf v hv; omega
    · have := a1 w hw; omega
theorem deepE_eq {n : Nat} : ∀ {r : List Ev} {x : St} {D : Int}, Good n x → AllOk n x r → Done n (x.run r) →
    MaxOf D (fun v => v ∈ x.L) (fun v => (pathQ (x.run r) v).length) → MaxOf (deepE r (D, (x.P.length : Int) - 1)).1 (fun v => v ∈ (x.run r).L) (fun v => (pathQ (x.run r) v).length) := by
  intro r
  induction r with
  | nil => intro x D _ _ _ h; exact h
  | cons e r ih =>
    intro x D g h d hD
    obtain ⟨ev, eu, ec, el⟩ := e
    have h1 := h.1
    have hr : x.run ((ev, eu, ec, el) :: r) = (x.step (ev, eu, ec, el)).run r := rfl
    rw [hr] at d hD ⊢
    unfold deepE
    cases el with
    | true =>
      rw [if_pos rfl]
      have h2 := h1.2
      rw [if_pos rfl] at h2
      have e0 : x.step (ev, eu, ec, true) = { x with P := x.P.dropLast, O := x.O.set ev (x.m : Int), m := x.m + 1 } := rfl
      have hp : 0 < x.P.length := List.length_pos_of_mem (List.mem_of_getLast? h2)
      have := ih (x := x.step (ev, eu, ec, true)) (D := D) (g.step h1) h.2 d (by rw [e0] at hD ⊢; exact hD)
      have el : ((x.step (ev, eu, ec, true)).P.length : Int) - 1 = (x.P.length : Int) - 1 - 1 := by
        rw [e0]; dsimp only; rw [List.length_dropLast]; omega
      rw [el] at this
      exact this
    | false =>
      rw [if_neg (by simp)]
      have h2 := h1.2
      rw [if_neg (by simp)] at h2
      dsimp only at h2 ⊢
      have e0 : x.step (ev, eu, ec, false) = { x with L := x.L ++ [ev], P := x.P ++ [ev], I := x.I.set ev (x.m : Int), m := x.m + 1 } := rfl
      have hp := path_at g h2.1 h2.2 h.2 d
      have el : ((x.step (ev, eu, ec, false)).P.length : Int) - 1 = (x.P.length : Int) - 1 + 1 := by
        rw [e0]; dsimp only; simp only [List.length_append, List.length_cons, List.length_nil]; omega
      have := ih (x := x.step (ev, eu, ec, false)) (D := max D ((x.P.length : Int) - 1 + 1)) (g.step h1) h.2 d (by
        obtain ⟨c0, c1, c2⟩ := hD
        refine ⟨by omega, ?_, ?_⟩
        · intro v hv
          rw [e0] at hv
          rcases List.mem_append.1 hv with q | q
          · have := c1 v q; omega
          · simp at q; subst q
            show ((pathQ _ v).length : Int) ≤ _
            rw [← hp.1]; omega
        · by_cases hle : D ≤ (x.P.length : Int) - 1 + 1
          · right
            refine ⟨ev, by rw [e0]; simp, ?_⟩
            show _ = ((pathQ _ ev).length : Int)
            rw [← hp.1]; omega
          · rcases c2 with q | ⟨v, hv, q⟩
            · omega
            · right
              refine ⟨v, by rw [e0]; exact List.mem_append_left _ hv, ?_⟩
              omega)
      rw [el] at this
      exact this
/-- a tree's end -/
def finT (K : Nat → List Int) (n : Nat) : St := (st0 n).run (evsT K n)
theorem fin_done (K : Nat → List Int) (n : Nat) : Done n (finT K n) := ⟨(good0 n).run (evs_ok K n).1, (evs_ok K n).2⟩
theorem fin_path (K : Nat → List Int) (n v : Nat) : pathE v (evsT K n) [] = if v ∈ (finT K n).L then some (pathQ (finT K n) v) else none :=
  pathE_eq v (good0 n) (by simp [st0]) (evs_ok K n).1 (fin_done K n)
theorem fin_deep (K : Nat → List Int) (n : Nat) : MaxOf (deepE (evsT K n) (0, -1)).1 (fun v => v ∈ (finT K n).L) (fun v => (pathQ (finT K n) v).length) :=
  deepE_eq (good0 n) (evs_ok K n).1 (fin_done K n) ⟨Int.le_refl _, (fun v hv => by cases hv), .inl rfl⟩
theorem run_m : ∀ (l : List Ev) (x : St), (x.run l).m = x.m + l.length := by
  intro l
  induction l with
  | nil => intro x; rfl
  | cons e l ih =>
    intro x
    show ((x.step e).run l).m = _
    rw [ih]
    have : (x.step e).m = x.m + 1 := by unfold St.step; split <;> rfl
    rw [this, List.length_cons]; omega
theorem len_split {α : Type} (p : α → Bool) (l : List α) : l.length = (l.filter p).length + (l.filter fun u => !p u).length := by
  induction l with
  | nil => rfl
  | cons a l ih =>
    rw [List.filter_cons, List.filter_cons]
    cases p a <;> simp <;> omega
theorem nodup_lt {n : Nat} : ∀ {l : List Nat}, l.Nodup → (∀ u ∈ l, u < n) → l.length ≤ n := by
  induction n with
  | zero =>
    intro l _ h
    cases l with
    | nil => exact Nat.le_refl _
    | cons a l => exact absurd (h a List.mem_cons_self) (by omega)
  | succ n ih =>
    intro l hn h
    have h1 := ih (l := l.filter fun u => !(u == n)) (hn.filter _) (fun u hu => by
      rw [List.mem_filter] at hu
      have := h u hu.1
      have h2 : ¬ u = n := by simpa using hu.2
      omega)
    have h2 : l.length ≤ (l.filter fun u => !(u == n)).length + 1 := by
      have e := len_split (fun u => u == n) l
      have h3 : (l.filter fun u => u == n).length ≤ 1 := by
        rw [← List.countP_eq_length_filter]
        exact List.nodup_iff_count.1 hn n
      omega
    omega
theorem evs_len (K : Nat → List Int) (n : Nat) : (evsT K n).length = 2 * (finT K n).L.length ∧ (finT K n).L.length ≤ n ∧ (finT K n).m = (evsT K n).length := by
  have g := fin_done K n
  have h1 := run_m (evsT K n) (st0 n)
  have h1 : (finT K n).m = 0 + (evsT K n).length := h1
  have h2 := g.cnt
  have h3 := g.P0
  rw [h3] at h2
  simp at h2
  exact ⟨by omega, nodup_lt g.nod g.lt, by omega⟩
end Go.Vc

namespace Go.Vc
open Go.Proofs
set_option linter.unusedVariables false
set_option maxRecDepth 10000
set_option linter.unusedSimpArgs false
set_option maxHeartbeats 4000000
/-- a node's kids -/
def kidsOf (l : List NodeD) (i : Nat) : List Int := (l.getD i nodeTy.dflt).2.2.2.2.2.2
def evs (l : List NodeD) : List Ev := evsT (kidsOf l) l.length
def stepSV (e : Ev) : SV := .agg [.int .i64 e.1, .int .i64 e.2.1, .flt e.2.2.1, .bool e.2.2.2]
def frm (p : Nat × Nat) : Int × Int := ((p.1 : Int), (p.2 : Int))
def pathR (p : List (Nat × Nat)) : List (Int × Int) := (p.map frm).reverse
def remT (l : List NodeD) : List (Nat × Nat) → Nat
  | [] => 0
  | (i, j) :: _ => (kidsOf l i).length - j
def bigT (l : List NodeD) : Nat := ((List.range l.length).map fun i => (kidsOf l i).length).sum + 2
instance oWalk (l : List NodeD) : Fn BB 22 [.agg [.rd nodeTy l]] True (.fn 28 [.el (.sl nodeTy) [l] 0 0]) := by
  refine Fn.intro (N := 4) [0, 1, 2] [] Try.call22 Try.func22 rfl rfl (by kernel_rfl) (fun hpre => ?_)
  repeat' ((conv => whnf); first | (with_reducible rfl) | exact True.intro | (with_reducible exact absTF) | (with_reducible exact absFT) | intro _ | refine And.intro ?_ ?_ | refine Fin.mk ?_ | refine CallG.plain rfl ?_ ?_ | refine CallG.mk rfl ?_ ?_ | refine CallG.nwl rfl ?_ ?_ | refine CallG.nw ?_ ?_ | refine CallF.nwl rfl ?_ ?_ | refine CallF.nw ?_ ?_ | refine AppN.mk ?_ | (refine CallS.q ?_; (conv => whnf); first | refine CallG.plain rfl ?_ ?_ | refine CallG.mk rfl ?_ ?_) | (refine CallS.m ?_; (conv => whnf); refine CallM.mk rfl ?_ ?_) | (refine CallS.h ?_; (conv => whnf); refine CallM.mk rfl ?_ ?_) | (refine CallS.b ?_; (conv => whnf); refine CallM.mk rfl ?_ ?_) | (refine CallS.z ?_; (conv => whnf); refine CallM.mk rfl ?_ ?_))
  all_goals (try (conv => whnf))
  all_goals (try (exact Ob.mk (u8_bnd _)))
  all_goals (try (refine Ob.mk ?_; first | exact True.intro | assumption | omega | (try simp only [decide_eq_true_eq, decide_eq_false_iff_not, beq_iff_eq, beq_eq_false_iff_ne, bne_iff_ne, bne_eq_false_iff_eq, ne_eq, Bool.and_eq_true, Bool.or_eq_true, Bool.not_eq_true, Bool.not_eq_false, Bool.not_eq_true', Bool.not_eq_false', Int.toNat_natCast, Int.not_lt, Int.not_le, UInt8.ofNat_toNat, cast_eq] at *; omega)))
  all_goals (try ((show (_:Int) = _); omega))
  all_goals (try (show tupSV _ = _; with_unfolding_all rfl))
  all_goals (try ((show (_ : Nat) ≤ _); (simp <;> omega)))
  all_goals (try ((show (_ : Nat) ≤ _ ∧ (_ : Nat) ≤ _); (simp <;> omega)))
  all_goals (try ((show (_ : Int) ≤ _ ∧ (_ : Int) ≤ _ ∧ (_ : Int) ≤ _ ∧ (_ : Int) ≤ _); (simp <;> omega)))
  all_goals (try rfl)
structure WI (l : List NodeD) (p : List (Nat × Nat)) (s : List Bool) (m : Nat) : Prop where
  e : (evs l).drop m = runS (kidsOf l) p s m
  s : s.length = l.length
  pn : ∀ q ∈ p, q.1 < l.length
  mle : m ≤ (evs l).length
  m1 : 1 ≤ m
  pl : p.length ≤ m
theorem evs_pos {l : List NodeD} (h : 0 < l.length) : evs l = (0, -1, 0, false) :: runS (kidsOf l) [(0, 0)] ((List.replicate l.length false).set 0 true) 1 := by
  unfold evs evsT; rw [if_neg (by omega)]
theorem pathR_cons (q : Nat × Nat) (r : List (Nat × Nat)) : pathR (q :: r) = pathR r ++ [frm q] := by unfold pathR; rw [List.map_cons, List.reverse_cons]
theorem pathR_len (p : List (Nat × Nat)) : (pathR p).length = p.length := by unfold pathR; simp
theorem pathR_top (q : Nat × Nat) (r : List (Nat × Nat)) (d : Int × Int) : (pathR (q :: r)).getD r.length d = frm q := by
  rw [pathR_cons, List.getD_eq_getElem?_getD, List.getElem?_append_right (by rw [pathR_len]; omega)]
  simp [pathR_len]
theorem kids_def (l : List NodeD) (i : Nat) : (List.getD l i nodeTy.dflt).2.2.2.2.2.2 = kidsOf l i := rfl
theorem lenP (i j : Nat) (rest : List (Nat × Nat)) : (((pathR ((i, j) :: rest)).length : Int) - 1).toNat = rest.length := by rw [pathR_len, List.length_cons]; omega
theorem topD (i j : Nat) (rest : List (Nat × Nat)) (d : Int × Int) : (pathR ((i, j) :: rest)).getD (((pathR ((i, j) :: rest)).length : Int) - 1).toNat d = ((i : Int), (j : Int)) := by
  rw [lenP]; exact pathR_top _ _ _
theorem setD (i j : Nat) (rest : List (Nat × Nat)) : (pathR ((i, j) :: rest)).set (((pathR ((i, j) :: rest)).length : Int) - 1).toNat ((i : Int), (j : Int) + 1) = pathR ((i, j + 1) :: rest) := by
  rw [lenP, pathR_cons, pathR_cons, List.set_append_right _ _ (by rw [pathR_len]; omega), pathR_len]
  simp [frm]
theorem cutD (i j : Nat) (rest : List (Nat × Nat)) : (pathR ((i, j) :: rest)).take (((pathR ((i, j) :: rest)).length : Int) - 1).toNat = pathR rest := by
  rw [lenP, pathR_cons, List.take_append_of_le_length (by rw [pathR_len]; omega), ← pathR_len, List.take_length]
theorem appD (k : Int) (hk : 0 ≤ k) (rest : List (Nat × Nat)) : pathR rest ++ [(k, 0)] = pathR ((k.toNat, 0) :: rest) := by
  rw [pathR_cons]; unfold frm
  rw [show ((k.toNat : Nat) : Int) = k by omega]; rfl
theorem drop_cons {α : Type} {l r : List α} {m : Nat} {a : α} (h : l.drop m = a :: r) : m < l.length ∧ (∀ d, l.getD m d = a) ∧ l.drop (m + 1) = r := by
  have hm : m < l.length := by
    rcases Nat.lt_or_ge m l.length with q | q
    · exact q
    · rw [List.drop_eq_nil_of_le q] at h; cases h
  rw [List.drop_eq_getElem_cons hm] at h
  injection h with h1 h2
  exact ⟨hm, fun d => by rw [List.getD_eq_getElem?_getD, List.getElem?_eq_getElem hm, h1]; rfl, h2⟩
theorem mem_sum : ∀ (m : List Nat) (x : Nat), x ∈ m → x ≤ m.sum := by
  intro m
  induction m with
  | nil => intro x hx; cases hx
  | cons a m ih =>
    intro x hx
    rw [List.sum_cons]
    rcases List.mem_cons.1 hx with e | e
    · omega
    · have := ih x e; omega
theorem cnd_t {s : List Bool} {n : Nat} {k : Int} (hs : s.length = n) (h : (decide (k < 0) || decide (k ≥ (n : Int)) || s.getD k.toNat false) = true) : okK s k = false := by
  unfold okK
  by_cases h1 : k < 0
  · rw [decide_eq_false (by omega : ¬ 0 ≤ k)]; rfl
  · by_cases h2 : k ≥ (n : Int)
    · have : s.getD k.toNat true = true := by rw [List.getD_eq_getElem?_getD, List.getElem?_eq_none (by omega)]; rfl
      rw [this]; simp
    · rw [decide_eq_false h1, decide_eq_false h2] at h
      have hl : k.toNat < s.length := by omega
      have h3 : s.getD k.toNat false = true := by simpa using h
      have : s.getD k.toNat true = true := by
        rw [List.getD_eq_getElem?_getD, List.getElem?_eq_getElem hl] at h3 ⊢; exact h3
      rw [this]; simp
theorem cnd_f {s : List Bool} {n : Nat} {k : Int} (hs : s.length = n) (h : (decide (k < 0) || decide (k ≥ (n : Int)) || s.getD k.toNat false) = false) : okK s k = true := by
  rw [Bool.or_eq_false_iff, Bool.or_eq_false_iff] at h
  have h1 := of_decide_eq_false h.1.1
  have h2 := of_decide_eq_false h.1.2
  have hl : k.toNat < s.length := by omega
  unfold okK
  rw [decide_eq_true (by omega : 0 ≤ k)]
  have h3 := h.2
  have : s.getD k.toNat true = false := by
    rw [List.getD_eq_getElem?_getD, List.getElem?_eq_getElem hl] at h3 ⊢; exact h3
  rw [this]; rfl
theorem bigT_le (l : List NodeD) (i : Nat) : (kidsOf l i).length + 2 ≤ bigT l := by
  unfold bigT
  rcases Nat.lt_or_ge i l.length with h | h
  · have := mem_sum ((List.range l.length).map fun i => (kidsOf l i).length) (kidsOf l i).length (List.mem_map.2 ⟨i, List.mem_range.2 h, rfl⟩)
    omega
  · have : kidsOf l i = [] := by unfold kidsOf; rw [List.getD_eq_getElem?_getD, List.getElem?_eq_none h]; rfl
    rw [this]; simp
theorem remT_le (l : List NodeD) (p : List (Nat × Nat)) : remT l p + 2 ≤ bigT l := by
  cases p with
  | nil => show 0 + 2 ≤ _; unfold bigT; omega
  | cons q r => obtain ⟨i, j⟩ := q; have := bigT_le l i; show (kidsOf l i).length - j + 2 ≤ _; omega
theorem mu_dec {l : List NodeD} {a b x y : Nat} (h : a + 1 ≤ b) (hx : x + 2 ≤ bigT l) : a * bigT l + x < b * bigT l + y := by
  have : (a + 1) * bigT l ≤ b * bigT l := Nat.mul_le_mul_right _ h
  rw [Nat.add_mul] at this
  omega
instance oIt (l : List NodeD) : It BB 28 [.el (.sl nodeTy) [l] 0 0] (l.length ≤ 45) (evs l).length (fun i => [stepSV ((evs l).getD i (0, 0, 0, false))]) := by
  refine It.intro (N := 118) [0, 1, 3, 4, 5, 6, 7, 8, 9, 19, 30, 51, 60, 100, 110] [(7, [0, 1, 0, 0, 0, 1, 3, 3, 3, 3]), (12, [0, 0, 0, 1, 0, 0, 0, 0, 1, 1, 1, 1, 3])] 0 Try.call28 Try.func28 rfl rfl (by kernel_rfl) (fun hpre yl => ?_)
  repeat' ((conv => whnf); first | (with_reducible rfl) | exact True.intro | (with_reducible exact absTF) | (with_reducible exact absFT) | intro _ | refine And.intro ?_ ?_ | refine Fin.mk ?_ | refine CallG.plain rfl ?_ ?_ | refine CallG.mk rfl ?_ ?_ | refine CallG.nwl rfl ?_ ?_ | refine CallG.nw ?_ ?_ | refine CallF.nwl rfl ?_ ?_ | refine CallF.nw ?_ ?_ | refine AppN.mk ?_ | (refine CallS.q ?_; (conv => whnf); first | refine CallG.plain rfl ?_ ?_ | refine CallG.mk rfl ?_ ?_) | (refine CallS.m ?_; (conv => whnf); refine CallM.mk rfl ?_ ?_) | (refine CallS.h ?_; (conv => whnf); refine CallM.mk rfl ?_ ?_) | (refine CallS.b ?_; (conv => whnf); refine CallM.mk rfl ?_ ?_) | (refine CallS.z ?_; (conv => whnf); refine CallM.mk rfl ?_ ?_))
  all_goals (try (conv => whnf))
  all_goals (try simp only [List.getD_cons_zero] at *)
  all_goals (try (exact Ob.mk (u8_bnd _)))
  all_goals (try (refine Ob.mk ?_; first | exact True.intro | assumption | omega | (try simp only [decide_eq_true_eq, decide_eq_false_iff_not, beq_iff_eq, beq_eq_false_iff_ne, bne_iff_ne, bne_eq_false_iff_eq, ne_eq, Bool.and_eq_true, Bool.or_eq_true, Bool.not_eq_true, Bool.not_eq_false, Bool.not_eq_true', Bool.not_eq_false', Int.toNat_natCast, Int.not_lt, Int.not_le, UInt8.ofNat_toNat, cast_eq] at *; omega)))
  all_goals (try ((show (_:Int) = _); omega))
  all_goals (try (show tupSV _ = _; with_unfolding_all rfl))
  all_goals (try ((show (_ : Nat) ≤ _); (simp <;> omega)))
  all_goals (try ((show (_ : Nat) ≤ _ ∧ (_ : Nat) ≤ _); (simp <;> omega)))
  all_goals (try ((show (_ : Int) ≤ _ ∧ (_ : Int) ≤ _ ∧ (_ : Int) ≤ _ ∧ (_ : Int) ≤ _); (simp <;> omega)))
  all_goals (try (have hz : l.length = 0 := by have h := ‹((l.length : Int) == 0) = true›; rw [beq_iff_eq] at h; omega))
  all_goals (try (have hz : 0 < l.length := by have h := ‹((l.length : Int) == 0) = false›; rw [beq_eq_false_iff_ne] at h; omega))
  all_goals (try (have he := evs_pos hz))
  all_goals (try (exfalso; have h := ‹(false || !true) = true›; cases h; done))
  all_goals (try (exfalso; have h := ‹(false || !false) = false›; cases h; done))
  · rw [he, List.length_cons]; omega
  · rw [he]; rfl
  · rw [he]; rfl
  · rw [he]; rfl
  · rw [he]; rfl
  · rw [List.length_replicate]; constructor <;> omega
  · rw [List.length_replicate]; show 0 < _; omega
  have hE : (evs l).length ≤ 90 := by
    have := evs_len (kidsOf l) l.length
    show (evsT (kidsOf l) l.length).length ≤ 90
    omega
  refine LoopStop.mk (α := List (Nat × Nat) × List Bool × Nat) (fun a => [(3, .own 0), (4, .flt a.2.2), (5, .own 1)]) (fun a => [(GID, .gh (some a.2.2)), (0, .own .bool a.2.1), (1, .own spTy (pathR a.1))]) 40
    (fun a => WI l a.1 a.2.1 a.2.2) (fun a => (runS (kidsOf l) a.1 a.2.1 a.2.2).length * bigT l + remT l a.1) ([(0, 0)], (List.replicate l.length false).set 0 true, 1) ⟨by rw [he]; rfl, by simp, (fun q hq => by simp at hq; subst hq; exact hz), (by show 1 ≤ _; rw [he, List.length_cons]; omega), Nat.le_refl _, Nat.le_refl _⟩ ?_ (fun a ha => ?_)
  · repeat' ((conv => whnf); first | (with_reducible rfl) | exact True.intro | (with_reducible exact absTF) | (with_reducible exact absFT) | intro _ | refine And.intro ?_ ?_ | refine Fin.mk ?_ | refine CallG.plain rfl ?_ ?_ | refine CallG.mk rfl ?_ ?_ | refine CallG.nwl rfl ?_ ?_ | refine CallG.nw ?_ ?_ | refine CallF.nwl rfl ?_ ?_ | refine CallF.nw ?_ ?_ | refine AppN.mk ?_ | (refine CallS.q ?_; (conv => whnf); first | refine CallG.plain rfl ?_ ?_ | refine CallG.mk rfl ?_ ?_) | (refine CallS.m ?_; (conv => whnf); refine CallM.mk rfl ?_ ?_) | (refine CallS.h ?_; (conv => whnf); refine CallM.mk rfl ?_ ?_) | (refine CallS.b ?_; (conv => whnf); refine CallM.mk rfl ?_ ?_) | (refine CallS.z ?_; (conv => whnf); refine CallM.mk rfl ?_ ?_))
    all_goals (try (conv => whnf))
    all_goals (try (exact Ob.mk (u8_bnd _)))
    all_goals (try (refine Ob.mk ?_; first | exact True.intro | assumption | omega | (try simp only [decide_eq_true_eq, decide_eq_false_iff_not, beq_iff_eq, beq_eq_false_iff_ne, bne_iff_ne, bne_eq_false_iff_eq, ne_eq, Bool.and_eq_true, Bool.or_eq_true, Bool.not_eq_true, Bool.not_eq_false, Bool.not_eq_true', Bool.not_eq_false', Int.toNat_natCast, Int.not_lt, Int.not_le, UInt8.ofNat_toNat, cast_eq] at *; omega)))
    all_goals (try ((show (_:Int) = _); omega))
    all_goals (try (show tupSV _ = _; with_unfolding_all rfl))
    all_goals (try ((show (_ : Nat) ≤ _); (simp <;> omega)))
    all_goals (try ((show (_ : Nat) ≤ _ ∧ (_ : Nat) ≤ _); (simp <;> omega)))
    all_goals (try ((show (_ : Int) ≤ _ ∧ (_ : Int) ≤ _ ∧ (_ : Int) ≤ _ ∧ (_ : Int) ≤ _); (simp <;> omega)))
    all_goals (try rfl)
    all_goals trace_state
  · obtain ⟨p, s, m⟩ := a
    dsimp only at ha ⊢
    cases p with
    | nil =>
      have hm : m = (evs l).length := by
        have h := congrArg List.length ha.e
        have h2 := ha.mle
        rw [List.length_drop] at h
        simp [runS] at h
        omega
      repeat' ((conv => whnf); first | (with_reducible rfl) | exact True.intro | (with_reducible exact absTF) | (with_reducible exact absFT) | intro _ | refine And.intro ?_ ?_ | refine Fin.mk ?_ | refine CallG.plain rfl ?_ ?_ | refine CallG.mk rfl ?_ ?_ | refine CallG.nwl rfl ?_ ?_ | refine CallG.nw ?_ ?_ | refine CallF.nwl rfl ?_ ?_ | refine CallF.nw ?_ ?_ | refine AppN.mk ?_ | (refine CallS.q ?_; (conv => whnf); first | refine CallG.plain rfl ?_ ?_ | refine CallG.mk rfl ?_ ?_) | (refine CallS.m ?_; (conv => whnf); refine CallM.mk rfl ?_ ?_) | (refine CallS.h ?_; (conv => whnf); refine CallM.mk rfl ?_ ?_) | (refine CallS.b ?_; (conv => whnf); refine CallM.mk rfl ?_ ?_) | (refine CallS.z ?_; (conv => whnf); refine CallM.mk rfl ?_ ?_))
      all_goals (try (conv => whnf))
      all_goals (try (exact Ob.mk (u8_bnd _)))
      all_goals (try (refine Ob.mk ?_; first | exact True.intro | assumption | omega | (try simp only [decide_eq_true_eq, decide_eq_false_iff_not, beq_iff_eq, beq_eq_false_iff_ne, bne_iff_ne, bne_eq_false_iff_eq, ne_eq, Bool.and_eq_true, Bool.or_eq_true, Bool.not_eq_true, Bool.not_eq_false, Bool.not_eq_true', Bool.not_eq_false', Int.toNat_natCast, Int.not_lt, Int.not_le, UInt8.ofNat_toNat, cast_eq] at *; omega)))
      all_goals (try ((show (_:Int) = _); omega))
      all_goals (try (show tupSV _ = _; with_unfolding_all rfl))
      all_goals (try ((show (_ : Nat) ≤ _); (simp <;> omega)))
      all_goals (try ((show (_ : Nat) ≤ _ ∧ (_ : Nat) ≤ _); (simp <;> omega)))
      all_goals (try ((show (_ : Int) ≤ _ ∧ (_ : Int) ≤ _ ∧ (_ : Int) ≤ _ ∧ (_ : Int) ≤ _); (simp <;> omega)))
      all_goals (try (exfalso; have h := of_decide_eq_true ‹decide (((pathR []).length : Int) > 0) = true›; revert h; decide))
      all_goals (first | exact hm | skip)
    | cons q rest =>
      obtain ⟨i, j⟩ := q
      have hin : i < l.length := ha.pn (i, j) List.mem_cons_self
      have hml := ha.mle
      have hm1 := ha.m1
      have hpl : rest.length + 1 ≤ m := ha.pl
      have hek := ha.e
      have hsl := ha.s
      repeat' ((conv => whnf); first | (with_reducible rfl) | exact True.intro | (with_reducible exact absTF) | (with_reducible exact absFT) | intro _ | refine And.intro ?_ ?_ | refine Fin.mk ?_ | refine CallG.plain rfl ?_ ?_ | refine CallG.mk rfl ?_ ?_ | refine CallG.nwl rfl ?_ ?_ | refine CallG.nw ?_ ?_ | refine CallF.nwl rfl ?_ ?_ | refine CallF.nw ?_ ?_ | refine AppN.mk ?_ | (refine CallS.q ?_; (conv => whnf); first | refine CallG.plain rfl ?_ ?_ | refine CallG.mk rfl ?_ ?_) | (refine CallS.m ?_; (conv => whnf); refine CallM.mk rfl ?_ ?_) | (refine CallS.h ?_; (conv => whnf); refine CallM.mk rfl ?_ ?_) | (refine CallS.b ?_; (conv => whnf); refine CallM.mk rfl ?_ ?_) | (refine CallS.z ?_; (conv => whnf); refine CallM.mk rfl ?_ ?_))
      all_goals (try (conv => whnf))
      all_goals (try (exact Ob.mk (u8_bnd _)))
      all_goals (try (refine Ob.mk ?_; first | exact True.intro | assumption | omega | (try simp only [decide_eq_true_eq, decide_eq_false_iff_not, beq_iff_eq, beq_eq_false_iff_ne, bne_iff_ne, bne_eq_false_iff_eq, ne_eq, Bool.and_eq_true, Bool.or_eq_true, Bool.not_eq_true, Bool.not_eq_false, Bool.not_eq_true', Bool.not_eq_false', Int.toNat_natCast, Int.not_lt, Int.not_le, UInt8.ofNat_toNat, cast_eq] at *; omega)))
      all_goals (try ((show (_:Int) = _); omega))
      all_goals (try (show tupSV _ = _; with_unfolding_all rfl))
      all_goals (try ((show (_ : Nat) ≤ _); (simp <;> omega)))
      all_goals (try ((show (_ : Nat) ≤ _ ∧ (_ : Nat) ≤ _); (simp <;> omega)))
      all_goals (try ((show (_ : Int) ≤ _ ∧ (_ : Int) ≤ _ ∧ (_ : Int) ≤ _ ∧ (_ : Int) ≤ _); (simp <;> omega)))
      all_goals (try simp only [List.getD_cons_zero] at *)
      all_goals (try simp only [topD] at *)
      all_goals (try simp only [Int.toNat_natCast, kids_def, setD, cutD] at *)
      all_goals (try (exfalso; have h := of_decide_eq_false ‹decide (((pathR ((i, j) :: rest)).length : Int) > 0) = false›; rw [pathR_len, List.length_cons] at h; omega))
      all_goals (try (exfalso; have h := ‹(!true) = true›; cases h; done))
      all_goals (try (exfalso; have h := ‹(!false) = false›; cases h; done))
      all_goals (try (have hj : ¬ j < (kidsOf l i).length := by have h := of_decide_eq_true ‹decide ((j : Int) ≥ ((kidsOf l i).length : Int)) = true›; omega))
      all_goals (try (have hj : j < (kidsOf l i).length := by have h := of_decide_eq_false ‹decide ((j : Int) ≥ ((kidsOf l i).length : Int)) = false›; omega))
      all_goals (try (rw [runS_end hj] at hek; obtain ⟨d1, d2, d3⟩ := drop_cons hek))
      · exact ⟨by omega, by omega⟩
      · exact d1
      · rw [d2]
      · rw [d2]
      · rw [d2]
      · rw [d2]
      · have hr := remT_le l rest
        refine Rnd.mk ⟨(rest, s, m + 1), ⟨by rw [d3], hsl, fun q hq => ha.pn q (List.mem_cons_of_mem _ hq), (by show m + 1 ≤ _; omega), (by show 1 ≤ m + 1; omega), (by show rest.length ≤ m + 1; omega)⟩, ?_, ?_⟩
        · dsimp only
          rw [runS_end hj, List.length_cons]
          exact mu_dec (Nat.le_refl _) hr
        · repeat' ((conv => whnf); first | (with_reducible rfl) | exact True.intro | (with_reducible exact absTF) | (with_reducible exact absFT) | intro _ | refine And.intro ?_ ?_ | refine Fin.mk ?_ | refine CallG.plain rfl ?_ ?_ | refine CallG.mk rfl ?_ ?_ | refine CallG.nwl rfl ?_ ?_ | refine CallG.nw ?_ ?_ | refine CallF.nwl rfl ?_ ?_ | refine CallF.nw ?_ ?_ | refine AppN.mk ?_ | (refine CallS.q ?_; (conv => whnf); first | refine CallG.plain rfl ?_ ?_ | refine CallG.mk rfl ?_ ?_) | (refine CallS.m ?_; (conv => whnf); refine CallM.mk rfl ?_ ?_) | (refine CallS.h ?_; (conv => whnf); refine CallM.mk rfl ?_ ?_) | (refine CallS.b ?_; (conv => whnf); refine CallM.mk rfl ?_ ?_) | (refine CallS.z ?_; (conv => whnf); refine CallM.mk rfl ?_ ?_))
          all_goals (try (conv => whnf))
          all_goals (try (exact Ob.mk (u8_bnd _)))
          all_goals (try (refine Ob.mk ?_; first | exact True.intro | assumption | omega | (try simp only [decide_eq_true_eq, decide_eq_false_iff_not, beq_iff_eq, beq_eq_false_iff_ne, bne_iff_ne, bne_eq_false_iff_eq, ne_eq, Bool.and_eq_true, Bool.or_eq_true, Bool.not_eq_true, Bool.not_eq_false, Bool.not_eq_true', Bool.not_eq_false', Int.toNat_natCast, Int.not_lt, Int.not_le, UInt8.ofNat_toNat, cast_eq] at *; omega)))
          all_goals (try ((show (_:Int) = _); omega))
          all_goals (try (show tupSV _ = _; with_unfolding_all rfl))
          all_goals (try ((show (_ : Nat) ≤ _); (simp <;> omega)))
          all_goals (try ((show (_ : Nat) ≤ _ ∧ (_ : Nat) ≤ _); (simp <;> omega)))
          all_goals (try ((show (_ : Int) ≤ _ ∧ (_ : Int) ≤ _ ∧ (_ : Int) ≤ _ ∧ (_ : Int) ≤ _); (simp <;> omega)))
          all_goals (try rfl)
          all_goals trace_state
      · have hj : j < (kidsOf l i).length := by
          have h := of_decide_eq_false ‹decide ((j : Int) ≥ ((kidsOf l i).length : Int)) = false›
          omega
        exact ⟨by omega, by show (j : Int) < ((kidsOf l i).length : Int); omega⟩
      · have hk : (kidsOf l i).length ≤ 9223372036854775807 := by assumption
        constructor <;> omega
      · have h : (decide ((kidsOf l i).getD j 0 < 0) || decide ((kidsOf l i).getD j 0 ≥ (l.length : Int))) = false := by assumption
        rw [Bool.or_eq_false_iff] at h
        have h1 := of_decide_eq_false h.1
        have h2 := of_decide_eq_false h.2
        show 0 ≤ (kidsOf l i).getD j 0 ∧ (kidsOf l i).getD j 0 < (s.length : Int)
        omega
      · have h : (decide ((kidsOf l i).getD j 0 < 0) || decide ((kidsOf l i).getD j 0 ≥ (l.length : Int))) = false := by assumption
        rw [Bool.or_eq_false_iff] at h
        have h1 := of_decide_eq_false h.1
        have h2 := of_decide_eq_false h.2
        show ((kidsOf l i).getD j 0).toNat < s.length
        omega
      · have hc : (decide ((kidsOf l i).getD j 0 < 0) || decide ((kidsOf l i).getD j 0 ≥ (l.length : Int)) || s.getD ((kidsOf l i).getD j 0).toNat false) = true := by assumption
        have hk := cnd_t hsl hc
        rw [runS_bad hj hk] at hek
        refine Rnd.mk ⟨((i, j + 1) :: rest, s, m), ⟨hek, hsl, (fun q hq => (by rcases List.mem_cons.1 hq with e | e; (subst e; exact hin); exact ha.pn q (List.mem_cons_of_mem _ e))), hml, hm1, ha.pl⟩, ?_, ?_⟩
        · dsimp only
          rw [runS_bad hj hk]
          show _ + ((kidsOf l i).length - (j + 1)) < _ + ((kidsOf l i).length - j)
          omega
        · repeat' ((conv => whnf); first | (with_reducible rfl) | exact True.intro | (with_reducible exact absTF) | (with_reducible exact absFT) | intro _ | refine And.intro ?_ ?_ | refine Fin.mk ?_ | refine CallG.plain rfl ?_ ?_ | refine CallG.mk rfl ?_ ?_ | refine CallG.nwl rfl ?_ ?_ | refine CallG.nw ?_ ?_ | refine CallF.nwl rfl ?_ ?_ | refine CallF.nw ?_ ?_ | refine AppN.mk ?_ | (refine CallS.q ?_; (conv => whnf); first | refine CallG.plain rfl ?_ ?_ | refine CallG.mk rfl ?_ ?_) | (refine CallS.m ?_; (conv => whnf); refine CallM.mk rfl ?_ ?_) | (refine CallS.h ?_; (conv => whnf); refine CallM.mk rfl ?_ ?_) | (refine CallS.b ?_; (conv => whnf); refine CallM.mk rfl ?_ ?_) | (refine CallS.z ?_; (conv => whnf); refine CallM.mk rfl ?_ ?_))
          all_goals (try (conv => whnf))
          all_goals (try (exact Ob.mk (u8_bnd _)))
          all_goals (try (refine Ob.mk ?_; first | exact True.intro | assumption | omega | (try simp only [decide_eq_true_eq, decide_eq_false_iff_not, beq_iff_eq, beq_eq_false_iff_ne, bne_iff_ne, bne_eq_false_iff_eq, ne_eq, Bool.and_eq_true, Bool.or_eq_true, Bool.not_eq_true, Bool.not_eq_false, Bool.not_eq_true', Bool.not_eq_false', Int.toNat_natCast, Int.not_lt, Int.not_le, UInt8.ofNat_toNat, cast_eq] at *; omega)))
          all_goals (try ((show (_:Int) = _); omega))
          all_goals (try (show tupSV _ = _; with_unfolding_all rfl))
          all_goals (try ((show (_ : Nat) ≤ _); (simp <;> omega)))
          all_goals (try ((show (_ : Nat) ≤ _ ∧ (_ : Nat) ≤ _); (simp <;> omega)))
          all_goals (try ((show (_ : Int) ≤ _ ∧ (_ : Int) ≤ _ ∧ (_ : Int) ≤ _ ∧ (_ : Int) ≤ _); (simp <;> omega)))
          all_goals (try rfl)
      all_goals (try (have hc : (decide ((kidsOf l i).getD j 0 < 0) || decide ((kidsOf l i).getD j 0 ≥ (l.length : Int)) || s.getD ((kidsOf l i).getD j 0).toNat false) = false := by assumption))
      all_goals (have hk := cnd_f hsl hc)
      all_goals (have hks := okK_spec hk)
      all_goals (rw [runS_ok hj hk] at hek; obtain ⟨d1, d2, d3⟩ := drop_cons hek)
      · exact ⟨hks.1, by show (kidsOf l i).getD j 0 < (s.length : Int); omega⟩
      · exact hks.2.1
      · exact d1
      · rw [d2]; show (kidsOf l i).getD j 0 = _; dsimp only; omega
      · rw [d2]
      · rw [d2]
      · rw [d2]
      · simp only [cast_eq]
        have := pathR_len ((i, j + 1) :: rest)
        rw [this]
        simp
        omega
      · refine Rnd.mk ⟨((((kidsOf l i).getD j 0).toNat, 0) :: (i, j + 1) :: rest, s.set ((kidsOf l i).getD j 0).toNat true, m + 1), ⟨d3, by rw [List.length_set]; exact hsl, (fun q hq => ?_), (by show m + 1 ≤ _; omega), (by show 1 ≤ m + 1; omega), (by show rest.length + 1 + 1 ≤ m + 1; omega)⟩, ?_, ?_⟩
        · rcases List.mem_cons.1 hq with e | e
          · subst e; show _ < l.length; have := hks.2.1; omega
          · rcases List.mem_cons.1 e with e | e
            · subst e; exact hin
            · exact ha.pn q (List.mem_cons_of_mem _ e)
        · dsimp only
          rw [runS_ok hj hk, List.length_cons]
          exact mu_dec (Nat.le_refl _) (remT_le l _)
        · repeat' ((conv => whnf); first | (with_reducible rfl) | exact True.intro | (with_reducible exact absTF) | (with_reducible exact absFT) | intro _ | refine And.intro ?_ ?_ | refine Fin.mk ?_ | refine CallG.plain rfl ?_ ?_ | refine CallG.mk rfl ?_ ?_ | refine CallG.nwl rfl ?_ ?_ | refine CallG.nw ?_ ?_ | refine CallF.nwl rfl ?_ ?_ | refine CallF.nw ?_ ?_ | refine AppN.mk ?_ | (refine CallS.q ?_; (conv => whnf); first | refine CallG.plain rfl ?_ ?_ | refine CallG.mk rfl ?_ ?_) | (refine CallS.m ?_; (conv => whnf); refine CallM.mk rfl ?_ ?_) | (refine CallS.h ?_; (conv => whnf); refine CallM.mk rfl ?_ ?_) | (refine CallS.b ?_; (conv => whnf); refine CallM.mk rfl ?_ ?_) | (refine CallS.z ?_; (conv => whnf); refine CallM.mk rfl ?_ ?_))
          all_goals (try (conv => whnf))
          all_goals (try (exact Ob.mk (u8_bnd _)))
          all_goals (try (refine Ob.mk ?_; first | exact True.intro | assumption | omega | (try simp only [decide_eq_true_eq, decide_eq_false_iff_not, beq_iff_eq, beq_eq_false_iff_ne, bne_iff_ne, bne_eq_false_iff_eq, ne_eq, Bool.and_eq_true, Bool.or_eq_true, Bool.not_eq_true, Bool.not_eq_false, Bool.not_eq_true', Bool.not_eq_false', Int.toNat_natCast, Int.not_lt, Int.not_le, UInt8.ofNat_toNat, cast_eq] at *; omega)))
          all_goals (try ((show (_:Int) = _); omega))
          all_goals (try (show tupSV _ = _; with_unfolding_all rfl))
          all_goals (try ((show (_ : Nat) ≤ _); (simp <;> omega)))
          all_goals (try ((show (_ : Nat) ≤ _ ∧ (_ : Nat) ≤ _); (simp <;> omega)))
          all_goals (try ((show (_ : Int) ≤ _ ∧ (_ : Int) ≤ _ ∧ (_ : Int) ≤ _ ∧ (_ : Int) ≤ _); (simp <;> omega)))
          all_goals (try rfl)
          · show Chunk.own spTy _ = Chunk.own spTy _
            rw [← appD _ hks.1]
            rfl
  · have : evs l = [] := by unfold evs evsT; rw [if_pos hz]
    rw [this]; rfl
end Go.Vc

namespace Go.Vc
open Go.Proofs
set_option linter.unusedVariables false
set_option maxRecDepth 10000
set_option linter.unusedSimpArgs false
set_option maxHeartbeats 4000000
def fin (l : List NodeD) : St := finT (kidsOf l) l.length
def natI (l : List Nat) : List Int := List.map (fun u : Nat => (u : Int)) l
theorem natI_snoc (l : List Nat) (v : Nat) : natI (l ++ [v]) = natI l ++ [(v : Int)] := by unfold natI; rw [List.map_append]; rfl
/-- behind so many events -/
def stA (l : List NodeD) (i : Nat) : St := (st0 l.length).run ((evs l).take i)
theorem stA_0 (l : List NodeD) : stA l 0 = st0 l.length := rfl
theorem stA_end (l : List NodeD) : stA l (evs l).length = fin l := by unfold stA fin finT evs; rw [List.take_length]
theorem stA_succ (l : List NodeD) (i : Nat) (h : i < (evs l).length) : stA l (i + 1) = (stA l i).step ((evs l).getD i (0, 0, 0, false)) := by
  unfold stA
  rw [List.take_succ_eq_append_getElem h, run_app]
  have : (evs l).getD i (0, 0, 0, false) = (evs l)[i] := by simp [List.getD, List.getElem?_eq_getElem h]
  rw [this]; rfl
theorem allOk_take {n : Nat} : ∀ {l : List Ev} {x : St} (i : Nat), AllOk n x l → AllOk n x (l.take i) := by
  intro l
  induction l with
  | nil => intro x i h; simp; exact h
  | cons e l ih =>
    intro x i h
    cases i with
    | zero => exact trivial
    | succ i => exact ⟨h.1, ih i h.2⟩
theorem allOk_at {n : Nat} : ∀ {l : List Ev} {x : St} (i : Nat) (d : Ev), AllOk n x l → i < l.length → EvOk n (x.run (l.take i)) (l.getD i d) := by
  intro l
  induction l with
  | nil => intro x i d h hi; cases hi
  | cons e l ih =>
    intro x i d h hi
    cases i with
    | zero => exact h.1
    | succ i => exact ih i d h.2 (by simpa using hi)
theorem stA_good (l : List NodeD) (i : Nat) : Good l.length (stA l i) := (good0 _).run (allOk_take i (evs_ok (kidsOf l) l.length).1)
theorem stA_ev (l : List NodeD) (i : Nat) (h : i < (evs l).length) : EvOk l.length (stA l i) ((evs l).getD i (0, 0, 0, false)) := allOk_at i _ (evs_ok (kidsOf l) l.length).1 h
theorem stA_m (l : List NodeD) (i : Nat) (h : i ≤ (evs l).length) : (stA l i).m = i := by
  unfold stA
  rw [run_m, List.length_take]
  show 0 + min i _ = i
  omega
theorem step_L (x : St) (e : Ev) : (x.step e).L = if e.2.2.2 = true then x.L else x.L ++ [e.1] := by unfold St.step; split <;> rfl
instance oList (l : List NodeD) : Fn BB 11 [.agg [.rd nodeTy l]] (l.length ≤ 45) (.rd intTy (natI (fin l).L)) := by
  refine Fn.intro (N := 17) [0, 1, 2, 3, 4, 6, 7, 10] [] Try.call11 Try.func11 rfl rfl (by kernel_rfl) (fun hpre => ?_)
  repeat' ((conv => whnf); first | (with_reducible rfl) | exact True.intro | (with_reducible exact absTF) | (with_reducible exact absFT) | intro _ | refine And.intro ?_ ?_ | refine Fin.mk ?_ | refine CallG.plain rfl ?_ ?_ | refine CallG.mk rfl ?_ ?_ | refine CallG.nwl rfl ?_ ?_ | refine CallG.nw ?_ ?_ | refine CallF.nwl rfl ?_ ?_ | refine CallF.nw ?_ ?_ | refine AppN.mk ?_ | (refine CallS.q ?_; (conv => whnf); first | refine CallG.plain rfl ?_ ?_ | refine CallG.mk rfl ?_ ?_) | (refine CallS.m ?_; (conv => whnf); refine CallM.mk rfl ?_ ?_) | (refine CallS.h ?_; (conv => whnf); refine CallM.mk rfl ?_ ?_) | (refine CallS.b ?_; (conv => whnf); refine CallM.mk rfl ?_ ?_) | (refine CallS.z ?_; (conv => whnf); refine CallM.mk rfl ?_ ?_))
  all_goals (try (conv => whnf))
  all_goals (try (exact Ob.mk (u8_bnd _)))
  all_goals (try (refine Ob.mk ?_; first | exact True.intro | assumption | omega | (try simp only [decide_eq_true_eq, decide_eq_false_iff_not, beq_iff_eq, beq_eq_false_iff_ne, bne_iff_ne, bne_eq_false_iff_eq, ne_eq, Bool.and_eq_true, Bool.or_eq_true, Bool.not_eq_true, Bool.not_eq_false, Bool.not_eq_true', Bool.not_eq_false', Int.toNat_natCast, Int.not_lt, Int.not_le, UInt8.ofNat_toNat, cast_eq] at *; omega)))
  all_goals (try ((show (_:Int) = _); omega))
  all_goals (try (show tupSV _ = _; with_unfolding_all rfl))
  all_goals (try ((show (_ : Nat) ≤ _); (simp <;> omega)))
  all_goals (try ((show (_ : Nat) ≤ _ ∧ (_ : Nat) ≤ _); (simp <;> omega)))
  all_goals (try ((show (_ : Int) ≤ _ ∧ (_ : Int) ≤ _ ∧ (_ : Int) ≤ _ ∧ (_ : Int) ≤ _); (simp <;> omega)))
  have hEl : (evs l).length ≤ 90 := by
    have := evs_len (kidsOf l) l.length
    show (evsT (kidsOf l) l.length).length ≤ 90
    omega
  have hlen : ∀ i, (stA l i).L.length ≤ 45 := fun i => by
    have g := stA_good l i
    have := nodup_lt g.nod g.lt
    omega
  refine RangeStop.mk (α := Nat) ⟨hpre⟩ rfl (fun i => [(1, .box [.own 20]), (20, .own intTy (natI (stA l i).L))]) 30 (fun i k => k = i) 0 rfl ?_ (fun i k hC hi => ?_) (fun k hC => ?_)
  · repeat' ((conv => whnf); first | (with_reducible rfl) | exact True.intro | (with_reducible exact absTF) | (with_reducible exact absFT) | intro _ | refine And.intro ?_ ?_ | refine Fin.mk ?_ | refine CallG.plain rfl ?_ ?_ | refine CallG.mk rfl ?_ ?_ | refine CallG.nwl rfl ?_ ?_ | refine CallG.nw ?_ ?_ | refine CallF.nwl rfl ?_ ?_ | refine CallF.nw ?_ ?_ | refine AppN.mk ?_ | (refine CallS.q ?_; (conv => whnf); first | refine CallG.plain rfl ?_ ?_ | refine CallG.mk rfl ?_ ?_) | (refine CallS.m ?_; (conv => whnf); refine CallM.mk rfl ?_ ?_) | (refine CallS.h ?_; (conv => whnf); refine CallM.mk rfl ?_ ?_) | (refine CallS.b ?_; (conv => whnf); refine CallM.mk rfl ?_ ?_) | (refine CallS.z ?_; (conv => whnf); refine CallM.mk rfl ?_ ?_))
    all_goals (try (conv => whnf))
    all_goals (try (exact Ob.mk (u8_bnd _)))
    all_goals (try (refine Ob.mk ?_; first | exact True.intro | assumption | omega | (try simp only [decide_eq_true_eq, decide_eq_false_iff_not, beq_iff_eq, beq_eq_false_iff_ne, bne_iff_ne, bne_eq_false_iff_eq, ne_eq, Bool.and_eq_true, Bool.or_eq_true, Bool.not_eq_true, Bool.not_eq_false, Bool.not_eq_true', Bool.not_eq_false', Int.toNat_natCast, Int.not_lt, Int.not_le, UInt8.ofNat_toNat, cast_eq] at *; omega)))
    all_goals (try ((show (_:Int) = _); omega))
    all_goals (try (show tupSV _ = _; with_unfolding_all rfl))
    all_goals (try ((show (_ : Nat) ≤ _); (simp <;> omega)))
    all_goals (try ((show (_ : Nat) ≤ _ ∧ (_ : Nat) ≤ _); (simp <;> omega)))
    all_goals (try ((show (_ : Int) ≤ _ ∧ (_ : Int) ≤ _ ∧ (_ : Int) ≤ _ ∧ (_ : Int) ≤ _); (simp <;> omega)))
    all_goals rfl
  · subst hC
    have hs := stA_succ l k hi
    have hl := hlen k
    generalize he : (evs l).getD k (0, 0, 0, false) = e at *
    obtain ⟨v, up, c, lf⟩ := e
    cases lf
    · repeat' ((conv => whnf); first | (with_reducible rfl) | exact True.intro | (with_reducible exact absTF) | (with_reducible exact absFT) | intro _ | refine And.intro ?_ ?_ | refine Fin.mk ?_ | refine CallG.plain rfl ?_ ?_ | refine CallG.mk rfl ?_ ?_ | refine CallG.nwl rfl ?_ ?_ | refine CallG.nw ?_ ?_ | refine CallF.nwl rfl ?_ ?_ | refine CallF.nw ?_ ?_ | refine AppN.mk ?_ | (refine CallS.q ?_; (conv => whnf); first | refine CallG.plain rfl ?_ ?_ | refine CallG.mk rfl ?_ ?_) | (refine CallS.m ?_; (conv => whnf); refine CallM.mk rfl ?_ ?_) | (refine CallS.h ?_; (conv => whnf); refine CallM.mk rfl ?_ ?_) | (refine CallS.b ?_; (conv => whnf); refine CallM.mk rfl ?_ ?_) | (refine CallS.z ?_; (conv => whnf); refine CallM.mk rfl ?_ ?_))
      all_goals (try (conv => whnf))
      all_goals (try (exact Ob.mk (u8_bnd _)))
      all_goals (try (refine Ob.mk ?_; first | exact True.intro | assumption | omega | (try simp only [decide_eq_true_eq, decide_eq_false_iff_not, beq_iff_eq, beq_eq_false_iff_ne, bne_iff_ne, bne_eq_false_iff_eq, ne_eq, Bool.and_eq_true, Bool.or_eq_true, Bool.not_eq_true, Bool.not_eq_false, Bool.not_eq_true', Bool.not_eq_false', Int.toNat_natCast, Int.not_lt, Int.not_le, UInt8.ofNat_toNat, cast_eq] at *; omega)))
      all_goals (try ((show (_:Int) = _); omega))
      all_goals (try (show tupSV _ = _; with_unfolding_all rfl))
      all_goals (try ((show (_ : Nat) ≤ _); (simp <;> omega)))
      all_goals (try ((show (_ : Nat) ≤ _ ∧ (_ : Nat) ≤ _); (simp <;> omega)))
      all_goals (try ((show (_ : Int) ≤ _ ∧ (_ : Int) ≤ _ ∧ (_ : Int) ≤ _ ∧ (_ : Int) ≤ _); (simp <;> omega)))
      all_goals (try (exfalso; have h := ‹(!false) = false›; cases h; done))
      · simp only [cast_eq]; unfold natI; simp; omega
      · refine Rnd.mk ⟨k + 1, rfl, ?_⟩
        repeat' ((conv => whnf); first | (with_reducible rfl) | exact True.intro | (with_reducible exact absTF) | (with_reducible exact absFT) | intro _ | refine And.intro ?_ ?_ | refine Fin.mk ?_ | refine CallG.plain rfl ?_ ?_ | refine CallG.mk rfl ?_ ?_ | refine CallG.nwl rfl ?_ ?_ | refine CallG.nw ?_ ?_ | refine CallF.nwl rfl ?_ ?_ | refine CallF.nw ?_ ?_ | refine AppN.mk ?_ | (refine CallS.q ?_; (conv => whnf); first | refine CallG.plain rfl ?_ ?_ | refine CallG.mk rfl ?_ ?_) | (refine CallS.m ?_; (conv => whnf); refine CallM.mk rfl ?_ ?_) | (refine CallS.h ?_; (conv => whnf); refine CallM.mk rfl ?_ ?_) | (refine CallS.b ?_; (conv => whnf); refine CallM.mk rfl ?_ ?_) | (refine CallS.z ?_; (conv => whnf); refine CallM.mk rfl ?_ ?_))
        all_goals (try (conv => whnf))
        all_goals (try (exact Ob.mk (u8_bnd _)))
        all_goals (try (refine Ob.mk ?_; first | exact True.intro | assumption | omega | (try simp only [decide_eq_true_eq, decide_eq_false_iff_not, beq_iff_eq, beq_eq_false_iff_ne, bne_iff_ne, bne_eq_false_iff_eq, ne_eq, Bool.and_eq_true, Bool.or_eq_true, Bool.not_eq_true, Bool.not_eq_false, Bool.not_eq_true', Bool.not_eq_false', Int.toNat_natCast, Int.not_lt, Int.not_le, UInt8.ofNat_toNat, cast_eq] at *; omega)))
        all_goals (try ((show (_:Int) = _); omega))
        all_goals (try (show tupSV _ = _; with_unfolding_all rfl))
        all_goals (try ((show (_ : Nat) ≤ _); (simp <;> omega)))
        all_goals (try ((show (_ : Nat) ≤ _ ∧ (_ : Nat) ≤ _); (simp <;> omega)))
        all_goals (try ((show (_ : Int) ≤ _ ∧ (_ : Int) ≤ _ ∧ (_ : Int) ≤ _ ∧ (_ : Int) ≤ _); (simp <;> omega)))
        rw [hs, step_L, if_neg (by simp), natI_snoc]
        try simp only [cast_eq]
    · repeat' ((conv => whnf); first | (with_reducible rfl) | exact True.intro | (with_reducible exact absTF) | (with_reducible exact absFT) | intro _ | refine And.intro ?_ ?_ | refine Fin.mk ?_ | refine CallG.plain rfl ?_ ?_ | refine CallG.mk rfl ?_ ?_ | refine CallG.nwl rfl ?_ ?_ | refine CallG.nw ?_ ?_ | refine CallF.nwl rfl ?_ ?_ | refine CallF.nw ?_ ?_ | refine AppN.mk ?_ | (refine CallS.q ?_; (conv => whnf); first | refine CallG.plain rfl ?_ ?_ | refine CallG.mk rfl ?_ ?_) | (refine CallS.m ?_; (conv => whnf); refine CallM.mk rfl ?_ ?_) | (refine CallS.h ?_; (conv => whnf); refine CallM.mk rfl ?_ ?_) | (refine CallS.b ?_; (conv => whnf); refine CallM.mk rfl ?_ ?_) | (refine CallS.z ?_; (conv => whnf); refine CallM.mk rfl ?_ ?_))
      all_goals (try (conv => whnf))
      all_goals (try (exact Ob.mk (u8_bnd _)))
      all_goals (try (refine Ob.mk ?_; first | exact True.intro | assumption | omega | (try simp only [decide_eq_true_eq, decide_eq_false_iff_not, beq_iff_eq, beq_eq_false_iff_ne, bne_iff_ne, bne_eq_false_iff_eq, ne_eq, Bool.and_eq_true, Bool.or_eq_true, Bool.not_eq_true, Bool.not_eq_false, Bool.not_eq_true', Bool.not_eq_false', Int.toNat_natCast, Int.not_lt, Int.not_le, UInt8.ofNat_toNat, cast_eq] at *; omega)))
      all_goals (try ((show (_:Int) = _); omega))
      all_goals (try (show tupSV _ = _; with_unfolding_all rfl))
      all_goals (try ((show (_ : Nat) ≤ _); (simp <;> omega)))
      all_goals (try ((show (_ : Nat) ≤ _ ∧ (_ : Nat) ≤ _); (simp <;> omega)))
      all_goals (try ((show (_ : Int) ≤ _ ∧ (_ : Int) ≤ _ ∧ (_ : Int) ≤ _ ∧ (_ : Int) ≤ _); (simp <;> omega)))
      all_goals (try (exfalso; have h := ‹(!true) = true›; cases h; done))
      refine Rnd.mk ⟨k + 1, rfl, ?_⟩
      repeat' ((conv => whnf); first | (with_reducible rfl) | exact True.intro | (with_reducible exact absTF) | (with_reducible exact absFT) | intro _ | refine And.intro ?_ ?_ | refine Fin.mk ?_ | refine CallG.plain rfl ?_ ?_ | refine CallG.mk rfl ?_ ?_ | refine CallG.nwl rfl ?_ ?_ | refine CallG.nw ?_ ?_ | refine CallF.nwl rfl ?_ ?_ | refine CallF.nw ?_ ?_ | refine AppN.mk ?_ | (refine CallS.q ?_; (conv => whnf); first | refine CallG.plain rfl ?_ ?_ | refine CallG.mk rfl ?_ ?_) | (refine CallS.m ?_; (conv => whnf); refine CallM.mk rfl ?_ ?_) | (refine CallS.h ?_; (conv => whnf); refine CallM.mk rfl ?_ ?_) | (refine CallS.b ?_; (conv => whnf); refine CallM.mk rfl ?_ ?_) | (refine CallS.z ?_; (conv => whnf); refine CallM.mk rfl ?_ ?_))
      all_goals (try (conv => whnf))
      all_goals (try (exact Ob.mk (u8_bnd _)))
      all_goals (try (refine Ob.mk ?_; first | exact True.intro | assumption | omega | (try simp only [decide_eq_true_eq, decide_eq_false_iff_not, beq_iff_eq, beq_eq_false_iff_ne, bne_iff_ne, bne_eq_false_iff_eq, ne_eq, Bool.and_eq_true, Bool.or_eq_true, Bool.not_eq_true, Bool.not_eq_false, Bool.not_eq_true', Bool.not_eq_false', Int.toNat_natCast, Int.not_lt, Int.not_le, UInt8.ofNat_toNat, cast_eq] at *; omega)))
      all_goals (try ((show (_:Int) = _); omega))
      all_goals (try (show tupSV _ = _; with_unfolding_all rfl))
      all_goals (try ((show (_ : Nat) ≤ _); (simp <;> omega)))
      all_goals (try ((show (_ : Nat) ≤ _ ∧ (_ : Nat) ≤ _); (simp <;> omega)))
      all_goals (try ((show (_ : Int) ≤ _ ∧ (_ : Int) ≤ _ ∧ (_ : Int) ≤ _ ∧ (_ : Int) ≤ _); (simp <;> omega)))
      rw [hs, step_L, if_pos rfl]
  · subst hC
    rw [stA_end]
    repeat' ((conv => whnf); first | (with_reducible rfl) | exact True.intro | (with_reducible exact absTF) | (with_reducible exact absFT) | intro _ | refine And.intro ?_ ?_ | refine Fin.mk ?_ | refine CallG.plain rfl ?_ ?_ | refine CallG.mk rfl ?_ ?_ | refine CallG.nwl rfl ?_ ?_ | refine CallG.nw ?_ ?_ | refine CallF.nwl rfl ?_ ?_ | refine CallF.nw ?_ ?_ | refine AppN.mk ?_ | (refine CallS.q ?_; (conv => whnf); first | refine CallG.plain rfl ?_ ?_ | refine CallG.mk rfl ?_ ?_) | (refine CallS.m ?_; (conv => whnf); refine CallM.mk rfl ?_ ?_) | (refine CallS.h ?_; (conv => whnf); refine CallM.mk rfl ?_ ?_) | (refine CallS.b ?_; (conv => whnf); refine CallM.mk rfl ?_ ?_) | (refine CallS.z ?_; (conv => whnf); refine CallM.mk rfl ?_ ?_))
    all_goals (try (conv => whnf))
    all_goals (try (exact Ob.mk (u8_bnd _)))
    all_goals (try (refine Ob.mk ?_; first | exact True.intro | assumption | omega | (try simp only [decide_eq_true_eq, decide_eq_false_iff_not, beq_iff_eq, beq_eq_false_iff_ne, bne_iff_ne, bne_eq_false_iff_eq, ne_eq, Bool.and_eq_true, Bool.or_eq_true, Bool.not_eq_true, Bool.not_eq_false, Bool.not_eq_true', Bool.not_eq_false', Int.toNat_natCast, Int.not_lt, Int.not_le, UInt8.ofNat_toNat, cast_eq] at *; omega)))
    all_goals (try ((show (_:Int) = _); omega))
    all_goals (try (show tupSV _ = _; with_unfolding_all rfl))
    all_goals (try ((show (_ : Nat) ≤ _); (simp <;> omega)))
    all_goals (try ((show (_ : Nat) ≤ _ ∧ (_ : Nat) ≤ _); (simp <;> omega)))
    all_goals (try ((show (_ : Int) ≤ _ ∧ (_ : Int) ≤ _ ∧ (_ : Int) ≤ _ ∧ (_ : Int) ≤ _); (simp <;> omega)))
def flat (x : St) : List (Int × Int) := (List.range x.I.length).map fun u => (x.I.getD u (-1), x.O.getD u (-1))
theorem flat_len (x : St) : (flat x).length = x.I.length := by unfold flat; simp
theorem flat_get (x : St) (u : Nat) (h : u < x.I.length) (d : Int × Int) : (flat x).getD u d = (x.I.getD u (-1), x.O.getD u (-1)) := by
  unfold flat; simp [List.getD, h]
theorem flat_ext {a b : List (Int × Int)} (hl : a.length = b.length) (h : ∀ u < a.length, ∀ d, a.getD u d = b.getD u d) : a = b := by
  apply List.ext_getElem hl
  intro i h1 h2
  have := h i h1 (0, 0)
  simpa [List.getD, List.getElem?_eq_getElem h1, List.getElem?_eq_getElem h2] using this
theorem flat_step {n : Nat} {x : St} (g : Good n x) {v : Nat} {up : Int} {c : Nat} {lf : Bool} (h : EvOk n x (v, up, c, lf)) :
    flat (x.step (v, up, c, lf)) = (flat x).set v (if lf = true then (((flat x).getD v (0, 0)).1, (x.m : Int)) else ((x.m : Int), -1)) := by
  have hI := g.lI
  have hO := g.lO
  cases lf with
  | true =>
    have h2 := h.2
    rw [if_pos rfl] at h2
    have hv : v ∈ x.P := List.mem_of_getLast? h2
    rw [g.stk, List.mem_filter] at hv
    have hn := g.lt v hv.1
    have e0 : x.step (v, up, c, true) = { x with P := x.P.dropLast, O := x.O.set v (x.m : Int), m := x.m + 1 } := rfl
    rw [e0, if_pos rfl]
    refine flat_ext (by rw [flat_len, List.length_set, flat_len]) fun u hu d => ?_
    rw [flat_len] at hu
    dsimp only at hu
    rw [flat_get _ _ (by exact hu), getD_setO (flat x), flat_len, flat_get x u hu, flat_get x v (by rw [hI]; exact hn)]
    dsimp only
    rw [getD_setO x.O]
    by_cases q : v = u
    · subst q; rw [if_pos ⟨rfl, by omega⟩, if_pos ⟨rfl, by omega⟩]
    · rw [if_neg (fun z => q z.1), if_neg (fun z => q z.1)]
  | false =>
    have h2 := h.2
    rw [if_neg (by simp)] at h2
    have e0 : x.step (v, up, c, false) = { x with L := x.L ++ [v], P := x.P ++ [v], I := x.I.set v (x.m : Int), m := x.m + 1 } := rfl
    rw [e0, if_neg (by simp)]
    refine flat_ext (by simp [flat_len]) fun u hu d => ?_
    rw [flat_len] at hu
    dsimp only at hu
    rw [List.length_set] at hu
    have h2 : v < n ∧ v ∉ x.L := h2
    rw [flat_get _ _ (by rw [List.length_set]; exact hu), getD_setO (flat x), flat_len, flat_get x u hu]
    dsimp only
    rw [getD_setO x.I]
    by_cases q : v = u
    · subst q; rw [if_pos ⟨rfl, by omega⟩, if_pos ⟨rfl, by omega⟩, (g.out v h2.2).2]
    · rw [if_neg (fun z => q z.1), if_neg (fun z => q z.1)]
theorem rep_step {α : Type} {a b : α} (i n : Nat) (h : i < n) : (List.replicate i a ++ List.replicate (n - i) b).set i a = List.replicate (i + 1) a ++ List.replicate (n - (i + 1)) b := by
  rw [List.set_append_right _ _ (by simp), List.length_replicate, Nat.sub_self]
  obtain ⟨m, hm⟩ : ∃ m, n - i = m + 1 := ⟨n - i - 1, by omega⟩
  rw [hm, List.replicate_succ, List.set_cons_zero, show n - (i + 1) = m by omega, List.replicate_succ']
  simp
theorem flat_st0 (l : List NodeD) : flat (stA l 0) = List.replicate l.length ((-1, -1) : Int × Int) := by
  rw [stA_0]
  refine flat_ext (by rw [flat_len]; simp [st0]) fun u hu d => ?_
  rw [flat_len] at hu
  rw [flat_get _ _ hu]
  have hu : u < l.length := by simpa [st0] using hu
  show ((List.replicate l.length (-1)).getD u (-1), (List.replicate l.length (-1)).getD u (-1)) = _
  rw [getD_repO, List.getD_eq_getElem?_getD, List.getElem?_replicate, if_pos hu]; rfl
instance oMarks (l : List NodeD) : Fn BB 8 [.agg [.rd nodeTy l]] (l.length ≤ 45) (.rd .cpx (flat (fin l))) := by
  refine Fn.intro (N := 45) [0, 1, 2, 3, 4, 5, 11, 12, 13, 20, 21, 23] [(10, [1, 0, 1, 1, 0, 1, 1, 1, 1, 0, 1, 1, 3, 3])] Try.call8 Try.func8 rfl rfl (by kernel_rfl) (fun hpre => ?_)
  repeat' ((conv => whnf); first | (with_reducible rfl) | exact True.intro | (with_reducible exact absTF) | (with_reducible exact absFT) | intro _ | refine And.intro ?_ ?_ | refine Fin.mk ?_ | refine CallG.plain rfl ?_ ?_ | refine CallG.mk rfl ?_ ?_ | refine CallG.nwl rfl ?_ ?_ | refine CallG.nw ?_ ?_ | refine CallF.nwl rfl ?_ ?_ | refine CallF.nw ?_ ?_ | refine AppN.mk ?_ | (refine CallS.q ?_; (conv => whnf); first | refine CallG.plain rfl ?_ ?_ | refine CallG.mk rfl ?_ ?_) | (refine CallS.m ?_; (conv => whnf); refine CallM.mk rfl ?_ ?_) | (refine CallS.h ?_; (conv => whnf); refine CallM.mk rfl ?_ ?_) | (refine CallS.b ?_; (conv => whnf); refine CallM.mk rfl ?_ ?_) | (refine CallS.z ?_; (conv => whnf); refine CallM.mk rfl ?_ ?_))
  all_goals (try (conv => whnf))
  all_goals (try (exact Ob.mk (u8_bnd _)))
  all_goals (try (refine Ob.mk ?_; first | exact True.intro | assumption | omega | (try simp only [decide_eq_true_eq, decide_eq_false_iff_not, beq_iff_eq, beq_eq_false_iff_ne, bne_iff_ne, bne_eq_false_iff_eq, ne_eq, Bool.and_eq_true, Bool.or_eq_true, Bool.not_eq_true, Bool.not_eq_false, Bool.not_eq_true', Bool.not_eq_false', Int.toNat_natCast, Int.not_lt, Int.not_le, UInt8.ofNat_toNat, cast_eq] at *; omega)))
  all_goals (try ((show (_:Int) = _); omega))
  all_goals (try (show tupSV _ = _; with_unfolding_all rfl))
  all_goals (try ((show (_ : Nat) ≤ _); (simp <;> omega)))
  all_goals (try ((show (_ : Nat) ≤ _ ∧ (_ : Nat) ≤ _); (simp <;> omega)))
  all_goals (try ((show (_ : Int) ≤ _ ∧ (_ : Int) ≤ _ ∧ (_ : Int) ≤ _ ∧ (_ : Int) ≤ _); (simp <;> omega)))
  rw [show ((l.length : Int)).toNat = l.length by omega]
  refine LoopStop.mk (α := Nat) (fun i => [(12, .int .i64 i)]) (fun i => [(2, .box [.own 1]), (1, .own .cpx (List.replicate i ((-1, -1) : Int × Int) ++ List.replicate (l.length - i) (0, 0)))]) 20 (fun i => i ≤ l.length) (fun i => l.length - i) 0 (Nat.zero_le _) ?_ (fun i hi => ?_)
  · repeat' ((conv => whnf); first | (with_reducible rfl) | exact True.intro | (with_reducible exact absTF) | (with_reducible exact absFT) | intro _ | refine And.intro ?_ ?_ | refine Fin.mk ?_ | refine CallG.plain rfl ?_ ?_ | refine CallG.mk rfl ?_ ?_ | refine CallG.nwl rfl ?_ ?_ | refine CallG.nw ?_ ?_ | refine CallF.nwl rfl ?_ ?_ | refine CallF.nw ?_ ?_ | refine AppN.mk ?_ | (refine CallS.q ?_; (conv => whnf); first | refine CallG.plain rfl ?_ ?_ | refine CallG.mk rfl ?_ ?_) | (refine CallS.m ?_; (conv => whnf); refine CallM.mk rfl ?_ ?_) | (refine CallS.h ?_; (conv => whnf); refine CallM.mk rfl ?_ ?_) | (refine CallS.b ?_; (conv => whnf); refine CallM.mk rfl ?_ ?_) | (refine CallS.z ?_; (conv => whnf); refine CallM.mk rfl ?_ ?_))
    all_goals (try (conv => whnf))
    all_goals (try (exact Ob.mk (u8_bnd _)))
    all_goals (try (refine Ob.mk ?_; first | exact True.intro | assumption | omega | (try simp only [decide_eq_true_eq, decide_eq_false_iff_not, beq_iff_eq, beq_eq_false_iff_ne, bne_iff_ne, bne_eq_false_iff_eq, ne_eq, Bool.and_eq_true, Bool.or_eq_true, Bool.not_eq_true, Bool.not_eq_false, Bool.not_eq_true', Bool.not_eq_false', Int.toNat_natCast, Int.not_lt, Int.not_le, UInt8.ofNat_toNat, cast_eq] at *; omega)))
    all_goals (try ((show (_:Int) = _); omega))
    all_goals (try (show tupSV _ = _; with_unfolding_all rfl))
    all_goals (try ((show (_ : Nat) ≤ _); (simp <;> omega)))
    all_goals (try ((show (_ : Nat) ≤ _ ∧ (_ : Nat) ≤ _); (simp <;> omega)))
    all_goals (try ((show (_ : Int) ≤ _ ∧ (_ : Int) ≤ _ ∧ (_ : Int) ≤ _ ∧ (_ : Int) ≤ _); (simp <;> omega)))
    all_goals rfl
  · repeat' ((conv => whnf); first | (with_reducible rfl) | exact True.intro | (with_reducible exact absTF) | (with_reducible exact absFT) | intro _ | refine And.intro ?_ ?_ | refine Fin.mk ?_ | refine CallG.plain rfl ?_ ?_ | refine CallG.mk rfl ?_ ?_ | refine CallG.nwl rfl ?_ ?_ | refine CallG.nw ?_ ?_ | refine CallF.nwl rfl ?_ ?_ | refine CallF.nw ?_ ?_ | refine AppN.mk ?_ | (refine CallS.q ?_; (conv => whnf); first | refine CallG.plain rfl ?_ ?_ | refine CallG.mk rfl ?_ ?_) | (refine CallS.m ?_; (conv => whnf); refine CallM.mk rfl ?_ ?_) | (refine CallS.h ?_; (conv => whnf); refine CallM.mk rfl ?_ ?_) | (refine CallS.b ?_; (conv => whnf); refine CallM.mk rfl ?_ ?_) | (refine CallS.z ?_; (conv => whnf); refine CallM.mk rfl ?_ ?_))
    all_goals (try (conv => whnf))
    all_goals (try (exact Ob.mk (u8_bnd _)))
    all_goals (try (refine Ob.mk ?_; first | exact True.intro | assumption | omega | (try simp only [decide_eq_true_eq, decide_eq_false_iff_not, beq_iff_eq, beq_eq_false_iff_ne, bne_iff_ne, bne_eq_false_iff_eq, ne_eq, Bool.and_eq_true, Bool.or_eq_true, Bool.not_eq_true, Bool.not_eq_false, Bool.not_eq_true', Bool.not_eq_false', Int.toNat_natCast, Int.not_lt, Int.not_le, UInt8.ofNat_toNat, cast_eq] at *; omega)))
    all_goals (try ((show (_:Int) = _); omega))
    all_goals (try (show tupSV _ = _; with_unfolding_all rfl))
    all_goals (try ((show (_ : Nat) ≤ _); (simp <;> omega)))
    all_goals (try ((show (_ : Nat) ≤ _ ∧ (_ : Nat) ≤ _); (simp <;> omega)))
    all_goals (try ((show (_ : Int) ≤ _ ∧ (_ : Int) ≤ _ ∧ (_ : Int) ≤ _ ∧ (_ : Int) ≤ _); (simp <;> omega)))
    all_goals (try simp only [Int.toNat_natCast, List.length_replicate] at *)
    all_goals (try (have hlt : i < l.length := by have h := of_decide_eq_true ‹decide ((i : Int) < (l.length : Int)) = true›; omega))
    · simp only [List.length_append, List.length_replicate]; omega
    · simp only [List.length_append, List.length_replicate]; omega
    · refine Rnd.mk ⟨i + 1, ⟨by omega, by omega, ?_⟩⟩
      repeat' ((conv => whnf); first | (with_reducible rfl) | exact True.intro | (with_reducible exact absTF) | (with_reducible exact absFT) | intro _ | refine And.intro ?_ ?_ | refine Fin.mk ?_ | refine CallG.plain rfl ?_ ?_ | refine CallG.mk rfl ?_ ?_ | refine CallG.nwl rfl ?_ ?_ | refine CallG.nw ?_ ?_ | refine CallF.nwl rfl ?_ ?_ | refine CallF.nw ?_ ?_ | refine AppN.mk ?_ | (refine CallS.q ?_; (conv => whnf); first | refine CallG.plain rfl ?_ ?_ | refine CallG.mk rfl ?_ ?_) | (refine CallS.m ?_; (conv => whnf); refine CallM.mk rfl ?_ ?_) | (refine CallS.h ?_; (conv => whnf); refine CallM.mk rfl ?_ ?_) | (refine CallS.b ?_; (conv => whnf); refine CallM.mk rfl ?_ ?_) | (refine CallS.z ?_; (conv => whnf); refine CallM.mk rfl ?_ ?_))
      all_goals (try (conv => whnf))
      all_goals (try (exact Ob.mk (u8_bnd _)))
      all_goals (try (refine Ob.mk ?_; first | exact True.intro | assumption | omega | (try simp only [decide_eq_true_eq, decide_eq_false_iff_not, beq_iff_eq, beq_eq_false_iff_ne, bne_iff_ne, bne_eq_false_iff_eq, ne_eq, Bool.and_eq_true, Bool.or_eq_true, Bool.not_eq_true, Bool.not_eq_false, Bool.not_eq_true', Bool.not_eq_false', Int.toNat_natCast, Int.not_lt, Int.not_le, UInt8.ofNat_toNat, cast_eq] at *; omega)))
      all_goals (try ((show (_:Int) = _); omega))
      all_goals (try (show tupSV _ = _; with_unfolding_all rfl))
      all_goals (try ((show (_ : Nat) ≤ _); (simp <;> omega)))
      all_goals (try ((show (_ : Nat) ≤ _ ∧ (_ : Nat) ≤ _); (simp <;> omega)))
      all_goals (try ((show (_ : Int) ≤ _ ∧ (_ : Int) ≤ _ ∧ (_ : Int) ≤ _ ∧ (_ : Int) ≤ _); (simp <;> omega)))
      all_goals (try rfl)
      rw [rep_step i l.length hlt]
    · have hin : i = l.length := by have h := of_decide_eq_false ‹decide ((i : Int) < (l.length : Int)) = false›; omega
      subst hin
      have hEl : (evs l).length ≤ 90 := by
        have := evs_len (kidsOf l) l.length
        show (evsT (kidsOf l) l.length).length ≤ 90
        omega
      refine RangeStop.mk (α := Nat) ⟨hpre⟩ rfl (fun i => [(2, .box [.own 1]), (1, .own .cpx (flat (stA l i)))]) 40 (fun i k => k = i) 0 rfl ?_ (fun i k hC hi => ?_) (fun k hC => ?_)
      · repeat' ((conv => whnf); first | (with_reducible rfl) | exact True.intro | (with_reducible exact absTF) | (with_reducible exact absFT) | intro _ | refine And.intro ?_ ?_ | refine Fin.mk ?_ | refine CallG.plain rfl ?_ ?_ | refine CallG.mk rfl ?_ ?_ | refine CallG.nwl rfl ?_ ?_ | refine CallG.nw ?_ ?_ | refine CallF.nwl rfl ?_ ?_ | refine CallF.nw ?_ ?_ | refine AppN.mk ?_ | (refine CallS.q ?_; (conv => whnf); first | refine CallG.plain rfl ?_ ?_ | refine CallG.mk rfl ?_ ?_) | (refine CallS.m ?_; (conv => whnf); refine CallM.mk rfl ?_ ?_) | (refine CallS.h ?_; (conv => whnf); refine CallM.mk rfl ?_ ?_) | (refine CallS.b ?_; (conv => whnf); refine CallM.mk rfl ?_ ?_) | (refine CallS.z ?_; (conv => whnf); refine CallM.mk rfl ?_ ?_))
        all_goals (try (conv => whnf))
        all_goals (try (exact Ob.mk (u8_bnd _)))
        all_goals (try (refine Ob.mk ?_; first | exact True.intro | assumption | omega | (try simp only [decide_eq_true_eq, decide_eq_false_iff_not, beq_iff_eq, beq_eq_false_iff_ne, bne_iff_ne, bne_eq_false_iff_eq, ne_eq, Bool.and_eq_true, Bool.or_eq_true, Bool.not_eq_true, Bool.not_eq_false, Bool.not_eq_true', Bool.not_eq_false', Int.toNat_natCast, Int.not_lt, Int.not_le, UInt8.ofNat_toNat, cast_eq] at *; omega)))
        all_goals (try ((show (_:Int) = _); omega))
        all_goals (try (show tupSV _ = _; with_unfolding_all rfl))
        all_goals (try ((show (_ : Nat) ≤ _); (simp <;> omega)))
        all_goals (try ((show (_ : Nat) ≤ _ ∧ (_ : Nat) ≤ _); (simp <;> omega)))
        all_goals (try ((show (_ : Int) ≤ _ ∧ (_ : Int) ≤ _ ∧ (_ : Int) ≤ _ ∧ (_ : Int) ≤ _); (simp <;> omega)))
        all_goals (try rfl)
        · show Chunk.own Ty.cpx _ = Chunk.own Ty.cpx _
          rw [Nat.sub_self, List.replicate_zero, List.append_nil, flat_st0]
      · subst hC
        have hs := stA_succ l k hi
        have hv := stA_ev l k hi
        have g := stA_good l k
        have hm := stA_m l k (Nat.le_of_lt hi)
        generalize he : (evs l).getD k (0, 0, 0, false) = e at *
        obtain ⟨v, up, c, lf⟩ := e
        have hst := flat_step g hv
        have hcm : c = (stA l k).m := hv.1
        have hfl : (flat (stA l k)).length = l.length := by rw [flat_len]; exact g.lI
        cases lf
        · have hn : v < l.length := hv.2.1
          repeat' ((conv => whnf); first | (with_reducible rfl) | exact True.intro | (with_reducible exact absTF) | (with_reducible exact absFT) | intro _ | refine And.intro ?_ ?_ | refine Fin.mk ?_ | refine CallG.plain rfl ?_ ?_ | refine CallG.mk rfl ?_ ?_ | refine CallG.nwl rfl ?_ ?_ | refine CallG.nw ?_ ?_ | refine CallF.nwl rfl ?_ ?_ | refine CallF.nw ?_ ?_ | refine AppN.mk ?_ | (refine CallS.q ?_; (conv => whnf); first | refine CallG.plain rfl ?_ ?_ | refine CallG.mk rfl ?_ ?_) | (refine CallS.m ?_; (conv => whnf); refine CallM.mk rfl ?_ ?_) | (refine CallS.h ?_; (conv => whnf); refine CallM.mk rfl ?_ ?_) | (refine CallS.b ?_; (conv => whnf); refine CallM.mk rfl ?_ ?_) | (refine CallS.z ?_; (conv => whnf); refine CallM.mk rfl ?_ ?_))
          all_goals (try (conv => whnf))
          all_goals (try (exact Ob.mk (u8_bnd _)))
          all_goals (try (refine Ob.mk ?_; first | exact True.intro | assumption | omega | (try simp only [decide_eq_true_eq, decide_eq_false_iff_not, beq_iff_eq, beq_eq_false_iff_ne, bne_iff_ne, bne_eq_false_iff_eq, ne_eq, Bool.and_eq_true, Bool.or_eq_true, Bool.not_eq_true, Bool.not_eq_false, Bool.not_eq_true', Bool.not_eq_false', Int.toNat_natCast, Int.not_lt, Int.not_le, UInt8.ofNat_toNat, cast_eq] at *; omega)))
          all_goals (try ((show (_:Int) = _); omega))
          all_goals (try (show tupSV _ = _; with_unfolding_all rfl))
          all_goals (try ((show (_ : Nat) ≤ _); (simp <;> omega)))
          all_goals (try ((show (_ : Nat) ≤ _ ∧ (_ : Nat) ≤ _); (simp <;> omega)))
          all_goals (try ((show (_ : Int) ≤ _ ∧ (_ : Int) ≤ _ ∧ (_ : Int) ≤ _ ∧ (_ : Int) ≤ _); (simp <;> omega)))
          all_goals (try simp only [Int.toNat_natCast] at *)
          all_goals (try (rw [hfl]))
          all_goals (try omega)
          refine Rnd.mk ⟨k + 1, rfl, ?_⟩
          repeat' ((conv => whnf); first | (with_reducible rfl) | exact True.intro | (with_reducible exact absTF) | (with_reducible exact absFT) | intro _ | refine And.intro ?_ ?_ | refine Fin.mk ?_ | refine CallG.plain rfl ?_ ?_ | refine CallG.mk rfl ?_ ?_ | refine CallG.nwl rfl ?_ ?_ | refine CallG.nw ?_ ?_ | refine CallF.nwl rfl ?_ ?_ | refine CallF.nw ?_ ?_ | refine AppN.mk ?_ | (refine CallS.q ?_; (conv => whnf); first | refine CallG.plain rfl ?_ ?_ | refine CallG.mk rfl ?_ ?_) | (refine CallS.m ?_; (conv => whnf); refine CallM.mk rfl ?_ ?_) | (refine CallS.h ?_; (conv => whnf); refine CallM.mk rfl ?_ ?_) | (refine CallS.b ?_; (conv => whnf); refine CallM.mk rfl ?_ ?_) | (refine CallS.z ?_; (conv => whnf); refine CallM.mk rfl ?_ ?_))
          all_goals (try (conv => whnf))
          all_goals (try (exact Ob.mk (u8_bnd _)))
          all_goals (try (refine Ob.mk ?_; first | exact True.intro | assumption | omega | (try simp only [decide_eq_true_eq, decide_eq_false_iff_not, beq_iff_eq, beq_eq_false_iff_ne, bne_iff_ne, bne_eq_false_iff_eq, ne_eq, Bool.and_eq_true, Bool.or_eq_true, Bool.not_eq_true, Bool.not_eq_false, Bool.not_eq_true', Bool.not_eq_false', Int.toNat_natCast, Int.not_lt, Int.not_le, UInt8.ofNat_toNat, cast_eq] at *; omega)))
          all_goals (try ((show (_:Int) = _); omega))
          all_goals (try (show tupSV _ = _; with_unfolding_all rfl))
          all_goals (try ((show (_ : Nat) ≤ _); (simp <;> omega)))
          all_goals (try ((show (_ : Nat) ≤ _ ∧ (_ : Nat) ≤ _); (simp <;> omega)))
          all_goals (try ((show (_ : Int) ≤ _ ∧ (_ : Int) ≤ _ ∧ (_ : Int) ≤ _ ∧ (_ : Int) ≤ _); (simp <;> omega)))
          rw [hs, hst, if_neg (by simp), hcm]
        · have hn : v < l.length := by
            have h2 := hv.2
            rw [if_pos rfl] at h2
            have h3 : v ∈ (stA l k).P := List.mem_of_getLast? h2
            rw [g.stk, List.mem_filter] at h3
            exact g.lt v h3.1
          repeat' ((conv => whnf); first | (with_reducible rfl) | exact True.intro | (with_reducible exact absTF) | (with_reducible exact absFT) | intro _ | refine And.intro ?_ ?_ | refine Fin.mk ?_ | refine CallG.plain rfl ?_ ?_ | refine CallG.mk rfl ?_ ?_ | refine CallG.nwl rfl ?_ ?_ | refine CallG.nw ?_ ?_ | refine CallF.nwl rfl ?_ ?_ | refine CallF.nw ?_ ?_ | refine AppN.mk ?_ | (refine CallS.q ?_; (conv => whnf); first | refine CallG.plain rfl ?_ ?_ | refine CallG.mk rfl ?_ ?_) | (refine CallS.m ?_; (conv => whnf); refine CallM.mk rfl ?_ ?_) | (refine CallS.h ?_; (conv => whnf); refine CallM.mk rfl ?_ ?_) | (refine CallS.b ?_; (conv => whnf); refine CallM.mk rfl ?_ ?_) | (refine CallS.z ?_; (conv => whnf); refine CallM.mk rfl ?_ ?_))
          all_goals (try (conv => whnf))
          all_goals (try (exact Ob.mk (u8_bnd _)))
          all_goals (try (refine Ob.mk ?_; first | exact True.intro | assumption | omega | (try simp only [decide_eq_true_eq, decide_eq_false_iff_not, beq_iff_eq, beq_eq_false_iff_ne, bne_iff_ne, bne_eq_false_iff_eq, ne_eq, Bool.and_eq_true, Bool.or_eq_true, Bool.not_eq_true, Bool.not_eq_false, Bool.not_eq_true', Bool.not_eq_false', Int.toNat_natCast, Int.not_lt, Int.not_le, UInt8.ofNat_toNat, cast_eq] at *; omega)))
          all_goals (try ((show (_:Int) = _); omega))
          all_goals (try (show tupSV _ = _; with_unfolding_all rfl))
          all_goals (try ((show (_ : Nat) ≤ _); (simp <;> omega)))
          all_goals (try ((show (_ : Nat) ≤ _ ∧ (_ : Nat) ≤ _); (simp <;> omega)))
          all_goals (try ((show (_ : Int) ≤ _ ∧ (_ : Int) ≤ _ ∧ (_ : Int) ≤ _ ∧ (_ : Int) ≤ _); (simp <;> omega)))
          all_goals (try simp only [Int.toNat_natCast] at *)
          all_goals (try (rw [hfl]))
          all_goals (try omega)
          refine Rnd.mk ⟨k + 1, rfl, ?_⟩
          repeat' ((conv => whnf); first | (with_reducible rfl) | exact True.intro | (with_reducible exact absTF) | (with_reducible exact absFT) | intro _ | refine And.intro ?_ ?_ | refine Fin.mk ?_ | refine CallG.plain rfl ?_ ?_ | refine CallG.mk rfl ?_ ?_ | refine CallG.nwl rfl ?_ ?_ | refine CallG.nw ?_ ?_ | refine CallF.nwl rfl ?_ ?_ | refine CallF.nw ?_ ?_ | refine AppN.mk ?_ | (refine CallS.q ?_; (conv => whnf); first | refine CallG.plain rfl ?_ ?_ | refine CallG.mk rfl ?_ ?_) | (refine CallS.m ?_; (conv => whnf); refine CallM.mk rfl ?_ ?_) | (refine CallS.h ?_; (conv => whnf); refine CallM.mk rfl ?_ ?_) | (refine CallS.b ?_; (conv => whnf); refine CallM.mk rfl ?_ ?_) | (refine CallS.z ?_; (conv => whnf); refine CallM.mk rfl ?_ ?_))
          all_goals (try (conv => whnf))
          all_goals (try (exact Ob.mk (u8_bnd _)))
          all_goals (try (refine Ob.mk ?_; first | exact True.intro | assumption | omega | (try simp only [decide_eq_true_eq, decide_eq_false_iff_not, beq_iff_eq, beq_eq_false_iff_ne, bne_iff_ne, bne_eq_false_iff_eq, ne_eq, Bool.and_eq_true, Bool.or_eq_true, Bool.not_eq_true, Bool.not_eq_false, Bool.not_eq_true', Bool.not_eq_false', Int.toNat_natCast, Int.not_lt, Int.not_le, UInt8.ofNat_toNat, cast_eq] at *; omega)))
          all_goals (try ((show (_:Int) = _); omega))
          all_goals (try (show tupSV _ = _; with_unfolding_all rfl))
          all_goals (try ((show (_ : Nat) ≤ _); (simp <;> omega)))
          all_goals (try ((show (_ : Nat) ≤ _ ∧ (_ : Nat) ≤ _); (simp <;> omega)))
          all_goals (try ((show (_ : Int) ≤ _ ∧ (_ : Int) ≤ _ ∧ (_ : Int) ≤ _ ∧ (_ : Int) ≤ _); (simp <;> omega)))
          rw [hs, hst, hcm]
          try rfl
      · subst hC
        rw [stA_end]
        repeat' ((conv => whnf); first | (with_reducible rfl) | exact True.intro | (with_reducible exact absTF) | (with_reducible exact absFT) | intro _ | refine And.intro ?_ ?_ | refine Fin.mk ?_ | refine CallG.plain rfl ?_ ?_ | refine CallG.mk rfl ?_ ?_ | refine CallG.nwl rfl ?_ ?_ | refine CallG.nw ?_ ?_ | refine CallF.nwl rfl ?_ ?_ | refine CallF.nw ?_ ?_ | refine AppN.mk ?_ | (refine CallS.q ?_; (conv => whnf); first | refine CallG.plain rfl ?_ ?_ | refine CallG.mk rfl ?_ ?_) | (refine CallS.m ?_; (conv => whnf); refine CallM.mk rfl ?_ ?_) | (refine CallS.h ?_; (conv => whnf); refine CallM.mk rfl ?_ ?_) | (refine CallS.b ?_; (conv => whnf); refine CallM.mk rfl ?_ ?_) | (refine CallS.z ?_; (conv => whnf); refine CallM.mk rfl ?_ ?_))
        all_goals (try (conv => whnf))
        all_goals (try (exact Ob.mk (u8_bnd _)))
        all_goals (try (refine Ob.mk ?_; first | exact True.intro | assumption | omega | (try simp only [decide_eq_true_eq, decide_eq_false_iff_not, beq_iff_eq, beq_eq_false_iff_ne, bne_iff_ne, bne_eq_false_iff_eq, ne_eq, Bool.and_eq_true, Bool.or_eq_true, Bool.not_eq_true, Bool.not_eq_false, Bool.not_eq_true', Bool.not_eq_false', Int.toNat_natCast, Int.not_lt, Int.not_le, UInt8.ofNat_toNat, cast_eq] at *; omega)))
        all_goals (try ((show (_:Int) = _); omega))
        all_goals (try (show tupSV _ = _; with_unfolding_all rfl))
        all_goals (try ((show (_ : Nat) ≤ _); (simp <;> omega)))
        all_goals (try ((show (_ : Nat) ≤ _ ∧ (_ : Nat) ≤ _); (simp <;> omega)))
        all_goals (try ((show (_ : Int) ≤ _ ∧ (_ : Int) ≤ _ ∧ (_ : Int) ≤ _ ∧ (_ : Int) ≤ _); (simp <;> omega)))
instance oInside (a b c d : Int) : Fn BB 15 [.cpx a b, .cpx c d] (-1 ≤ a ∧ a ≤ 95 ∧ -1 ≤ b ∧ b ≤ 95 ∧ -1 ≤ c ∧ c ≤ 95 ∧ -1 ≤ d ∧ d ≤ 95) (.bool (decide (0 ≤ a) && decide (0 ≤ c) && (decide (c < a) && decide (b < d)))) := by
  refine Fn.intro (N := 25) [0, 1, 4, 5, 13] [] Try.call15 Try.func15 rfl rfl (by kernel_rfl) (fun hpre => ?_)
  repeat' ((conv => whnf); first | (with_reducible rfl) | exact True.intro | (with_reducible exact absTF) | (with_reducible exact absFT) | intro _ | refine And.intro ?_ ?_ | refine Fin.mk ?_ | refine CallG.plain rfl ?_ ?_ | refine CallG.mk rfl ?_ ?_ | refine CallG.nwl rfl ?_ ?_ | refine CallG.nw ?_ ?_ | refine CallF.nwl rfl ?_ ?_ | refine CallF.nw ?_ ?_ | refine AppN.mk ?_ | (refine CallS.q ?_; (conv => whnf); first | refine CallG.plain rfl ?_ ?_ | refine CallG.mk rfl ?_ ?_) | (refine CallS.m ?_; (conv => whnf); refine CallM.mk rfl ?_ ?_) | (refine CallS.h ?_; (conv => whnf); refine CallM.mk rfl ?_ ?_) | (refine CallS.b ?_; (conv => whnf); refine CallM.mk rfl ?_ ?_) | (refine CallS.z ?_; (conv => whnf); refine CallM.mk rfl ?_ ?_))
  all_goals (try (conv => whnf))
  all_goals (try (exact Ob.mk (u8_bnd _)))
  all_goals (try (refine Ob.mk ?_; first | exact True.intro | assumption | omega | (try simp only [decide_eq_true_eq, decide_eq_false_iff_not, beq_iff_eq, beq_eq_false_iff_ne, bne_iff_ne, bne_eq_false_iff_eq, ne_eq, Bool.and_eq_true, Bool.or_eq_true, Bool.not_eq_true, Bool.not_eq_false, Bool.not_eq_true', Bool.not_eq_false', Int.toNat_natCast, Int.not_lt, Int.not_le, UInt8.ofNat_toNat, cast_eq] at *; omega)))
  all_goals (try ((show (_:Int) = _); omega))
  all_goals (try (show tupSV _ = _; with_unfolding_all rfl))
  all_goals (try ((show (_ : Nat) ≤ _); (simp <;> omega)))
  all_goals (try ((show (_ : Nat) ≤ _ ∧ (_ : Nat) ≤ _); (simp <;> omega)))
  all_goals (try ((show (_ : Int) ≤ _ ∧ (_ : Int) ≤ _ ∧ (_ : Int) ≤ _ ∧ (_ : Int) ≤ _); (simp <;> omega)))
  all_goals (try simp only [decide_eq_true_eq, decide_eq_false_iff_not, beq_iff_eq, beq_eq_false_iff_ne, bne_iff_ne, bne_eq_false_iff_eq, ne_eq, Bool.and_eq_true, Bool.or_eq_true, Bool.and_eq_false_iff, Bool.or_eq_false_iff, Bool.not_eq_true, Bool.not_eq_false, Bool.not_eq_true', Bool.not_eq_false', Int.toNat_natCast, Int.not_lt, Int.not_le, ge_iff_le, gt_iff_lt, UInt8.ofNat_toNat, cast_eq] at *)
  · symm
    rw [Bool.eq_false_iff]
    intro h
    simp only [Bool.and_eq_true, decide_eq_true_eq] at h
    omega
  · obtain ⟨h1, h2⟩ : 0 ≤ a ∧ 0 ≤ c := ‹_›
    rw [decide_eq_true h1, decide_eq_true h2]
    have e1 : decide (0 < a - c) = decide (c < a) := by rw [Bool.eq_iff_iff, decide_eq_true_eq, decide_eq_true_eq]; omega
    have e2 : decide (b - d < 0) = decide (b < d) := by rw [Bool.eq_iff_iff, decide_eq_true_eq, decide_eq_true_eq]; omega
    rw [e1, e2]; rfl
def deepA (l : List NodeD) (i : Nat) : Int × Int := ((evs l).take i).foldl (fun p e => if e.2.2.2 = true then (p.1, p.2 - 1) else (max p.1 (p.2 + 1), p.2 + 1)) (0, -1)
theorem deepE_fold : ∀ (r : List Ev) (p : Int × Int), deepE r p = r.foldl (fun p e => if e.2.2.2 = true then (p.1, p.2 - 1) else (max p.1 (p.2 + 1), p.2 + 1)) p := by
  intro r
  induction r with
  | nil => intro p; rfl
  | cons e r ih => intro p; rw [deepE, ih]; rfl
theorem deepA_succ (l : List NodeD) (i : Nat) (h : i < (evs l).length) : deepA l (i + 1) = (fun (p : Int × Int) (e : Ev) => if e.2.2.2 = true then (p.1, p.2 - 1) else (max p.1 (p.2 + 1), p.2 + 1)) (deepA l i) ((evs l).getD i (0, 0, 0, false)) := by
  unfold deepA
  rw [List.take_succ_eq_append_getElem h, List.foldl_append]
  have : (evs l).getD i (0, 0, 0, false) = (evs l)[i] := by simp [List.getD, List.getElem?_eq_getElem h]
  rw [this]; rfl
theorem deepA_bnd (l : List NodeD) : ∀ i : Nat, -1 - (i : Int) ≤ (deepA l i).2 ∧ (deepA l i).2 ≤ i ∧ 0 ≤ (deepA l i).1 ∧ (deepA l i).1 ≤ i := by
  intro i
  induction i with
  | zero =>
    have e : deepA l 0 = (0, -1) := rfl
    rw [e]
    exact ⟨by decide, by decide, by decide, by decide⟩
  | succ i ih =>
    rcases Nat.lt_or_ge i (evs l).length with h | h
    · rw [deepA_succ l i h]
      dsimp only
      split
      · dsimp only; omega
      · dsimp only; omega
    · have : deepA l (i + 1) = deepA l i := by unfold deepA; rw [List.take_of_length_le h, List.take_of_length_le (by omega)]
      rw [this]; omega
def deepT (l : List NodeD) : Int := (deepE (evs l) (0, -1)).1
theorem deepA_end (l : List NodeD) : (deepA l (evs l).length).1 = deepT l := by unfold deepA deepT; rw [deepE_fold, List.take_length]
instance oDeep (l : List NodeD) : Fn BB 13 [.agg [.rd nodeTy l]] (l.length ≤ 45) (.int .i64 (deepT l)) := by
  refine Fn.intro (N := 19) [0, 1, 2, 3, 4, 5, 7, 8, 10] [] Try.call13 Try.func13 rfl rfl (by kernel_rfl) (fun hpre => ?_)
  repeat' ((conv => whnf); first | (with_reducible rfl) | exact True.intro | (with_reducible exact absTF) | (with_reducible exact absFT) | intro _ | refine And.intro ?_ ?_ | refine Fin.mk ?_ | refine CallG.plain rfl ?_ ?_ | refine CallG.mk rfl ?_ ?_ | refine CallG.nwl rfl ?_ ?_ | refine CallG.nw ?_ ?_ | refine CallF.nwl rfl ?_ ?_ | refine CallF.nw ?_ ?_ | refine AppN.mk ?_ | (refine CallS.q ?_; (conv => whnf); first | refine CallG.plain rfl ?_ ?_ | refine CallG.mk rfl ?_ ?_) | (refine CallS.m ?_; (conv => whnf); refine CallM.mk rfl ?_ ?_) | (refine CallS.h ?_; (conv => whnf); refine CallM.mk rfl ?_ ?_) | (refine CallS.b ?_; (conv => whnf); refine CallM.mk rfl ?_ ?_) | (refine CallS.z ?_; (conv => whnf); refine CallM.mk rfl ?_ ?_))
  all_goals (try (conv => whnf))
  all_goals (try (exact Ob.mk (u8_bnd _)))
  all_goals (try (refine Ob.mk ?_; first | exact True.intro | assumption | omega | (try simp only [decide_eq_true_eq, decide_eq_false_iff_not, beq_iff_eq, beq_eq_false_iff_ne, bne_iff_ne, bne_eq_false_iff_eq, ne_eq, Bool.and_eq_true, Bool.or_eq_true, Bool.not_eq_true, Bool.not_eq_false, Bool.not_eq_true', Bool.not_eq_false', Int.toNat_natCast, Int.not_lt, Int.not_le, UInt8.ofNat_toNat, cast_eq] at *; omega)))
  all_goals (try ((show (_:Int) = _); omega))
  all_goals (try (show tupSV _ = _; with_unfolding_all rfl))
  all_goals (try ((show (_ : Nat) ≤ _); (simp <;> omega)))
  all_goals (try ((show (_ : Nat) ≤ _ ∧ (_ : Nat) ≤ _); (simp <;> omega)))
  all_goals (try ((show (_ : Int) ≤ _ ∧ (_ : Int) ≤ _ ∧ (_ : Int) ≤ _ ∧ (_ : Int) ≤ _); (simp <;> omega)))
  have hEl : (evs l).length ≤ 90 := by
    have := evs_len (kidsOf l) l.length
    show (evsT (kidsOf l) l.length).length ≤ 90
    omega
  refine RangeStop.mk (α := Nat) ⟨hpre⟩ rfl (fun i => [(1, .box [.int .i64 (deepA l i).1]), (2, .box [.int .i64 (deepA l i).2])]) 40 (fun i k => k = i) 0 rfl ?_ (fun i k hC hi => ?_) (fun k hC => ?_)
  · repeat' ((conv => whnf); first | (with_reducible rfl) | exact True.intro | (with_reducible exact absTF) | (with_reducible exact absFT) | intro _ | refine And.intro ?_ ?_ | refine Fin.mk ?_ | refine CallG.plain rfl ?_ ?_ | refine CallG.mk rfl ?_ ?_ | refine CallG.nwl rfl ?_ ?_ | refine CallG.nw ?_ ?_ | refine CallF.nwl rfl ?_ ?_ | refine CallF.nw ?_ ?_ | refine AppN.mk ?_ | (refine CallS.q ?_; (conv => whnf); first | refine CallG.plain rfl ?_ ?_ | refine CallG.mk rfl ?_ ?_) | (refine CallS.m ?_; (conv => whnf); refine CallM.mk rfl ?_ ?_) | (refine CallS.h ?_; (conv => whnf); refine CallM.mk rfl ?_ ?_) | (refine CallS.b ?_; (conv => whnf); refine CallM.mk rfl ?_ ?_) | (refine CallS.z ?_; (conv => whnf); refine CallM.mk rfl ?_ ?_))
    all_goals (try (conv => whnf))
    all_goals (try (exact Ob.mk (u8_bnd _)))
    all_goals (try (refine Ob.mk ?_; first | exact True.intro | assumption | omega | (try simp only [decide_eq_true_eq, decide_eq_false_iff_not, beq_iff_eq, beq_eq_false_iff_ne, bne_iff_ne, bne_eq_false_iff_eq, ne_eq, Bool.and_eq_true, Bool.or_eq_true, Bool.not_eq_true, Bool.not_eq_false, Bool.not_eq_true', Bool.not_eq_false', Int.toNat_natCast, Int.not_lt, Int.not_le, UInt8.ofNat_toNat, cast_eq] at *; omega)))
    all_goals (try ((show (_:Int) = _); omega))
    all_goals (try (show tupSV _ = _; with_unfolding_all rfl))
    all_goals (try ((show (_ : Nat) ≤ _); (simp <;> omega)))
    all_goals (try ((show (_ : Nat) ≤ _ ∧ (_ : Nat) ≤ _); (simp <;> omega)))
    all_goals (try ((show (_ : Int) ≤ _ ∧ (_ : Int) ≤ _ ∧ (_ : Int) ≤ _ ∧ (_ : Int) ≤ _); (simp <;> omega)))
    all_goals (try rfl)
  · subst hC
    have hs := deepA_succ l k hi
    have hb := deepA_bnd l k
    generalize he : (evs l).getD k (0, 0, 0, false) = e at *
    obtain ⟨v, up, c, lf⟩ := e
    generalize deepA l k = p at *
    obtain ⟨p1, p2⟩ := p
    cases lf
    · repeat' ((conv => whnf); first | (with_reducible rfl) | exact True.intro | (with_reducible exact absTF) | (with_reducible exact absFT) | intro _ | refine And.intro ?_ ?_ | refine Fin.mk ?_ | refine CallG.plain rfl ?_ ?_ | refine CallG.mk rfl ?_ ?_ | refine CallG.nwl rfl ?_ ?_ | refine CallG.nw ?_ ?_ | refine CallF.nwl rfl ?_ ?_ | refine CallF.nw ?_ ?_ | refine AppN.mk ?_ | (refine CallS.q ?_; (conv => whnf); first | refine CallG.plain rfl ?_ ?_ | refine CallG.mk rfl ?_ ?_) | (refine CallS.m ?_; (conv => whnf); refine CallM.mk rfl ?_ ?_) | (refine CallS.h ?_; (conv => whnf); refine CallM.mk rfl ?_ ?_) | (refine CallS.b ?_; (conv => whnf); refine CallM.mk rfl ?_ ?_) | (refine CallS.z ?_; (conv => whnf); refine CallM.mk rfl ?_ ?_))
      all_goals (try (conv => whnf))
      all_goals (try (exact Ob.mk (u8_bnd _)))
      all_goals (try (refine Ob.mk ?_; first | exact True.intro | assumption | omega | (try simp only [decide_eq_true_eq, decide_eq_false_iff_not, beq_iff_eq, beq_eq_false_iff_ne, bne_iff_ne, bne_eq_false_iff_eq, ne_eq, Bool.and_eq_true, Bool.or_eq_true, Bool.not_eq_true, Bool.not_eq_false, Bool.not_eq_true', Bool.not_eq_false', Int.toNat_natCast, Int.not_lt, Int.not_le, UInt8.ofNat_toNat, cast_eq] at *; omega)))
      all_goals (try ((show (_:Int) = _); omega))
      all_goals (try (show tupSV _ = _; with_unfolding_all rfl))
      all_goals (try ((show (_ : Nat) ≤ _); (simp <;> omega)))
      all_goals (try ((show (_ : Nat) ≤ _ ∧ (_ : Nat) ≤ _); (simp <;> omega)))
      all_goals (try ((show (_ : Int) ≤ _ ∧ (_ : Int) ≤ _ ∧ (_ : Int) ≤ _ ∧ (_ : Int) ≤ _); (simp <;> omega)))
      all_goals (try (constructor <;> omega))
      refine Rnd.mk ⟨k + 1, rfl, ?_⟩
      rw [hs]
      repeat' ((conv => whnf); first | (with_reducible rfl) | exact True.intro | (with_reducible exact absTF) | (with_reducible exact absFT) | intro _ | refine And.intro ?_ ?_ | refine Fin.mk ?_ | refine CallG.plain rfl ?_ ?_ | refine CallG.mk rfl ?_ ?_ | refine CallG.nwl rfl ?_ ?_ | refine CallG.nw ?_ ?_ | refine CallF.nwl rfl ?_ ?_ | refine CallF.nw ?_ ?_ | refine AppN.mk ?_ | (refine CallS.q ?_; (conv => whnf); first | refine CallG.plain rfl ?_ ?_ | refine CallG.mk rfl ?_ ?_) | (refine CallS.m ?_; (conv => whnf); refine CallM.mk rfl ?_ ?_) | (refine CallS.h ?_; (conv => whnf); refine CallM.mk rfl ?_ ?_) | (refine CallS.b ?_; (conv => whnf); refine CallM.mk rfl ?_ ?_) | (refine CallS.z ?_; (conv => whnf); refine CallM.mk rfl ?_ ?_))
      all_goals (try (conv => whnf))
      all_goals (try (exact Ob.mk (u8_bnd _)))
      all_goals (try (refine Ob.mk ?_; first | exact True.intro | assumption | omega | (try simp only [decide_eq_true_eq, decide_eq_false_iff_not, beq_iff_eq, beq_eq_false_iff_ne, bne_iff_ne, bne_eq_false_iff_eq, ne_eq, Bool.and_eq_true, Bool.or_eq_true, Bool.not_eq_true, Bool.not_eq_false, Bool.not_eq_true', Bool.not_eq_false', Int.toNat_natCast, Int.not_lt, Int.not_le, UInt8.ofNat_toNat, cast_eq] at *; omega)))
      all_goals (try ((show (_:Int) = _); omega))
      all_goals (try (show tupSV _ = _; with_unfolding_all rfl))
      all_goals (try ((show (_ : Nat) ≤ _); (simp <;> omega)))
      all_goals (try ((show (_ : Nat) ≤ _ ∧ (_ : Nat) ≤ _); (simp <;> omega)))
      all_goals (try ((show (_ : Int) ≤ _ ∧ (_ : Int) ≤ _ ∧ (_ : Int) ≤ _ ∧ (_ : Int) ≤ _); (simp <;> omega)))
      all_goals (try rfl)
    · repeat' ((conv => whnf); first | (with_reducible rfl) | exact True.intro | (with_reducible exact absTF) | (with_reducible exact absFT) | intro _ | refine And.intro ?_ ?_ | refine Fin.mk ?_ | refine CallG.plain rfl ?_ ?_ | refine CallG.mk rfl ?_ ?_ | refine CallG.nwl rfl ?_ ?_ | refine CallG.nw ?_ ?_ | refine CallF.nwl rfl ?_ ?_ | refine CallF.nw ?_ ?_ | refine AppN.mk ?_ | (refine CallS.q ?_; (conv => whnf); first | refine CallG.plain rfl ?_ ?_ | refine CallG.mk rfl ?_ ?_) | (refine CallS.m ?_; (conv => whnf); refine CallM.mk rfl ?_ ?_) | (refine CallS.h ?_; (conv => whnf); refine CallM.mk rfl ?_ ?_) | (refine CallS.b ?_; (conv => whnf); refine CallM.mk rfl ?_ ?_) | (refine CallS.z ?_; (conv => whnf); refine CallM.mk rfl ?_ ?_))
      all_goals (try (conv => whnf))
      all_goals (try (exact Ob.mk (u8_bnd _)))
      all_goals (try (refine Ob.mk ?_; first | exact True.intro | assumption | omega | (try simp only [decide_eq_true_eq, decide_eq_false_iff_not, beq_iff_eq, beq_eq_false_iff_ne, bne_iff_ne, bne_eq_false_iff_eq, ne_eq, Bool.and_eq_true, Bool.or_eq_true, Bool.not_eq_true, Bool.not_eq_false, Bool.not_eq_true', Bool.not_eq_false', Int.toNat_natCast, Int.not_lt, Int.not_le, UInt8.ofNat_toNat, cast_eq] at *; omega)))
      all_goals (try ((show (_:Int) = _); omega))
      all_goals (try (show tupSV _ = _; with_unfolding_all rfl))
      all_goals (try ((show (_ : Nat) ≤ _); (simp <;> omega)))
      all_goals (try ((show (_ : Nat) ≤ _ ∧ (_ : Nat) ≤ _); (simp <;> omega)))
      all_goals (try ((show (_ : Int) ≤ _ ∧ (_ : Int) ≤ _ ∧ (_ : Int) ≤ _ ∧ (_ : Int) ≤ _); (simp <;> omega)))
      all_goals (try (constructor <;> omega))
      refine Rnd.mk ⟨k + 1, rfl, ?_⟩
      rw [hs]
      repeat' ((conv => whnf); first | (with_reducible rfl) | exact True.intro | (with_reducible exact absTF) | (with_reducible exact absFT) | intro _ | refine And.intro ?_ ?_ | refine Fin.mk ?_ | refine CallG.plain rfl ?_ ?_ | refine CallG.mk rfl ?_ ?_ | refine CallG.nwl rfl ?_ ?_ | refine CallG.nw ?_ ?_ | refine CallF.nwl rfl ?_ ?_ | refine CallF.nw ?_ ?_ | refine AppN.mk ?_ | (refine CallS.q ?_; (conv => whnf); first | refine CallG.plain rfl ?_ ?_ | refine CallG.mk rfl ?_ ?_) | (refine CallS.m ?_; (conv => whnf); refine CallM.mk rfl ?_ ?_) | (refine CallS.h ?_; (conv => whnf); refine CallM.mk rfl ?_ ?_) | (refine CallS.b ?_; (conv => whnf); refine CallM.mk rfl ?_ ?_) | (refine CallS.z ?_; (conv => whnf); refine CallM.mk rfl ?_ ?_))
      all_goals (try (conv => whnf))
      all_goals (try (exact Ob.mk (u8_bnd _)))
      all_goals (try (refine Ob.mk ?_; first | exact True.intro | assumption | omega | (try simp only [decide_eq_true_eq, decide_eq_false_iff_not, beq_iff_eq, beq_eq_false_iff_ne, bne_iff_ne, bne_eq_false_iff_eq, ne_eq, Bool.and_eq_true, Bool.or_eq_true, Bool.not_eq_true, Bool.not_eq_false, Bool.not_eq_true', Bool.not_eq_false', Int.toNat_natCast, Int.not_lt, Int.not_le, UInt8.ofNat_toNat, cast_eq] at *; omega)))
      all_goals (try ((show (_:Int) = _); omega))
      all_goals (try (show tupSV _ = _; with_unfolding_all rfl))
      all_goals (try ((show (_ : Nat) ≤ _); (simp <;> omega)))
      all_goals (try ((show (_ : Nat) ≤ _ ∧ (_ : Nat) ≤ _); (simp <;> omega)))
      all_goals (try ((show (_ : Int) ≤ _ ∧ (_ : Int) ≤ _ ∧ (_ : Int) ≤ _ ∧ (_ : Int) ≤ _); (simp <;> omega)))
      all_goals (try rfl)
  · subst hC
    repeat' ((conv => whnf); first | (with_reducible rfl) | exact True.intro | (with_reducible exact absTF) | (with_reducible exact absFT) | intro _ | refine And.intro ?_ ?_ | refine Fin.mk ?_ | refine CallG.plain rfl ?_ ?_ | refine CallG.mk rfl ?_ ?_ | refine CallG.nwl rfl ?_ ?_ | refine CallG.nw ?_ ?_ | refine CallF.nwl rfl ?_ ?_ | refine CallF.nw ?_ ?_ | refine AppN.mk ?_ | (refine CallS.q ?_; (conv => whnf); first | refine CallG.plain rfl ?_ ?_ | refine CallG.mk rfl ?_ ?_) | (refine CallS.m ?_; (conv => whnf); refine CallM.mk rfl ?_ ?_) | (refine CallS.h ?_; (conv => whnf); refine CallM.mk rfl ?_ ?_) | (refine CallS.b ?_; (conv => whnf); refine CallM.mk rfl ?_ ?_) | (refine CallS.z ?_; (conv => whnf); refine CallM.mk rfl ?_ ?_))
    all_goals (try (conv => whnf))
    all_goals (try (exact Ob.mk (u8_bnd _)))
    all_goals (try (refine Ob.mk ?_; first | exact True.intro | assumption | omega | (try simp only [decide_eq_true_eq, decide_eq_false_iff_not, beq_iff_eq, beq_eq_false_iff_ne, bne_iff_ne, bne_eq_false_iff_eq, ne_eq, Bool.and_eq_true, Bool.or_eq_true, Bool.not_eq_true, Bool.not_eq_false, Bool.not_eq_true', Bool.not_eq_false', Int.toNat_natCast, Int.not_lt, Int.not_le, UInt8.ofNat_toNat, cast_eq] at *; omega)))
    all_goals (try ((show (_:Int) = _); omega))
    all_goals (try (show tupSV _ = _; with_unfolding_all rfl))
    all_goals (try ((show (_ : Nat) ≤ _); (simp <;> omega)))
    all_goals (try ((show (_ : Nat) ≤ _ ∧ (_ : Nat) ≤ _); (simp <;> omega)))
    all_goals (try ((show (_ : Int) ≤ _ ∧ (_ : Int) ≤ _ ∧ (_ : Int) ≤ _ ∧ (_ : Int) ≤ _); (simp <;> omega)))
    rw [deepA_end]
end Go.Vc

namespace Go.Vc
open Go.Proofs
set_option linter.unusedVariables false
set_option maxRecDepth 10000
set_option linter.unusedSimpArgs false
set_option maxHeartbeats 4000000
theorem pathE_drop (v : Int) (l : List NodeD) (k : Nat) (h : k < (evs l).length) (P : List Nat) : pathE v ((evs l).drop k) P =
    (fun (e : Ev) => if e.2.2.2 = true then pathE v ((evs l).drop (k + 1)) P.dropLast else if (e.1 : Int) = v then some P else pathE v ((evs l).drop (k + 1)) (P ++ [e.1])) ((evs l).getD k (0, 0, 0, false)) := by
  have : (evs l).getD k (0, 0, 0, false) = (evs l)[k] := by simp [List.getD, List.getElem?_eq_getElem h]
  rw [List.drop_eq_getElem_cons h, this]
  rfl
def pathT (l : List NodeD) (v : Int) : List Nat := (pathE v (evs l) []).getD []
instance oPath (l : List NodeD) (v : Int) : Fn BB 17 [.agg [.rd nodeTy l], .int .i64 v] (l.length ≤ 45) (.rd intTy (natI (pathT l v))) := by
  refine Fn.intro (N := 29) [0, 1, 2, 3, 4, 5, 6, 8, 9, 15, 23] [] Try.call17 Try.func17 rfl rfl (by kernel_rfl) (fun hpre => ?_)
  repeat' ((conv => whnf); first | (with_reducible rfl) | exact True.intro | (with_reducible exact absTF) | (with_reducible exact absFT) | intro _ | refine And.intro ?_ ?_ | refine Fin.mk ?_ | refine CallG.plain rfl ?_ ?_ | refine CallG.mk rfl ?_ ?_ | refine CallG.nwl rfl ?_ ?_ | refine CallG.nw ?_ ?_ | refine CallF.nwl rfl ?_ ?_ | refine CallF.nw ?_ ?_ | refine AppN.mk ?_ | (refine CallS.q ?_; (conv => whnf); first | refine CallG.plain rfl ?_ ?_ | refine CallG.mk rfl ?_ ?_) | (refine CallS.m ?_; (conv => whnf); refine CallM.mk rfl ?_ ?_) | (refine CallS.h ?_; (conv => whnf); refine CallM.mk rfl ?_ ?_) | (refine CallS.b ?_; (conv => whnf); refine CallM.mk rfl ?_ ?_) | (refine CallS.z ?_; (conv => whnf); refine CallM.mk rfl ?_ ?_))
  all_goals (try (conv => whnf))
  all_goals (try (exact Ob.mk (u8_bnd _)))
  all_goals (try (refine Ob.mk ?_; first | exact True.intro | assumption | omega | (try simp only [decide_eq_true_eq, decide_eq_false_iff_not, beq_iff_eq, beq_eq_false_iff_ne, bne_iff_ne, bne_eq_false_iff_eq, ne_eq, Bool.and_eq_true, Bool.or_eq_true, Bool.not_eq_true, Bool.not_eq_false, Bool.not_eq_true', Bool.not_eq_false', Int.toNat_natCast, Int.not_lt, Int.not_le, UInt8.ofNat_toNat, cast_eq] at *; omega)))
  all_goals (try ((show (_:Int) = _); omega))
  all_goals (try (show tupSV _ = _; with_unfolding_all rfl))
  all_goals (try ((show (_ : Nat) ≤ _); (simp <;> omega)))
  all_goals (try ((show (_ : Nat) ≤ _ ∧ (_ : Nat) ≤ _); (simp <;> omega)))
  all_goals (try ((show (_ : Int) ≤ _ ∧ (_ : Int) ≤ _ ∧ (_ : Int) ≤ _ ∧ (_ : Int) ≤ _); (simp <;> omega)))
  have hEl : (evs l).length ≤ 90 := by
    have := evs_len (kidsOf l) l.length
    show (evsT (kidsOf l) l.length).length ≤ 90
    omega
  have hlen : ∀ i, (stA l i).P.length ≤ 45 := fun i => by
    have g := stA_good l i
    have h1 := nodup_lt g.nod g.lt
    have h2 : (stA l i).P.length ≤ (stA l i).L.length := by rw [g.stk]; exact List.length_filter_le _ _
    omega
  refine RangeStop.mk (α := List Nat) ⟨hpre⟩ rfl (fun P => [(3, .box [.own 20]), (20, .own intTy (natI P))]) 40 (fun i P => P = (stA l i).P ∧ pathE v (evs l) [] = pathE v ((evs l).drop i) P) [] ⟨rfl, rfl⟩ ?_ (fun k P hC hi => ?_) (fun P hC => ?_)
  · repeat' ((conv => whnf); first | (with_reducible rfl) | exact True.intro | (with_reducible exact absTF) | (with_reducible exact absFT) | intro _ | refine And.intro ?_ ?_ | refine Fin.mk ?_ | refine CallG.plain rfl ?_ ?_ | refine CallG.mk rfl ?_ ?_ | refine CallG.nwl rfl ?_ ?_ | refine CallG.nw ?_ ?_ | refine CallF.nwl rfl ?_ ?_ | refine CallF.nw ?_ ?_ | refine AppN.mk ?_ | (refine CallS.q ?_; (conv => whnf); first | refine CallG.plain rfl ?_ ?_ | refine CallG.mk rfl ?_ ?_) | (refine CallS.m ?_; (conv => whnf); refine CallM.mk rfl ?_ ?_) | (refine CallS.h ?_; (conv => whnf); refine CallM.mk rfl ?_ ?_) | (refine CallS.b ?_; (conv => whnf); refine CallM.mk rfl ?_ ?_) | (refine CallS.z ?_; (conv => whnf); refine CallM.mk rfl ?_ ?_))
    all_goals (try (conv => whnf))
    all_goals (try (exact Ob.mk (u8_bnd _)))
    all_goals (try (refine Ob.mk ?_; first | exact True.intro | assumption | omega | (try simp only [decide_eq_true_eq, decide_eq_false_iff_not, beq_iff_eq, beq_eq_false_iff_ne, bne_iff_ne, bne_eq_false_iff_eq, ne_eq, Bool.and_eq_true, Bool.or_eq_true, Bool.not_eq_true, Bool.not_eq_false, Bool.not_eq_true', Bool.not_eq_false', Int.toNat_natCast, Int.not_lt, Int.not_le, UInt8.ofNat_toNat, cast_eq] at *; omega)))
    all_goals (try ((show (_:Int) = _); omega))
    all_goals (try (show tupSV _ = _; with_unfolding_all rfl))
    all_goals (try ((show (_ : Nat) ≤ _); (simp <;> omega)))
    all_goals (try ((show (_ : Nat) ≤ _ ∧ (_ : Nat) ≤ _); (simp <;> omega)))
    all_goals (try ((show (_ : Int) ≤ _ ∧ (_ : Int) ≤ _ ∧ (_ : Int) ≤ _ ∧ (_ : Int) ≤ _); (simp <;> omega)))
    all_goals (try rfl)
  · obtain ⟨hP, hC⟩ := hC
    have hs := stA_succ l k hi
    have hv := stA_ev l k hi
    have hl := hlen k
    rw [← hP] at hl
    rw [pathE_drop v l k hi] at hC
    generalize he : (evs l).getD k (0, 0, 0, false) = e at *
    obtain ⟨w, up, c, lf⟩ := e
    have hnl : (natI P).length = P.length := by unfold natI; simp
    cases lf
    · repeat' ((conv => whnf); first | (with_reducible rfl) | exact True.intro | (with_reducible exact absTF) | (with_reducible exact absFT) | intro _ | refine And.intro ?_ ?_ | refine Fin.mk ?_ | refine CallG.plain rfl ?_ ?_ | refine CallG.mk rfl ?_ ?_ | refine CallG.nwl rfl ?_ ?_ | refine CallG.nw ?_ ?_ | refine CallF.nwl rfl ?_ ?_ | refine CallF.nw ?_ ?_ | refine AppN.mk ?_ | (refine CallS.q ?_; (conv => whnf); first | refine CallG.plain rfl ?_ ?_ | refine CallG.mk rfl ?_ ?_) | (refine CallS.m ?_; (conv => whnf); refine CallM.mk rfl ?_ ?_) | (refine CallS.h ?_; (conv => whnf); refine CallM.mk rfl ?_ ?_) | (refine CallS.b ?_; (conv => whnf); refine CallM.mk rfl ?_ ?_) | (refine CallS.z ?_; (conv => whnf); refine CallM.mk rfl ?_ ?_))
      all_goals (try (conv => whnf))
      all_goals (try (exact Ob.mk (u8_bnd _)))
      all_goals (try (refine Ob.mk ?_; first | exact True.intro | assumption | omega | (try simp only [decide_eq_true_eq, decide_eq_false_iff_not, beq_iff_eq, beq_eq_false_iff_ne, bne_iff_ne, bne_eq_false_iff_eq, ne_eq, Bool.and_eq_true, Bool.or_eq_true, Bool.not_eq_true, Bool.not_eq_false, Bool.not_eq_true', Bool.not_eq_false', Int.toNat_natCast, Int.not_lt, Int.not_le, UInt8.ofNat_toNat, cast_eq] at *; omega)))
      all_goals (try ((show (_:Int) = _); omega))
      all_goals (try (show tupSV _ = _; with_unfolding_all rfl))
      all_goals (try ((show (_ : Nat) ≤ _); (simp <;> omega)))
      all_goals (try ((show (_ : Nat) ≤ _ ∧ (_ : Nat) ≤ _); (simp <;> omega)))
      all_goals (try ((show (_ : Int) ≤ _ ∧ (_ : Int) ≤ _ ∧ (_ : Int) ≤ _ ∧ (_ : Int) ≤ _); (simp <;> omega)))
      all_goals (try (exfalso; have h := ‹(!false) = false›; cases h; done))
      all_goals (dsimp only at hC; rw [if_neg (by simp)] at hC)
      · have hw : (w : Int) = v := by have h := ‹((w : Int) == v) = true›; exact beq_iff_eq.1 h
        rw [if_pos hw] at hC
        unfold pathT; rw [hC]; rfl
      · have hw : ¬ (w : Int) = v := by have h := ‹((w : Int) == v) = false›; exact beq_eq_false_iff_ne.1 h
        rw [if_neg hw] at hC
        refine Rnd.mk ⟨P ++ [w], ⟨by rw [hs, hP]; rfl, hC⟩, ?_⟩
        repeat' ((conv => whnf); first | (with_reducible rfl) | exact True.intro | (with_reducible exact absTF) | (with_reducible exact absFT) | intro _ | refine And.intro ?_ ?_ | refine Fin.mk ?_ | refine CallG.plain rfl ?_ ?_ | refine CallG.mk rfl ?_ ?_ | refine CallG.nwl rfl ?_ ?_ | refine CallG.nw ?_ ?_ | refine CallF.nwl rfl ?_ ?_ | refine CallF.nw ?_ ?_ | refine AppN.mk ?_ | (refine CallS.q ?_; (conv => whnf); first | refine CallG.plain rfl ?_ ?_ | refine CallG.mk rfl ?_ ?_) | (refine CallS.m ?_; (conv => whnf); refine CallM.mk rfl ?_ ?_) | (refine CallS.h ?_; (conv => whnf); refine CallM.mk rfl ?_ ?_) | (refine CallS.b ?_; (conv => whnf); refine CallM.mk rfl ?_ ?_) | (refine CallS.z ?_; (conv => whnf); refine CallM.mk rfl ?_ ?_))
        all_goals (try (conv => whnf))
        all_goals (try (exact Ob.mk (u8_bnd _)))
        all_goals (try (refine Ob.mk ?_; first | exact True.intro | assumption | omega | (try simp only [decide_eq_true_eq, decide_eq_false_iff_not, beq_iff_eq, beq_eq_false_iff_ne, bne_iff_ne, bne_eq_false_iff_eq, ne_eq, Bool.and_eq_true, Bool.or_eq_true, Bool.not_eq_true, Bool.not_eq_false, Bool.not_eq_true', Bool.not_eq_false', Int.toNat_natCast, Int.not_lt, Int.not_le, UInt8.ofNat_toNat, cast_eq] at *; omega)))
        all_goals (try ((show (_:Int) = _); omega))
        all_goals (try (show tupSV _ = _; with_unfolding_all rfl))
        all_goals (try ((show (_ : Nat) ≤ _); (simp <;> omega)))
        all_goals (try ((show (_ : Nat) ≤ _ ∧ (_ : Nat) ≤ _); (simp <;> omega)))
        all_goals (try ((show (_ : Int) ≤ _ ∧ (_ : Int) ≤ _ ∧ (_ : Int) ≤ _ ∧ (_ : Int) ≤ _); (simp <;> omega)))
        all_goals (try rfl)
        rw [natI_snoc]
    · have hne : P ≠ [] := by
        have h2 := hv.2
        rw [if_pos rfl, ← hP] at h2
        intro h; rw [h] at h2; cases h2
      have hpos : 0 < P.length := List.length_pos_iff.mpr hne
      repeat' ((conv => whnf); first | (with_reducible rfl) | exact True.intro | (with_reducible exact absTF) | (with_reducible exact absFT) | intro _ | refine And.intro ?_ ?_ | refine Fin.mk ?_ | refine CallG.plain rfl ?_ ?_ | refine CallG.mk rfl ?_ ?_ | refine CallG.nwl rfl ?_ ?_ | refine CallG.nw ?_ ?_ | refine CallF.nwl rfl ?_ ?_ | refine CallF.nw ?_ ?_ | refine AppN.mk ?_ | (refine CallS.q ?_; (conv => whnf); first | refine CallG.plain rfl ?_ ?_ | refine CallG.mk rfl ?_ ?_) | (refine CallS.m ?_; (conv => whnf); refine CallM.mk rfl ?_ ?_) | (refine CallS.h ?_; (conv => whnf); refine CallM.mk rfl ?_ ?_) | (refine CallS.b ?_; (conv => whnf); refine CallM.mk rfl ?_ ?_) | (refine CallS.z ?_; (conv => whnf); refine CallM.mk rfl ?_ ?_))
      all_goals (try (conv => whnf))
      all_goals (try (exact Ob.mk (u8_bnd _)))
      all_goals (try (refine Ob.mk ?_; first | exact True.intro | assumption | omega | (try simp only [decide_eq_true_eq, decide_eq_false_iff_not, beq_iff_eq, beq_eq_false_iff_ne, bne_iff_ne, bne_eq_false_iff_eq, ne_eq, Bool.and_eq_true, Bool.or_eq_true, Bool.not_eq_true, Bool.not_eq_false, Bool.not_eq_true', Bool.not_eq_false', Int.toNat_natCast, Int.not_lt, Int.not_le, UInt8.ofNat_toNat, cast_eq] at *; omega)))
      all_goals (try ((show (_:Int) = _); omega))
      all_goals (try (show tupSV _ = _; with_unfolding_all rfl))
      all_goals (try ((show (_ : Nat) ≤ _); (simp <;> omega)))
      all_goals (try ((show (_ : Nat) ≤ _ ∧ (_ : Nat) ≤ _); (simp <;> omega)))
      all_goals (try ((show (_ : Int) ≤ _ ∧ (_ : Int) ≤ _ ∧ (_ : Int) ≤ _ ∧ (_ : Int) ≤ _); (simp <;> omega)))
      all_goals (try rw [hnl])
      all_goals (try omega)
      dsimp only at hC; rw [if_pos rfl] at hC
      refine Rnd.mk ⟨P.dropLast, ⟨by rw [hs, hP]; rfl, hC⟩, ?_⟩
      repeat' ((conv => whnf); first | (with_reducible rfl) | exact True.intro | (with_reducible exact absTF) | (with_reducible exact absFT) | intro _ | refine And.intro ?_ ?_ | refine Fin.mk ?_ | refine CallG.plain rfl ?_ ?_ | refine CallG.mk rfl ?_ ?_ | refine CallG.nwl rfl ?_ ?_ | refine CallG.nw ?_ ?_ | refine CallF.nwl rfl ?_ ?_ | refine CallF.nw ?_ ?_ | refine AppN.mk ?_ | (refine CallS.q ?_; (conv => whnf); first | refine CallG.plain rfl ?_ ?_ | refine CallG.mk rfl ?_ ?_) | (refine CallS.m ?_; (conv => whnf); refine CallM.mk rfl ?_ ?_) | (refine CallS.h ?_; (conv => whnf); refine CallM.mk rfl ?_ ?_) | (refine CallS.b ?_; (conv => whnf); refine CallM.mk rfl ?_ ?_) | (refine CallS.z ?_; (conv => whnf); refine CallM.mk rfl ?_ ?_))
      all_goals (try (conv => whnf))
      all_goals (try (exact Ob.mk (u8_bnd _)))
      all_goals (try (refine Ob.mk ?_; first | exact True.intro | assumption | omega | (try simp only [decide_eq_true_eq, decide_eq_false_iff_not, beq_iff_eq, beq_eq_false_iff_ne, bne_iff_ne, bne_eq_false_iff_eq, ne_eq, Bool.and_eq_true, Bool.or_eq_true, Bool.not_eq_true, Bool.not_eq_false, Bool.not_eq_true', Bool.not_eq_false', Int.toNat_natCast, Int.not_lt, Int.not_le, UInt8.ofNat_toNat, cast_eq] at *; omega)))
      all_goals (try ((show (_:Int) = _); omega))
      all_goals (try (show tupSV _ = _; with_unfolding_all rfl))
      all_goals (try ((show (_ : Nat) ≤ _); (simp <;> omega)))
      all_goals (try ((show (_ : Nat) ≤ _ ∧ (_ : Nat) ≤ _); (simp <;> omega)))
      all_goals (try ((show (_ : Int) ≤ _ ∧ (_ : Int) ≤ _ ∧ (_ : Int) ≤ _ ∧ (_ : Int) ≤ _); (simp <;> omega)))
      all_goals (try rfl)
      rw [show ((P.length : Int) - 1).toNat = P.length - 1 by omega]
      unfold natI
      rw [List.dropLast_eq_take, List.map_take]
  · obtain ⟨hP, hC⟩ := hC
    rw [List.drop_length] at hC
    repeat' ((conv => whnf); first | (with_reducible rfl) | exact True.intro | (with_reducible exact absTF) | (with_reducible exact absFT) | intro _ | refine And.intro ?_ ?_ | refine Fin.mk ?_ | refine CallG.plain rfl ?_ ?_ | refine CallG.mk rfl ?_ ?_ | refine CallG.nwl rfl ?_ ?_ | refine CallG.nw ?_ ?_ | refine CallF.nwl rfl ?_ ?_ | refine CallF.nw ?_ ?_ | refine AppN.mk ?_ | (refine CallS.q ?_; (conv => whnf); first | refine CallG.plain rfl ?_ ?_ | refine CallG.mk rfl ?_ ?_) | (refine CallS.m ?_; (conv => whnf); refine CallM.mk rfl ?_ ?_) | (refine CallS.h ?_; (conv => whnf); refine CallM.mk rfl ?_ ?_) | (refine CallS.b ?_; (conv => whnf); refine CallM.mk rfl ?_ ?_) | (refine CallS.z ?_; (conv => whnf); refine CallM.mk rfl ?_ ?_))
    all_goals (try (conv => whnf))
    all_goals (try (exact Ob.mk (u8_bnd _)))
    all_goals (try (refine Ob.mk ?_; first | exact True.intro | assumption | omega | (try simp only [decide_eq_true_eq, decide_eq_false_iff_not, beq_iff_eq, beq_eq_false_iff_ne, bne_iff_ne, bne_eq_false_iff_eq, ne_eq, Bool.and_eq_true, Bool.or_eq_true, Bool.not_eq_true, Bool.not_eq_false, Bool.not_eq_true', Bool.not_eq_false', Int.toNat_natCast, Int.not_lt, Int.not_le, UInt8.ofNat_toNat, cast_eq] at *; omega)))
    all_goals (try ((show (_:Int) = _); omega))
    all_goals (try (show tupSV _ = _; with_unfolding_all rfl))
    all_goals (try ((show (_ : Nat) ≤ _); (simp <;> omega)))
    all_goals (try ((show (_ : Nat) ≤ _ ∧ (_ : Nat) ≤ _); (simp <;> omega)))
    all_goals (try ((show (_ : Int) ≤ _ ∧ (_ : Int) ≤ _ ∧ (_ : Int) ≤ _ ∧ (_ : Int) ≤ _); (simp <;> omega)))
    · unfold pathT; rw [hC]; rfl
end Go.Vc

namespace Go.Vc
open Go.Proofs
set_option linter.unusedVariables false
set_option maxRecDepth 10000
set_option linter.unusedSimpArgs false
set_option maxHeartbeats 4000000
theorem take_eq_succI {a b : List Int} {i : Nat} (ha : i < a.length) (hb : i < b.length) (h : a.take i = b.take i) (h2 : a.getD i 0 = b.getD i 0) : a.take (i+1) = b.take (i+1) := by
  rw [take_snoc a i 0 ha, take_snoc b i 0 hb, h, h2]
instance aEq (a b : List Int) : Fn BB 10 [.rd intTy a, .rd intTy b] True (.bool (a == b)) := by
  refine Fn.intro (N := 26) [0, 1, 4, 5, 10, 12, 13, 14, 24] [(6, [0, 0, 1, 1, 0, 0, 1, 1, 3])] Try.call10 Try.func10 rfl rfl (by kernel_rfl) (fun hpre => ?_)
  repeat' ((conv => whnf); first | (with_reducible rfl) | exact True.intro | (with_reducible exact absTF) | (with_reducible exact absFT) | intro _ | refine And.intro ?_ ?_ | refine Fin.mk ?_ | refine CallG.plain rfl ?_ ?_ | refine CallG.mk rfl ?_ ?_ | refine CallG.nwl rfl ?_ ?_ | refine CallG.nw ?_ ?_ | refine CallF.nwl rfl ?_ ?_ | refine CallF.nw ?_ ?_ | refine AppN.mk ?_ | (refine CallS.q ?_; (conv => whnf); first | refine CallG.plain rfl ?_ ?_ | refine CallG.mk rfl ?_ ?_) | (refine CallS.m ?_; (conv => whnf); refine CallM.mk rfl ?_ ?_) | (refine CallS.h ?_; (conv => whnf); refine CallM.mk rfl ?_ ?_) | (refine CallS.b ?_; (conv => whnf); refine CallM.mk rfl ?_ ?_) | (refine CallS.z ?_; (conv => whnf); refine CallM.mk rfl ?_ ?_))
  all_goals (try (conv => whnf))
  all_goals (try (exact Ob.mk (u8_bnd _)))
  all_goals (try (refine Ob.mk ?_; first | exact True.intro | assumption | omega | (try simp only [decide_eq_true_eq, decide_eq_false_iff_not, beq_iff_eq, beq_eq_false_iff_ne, bne_iff_ne, bne_eq_false_iff_eq, ne_eq, Bool.and_eq_true, Bool.or_eq_true, Bool.not_eq_true, Bool.not_eq_false, Bool.not_eq_true', Bool.not_eq_false', Int.toNat_natCast, Int.not_lt, Int.not_le, UInt8.ofNat_toNat, cast_eq] at *; omega)))
  all_goals (try ((show (_:Int) = _); omega))
  all_goals (try (show tupSV _ = _; with_unfolding_all rfl))
  all_goals (try ((show (_ : Nat) ≤ _); (simp <;> omega)))
  all_goals (try ((show (_ : Nat) ≤ _ ∧ (_ : Nat) ≤ _); (simp <;> omega)))
  all_goals (try ((show (_ : Int) ≤ _ ∧ (_ : Int) ≤ _ ∧ (_ : Int) ≤ _ ∧ (_ : Int) ≤ _); (simp <;> omega)))
  · rename_i h
    have : ¬ a = b := by rintro rfl; simp at h
    simp [this]
  · refine LoopStop.mk (α := Nat) (fun i => [(13, .int .i64 i)]) (fun i => []) 0 (fun i => i ≤ a.length ∧ a.take i = b.take i) (fun i => a.length - i) 0 (by simp) ?_ (fun i hi => ?_)
    · repeat' ((conv => whnf); first | (with_reducible rfl) | exact True.intro | (with_reducible exact absTF) | (with_reducible exact absFT) | intro _ | refine And.intro ?_ ?_ | refine Fin.mk ?_ | refine CallG.plain rfl ?_ ?_ | refine CallG.mk rfl ?_ ?_ | refine CallG.nwl rfl ?_ ?_ | refine CallG.nw ?_ ?_ | refine CallF.nwl rfl ?_ ?_ | refine CallF.nw ?_ ?_ | refine AppN.mk ?_ | (refine CallS.q ?_; (conv => whnf); first | refine CallG.plain rfl ?_ ?_ | refine CallG.mk rfl ?_ ?_) | (refine CallS.m ?_; (conv => whnf); refine CallM.mk rfl ?_ ?_) | (refine CallS.h ?_; (conv => whnf); refine CallM.mk rfl ?_ ?_) | (refine CallS.b ?_; (conv => whnf); refine CallM.mk rfl ?_ ?_) | (refine CallS.z ?_; (conv => whnf); refine CallM.mk rfl ?_ ?_))
      all_goals (try (conv => whnf))
      all_goals (try rfl)
    · repeat' ((conv => whnf); first | (with_reducible rfl) | exact True.intro | (with_reducible exact absTF) | (with_reducible exact absFT) | intro _ | refine And.intro ?_ ?_ | refine Fin.mk ?_ | refine CallG.plain rfl ?_ ?_ | refine CallG.mk rfl ?_ ?_ | refine CallG.nwl rfl ?_ ?_ | refine CallG.nw ?_ ?_ | refine CallF.nwl rfl ?_ ?_ | refine CallF.nw ?_ ?_ | refine AppN.mk ?_ | (refine CallS.q ?_; (conv => whnf); first | refine CallG.plain rfl ?_ ?_ | refine CallG.mk rfl ?_ ?_) | (refine CallS.m ?_; (conv => whnf); refine CallM.mk rfl ?_ ?_) | (refine CallS.h ?_; (conv => whnf); refine CallM.mk rfl ?_ ?_) | (refine CallS.b ?_; (conv => whnf); refine CallM.mk rfl ?_ ?_) | (refine CallS.z ?_; (conv => whnf); refine CallM.mk rfl ?_ ?_))
      all_goals (try (conv => whnf))
      all_goals (try (exact Ob.mk (u8_bnd _)))
      all_goals (try (refine Ob.mk ?_; first | exact True.intro | assumption | omega | (try simp only [decide_eq_true_eq, decide_eq_false_iff_not, beq_iff_eq, beq_eq_false_iff_ne, bne_iff_ne, bne_eq_false_iff_eq, ne_eq, Bool.and_eq_true, Bool.or_eq_true, Bool.not_eq_true, Bool.not_eq_false, Bool.not_eq_true', Bool.not_eq_false', Int.toNat_natCast, Int.not_lt, Int.not_le, UInt8.ofNat_toNat, cast_eq] at *; omega)))
      all_goals (try ((show (_:Int) = _); omega))
      all_goals (try (show tupSV _ = _; with_unfolding_all rfl))
      all_goals (try ((show (_ : Nat) ≤ _); (simp <;> omega)))
      all_goals (try ((show (_ : Nat) ≤ _ ∧ (_ : Nat) ≤ _); (simp <;> omega)))
      all_goals (try ((show (_ : Int) ≤ _ ∧ (_ : Int) ≤ _ ∧ (_ : Int) ≤ _ ∧ (_ : Int) ≤ _); (simp <;> omega)))
      all_goals (try simp only [decide_eq_true_eq, decide_eq_false_iff_not, beq_iff_eq, beq_eq_false_iff_ne, bne_iff_ne, bne_eq_false_iff_eq, ne_eq, Bool.and_eq_true, Bool.or_eq_true, Bool.not_eq_true, Bool.not_eq_false, Bool.not_eq_true', Bool.not_eq_false', Int.toNat_natCast, Int.not_lt, Int.not_le, UInt8.ofNat_toNat, cast_eq] at *)
      all_goals (try omega)
      · rename_i h
        have : ¬ a = b := by rintro rfl; exact h rfl
        simp [this]
      · have h : i < a.length := by omega
        have h' : i < b.length := by omega
        refine Rnd.mk ⟨i + 1, ?_, ?_, ?_⟩
        · exact ⟨h, take_eq_succI h h' hi.2 ‹_›⟩
        · omega
        · repeat' ((conv => whnf); first | (with_reducible rfl) | exact True.intro | (with_reducible exact absTF) | (with_reducible exact absFT) | intro _ | refine And.intro ?_ ?_ | refine Fin.mk ?_ | refine CallG.plain rfl ?_ ?_ | refine CallG.mk rfl ?_ ?_ | refine CallG.nwl rfl ?_ ?_ | refine CallG.nw ?_ ?_ | refine CallF.nwl rfl ?_ ?_ | refine CallF.nw ?_ ?_ | refine AppN.mk ?_ | (refine CallS.q ?_; (conv => whnf); first | refine CallG.plain rfl ?_ ?_ | refine CallG.mk rfl ?_ ?_) | (refine CallS.m ?_; (conv => whnf); refine CallM.mk rfl ?_ ?_) | (refine CallS.h ?_; (conv => whnf); refine CallM.mk rfl ?_ ?_) | (refine CallS.b ?_; (conv => whnf); refine CallM.mk rfl ?_ ?_) | (refine CallS.z ?_; (conv => whnf); refine CallM.mk rfl ?_ ?_))
          all_goals (try (conv => whnf))
          all_goals (try (exact Ob.mk (u8_bnd _)))
          all_goals (try (refine Ob.mk ?_; first | exact True.intro | assumption | omega | (try simp only [decide_eq_true_eq, decide_eq_false_iff_not, beq_iff_eq, beq_eq_false_iff_ne, bne_iff_ne, bne_eq_false_iff_eq, ne_eq, Bool.and_eq_true, Bool.or_eq_true, Bool.not_eq_true, Bool.not_eq_false, Bool.not_eq_true', Bool.not_eq_false', Int.toNat_natCast, Int.not_lt, Int.not_le, UInt8.ofNat_toNat, cast_eq] at *; omega)))
          all_goals (try ((show (_:Int) = _); omega))
          all_goals (try (show tupSV _ = _; with_unfolding_all rfl))
          all_goals (try ((show (_ : Nat) ≤ _); (simp <;> omega)))
          all_goals (try ((show (_ : Nat) ≤ _ ∧ (_ : Nat) ≤ _); (simp <;> omega)))
          all_goals (try ((show (_ : Int) ≤ _ ∧ (_ : Int) ≤ _ ∧ (_ : Int) ≤ _ ∧ (_ : Int) ≤ _); (simp <;> omega)))
      · have e : i = a.length := by omega
        subst e
        have h2 := hi.2
        have h3 : b.length ≤ a.length := by omega
        rw [List.take_of_length_le (Nat.le_refl _), List.take_of_length_le h3] at h2
        rw [h2]; simp
theorem take_eq_succC {a b : List (Int × Int)} {i : Nat} (ha : i < a.length) (hb : i < b.length) (h : a.take i = b.take i) (h2 : a.getD i (0, 0) = b.getD i (0, 0)) : a.take (i+1) = b.take (i+1) := by
  rw [take_snoc a i (0, 0) ha, take_snoc b i (0, 0) hb, h, h2]
def okC (l : List (Int × Int)) : Prop := ∀ p ∈ l, (-1 ≤ p.1 ∧ p.1 ≤ 95) ∧ (-1 ≤ p.2 ∧ p.2 ≤ 95)
theorem okC_at {l : List (Int × Int)} (h : okC l) (i : Nat) (d : Int × Int) (hi : i < l.length) : (-1 ≤ (l.getD i d).1 ∧ (l.getD i d).1 ≤ 95) ∧ (-1 ≤ (l.getD i d).2 ∧ (l.getD i d).2 ≤ 95) := by
  have : l.getD i d = l[i] := by simp [List.getD, List.getElem?_eq_getElem hi]
  rw [this]; exact h _ (List.getElem_mem hi)
instance cEq (a b : List (Int × Int)) : Fn BB 21 [.rd .cpx a, .rd .cpx b] (okC a ∧ okC b) (.bool (a == b)) := by
  refine Fn.intro (N := 26) [0, 1, 4, 5, 10, 12, 13, 14, 24] [(6, [0, 0, 1, 1, 0, 0, 1, 1, 3])] Try.call21 Try.func21 rfl rfl (by kernel_rfl) (fun hpre => ?_)
  repeat' ((conv => whnf); first | (with_reducible rfl) | exact True.intro | (with_reducible exact absTF) | (with_reducible exact absFT) | intro _ | refine And.intro ?_ ?_ | refine Fin.mk ?_ | refine CallG.plain rfl ?_ ?_ | refine CallG.mk rfl ?_ ?_ | refine CallG.nwl rfl ?_ ?_ | refine CallG.nw ?_ ?_ | refine CallF.nwl rfl ?_ ?_ | refine CallF.nw ?_ ?_ | refine AppN.mk ?_ | (refine CallS.q ?_; (conv => whnf); first | refine CallG.plain rfl ?_ ?_ | refine CallG.mk rfl ?_ ?_) | (refine CallS.m ?_; (conv => whnf); refine CallM.mk rfl ?_ ?_) | (refine CallS.h ?_; (conv => whnf); refine CallM.mk rfl ?_ ?_) | (refine CallS.b ?_; (conv => whnf); refine CallM.mk rfl ?_ ?_) | (refine CallS.z ?_; (conv => whnf); refine CallM.mk rfl ?_ ?_))
  all_goals (try (conv => whnf))
  all_goals (try (exact Ob.mk (u8_bnd _)))
  all_goals (try (refine Ob.mk ?_; first | exact True.intro | assumption | omega | (try simp only [decide_eq_true_eq, decide_eq_false_iff_not, beq_iff_eq, beq_eq_false_iff_ne, bne_iff_ne, bne_eq_false_iff_eq, ne_eq, Bool.and_eq_true, Bool.or_eq_true, Bool.not_eq_true, Bool.not_eq_false, Bool.not_eq_true', Bool.not_eq_false', Int.toNat_natCast, Int.not_lt, Int.not_le, UInt8.ofNat_toNat, cast_eq] at *; omega)))
  all_goals (try ((show (_:Int) = _); omega))
  all_goals (try (show tupSV _ = _; with_unfolding_all rfl))
  all_goals (try ((show (_ : Nat) ≤ _); (simp <;> omega)))
  all_goals (try ((show (_ : Nat) ≤ _ ∧ (_ : Nat) ≤ _); (simp <;> omega)))
  all_goals (try ((show (_ : Int) ≤ _ ∧ (_ : Int) ≤ _ ∧ (_ : Int) ≤ _ ∧ (_ : Int) ≤ _); (simp <;> omega)))
  · rename_i h
    have : ¬ a = b := by rintro rfl; simp at h
    simp [this]
  · have hl : a.length = b.length := by
      have h := ‹((a.length : Int) != (b.length : Int)) = false›
      simp at h; omega
    refine LoopStop.mk (α := Nat) (fun i => [(13, .int .i64 i)]) (fun i => []) 0 (fun i => i ≤ a.length ∧ a.take i = b.take i) (fun i => a.length - i) 0 (by simp) ?_ (fun i hi => ?_)
    · repeat' ((conv => whnf); first | (with_reducible rfl) | exact True.intro | (with_reducible exact absTF) | (with_reducible exact absFT) | intro _ | refine And.intro ?_ ?_ | refine Fin.mk ?_ | refine CallG.plain rfl ?_ ?_ | refine CallG.mk rfl ?_ ?_ | refine CallG.nwl rfl ?_ ?_ | refine CallG.nw ?_ ?_ | refine CallF.nwl rfl ?_ ?_ | refine CallF.nw ?_ ?_ | refine AppN.mk ?_ | (refine CallS.q ?_; (conv => whnf); first | refine CallG.plain rfl ?_ ?_ | refine CallG.mk rfl ?_ ?_) | (refine CallS.m ?_; (conv => whnf); refine CallM.mk rfl ?_ ?_) | (refine CallS.h ?_; (conv => whnf); refine CallM.mk rfl ?_ ?_) | (refine CallS.b ?_; (conv => whnf); refine CallM.mk rfl ?_ ?_) | (refine CallS.z ?_; (conv => whnf); refine CallM.mk rfl ?_ ?_))
      all_goals (try (conv => whnf))
      all_goals (try rfl)
    · repeat' ((conv => whnf); first | (with_reducible rfl) | exact True.intro | (with_reducible exact absTF) | (with_reducible exact absFT) | intro _ | refine And.intro ?_ ?_ | refine Fin.mk ?_ | refine CallG.plain rfl ?_ ?_ | refine CallG.mk rfl ?_ ?_ | refine CallG.nwl rfl ?_ ?_ | refine CallG.nw ?_ ?_ | refine CallF.nwl rfl ?_ ?_ | refine CallF.nw ?_ ?_ | refine AppN.mk ?_ | (refine CallS.q ?_; (conv => whnf); first | refine CallG.plain rfl ?_ ?_ | refine CallG.mk rfl ?_ ?_) | (refine CallS.m ?_; (conv => whnf); refine CallM.mk rfl ?_ ?_) | (refine CallS.h ?_; (conv => whnf); refine CallM.mk rfl ?_ ?_) | (refine CallS.b ?_; (conv => whnf); refine CallM.mk rfl ?_ ?_) | (refine CallS.z ?_; (conv => whnf); refine CallM.mk rfl ?_ ?_))
      all_goals (try (conv => whnf))
      all_goals (try (exact Ob.mk (u8_bnd _)))
      all_goals (try (refine Ob.mk ?_; first | exact True.intro | assumption | omega | (try simp only [decide_eq_true_eq, decide_eq_false_iff_not, beq_iff_eq, beq_eq_false_iff_ne, bne_iff_ne, bne_eq_false_iff_eq, ne_eq, Bool.and_eq_true, Bool.or_eq_true, Bool.not_eq_true, Bool.not_eq_false, Bool.not_eq_true', Bool.not_eq_false', Int.toNat_natCast, Int.not_lt, Int.not_le, UInt8.ofNat_toNat, cast_eq] at *; omega)))
      all_goals (try ((show (_:Int) = _); omega))
      all_goals (try (show tupSV _ = _; with_unfolding_all rfl))
      all_goals (try ((show (_ : Nat) ≤ _); (simp <;> omega)))
      all_goals (try ((show (_ : Nat) ≤ _ ∧ (_ : Nat) ≤ _); (simp <;> omega)))
      all_goals (try ((show (_ : Int) ≤ _ ∧ (_ : Int) ≤ _ ∧ (_ : Int) ≤ _ ∧ (_ : Int) ≤ _); (simp <;> omega)))
      all_goals (try simp only [Int.toNat_natCast] at *)
      all_goals (try (have hlt : i < a.length := by have h := of_decide_eq_true ‹decide ((i : Int) < (a.length : Int)) = true›; omega))
      all_goals (try (have hA := okC_at hpre.1 i Ty.cpx.dflt hlt))
      all_goals (try (have hB := okC_at hpre.2 i Ty.cpx.dflt (by omega)))
      · exact ⟨⟨by omega, by omega⟩, ⟨by omega, by omega⟩, ⟨by omega, by omega⟩, by omega, by omega⟩
      · rename_i h
        have : ¬ a = b := by rintro rfl; simp at h
        simp [this]
      · rename_i h
        have h2 : a.getD i (0, 0) = b.getD i (0, 0) := by
          simp only [Bool.not_eq_false', Bool.and_eq_true, beq_iff_eq] at h
          exact Prod.ext h.1 h.2
        refine Rnd.mk ⟨i + 1, ⟨by omega, take_eq_succC hlt (by omega) hi.2 h2⟩, by omega, ?_⟩
        repeat' ((conv => whnf); first | (with_reducible rfl) | exact True.intro | (with_reducible exact absTF) | (with_reducible exact absFT) | intro _ | refine And.intro ?_ ?_ | refine Fin.mk ?_ | refine CallG.plain rfl ?_ ?_ | refine CallG.mk rfl ?_ ?_ | refine CallG.nwl rfl ?_ ?_ | refine CallG.nw ?_ ?_ | refine CallF.nwl rfl ?_ ?_ | refine CallF.nw ?_ ?_ | refine AppN.mk ?_ | (refine CallS.q ?_; (conv => whnf); first | refine CallG.plain rfl ?_ ?_ | refine CallG.mk rfl ?_ ?_) | (refine CallS.m ?_; (conv => whnf); refine CallM.mk rfl ?_ ?_) | (refine CallS.h ?_; (conv => whnf); refine CallM.mk rfl ?_ ?_) | (refine CallS.b ?_; (conv => whnf); refine CallM.mk rfl ?_ ?_) | (refine CallS.z ?_; (conv => whnf); refine CallM.mk rfl ?_ ?_))
        all_goals (try (conv => whnf))
        all_goals (try (exact Ob.mk (u8_bnd _)))
        all_goals (try (refine Ob.mk ?_; first | exact True.intro | assumption | omega | (try simp only [decide_eq_true_eq, decide_eq_false_iff_not, beq_iff_eq, beq_eq_false_iff_ne, bne_iff_ne, bne_eq_false_iff_eq, ne_eq, Bool.and_eq_true, Bool.or_eq_true, Bool.not_eq_true, Bool.not_eq_false, Bool.not_eq_true', Bool.not_eq_false', Int.toNat_natCast, Int.not_lt, Int.not_le, UInt8.ofNat_toNat, cast_eq] at *; omega)))
        all_goals (try ((show (_:Int) = _); omega))
        all_goals (try (show tupSV _ = _; with_unfolding_all rfl))
        all_goals (try ((show (_ : Nat) ≤ _); (simp <;> omega)))
        all_goals (try ((show (_ : Nat) ≤ _ ∧ (_ : Nat) ≤ _); (simp <;> omega)))
        all_goals (try ((show (_ : Int) ≤ _ ∧ (_ : Int) ≤ _ ∧ (_ : Int) ≤ _ ∧ (_ : Int) ≤ _); (simp <;> omega)))
        all_goals (try rfl)
      · have e : i = a.length := by have h := of_decide_eq_false ‹decide ((i : Int) < (a.length : Int)) = false›; omega
        subst e
        have h2 := hi.2
        rw [List.take_of_length_le (Nat.le_refl _), List.take_of_length_le (by omega)] at h2
        rw [h2]; simp
def upL : List Int := [0, 1, 0]
def someL : Nat → List NodeD
  | 0 => [rootN]
  | k + 1 => putT (addT (someL k) ((1 : Int), (0 : Int), ([] : List UInt8), ([] : List AttrD), ([] : List UInt8), (0 : Int), ([] : List Int))) (upL.getD k 0) 9 (someL k).length
theorem someL_ok : ∀ k : Nat, k < 3 → (someL k).length ≤ 100000 ∧ smallT (addT (someL k) ((1 : Int), (0 : Int), ([] : List UInt8), ([] : List AttrD), ([] : List UInt8), (0 : Int), ([] : List Int))) = true := by
  intro k hk
  match k, hk with
  | 0, _ => decide
  | 1, _ => decide
  | 2, _ => decide
instance oSome : Fn BB 20 [] True (.agg [.rd nodeTy (someL 3)]) := by
  refine Fn.intro (N := 17) [0, 1, 3, 5, 6, 7, 8] [] Try.call20 Try.func20 rfl rfl (by kernel_rfl) (fun hpre => ?_)
  repeat' ((conv => whnf); first | (with_reducible rfl) | exact True.intro | (with_reducible exact absTF) | (with_reducible exact absFT) | intro _ | refine And.intro ?_ ?_ | refine Fin.mk ?_ | refine CallG.plain rfl ?_ ?_ | refine CallG.mk rfl ?_ ?_ | refine CallG.nwl rfl ?_ ?_ | refine CallG.nw ?_ ?_ | refine CallF.nwl rfl ?_ ?_ | refine CallF.nw ?_ ?_ | refine AppN.mk ?_ | (refine CallS.q ?_; (conv => whnf); first | refine CallG.plain rfl ?_ ?_ | refine CallG.mk rfl ?_ ?_) | (refine CallS.m ?_; (conv => whnf); refine CallM.mk rfl ?_ ?_) | (refine CallS.h ?_; (conv => whnf); refine CallM.mk rfl ?_ ?_) | (refine CallS.b ?_; (conv => whnf); refine CallM.mk rfl ?_ ?_) | (refine CallS.z ?_; (conv => whnf); refine CallM.mk rfl ?_ ?_))
  all_goals (try (conv => whnf))
  all_goals (try (exact Ob.mk (u8_bnd _)))
  all_goals (try (refine Ob.mk ?_; first | exact True.intro | assumption | omega | (try simp only [decide_eq_true_eq, decide_eq_false_iff_not, beq_iff_eq, beq_eq_false_iff_ne, bne_iff_ne, bne_eq_false_iff_eq, ne_eq, Bool.and_eq_true, Bool.or_eq_true, Bool.not_eq_true, Bool.not_eq_false, Bool.not_eq_true', Bool.not_eq_false', Int.toNat_natCast, Int.not_lt, Int.not_le, UInt8.ofNat_toNat, cast_eq] at *; omega)))
  all_goals (try ((show (_:Int) = _); omega))
  all_goals (try (show tupSV _ = _; with_unfolding_all rfl))
  all_goals (try ((show (_ : Nat) ≤ _); (simp <;> omega)))
  all_goals (try ((show (_ : Nat) ≤ _ ∧ (_ : Nat) ≤ _); (simp <;> omega)))
  all_goals (try ((show (_ : Int) ≤ _ ∧ (_ : Int) ≤ _ ∧ (_ : Int) ≤ _ ∧ (_ : Int) ≤ _); (simp <;> omega)))
  refine LoopStop.mk (α := Nat) (fun k => [(7, .int .i64 k)]) (fun k => [(1, .own nodeTy (someL k)), (3, .own intTy upL)]) 60 (fun k => k ≤ 3) (fun k => 3 - k) 0 (by simp) ?_ (fun k hk => ?_)
  · repeat' ((conv => whnf); first | (with_reducible rfl) | exact True.intro | (with_reducible exact absTF) | (with_reducible exact absFT) | intro _ | refine And.intro ?_ ?_ | refine Fin.mk ?_ | refine CallG.plain rfl ?_ ?_ | refine CallG.mk rfl ?_ ?_ | refine CallG.nwl rfl ?_ ?_ | refine CallG.nw ?_ ?_ | refine CallF.nwl rfl ?_ ?_ | refine CallF.nw ?_ ?_ | refine AppN.mk ?_ | (refine CallS.q ?_; (conv => whnf); first | refine CallG.plain rfl ?_ ?_ | refine CallG.mk rfl ?_ ?_) | (refine CallS.m ?_; (conv => whnf); refine CallM.mk rfl ?_ ?_) | (refine CallS.h ?_; (conv => whnf); refine CallM.mk rfl ?_ ?_) | (refine CallS.b ?_; (conv => whnf); refine CallM.mk rfl ?_ ?_) | (refine CallS.z ?_; (conv => whnf); refine CallM.mk rfl ?_ ?_))
    all_goals (try (conv => whnf))
    all_goals (try (exact Ob.mk (u8_bnd _)))
    all_goals (try (refine Ob.mk ?_; first | exact True.intro | assumption | omega | (try simp only [decide_eq_true_eq, decide_eq_false_iff_not, beq_iff_eq, beq_eq_false_iff_ne, bne_iff_ne, bne_eq_false_iff_eq, ne_eq, Bool.and_eq_true, Bool.or_eq_true, Bool.not_eq_true, Bool.not_eq_false, Bool.not_eq_true', Bool.not_eq_false', Int.toNat_natCast, Int.not_lt, Int.not_le, UInt8.ofNat_toNat, cast_eq] at *; omega)))
    all_goals (try ((show (_:Int) = _); omega))
    all_goals (try (show tupSV _ = _; with_unfolding_all rfl))
    all_goals (try ((show (_ : Nat) ≤ _); (simp <;> omega)))
    all_goals (try ((show (_ : Nat) ≤ _ ∧ (_ : Nat) ≤ _); (simp <;> omega)))
    all_goals (try ((show (_ : Int) ≤ _ ∧ (_ : Int) ≤ _ ∧ (_ : Int) ≤ _ ∧ (_ : Int) ≤ _); (simp <;> omega)))
    all_goals (try rfl)
  · repeat' ((conv => whnf); first | (with_reducible rfl) | exact True.intro | (with_reducible exact absTF) | (with_reducible exact absFT) | intro _ | refine And.intro ?_ ?_ | refine Fin.mk ?_ | refine CallG.plain rfl ?_ ?_ | refine CallG.mk rfl ?_ ?_ | refine CallG.nwl rfl ?_ ?_ | refine CallG.nw ?_ ?_ | refine CallF.nwl rfl ?_ ?_ | refine CallF.nw ?_ ?_ | refine AppN.mk ?_ | (refine CallS.q ?_; (conv => whnf); first | refine CallG.plain rfl ?_ ?_ | refine CallG.mk rfl ?_ ?_) | (refine CallS.m ?_; (conv => whnf); refine CallM.mk rfl ?_ ?_) | (refine CallS.h ?_; (conv => whnf); refine CallM.mk rfl ?_ ?_) | (refine CallS.b ?_; (conv => whnf); refine CallM.mk rfl ?_ ?_) | (refine CallS.z ?_; (conv => whnf); refine CallM.mk rfl ?_ ?_))
    all_goals (try (conv => whnf))
    all_goals (try (exact Ob.mk (u8_bnd _)))
    all_goals (try (refine Ob.mk ?_; first | exact True.intro | assumption | omega | (try simp only [decide_eq_true_eq, decide_eq_false_iff_not, beq_iff_eq, beq_eq_false_iff_ne, bne_iff_ne, bne_eq_false_iff_eq, ne_eq, Bool.and_eq_true, Bool.or_eq_true, Bool.not_eq_true, Bool.not_eq_false, Bool.not_eq_true', Bool.not_eq_false', Int.toNat_natCast, Int.not_lt, Int.not_le, UInt8.ofNat_toNat, cast_eq] at *; omega)))
    all_goals (try ((show (_:Int) = _); omega))
    all_goals (try (show tupSV _ = _; with_unfolding_all rfl))
    all_goals (try ((show (_ : Nat) ≤ _); (simp <;> omega)))
    all_goals (try ((show (_ : Nat) ≤ _ ∧ (_ : Nat) ≤ _); (simp <;> omega)))
    all_goals (try ((show (_ : Int) ≤ _ ∧ (_ : Int) ≤ _ ∧ (_ : Int) ≤ _ ∧ (_ : Int) ≤ _); (simp <;> omega)))
    all_goals (try (have hp := of_decide_eq_true ‹decide ((k : Int) < (([0, 1, 0] : List Int).length : Int)) = true›))
    all_goals (try (have hp : k < 3 := by simp at hp; omega))
    all_goals (try simp only [Int.toNat_natCast] at *)
    · show 0 ≤ (k : Int) ∧ (k : Int) < 3; omega
    · exact hp
    · exact ⟨(someL_ok k hp).1, by simp⟩
    · exact (someL_ok k hp).2
    · refine Rnd.mk ⟨k + 1, by omega, by omega, ?_⟩
      repeat' ((conv => whnf); first | (with_reducible rfl) | exact True.intro | (with_reducible exact absTF) | (with_reducible exact absFT) | intro _ | refine And.intro ?_ ?_ | refine Fin.mk ?_ | refine CallG.plain rfl ?_ ?_ | refine CallG.mk rfl ?_ ?_ | refine CallG.nwl rfl ?_ ?_ | refine CallG.nw ?_ ?_ | refine CallF.nwl rfl ?_ ?_ | refine CallF.nw ?_ ?_ | refine AppN.mk ?_ | (refine CallS.q ?_; (conv => whnf); first | refine CallG.plain rfl ?_ ?_ | refine CallG.mk rfl ?_ ?_) | (refine CallS.m ?_; (conv => whnf); refine CallM.mk rfl ?_ ?_) | (refine CallS.h ?_; (conv => whnf); refine CallM.mk rfl ?_ ?_) | (refine CallS.b ?_; (conv => whnf); refine CallM.mk rfl ?_ ?_) | (refine CallS.z ?_; (conv => whnf); refine CallM.mk rfl ?_ ?_))
      all_goals (try (conv => whnf))
      all_goals (try (exact Ob.mk (u8_bnd _)))
      all_goals (try (refine Ob.mk ?_; first | exact True.intro | assumption | omega | (try simp only [decide_eq_true_eq, decide_eq_false_iff_not, beq_iff_eq, beq_eq_false_iff_ne, bne_iff_ne, bne_eq_false_iff_eq, ne_eq, Bool.and_eq_true, Bool.or_eq_true, Bool.not_eq_true, Bool.not_eq_false, Bool.not_eq_true', Bool.not_eq_false', Int.toNat_natCast, Int.not_lt, Int.not_le, UInt8.ofNat_toNat, cast_eq] at *; omega)))
      all_goals (try ((show (_:Int) = _); omega))
      all_goals (try (show tupSV _ = _; with_unfolding_all rfl))
      all_goals (try ((show (_ : Nat) ≤ _); (simp <;> omega)))
      all_goals (try ((show (_ : Nat) ≤ _ ∧ (_ : Nat) ≤ _); (simp <;> omega)))
      all_goals (try ((show (_ : Int) ≤ _ ∧ (_ : Int) ≤ _ ∧ (_ : Int) ≤ _ ∧ (_ : Int) ≤ _); (simp <;> omega)))
      all_goals (try rfl)
    · have hp := of_decide_eq_false ‹decide ((k : Int) < (([0, 1, 0] : List Int).length : Int)) = false›
      have hp : ¬ k < 3 := by simp at hp; omega
      have : k = 3 := by omega
      subst this; rfl
end Go.Vc

namespace Go.Vc
open Go.Proofs
set_option linter.unusedVariables false
set_option maxRecDepth 10000
set_option linter.unusedSimpArgs false
set_option maxHeartbeats 4000000
abbrev someT : List NodeD := someL 3
def dfsF (K : Nat → List Int) : Nat → List Bool → Nat → Nat → Nat → Option (List Ev × List Bool × Nat)
  | 0, _, _, _, _ => none
  | f + 1, s, i, j, c =>
    if j < (K i).length then
      if okK s ((K i).getD j 0) = true then
        match dfsF K f (s.set ((K i).getD j 0).toNat true) ((K i).getD j 0).toNat 0 (c + 1) with
        | none => none
        | some r1 =>
          match dfsF K f r1.2.1 i (j + 1) r1.2.2 with
          | none => none
          | some r2 => some ((((K i).getD j 0).toNat, (i : Int), c, false) :: (r1.1 ++ r2.1), r2.2.1, r2.2.2)
      else dfsF K f s i (j + 1) c
    else some ([(i, 0, c, true)], s, c + 1)
theorem dfsF_eq {K : Nat → List Int} : ∀ (f : Nat) (s : List Bool) (i j c : Nat) (r : List Ev × List Bool × Nat), dfsF K f s i j c = some r → dfs K s i j c = r := by
  intro f
  induction f with
  | zero => intro s i j c r h; cases h
  | succ f ih =>
    intro s i j c r h
    rw [dfsF] at h
    split at h
    · rename_i hj
      split at h
      · rename_i hk
        split at h
        · cases h
        · rename_i r1 h1
          split at h
          · cases h
          · rename_i r2 h2
            cases h
            rw [dfs_ok hj hk, ih _ _ _ _ _ h1, ih _ _ _ _ _ h2]
      · rename_i hk
        rw [dfs_bad hj (by simpa using hk)]
        exact ih _ _ _ _ _ h
    · rename_i hj
      cases h
      exact dfs_end hj
def someE : List Ev := [(0, -1, 0, false), (1, 0, 1, false), (2, 1, 2, false), (2, 0, 3, true), (1, 0, 4, true), (3, 0, 5, false), (3, 0, 6, true), (0, 0, 7, true)]
theorem some_dfs : dfsF (kidsOf someT) 20 ((List.replicate 4 false).set 0 true) 0 0 1 = some (someE.tail, [true, true, true, true], 8) := by decide +kernel
theorem some_n : someT.length = 4 := by decide +kernel
theorem some_evs : evs someT = someE := by
  unfold evs evsT
  rw [some_n, if_neg (by decide), runS, runS, List.append_nil, dfsF_eq _ _ _ _ _ _ some_dfs]
  rfl
theorem some_fin : fin someT = (st0 4).run someE := by
  have h := some_evs
  unfold evs at h
  rw [some_n] at h
  unfold fin finT
  rw [some_n, h]
theorem some_flat : flat (fin someT) = [(0, 7), (1, 4), (2, 3), (5, 6)] := by rw [some_fin]; decide +kernel
theorem some_list : natI (fin someT).L = [0, 1, 2, 3] := by rw [some_fin]; decide +kernel
theorem some_path : natI (pathT someT 2) = [0, 1] := by unfold pathT; rw [some_evs]; decide +kernel
theorem some_deep : deepT someT = 2 := by unfold deepT; rw [some_evs]; decide +kernel
theorem some_len : someT.length ≤ 45 := by decide +kernel
instance oAwake : Fn BB 7 [] True (.bool true) := by
  refine Fn.intro (N := 43) [0, 1] [(2, [0, 1, 1, 1, 1, 1, 1, 1, 1, 1, 1, 1, 1, 1, 1, 1, 1, 1, 1, 1, 1, 1, 1, 1, 1, 1, 1, 1, 1, 1, 1, 1, 1, 1, 1, 1, 3, 3, 3, 3])] Try.call7 Try.func7 rfl rfl (by kernel_rfl) (fun hpre => ?_)
  repeat' ((conv => whnf); first | (with_reducible rfl) | exact True.intro | (with_reducible exact absTF) | (with_reducible exact absFT) | intro _ | refine And.intro ?_ ?_ | refine Fin.mk ?_ | refine CallG.plain rfl ?_ ?_ | refine CallG.mk rfl ?_ ?_ | refine CallG.nwl rfl ?_ ?_ | refine CallG.nw ?_ ?_ | refine CallF.nwl rfl ?_ ?_ | refine CallF.nw ?_ ?_ | refine AppN.mk ?_ | (refine CallS.q ?_; (conv => whnf); first | refine CallG.plain rfl ?_ ?_ | refine CallG.mk rfl ?_ ?_) | (refine CallS.m ?_; (conv => whnf); refine CallM.mk rfl ?_ ?_) | (refine CallS.h ?_; (conv => whnf); refine CallM.mk rfl ?_ ?_) | (refine CallS.b ?_; (conv => whnf); refine CallM.mk rfl ?_ ?_) | (refine CallS.z ?_; (conv => whnf); refine CallM.mk rfl ?_ ?_))
  all_goals (try (conv => whnf))
  all_goals (try (exact Ob.mk (u8_bnd _)))
  all_goals (try (refine Ob.mk ?_; first | exact True.intro | assumption | omega | (try simp only [decide_eq_true_eq, decide_eq_false_iff_not, beq_iff_eq, beq_eq_false_iff_ne, bne_iff_ne, bne_eq_false_iff_eq, ne_eq, Bool.and_eq_true, Bool.or_eq_true, Bool.not_eq_true, Bool.not_eq_false, Bool.not_eq_true', Bool.not_eq_false', Int.toNat_natCast, Int.not_lt, Int.not_le, UInt8.ofNat_toNat, cast_eq] at *; omega)))
  all_goals (try ((show (_:Int) = _); omega))
  all_goals (try (show tupSV _ = _; with_unfolding_all rfl))
  all_goals (try ((show (_ : Nat) ≤ _); (simp <;> omega)))
  all_goals (try ((show (_ : Nat) ≤ _ ∧ (_ : Nat) ≤ _); (simp <;> omega)))
  all_goals (try ((show (_ : Int) ≤ _ ∧ (_ : Int) ≤ _ ∧ (_ : Int) ≤ _ ∧ (_ : Int) ≤ _); (simp <;> omega)))
  all_goals (try exact some_len)
  all_goals (try simp only [some_flat, some_list, some_path, some_deep] at *)
  all_goals (try decide)
  all_goals (try (refine ⟨?_, ?_⟩ <;> (unfold okC; decide)))
end Go.Vc

namespace Go.Vc
set_option autoImplicit false
/-- of two that were gone into the later one is left ahead of the other one, or gone into behind it -/
theorem Done.two {n : Nat} {y : St} (d : Done n y) {u v : Nat} (hu : u ∈ y.L) (hv : v ∈ y.L) (h : y.I.getD u (-1) < y.I.getD v (-1)) :
    y.O.getD u (-1) < y.I.getD v (-1) ∨ y.O.getD v (-1) < y.O.getD u (-1) := by
  rcases d.nest u hu v hv h with q | q | q
  · exact absurd q (d.o hu)
  · exact .inl q
  · exact .inr q.2
theorem Good.ne {n : Nat} {y : St} (d : Good n y) {u v : Nat} (hu : u ∈ y.L) (hv : v ∈ y.L) (h : u ≠ v) : y.I.getD u (-1) ≠ y.I.getD v (-1) := by
  have key : ∀ l : List Nat, l.Pairwise (fun a b => y.I.getD a (-1) < y.I.getD b (-1)) → u ∈ l → v ∈ l → y.I.getD u (-1) ≠ y.I.getD v (-1) := by
    intro l
    induction l with
    | nil => intro _ hu; cases hu
    | cons a l ih =>
      intro hp hu hv
      rw [List.pairwise_cons] at hp
      rcases List.mem_cons.1 hu with e | e
      · rcases List.mem_cons.1 hv with e' | e'
        · exact absurd (e.trans e'.symm) h
        · have := hp.1 v e'; rw [← e] at this; omega
      · rcases List.mem_cons.1 hv with e' | e'
        · have := hp.1 u e; rw [← e'] at this; omega
        · exact ih hp.2 e e'
  exact key y.L d.srt hu hv
/-- counts are small -/
theorem Done.bnd {n : Nat} {y : St} (d : Done n y) (hn : n ≤ 45) (u : Nat) : -1 ≤ y.I.getD u (-1) ∧ y.I.getD u (-1) ≤ 90 ∧ -1 ≤ y.O.getD u (-1) ∧ y.O.getD u (-1) ≤ 90 := by
  have hm := d.cnt
  have hl := nodup_lt d.nod d.lt
  rw [d.P0] at hm
  simp at hm
  by_cases h : u ∈ y.L
  · have h1 := d.rI u h
    have h2 := d.rO u h
    have h3 := d.o h
    omega
  · have := d.out u h
    omega
/-- what was seen is a mark of one ahead -/
def SeenC (y : St) (i : Nat) (s : List Bool) : Prop := ∀ c : Nat, s.getD c false = true → ∃ u, u < i ∧ u ∈ y.L ∧ (y.I.getD u (-1) = (c : Int) ∨ y.O.getD u (-1) = (c : Int))
theorem SeenC.I {n : Nat} {y : St} (d : Done n y) {i : Nat} {s : List Bool} (h : SeenC y i s) (hi : i ∈ y.L) : s.getD (y.I.getD i (-1)).toNat false = false := by
  rw [Bool.eq_false_iff]
  intro q
  obtain ⟨u, h1, h2, h3⟩ := h _ q
  have hr := d.rI i hi
  rw [Int.toNat_of_nonneg hr.1] at h3
  rcases h3 with h3 | h3
  · exact d.ne h2 hi (by omega) h3
  · exact (d.dis u h2 i hi (d.o h2)).1 h3
theorem SeenC.O {n : Nat} {y : St} (d : Done n y) {i : Nat} {s : List Bool} (h : SeenC y i s) (hi : i ∈ y.L) : (s.set (y.I.getD i (-1)).toNat true).getD (y.O.getD i (-1)).toNat false = false := by
  have hr := d.rI i hi
  have ho := d.rO i hi
  have ho' := d.o hi
  rw [getD_setO, if_neg (by rintro ⟨q, _⟩; omega)]
  rw [Bool.eq_false_iff]
  intro q
  obtain ⟨u, h1, h2, h3⟩ := h _ q
  rw [Int.toNat_of_nonneg (by omega)] at h3
  rcases h3 with h3 | h3
  · exact (d.dis i hi u h2 ho').1 h3.symm
  · have := (d.dis i hi u h2 ho').2 h3
    omega
theorem SeenC.next {n : Nat} {y : St} (d : Done n y) {i : Nat} {s : List Bool} (h : SeenC y i s) (hi : i ∈ y.L) : SeenC y (i + 1) ((s.set (y.I.getD i (-1)).toNat true).set (y.O.getD i (-1)).toNat true) := by
  have hr := d.rI i hi
  have ho := d.rO i hi
  have ho' := d.o hi
  intro c hc
  rw [getD_setO] at hc
  split at hc
  · rename_i q
    exact ⟨i, by omega, hi, .inr (by omega)⟩
  · rw [getD_setO] at hc
    split at hc
    · rename_i q
      exact ⟨i, by omega, hi, .inl (by omega)⟩
    · obtain ⟨u, h1, h2, h3⟩ := h c hc
      exact ⟨u, by omega, h2, h3⟩
theorem SeenC.skip {y : St} {i : Nat} {s : List Bool} (h : SeenC y i s) : SeenC y (i + 1) s := fun c hc => by
  obtain ⟨u, h1, h2, h3⟩ := h c hc
  exact ⟨u, by omega, h2, h3⟩
theorem fin_doneL (l : List NodeD) : Done l.length (fin l) := fin_done _ _
theorem path_fin (l : List NodeD) (i : Nat) : pathT l i = if i ∈ (fin l).L then pathQ (fin l) i else [] := by
  unfold pathT
  have := fin_path (kidsOf l) l.length i
  show (pathE i (evsT (kidsOf l) l.length) []).getD [] = _
  rw [this]
  show (if i ∈ (fin l).L then some (pathQ (fin l) i) else none).getD [] = _
  split <;> rfl
end Go.Vc

namespace Go.Vc
open Go.Proofs
set_option linter.unusedVariables false
set_option maxRecDepth 10000
set_option linter.unusedSimpArgs false
set_option maxHeartbeats 4000000
theorem tree_len {l : List NodeD} (h : treeOk l 30 = true) : l.length ≤ 45 := by
  unfold treeOk at h
  rw [Bool.and_eq_true] at h
  have := of_decide_eq_true h.1
  omega
theorem natI_len (l : List Nat) : (natI l).length = l.length := by unfold natI; simp
end Go.Vc

namespace Go.Vc
open Go.Proofs
set_option linter.unusedVariables false
set_option maxRecDepth 10000
set_option linter.unusedSimpArgs false
set_option maxHeartbeats 4000000
/-- is one inside the other, by their marks? -/
def insB (y : St) (i u : Nat) : Bool := decide (0 ≤ y.I.getD i (-1)) && decide (0 ≤ y.I.getD u (-1)) && (decide (y.I.getD u (-1) < y.I.getD i (-1)) && decide (y.O.getD i (-1) < y.O.getD u (-1)))
theorem path_ins (l : List NodeD) (i : Nat) : pathT l i = (fin l).L.filter (insB (fin l) i) := by
  have d := fin_doneL l
  rw [path_fin]
  split
  · rename_i h
    unfold pathQ insB
    refine List.filter_congr fun u hu => ?_
    rw [decide_eq_true (d.rI i h).1, decide_eq_true (d.rI u hu).1]; rfl
  · rename_i h
    symm
    rw [List.filter_eq_nil_iff]
    intro u _
    unfold insB
    rw [(d.out i h).1]; simp
theorem natI_getD (L : List Nat) (j : Nat) (h : j < L.length) (d : Int) : (natI L).getD j d = ((L.getD j 0 : Nat) : Int) := by
  unfold natI; simp [List.getD, h]
theorem take_filter_succ {p : Nat → Bool} (L : List Nat) (j : Nat) (h : j < L.length) : (L.take (j + 1)).filter p = (L.take j).filter p ++ (if p (L.getD j 0) = true then [L.getD j 0] else []) := by
  rw [take_snoc L j 0 h, List.filter_append, List.filter_cons]
  split <;> simp
theorem getD_mem (L : List Nat) (j : Nat) (h : j < L.length) : L.getD j 0 ∈ L := by
  have : L.getD j 0 = L[j] := by simp [List.getD, List.getElem?_eq_getElem h]
  rw [this]; exact List.getElem_mem h
end Go.Vc

namespace Go.Vc
set_option autoImplicit false
/-- what was gone into, by its marks -/
def sI (I : List Int) : List Bool := I.map fun v => decide (0 ≤ v)
theorem sI_set (I : List Int) (k m : Nat) : sI (I.set k (m : Int)) = (sI I).set k true := by
  unfold sI; rw [List.map_set, decide_eq_true (by omega : (0 : Int) ≤ (m : Int))]
theorem sI_rep (n : Nat) : sI (List.replicate n (-1)) = List.replicate n false := by
  unfold sI; rw [List.map_replicate]; rfl
theorem sI_getD (I : List Int) (k : Nat) (h : k < I.length) : (sI I).getD k true = decide (0 ≤ I.getD k 0) := by
  unfold sI; simp [List.getD, h]
/-- a node's kids from a place on, gone through -/
def dR (K : Nat → List Int) (x : St) (i j : Nat) : St := x.run (dfs K (sI x.I) i j x.m).1
variable {K : Nat → List Int}
theorem run_cons (x : St) (e : Ev) (l : List Ev) : x.run (e :: l) = (x.step e).run l := rfl
theorem dR_fst : ∀ (s : List Bool) (i j c : Nat) (x : St), sI x.I = s → x.m = c →
    sI (x.run (dfs K s i j c).1).I = (dfs K s i j c).2.1 ∧ (x.run (dfs K s i j c).1).m = (dfs K s i j c).2.2 := by
  refine dfs_ind (K := K) ?_ ?_ ?_
  · intro s i j c h x hs hm
    rw [dfs_end h]
    exact ⟨hs, by show x.m + 1 = c + 1; rw [hm]⟩
  · intro s i j c h hk ih x hs hm
    rw [dfs_bad h hk]
    exact ih x hs hm
  · intro s i j c h hk i1 i2 x hs hm
    rw [dfs_ok h hk]
    dsimp only
    rw [run_cons, run_app]
    have a := i1 (x.step (((K i).getD j 0).toNat, (i : Int), c, false)) (by show sI (x.I.set _ (x.m : Int)) = _; rw [sI_set, hs]) (by show x.m + 1 = c + 1; rw [hm])
    exact i2 _ a.1 a.2
theorem dR_end {x : St} {i j : Nat} (h : ¬ j < (K i).length) : dR K x i j = x.step (i, 0, x.m, true) := by
  unfold dR; rw [dfs_end h]; rfl
theorem dR_bad {x : St} {i j : Nat} (h : j < (K i).length) (hk : okK (sI x.I) ((K i).getD j 0) = false) : dR K x i j = dR K x i (j + 1) := by
  unfold dR; rw [dfs_bad h hk]
theorem dR_ok {x : St} {i j : Nat} (h : j < (K i).length) (hk : okK (sI x.I) ((K i).getD j 0) = true) :
    dR K x i j = dR K (dR K (x.step (((K i).getD j 0).toNat, (i : Int), x.m, false)) ((K i).getD j 0).toNat 0) i (j + 1) := by
  have hI : sI (x.step (((K i).getD j 0).toNat, (i : Int), x.m, false)).I = (sI x.I).set ((K i).getD j 0).toNat true := sI_set ..
  have hm : (x.step (((K i).getD j 0).toNat, (i : Int), x.m, false)).m = x.m + 1 := rfl
  have a := dR_fst (K := K) _ ((K i).getD j 0).toNat 0 _ _ hI hm
  have e1 : dR K (x.step (((K i).getD j 0).toNat, (i : Int), x.m, false)) ((K i).getD j 0).toNat 0 =
      (x.step (((K i).getD j 0).toNat, (i : Int), x.m, false)).run (dfs K ((sI x.I).set ((K i).getD j 0).toNat true) ((K i).getD j 0).toNat 0 (x.m + 1)).1 := by
    unfold dR; rw [hI, hm]
  rw [e1]
  generalize hy : (x.step (((K i).getD j 0).toNat, (i : Int), x.m, false)).run (dfs K ((sI x.I).set ((K i).getD j 0).toNat true) ((K i).getD j 0).toNat 0 (x.m + 1)).1 = y at *
  unfold dR
  rw [a.1, a.2, dfs_ok h hk]
  dsimp only
  rw [run_cons, run_app, hy]
theorem dR_ind {P : St → Nat → Nat → Prop} (he : ∀ x i j, ¬ j < (K i).length → P x i j) (hb : ∀ x i j, j < (K i).length → okK (sI x.I) ((K i).getD j 0) = false → P x i (j + 1) → P x i j)
    (ho : ∀ x i j, j < (K i).length → okK (sI x.I) ((K i).getD j 0) = true → P (x.step (((K i).getD j 0).toNat, (i : Int), x.m, false)) ((K i).getD j 0).toNat 0 →
      P (dR K (x.step (((K i).getD j 0).toNat, (i : Int), x.m, false)) ((K i).getD j 0).toNat 0) i (j + 1) → P x i j) : ∀ x i j, P x i j := by
  have main : ∀ (s : List Bool) (i j c : Nat) (x : St), sI x.I = s → x.m = c → P x i j := by
    refine dfs_ind (K := K) ?_ ?_ ?_
    · intro s i j c h x hs hm; exact he x i j h
    · intro s i j c h hk ih x hs hm; subst hs; exact hb x i j h hk (ih x rfl hm)
    · intro s i j c h hk i1 i2 x hs hm
      subst hs; subst hm
      have hI : sI (x.step (((K i).getD j 0).toNat, (i : Int), x.m, false)).I = (sI x.I).set ((K i).getD j 0).toNat true := sI_set ..
      have a := dR_fst (K := K) _ ((K i).getD j 0).toNat 0 (x.m + 1) (x.step (((K i).getD j 0).toNat, (i : Int), x.m, false)) hI rfl
      refine ho x i j h hk (i1 _ hI rfl) (i2 _ ?_ ?_)
      · unfold dR; rw [hI]; exact a.1
      · unfold dR; rw [hI]; exact a.2
  exact fun x i j => main _ i j _ x rfl rfl
theorem dR_bnd : ∀ (x : St) (i j : Nat), (dR K x i j).m + 2 * unseen (sI (dR K x i j).I) ≤ x.m + 2 * unseen (sI x.I) + 1 ∧ (dR K x i j).I.length = x.I.length ∧ (dR K x i j).O.length = x.O.length ∧
    (dR K x i j).L.length + x.m ≤ x.L.length + (dR K x i j).m ∧ unseen (sI (dR K x i j).I) ≤ unseen (sI x.I) := by
  refine dR_ind (K := K) ?_ ?_ ?_
  · intro x i j h
    rw [dR_end h]
    refine ⟨?_, rfl, List.length_set .., ?_, Nat.le_refl _⟩
    · show x.m + 1 + _ ≤ _; exact Nat.le_of_eq (by show x.m + 1 + 2 * unseen (sI x.I) = _; omega)
    · show x.L.length + x.m ≤ x.L.length + (x.m + 1); omega
  · intro x i j h hk ih
    rw [dR_bad h hk]; exact ih
  · intro x i j h hk i1 i2
    rw [dR_ok h hk]
    have hI : sI (x.step (((K i).getD j 0).toNat, (i : Int), x.m, false)).I = (sI x.I).set ((K i).getD j 0).toNat true := sI_set ..
    have hu := unseen_set (okK_spec hk).2.2
    have hm : (x.step (((K i).getD j 0).toNat, (i : Int), x.m, false)).m = x.m + 1 := rfl
    have hL : (x.step (((K i).getD j 0).toNat, (i : Int), x.m, false)).L.length = x.L.length + 1 := by
      show (x.L ++ [_]).length = _; simp
    have hIl : (x.step (((K i).getD j 0).toNat, (i : Int), x.m, false)).I.length = x.I.length := List.length_set ..
    have hOl : (x.step (((K i).getD j 0).toNat, (i : Int), x.m, false)).O.length = x.O.length := rfl
    rw [hI, hm, hL, hIl, hOl] at i1
    exact ⟨by omega, by omega, by omega, by omega, by omega⟩
/-- alike, but for what is open -/
def StE (x y : St) : Prop := x.L = y.L ∧ x.I = y.I ∧ x.O = y.O ∧ x.m = y.m
theorem StE.step {x y : St} (h : StE x y) {e e' : Ev} (h1 : e.1 = e'.1) (h2 : e.2.2.2 = e'.2.2.2) : StE (x.step e) (y.step e') := by
  obtain ⟨a, b, c, d⟩ := h
  unfold St.step
  rw [← h2]
  split
  · exact ⟨a, b, by dsimp only; rw [c, d, h1], by dsimp only; rw [d]⟩
  · exact ⟨by dsimp only; rw [a, h1], by dsimp only; rw [b, d, h1], c, by dsimp only; rw [d]⟩
theorem StE.run : ∀ {l : List Ev} {x y : St}, StE x y → StE (x.run l) (y.run l) := by
  intro l
  induction l with
  | nil => intro x y h; exact h
  | cons e l ih => intro x y h; exact ih (h.step rfl rfl)
theorem StE.dR {x y : St} (h : StE x y) (i j : Nat) : StE (dR K x i j) (dR K y i j) := by
  unfold Go.Vc.dR
  rw [← h.2.1, ← h.2.2.2]
  exact h.run
/-- a whole walk, from a node on -/
def wkS (K : Nat → List Int) (L : List Nat) (I O : List Int) (i m : Nat) : St := dR K (({ L := L, P := [], I := I, O := O, m := m } : St).step (i, 0, m, false)) i 0
theorem fin_wk (K : Nat → List Int) (n : Nat) (h : 0 < n) : StE (finT K n) (wkS K [] (List.replicate n (-1)) (List.replicate n (-1)) 0 0) := by
  have e : finT K n = dR K ((st0 n).step (0, -1, 0, false)) 0 0 := by
    unfold finT evsT dR
    rw [if_neg (by omega)]
    have e2 : sI ((st0 n).step (0, -1, 0, false)).I = (List.replicate n false).set 0 true := by
      show sI ((List.replicate n (-1)).set 0 ((0 : Nat) : Int)) = _
      rw [sI_set, sI_rep]
    have e3 : ((st0 n).step (0, -1, 0, false)).m = 1 := rfl
    rw [e2, e3, run_cons, runS, runS, List.append_nil]
  rw [e]
  unfold wkS
  exact (StE.step (x := st0 n) ⟨rfl, rfl, rfl, rfl⟩ rfl rfl).dR 0 0
end Go.Vc

namespace Go.Vc
open Go.Proofs
set_option linter.unusedVariables false
set_option maxRecDepth 10000
set_option linter.unusedSimpArgs false
set_option maxHeartbeats 4000000
def hPre (t : List NodeD) (L : List Nat) (I O : List Int) (k : Int) (m : Nat) : Prop :=
  t.length ≤ 45 ∧ I.length = t.length ∧ O.length = t.length ∧ (0 ≤ k ∧ k < t.length) ∧ m + 2 * unseen (sI (I.set k.toNat (m : Int))) + 2 ≤ 200 ∧ L.length ≤ m
theorem cnd13 {I : List Int} {n : Nat} (hI : I.length = n) (k : Int) : (decide (k ≥ 0) && decide (k < (n : Int)) && decide (I.getD k.toNat 0 < 0)) = okK (sI I) k := by
  unfold okK
  by_cases h1 : k < 0
  · rw [decide_eq_false (by omega : ¬ k ≥ 0)]; rfl
  · rw [decide_eq_true (by omega : k ≥ 0)]
    by_cases h2 : k < (n : Int)
    · rw [decide_eq_true h2, sI_getD I k.toNat (by omega)]
      by_cases h3 : I.getD k.toNat 0 < 0
      · rw [decide_eq_true h3, decide_eq_false (by omega : ¬ 0 ≤ I.getD k.toNat 0)]; rfl
      · rw [decide_eq_false h3, decide_eq_true (by omega : 0 ≤ I.getD k.toNat 0)]; rfl
    · have : (sI I).getD k.toNat true = true := by
        rw [List.getD_eq_getElem?_getD, List.getElem?_eq_none (by unfold sI; rw [List.length_map]; omega)]; rfl
      rw [decide_eq_false h2, this]; rfl
theorem hWalkN (N : Nat) : ∀ (t : List NodeD) (L : List Nat) (I O : List Int) (k : Int) (m : Nat),
    FnM BB 29 [.agg [.rd nodeTy t], .int .i64 k, .own 0, .own 1, .own 2, .int .i64 m] [(0, .own intTy (natI L)), (1, .ow intTy I), (2, .ow intTy O)]
      (hPre t L I O k m ∧ unseen (sI (I.set k.toNat (m : Int))) < N)
      (.tup [.own 0, .int .i64 ((wkS (kidsOf t) L I O k.toNat m).m : Int)]) [(0, .own intTy (natI (wkS (kidsOf t) L I O k.toNat m).L)), (1, .ow intTy (wkS (kidsOf t) L I O k.toNat m).I), (2, .ow intTy (wkS (kidsOf t) L I O k.toNat m).O)] := by
  induction N with
  | zero => intro t L I O k m; exact ⟨Try.call29, fun h => absurd h.2 (Nat.not_lt_zero _)⟩
  | succ N ih =>
    intro t L I O k m
    refine FnM.intro (N := 79) [0, 1, 2, 3, 4, 5, 6, 12, 13, 14, 15, 34, 61] [] 3 Try.call29 Try.func29 rfl rfl (by kernel_rfl) (fun hpre => ?_)
    repeat' ((conv => whnf); first | (with_reducible rfl) | exact True.intro | (with_reducible exact absTF) | (with_reducible exact absFT) | intro _ | refine And.intro ?_ ?_ | refine Fin.mk ?_ | refine CallG.plain rfl ?_ ?_ | refine CallG.mk rfl ?_ ?_ | refine CallG.nwl rfl ?_ ?_ | refine CallG.nw ?_ ?_ | refine CallF.nwl rfl ?_ ?_ | refine CallF.nw ?_ ?_ | refine AppN.mk ?_ | (refine CallS.q ?_; (conv => whnf); first | refine CallG.plain rfl ?_ ?_ | refine CallG.mk rfl ?_ ?_) | (refine CallS.m ?_; (conv => whnf); refine CallM.mk rfl ?_ ?_) | (refine CallS.h ?_; (conv => whnf); refine CallM.mk rfl ?_ ?_) | (refine CallS.b ?_; (conv => whnf); refine CallM.mk rfl ?_ ?_) | (refine CallS.z ?_; (conv => whnf); refine CallM.mk rfl ?_ ?_))
    all_goals (try (conv => whnf))
    all_goals (try (exact Ob.mk (u8_bnd _)))
    all_goals (try (refine Ob.mk ?_; first | exact True.intro | assumption | omega | (try simp only [decide_eq_true_eq, decide_eq_false_iff_not, beq_iff_eq, beq_eq_false_iff_ne, bne_iff_ne, bne_eq_false_iff_eq, ne_eq, Bool.and_eq_true, Bool.or_eq_true, Bool.not_eq_true, Bool.not_eq_false, Bool.not_eq_true', Bool.not_eq_false', Int.toNat_natCast, Int.not_lt, Int.not_le, UInt8.ofNat_toNat, cast_eq] at *; omega)))
    all_goals (try ((show (_:Int) = _); omega))
    all_goals (try (show tupSV _ = _; with_unfolding_all rfl))
    all_goals (try ((show (_ : Nat) ≤ _); (simp <;> omega)))
    all_goals (try ((show (_ : Nat) ≤ _ ∧ (_ : Nat) ≤ _); (simp <;> omega)))
    all_goals (try ((show (_ : Int) ≤ _ ∧ (_ : Int) ≤ _ ∧ (_ : Int) ≤ _ ∧ (_ : Int) ≤ _); (simp <;> omega)))
    all_goals (obtain ⟨⟨ht, hIl, hOl, hk, hm, hL⟩, hN⟩ := hpre)
    · have : (natI L).length = L.length := by unfold natI; simp
      rw [this, List.length_singleton]
      simp only [bytes3, bytesB3]
      omega
    · omega
    · omega
    · constructor <;> omega
    generalize hx0 : (({ L := L, P := [], I := I, O := O, m := m } : St).step (k.toNat, 0, m, false)) = x0
    have hxI : x0.I = I.set k.toNat (m : Int) := by rw [← hx0]; rfl
    have hxL : x0.L = L ++ [k.toNat] := by rw [← hx0]; rfl
    have hxO : x0.O = O := by rw [← hx0]; rfl
    have hxm : x0.m = m + 1 := by rw [← hx0]; rfl
    have hwk : wkS (kidsOf t) L I O k.toNat m = dR (kidsOf t) x0 k.toNat 0 := by unfold wkS; rw [hx0]
    rw [hwk]
    refine LoopStop.mk (α := St × Nat) (fun a => [(5, .int .i64 a.1.m), (14, .int .i64 a.2)]) (fun a => [(0, .own intTy (natI a.1.L)), (1, .ow intTy a.1.I), (2, .ow intTy a.1.O)]) 60
      (fun a => dR (kidsOf t) a.1 k.toNat a.2 = dR (kidsOf t) x0 k.toNat 0 ∧ a.1.I.length = t.length ∧ a.1.O.length = t.length ∧ a.1.m + 2 * unseen (sI a.1.I) + 1 ≤ 200 ∧ a.1.L.length ≤ a.1.m ∧ unseen (sI a.1.I) ≤ N ∧ a.2 ≤ (kidsOf t k.toNat).length)
      (fun a => (kidsOf t k.toNat).length - a.2) (x0, 0) ⟨rfl, by rw [hxI, List.length_set]; exact hIl, by rw [hxO]; exact hOl, by rw [hxI, hxm]; omega, by rw [hxL, hxm, List.length_append, List.length_singleton]; omega, by rw [hxI]; omega, Nat.zero_le _⟩ ?_ (fun a ha => ?_)
    · repeat' ((conv => whnf); first | (with_reducible rfl) | exact True.intro | (with_reducible exact absTF) | (with_reducible exact absFT) | intro _ | refine And.intro ?_ ?_ | refine Fin.mk ?_ | refine CallG.plain rfl ?_ ?_ | refine CallG.mk rfl ?_ ?_ | refine CallG.nwl rfl ?_ ?_ | refine CallG.nw ?_ ?_ | refine CallF.nwl rfl ?_ ?_ | refine CallF.nw ?_ ?_ | refine AppN.mk ?_ | (refine CallS.q ?_; (conv => whnf); first | refine CallG.plain rfl ?_ ?_ | refine CallG.mk rfl ?_ ?_) | (refine CallS.m ?_; (conv => whnf); refine CallM.mk rfl ?_ ?_) | (refine CallS.h ?_; (conv => whnf); refine CallM.mk rfl ?_ ?_) | (refine CallS.b ?_; (conv => whnf); refine CallM.mk rfl ?_ ?_) | (refine CallS.z ?_; (conv => whnf); refine CallM.mk rfl ?_ ?_))
      all_goals (try (conv => whnf))
      all_goals (try (exact Ob.mk (u8_bnd _)))
      all_goals (try (refine Ob.mk ?_; first | exact True.intro | assumption | omega | (try simp only [decide_eq_true_eq, decide_eq_false_iff_not, beq_iff_eq, beq_eq_false_iff_ne, bne_iff_ne, bne_eq_false_iff_eq, ne_eq, Bool.and_eq_true, Bool.or_eq_true, Bool.not_eq_true, Bool.not_eq_false, Bool.not_eq_true', Bool.not_eq_false', Int.toNat_natCast, Int.not_lt, Int.not_le, UInt8.ofNat_toNat, cast_eq] at *; omega)))
      all_goals (try ((show (_:Int) = _); omega))
      all_goals (try (show tupSV _ = _; with_unfolding_all rfl))
      all_goals (try ((show (_ : Nat) ≤ _); (simp <;> omega)))
      all_goals (try ((show (_ : Nat) ≤ _ ∧ (_ : Nat) ≤ _); (simp <;> omega)))
      all_goals (try ((show (_ : Int) ≤ _ ∧ (_ : Int) ≤ _ ∧ (_ : Int) ≤ _ ∧ (_ : Int) ≤ _); (simp <;> omega)))
      · show (m : Int) + 1 = (x0.m : Int); rw [hxm]; omega
      · show Chunk.own intTy _ = Chunk.own intTy (natI x0.L)
        rw [hxL, natI_snoc, Int.toNat_of_nonneg hk.1]
      · show Chunk.ow intTy _ = Chunk.ow intTy x0.I
        rw [hxI]
      · show Chunk.ow intTy _ = Chunk.ow intTy x0.O
        rw [hxO]
    · obtain ⟨x, j⟩ := a
      dsimp only at ha ⊢
      obtain ⟨hD, hI2, hO2, hm2, hL2, hu2, hj2⟩ := ha
      repeat' ((conv => whnf); first | (with_reducible rfl) | exact True.intro | (with_reducible exact absTF) | (with_reducible exact absFT) | intro _ | refine And.intro ?_ ?_ | refine Fin.mk ?_ | refine CallG.plain rfl ?_ ?_ | refine CallG.mk rfl ?_ ?_ | refine CallG.nwl rfl ?_ ?_ | refine CallG.nw ?_ ?_ | refine CallF.nwl rfl ?_ ?_ | refine CallF.nw ?_ ?_ | refine AppN.mk ?_ | (refine CallS.q ?_; (conv => whnf); first | refine CallG.plain rfl ?_ ?_ | refine CallG.mk rfl ?_ ?_) | (refine CallS.m ?_; (conv => whnf); refine CallM.mk rfl ?_ ?_) | (refine CallS.h ?_; (conv => whnf); refine CallM.mk rfl ?_ ?_) | (refine CallS.b ?_; (conv => whnf); refine CallM.mk rfl ?_ ?_) | (refine CallS.z ?_; (conv => whnf); refine CallM.mk rfl ?_ ?_))
      all_goals (try (conv => whnf))
      all_goals (try (exact Ob.mk (u8_bnd _)))
      all_goals (try (refine Ob.mk ?_; first | exact True.intro | assumption | omega | (try simp only [decide_eq_true_eq, decide_eq_false_iff_not, beq_iff_eq, beq_eq_false_iff_ne, bne_iff_ne, bne_eq_false_iff_eq, ne_eq, Bool.and_eq_true, Bool.or_eq_true, Bool.not_eq_true, Bool.not_eq_false, Bool.not_eq_true', Bool.not_eq_false', Int.toNat_natCast, Int.not_lt, Int.not_le, UInt8.ofNat_toNat, cast_eq] at *; omega)))
      all_goals (try ((show (_:Int) = _); omega))
      all_goals (try (show tupSV _ = _; with_unfolding_all rfl))
      all_goals (try ((show (_ : Nat) ≤ _); (simp <;> omega)))
      all_goals (try ((show (_ : Nat) ≤ _ ∧ (_ : Nat) ≤ _); (simp <;> omega)))
      all_goals (try ((show (_ : Int) ≤ _ ∧ (_ : Int) ≤ _ ∧ (_ : Int) ≤ _ ∧ (_ : Int) ≤ _); (simp <;> omega)))
      all_goals (try simp only [Int.toNat_natCast] at *)
      · rename_i h1 h2 h3
        have hc : okK (sI x.I) ((kidsOf t k.toNat).getD j 0) = true := by rw [← cnd13 hI2]; exact h3
        have hks := okK_spec hc
        have hls : (sI x.I).length = t.length := by unfold sI; rw [List.length_map]; exact hI2
        have hu := unseen_set hks.2.2
        rw [← sI_set x.I ((kidsOf t k.toNat).getD j 0).toNat x.m] at hu
        show hPre t x.L x.I x.O ((kidsOf t k.toNat).getD j 0) x.m ∧ unseen (sI (x.I.set ((kidsOf t k.toNat).getD j 0).toNat (x.m : Int))) < N
        exact ⟨⟨ht, hI2, hO2, ⟨hks.1, by omega⟩, by omega, hL2⟩, by omega⟩
      · rename_i h1 h2 h3
        have hj : j < (kidsOf t k.toNat).length := by have h := of_decide_eq_true h2; exact Int.ofNat_lt.mp h
        have hc : okK (sI x.I) ((kidsOf t k.toNat).getD j 0) = true := by rw [← cnd13 hI2]; exact h3
        rw [dR_ok hj hc] at hD
        have hks := okK_spec hc
        have hu := unseen_set hks.2.2
        rw [← sI_set x.I ((kidsOf t k.toNat).getD j 0).toNat x.m] at hu
        have hb := dR_bnd (K := kidsOf t) (x.step (((kidsOf t k.toNat).getD j 0).toNat, (k.toNat : Int), x.m, false)) ((kidsOf t k.toNat).getD j 0).toNat 0
        have e1 : (x.step (((kidsOf t k.toNat).getD j 0).toNat, (k.toNat : Int), x.m, false)).m = x.m + 1 := rfl
        have e2 : (x.step (((kidsOf t k.toNat).getD j 0).toNat, (k.toNat : Int), x.m, false)).I = x.I.set ((kidsOf t k.toNat).getD j 0).toNat (x.m : Int) := rfl
        have e3 : (x.step (((kidsOf t k.toNat).getD j 0).toNat, (k.toNat : Int), x.m, false)).O = x.O := rfl
        have e4 : (x.step (((kidsOf t k.toNat).getD j 0).toNat, (k.toNat : Int), x.m, false)).L.length = x.L.length + 1 := by show (x.L ++ [_]).length = _; simp
        have hE : StE (wkS (kidsOf t) x.L x.I x.O ((kidsOf t k.toNat).getD j 0).toNat x.m) (dR (kidsOf t) (x.step (((kidsOf t k.toNat).getD j 0).toNat, (k.toNat : Int), x.m, false)) ((kidsOf t k.toNat).getD j 0).toNat 0) := by
          unfold wkS
          exact StE.dR (StE.step (x := { L := x.L, P := [], I := x.I, O := x.O, m := x.m }) (y := x) ⟨rfl, rfl, rfl, rfl⟩ rfl rfl) _ _
        rw [e1, e2, e3, e4, List.length_set] at hb
        generalize dR (kidsOf t) (x.step (((kidsOf t k.toNat).getD j 0).toNat, (k.toNat : Int), x.m, false)) ((kidsOf t k.toNat).getD j 0).toNat 0 = y at *
        refine Rnd.mk ⟨(y, j + 1), ⟨hD, by show y.I.length = _; omega, by show y.O.length = _; omega, by show y.m + 2 * unseen (sI y.I) + 1 ≤ 200; omega, by show y.L.length ≤ y.m; omega, by show unseen (sI y.I) ≤ N; omega, by show j + 1 ≤ _; omega⟩, by show _ - (j + 1) < _; omega, ?_⟩
        repeat' ((conv => whnf); first | (with_reducible rfl) | exact True.intro | (with_reducible exact absTF) | (with_reducible exact absFT) | intro _ | refine And.intro ?_ ?_ | refine Fin.mk ?_ | refine CallG.plain rfl ?_ ?_ | refine CallG.mk rfl ?_ ?_ | refine CallG.nwl rfl ?_ ?_ | refine CallG.nw ?_ ?_ | refine CallF.nwl rfl ?_ ?_ | refine CallF.nw ?_ ?_ | refine AppN.mk ?_ | (refine CallS.q ?_; (conv => whnf); first | refine CallG.plain rfl ?_ ?_ | refine CallG.mk rfl ?_ ?_) | (refine CallS.m ?_; (conv => whnf); refine CallM.mk rfl ?_ ?_) | (refine CallS.h ?_; (conv => whnf); refine CallM.mk rfl ?_ ?_) | (refine CallS.b ?_; (conv => whnf); refine CallM.mk rfl ?_ ?_) | (refine CallS.z ?_; (conv => whnf); refine CallM.mk rfl ?_ ?_))
        all_goals (try (conv => whnf))
        all_goals (try (exact Ob.mk (u8_bnd _)))
        all_goals (try (refine Ob.mk ?_; first | exact True.intro | assumption | omega | (try simp only [decide_eq_true_eq, decide_eq_false_iff_not, beq_iff_eq, beq_eq_false_iff_ne, bne_iff_ne, bne_eq_false_iff_eq, ne_eq, Bool.and_eq_true, Bool.or_eq_true, Bool.not_eq_true, Bool.not_eq_false, Bool.not_eq_true', Bool.not_eq_false', Int.toNat_natCast, Int.not_lt, Int.not_le, UInt8.ofNat_toNat, cast_eq] at *; omega)))
        all_goals (try ((show (_:Int) = _); omega))
        all_goals (try (show tupSV _ = _; with_unfolding_all rfl))
        all_goals (try ((show (_ : Nat) ≤ _); (simp <;> omega)))
        all_goals (try ((show (_ : Nat) ≤ _ ∧ (_ : Nat) ≤ _); (simp <;> omega)))
        all_goals (try ((show (_ : Int) ≤ _ ∧ (_ : Int) ≤ _ ∧ (_ : Int) ≤ _ ∧ (_ : Int) ≤ _); (simp <;> omega)))
        · show ((wkS (kidsOf t) x.L x.I x.O ((kidsOf t k.toNat).getD j 0).toNat x.m).m : Int) = (y.m : Int)
          rw [hE.2.2.2]
        all_goals (try rfl)
        · show Chunk.own intTy (natI (wkS (kidsOf t) x.L x.I x.O ((kidsOf t k.toNat).getD j 0).toNat x.m).L) = Chunk.own intTy (natI y.L)
          rw [hE.1]
        · show Chunk.ow intTy (wkS (kidsOf t) x.L x.I x.O ((kidsOf t k.toNat).getD j 0).toNat x.m).I = Chunk.ow intTy y.I
          rw [hE.2.1]
        · show Chunk.ow intTy (wkS (kidsOf t) x.L x.I x.O ((kidsOf t k.toNat).getD j 0).toNat x.m).O = Chunk.ow intTy y.O
          rw [hE.2.2.1]
      · rename_i h1 h2 h3
        have hj : j < (kidsOf t k.toNat).length := by have h := of_decide_eq_true h2; exact Int.ofNat_lt.mp h
        have hc : okK (sI x.I) ((kidsOf t k.toNat).getD j 0) = false := by rw [← cnd13 hI2]; exact h3
        rw [dR_bad hj hc] at hD
        refine Rnd.mk ⟨(x, j + 1), ⟨hD, hI2, hO2, hm2, hL2, hu2, by show j + 1 ≤ _; omega⟩, by show _ - (j + 1) < _; omega, ?_⟩
        repeat' ((conv => whnf); first | (with_reducible rfl) | exact True.intro | (with_reducible exact absTF) | (with_reducible exact absFT) | intro _ | refine And.intro ?_ ?_ | refine Fin.mk ?_ | refine CallG.plain rfl ?_ ?_ | refine CallG.mk rfl ?_ ?_ | refine CallG.nwl rfl ?_ ?_ | refine CallG.nw ?_ ?_ | refine CallF.nwl rfl ?_ ?_ | refine CallF.nw ?_ ?_ | refine AppN.mk ?_ | (refine CallS.q ?_; (conv => whnf); first | refine CallG.plain rfl ?_ ?_ | refine CallG.mk rfl ?_ ?_) | (refine CallS.m ?_; (conv => whnf); refine CallM.mk rfl ?_ ?_) | (refine CallS.h ?_; (conv => whnf); refine CallM.mk rfl ?_ ?_) | (refine CallS.b ?_; (conv => whnf); refine CallM.mk rfl ?_ ?_) | (refine CallS.z ?_; (conv => whnf); refine CallM.mk rfl ?_ ?_))
        all_goals (try (conv => whnf))
        all_goals (try (exact Ob.mk (u8_bnd _)))
        all_goals (try (refine Ob.mk ?_; first | exact True.intro | assumption | omega | (try simp only [decide_eq_true_eq, decide_eq_false_iff_not, beq_iff_eq, beq_eq_false_iff_ne, bne_iff_ne, bne_eq_false_iff_eq, ne_eq, Bool.and_eq_true, Bool.or_eq_true, Bool.not_eq_true, Bool.not_eq_false, Bool.not_eq_true', Bool.not_eq_false', Int.toNat_natCast, Int.not_lt, Int.not_le, UInt8.ofNat_toNat, cast_eq] at *; omega)))
        all_goals (try ((show (_:Int) = _); omega))
        all_goals (try (show tupSV _ = _; with_unfolding_all rfl))
        all_goals (try ((show (_ : Nat) ≤ _); (simp <;> omega)))
        all_goals (try ((show (_ : Nat) ≤ _ ∧ (_ : Nat) ≤ _); (simp <;> omega)))
        all_goals (try ((show (_ : Int) ≤ _ ∧ (_ : Int) ≤ _ ∧ (_ : Int) ≤ _ ∧ (_ : Int) ≤ _); (simp <;> omega)))
        all_goals (try rfl)
      all_goals (rename_i h1 h2)
      all_goals (have hj : ¬ j < (kidsOf t k.toNat).length := by have h := of_decide_eq_false h2; exact fun q => h (Int.ofNat_lt.mpr q))
      all_goals (rw [dR_end hj] at hD; rw [← hD])
      · rfl
      · rfl
      · rfl
      · rfl
instance hWalk (t : List NodeD) (L : List Nat) (I O : List Int) (k : Int) (m : Nat) :
    FnM BB 29 [.agg [.rd nodeTy t], .int .i64 k, .own 0, .own 1, .own 2, .int .i64 m] [(0, .own intTy (natI L)), (1, .ow intTy I), (2, .ow intTy O)]
      (hPre t L I O k m)
      (.tup [.own 0, .int .i64 ((wkS (kidsOf t) L I O k.toNat m).m : Int)]) [(0, .own intTy (natI (wkS (kidsOf t) L I O k.toNat m).L)), (1, .ow intTy (wkS (kidsOf t) L I O k.toNat m).I), (2, .ow intTy (wkS (kidsOf t) L I O k.toNat m).O)] :=
  have h := hWalkN (unseen (sI (I.set k.toNat (m : Int))) + 1) t L I O k m
  ⟨h.call, fun hp => h.ok ⟨hp, Nat.lt_succ_self _⟩⟩
end Go.Vc
