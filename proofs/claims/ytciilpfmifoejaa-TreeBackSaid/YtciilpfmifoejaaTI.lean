/- A part of the proof: lemmas and walks that the last text of the claim joins; no condition. -/
import Derived.Test.YtciilpfmifoejaaTG
import Derived.Test.YtciilpfmifoejaaVcH
namespace Go.Vc
open Go.Proofs
set_option linter.unusedVariables false
set_option maxRecDepth 10000
set_option linter.unusedSimpArgs false
instance f39 (l : List Int) (i j : Int) : FnM BB 39 [.own 0, .int .i64 i, .int .i64 j] [(0, .own intTy l)] (0 ≤ i ∧ i ≤ j ∧ j ≤ l.length) (.own 0) [(0, .own intTy (l.take i.toNat ++ l.drop j.toNat))] :=
  fnm_delete (B := BB) Try.laysNm223 rfl Try.call39 l i j
instance f38 (l : List Int) (i x : Int) : FnM BB 38 [.own 0, .int .i64 i, .own 1] [(0, .own intTy l), (1, .own intTy [x])] (0 ≤ i ∧ i ≤ l.length ∧ l.length ≤ 100000) (.own 0) [(0, .own intTy (l.take i.toNat ++ x :: l.drop i.toNat)), (1, .own intTy [x])] :=
  fnm_insert (B := BB) Try.laysNm221 rfl Try.call38 l i x
def addT (l : List NodeD) (n : NodeD) : List NodeD := l ++ [(n.1, n.2.1, n.2.2.1, n.2.2.2.1, n.2.2.2.2.1, -1, [])]
instance f12 (l : List NodeD) (k s : Int) (nm : List UInt8) (at_ : List AttrD) (d : List UInt8) (up : Int) (kids : List Int) :
    FnM BB 12 [.loc 0 0, .agg [.int .i64 k, .int .i64 s, .str nm, .rd attrTy at_, .str d, .int .i64 up, .rd intTy kids]] [(0, .box [.own 1]), (1, .own nodeTy l)] (l.length ≤ 100000 ∧ at_.length ≤ 100000)
      (.int .i64 l.length) [(0, .box [.own 1]), (1, .own nodeTy (addT l (k, s, nm, at_, d, up, kids)))] := by
  refine FnM.intro (N := 32) [0, 1, 3, 4] [(1, [0, 0, 0, 0, 1, 0, 1, 0, 1, 0, 1, 0, 1, 1, 0, 1, 1, 1, 3, 0, 0, 3])] 2 Try.call12 Try.func12 rfl rfl (by kernel_rfl) (fun hpre => ?_)
  obtain ⟨hp1, hp2⟩ := hpre
  repeat' ((conv => whnf); first | (with_reducible rfl) | exact True.intro | (with_reducible exact absTF) | (with_reducible exact absFT) | intro _ | refine And.intro ?_ ?_ | refine Fin.mk ?_ | refine CallG.plain rfl ?_ ?_ | refine CallG.mk rfl ?_ ?_ | refine CallG.nwl rfl ?_ ?_ | refine CallG.nw ?_ ?_ | refine CallF.nwl rfl ?_ ?_ | refine CallF.nw ?_ ?_ | (refine CallS.q ?_; (conv => whnf); first | refine CallG.plain rfl ?_ ?_ | refine CallG.mk rfl ?_ ?_) | (refine CallS.m ?_; (conv => whnf); refine CallM.mk rfl ?_ ?_) | (refine CallS.h ?_; (conv => whnf); refine CallM.mk rfl ?_ ?_) | (refine CallS.b ?_; (conv => whnf); refine CallM.mk rfl ?_ ?_) | (refine CallS.z ?_; (conv => whnf); refine CallM.mk rfl ?_ ?_))
  all_goals (try (conv => whnf))
  all_goals (try (refine Ob.mk ?_; first | exact True.intro | assumption | omega | (try simp only [decide_eq_true_eq, decide_eq_false_iff_not, beq_iff_eq, beq_eq_false_iff_ne, bne_iff_ne, bne_eq_false_iff_eq, ne_eq, Bool.and_eq_true, Bool.or_eq_true, Bool.not_eq_true, Bool.not_eq_false, Bool.not_eq_true', Bool.not_eq_false', Int.toNat_natCast, Int.not_lt, Int.not_le, UInt8.ofNat_toNat, cast_eq] at *; omega)))
  all_goals (try ((show (_:Int) = _); omega))
  all_goals (try (show tupSV _ = _; with_unfolding_all rfl))
  all_goals (try ((show (_ : Nat) ≤ _); (simp <;> omega)))
  all_goals (try ((show (_ : Nat) ≤ _ ∧ (_ : Nat) ≤ _); (simp <;> omega)))
  all_goals (try ((show (_ : Int) ≤ _ ∧ (_ : Int) ≤ _ ∧ (_ : Int) ≤ _ ∧ (_ : Int) ≤ _); (simp <;> omega)))
  · simp
  · rfl
def setKids (n : NodeD) (k : List Int) : NodeD := (n.1, n.2.1, n.2.2.1, n.2.2.2.1, n.2.2.2.2.1, n.2.2.2.2.2.1, k)
def setUp (n : NodeD) (u : Int) : NodeD := (n.1, n.2.1, n.2.2.1, n.2.2.2.1, n.2.2.2.2.1, u, n.2.2.2.2.2.2)
def cutA (l : List NodeD) (kid : Int) : List NodeD :=
  if placeT l kid ≥ 0 then l.set (nd l kid).up.toNat (setKids (nd l (nd l kid).up) ((nd l (nd l kid).up).kids.take (placeT l kid).toNat ++ (nd l (nd l kid).up).kids.drop (placeT l kid + 1).toNat)) else l
def cutT (l : List NodeD) (kid : Int) : List NodeD :=
  if kid ≠ 0 ∧ isT l kid = true then (cutA l kid).set kid.toNat (setUp (nd (cutA l kid) kid) (-1)) else cutA l kid
theorem isT_set {l : List NodeD} {i : Nat} {n : NodeD} {k : Int} : isT (l.set i n) k = isT l k := by simp [isT]
theorem ix_lt {l : List Int} {w : Int} (h : ixOf l w ≥ 0) : ixOf l w < l.length := by
  unfold ixOf at h ⊢
  split at h
  · rename_i hc
    rw [if_pos hc]
    have := List.idxOf_lt_length_of_mem (a := w) (l := l) (by simpa using hc)
    omega
  · omega
theorem place_nonneg {l : List NodeD} {kid : Int} (h : placeT l kid ≥ 0) : isT l kid = true ∧ isT l (nd l kid).up = true ∧ placeT l kid < (nd l (nd l kid).up).kids.length := by
  unfold placeT at h ⊢
  split at h
  · rename_i hc
    rw [if_pos hc]
    simp only [Bool.and_eq_true] at hc
    exact ⟨hc.1, hc.2, ix_lt h⟩
  · omega
theorem small_at {l : List NodeD} (h : smallT l = true) (i : Int) (hi : isT l i = true) : (nd l i).2.2.2.1.length ≤ 1000 ∧ (nd l i).kids.length ≤ 1000 := by
  simp only [smallT, Bool.and_eq_true, List.all_eq_true, decide_eq_true_eq] at h
  obtain ⟨h1, h2⟩ := isT_iff.1 hi
  refine h.2 (nd l i) ?_
  have : i.toNat < l.length := by omega
  simp [nd, List.getD, List.getElem?_eq_getElem this]
theorem small_len {l : List NodeD} (h : smallT l = true) : l.length ≤ 1000 := by
  simp only [smallT, Bool.and_eq_true, decide_eq_true_eq] at h
  exact h.1
instance f15 (l : List NodeD) (kid : Int) : FnM BB 15 [.loc 0 0, .int .i64 kid] [(0, .box [.own 1]), (1, .own nodeTy l)] (smallT l = true)
      (.tup []) [(0, .box [.own 1]), (1, .own nodeTy (cutT l kid))] := by
  refine FnM.intro (N := 54) [0, 1, 4, 5, 12, 46] [(2, [0, 0, 0, 1, 0, 0, 0, 1, 0, 1, 1, 1, 3, 3])] 2 Try.call15 Try.func15 rfl rfl (by kernel_rfl) (fun hpre => ?_)
  have H : placeT l kid ≥ 0 → (0 ≤ kid ∧ kid < l.length) ∧ (0 ≤ (nd l kid).up ∧ (nd l kid).up < l.length) ∧ placeT l kid < (nd l (nd l kid).up).kids.length ∧ (nd l (nd l kid).up).kids.length ≤ 1000 := by
    intro h
    obtain ⟨h1, h2, h3⟩ := place_nonneg h
    exact ⟨isT_iff.1 h1, isT_iff.1 h2, h3, (small_at hpre _ h2).2⟩
  by_cases h0 : placeT l kid ≥ 0
  · obtain ⟨f1, f2, f3, f4⟩ := H h0
    clear H
    repeat' ((conv => whnf); first | (with_reducible rfl) | exact True.intro | (with_reducible exact absTF) | (with_reducible exact absFT) | intro _ | refine And.intro ?_ ?_ | refine Fin.mk ?_ | refine CallG.plain rfl ?_ ?_ | refine CallG.mk rfl ?_ ?_ | refine CallG.nwl rfl ?_ ?_ | refine CallG.nw ?_ ?_ | refine CallF.nwl rfl ?_ ?_ | refine CallF.nw ?_ ?_ | (refine CallS.q ?_; (conv => whnf); first | refine CallG.plain rfl ?_ ?_ | refine CallG.mk rfl ?_ ?_) | (refine CallS.m ?_; (conv => whnf); refine CallM.mk rfl ?_ ?_) | (refine CallS.h ?_; (conv => whnf); refine CallM.mk rfl ?_ ?_) | (refine CallS.b ?_; (conv => whnf); refine CallM.mk rfl ?_ ?_) | (refine CallS.z ?_; (conv => whnf); refine CallM.mk rfl ?_ ?_))
    all_goals (try (conv => whnf))
    all_goals (try (refine Ob.mk ?_; first | exact True.intro | assumption | omega | (try simp only [decide_eq_true_eq, decide_eq_false_iff_not, beq_iff_eq, beq_eq_false_iff_ne, bne_iff_ne, bne_eq_false_iff_eq, ne_eq, Bool.and_eq_true, Bool.or_eq_true, Bool.not_eq_true, Bool.not_eq_false, Bool.not_eq_true', Bool.not_eq_false', Int.toNat_natCast, Int.not_lt, Int.not_le, UInt8.ofNat_toNat, cast_eq] at *; omega)))
    all_goals (try ((show (_:Int) = _); omega))
    all_goals (try (show tupSV _ = _; with_unfolding_all rfl))
    all_goals (try ((show (_ : Nat) ≤ _); (simp <;> omega)))
    all_goals (try ((show (_ : Nat) ≤ _ ∧ (_ : Nat) ≤ _); (simp <;> omega)))
    all_goals (try ((show (_ : Int) ≤ _ ∧ (_ : Int) ≤ _ ∧ (_ : Int) ≤ _ ∧ (_ : Int) ≤ _); (simp <;> omega)))
    all_goals (first
      | (show (nd l kid).up.toNat < _; omega)
      | exact Nat.le_trans f4 (by omega)
      | (show 0 ≤ placeT l kid ∧ _; refine ⟨h0, by omega, ?_⟩; show placeT l kid + 1 ≤ ((nd l (nd l kid).up).kids.length : Int); omega)
      | exact isT_iff.1 ((Bool.and_eq_true_iff.1 ‹(_ && _) = true›).2)
      | skip)
    · rename_i h
      have h := Bool.and_eq_true_iff.1 h
      have h2 : isT (cutA l kid) kid = true := by rw [cutA, if_pos h0]; exact h.2
      have h3 : isT l kid = true := by have := h.2; rw [isT_set] at this; exact this
      rw [cutT, if_pos ⟨by simpa using h.1, h3⟩, cutA, if_pos h0]
      rfl
    · rename_i h
      have h1 : ¬ (kid ≠ 0 ∧ isT l kid = true) := fun hc => by
        rw [isT_set] at h
        simp [hc.1, hc.2] at h
      rw [cutT, if_neg h1, cutA, if_pos h0]
      rfl
    all_goals (exfalso; have := of_decide_eq_false ‹decide (placeT l kid ≥ 0) = false›; exact this h0)
  · have h1 : decide (placeT l kid ≥ 0) = false := decide_eq_false h0
    clear H
    repeat' ((conv => whnf); first | (with_reducible rfl) | exact True.intro | (with_reducible exact absTF) | (with_reducible exact absFT) | intro _ | refine And.intro ?_ ?_ | refine Fin.mk ?_ | refine CallG.plain rfl ?_ ?_ | refine CallG.mk rfl ?_ ?_ | refine CallG.nwl rfl ?_ ?_ | refine CallG.nw ?_ ?_ | refine CallF.nwl rfl ?_ ?_ | refine CallF.nw ?_ ?_ | (refine CallS.q ?_; (conv => whnf); first | refine CallG.plain rfl ?_ ?_ | refine CallG.mk rfl ?_ ?_) | (refine CallS.m ?_; (conv => whnf); refine CallM.mk rfl ?_ ?_) | (refine CallS.h ?_; (conv => whnf); refine CallM.mk rfl ?_ ?_) | (refine CallS.b ?_; (conv => whnf); refine CallM.mk rfl ?_ ?_) | (refine CallS.z ?_; (conv => whnf); refine CallM.mk rfl ?_ ?_))
    all_goals (try (conv => whnf))
    all_goals (try (refine Ob.mk ?_; first | exact True.intro | assumption | omega | (try simp only [decide_eq_true_eq, decide_eq_false_iff_not, beq_iff_eq, beq_eq_false_iff_ne, bne_iff_ne, bne_eq_false_iff_eq, ne_eq, Bool.and_eq_true, Bool.or_eq_true, Bool.not_eq_true, Bool.not_eq_false, Bool.not_eq_true', Bool.not_eq_false', Int.toNat_natCast, Int.not_lt, Int.not_le, UInt8.ofNat_toNat, cast_eq] at *; omega)))
    all_goals (try ((show (_:Int) = _); omega))
    all_goals (try (show tupSV _ = _; with_unfolding_all rfl))
    all_goals (try ((show (_ : Nat) ≤ _); (simp <;> omega)))
    all_goals (try ((show (_ : Nat) ≤ _ ∧ (_ : Nat) ≤ _); (simp <;> omega)))
    all_goals (try ((show (_ : Int) ≤ _ ∧ (_ : Int) ≤ _ ∧ (_ : Int) ≤ _ ∧ (_ : Int) ≤ _); (simp <;> omega)))
    all_goals (first
      | (exfalso; exact h0 (of_decide_eq_true ‹decide (placeT l kid ≥ 0) = true›))
      | exact isT_iff.1 ((Bool.and_eq_true_iff.1 ‹(_ && _) = true›).2)
      | (have hh := isT_iff.1 ((Bool.and_eq_true_iff.1 ‹(kid != 0 && isT l kid) = true›).2); omega)
      | skip)
    · rename_i h
      have h := Bool.and_eq_true_iff.1 h
      rw [cutT, if_pos ⟨by simpa using h.1, h.2⟩, cutA, if_neg h0]
      rfl
    · rename_i h
      have h1 : ¬ (kid ≠ 0 ∧ isT l kid = true) := fun hc => by
        simp [hc.1, hc.2] at h
      rw [cutT, if_neg h1, cutA, if_neg h0]
def putT (l : List NodeD) (up at_ kid : Int) : List NodeD :=
  if (!isT l up || !isT l kid || kid == 0 || holdsT l kid up) = true then l else
  let c := cutT l kid
  let ks := (nd c up).kids
  let i := min (max at_ 0) (ks.length : Int)
  let c2 := c.set up.toNat (setKids (nd c up) (ks.take i.toNat ++ kid :: ks.drop i.toNat))
  c2.set kid.toNat (setUp (nd c2 kid) up)
theorem getD_set {l : List NodeD} {k i : Nat} {n : NodeD} : (l.set k n).getD i nodeTy.dflt = if k = i ∧ k < l.length then n else l.getD i nodeTy.dflt := by
  simp only [List.getD, List.getElem?_set]
  by_cases h : k = i
  · subst h
    by_cases h2 : k < l.length
    · simp [h2]
    · simp [h2]
  · simp [h]
/-- bounds on all that a tree holds -/
def smB (m : Nat) (l : List NodeD) : Prop := l.length ≤ m ∧ ∀ i, i < l.length → (l.getD i nodeTy.dflt).2.2.2.1.length ≤ m ∧ (l.getD i nodeTy.dflt).kids.length ≤ m
theorem smB_small {l : List NodeD} {m : Nat} (hm : m ≤ 1000) (h : smB m l) : smallT l = true := by
  simp only [smallT, Bool.and_eq_true, List.all_eq_true, decide_eq_true_eq]
  refine ⟨by have := h.1; omega, fun x hx => ?_⟩
  obtain ⟨i, hi, rfl⟩ := List.getElem_of_mem hx
  have := h.2 i hi
  simp [List.getD, List.getElem?_eq_getElem hi] at this
  exact ⟨by omega, by omega⟩
theorem smB_of {l : List NodeD} (h : smallT l = true) : smB 1000 l := by
  refine ⟨small_len h, fun i hi => ?_⟩
  have := small_at h i (isT_iff.2 ⟨by omega, by omega⟩)
  simpa [nd] using this
theorem smB_set {l : List NodeD} {m : Nat} (h : smB m l) {k : Nat} {n : NodeD} (hn : k < l.length → n.2.2.2.1.length ≤ m ∧ n.kids.length ≤ m) : smB m (l.set k n) := by
  refine ⟨by simpa using h.1, fun i hi => ?_⟩
  rw [getD_set]
  split
  · rename_i hc; exact hn hc.2
  · exact h.2 i (by simpa using hi)
theorem smB_mono {l : List NodeD} {m m' : Nat} (hm : m ≤ m') (h : smB m l) : smB m' l := ⟨Nat.le_trans h.1 hm, fun i hi => ⟨Nat.le_trans (h.2 i hi).1 hm, Nat.le_trans (h.2 i hi).2 hm⟩⟩
theorem cutA_len {l : List NodeD} {kid : Int} : (cutA l kid).length = l.length := by unfold cutA; split <;> simp
theorem cutT_len {l : List NodeD} {kid : Int} : (cutT l kid).length = l.length := by
  unfold cutT; split
  · rw [List.length_set, cutA_len]
  · exact cutA_len
theorem cutA_sm {l : List NodeD} {m : Nat} {kid : Int} (h : smB m l) : smB m (cutA l kid) := by
  unfold cutA
  split
  · refine smB_set h fun hk => ?_
    have := h.2 _ hk
    refine ⟨this.1, ?_⟩
    have e : (setKids (nd l (nd l kid).up) ((nd l (nd l kid).up).kids.take (placeT l kid).toNat ++ (nd l (nd l kid).up).kids.drop (placeT l kid + 1).toNat)).kids.length ≤ (nd l (nd l kid).up).kids.length := by
      show ((nd l (nd l kid).up).kids.take (placeT l kid).toNat ++ (nd l (nd l kid).up).kids.drop (placeT l kid + 1).toNat).length ≤ _
      simp only [List.length_append, List.length_take, List.length_drop]
      omega
    exact Nat.le_trans e this.2
  · exact h
theorem cutT_sm {l : List NodeD} {m : Nat} {kid : Int} (h : smB m l) : smB m (cutT l kid) := by
  unfold cutT
  split
  · refine smB_set (cutA_sm h) fun hk => ?_
    exact (cutA_sm h (kid := kid)).2 _ hk
  · exact cutA_sm h
theorem min_of (a b : Int) : (bif false then max (bif true then max a 0 else min a 0) b else min (bif true then max a 0 else min a 0) b) = min (max a 0) b := rfl
instance f13 (l : List NodeD) (up at_ kid : Int) : FnM BB 13 [.loc 0 0, .int .i64 up, .int .i64 at_, .int .i64 kid] [(0, .box [.own 1]), (1, .own nodeTy l)] (smallT l = true)
      (.tup []) [(0, .box [.own 1]), (1, .own nodeTy (putT l up at_ kid))] := by
  refine FnM.intro (N := 71) [0, 1, 2, 3, 8, 34] [(3, [0, 0, 0, 0, 1, 2, 0, 1, 0, 0, 0, 1, 1, 1, 0, 2, 3, 0, 0, 3])] 2 Try.call13 Try.func13 rfl rfl (by kernel_rfl) (fun hpre => ?_)
  have hsm := cutT_sm (kid := kid) (smB_of hpre)
  have hll := small_len hpre
  have hu : (!isT l up || !isT l kid || kid == 0 || holdsT l kid up) = false → (0 ≤ up ∧ up < (cutT l kid).length) ∧ (0 ≤ kid ∧ kid < (cutT l kid).length) ∧ ((cutT l kid).getD up.toNat nodeTy.dflt).2.2.2.2.2.2.length ≤ 1000 := by
    intro h
    simp only [Bool.or_eq_false_iff, Bool.not_eq_false'] at h
    have h1 := isT_iff.1 h.1.1.1
    have h2 := isT_iff.1 h.1.1.2
    rw [cutT_len]
    exact ⟨h1, h2, (hsm.2 up.toNat (by rw [cutT_len]; omega)).2⟩
  repeat' ((conv => whnf); first | (with_reducible rfl) | exact True.intro | (with_reducible exact absTF) | (with_reducible exact absFT) | intro _ | refine And.intro ?_ ?_ | refine Fin.mk ?_ | refine CallG.plain rfl ?_ ?_ | refine CallG.mk rfl ?_ ?_ | refine CallG.nwl rfl ?_ ?_ | refine CallG.nw ?_ ?_ | refine CallF.nwl rfl ?_ ?_ | refine CallF.nw ?_ ?_ | (refine CallS.q ?_; (conv => whnf); first | refine CallG.plain rfl ?_ ?_ | refine CallG.mk rfl ?_ ?_) | (refine CallS.m ?_; (conv => whnf); refine CallM.mk rfl ?_ ?_) | (refine CallS.h ?_; (conv => whnf); refine CallM.mk rfl ?_ ?_) | (refine CallS.b ?_; (conv => whnf); refine CallM.mk rfl ?_ ?_) | (refine CallS.z ?_; (conv => whnf); refine CallM.mk rfl ?_ ?_))
  all_goals (try (conv => whnf))
  all_goals (try (refine Ob.mk ?_; first | exact True.intro | assumption | omega | (try simp only [decide_eq_true_eq, decide_eq_false_iff_not, beq_iff_eq, beq_eq_false_iff_ne, bne_iff_ne, bne_eq_false_iff_eq, ne_eq, Bool.and_eq_true, Bool.or_eq_true, Bool.not_eq_true, Bool.not_eq_false, Bool.not_eq_true', Bool.not_eq_false', Int.toNat_natCast, Int.not_lt, Int.not_le, UInt8.ofNat_toNat, cast_eq] at *; omega)))
  all_goals (try ((show (_:Int) = _); omega))
  all_goals (try (show tupSV _ = _; with_unfolding_all rfl))
  all_goals (try ((show (_ : Nat) ≤ _); (simp <;> omega)))
  all_goals (try ((show (_ : Nat) ≤ _ ∧ (_ : Nat) ≤ _); (simp <;> omega)))
  all_goals (try ((show (_ : Int) ≤ _ ∧ (_ : Int) ≤ _ ∧ (_ : Int) ≤ _ ∧ (_ : Int) ≤ _); (simp <;> omega)))
  all_goals (first
    | omega
    | (rename_i h; obtain ⟨g1, g2, g3⟩ := hu h; first
        | exact g1
        | exact g2
        | omega
        | exact Nat.le_trans g3 (by omega)
        | (rw [List.length_set]; first | exact g2 | omega)
        | (refine ⟨?_, ?_, Nat.le_trans g3 (by omega)⟩ <;> rw [min_of] <;> omega))
    | skip)
  · rename_i h; rw [putT, if_pos h]
  · rename_i h
    rw [putT, if_neg (by rw [h]; exact Bool.false_ne_true)]
    rfl
end Go.Vc

namespace Go.Vc
open Go.Proofs
set_option linter.unusedVariables false
set_option maxRecDepth 10000
set_option linter.unusedSimpArgs false
def rootN : NodeD := ((0 : Int), (0 : Int), ([] : List UInt8), ([] : List AttrD), ([] : List UInt8), (-1 : Int), ([] : List Int))
instance f18 : FnM BB 18 [] [] True (.agg [.own 0]) [(0, .own nodeTy [rootN])] := by
  refine FnM.intro (N := 4) [0] [] 1 Try.call18 Try.func18 rfl rfl (by kernel_rfl) (fun hpre => ?_)
  repeat' ((conv => whnf); first | (with_reducible rfl) | exact True.intro | (with_reducible exact absTF) | (with_reducible exact absFT) | intro _ | refine And.intro ?_ ?_ | refine Fin.mk ?_ | refine CallG.plain rfl ?_ ?_ | refine CallG.mk rfl ?_ ?_ | refine CallG.nwl rfl ?_ ?_ | refine CallG.nw ?_ ?_ | refine CallF.nwl rfl ?_ ?_ | refine CallF.nw ?_ ?_ | (refine CallS.q ?_; (conv => whnf); first | refine CallG.plain rfl ?_ ?_ | refine CallG.mk rfl ?_ ?_) | (refine CallS.m ?_; (conv => whnf); refine CallM.mk rfl ?_ ?_) | (refine CallS.h ?_; (conv => whnf); refine CallM.mk rfl ?_ ?_) | (refine CallS.b ?_; (conv => whnf); refine CallM.mk rfl ?_ ?_) | (refine CallS.z ?_; (conv => whnf); refine CallM.mk rfl ?_ ?_))
  all_goals (try (conv => whnf))
  all_goals (try (refine Ob.mk ?_; first | exact True.intro | assumption | omega | (try simp only [decide_eq_true_eq, decide_eq_false_iff_not, beq_iff_eq, beq_eq_false_iff_ne, bne_iff_ne, bne_eq_false_iff_eq, ne_eq, Bool.and_eq_true, Bool.or_eq_true, Bool.not_eq_true, Bool.not_eq_false, Bool.not_eq_true', Bool.not_eq_false', Int.toNat_natCast, Int.not_lt, Int.not_le, UInt8.ofNat_toNat, cast_eq] at *; omega)))
  all_goals (try ((show (_:Int) = _); omega))
  all_goals (try (show tupSV _ = _; with_unfolding_all rfl))
  all_goals (try ((show (_ : Nat) ≤ _); (simp <;> omega)))
  all_goals (try ((show (_ : Nat) ≤ _ ∧ (_ : Nat) ≤ _); (simp <;> omega)))
  all_goals (try ((show (_ : Int) ≤ _ ∧ (_ : Int) ≤ _ ∧ (_ : Int) ≤ _ ∧ (_ : Int) ≤ _); (simp <;> omega)))
  all_goals rfl
theorem FnM.wk {B : Base} {f : FuncId} {args args' : List SV} {Φ : Phi} {pre : Prop} {res : SV} {Φ' : Phi} (F : FnM B f args Φ pre res Φ') (h : ∀ r β vs, RelL r β args' vs → RelL r β args vs) : FnM B f args' Φ pre res Φ' :=
  ⟨F.call, fun hp r β w vs hG m hl => F.ok hp r β w vs hG m (h r β vs hl)⟩
theorem nils_rd {r β v} {τ : Ty} (h : Rel r β .nils v) : Rel r β (.rd τ []) v := by cases h; exact .rd .litsE
instance f12n (l : List NodeD) (k s : Int) (nm : List UInt8) (d : List UInt8) (up : Int) :
    FnM BB 12 [.loc 0 0, .agg [.int .i64 k, .int .i64 s, .str nm, .nils, .str d, .int .i64 up, .nils]] [(0, .box [.own 1]), (1, .own nodeTy l)] (l.length ≤ 100000 ∧ ([] : List AttrD).length ≤ 100000)
      (.int .i64 l.length) [(0, .box [.own 1]), (1, .own nodeTy (addT l (k, s, nm, [], d, up, [])))] :=
  FnM.wk (f12 l k s nm [] d up []) fun r β vs h => by
    refine ⟨h.1, fun i sv v h1 h2 => ?_⟩
    match i, h1 with
    | 0, h1 => cases h1; exact h.2 0 _ v rfl h2
    | 1, h1 =>
      cases h1
      obtain ⟨cs, rfl, hc⟩ := (h.2 1 _ v rfl h2).aggL_inv
      refine .aggL ⟨hc.1, fun j sv u q1 q2 => ?_⟩
      match j, q1 with
      | 0, q1 => cases q1; exact hc.2 0 _ u rfl q2
      | 1, q1 => cases q1; exact hc.2 1 _ u rfl q2
      | 2, q1 => cases q1; exact hc.2 2 _ u rfl q2
      | 3, q1 => cases q1; exact nils_rd (hc.2 3 _ u rfl q2)
      | 4, q1 => cases q1; exact hc.2 4 _ u rfl q2
      | 5, q1 => cases q1; exact hc.2 5 _ u rfl q2
      | 6, q1 => cases q1; exact nils_rd (hc.2 6 _ u rfl q2)
instance f10 : Fn BB 10 [] True (.bool true) := by
  refine Fn.intro (N := 42) [0, 1, 2] [] Try.call10 Try.func10 rfl rfl (by kernel_rfl) (fun hpre => ?_)
  repeat' ((conv => whnf); first | (with_reducible rfl) | exact True.intro | (with_reducible exact absTF) | (with_reducible exact absFT) | intro _ | refine And.intro ?_ ?_ | refine Fin.mk ?_ | refine CallG.plain rfl ?_ ?_ | refine CallG.mk rfl ?_ ?_ | refine CallG.nwl rfl ?_ ?_ | refine CallG.nw ?_ ?_ | refine CallF.nwl rfl ?_ ?_ | refine CallF.nw ?_ ?_ | (refine CallS.q ?_; (conv => whnf); first | refine CallG.plain rfl ?_ ?_ | refine CallG.mk rfl ?_ ?_) | (refine CallS.m ?_; (conv => whnf); refine CallM.mk rfl ?_ ?_) | (refine CallS.h ?_; (conv => whnf); refine CallM.mk rfl ?_ ?_) | (refine CallS.b ?_; (conv => whnf); refine CallM.mk rfl ?_ ?_) | (refine CallS.z ?_; (conv => whnf); refine CallM.mk rfl ?_ ?_))
  all_goals (try (conv => whnf))
  all_goals (try (refine Ob.mk ?_; first | exact True.intro | assumption | omega | (try simp only [decide_eq_true_eq, decide_eq_false_iff_not, beq_iff_eq, beq_eq_false_iff_ne, bne_iff_ne, bne_eq_false_iff_eq, ne_eq, Bool.and_eq_true, Bool.or_eq_true, Bool.not_eq_true, Bool.not_eq_false, Bool.not_eq_true', Bool.not_eq_false', Int.toNat_natCast, Int.not_lt, Int.not_le, UInt8.ofNat_toNat, cast_eq] at *; omega)))
  all_goals (try ((show (_:Int) = _); omega))
  all_goals (try (show tupSV _ = _; with_unfolding_all rfl))
  all_goals (try ((show (_ : Nat) ≤ _); (simp <;> omega)))
  all_goals (try ((show (_ : Nat) ≤ _ ∧ (_ : Nat) ≤ _); (simp <;> omega)))
  all_goals (try ((show (_ : Int) ≤ _ ∧ (_ : Int) ≤ _ ∧ (_ : Int) ≤ _ ∧ (_ : Int) ≤ _); (simp <;> omega)))
  all_goals decide
end Go.Vc

namespace Go.Vc
open Go.Proofs
set_option linter.unusedVariables false
set_option maxRecDepth 10000
set_option linter.unusedSimpArgs false
theorem ext_getD {l l' : List NodeD} (h1 : l.length = l'.length) (h2 : ∀ k, k < l.length → l.getD k nodeTy.dflt = l'.getD k nodeTy.dflt) : l = l' := by
  refine List.ext_getElem h1 fun k q1 q2 => ?_
  have := h2 k q1
  simpa [List.getD, List.getElem?_eq_getElem q1, List.getElem?_eq_getElem q2] using this
theorem set_getD {l : List NodeD} {k : Nat} : l.set k (l.getD k nodeTy.dflt) = l := by
  refine ext_getD (by simp) fun j hj => ?_
  rw [getD_set]; split
  · rename_i h; rw [h.1]
  · rfl
theorem setUp_self {n : NodeD} {u : Int} (h : n.up = u) : setUp n u = n := by
  obtain ⟨a, b, c, d, e, f, g⟩ := n
  have h : f = u := h
  subst h; rfl
theorem nd_set {l : List NodeD} {k : Nat} {n : NodeD} {i : Int} (hi : 0 ≤ i) : nd (l.set k n) i = if (k : Int) = i ∧ k < l.length then n else nd l i := by
  have e : (k = i.toNat ∧ k < l.length) ↔ ((k : Int) = i ∧ k < l.length) := by omega
  rw [nd, getD_set]
  simp only [e]
/-- a node that is in nothing is cut out of nothing -/
theorem cut_none {l : List NodeD} {i : Int} (hu : (nd l i).up = -1) : cutT l i = l := by
  have hp : placeT l i = -1 := by
    have : isT l (nd l i).up = false := by rw [hu]; simp [isT]
    rw [placeT, this]; simp
  have ha : cutA l i = l := by rw [cutA, if_neg (by rw [hp]; omega)]
  rw [cutT]
  split
  · rw [ha, setUp_self hu]; exact set_getD
  · exact ha
theorem back_law {l : List NodeD} {i up pl : Int} (hi : isT l i = true) (hup : isT l up = true) (hlt : up < i) (hu : (nd l i).up = -1)
    (h : (nd (putT l up pl i) i).up = up) : cutT (putT l up pl i) i = l ∨ ixOf (nd l up).kids i ≥ 0 := by
  obtain ⟨a1, a2⟩ := isT_iff.1 hi
  obtain ⟨b1, b2⟩ := isT_iff.1 hup
  by_cases hc : (!isT l up || !isT l i || i == 0 || holdsT l i up) = true
  · have : putT l up pl i = l := by rw [putT, if_pos hc]
    rw [this, hu] at h
    omega
  by_cases hks : ixOf (nd l up).kids i ≥ 0
  · exact .inr hks
  left
  have hnc : (nd l up).kids.contains i = false := by
    cases hq : (nd l up).kids.contains i with
    | false => rfl
    | true => exfalso; apply hks; rw [ixOf, hq]; simp
  obtain ⟨ks, hk⟩ : ∃ ks, ks = (nd l up).kids := ⟨_, rfl⟩
  obtain ⟨j, hj⟩ : ∃ j : Nat, (j : Int) = min (max pl 0) (ks.length : Int) := ⟨(min (max pl 0) (ks.length : Int)).toNat, by omega⟩
  have hjl : j ≤ ks.length := by omega
  obtain ⟨c2, hc2⟩ : ∃ c2, c2 = l.set up.toNat (setKids (nd l up) (ks.take j ++ i :: ks.drop j)) := ⟨_, rfl⟩
  have hP : putT l up pl i = c2.set i.toNat (setUp (nd c2 i) up) := by
    rw [putT, if_neg hc, cut_none hu]
    simp only [← hk, ← hj, Int.toNat_natCast, ← hc2]
  have hn2 : nd c2 i = nd l i := by rw [hc2, nd_set a1, if_neg (by omega)]
  have hl2 : c2.length = l.length := by rw [hc2]; simp
  have hPu : nd (putT l up pl i) up = setKids (nd l up) (ks.take j ++ i :: ks.drop j) := by
    rw [hP, nd_set b1, if_neg (by omega), hc2, nd_set b1, if_pos (by omega)]
  have hPi : nd (putT l up pl i) i = setUp (nd l i) up := by
    rw [hP, nd_set a1, if_pos (by omega), hn2]
  have hPl : (putT l up pl i).length = l.length := by rw [hP]; simp [hl2]
  generalize putT l up pl i = P at *
  have hiP : isT P i = true := isT_iff.2 ⟨a1, by omega⟩
  have huP : isT P up = true := isT_iff.2 ⟨b1, by omega⟩
  have hxk : (nd P up).kids = ks.take j ++ i :: ks.drop j := by rw [hPu]; rfl
  have hplace : placeT P i = j := by
    rw [placeT, h, hiP, huP]
    simp only [Bool.and_self, if_true]
    rw [hxk]
    have htl : (ks.take j).length = j := by simp; omega
    refine ixOf_at (i := j) (by simp; omega) ?_ ?_
    · rw [List.take_append_of_le_length (by omega), List.take_of_length_le (by omega)]
      rw [← hk] at hnc
      simp only [List.contains_eq_mem, decide_eq_false_iff_not] at hnc ⊢
      exact fun hm => hnc (List.mem_of_mem_take hm)
    · simp [List.getD, List.getElem?_append_right, htl]
  have hcut : cutA P i = P.set up.toNat (setKids (nd P up) ks) := by
    rw [cutA, if_pos (by rw [hplace]; omega), hplace, h, hxk]
    have htl : (ks.take j).length = j := by simp; omega
    have e1 : (ks.take j ++ i :: ks.drop j).take j = ks.take j := by rw [List.take_append_of_le_length (by omega), List.take_of_length_le (by omega)]
    have e2 : (ks.take j ++ i :: ks.drop j).drop (j + 1) = ks.drop j := by
      rw [List.drop_append, List.drop_eq_nil_of_le (by omega), htl, show j + 1 - j = 1 by omega]; rfl
    rw [show ((j : Int) + 1).toNat = j + 1 by omega, Int.toNat_natCast, e1, e2, List.take_append_drop]
  have hi0 : i ≠ 0 := by omega
  rw [cutT, if_pos ⟨hi0, hiP⟩, hcut]
  have hnA : nd (P.set up.toNat (setKids (nd P up) ks)) i = nd P i := by rw [nd_set a1, if_neg (by omega)]
  rw [hnA, hPi]
  have hPdef := hP
  refine ext_getD (by simp; omega) fun q hq => ?_
  simp only [List.length_set] at hq
  rw [getD_set, getD_set]
  simp only [List.length_set]
  by_cases q1 : i.toNat = q
  · rw [if_pos ⟨q1, by omega⟩]
    have : setUp (setUp (nd l i) up) (-1) = nd l i := by
      have : setUp (setUp (nd l i) up) (-1) = setUp (nd l i) (-1) := rfl
      rw [this, setUp_self hu]
    rw [this, nd, q1]
  · rw [if_neg (by omega)]
    by_cases q2 : up.toNat = q
    · rw [if_pos ⟨q2, by omega⟩, hPu]
      have : setKids (setKids (nd l up) (ks.take j ++ i :: ks.drop j)) ks = nd l up := by
        rw [hk]; rfl
      rw [this, nd, q2]
    · rw [if_neg (by omega), hPdef, getD_set, if_neg (by omega), hc2, getD_set, if_neg (by omega)]
end Go.Vc

namespace Go.Vc
open Go.Proofs
set_option linter.unusedVariables false
set_option maxRecDepth 10000
set_option linter.unusedSimpArgs false
theorem treeOk_sm {l : List NodeD} (h : treeOk l 20 = true) : smB 100 l := by
  simp only [treeOk, Bool.and_eq_true, List.all_eq_true, decide_eq_true_eq] at h
  refine ⟨by omega, fun i hi => ?_⟩
  have hm : l.getD i nodeTy.dflt ∈ l := by simp [List.getD, List.getElem?_eq_getElem hi]
  have := h.2 _ hm
  simp only [nodeOk, attrsOk, Bool.and_eq_true, decide_eq_true_eq] at this
  omega
theorem addT_sm {l : List NodeD} {n : NodeD} {m : Nat} (h : smB m l) (hm : m < 1000) (ha : n.2.2.2.1.length ≤ m) : smB (m + 1) (addT l n) := by
  refine ⟨by have := h.1; simp [addT]; omega, fun i hi => ?_⟩
  by_cases hil : i < l.length
  · have : (addT l n).getD i nodeTy.dflt = l.getD i nodeTy.dflt := by simp [addT, List.getD, List.getElem?_append_left hil]
    rw [this]
    have := h.2 i hil
    omega
  · have : i = l.length := by simp [addT] at hi; omega
    subst this
    have : (addT l n).getD l.length nodeTy.dflt = (n.1, n.2.1, n.2.2.1, n.2.2.2.1, n.2.2.2.2.1, -1, []) := by simp [addT, List.getD]
    rw [this]
    exact ⟨by show n.2.2.2.1.length ≤ _; omega, Nat.zero_le _⟩
theorem putT_len {l : List NodeD} {up pl kid : Int} : (putT l up pl kid).length = l.length := by
  unfold putT; split
  · rfl
  · simp only [List.length_set]; exact cutT_len
theorem putT_sm {l : List NodeD} {up pl kid : Int} {m : Nat} (h : smB m l) : smB (m + 1) (putT l up pl kid) := by
  unfold putT; split
  · exact smB_mono (Nat.le_succ m) h
  · have hc := cutT_sm (kid := kid) h
    have hc' := smB_mono (Nat.le_succ m) hc
    have h1 : smB (m + 1) ((cutT l kid).set up.toNat (setKids (nd (cutT l kid) up) ((nd (cutT l kid) up).kids.take (min (max pl 0) ((nd (cutT l kid) up).kids.length : Int)).toNat ++ kid :: (nd (cutT l kid) up).kids.drop (min (max pl 0) ((nd (cutT l kid) up).kids.length : Int)).toNat))) := by
      refine smB_set hc' fun hk => ?_
      have := hc.2 _ hk
      refine ⟨Nat.le_trans this.1 (Nat.le_succ m), ?_⟩
      show ((nd (cutT l kid) up).kids.take _ ++ kid :: (nd (cutT l kid) up).kids.drop _).length ≤ m + 1
      have h2 : (nd (cutT l kid) up).kids.length ≤ m := this.2
      simp only [List.length_append, List.length_take, List.length_cons, List.length_drop]
      omega
    refine smB_set h1 fun hk => ?_
    exact h1.2 _ hk
instance f3 (l : List NodeD) (k s : Int) (nm : List UInt8) (at_ : List AttrD) (d : List UInt8) (nup : Int) (kids : List Int) (up pl : Int) :
    Fn BB 3 [.agg [.rd nodeTy l], .agg [.int .i64 k, .int .i64 s, .str nm, .rd attrTy at_, .str d, .int .i64 nup, .rd intTy kids], .int .i64 up, .int .i64 pl] True (.bool true) := by
  refine Fn.intro (N := 104) [0, 1, 2, 3, 4, 5, 8, 9, 10, 11, 12, 31, 47] [] Try.call3 Try.func3 rfl rfl (by kernel_rfl) (fun hpre => ?_)
  have H : (!treeOk l 20 || !nodeOk (k, s, nm, at_, d, nup, kids) || decide (up < 0) || decide (up ≥ l.length)) = false →
      smB 100 l ∧ at_.length ≤ 14 ∧ 0 ≤ up ∧ up < l.length := by
    intro h
    simp only [Bool.or_eq_false_iff, Bool.not_eq_false', decide_eq_false_iff_not] at h
    refine ⟨treeOk_sm h.1.1.1, ?_, by omega, by omega⟩
    have := h.1.1.2
    simp only [nodeOk, attrsOk, Bool.and_eq_true, decide_eq_true_eq] at this
    omega
  cases hc : (!treeOk l 20 || !nodeOk (k, s, nm, at_, d, nup, kids) || decide (up < 0) || decide (up ≥ l.length)) with
  | true =>
    repeat' ((conv => whnf); first | (with_reducible rfl) | exact True.intro | (with_reducible exact absTF) | (with_reducible exact absFT) | intro _ | refine And.intro ?_ ?_ | refine Fin.mk ?_ | refine CallG.plain rfl ?_ ?_ | refine CallG.mk rfl ?_ ?_ | refine CallG.nwl rfl ?_ ?_ | refine CallG.nw ?_ ?_ | refine CallF.nwl rfl ?_ ?_ | refine CallF.nw ?_ ?_ | (refine CallS.q ?_; (conv => whnf); first | refine CallG.plain rfl ?_ ?_ | refine CallG.mk rfl ?_ ?_) | (refine CallS.m ?_; (conv => whnf); refine CallM.mk rfl ?_ ?_) | (refine CallS.h ?_; (conv => whnf); refine CallM.mk rfl ?_ ?_) | (refine CallS.b ?_; (conv => whnf); refine CallM.mk rfl ?_ ?_) | (refine CallS.z ?_; (conv => whnf); refine CallM.mk rfl ?_ ?_))
    all_goals (try (conv => whnf))
    all_goals (try (refine Ob.mk ?_; first | exact True.intro | assumption | omega | (try simp only [decide_eq_true_eq, decide_eq_false_iff_not, beq_iff_eq, beq_eq_false_iff_ne, bne_iff_ne, bne_eq_false_iff_eq, ne_eq, Bool.and_eq_true, Bool.or_eq_true, Bool.not_eq_true, Bool.not_eq_false, Bool.not_eq_true', Bool.not_eq_false', Int.toNat_natCast, Int.not_lt, Int.not_le, UInt8.ofNat_toNat, cast_eq] at *; omega)))
    all_goals (try ((show (_:Int) = _); omega))
    all_goals (try (show tupSV _ = _; with_unfolding_all rfl))
    all_goals (try ((show (_ : Nat) ≤ _); (simp <;> omega)))
    all_goals (try ((show (_ : Nat) ≤ _ ∧ (_ : Nat) ≤ _); (simp <;> omega)))
    all_goals (try ((show (_ : Int) ≤ _ ∧ (_ : Int) ≤ _ ∧ (_ : Int) ≤ _ ∧ (_ : Int) ≤ _); (simp <;> omega)))
    all_goals (exfalso; rw [hc] at *; contradiction)
  | false =>
    obtain ⟨h1, h2, h3, h4⟩ := H hc
    have hsl := smB_small (by omega) h1
    have hA := addT_sm (n := (k, s, nm, at_, d, nup, kids)) h1 (by omega) (by show at_.length ≤ 100; omega)
    have hsA := smB_small (by omega) hA
    have hP := putT_sm (up := up) (pl := pl) (kid := (l.length : Int)) hA
    have hsP := smB_small (by omega) hP
    have hlA : (addT l (k, s, nm, at_, d, nup, kids)).length = l.length + 1 := by simp [addT]
    have hlP : (putT (addT l (k, s, nm, at_, d, nup, kids)) up pl (l.length : Int)).length = l.length + 1 := by rw [putT_len, hlA]
    have hkP : List.length ((putT (addT l (k, s, nm, at_, d, nup, kids)) up pl (l.length : Int)).getD up.toNat nodeTy.dflt).2.2.2.2.2.2 ≤ 102 := (hP.2 up.toNat (by rw [hlP]; omega)).2
    have hkA : List.length ((addT l (k, s, nm, at_, d, nup, kids)).getD up.toNat nodeTy.dflt).2.2.2.2.2.2 ≤ 101 := (hA.2 up.toNat (by rw [hlA]; omega)).2
    have hl1 := h1.1
    have hend := back_law (l := addT l (k, s, nm, at_, d, nup, kids)) (i := (l.length : Int)) (up := up) (pl := pl) (isT_iff.2 ⟨by omega, by rw [hlA]; omega⟩) (isT_iff.2 ⟨h3, by rw [hlA]; omega⟩) h4
      (by simp [nd, addT, List.getD])
    clear H
    repeat' ((conv => whnf); first | (with_reducible rfl) | exact True.intro | (with_reducible exact absTF) | (with_reducible exact absFT) | intro _ | refine And.intro ?_ ?_ | refine Fin.mk ?_ | refine CallG.plain rfl ?_ ?_ | refine CallG.mk rfl ?_ ?_ | refine CallG.nwl rfl ?_ ?_ | refine CallG.nw ?_ ?_ | refine CallF.nwl rfl ?_ ?_ | refine CallF.nw ?_ ?_ | (refine CallS.q ?_; (conv => whnf); first | refine CallG.plain rfl ?_ ?_ | refine CallG.mk rfl ?_ ?_) | (refine CallS.m ?_; (conv => whnf); refine CallM.mk rfl ?_ ?_) | (refine CallS.h ?_; (conv => whnf); refine CallM.mk rfl ?_ ?_) | (refine CallS.b ?_; (conv => whnf); refine CallM.mk rfl ?_ ?_) | (refine CallS.z ?_; (conv => whnf); refine CallM.mk rfl ?_ ?_))
    all_goals (try (conv => whnf))
    all_goals (try (refine Ob.mk ?_; first | exact True.intro | assumption | omega | (try simp only [decide_eq_true_eq, decide_eq_false_iff_not, beq_iff_eq, beq_eq_false_iff_ne, bne_iff_ne, bne_eq_false_iff_eq, ne_eq, Bool.and_eq_true, Bool.or_eq_true, Bool.not_eq_true, Bool.not_eq_false, Bool.not_eq_true', Bool.not_eq_false', Int.toNat_natCast, Int.not_lt, Int.not_le, UInt8.ofNat_toNat, cast_eq] at *; omega)))
    all_goals (try ((show (_:Int) = _); omega))
    all_goals (try (show tupSV _ = _; with_unfolding_all rfl))
    all_goals (try ((show (_ : Nat) ≤ _); (simp <;> omega)))
    all_goals (try ((show (_ : Nat) ≤ _ ∧ (_ : Nat) ≤ _); (simp <;> omega)))
    all_goals (try ((show (_ : Int) ≤ _ ∧ (_ : Int) ≤ _ ∧ (_ : Int) ≤ _ ∧ (_ : Int) ≤ _); (simp <;> omega)))
    all_goals (first
      | (exfalso; rename_i h; rw [hlA] at h; simp at h; omega)
      | exact Nat.le_trans hkP (by omega)
      | (show _ ∧ _; omega)
      | skip)
    by_cases hu : (nd (putT (addT l (k, s, nm, at_, d, nup, kids)) up pl (l.length : Int)) (l.length : Int)).up = up
    · rcases hend hu with he | he
      · have he' : eqB (cutT (putT (addT l (k, s, nm, at_, d, nup, kids)) up pl (l.length : Int)) (l.length : Int)) (addT l (k, s, nm, at_, d, nup, kids)) = true := eqB_iff.2 he
        rw [he']; simp
      · have he' : decide (ixOf ((addT l (k, s, nm, at_, d, nup, kids)).getD up.toNat nodeTy.dflt).2.2.2.2.2.2 (l.length : Int) ≥ 0) = true := decide_eq_true he
        rw [he']; simp
    · have he' : (((putT (addT l (k, s, nm, at_, d, nup, kids)) up pl (l.length : Int)).getD ((l.length : Int)).toNat nodeTy.dflt).2.2.2.2.2.1 == up) = false := beq_eq_false_iff_ne.2 hu
      rw [he']; simp
end Go.Vc

namespace Go.Vc
open Go.Proofs
theorem base_ok (W : World) (hsh : W.ShapedOpen Try.prog) : BB.G fun b => W.heap[b]? := True.intro
end Go.Vc
