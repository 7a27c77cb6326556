/- A part of the proof: lemmas and walks that the last text of the claim joins; no condition. -/
import Derived.Test.YtfbkhpkneioecaaTI
import Derived.Test.YtfbkhpkneioecaaTJ
import Derived.Test.YtfbkhpkneioecaaVcK
set_option linter.unusedVariables false
set_option linter.unusedSimpArgs false
namespace Go.Vc
open Go.Proofs
set_option linter.unusedVariables false
set_option maxRecDepth 10000
set_option linter.unusedSimpArgs false
instance f39 (l : List Int) (i j : Int) : FnM BB 126 [.own 0, .int .i64 i, .int .i64 j] [(0, .own intTy l)] (0 ≤ i ∧ i ≤ j ∧ j ≤ l.length) (.own 0) [(0, .own intTy (l.take i.toNat ++ l.drop j.toNat))] :=
  fnm_delete (B := BB) Try.laysNm223 rfl Try.call126 l i j
instance f38 (l : List Int) (i x : Int) : FnM BB 129 [.own 0, .int .i64 i, .own 1] [(0, .own intTy l), (1, .own intTy [x])] (0 ≤ i ∧ i ≤ l.length ∧ l.length ≤ 100000) (.own 0) [(0, .own intTy (l.take i.toNat ++ x :: l.drop i.toNat)), (1, .own intTy [x])] :=
  fnm_insert (B := BB) Try.laysNm221 rfl Try.call129 l i x
def addT (l : List NodeD) (n : NodeD) : List NodeD := l ++ [(n.1, n.2.1, n.2.2.1, n.2.2.2.1, n.2.2.2.2.1, -1, [])]
instance f12 (l : List NodeD) (k s : Int) (nm : List UInt8) (at_ : List AttrD) (d : List UInt8) (up : Int) (kids : List Int) :
    FnM BB 70 [.loc 0 0, .agg [.int .i64 k, .int .i64 s, .str nm, .rd attrTy at_, .str d, .int .i64 up, .rd intTy kids]] [(0, .box [.own 1]), (1, .own nodeTy l)] (l.length ≤ 100000 ∧ at_.length ≤ 100000)
      (.int .i64 l.length) [(0, .box [.own 1]), (1, .own nodeTy (addT l (k, s, nm, at_, d, up, kids)))] := by
  refine FnM.intro (N := 32) [0, 1, 3, 4] [(1, [0, 0, 0, 0, 1, 0, 1, 0, 1, 0, 1, 0, 1, 1, 0, 1, 1, 1, 3, 0, 0, 3])] 2 Try.call70 Try.func70 rfl rfl (by kernel_rfl) (fun hpre => ?_)
  obtain ⟨hp1, hp2⟩ := hpre
  repeat' ((conv => whnf); first | (with_reducible rfl) | exact True.intro | (with_reducible exact absTF) | (with_reducible exact absFT) | intro _ | refine And.intro ?_ ?_ | refine Fin.mk ?_ | refine CallG.plain rfl ?_ ?_ | refine CallG.mk rfl ?_ ?_ | refine CallG.nwl rfl ?_ ?_ | refine CallG.nw ?_ ?_ | refine CallF.nwl rfl ?_ ?_ | refine CallF.nw ?_ ?_ | (refine CallS.q ?_; (conv => whnf); first | refine CallG.plain rfl ?_ ?_ | refine CallG.mk rfl ?_ ?_) | (refine CallS.m ?_; (conv => whnf); refine CallM.mk rfl ?_ ?_) | (refine CallS.h ?_; (conv => whnf); refine CallM.mk rfl ?_ ?_) | (refine CallS.b ?_; (conv => whnf); refine CallM.mk rfl ?_ ?_) | (refine CallS.z ?_; (conv => whnf); refine CallM.mk rfl ?_ ?_))
  all_goals (try (conv => whnf))
  all_goals (try (exact Ob.mk (u8_bnd _)))
  all_goals (try (refine Ob.mk ?_; first | exact True.intro | assumption | omega | (try simp only [decide_eq_true_eq, decide_eq_false_iff_not, beq_iff_eq, beq_eq_false_iff_ne, bne_iff_ne, bne_eq_false_iff_eq, ne_eq, Bool.and_eq_true, Bool.or_eq_true, Bool.not_eq_true, Bool.not_eq_false, Bool.not_eq_true', Bool.not_eq_false', Int.toNat_natCast, Int.not_lt, Int.not_le, UInt8.ofNat_toNat, cast_eq] at *; omega)))
  all_goals (try ((show (_:Int) = _); omega))
  all_goals (try (show tupSV _ = _; with_unfolding_all rfl))
  all_goals (try ((show (_ : Nat) ≤ _); (simp <;> omega)))
  all_goals (try ((show (_ : Nat) ≤ _ ∧ (_ : Nat) ≤ _); (simp <;> omega)))
  all_goals (try ((show (_ : Int) ≤ _ ∧ (_ : Int) ≤ _ ∧ (_ : Int) ≤ _ ∧ (_ : Int) ≤ _); (simp <;> omega)))
  · simp
  · rfl
def setKids (n : NodeD) (k : List Int) : NodeD := (n.1, n.2.1, n.2.2.1, n.2.2.2.1, n.2.2.2.2.1, n.2.2.2.2.2.1, k)
def setUp (n : NodeD) (u : Int) : NodeD := (n.1, n.2.1, n.2.2.1, n.2.2.2.1, n.2.2.2.2.1, u, n.2.2.2.2.2.2)
def cutA (l : List NodeD) (kid : Int) : List NodeD :=
  if placeT l kid ≥ 0 then l.set (nd l kid).up.toNat (setKids (nd l (nd l kid).up) ((nd l (nd l kid).up).kids.take (placeT l kid).toNat ++ (nd l (nd l kid).up).kids.drop (placeT l kid + 1).toNat)) else l
def cutT (l : List NodeD) (kid : Int) : List NodeD :=
  if kid ≠ 0 ∧ isT l kid = true then (cutA l kid).set kid.toNat (setUp (nd (cutA l kid) kid) (-1)) else cutA l kid
theorem isT_set {l : List NodeD} {i : Nat} {n : NodeD} {k : Int} : isT (l.set i n) k = isT l k := by simp [isT]
theorem ix_lt {l : List Int} {w : Int} (h : ixOf l w ≥ 0) : ixOf l w < l.length := by
  unfold ixOf at h ⊢
  split at h
  · rename_i hc
    rw [if_pos hc]
    have := List.idxOf_lt_length_of_mem (a := w) (l := l) (by simpa using hc)
    omega
  · omega
theorem place_nonneg {l : List NodeD} {kid : Int} (h : placeT l kid ≥ 0) : isT l kid = true ∧ isT l (nd l kid).up = true ∧ placeT l kid < (nd l (nd l kid).up).kids.length := by
  unfold placeT at h ⊢
  split at h
  · rename_i hc
    rw [if_pos hc]
    simp only [Bool.and_eq_true] at hc
    exact ⟨hc.1, hc.2, ix_lt h⟩
  · omega
theorem small_at {l : List NodeD} (h : smallT l = true) (i : Int) (hi : isT l i = true) : (nd l i).2.2.2.1.length ≤ 1000 ∧ (nd l i).kids.length ≤ 1000 := by
  simp only [smallT, Bool.and_eq_true, List.all_eq_true, decide_eq_true_eq] at h
  obtain ⟨h1, h2⟩ := isT_iff.1 hi
  refine h.2 (nd l i) ?_
  have : i.toNat < l.length := by omega
  simp [nd, List.getD, List.getElem?_eq_getElem this]
theorem small_len {l : List NodeD} (h : smallT l = true) : l.length ≤ 1000 := by
  simp only [smallT, Bool.and_eq_true, decide_eq_true_eq] at h
  exact h.1
instance f15 (l : List NodeD) (kid : Int) : FnM BB 72 [.loc 0 0, .int .i64 kid] [(0, .box [.own 1]), (1, .own nodeTy l)] (smallT l = true)
      (.tup []) [(0, .box [.own 1]), (1, .own nodeTy (cutT l kid))] := by
  refine FnM.intro (N := 54) [0, 1, 4, 5, 12, 46] [(2, [0, 0, 0, 1, 0, 0, 0, 1, 0, 1, 1, 1, 3, 3])] 2 Try.call72 Try.func72 rfl rfl (by kernel_rfl) (fun hpre => ?_)
  have H : placeT l kid ≥ 0 → (0 ≤ kid ∧ kid < l.length) ∧ (0 ≤ (nd l kid).up ∧ (nd l kid).up < l.length) ∧ placeT l kid < (nd l (nd l kid).up).kids.length ∧ (nd l (nd l kid).up).kids.length ≤ 1000 := by
    intro h
    obtain ⟨h1, h2, h3⟩ := place_nonneg h
    exact ⟨isT_iff.1 h1, isT_iff.1 h2, h3, (small_at hpre _ h2).2⟩
  by_cases h0 : placeT l kid ≥ 0
  · obtain ⟨f1, f2, f3, f4⟩ := H h0
    clear H
    repeat' ((conv => whnf); first | (with_reducible rfl) | exact True.intro | (with_reducible exact absTF) | (with_reducible exact absFT) | intro _ | refine And.intro ?_ ?_ | refine Fin.mk ?_ | refine CallG.plain rfl ?_ ?_ | refine CallG.mk rfl ?_ ?_ | refine CallG.nwl rfl ?_ ?_ | refine CallG.nw ?_ ?_ | refine CallF.nwl rfl ?_ ?_ | refine CallF.nw ?_ ?_ | (refine CallS.q ?_; (conv => whnf); first | refine CallG.plain rfl ?_ ?_ | refine CallG.mk rfl ?_ ?_) | (refine CallS.m ?_; (conv => whnf); refine CallM.mk rfl ?_ ?_) | (refine CallS.h ?_; (conv => whnf); refine CallM.mk rfl ?_ ?_) | (refine CallS.b ?_; (conv => whnf); refine CallM.mk rfl ?_ ?_) | (refine CallS.z ?_; (conv => whnf); refine CallM.mk rfl ?_ ?_))
    all_goals (try (conv => whnf))
    all_goals (try (exact Ob.mk (u8_bnd _)))
    all_goals (try (refine Ob.mk ?_; first | exact True.intro | assumption | omega | (try simp only [decide_eq_true_eq, decide_eq_false_iff_not, beq_iff_eq, beq_eq_false_iff_ne, bne_iff_ne, bne_eq_false_iff_eq, ne_eq, Bool.and_eq_true, Bool.or_eq_true, Bool.not_eq_true, Bool.not_eq_false, Bool.not_eq_true', Bool.not_eq_false', Int.toNat_natCast, Int.not_lt, Int.not_le, UInt8.ofNat_toNat, cast_eq] at *; omega)))
    all_goals (try ((show (_:Int) = _); omega))
    all_goals (try (show tupSV _ = _; with_unfolding_all rfl))
    all_goals (try ((show (_ : Nat) ≤ _); (simp <;> omega)))
    all_goals (try ((show (_ : Nat) ≤ _ ∧ (_ : Nat) ≤ _); (simp <;> omega)))
    all_goals (try ((show (_ : Int) ≤ _ ∧ (_ : Int) ≤ _ ∧ (_ : Int) ≤ _ ∧ (_ : Int) ≤ _); (simp <;> omega)))
    all_goals (first
      | (show (nd l kid).up.toNat < _; omega)
      | exact Nat.le_trans f4 (by omega)
      | (show 0 ≤ placeT l kid ∧ _; refine ⟨h0, by omega, ?_⟩; show placeT l kid + 1 ≤ ((nd l (nd l kid).up).kids.length : Int); omega)
      | exact isT_iff.1 ((Bool.and_eq_true_iff.1 ‹(_ && _) = true›).2)
      | skip)
    · rename_i h
      have h := Bool.and_eq_true_iff.1 h
      have h2 : isT (cutA l kid) kid = true := by rw [cutA, if_pos h0]; exact h.2
      have h3 : isT l kid = true := by have := h.2; rw [isT_set] at this; exact this
      rw [cutT, if_pos ⟨by simpa using h.1, h3⟩, cutA, if_pos h0]
      rfl
    · rename_i h
      have h1 : ¬ (kid ≠ 0 ∧ isT l kid = true) := fun hc => by
        rw [isT_set] at h
        simp [hc.1, hc.2] at h
      rw [cutT, if_neg h1, cutA, if_pos h0]
      rfl
    all_goals (exfalso; have := of_decide_eq_false ‹decide (placeT l kid ≥ 0) = false›; exact this h0)
  · have h1 : decide (placeT l kid ≥ 0) = false := decide_eq_false h0
    clear H
    repeat' ((conv => whnf); first | (with_reducible rfl) | exact True.intro | (with_reducible exact absTF) | (with_reducible exact absFT) | intro _ | refine And.intro ?_ ?_ | refine Fin.mk ?_ | refine CallG.plain rfl ?_ ?_ | refine CallG.mk rfl ?_ ?_ | refine CallG.nwl rfl ?_ ?_ | refine CallG.nw ?_ ?_ | refine CallF.nwl rfl ?_ ?_ | refine CallF.nw ?_ ?_ | (refine CallS.q ?_; (conv => whnf); first | refine CallG.plain rfl ?_ ?_ | refine CallG.mk rfl ?_ ?_) | (refine CallS.m ?_; (conv => whnf); refine CallM.mk rfl ?_ ?_) | (refine CallS.h ?_; (conv => whnf); refine CallM.mk rfl ?_ ?_) | (refine CallS.b ?_; (conv => whnf); refine CallM.mk rfl ?_ ?_) | (refine CallS.z ?_; (conv => whnf); refine CallM.mk rfl ?_ ?_))
    all_goals (try (conv => whnf))
    all_goals (try (exact Ob.mk (u8_bnd _)))
    all_goals (try (refine Ob.mk ?_; first | exact True.intro | assumption | omega | (try simp only [decide_eq_true_eq, decide_eq_false_iff_not, beq_iff_eq, beq_eq_false_iff_ne, bne_iff_ne, bne_eq_false_iff_eq, ne_eq, Bool.and_eq_true, Bool.or_eq_true, Bool.not_eq_true, Bool.not_eq_false, Bool.not_eq_true', Bool.not_eq_false', Int.toNat_natCast, Int.not_lt, Int.not_le, UInt8.ofNat_toNat, cast_eq] at *; omega)))
    all_goals (try ((show (_:Int) = _); omega))
    all_goals (try (show tupSV _ = _; with_unfolding_all rfl))
    all_goals (try ((show (_ : Nat) ≤ _); (simp <;> omega)))
    all_goals (try ((show (_ : Nat) ≤ _ ∧ (_ : Nat) ≤ _); (simp <;> omega)))
    all_goals (try ((show (_ : Int) ≤ _ ∧ (_ : Int) ≤ _ ∧ (_ : Int) ≤ _ ∧ (_ : Int) ≤ _); (simp <;> omega)))
    all_goals (first
      | (exfalso; exact h0 (of_decide_eq_true ‹decide (placeT l kid ≥ 0) = true›))
      | exact isT_iff.1 ((Bool.and_eq_true_iff.1 ‹(_ && _) = true›).2)
      | (have hh := isT_iff.1 ((Bool.and_eq_true_iff.1 ‹(kid != 0 && isT l kid) = true›).2); omega)
      | skip)
    · rename_i h
      have h := Bool.and_eq_true_iff.1 h
      rw [cutT, if_pos ⟨by simpa using h.1, h.2⟩, cutA, if_neg h0]
      rfl
    · rename_i h
      have h1 : ¬ (kid ≠ 0 ∧ isT l kid = true) := fun hc => by
        simp [hc.1, hc.2] at h
      rw [cutT, if_neg h1, cutA, if_neg h0]
def putT (l : List NodeD) (up at_ kid : Int) : List NodeD :=
  if (!isT l up || !isT l kid || kid == 0 || holdsT l kid up) = true then l else
  let c := cutT l kid
  let ks := (nd c up).kids
  let i := min (max at_ 0) (ks.length : Int)
  let c2 := c.set up.toNat (setKids (nd c up) (ks.take i.toNat ++ kid :: ks.drop i.toNat))
  c2.set kid.toNat (setUp (nd c2 kid) up)
theorem getD_set {l : List NodeD} {k i : Nat} {n : NodeD} : (l.set k n).getD i nodeTy.dflt = if k = i ∧ k < l.length then n else l.getD i nodeTy.dflt := by
  simp only [List.getD, List.getElem?_set]
  by_cases h : k = i
  · subst h
    by_cases h2 : k < l.length
    · simp [h2]
    · simp [h2]
  · simp [h]
/-- bounds on all that a tree holds -/
def smB (m : Nat) (l : List NodeD) : Prop := l.length ≤ m ∧ ∀ i, i < l.length → (l.getD i nodeTy.dflt).2.2.2.1.length ≤ m ∧ (l.getD i nodeTy.dflt).kids.length ≤ m
theorem smB_small {l : List NodeD} {m : Nat} (hm : m ≤ 1000) (h : smB m l) : smallT l = true := by
  simp only [smallT, Bool.and_eq_true, List.all_eq_true, decide_eq_true_eq]
  refine ⟨by have := h.1; omega, fun x hx => ?_⟩
  obtain ⟨i, hi, rfl⟩ := List.getElem_of_mem hx
  have := h.2 i hi
  simp [List.getD, List.getElem?_eq_getElem hi] at this
  exact ⟨by omega, by omega⟩
theorem smB_of {l : List NodeD} (h : smallT l = true) : smB 1000 l := by
  refine ⟨small_len h, fun i hi => ?_⟩
  have := small_at h i (isT_iff.2 ⟨by omega, by omega⟩)
  simpa [nd] using this
theorem smB_set {l : List NodeD} {m : Nat} (h : smB m l) {k : Nat} {n : NodeD} (hn : k < l.length → n.2.2.2.1.length ≤ m ∧ n.kids.length ≤ m) : smB m (l.set k n) := by
  refine ⟨by simpa using h.1, fun i hi => ?_⟩
  rw [getD_set]
  split
  · rename_i hc; exact hn hc.2
  · exact h.2 i (by simpa using hi)
theorem smB_mono {l : List NodeD} {m m' : Nat} (hm : m ≤ m') (h : smB m l) : smB m' l := ⟨Nat.le_trans h.1 hm, fun i hi => ⟨Nat.le_trans (h.2 i hi).1 hm, Nat.le_trans (h.2 i hi).2 hm⟩⟩
theorem cutA_len {l : List NodeD} {kid : Int} : (cutA l kid).length = l.length := by unfold cutA; split <;> simp
theorem cutT_len {l : List NodeD} {kid : Int} : (cutT l kid).length = l.length := by
  unfold cutT; split
  · rw [List.length_set, cutA_len]
  · exact cutA_len
theorem cutA_sm {l : List NodeD} {m : Nat} {kid : Int} (h : smB m l) : smB m (cutA l kid) := by
  unfold cutA
  split
  · refine smB_set h fun hk => ?_
    have := h.2 _ hk
    refine ⟨this.1, ?_⟩
    have e : (setKids (nd l (nd l kid).up) ((nd l (nd l kid).up).kids.take (placeT l kid).toNat ++ (nd l (nd l kid).up).kids.drop (placeT l kid + 1).toNat)).kids.length ≤ (nd l (nd l kid).up).kids.length := by
      show ((nd l (nd l kid).up).kids.take (placeT l kid).toNat ++ (nd l (nd l kid).up).kids.drop (placeT l kid + 1).toNat).length ≤ _
      simp only [List.length_append, List.length_take, List.length_drop]
      omega
    exact Nat.le_trans e this.2
  · exact h
theorem cutT_sm {l : List NodeD} {m : Nat} {kid : Int} (h : smB m l) : smB m (cutT l kid) := by
  unfold cutT
  split
  · refine smB_set (cutA_sm h) fun hk => ?_
    exact (cutA_sm h (kid := kid)).2 _ hk
  · exact cutA_sm h
theorem min_of (a b : Int) : (bif false then max (bif true then max a 0 else min a 0) b else min (bif true then max a 0 else min a 0) b) = min (max a 0) b := rfl
instance f13 (l : List NodeD) (up at_ kid : Int) : FnM BB 74 [.loc 0 0, .int .i64 up, .int .i64 at_, .int .i64 kid] [(0, .box [.own 1]), (1, .own nodeTy l)] (smallT l = true)
      (.tup []) [(0, .box [.own 1]), (1, .own nodeTy (putT l up at_ kid))] := by
  refine FnM.intro (N := 71) [0, 1, 2, 3, 8, 34] [(3, [0, 0, 0, 0, 1, 2, 0, 1, 0, 0, 0, 1, 1, 1, 0, 2, 3, 0, 0, 3])] 2 Try.call74 Try.func74 rfl rfl (by kernel_rfl) (fun hpre => ?_)
  have hsm := cutT_sm (kid := kid) (smB_of hpre)
  have hll := small_len hpre
  have hu : (!isT l up || !isT l kid || kid == 0 || holdsT l kid up) = false → (0 ≤ up ∧ up < (cutT l kid).length) ∧ (0 ≤ kid ∧ kid < (cutT l kid).length) ∧ ((cutT l kid).getD up.toNat nodeTy.dflt).2.2.2.2.2.2.length ≤ 1000 := by
    intro h
    simp only [Bool.or_eq_false_iff, Bool.not_eq_false'] at h
    have h1 := isT_iff.1 h.1.1.1
    have h2 := isT_iff.1 h.1.1.2
    rw [cutT_len]
    exact ⟨h1, h2, (hsm.2 up.toNat (by rw [cutT_len]; omega)).2⟩
  repeat' ((conv => whnf); first | (with_reducible rfl) | exact True.intro | (with_reducible exact absTF) | (with_reducible exact absFT) | intro _ | refine And.intro ?_ ?_ | refine Fin.mk ?_ | refine CallG.plain rfl ?_ ?_ | refine CallG.mk rfl ?_ ?_ | refine CallG.nwl rfl ?_ ?_ | refine CallG.nw ?_ ?_ | refine CallF.nwl rfl ?_ ?_ | refine CallF.nw ?_ ?_ | (refine CallS.q ?_; (conv => whnf); first | refine CallG.plain rfl ?_ ?_ | refine CallG.mk rfl ?_ ?_) | (refine CallS.m ?_; (conv => whnf); refine CallM.mk rfl ?_ ?_) | (refine CallS.h ?_; (conv => whnf); refine CallM.mk rfl ?_ ?_) | (refine CallS.b ?_; (conv => whnf); refine CallM.mk rfl ?_ ?_) | (refine CallS.z ?_; (conv => whnf); refine CallM.mk rfl ?_ ?_))
  all_goals (try (conv => whnf))
  all_goals (try (exact Ob.mk (u8_bnd _)))
  all_goals (try (refine Ob.mk ?_; first | exact True.intro | assumption | omega | (try simp only [decide_eq_true_eq, decide_eq_false_iff_not, beq_iff_eq, beq_eq_false_iff_ne, bne_iff_ne, bne_eq_false_iff_eq, ne_eq, Bool.and_eq_true, Bool.or_eq_true, Bool.not_eq_true, Bool.not_eq_false, Bool.not_eq_true', Bool.not_eq_false', Int.toNat_natCast, Int.not_lt, Int.not_le, UInt8.ofNat_toNat, cast_eq] at *; omega)))
  all_goals (try ((show (_:Int) = _); omega))
  all_goals (try (show tupSV _ = _; with_unfolding_all rfl))
  all_goals (try ((show (_ : Nat) ≤ _); (simp <;> omega)))
  all_goals (try ((show (_ : Nat) ≤ _ ∧ (_ : Nat) ≤ _); (simp <;> omega)))
  all_goals (try ((show (_ : Int) ≤ _ ∧ (_ : Int) ≤ _ ∧ (_ : Int) ≤ _ ∧ (_ : Int) ≤ _); (simp <;> omega)))
  all_goals (first
    | omega
    | (rename_i h; obtain ⟨g1, g2, g3⟩ := hu h; first
        | exact g1
        | exact g2
        | omega
        | exact Nat.le_trans g3 (by omega)
        | (rw [List.length_set]; first | exact g2 | omega)
        | (refine ⟨?_, ?_, Nat.le_trans g3 (by omega)⟩ <;> rw [min_of] <;> omega))
    | skip)
  · rename_i h; rw [putT, if_pos h]
  · rename_i h
    rw [putT, if_neg (by rw [h]; exact Bool.false_ne_true)]
    rfl
end Go.Vc

namespace Go.Vc
open Go.Proofs
set_option linter.unusedVariables false
set_option maxRecDepth 10000
set_option linter.unusedSimpArgs false
def rootN : NodeD := ((0 : Int), (0 : Int), ([] : List UInt8), ([] : List AttrD), ([] : List UInt8), (-1 : Int), ([] : List Int))
instance f18 : FnM BB 19 [] [] True (.agg [.own 0]) [(0, .own nodeTy [rootN])] := by
  refine FnM.intro (N := 4) [0] [] 1 Try.call19 Try.func19 rfl rfl (by kernel_rfl) (fun hpre => ?_)
  repeat' ((conv => whnf); first | (with_reducible rfl) | exact True.intro | (with_reducible exact absTF) | (with_reducible exact absFT) | intro _ | refine And.intro ?_ ?_ | refine Fin.mk ?_ | refine CallG.plain rfl ?_ ?_ | refine CallG.mk rfl ?_ ?_ | refine CallG.nwl rfl ?_ ?_ | refine CallG.nw ?_ ?_ | refine CallF.nwl rfl ?_ ?_ | refine CallF.nw ?_ ?_ | (refine CallS.q ?_; (conv => whnf); first | refine CallG.plain rfl ?_ ?_ | refine CallG.mk rfl ?_ ?_) | (refine CallS.m ?_; (conv => whnf); refine CallM.mk rfl ?_ ?_) | (refine CallS.h ?_; (conv => whnf); refine CallM.mk rfl ?_ ?_) | (refine CallS.b ?_; (conv => whnf); refine CallM.mk rfl ?_ ?_) | (refine CallS.z ?_; (conv => whnf); refine CallM.mk rfl ?_ ?_))
  all_goals (try (conv => whnf))
  all_goals (try (exact Ob.mk (u8_bnd _)))
  all_goals (try (refine Ob.mk ?_; first | exact True.intro | assumption | omega | (try simp only [decide_eq_true_eq, decide_eq_false_iff_not, beq_iff_eq, beq_eq_false_iff_ne, bne_iff_ne, bne_eq_false_iff_eq, ne_eq, Bool.and_eq_true, Bool.or_eq_true, Bool.not_eq_true, Bool.not_eq_false, Bool.not_eq_true', Bool.not_eq_false', Int.toNat_natCast, Int.not_lt, Int.not_le, UInt8.ofNat_toNat, cast_eq] at *; omega)))
  all_goals (try ((show (_:Int) = _); omega))
  all_goals (try (show tupSV _ = _; with_unfolding_all rfl))
  all_goals (try ((show (_ : Nat) ≤ _); (simp <;> omega)))
  all_goals (try ((show (_ : Nat) ≤ _ ∧ (_ : Nat) ≤ _); (simp <;> omega)))
  all_goals (try ((show (_ : Int) ≤ _ ∧ (_ : Int) ≤ _ ∧ (_ : Int) ≤ _ ∧ (_ : Int) ≤ _); (simp <;> omega)))
  all_goals rfl
theorem FnM.wk {B : Base} {f : FuncId} {args args' : List SV} {Φ : Phi} {pre : Prop} {res : SV} {Φ' : Phi} (F : FnM B f args Φ pre res Φ') (h : ∀ r β vs, RelL r β args' vs → RelL r β args vs) : FnM B f args' Φ pre res Φ' :=
  ⟨F.call, fun hp r β w vs hG m hl => F.ok hp r β w vs hG m (h r β vs hl)⟩
theorem nils_rd {r β v} {τ : Ty} (h : Rel r β .nils v) : Rel r β (.rd τ []) v := by cases h; exact .rd .litsE
instance f12n (l : List NodeD) (k s : Int) (nm : List UInt8) (d : List UInt8) (up : Int) :
    FnM BB 70 [.loc 0 0, .agg [.int .i64 k, .int .i64 s, .str nm, .nils, .str d, .int .i64 up, .nils]] [(0, .box [.own 1]), (1, .own nodeTy l)] (l.length ≤ 100000 ∧ ([] : List AttrD).length ≤ 100000)
      (.int .i64 l.length) [(0, .box [.own 1]), (1, .own nodeTy (addT l (k, s, nm, [], d, up, [])))] :=
  FnM.wk (f12 l k s nm [] d up []) fun r β vs h => by
    refine ⟨h.1, fun i sv v h1 h2 => ?_⟩
    match i, h1 with
    | 0, h1 => cases h1; exact h.2 0 _ v rfl h2
    | 1, h1 =>
      cases h1
      obtain ⟨cs, rfl, hc⟩ := (h.2 1 _ v rfl h2).aggL_inv
      refine .aggL ⟨hc.1, fun j sv u q1 q2 => ?_⟩
      match j, q1 with
      | 0, q1 => cases q1; exact hc.2 0 _ u rfl q2
      | 1, q1 => cases q1; exact hc.2 1 _ u rfl q2
      | 2, q1 => cases q1; exact hc.2 2 _ u rfl q2
      | 3, q1 => cases q1; exact nils_rd (hc.2 3 _ u rfl q2)
      | 4, q1 => cases q1; exact hc.2 4 _ u rfl q2
      | 5, q1 => cases q1; exact hc.2 5 _ u rfl q2
      | 6, q1 => cases q1; exact nils_rd (hc.2 6 _ u rfl q2)
end Go.Vc

namespace Go.Vc
open Go.Proofs
set_option linter.unusedVariables false
set_option maxRecDepth 10000
set_option linter.unusedSimpArgs false
instance a45 (l : List Int) : Fn BB 105 [.rd intTy l] True (.fn 145 [.el (.sl intTy) [l] 0 0]) := by
  refine Fn.intro (N := 4) [0, 1, 2] [] Try.call105 Try.func105 rfl rfl (by kernel_rfl) (fun hpre => ?_)
  repeat' ((conv => whnf); first | (with_reducible rfl) | exact True.intro | (with_reducible exact absTF) | (with_reducible exact absFT) | intro _ | refine And.intro ?_ ?_ | refine Fin.mk ?_ | refine CallG.plain rfl ?_ ?_ | refine CallG.mk rfl ?_ ?_ | refine CallG.nwl rfl ?_ ?_ | refine CallG.nw ?_ ?_ | refine CallF.nwl rfl ?_ ?_ | refine CallF.nw ?_ ?_ | (refine CallS.q ?_; (conv => whnf); first | refine CallG.plain rfl ?_ ?_ | refine CallG.mk rfl ?_ ?_) | (refine CallS.m ?_; (conv => whnf); refine CallM.mk rfl ?_ ?_) | (refine CallS.h ?_; (conv => whnf); refine CallM.mk rfl ?_ ?_) | (refine CallS.b ?_; (conv => whnf); refine CallM.mk rfl ?_ ?_) | (refine CallS.z ?_; (conv => whnf); refine CallM.mk rfl ?_ ?_))
  all_goals (try (conv => whnf))
  all_goals (try (exact Ob.mk (u8_bnd _)))
  all_goals (try (refine Ob.mk ?_; first | exact True.intro | assumption | omega | (try simp only [decide_eq_true_eq, decide_eq_false_iff_not, beq_iff_eq, beq_eq_false_iff_ne, bne_iff_ne, bne_eq_false_iff_eq, ne_eq, Bool.and_eq_true, Bool.or_eq_true, Bool.not_eq_true, Bool.not_eq_false, Bool.not_eq_true', Bool.not_eq_false', Int.toNat_natCast, Int.not_lt, Int.not_le, UInt8.ofNat_toNat, cast_eq] at *; omega)))
  all_goals (try ((show (_:Int) = _); omega))
  all_goals (try (show tupSV _ = _; with_unfolding_all rfl))
  all_goals (try ((show (_ : Nat) ≤ _); (simp <;> omega)))
  all_goals (try ((show (_ : Nat) ≤ _ ∧ (_ : Nat) ≤ _); (simp <;> omega)))
  all_goals (try ((show (_ : Int) ≤ _ ∧ (_ : Int) ≤ _ ∧ (_ : Int) ≤ _ ∧ (_ : Int) ≤ _); (simp <;> omega)))
  all_goals rfl
instance a73 (l : List Int) : It BB 145 [.el (.sl intTy) [l] 0 0] True l.length (fun i => [.int .i64 ((l.length : Int) - 1 - i), .int .i64 (l.getD (l.length - 1 - i) 0)]) := by
  refine It.intro (N := 19) [0, 1, 3, 8, 18] [] 0 Try.call145 Try.func145 rfl rfl (by kernel_rfl) (fun hpre yl => ?_)
  repeat' ((conv => whnf); first | (with_reducible rfl) | exact True.intro | (with_reducible exact absTF) | (with_reducible exact absFT) | intro _ | refine And.intro ?_ ?_ | refine Fin.mk ?_ | refine CallG.plain rfl ?_ ?_ | refine CallG.mk rfl ?_ ?_ | refine CallG.nwl rfl ?_ ?_ | refine CallG.nw ?_ ?_ | refine CallF.nwl rfl ?_ ?_ | refine CallF.nw ?_ ?_ | (refine CallS.q ?_; (conv => whnf); first | refine CallG.plain rfl ?_ ?_ | refine CallG.mk rfl ?_ ?_) | (refine CallS.m ?_; (conv => whnf); refine CallM.mk rfl ?_ ?_) | (refine CallS.h ?_; (conv => whnf); refine CallM.mk rfl ?_ ?_) | (refine CallS.b ?_; (conv => whnf); refine CallM.mk rfl ?_ ?_) | (refine CallS.z ?_; (conv => whnf); refine CallM.mk rfl ?_ ?_))
  all_goals (try (conv => whnf))
  all_goals simp only [List.getD_cons_zero] at *
  all_goals (try (exact Ob.mk (u8_bnd _)))
  all_goals (try (refine Ob.mk ?_; first | exact True.intro | assumption | omega | (try simp only [decide_eq_true_eq, decide_eq_false_iff_not, beq_iff_eq, beq_eq_false_iff_ne, bne_iff_ne, bne_eq_false_iff_eq, ne_eq, Bool.and_eq_true, Bool.or_eq_true, Bool.not_eq_true, Bool.not_eq_false, Bool.not_eq_true', Bool.not_eq_false', Int.toNat_natCast, Int.not_lt, Int.not_le, UInt8.ofNat_toNat, cast_eq] at *; omega)))
  all_goals (try ((show (_:Int) = _); omega))
  all_goals (try (show tupSV _ = _; with_unfolding_all rfl))
  all_goals (try ((show (_ : Nat) ≤ _); (simp <;> omega)))
  all_goals (try ((show (_ : Nat) ≤ _ ∧ (_ : Nat) ≤ _); (simp <;> omega)))
  all_goals (try ((show (_ : Int) ≤ _ ∧ (_ : Int) ≤ _ ∧ (_ : Int) ≤ _ ∧ (_ : Int) ≤ _); (simp <;> omega)))
  refine LoopStop.mk (α := Nat) (fun i => [(3, .int .i64 ((l.length : Int) - 1 - i))]) (fun i => [(GID, .gh (some i))]) 20 (fun i => i ≤ l.length) (fun i => l.length - i) 0 (by simp) ?_ (fun i hi => ?_)
  · repeat' ((conv => whnf); first | (with_reducible rfl) | exact True.intro | (with_reducible exact absTF) | (with_reducible exact absFT) | intro _ | refine And.intro ?_ ?_ | refine Fin.mk ?_ | refine CallG.plain rfl ?_ ?_ | refine CallG.mk rfl ?_ ?_ | refine CallG.nwl rfl ?_ ?_ | refine CallG.nw ?_ ?_ | refine CallF.nwl rfl ?_ ?_ | refine CallF.nw ?_ ?_ | (refine CallS.q ?_; (conv => whnf); first | refine CallG.plain rfl ?_ ?_ | refine CallG.mk rfl ?_ ?_) | (refine CallS.m ?_; (conv => whnf); refine CallM.mk rfl ?_ ?_) | (refine CallS.h ?_; (conv => whnf); refine CallM.mk rfl ?_ ?_) | (refine CallS.b ?_; (conv => whnf); refine CallM.mk rfl ?_ ?_) | (refine CallS.z ?_; (conv => whnf); refine CallM.mk rfl ?_ ?_))
    all_goals (try (conv => whnf))
    all_goals (try (exact Ob.mk (u8_bnd _)))
    all_goals (try (refine Ob.mk ?_; first | exact True.intro | assumption | omega | (try simp only [decide_eq_true_eq, decide_eq_false_iff_not, beq_iff_eq, beq_eq_false_iff_ne, bne_iff_ne, bne_eq_false_iff_eq, ne_eq, Bool.and_eq_true, Bool.or_eq_true, Bool.not_eq_true, Bool.not_eq_false, Bool.not_eq_true', Bool.not_eq_false', Int.toNat_natCast, Int.not_lt, Int.not_le, UInt8.ofNat_toNat, cast_eq] at *; omega)))
    all_goals (try ((show (_:Int) = _); omega))
    all_goals (try (show tupSV _ = _; with_unfolding_all rfl))
    all_goals (try ((show (_ : Nat) ≤ _); (simp <;> omega)))
    all_goals (try ((show (_ : Nat) ≤ _ ∧ (_ : Nat) ≤ _); (simp <;> omega)))
    all_goals (try ((show (_ : Int) ≤ _ ∧ (_ : Int) ≤ _ ∧ (_ : Int) ≤ _ ∧ (_ : Int) ≤ _); (simp <;> omega)))
    all_goals (try (first | (exact rfl) | (rename_i hx; exact absFT hx) | (rename_i hx; exact absTF hx)))
  · repeat' ((conv => whnf); first | (with_reducible rfl) | exact True.intro | (with_reducible exact absTF) | (with_reducible exact absFT) | intro _ | refine And.intro ?_ ?_ | refine Fin.mk ?_ | refine CallG.plain rfl ?_ ?_ | refine CallG.mk rfl ?_ ?_ | refine CallG.nwl rfl ?_ ?_ | refine CallG.nw ?_ ?_ | refine CallF.nwl rfl ?_ ?_ | refine CallF.nw ?_ ?_ | (refine CallS.q ?_; (conv => whnf); first | refine CallG.plain rfl ?_ ?_ | refine CallG.mk rfl ?_ ?_) | (refine CallS.m ?_; (conv => whnf); refine CallM.mk rfl ?_ ?_) | (refine CallS.h ?_; (conv => whnf); refine CallM.mk rfl ?_ ?_) | (refine CallS.b ?_; (conv => whnf); refine CallM.mk rfl ?_ ?_) | (refine CallS.z ?_; (conv => whnf); refine CallM.mk rfl ?_ ?_))
    all_goals (try (conv => whnf))
    all_goals (try simp only [List.getD_cons_zero] at *)
    all_goals (try (exact Ob.mk (u8_bnd _)))
    all_goals (try (refine Ob.mk ?_; first | exact True.intro | assumption | omega | (try simp only [decide_eq_true_eq, decide_eq_false_iff_not, beq_iff_eq, beq_eq_false_iff_ne, bne_iff_ne, bne_eq_false_iff_eq, ne_eq, Bool.and_eq_true, Bool.or_eq_true, Bool.not_eq_true, Bool.not_eq_false, Bool.not_eq_true', Bool.not_eq_false', Int.toNat_natCast, Int.not_lt, Int.not_le, UInt8.ofNat_toNat, cast_eq] at *; omega)))
    all_goals (try ((show (_:Int) = _); omega))
    all_goals (try (show tupSV _ = _; with_unfolding_all rfl))
    all_goals (try ((show (_ : Nat) ≤ _); (simp <;> omega)))
    all_goals (try ((show (_ : Nat) ≤ _ ∧ (_ : Nat) ≤ _); (simp <;> omega)))
    all_goals (try ((show (_ : Int) ≤ _ ∧ (_ : Int) ≤ _ ∧ (_ : Int) ≤ _ ∧ (_ : Int) ≤ _); (simp <;> omega)))
    all_goals (try (first | (exact rfl) | (rename_i hx; exact absFT hx) | (rename_i hx; exact absTF hx)))
    · (try simp only [decide_eq_true_eq, decide_eq_false_iff_not, beq_iff_eq, beq_eq_false_iff_ne, bne_iff_ne, bne_eq_false_iff_eq, ne_eq, Bool.and_eq_true, Bool.or_eq_true, Bool.not_eq_true, Bool.not_eq_false, Bool.not_eq_true', Bool.not_eq_false', Int.toNat_natCast, Int.not_lt, Int.not_le, UInt8.ofNat_toNat, cast_eq] at *); rw [show ((l.length : Int) - 1 - i).toNat = l.length - 1 - i by omega]; rfl
    · refine Rnd.mk ⟨i + 1, (by (try simp only [decide_eq_true_eq, decide_eq_false_iff_not, beq_iff_eq, beq_eq_false_iff_ne, bne_iff_ne, bne_eq_false_iff_eq, ne_eq, Bool.and_eq_true, Bool.or_eq_true, Bool.not_eq_true, Bool.not_eq_false, Bool.not_eq_true', Bool.not_eq_false', Int.toNat_natCast, Int.not_lt, Int.not_le, UInt8.ofNat_toNat, cast_eq] at *); omega), (by (try simp only [decide_eq_true_eq, decide_eq_false_iff_not, beq_iff_eq, beq_eq_false_iff_ne, bne_iff_ne, bne_eq_false_iff_eq, ne_eq, Bool.and_eq_true, Bool.or_eq_true, Bool.not_eq_true, Bool.not_eq_false, Bool.not_eq_true', Bool.not_eq_false', Int.toNat_natCast, Int.not_lt, Int.not_le, UInt8.ofNat_toNat, cast_eq] at *); omega), ?_, ?_, ?_⟩
      repeat' ((conv => whnf); first | (with_reducible rfl) | exact True.intro | (with_reducible exact absTF) | (with_reducible exact absFT) | intro _ | refine And.intro ?_ ?_ | refine Fin.mk ?_ | refine CallG.plain rfl ?_ ?_ | refine CallG.mk rfl ?_ ?_ | refine CallG.nwl rfl ?_ ?_ | refine CallG.nw ?_ ?_ | refine CallF.nwl rfl ?_ ?_ | refine CallF.nw ?_ ?_ | (refine CallS.q ?_; (conv => whnf); first | refine CallG.plain rfl ?_ ?_ | refine CallG.mk rfl ?_ ?_) | (refine CallS.m ?_; (conv => whnf); refine CallM.mk rfl ?_ ?_) | (refine CallS.h ?_; (conv => whnf); refine CallM.mk rfl ?_ ?_) | (refine CallS.b ?_; (conv => whnf); refine CallM.mk rfl ?_ ?_) | (refine CallS.z ?_; (conv => whnf); refine CallM.mk rfl ?_ ?_))
      all_goals (try (conv => whnf))
      all_goals (try (exact Ob.mk (u8_bnd _)))
      all_goals (try (refine Ob.mk ?_; first | exact True.intro | assumption | omega | (try simp only [decide_eq_true_eq, decide_eq_false_iff_not, beq_iff_eq, beq_eq_false_iff_ne, bne_iff_ne, bne_eq_false_iff_eq, ne_eq, Bool.and_eq_true, Bool.or_eq_true, Bool.not_eq_true, Bool.not_eq_false, Bool.not_eq_true', Bool.not_eq_false', Int.toNat_natCast, Int.not_lt, Int.not_le, UInt8.ofNat_toNat, cast_eq] at *; omega)))
      all_goals (try ((show (_:Int) = _); omega))
      all_goals (try (show tupSV _ = _; with_unfolding_all rfl))
      all_goals (try ((show (_ : Nat) ≤ _); (simp <;> omega)))
      all_goals (try ((show (_ : Nat) ≤ _ ∧ (_ : Nat) ≤ _); (simp <;> omega)))
      all_goals (try ((show (_ : Int) ≤ _ ∧ (_ : Int) ≤ _ ∧ (_ : Int) ≤ _ ∧ (_ : Int) ≤ _); (simp <;> omega)))
def endF (l : List Int) : Nat → Nat
  | 0 => 0
  | k + 1 => bif l.getD k 0 == -1 then k + 1 else endF l k
def endT (l : List Int) : Nat := endF l l.length
def nodeN (l : List NodeD) (i : Int) : NodeD := bif isT l i then l.getD i.toNat nodeTy.dflt else nodeTy.dflt
theorem nodeN_in {l : List NodeD} {i : Int} (h : isT l i = true) : nodeN l i = l.getD i.toNat nodeTy.dflt := by rw [nodeN, h]; rfl
theorem nodeN_out {l : List NodeD} {i : Int} (h : isT l i = false) : nodeN l i = nodeTy.dflt := by rw [nodeN, h]; rfl
end Go.Vc

namespace Go.Vc.W
open Go.Proofs
set_option linter.unusedVariables false
def isSp (c : Int) : Bool := c == 9 || c == 10 || c == 12 || c == 13 || c == 32
set_option maxRecDepth 10000
set_option linter.unusedSimpArgs false
instance f31 (c : Int) : Fn BB 140 [.int .u8 c] True (.bool (isSp c)) := by
  refine Fn.intro (N := 10) [0, 2, 3, 4] [] Try.call140 Try.func140 rfl rfl (by kernel_rfl) (fun hpre => ?_)
  repeat' ((conv => whnf); first | (with_reducible rfl) | exact True.intro | (with_reducible exact absTF) | (with_reducible exact absFT) | intro _ | refine And.intro ?_ ?_ | refine Fin.mk ?_ | refine CallG.plain rfl ?_ ?_ | refine CallG.mk rfl ?_ ?_ | refine CallG.nwl rfl ?_ ?_ | refine CallG.nw ?_ ?_ | refine CallF.nwl rfl ?_ ?_ | refine CallF.nw ?_ ?_ | (refine CallS.q ?_; (conv => whnf); first | refine CallG.plain rfl ?_ ?_ | refine CallG.mk rfl ?_ ?_) | (refine CallS.m ?_; (conv => whnf); refine CallM.mk rfl ?_ ?_) | (refine CallS.h ?_; (conv => whnf); refine CallM.mk rfl ?_ ?_) | (refine CallS.b ?_; (conv => whnf); refine CallM.mk rfl ?_ ?_) | (refine CallS.z ?_; (conv => whnf); refine CallM.mk rfl ?_ ?_))
  all_goals (try (conv => whnf))
  all_goals (simp_all [isSp]; done)
instance f40 (c : Int) : Fn BB 168 [.int .u8 c] True (.bool (isSp c)) := by
  refine Fn.intro (N := 21) [0, 2] [] Try.call168 Try.func168 rfl rfl (by kernel_rfl) (fun hpre => ?_)
  repeat' ((conv => whnf); first | (with_reducible rfl) | exact True.intro | (with_reducible exact absTF) | (with_reducible exact absFT) | intro _ | refine And.intro ?_ ?_ | refine Fin.mk ?_ | refine CallG.plain rfl ?_ ?_ | refine CallG.mk rfl ?_ ?_ | refine CallG.nwl rfl ?_ ?_ | refine CallG.nw ?_ ?_ | refine CallF.nwl rfl ?_ ?_ | refine CallF.nw ?_ ?_ | (refine CallS.q ?_; (conv => whnf); first | refine CallG.plain rfl ?_ ?_ | refine CallG.mk rfl ?_ ?_) | (refine CallS.m ?_; (conv => whnf); refine CallM.mk rfl ?_ ?_) | (refine CallS.h ?_; (conv => whnf); refine CallM.mk rfl ?_ ?_) | (refine CallS.b ?_; (conv => whnf); refine CallM.mk rfl ?_ ?_) | (refine CallS.z ?_; (conv => whnf); refine CallM.mk rfl ?_ ?_))
  all_goals (try (conv => whnf))
  all_goals (simp_all [isSp]; done)

theorem take_snoc {α : Type} (l : List α) (i : Nat) (d : α) (h : i < l.length) : l.take (i + 1) = l.take i ++ [l.getD i d] := by
  rw [List.take_succ_eq_append_getElem h]; simp [List.getD, List.getElem?_eq_getElem h]

theorem take_has (l : List (List UInt8)) (i : Nat) (w : List UInt8) (h : i < l.length) : (l.take (i+1)).contains w = ((l.take i).contains w || (l.getD i [] == w)) := by
  rw [take_snoc l i [] h]
  simp only [List.contains_eq_any_beq, List.any_append, List.any_cons, List.any_nil, Bool.or_false]
  congr 1
  exact Bool.beq_comm

/-- Has -/
instance f34 (l : List (List UInt8)) (w : List UInt8) : Fn BB 143 [.rd .str l, .str w] True (.bool (l.contains w)) := by
  refine Fn.intro (N := 18) [0, 1, 4, 5, 9, 17] [] Try.call143 Try.func143 rfl rfl (by kernel_rfl) (fun hpre => ?_)
  (conv => whnf)
  refine LoopStop.mk (α := Nat) (fun i => [(5, .int .i64 i)]) (fun _ => []) 0 (fun i => i ≤ l.length ∧ (l.take i).contains w = false) (fun i => l.length - i) 0 (by simp) ?_ (fun i hi => ?_)
  · repeat' ((conv => whnf); first | (with_reducible rfl) | exact True.intro | (with_reducible exact absTF) | (with_reducible exact absFT) | intro _ | refine And.intro ?_ ?_ | refine Fin.mk ?_ | refine CallG.plain rfl ?_ ?_ | refine CallG.mk rfl ?_ ?_ | refine CallG.nwl rfl ?_ ?_ | refine CallG.nw ?_ ?_ | refine CallF.nwl rfl ?_ ?_ | refine CallF.nw ?_ ?_ | (refine CallS.q ?_; (conv => whnf); first | refine CallG.plain rfl ?_ ?_ | refine CallG.mk rfl ?_ ?_) | (refine CallS.m ?_; (conv => whnf); refine CallM.mk rfl ?_ ?_) | (refine CallS.h ?_; (conv => whnf); refine CallM.mk rfl ?_ ?_) | (refine CallS.b ?_; (conv => whnf); refine CallM.mk rfl ?_ ?_) | (refine CallS.z ?_; (conv => whnf); refine CallM.mk rfl ?_ ?_))
    all_goals (try (conv => whnf))
    all_goals (try rfl)
  · repeat' ((conv => whnf); first | (with_reducible rfl) | exact True.intro | (with_reducible exact absTF) | (with_reducible exact absFT) | intro _ | refine And.intro ?_ ?_ | refine Fin.mk ?_ | refine CallG.plain rfl ?_ ?_ | refine CallG.mk rfl ?_ ?_ | refine CallG.nwl rfl ?_ ?_ | refine CallG.nw ?_ ?_ | refine CallF.nwl rfl ?_ ?_ | refine CallF.nw ?_ ?_ | (refine CallS.q ?_; (conv => whnf); first | refine CallG.plain rfl ?_ ?_ | refine CallG.mk rfl ?_ ?_) | (refine CallS.m ?_; (conv => whnf); refine CallM.mk rfl ?_ ?_) | (refine CallS.h ?_; (conv => whnf); refine CallM.mk rfl ?_ ?_) | (refine CallS.b ?_; (conv => whnf); refine CallM.mk rfl ?_ ?_) | (refine CallS.z ?_; (conv => whnf); refine CallM.mk rfl ?_ ?_))
    all_goals (try (conv => whnf))
    all_goals (try (exact Ob.mk (u8_bnd _)))
    all_goals (try (refine Ob.mk ?_; first | exact True.intro | assumption | omega | (try simp only [decide_eq_true_eq, decide_eq_false_iff_not, beq_iff_eq, beq_eq_false_iff_ne, bne_iff_ne, bne_eq_false_iff_eq, ne_eq, Bool.and_eq_true, Bool.or_eq_true, Bool.not_eq_true, Bool.not_eq_false, Bool.not_eq_true', Bool.not_eq_false', Int.toNat_natCast, Int.not_lt, Int.not_le, UInt8.ofNat_toNat, cast_eq] at *; omega)))
    all_goals (try ((show (_:Int) = _); omega))
    all_goals (try (show tupSV _ = _; with_unfolding_all rfl))
    all_goals (try ((show (_ : Nat) ≤ _); (simp <;> omega)))
    all_goals (try ((show (_ : Nat) ≤ _ ∧ (_ : Nat) ≤ _); (simp <;> omega)))
    all_goals (try ((show (_ : Int) ≤ _ ∧ (_ : Int) ≤ _ ∧ (_ : Int) ≤ _ ∧ (_ : Int) ≤ _); (simp <;> omega)))
    all_goals (try simp only [decide_eq_true_eq, decide_eq_false_iff_not, beq_iff_eq, beq_eq_false_iff_ne, bne_iff_ne, bne_eq_false_iff_eq, ne_eq, Bool.and_eq_true, Bool.or_eq_true, Bool.not_eq_true, Bool.not_eq_false, Bool.not_eq_true', Bool.not_eq_false', Int.toNat_natCast, Int.not_lt, Int.not_le, UInt8.ofNat_toNat, cast_eq] at *)
    · rename_i h1 h2 h3
      have h4 : i < l.length := by omega
      rw [← h3]; simp [List.getD, List.getElem?_eq_getElem h4]
    · rename_i h1 h2 h3
      have h4 : i < l.length := by omega
      refine Rnd.mk ⟨i + 1, ?_, ?_, ?_⟩
      · refine ⟨by omega, ?_⟩
        rw [take_has l i w h4, hi.2, Bool.false_or]; exact beq_eq_false_iff_ne.mpr h3
      · omega
      · repeat' ((conv => whnf); first | (with_reducible rfl) | exact True.intro | (with_reducible exact absTF) | (with_reducible exact absFT) | intro _ | refine And.intro ?_ ?_ | refine Fin.mk ?_ | refine CallG.plain rfl ?_ ?_ | refine CallG.mk rfl ?_ ?_ | refine CallG.nwl rfl ?_ ?_ | refine CallG.nw ?_ ?_ | refine CallF.nwl rfl ?_ ?_ | refine CallF.nw ?_ ?_ | (refine CallS.q ?_; (conv => whnf); first | refine CallG.plain rfl ?_ ?_ | refine CallG.mk rfl ?_ ?_) | (refine CallS.m ?_; (conv => whnf); refine CallM.mk rfl ?_ ?_) | (refine CallS.h ?_; (conv => whnf); refine CallM.mk rfl ?_ ?_) | (refine CallS.b ?_; (conv => whnf); refine CallM.mk rfl ?_ ?_) | (refine CallS.z ?_; (conv => whnf); refine CallM.mk rfl ?_ ?_))
        all_goals (try (conv => whnf))
        all_goals (try (exact Ob.mk (u8_bnd _)))
        all_goals (try (refine Ob.mk ?_; first | exact True.intro | assumption | omega | (try simp only [decide_eq_true_eq, decide_eq_false_iff_not, beq_iff_eq, beq_eq_false_iff_ne, bne_iff_ne, bne_eq_false_iff_eq, ne_eq, Bool.and_eq_true, Bool.or_eq_true, Bool.not_eq_true, Bool.not_eq_false, Bool.not_eq_true', Bool.not_eq_false', Int.toNat_natCast, Int.not_lt, Int.not_le, UInt8.ofNat_toNat, cast_eq] at *; omega)))
        all_goals (try ((show (_:Int) = _); omega))
        all_goals (try (show tupSV _ = _; with_unfolding_all rfl))
        all_goals (try ((show (_ : Nat) ≤ _); (simp <;> omega)))
        all_goals (try ((show (_ : Nat) ≤ _ ∧ (_ : Nat) ≤ _); (simp <;> omega)))
        all_goals (try ((show (_ : Int) ≤ _ ∧ (_ : Int) ≤ _ ∧ (_ : Int) ≤ _ ∧ (_ : Int) ≤ _); (simp <;> omega)))
    · rename_i h1 h2
      have : i = l.length := by omega
      subst this; simp_all
end Go.Vc.W

namespace Go.Vc.W
open Go.Proofs
set_option linter.unusedVariables false
set_option maxRecDepth 10000
set_option linter.unusedSimpArgs false

def spStep (p : List (List UInt8) × List UInt8) (c : UInt8) : List (List UInt8) × List UInt8 :=
  if isSp c.toNat then (if p.2 = [] then (p.1, []) else (p.1 ++ [p.2], [])) else (p.1, p.2 ++ [c])
def spFin (p : List (List UInt8) × List UInt8) : List (List UInt8) := if p.2 = [] then p.1 else p.1 ++ [p.2]
def spl (s : List UInt8) : List (List UInt8) := spFin (s.foldl spStep ([], []))
def spAt (s : List UInt8) (i : Nat) : List (List UInt8) × List UInt8 := (s.take i).foldl spStep ([], [])

theorem spAt_succ (s : List UInt8) (i : Nat) (h : i < s.length) : spAt s (i + 1) = spStep (spAt s i) (s.getD i 0) := by
  unfold spAt; rw [take_snoc s i 0 h, List.foldl_append]; rfl
theorem spAt_all (s : List UInt8) (i : Nat) (h : s.length ≤ i) : spAt s i = s.foldl spStep ([], []) := by
  unfold spAt; rw [List.take_of_length_le h]
theorem spStep_len (p : List (List UInt8) × List UInt8) (c : UInt8) : (spStep p c).1.length + (spStep p c).2.length ≤ p.1.length + p.2.length + 1 := by
  unfold spStep
  by_cases h : isSp c.toNat = true
  · by_cases h2 : p.2 = []
    · simp [h, h2]
    · have := List.length_pos_iff.mpr h2
      simp [h, h2]
  · simp [h]; omega
theorem spAt_len (s : List UInt8) (i : Nat) : (spAt s i).1.length + (spAt s i).2.length ≤ i := by
  induction i with
  | zero => simp [spAt]
  | succ i ih =>
    by_cases h : i < s.length
    · rw [spAt_succ s i h]; have := spStep_len (spAt s i) (s.getD i 0); omega
    · have e : spAt s (i+1) = spAt s i := by rw [spAt_all s (i+1) (by omega), spAt_all s i (by omega)]
      rw [e]; exact Nat.le_succ_of_le ih
theorem drop_take_one (s : List UInt8) (i : Nat) (h : i < s.length) : (s.take (i+1)).drop i = [s.getD i 0] := by
  rw [take_snoc s i 0 h, List.drop_append, List.length_take, Nat.min_eq_left (by omega)]; simp
theorem toNat_add_one (i : Nat) : ((i:Int)+1).toNat = i+1 := by omega
theorem spl_w {s : List UInt8} {i : Nat} (h : s.length ≤ i) (h2 : ¬ (spAt s i).2 = []) : spl s = (spAt s i).1 ++ [(spAt s i).2] := by
  unfold spl; rw [← spAt_all s i h]; simp [spFin, h2]
theorem spl_e {s : List UInt8} {i : Nat} (h : s.length ≤ i) (h2 : (spAt s i).2 = []) : spl s = (spAt s i).1 := by
  unfold spl; rw [← spAt_all s i h]; simp [spFin, h2]

theorem spStep_no {p : List (List UInt8) × List UInt8} {c : UInt8} (h : isSp c.toNat = false) : spStep p c = (p.1, p.2 ++ [c]) := by
  simp [spStep, h]
theorem spStep_sp {p : List (List UInt8) × List UInt8} {c : UInt8} (h : isSp c.toNat = true) (h2 : p.2 = []) : spStep p c = (p.1, []) := by
  simp [spStep, h, h2]
theorem spStep_spw {p : List (List UInt8) × List UInt8} {c : UInt8} (h : isSp c.toNat = true) (h2 : ¬ p.2 = []) : spStep p c = (p.1 ++ [p.2], []) := by
  simp [spStep, h, h2]

/-- ref03.Split -/
instance f35 (s : List UInt8) : Fn BB 144 [.str s] (s.length ≤ 100000) (.rd .str (spl s)) := by
  refine Fn.intro (N := 37) [0, 2, 3, 4, 5, 9, 16, 25, 31] [] Try.call144 Try.func144 rfl rfl (by kernel_rfl) (fun hpre => ?_)
  (conv => whnf)
  refine LoopStop.mk (α := Nat) (fun i => [(3, .own 0), (4, .str (spAt s i).2), (5, .int .i64 i)]) (fun i => [(0, .own .str (spAt s i).1)]) 1 (fun i => i ≤ s.length) (fun i => s.length - i) 0 (by simp) ?_ (fun i hi => ?_)
  · repeat' ((conv => whnf); first | (with_reducible rfl) | exact True.intro | (with_reducible exact absTF) | (with_reducible exact absFT) | intro _ | refine And.intro ?_ ?_ | refine Fin.mk ?_ | refine CallG.plain rfl ?_ ?_ | refine CallG.mk rfl ?_ ?_ | refine CallG.nwl rfl ?_ ?_ | refine CallG.nw ?_ ?_ | refine CallF.nwl rfl ?_ ?_ | refine CallF.nw ?_ ?_ | (refine CallS.q ?_; (conv => whnf); first | refine CallG.plain rfl ?_ ?_ | refine CallG.mk rfl ?_ ?_) | (refine CallS.m ?_; (conv => whnf); refine CallM.mk rfl ?_ ?_) | (refine CallS.h ?_; (conv => whnf); refine CallM.mk rfl ?_ ?_) | (refine CallS.b ?_; (conv => whnf); refine CallM.mk rfl ?_ ?_) | (refine CallS.z ?_; (conv => whnf); refine CallM.mk rfl ?_ ?_))
    all_goals (try (conv => whnf))
    all_goals (try rfl)
  · have hl := spAt_len s i
    repeat' ((conv => whnf); first | (with_reducible rfl) | exact True.intro | (with_reducible exact absTF) | (with_reducible exact absFT) | intro _ | refine And.intro ?_ ?_ | refine Fin.mk ?_ | refine CallG.plain rfl ?_ ?_ | refine CallG.mk rfl ?_ ?_ | refine CallG.nwl rfl ?_ ?_ | refine CallG.nw ?_ ?_ | refine CallF.nwl rfl ?_ ?_ | refine CallF.nw ?_ ?_ | (refine CallS.q ?_; (conv => whnf); first | refine CallG.plain rfl ?_ ?_ | refine CallG.mk rfl ?_ ?_) | (refine CallS.m ?_; (conv => whnf); refine CallM.mk rfl ?_ ?_) | (refine CallS.h ?_; (conv => whnf); refine CallM.mk rfl ?_ ?_) | (refine CallS.b ?_; (conv => whnf); refine CallM.mk rfl ?_ ?_) | (refine CallS.z ?_; (conv => whnf); refine CallM.mk rfl ?_ ?_))
    all_goals (try (conv => whnf))
    all_goals (try (exact Ob.mk (u8_bnd _)))
    all_goals (try (refine Ob.mk ?_; first | exact True.intro | assumption | omega | (try simp only [decide_eq_true_eq, decide_eq_false_iff_not, beq_iff_eq, beq_eq_false_iff_ne, bne_iff_ne, bne_eq_false_iff_eq, ne_eq, Bool.and_eq_true, Bool.or_eq_true, Bool.not_eq_true, Bool.not_eq_false, Bool.not_eq_true', Bool.not_eq_false', Int.toNat_natCast, Int.not_lt, Int.not_le, UInt8.ofNat_toNat, cast_eq] at *; omega)))
    all_goals (try ((show (_:Int) = _); omega))
    all_goals (try (show tupSV _ = _; with_unfolding_all rfl))
    all_goals (try ((show (_ : Nat) ≤ _); (simp <;> omega)))
    all_goals (try ((show (_ : Nat) ≤ _ ∧ (_ : Nat) ≤ _); (simp <;> omega)))
    all_goals (try ((show (_ : Int) ≤ _ ∧ (_ : Int) ≤ _ ∧ (_ : Int) ≤ _ ∧ (_ : Int) ≤ _); (simp <;> omega)))
    all_goals (try simp only [decide_eq_true_eq, decide_eq_false_iff_not, beq_iff_eq, beq_eq_false_iff_ne, bne_iff_ne, bne_eq_false_iff_eq, ne_eq, Bool.and_eq_true, Bool.or_eq_true, Bool.not_eq_true, Bool.not_eq_false, Bool.not_eq_true', Bool.not_eq_false', Int.toNat_natCast, Int.not_lt, Int.not_le, UInt8.ofNat_toNat, cast_eq] at *)
    · have h : i < s.length := by omega
      have e := spAt_succ s i h
      rw [spStep_no ‹_›] at e
      refine Rnd.mk ⟨i + 1, ?_, ?_, ?_⟩
      · exact h
      · omega
      · repeat' ((conv => whnf); first | (with_reducible rfl) | exact True.intro | (with_reducible exact absTF) | (with_reducible exact absFT) | intro _ | refine And.intro ?_ ?_ | refine Fin.mk ?_ | refine CallG.plain rfl ?_ ?_ | refine CallG.mk rfl ?_ ?_ | refine CallG.nwl rfl ?_ ?_ | refine CallG.nw ?_ ?_ | refine CallF.nwl rfl ?_ ?_ | refine CallF.nw ?_ ?_ | (refine CallS.q ?_; (conv => whnf); first | refine CallG.plain rfl ?_ ?_ | refine CallG.mk rfl ?_ ?_) | (refine CallS.m ?_; (conv => whnf); refine CallM.mk rfl ?_ ?_) | (refine CallS.h ?_; (conv => whnf); refine CallM.mk rfl ?_ ?_) | (refine CallS.b ?_; (conv => whnf); refine CallM.mk rfl ?_ ?_) | (refine CallS.z ?_; (conv => whnf); refine CallM.mk rfl ?_ ?_))
        all_goals (try (conv => whnf))
        all_goals (try (exact Ob.mk (u8_bnd _)))
        all_goals (try (refine Ob.mk ?_; first | exact True.intro | assumption | omega | (try simp only [decide_eq_true_eq, decide_eq_false_iff_not, beq_iff_eq, beq_eq_false_iff_ne, bne_iff_ne, bne_eq_false_iff_eq, ne_eq, Bool.and_eq_true, Bool.or_eq_true, Bool.not_eq_true, Bool.not_eq_false, Bool.not_eq_true', Bool.not_eq_false', Int.toNat_natCast, Int.not_lt, Int.not_le, UInt8.ofNat_toNat, cast_eq] at *; omega)))
        all_goals (try ((show (_:Int) = _); omega))
        all_goals (try (show tupSV _ = _; with_unfolding_all rfl))
        all_goals (try ((show (_ : Nat) ≤ _); (simp <;> omega)))
        all_goals (try ((show (_ : Nat) ≤ _ ∧ (_ : Nat) ≤ _); (simp <;> omega)))
        all_goals (try ((show (_ : Int) ≤ _ ∧ (_ : Int) ≤ _ ∧ (_ : Int) ≤ _ ∧ (_ : Int) ≤ _); (simp <;> omega)))
        all_goals (simp only [e, toNat_add_one, drop_take_one s i h]; done)
    · skip
      have h : i < s.length := by omega
      have e := spAt_succ s i h
      rw [spStep_spw ‹_› ‹_›] at e
      repeat' ((conv => whnf); first | (with_reducible rfl) | exact True.intro | (with_reducible exact absTF) | (with_reducible exact absFT) | intro _ | refine And.intro ?_ ?_ | refine Fin.mk ?_ | refine CallG.plain rfl ?_ ?_ | refine CallG.mk rfl ?_ ?_ | refine CallG.nwl rfl ?_ ?_ | refine CallG.nw ?_ ?_ | refine CallF.nwl rfl ?_ ?_ | refine CallF.nw ?_ ?_ | (refine CallS.q ?_; (conv => whnf); first | refine CallG.plain rfl ?_ ?_ | refine CallG.mk rfl ?_ ?_) | (refine CallS.m ?_; (conv => whnf); refine CallM.mk rfl ?_ ?_) | (refine CallS.h ?_; (conv => whnf); refine CallM.mk rfl ?_ ?_) | (refine CallS.b ?_; (conv => whnf); refine CallM.mk rfl ?_ ?_) | (refine CallS.z ?_; (conv => whnf); refine CallM.mk rfl ?_ ?_))
      all_goals (try (conv => whnf))
      all_goals (try (exact Ob.mk (u8_bnd _)))
      all_goals (try (refine Ob.mk ?_; first | exact True.intro | assumption | omega | (try simp only [decide_eq_true_eq, decide_eq_false_iff_not, beq_iff_eq, beq_eq_false_iff_ne, bne_iff_ne, bne_eq_false_iff_eq, ne_eq, Bool.and_eq_true, Bool.or_eq_true, Bool.not_eq_true, Bool.not_eq_false, Bool.not_eq_true', Bool.not_eq_false', Int.toNat_natCast, Int.not_lt, Int.not_le, UInt8.ofNat_toNat, cast_eq] at *; omega)))
      all_goals (try ((show (_:Int) = _); omega))
      all_goals (try (show tupSV _ = _; with_unfolding_all rfl))
      all_goals (try ((show (_ : Nat) ≤ _); (simp <;> omega)))
      all_goals (try ((show (_ : Nat) ≤ _ ∧ (_ : Nat) ≤ _); (simp <;> omega)))
      all_goals (try ((show (_ : Int) ≤ _ ∧ (_ : Int) ≤ _ ∧ (_ : Int) ≤ _ ∧ (_ : Int) ≤ _); (simp <;> omega)))
      refine Rnd.mk ⟨i + 1, ?_, ?_, ?_⟩
      · exact h
      · omega
      · repeat' ((conv => whnf); first | (with_reducible rfl) | exact True.intro | (with_reducible exact absTF) | (with_reducible exact absFT) | intro _ | refine And.intro ?_ ?_ | refine Fin.mk ?_ | refine CallG.plain rfl ?_ ?_ | refine CallG.mk rfl ?_ ?_ | refine CallG.nwl rfl ?_ ?_ | refine CallG.nw ?_ ?_ | refine CallF.nwl rfl ?_ ?_ | refine CallF.nw ?_ ?_ | (refine CallS.q ?_; (conv => whnf); first | refine CallG.plain rfl ?_ ?_ | refine CallG.mk rfl ?_ ?_) | (refine CallS.m ?_; (conv => whnf); refine CallM.mk rfl ?_ ?_) | (refine CallS.h ?_; (conv => whnf); refine CallM.mk rfl ?_ ?_) | (refine CallS.b ?_; (conv => whnf); refine CallM.mk rfl ?_ ?_) | (refine CallS.z ?_; (conv => whnf); refine CallM.mk rfl ?_ ?_))
        all_goals (try (conv => whnf))
        all_goals (try (exact Ob.mk (u8_bnd _)))
        all_goals (try (refine Ob.mk ?_; first | exact True.intro | assumption | omega | (try simp only [decide_eq_true_eq, decide_eq_false_iff_not, beq_iff_eq, beq_eq_false_iff_ne, bne_iff_ne, bne_eq_false_iff_eq, ne_eq, Bool.and_eq_true, Bool.or_eq_true, Bool.not_eq_true, Bool.not_eq_false, Bool.not_eq_true', Bool.not_eq_false', Int.toNat_natCast, Int.not_lt, Int.not_le, UInt8.ofNat_toNat, cast_eq] at *; omega)))
        all_goals (try ((show (_:Int) = _); omega))
        all_goals (try (show tupSV _ = _; with_unfolding_all rfl))
        all_goals (try ((show (_ : Nat) ≤ _); (simp <;> omega)))
        all_goals (try ((show (_ : Nat) ≤ _ ∧ (_ : Nat) ≤ _); (simp <;> omega)))
        all_goals (try ((show (_ : Int) ≤ _ ∧ (_ : Int) ≤ _ ∧ (_ : Int) ≤ _ ∧ (_ : Int) ≤ _); (simp <;> omega)))
        all_goals (simp only [e]; done)
    · have h : i < s.length := by omega
      have e := spAt_succ s i h
      rw [spStep_sp ‹_› ‹_›] at e
      refine Rnd.mk ⟨i + 1, ?_, ?_, ?_⟩
      · exact h
      · omega
      · repeat' ((conv => whnf); first | (with_reducible rfl) | exact True.intro | (with_reducible exact absTF) | (with_reducible exact absFT) | intro _ | refine And.intro ?_ ?_ | refine Fin.mk ?_ | refine CallG.plain rfl ?_ ?_ | refine CallG.mk rfl ?_ ?_ | refine CallG.nwl rfl ?_ ?_ | refine CallG.nw ?_ ?_ | refine CallF.nwl rfl ?_ ?_ | refine CallF.nw ?_ ?_ | (refine CallS.q ?_; (conv => whnf); first | refine CallG.plain rfl ?_ ?_ | refine CallG.mk rfl ?_ ?_) | (refine CallS.m ?_; (conv => whnf); refine CallM.mk rfl ?_ ?_) | (refine CallS.h ?_; (conv => whnf); refine CallM.mk rfl ?_ ?_) | (refine CallS.b ?_; (conv => whnf); refine CallM.mk rfl ?_ ?_) | (refine CallS.z ?_; (conv => whnf); refine CallM.mk rfl ?_ ?_))
        all_goals (try (conv => whnf))
        all_goals (try (exact Ob.mk (u8_bnd _)))
        all_goals (try (refine Ob.mk ?_; first | exact True.intro | assumption | omega | (try simp only [decide_eq_true_eq, decide_eq_false_iff_not, beq_iff_eq, beq_eq_false_iff_ne, bne_iff_ne, bne_eq_false_iff_eq, ne_eq, Bool.and_eq_true, Bool.or_eq_true, Bool.not_eq_true, Bool.not_eq_false, Bool.not_eq_true', Bool.not_eq_false', Int.toNat_natCast, Int.not_lt, Int.not_le, UInt8.ofNat_toNat, cast_eq] at *; omega)))
        all_goals (try ((show (_:Int) = _); omega))
        all_goals (try (show tupSV _ = _; with_unfolding_all rfl))
        all_goals (try ((show (_ : Nat) ≤ _); (simp <;> omega)))
        all_goals (try ((show (_ : Nat) ≤ _ ∧ (_ : Nat) ≤ _); (simp <;> omega)))
        all_goals (try ((show (_ : Int) ≤ _ ∧ (_ : Int) ≤ _ ∧ (_ : Int) ≤ _ ∧ (_ : Int) ≤ _); (simp <;> omega)))
        all_goals (simp only [e]; done)
    · skip
      repeat' ((conv => whnf); first | (with_reducible rfl) | exact True.intro | (with_reducible exact absTF) | (with_reducible exact absFT) | intro _ | refine And.intro ?_ ?_ | refine Fin.mk ?_ | refine CallG.plain rfl ?_ ?_ | refine CallG.mk rfl ?_ ?_ | refine CallG.nwl rfl ?_ ?_ | refine CallG.nw ?_ ?_ | refine CallF.nwl rfl ?_ ?_ | refine CallF.nw ?_ ?_ | (refine CallS.q ?_; (conv => whnf); first | refine CallG.plain rfl ?_ ?_ | refine CallG.mk rfl ?_ ?_) | (refine CallS.m ?_; (conv => whnf); refine CallM.mk rfl ?_ ?_) | (refine CallS.h ?_; (conv => whnf); refine CallM.mk rfl ?_ ?_) | (refine CallS.b ?_; (conv => whnf); refine CallM.mk rfl ?_ ?_) | (refine CallS.z ?_; (conv => whnf); refine CallM.mk rfl ?_ ?_))
      all_goals (try (conv => whnf))
      rw [spl_w (i := i) (by omega) ‹_›]
    · rw [spl_e (i := i) (by omega) ‹_›]
end Go.Vc.W

namespace Go.Vc.W
open Go.Proofs
set_option linter.unusedVariables false
set_option maxRecDepth 10000
set_option linter.unusedSimpArgs false

instance f29 (s w : List UInt8) : Fn BB 104 [.str s, .str w] (s.length ≤ 100000) (.bool ((spl s).contains w)) := by
  refine Fn.intro (N := 9) [0, 1, 4] [] Try.call104 Try.func104 rfl rfl (by kernel_rfl) (fun hpre => ?_)
  repeat' ((conv => whnf); first | (with_reducible rfl) | exact True.intro | (with_reducible exact absTF) | (with_reducible exact absFT) | intro _ | refine And.intro ?_ ?_ | refine Fin.mk ?_ | refine CallG.plain rfl ?_ ?_ | refine CallG.mk rfl ?_ ?_ | refine CallG.nwl rfl ?_ ?_ | refine CallG.nw ?_ ?_ | refine CallF.nwl rfl ?_ ?_ | refine CallF.nw ?_ ?_ | (refine CallS.q ?_; (conv => whnf); first | refine CallG.plain rfl ?_ ?_ | refine CallG.mk rfl ?_ ?_) | (refine CallS.m ?_; (conv => whnf); refine CallM.mk rfl ?_ ?_) | (refine CallS.h ?_; (conv => whnf); refine CallM.mk rfl ?_ ?_) | (refine CallS.b ?_; (conv => whnf); refine CallM.mk rfl ?_ ?_) | (refine CallS.z ?_; (conv => whnf); refine CallM.mk rfl ?_ ?_))
  all_goals (try (conv => whnf))
  all_goals (try (exact Ob.mk (u8_bnd _)))
  all_goals (try (refine Ob.mk ?_; first | exact True.intro | assumption | omega | (try simp only [decide_eq_true_eq, decide_eq_false_iff_not, beq_iff_eq, beq_eq_false_iff_ne, bne_iff_ne, bne_eq_false_iff_eq, ne_eq, Bool.and_eq_true, Bool.or_eq_true, Bool.not_eq_true, Bool.not_eq_false, Bool.not_eq_true', Bool.not_eq_false', Int.toNat_natCast, Int.not_lt, Int.not_le, UInt8.ofNat_toNat, cast_eq] at *; omega)))
  all_goals (try ((show (_:Int) = _); omega))
  all_goals (try (show tupSV _ = _; with_unfolding_all rfl))
  all_goals (try ((show (_ : Nat) ≤ _); (simp <;> omega)))
  all_goals (try ((show (_ : Nat) ≤ _ ∧ (_ : Nat) ≤ _); (simp <;> omega)))
  all_goals (try ((show (_ : Int) ≤ _ ∧ (_ : Int) ≤ _ ∧ (_ : Int) ≤ _ ∧ (_ : Int) ≤ _); (simp <;> omega)))
theorem contains_of_getD {l : List (List UInt8)} {i : Nat} (h : i < l.length) : l.contains (l.getD i []) = true := by
  simp [List.getD, List.getElem?_eq_getElem h]
def ixOf (l : List (List UInt8)) (w : List UInt8) : Int := if l.contains w then (l.idxOf w : Int) else -1
theorem ixOf_none {l : List (List UInt8)} {w : List UInt8} (h : l.contains w = false) : ixOf l w = -1 := by rw [ixOf, h]; rfl
theorem ixOf_at {l : List (List UInt8)} {w : List UInt8} {i : Nat} (h : i < l.length) (h1 : (l.take i).contains w = false) (h2 : w = l.getD i []) : ixOf l w = i := by
  rw [ixOf, h2, contains_of_getD h, ← h2, if_pos rfl]
  have e := List.take_append_drop i l
  rw [← e, List.idxOf_append, if_neg (by simpa using h1), List.length_take, Nat.min_eq_left (by omega)]
  have e2 : l.drop i = w :: l.drop (i+1) := by rw [List.drop_eq_getElem_cons h, h2]; simp [List.getD, List.getElem?_eq_getElem h]
  rw [e2, List.idxOf_cons_self]; simp
instance f37 (l : List (List UInt8)) (w : List UInt8) : Fn BB 165 [.rd .str l, .str w] True (.int .i64 (ixOf l w)) := by
  refine Fn.intro (N := 19) [0, 1, 4, 5, 7, 8, 9, 16] [] Try.call165 Try.func165 rfl rfl (by kernel_rfl) (fun hpre => ?_)
  (conv => whnf)
  intro hlen
  (conv => whnf)
  refine LoopStop.mk (α := Nat) (fun i => [(8, .int .i64 i)]) (fun i => []) 0 (fun i => i ≤ l.length ∧ (l.take i).contains w = false) (fun i => l.length - i) 0 (by simp) ?_ (fun i hi => ?_)
  · repeat' ((conv => whnf); first | (with_reducible rfl) | exact True.intro | (with_reducible exact absTF) | (with_reducible exact absFT) | intro _ | refine And.intro ?_ ?_ | refine Fin.mk ?_ | refine CallG.plain rfl ?_ ?_ | refine CallG.mk rfl ?_ ?_ | refine CallG.nwl rfl ?_ ?_ | refine CallG.nw ?_ ?_ | refine CallF.nwl rfl ?_ ?_ | refine CallF.nw ?_ ?_ | (refine CallS.q ?_; (conv => whnf); first | refine CallG.plain rfl ?_ ?_ | refine CallG.mk rfl ?_ ?_) | (refine CallS.m ?_; (conv => whnf); refine CallM.mk rfl ?_ ?_) | (refine CallS.h ?_; (conv => whnf); refine CallM.mk rfl ?_ ?_) | (refine CallS.b ?_; (conv => whnf); refine CallM.mk rfl ?_ ?_) | (refine CallS.z ?_; (conv => whnf); refine CallM.mk rfl ?_ ?_))
    all_goals (try (conv => whnf))
    all_goals (try rfl)
  · repeat' ((conv => whnf); first | (with_reducible rfl) | exact True.intro | (with_reducible exact absTF) | (with_reducible exact absFT) | intro _ | refine And.intro ?_ ?_ | refine Fin.mk ?_ | refine CallG.plain rfl ?_ ?_ | refine CallG.mk rfl ?_ ?_ | refine CallG.nwl rfl ?_ ?_ | refine CallG.nw ?_ ?_ | refine CallF.nwl rfl ?_ ?_ | refine CallF.nw ?_ ?_ | (refine CallS.q ?_; (conv => whnf); first | refine CallG.plain rfl ?_ ?_ | refine CallG.mk rfl ?_ ?_) | (refine CallS.m ?_; (conv => whnf); refine CallM.mk rfl ?_ ?_) | (refine CallS.h ?_; (conv => whnf); refine CallM.mk rfl ?_ ?_) | (refine CallS.b ?_; (conv => whnf); refine CallM.mk rfl ?_ ?_) | (refine CallS.z ?_; (conv => whnf); refine CallM.mk rfl ?_ ?_))
    all_goals (try (conv => whnf))
    all_goals (try (exact Ob.mk (u8_bnd _)))
    all_goals (try (refine Ob.mk ?_; first | exact True.intro | assumption | omega | (try simp only [decide_eq_true_eq, decide_eq_false_iff_not, beq_iff_eq, beq_eq_false_iff_ne, bne_iff_ne, bne_eq_false_iff_eq, ne_eq, Bool.and_eq_true, Bool.or_eq_true, Bool.not_eq_true, Bool.not_eq_false, Bool.not_eq_true', Bool.not_eq_false', Int.toNat_natCast, Int.not_lt, Int.not_le, UInt8.ofNat_toNat, cast_eq] at *; omega)))
    all_goals (try ((show (_:Int) = _); omega))
    all_goals (try (show tupSV _ = _; with_unfolding_all rfl))
    all_goals (try ((show (_ : Nat) ≤ _); (simp <;> omega)))
    all_goals (try ((show (_ : Nat) ≤ _ ∧ (_ : Nat) ≤ _); (simp <;> omega)))
    all_goals (try ((show (_ : Int) ≤ _ ∧ (_ : Int) ≤ _ ∧ (_ : Int) ≤ _ ∧ (_ : Int) ≤ _); (simp <;> omega)))
    all_goals (try simp only [decide_eq_true_eq, decide_eq_false_iff_not, beq_iff_eq, beq_eq_false_iff_ne, bne_iff_ne, bne_eq_false_iff_eq, ne_eq, Bool.and_eq_true, Bool.or_eq_true, Bool.not_eq_true, Bool.not_eq_false, Bool.not_eq_true', Bool.not_eq_false', Int.toNat_natCast, Int.not_lt, Int.not_le, UInt8.ofNat_toNat, cast_eq] at *)
    · rw [ixOf_at (by omega) hi.2 ‹_›]
    · have h : i < l.length := by omega
      refine Rnd.mk ⟨i + 1, ?_, ?_, ?_⟩
      · refine ⟨by omega, ?_⟩
        rw [take_has l i w h, hi.2, Bool.false_or]; exact beq_eq_false_iff_ne.mpr (fun e => by simp_all)
      · omega
      · repeat' ((conv => whnf); first | (with_reducible rfl) | exact True.intro | (with_reducible exact absTF) | (with_reducible exact absFT) | intro _ | refine And.intro ?_ ?_ | refine Fin.mk ?_ | refine CallG.plain rfl ?_ ?_ | refine CallG.mk rfl ?_ ?_ | refine CallG.nwl rfl ?_ ?_ | refine CallG.nw ?_ ?_ | refine CallF.nwl rfl ?_ ?_ | refine CallF.nw ?_ ?_ | (refine CallS.q ?_; (conv => whnf); first | refine CallG.plain rfl ?_ ?_ | refine CallG.mk rfl ?_ ?_) | (refine CallS.m ?_; (conv => whnf); refine CallM.mk rfl ?_ ?_) | (refine CallS.h ?_; (conv => whnf); refine CallM.mk rfl ?_ ?_) | (refine CallS.b ?_; (conv => whnf); refine CallM.mk rfl ?_ ?_) | (refine CallS.z ?_; (conv => whnf); refine CallM.mk rfl ?_ ?_))
        all_goals (try (conv => whnf))
        all_goals (try (exact Ob.mk (u8_bnd _)))
        all_goals (try (refine Ob.mk ?_; first | exact True.intro | assumption | omega | (try simp only [decide_eq_true_eq, decide_eq_false_iff_not, beq_iff_eq, beq_eq_false_iff_ne, bne_iff_ne, bne_eq_false_iff_eq, ne_eq, Bool.and_eq_true, Bool.or_eq_true, Bool.not_eq_true, Bool.not_eq_false, Bool.not_eq_true', Bool.not_eq_false', Int.toNat_natCast, Int.not_lt, Int.not_le, UInt8.ofNat_toNat, cast_eq] at *; omega)))
        all_goals (try ((show (_:Int) = _); omega))
        all_goals (try (show tupSV _ = _; with_unfolding_all rfl))
        all_goals (try ((show (_ : Nat) ≤ _); (simp <;> omega)))
        all_goals (try ((show (_ : Nat) ≤ _ ∧ (_ : Nat) ≤ _); (simp <;> omega)))
        all_goals (try ((show (_ : Int) ≤ _ ∧ (_ : Int) ≤ _ ∧ (_ : Int) ≤ _ ∧ (_ : Int) ≤ _); (simp <;> omega)))
    · have : i = l.length := by omega
      subst this
      rw [ixOf_none (by simpa using hi.2)]
instance f32 (l : List (List UInt8)) (w : List UInt8) : Fn BB 141 [.rd .str l, .str w] True (.bool (decide (ixOf l w ≥ 0))) := by
  refine Fn.intro (N := 9) [0, 1, 4] [] Try.call141 Try.func141 rfl rfl (by kernel_rfl) (fun hpre => ?_)
  repeat' ((conv => whnf); first | (with_reducible rfl) | exact True.intro | (with_reducible exact absTF) | (with_reducible exact absFT) | intro _ | refine And.intro ?_ ?_ | refine Fin.mk ?_ | refine CallG.plain rfl ?_ ?_ | refine CallG.mk rfl ?_ ?_ | refine CallG.nwl rfl ?_ ?_ | refine CallG.nw ?_ ?_ | refine CallF.nwl rfl ?_ ?_ | refine CallF.nw ?_ ?_ | (refine CallS.q ?_; (conv => whnf); first | refine CallG.plain rfl ?_ ?_ | refine CallG.mk rfl ?_ ?_) | (refine CallS.m ?_; (conv => whnf); refine CallM.mk rfl ?_ ?_) | (refine CallS.h ?_; (conv => whnf); refine CallM.mk rfl ?_ ?_) | (refine CallS.b ?_; (conv => whnf); refine CallM.mk rfl ?_ ?_) | (refine CallS.z ?_; (conv => whnf); refine CallM.mk rfl ?_ ?_))
  all_goals (try (conv => whnf))
  all_goals (try (exact Ob.mk (u8_bnd _)))
  all_goals (try (refine Ob.mk ?_; first | exact True.intro | assumption | omega | (try simp only [decide_eq_true_eq, decide_eq_false_iff_not, beq_iff_eq, beq_eq_false_iff_ne, bne_iff_ne, bne_eq_false_iff_eq, ne_eq, Bool.and_eq_true, Bool.or_eq_true, Bool.not_eq_true, Bool.not_eq_false, Bool.not_eq_true', Bool.not_eq_false', Int.toNat_natCast, Int.not_lt, Int.not_le, UInt8.ofNat_toNat, cast_eq] at *; omega)))
  all_goals (try ((show (_:Int) = _); omega))
  all_goals (try (show tupSV _ = _; with_unfolding_all rfl))
  all_goals (try ((show (_ : Nat) ≤ _); (simp <;> omega)))
  all_goals (try ((show (_ : Nat) ≤ _ ∧ (_ : Nat) ≤ _); (simp <;> omega)))
  all_goals (try ((show (_ : Int) ≤ _ ∧ (_ : Int) ≤ _ ∧ (_ : Int) ≤ _ ∧ (_ : Int) ≤ _); (simp <;> omega)))
end Go.Vc.W

namespace Go.Vc.W
open Go.Proofs
set_option linter.unusedVariables false
set_option maxRecDepth 10000
set_option linter.unusedSimpArgs false
def spR (r : Int) : Bool := decide (r < 128) && isSp (IntKind.u8.wrap r)
instance f39 (r : Int) : Fn BB 167 [.int .i32 r] (0 ≤ r) (.bool (spR r)) := by
  refine Fn.intro (N := 10) [0, 2] [] Try.call167 Try.func167 rfl rfl (by kernel_rfl) (fun hpre => ?_)
  repeat' ((conv => whnf); first | (with_reducible rfl) | exact True.intro | (with_reducible exact absTF) | (with_reducible exact absFT) | intro _ | refine And.intro ?_ ?_ | refine Fin.mk ?_ | refine CallG.plain rfl ?_ ?_ | refine CallG.mk rfl ?_ ?_ | refine CallG.nwl rfl ?_ ?_ | refine CallG.nw ?_ ?_ | refine CallF.nwl rfl ?_ ?_ | refine CallF.nw ?_ ?_ | (refine CallS.q ?_; (conv => whnf); first | refine CallG.plain rfl ?_ ?_ | refine CallG.mk rfl ?_ ?_) | (refine CallS.m ?_; (conv => whnf); refine CallM.mk rfl ?_ ?_) | (refine CallS.h ?_; (conv => whnf); refine CallM.mk rfl ?_ ?_) | (refine CallS.b ?_; (conv => whnf); refine CallM.mk rfl ?_ ?_) | (refine CallS.z ?_; (conv => whnf); refine CallM.mk rfl ?_ ?_))
  all_goals (try (conv => whnf))
  all_goals (try (exact Ob.mk (u8_bnd _)))
  all_goals (try (refine Ob.mk ?_; first | exact True.intro | assumption | omega | (try simp only [decide_eq_true_eq, decide_eq_false_iff_not, beq_iff_eq, beq_eq_false_iff_ne, bne_iff_ne, bne_eq_false_iff_eq, ne_eq, Bool.and_eq_true, Bool.or_eq_true, Bool.not_eq_true, Bool.not_eq_false, Bool.not_eq_true', Bool.not_eq_false', Int.toNat_natCast, Int.not_lt, Int.not_le, UInt8.ofNat_toNat, cast_eq] at *; omega)))
  all_goals (try ((show (_:Int) = _); omega))
  all_goals (try (show tupSV _ = _; with_unfolding_all rfl))
  all_goals (try ((show (_ : Nat) ≤ _); (simp <;> omega)))
  all_goals (try ((show (_ : Nat) ≤ _ ∧ (_ : Nat) ≤ _); (simp <;> omega)))
  all_goals (try ((show (_ : Int) ≤ _ ∧ (_ : Int) ≤ _ ∧ (_ : Int) ≤ _ ∧ (_ : Int) ≤ _); (simp <;> omega)))
  all_goals rfl

theorem getB (s : List UInt8) (j : Nat) : (ByteArray.get! ⟨s.toArray⟩ j) = s.getD j 0 := by
  by_cases h : j < s.length
  · have : j < s.toArray.size := by simpa using h
    simp [ByteArray.get!, List.getD, h]
  · simp [ByteArray.get!, List.getD, h]; rfl
theorem decL_pos (s : List UInt8) (pos : Nat) (h : pos < s.length) : 1 ≤ (decL s pos).2 ∧ pos + (decL s pos).2 ≤ s.length ∧
    (if (decL s pos).1 < 128 then (decL s pos).2 = 1 ∧ (decL s pos).1 = (s.getD pos 0).toNat else ∀ j, pos ≤ j → j < pos + (decL s pos).2 → 128 ≤ (s.getD j 0).toNat) := by
  have hsz : ByteArray.size ⟨s.toArray⟩ = s.length := by simp [ByteArray.size]
  have hb : ∀ j, (s.getD j 0).toNat < 256 := fun j => UInt8.toNat_lt _
  unfold decL Utf8.decode
  simp only [getB, hsz, Nat.add_zero]
  generalize e0 : (s.getD pos 0).toNat = b0
  generalize e1 : (s.getD (pos+1) 0).toNat = b1
  generalize e2 : (s.getD (pos+2) 0).toNat = b2
  generalize e3 : (s.getD (pos+3) 0).toNat = b3
  have k0 := hb pos
  have k1 := hb (pos+1)
  have k2 := hb (pos+2)
  have k3 := hb (pos+3)
  rw [e0] at k0; rw [e1] at k1; rw [e2] at k2; rw [e3] at k3
  have one : ∀ j, pos ≤ j → j < pos + 1 → (s.getD j 0).toNat = b0 := fun j h1 h2 => by
    have : j = pos := by omega
    subst this; exact e0
  split
  · simp; omega
  · rename_i hb0
    have fallb : ∀ j, pos ≤ j → j < pos + 1 → 128 ≤ (s.getD j 0).toNat := fun j h1 h2 => by rw [one j h1 h2]; omega
    have err : 1 ≤ ((Utf8.runeError, 1) : Nat × Nat).2 ∧ pos + ((Utf8.runeError, 1) : Nat × Nat).2 ≤ s.length ∧ (if ((Utf8.runeError, 1) : Nat × Nat).1 < 128 then ((Utf8.runeError, 1) : Nat × Nat).2 = 1 ∧ ((Utf8.runeError, 1) : Nat × Nat).1 = b0 else ∀ j, pos ≤ j → j < pos + ((Utf8.runeError, 1) : Nat × Nat).2 → 128 ≤ (s.getD j 0).toNat) := by
      refine ⟨Nat.le_refl _, h, ?_⟩
      rw [if_neg (by decide)]; exact fallb
    split
    · rename_i h2
      simp only [Bool.and_eq_true, decide_eq_true_eq, beq_iff_eq] at h2
      split
      · refine ⟨by simp, by simp; omega, ?_⟩
        rw [if_neg (by simp; omega)]
        intro j h3 h4
        have : j = pos ∨ j = pos + 1 := by simp at h4; omega
        rcases this with rfl | rfl
        · rw [e0]; omega
        · rw [e1]; omega
      · exact err
    · split
      · rename_i h2
        simp only [Bool.and_eq_true, decide_eq_true_eq, beq_iff_eq] at h2
        split
        · rename_i h5
          simp only [Bool.and_eq_true, decide_eq_true_eq, beq_iff_eq] at h5
          refine ⟨by simp, by simp; omega, ?_⟩
          rw [if_neg (by simp; omega)]
          intro j h3 h4
          have : j = pos ∨ j = pos + 1 ∨ j = pos + 2 := by simp at h4; omega
          rcases this with rfl | rfl | rfl
          · rw [e0]; omega
          · rw [e1]; omega
          · rw [e2]; omega
        · exact err
      · split
        · rename_i h2
          simp only [Bool.and_eq_true, decide_eq_true_eq, beq_iff_eq] at h2
          split
          · rename_i h5
            simp only [Bool.and_eq_true, decide_eq_true_eq, beq_iff_eq] at h5
            refine ⟨by simp, by simp; omega, ?_⟩
            rw [if_neg (by simp; omega)]
            intro j h3 h4
            have : j = pos ∨ j = pos + 1 ∨ j = pos + 2 ∨ j = pos + 3 := by simp at h4; omega
            rcases this with rfl | rfl | rfl | rfl
            · rw [e0]; omega
            · rw [e1]; omega
            · rw [e2]; omega
            · rw [e3]; omega
          · exact err
        · exact err
def cut (s : List UInt8) (p : Int × Int) : List UInt8 := (s.take p.2.toNat).drop p.1.toNat
theorem isSp_high {c : Nat} (h : 128 ≤ c) : isSp c = false := by
  simp only [isSp, Bool.or_eq_false_iff, beq_eq_false_iff_ne]; omega
theorem cut_more (s : List UInt8) (i pos : Nat) (h : i ≤ pos) (h2 : pos < s.length) : cut s (i, (pos+1:Nat)) = cut s (i, pos) ++ [s.getD pos 0] := by
  unfold cut
  simp only [Int.toNat_natCast]
  rw [take_snoc s pos 0 h2, List.drop_append_of_le_length (by rw [List.length_take]; omega)]
theorem spAt_run (s : List UInt8) (pos k : Nat) (h : pos + k ≤ s.length) (hh : ∀ j, pos ≤ j → j < pos + k → isSp (s.getD j 0).toNat = false) :
    spAt s (pos + k) = ((spAt s pos).1, (spAt s pos).2 ++ cut s (pos, (pos + k : Nat))) := by
  induction k with
  | zero => simp [cut]
  | succ k ih =>
    rw [← Nat.add_assoc, spAt_succ s _ (by omega), spStep_no (hh _ (by omega) (by omega)), ih (by omega) (fun j h1 h2 => hh j h1 (by omega)), cut_more s pos (pos+k) (by omega) (by omega)]
    simp
theorem cut_cat (s : List UInt8) (i j k : Nat) (h : i ≤ j) (h2 : j ≤ k) (h3 : k ≤ s.length) : cut s (i, j) ++ cut s (j, k) = cut s (i, k) := by
  induction k with
  | zero => have : j = 0 := by omega
            have : i = 0 := by omega
            subst_vars; simp [cut]
  | succ k ih =>
    by_cases e : j = k + 1
    · subst e; simp [cut]
    · rw [cut_more s j k (by omega) (by omega), cut_more s i k (by omega) (by omega), ← List.append_assoc, ih (by omega) (by omega)]
end Go.Vc.W

namespace Go.Vc.W
open Go.Proofs
set_option linter.unusedVariables false
set_option maxRecDepth 10000
set_option linter.unusedSimpArgs false
structure FS where
  pos : Nat
  spans : List (Int × Int)
  start : Int
abbrev encP (p : Int × Int) : List SV := [.int .i64 p.1, .int .i64 p.2]
structure FSok (s : List UInt8) (a : FS) : Prop where
  hp : a.pos ≤ s.length
  hs : a.spans.map (cut s) = (spAt s a.pos).1
  hr : ∀ p ∈ a.spans, 0 ≤ p.1 ∧ p.1 ≤ p.2 ∧ p.2 ≤ s.length
  hb : -(s.length : Int) - 1 ≤ a.start ∧ a.start ≤ s.length
  hw : if a.start < 0 then (spAt s a.pos).2 = [] else a.start < a.pos ∧ (spAt s a.pos).2 = cut s (a.start, a.pos)
theorem FSok.len {s : List UInt8} {a : FS} (h : FSok s a) : a.spans.length ≤ a.pos := by
  have := spAt_len s a.pos
  rw [← h.hs, List.length_map] at this; omega
theorem cut_ne {s : List UInt8} {i : Int} {j : Nat} (h0 : 0 ≤ i) (h : i < j) (h2 : j ≤ s.length) : ¬ cut s (i, j) = [] := by
  intro e
  have := congrArg List.length e
  simp [cut] at this
  omega
theorem spR_eq {s : List UInt8} {pos : Nat} (h : pos < s.length) :
    (spR (decL s pos).1 = true → (decL s pos).2 = 1 ∧ isSp (s.getD pos 0).toNat = true) ∧
    (spR (decL s pos).1 = false → pos < pos + (decL s pos).2 ∧ pos + (decL s pos).2 ≤ s.length ∧ ∀ j, pos ≤ j → j < pos + (decL s pos).2 → isSp (s.getD j 0).toNat = false) := by
  have ⟨d1, d2, d3⟩ := decL_pos s pos h
  have hw : (decL s pos).1 < 128 → IntKind.u8.wrap ((decL s pos).1 : Int) = (decL s pos).1 := fun hh => by
    simp [IntKind.wrap, IntKind.signed, IntKind.bits]; omega
  by_cases hh : (decL s pos).1 < 128
  · rw [if_pos hh] at d3
    have e : spR (decL s pos).1 = isSp (s.getD pos 0).toNat := by
      unfold spR; rw [hw hh, decide_eq_true (by omega), Bool.true_and, d3.2]
    rw [e]
    refine ⟨fun k => ⟨d3.1, k⟩, fun k => ⟨by omega, d2, fun j h1 h2 => ?_⟩⟩
    have : j = pos := by omega
    subst this; exact k
  · rw [if_neg hh] at d3
    have e : spR (decL s pos).1 = false := by unfold spR; simp; intro k; omega
    rw [e]
    refine ⟨fun k => (nomatch k), fun _ => ⟨by omega, d2, fun j h1 h2 => isSp_high (d3 j h1 h2)⟩⟩
theorem fs_sp1 {s : List UInt8} {a : FS} (h : FSok s a) (h1 : a.pos < s.length) (h2 : spR (decL s a.pos).1 = true) (h3 : 0 ≤ a.start) :
    FSok s ⟨a.pos + (decL s a.pos).2, a.spans ++ [(a.start, (a.pos:Int))], -a.start - 1⟩ := by
  have ⟨e1, e2⟩ := (spR_eq h1).1 h2
  have hw := h.hw; rw [if_neg (by omega)] at hw
  have hb := h.hb
  have e := spAt_succ s a.pos h1
  rw [spStep_spw e2 (by rw [hw.2]; exact cut_ne h3 hw.1 h.hp)] at e
  constructor
  · simp only [e1]; omega
  · simp only [e1, e, List.map_append, h.hs, hw.2]; rfl
  · intro p hp
    rcases List.mem_append.mp hp with hp | hp
    · exact h.hr p hp
    · simp at hp; subst hp; simp; omega
  · simp; omega
  · rw [if_pos (by simp; omega)]; simp only [e1, e]
theorem fs_sp0 {s : List UInt8} {a : FS} (h : FSok s a) (h1 : a.pos < s.length) (h2 : spR (decL s a.pos).1 = true) (h3 : a.start < 0) :
    FSok s ⟨a.pos + (decL s a.pos).2, a.spans, a.start⟩ := by
  have ⟨e1, e2⟩ := (spR_eq h1).1 h2
  have hw := h.hw; rw [if_pos (by omega)] at hw
  have e := spAt_succ s a.pos h1
  rw [spStep_sp e2 hw] at e
  constructor
  · simp only [e1]; omega
  · simp only [e1, e, h.hs]
  · exact h.hr
  · exact h.hb
  · rw [if_pos (by simpa using h3)]; simp only [e1, e]
theorem fs_no1 {s : List UInt8} {a : FS} (h : FSok s a) (h1 : a.pos < s.length) (h2 : spR (decL s a.pos).1 = false) (h3 : 0 ≤ a.start) :
    FSok s ⟨a.pos + (decL s a.pos).2, a.spans, a.start⟩ := by
  have ⟨e0, e1, e2⟩ := (spR_eq h1).2 h2
  have hw := h.hw; rw [if_neg (by omega)] at hw
  have e := spAt_run s a.pos _ e1 e2
  constructor
  · exact e1
  · simp only [e, h.hs]
  · exact h.hr
  · exact h.hb
  · rw [if_neg (by simp; omega)]; simp only [e]
    refine ⟨by omega, ?_⟩
    rw [hw.2]
    obtain ⟨i, hi⟩ : ∃ i : Nat, a.start = i := ⟨a.start.toNat, by omega⟩
    rw [hi, cut_cat s i a.pos _ (by omega) (by omega) e1]
theorem fs_no0 {s : List UInt8} {a : FS} (h : FSok s a) (h1 : a.pos < s.length) (h2 : spR (decL s a.pos).1 = false) (h3 : a.start < 0) :
    FSok s ⟨a.pos + (decL s a.pos).2, a.spans, (a.pos : Int)⟩ := by
  have ⟨e0, e1, e2⟩ := (spR_eq h1).2 h2
  have hw := h.hw; rw [if_pos (by omega)] at hw
  have e := spAt_run s a.pos _ e1 e2
  constructor
  · exact e1
  · simp only [e, h.hs]
  · exact h.hr
  · simp; omega
  · rw [if_neg (by simp)]; simp only [e]
    refine ⟨by omega, ?_⟩
    rw [hw]; rfl
theorem fs_end1 {s : List UInt8} {a : FS} (h : FSok s a) (h1 : ¬ a.pos < s.length) (h3 : 0 ≤ a.start) :
    (a.spans ++ [(a.start, (s.length:Int))]).map (cut s) = spl s ∧ ∀ p ∈ (a.spans ++ [(a.start, (s.length:Int))]), 0 ≤ p.1 ∧ p.1 ≤ p.2 ∧ p.2 ≤ s.length := by
  have hp := h.hp
  have e : a.pos = s.length := by omega
  have hw := h.hw; rw [if_neg (by omega)] at hw
  have hb := h.hb
  refine ⟨?_, ?_⟩
  · rw [spl_w (i := a.pos) (by omega) (by rw [hw.2]; exact cut_ne h3 hw.1 h.hp), hw.2, ← h.hs, e, List.map_append]; rfl
  · intro p hp
    rcases List.mem_append.mp hp with hp | hp
    · exact h.hr p hp
    · simp at hp; subst hp; simp; omega
theorem fs_end0 {s : List UInt8} {a : FS} (h : FSok s a) (h1 : ¬ a.pos < s.length) (h3 : a.start < 0) :
    a.spans.map (cut s) = spl s ∧ ∀ p ∈ a.spans, 0 ≤ p.1 ∧ p.1 ≤ p.2 ∧ p.2 ≤ s.length := by
  have hp := h.hp
  have e : a.pos = s.length := by omega
  have hw := h.hw; rw [if_pos (by omega)] at hw
  exact ⟨by rw [spl_e (i := a.pos) (by omega) hw, h.hs], h.hr⟩
end Go.Vc.W
