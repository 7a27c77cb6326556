/- A part of the proof: lemmas and walks that the last text of the claim joins; no condition. -/
import Derived.Test.YthopfegpddkelaaGreatPlaceTextsTF
import Derived.Test.YthopfegpddkelaaGreatPlaceTextsVG
import Derived.Shelf.Spec.SlicesGrow
import Derived.Laws.AppendOwn
set_option linter.unusedVariables false
set_option linter.unusedSimpArgs false
set_option maxHeartbeats 8000000
namespace Go.Vc
open Go.Proofs
set_option maxRecDepth 10000
instance f39 (l : List Int) (i j : Int) : FnM BB 101 [.own 0, .int .i64 i, .int .i64 j] [(0, .own intTy l)] (0 ≤ i ∧ i ≤ j ∧ j ≤ l.length) (.own 0) [(0, .own intTy (l.take i.toNat ++ l.drop j.toNat))] :=
 fnm_delete (B := BB) Tryz.laysNm223 rfl Tryz.call101 l i j
instance f38 (l : List Int) (i x : Int) : FnM BB 73 [.own 0, .int .i64 i, .own 1] [(0, .own intTy l), (1, .own intTy [x])] (0 ≤ i ∧ i ≤ l.length ∧ l.length ≤ 100000) (.own 0) [(0, .own intTy (l.take i.toNat ++ x :: l.drop i.toNat)), (1, .own intTy [x])] :=
 fnm_insert (B := BB) Tryz.laysNm221 rfl Tryz.call73 l i x
def addT (l : List NodeD) (n : NodeD) : List NodeD := l ++ [(n.1, n.2.1, n.2.2.1, n.2.2.2.1, n.2.2.2.2.1, -1, [])]
def setKids (n : NodeD) (k : List Int) : NodeD := (n.1, n.2.1, n.2.2.1, n.2.2.2.1, n.2.2.2.2.1, n.2.2.2.2.2.1, k)
def setUp (n : NodeD) (u : Int) : NodeD := (n.1, n.2.1, n.2.2.1, n.2.2.2.1, n.2.2.2.2.1, u, n.2.2.2.2.2.2)
def cutA (l : List NodeD) (kid : Int) : List NodeD :=
 if placeT l kid ≥ 0 then l.set (nd l kid).up.toNat (setKids (nd l (nd l kid).up) ((nd l (nd l kid).up).kids.take (placeT l kid).toNat ++ (nd l (nd l kid).up).kids.drop (placeT l kid + 1).toNat)) else l
def cutT (l : List NodeD) (kid : Int) : List NodeD :=
 if kid ≠ 0 ∧ isT l kid = true then (cutA l kid).set kid.toNat (setUp (nd (cutA l kid) kid) (-1)) else cutA l kid
theorem isT_set {l : List NodeD} {i : Nat} {n : NodeD} {k : Int} : isT (l.set i n) k = isT l k := by simp [isT]
theorem ix_lt {l : List Int} {w : Int} (h : ixOf l w ≥ 0) : ixOf l w < l.length := by
 unfold ixOf at h ⊢
 split at h
 ·rename_i hc
  rw [if_pos hc]
  have := List.idxOf_lt_length_of_mem (a := w) (l := l) (by simpa using hc)
  omega
 ·omega
theorem place_nonneg {l : List NodeD} {kid : Int} (h : placeT l kid ≥ 0) : isT l kid = true ∧ isT l (nd l kid).up = true ∧ placeT l kid < (nd l (nd l kid).up).kids.length := by
 unfold placeT at h ⊢
 split at h
 ·rename_i hc
  rw [if_pos hc]
  simp only [Bool.and_eq_true] at hc
  exact ⟨hc.1, hc.2, ix_lt h⟩
 ·omega
theorem small_at {l : List NodeD} (h : smallT l = true) (i : Int) (hi : isT l i = true) : (nd l i).2.2.2.1.length ≤ 1000 ∧ (nd l i).kids.length ≤ 1000 := by
 simp only [smallT, Bool.and_eq_true, List.all_eq_true, decide_eq_true_eq] at h
 obtain ⟨h1, h2⟩ := isT_iff.1 hi
 refine h.2 (nd l i) ?_
 have : i.toNat < l.length := by omega
 simp [nd, List.getD, List.getElem?_eq_getElem this]
theorem small_len {l : List NodeD} (h : smallT l = true) : l.length ≤ 1000 := by
 simp only [smallT, Bool.and_eq_true, decide_eq_true_eq] at h
 exact h.1
instance f15 (l : List NodeD) (kid : Int) : FnM BB 72 [.loc 0 0, .int .i64 kid] [(0, .box [.own 1]), (1, .own nodeTy l)] (smallT l = true)
      (.tup []) [(0, .box [.own 1]), (1, .own nodeTy (cutT l kid))] := by
  refine FnM.intro (N := 54) [0, 1, 4, 5, 12, 46] [(2, [0, 0, 0, 1, 0, 0, 0, 1, 0, 1, 1, 1, 3, 3])] 2 Tryz.call72 Tryz.func72 rfl rfl (by kernel_rfl) (fun hpre => ?_)
  have H : placeT l kid ≥ 0 → (0 ≤ kid ∧ kid < l.length) ∧ (0 ≤ (nd l kid).up ∧ (nd l kid).up < l.length) ∧ placeT l kid < (nd l (nd l kid).up).kids.length ∧ (nd l (nd l kid).up).kids.length ≤ 1000 := by
    intro h
    obtain ⟨h1, h2, h3⟩ := place_nonneg h
    exact ⟨isT_iff.1 h1, isT_iff.1 h2, h3, (small_at hpre _ h2).2⟩
  by_cases h0 : placeT l kid ≥ 0
  · obtain ⟨f1, f2, f3, f4⟩ := H h0
    clear H
    repeat' ((conv => whnf);first|(with_reducible first|rfl|exact absTF|exact absFT)|exact True.intro|intro _|refine And.intro ?_ ?_|refine Fin.mk ?_|refine W1 rfl ?_ ?_|refine W2 rfl ?_ ?_|refine W3 rfl ?_ ?_|refine W4 ?_ ?_|refine W5 rfl ?_ ?_|refine W6 ?_ ?_|refine AppN.mk ?_|refine X1 (W1 rfl ?_ ?_)|refine X1 (W2 rfl ?_ ?_)|refine X2 (W7 rfl ?_ ?_)|refine X3 (W7 rfl ?_ ?_)|refine X4 (W7 rfl ?_ ?_)|refine X5 (W7 rfl ?_ ?_))
    all_goals (try (conv => whnf))
    all_goals (try first|exact obA|refine Ob.mk ?_)
    all_goals (first
      | (show (nd l kid).up.toNat < _; omega)
      | exact Nat.le_trans f4 (by omega)
      | (show 0 ≤ placeT l kid ∧ _; refine ⟨h0, by omega, ?_⟩; show placeT l kid + 1 ≤ ((nd l (nd l kid).up).kids.length : Int); omega)
      | exact isT_iff.1 ((Bool.and_eq_true_iff.1 ‹(_ && _) = true›).2)
      | skip)
    · rename_i h
      have h := Bool.and_eq_true_iff.1 h
      have h2 : isT (cutA l kid) kid = true := by rw [cutA, if_pos h0]; exact h.2
      have h3 : isT l kid = true := by have := h.2; rw [isT_set] at this; exact this
      rw [cutT, if_pos ⟨by simpa using h.1, h3⟩, cutA, if_pos h0]
      rfl
    · rename_i h
      have h1 : ¬ (kid ≠ 0 ∧ isT l kid = true) := fun hc => by
        rw [isT_set] at h
        simp [hc.1, hc.2] at h
      rw [cutT, if_neg h1, cutA, if_pos h0]
      rfl
    all_goals (exfalso; have := of_decide_eq_false ‹decide (placeT l kid ≥ 0) = false›; exact this h0)
  · have h1 : decide (placeT l kid ≥ 0) = false := decide_eq_false h0
    clear H
    repeat' ((conv => whnf);first|(with_reducible first|rfl|exact absTF|exact absFT)|exact True.intro|intro _|refine And.intro ?_ ?_|refine Fin.mk ?_|refine W1 rfl ?_ ?_|refine W2 rfl ?_ ?_|refine W3 rfl ?_ ?_|refine W4 ?_ ?_|refine W5 rfl ?_ ?_|refine W6 ?_ ?_|refine AppN.mk ?_|refine X1 (W1 rfl ?_ ?_)|refine X1 (W2 rfl ?_ ?_)|refine X2 (W7 rfl ?_ ?_)|refine X3 (W7 rfl ?_ ?_)|refine X4 (W7 rfl ?_ ?_)|refine X5 (W7 rfl ?_ ?_))
    all_goals (try (conv => whnf))
    all_goals (try first|exact obA|refine Ob.mk ?_)
    all_goals (first
      | (exfalso; exact h0 (of_decide_eq_true ‹decide (placeT l kid ≥ 0) = true›))
      | exact isT_iff.1 ((Bool.and_eq_true_iff.1 ‹(_ && _) = true›).2)
      | (have hh := isT_iff.1 ((Bool.and_eq_true_iff.1 ‹(kid != 0 && isT l kid) = true›).2); omega)
      | skip)
    · rename_i h
      have h := Bool.and_eq_true_iff.1 h
      rw [cutT, if_pos ⟨by simpa using h.1, h.2⟩, cutA, if_neg h0]
      rfl
    · rename_i h
      have h1 : ¬ (kid ≠ 0 ∧ isT l kid = true) := fun hc => by
        simp [hc.1, hc.2] at h
      rw [cutT, if_neg h1, cutA, if_neg h0]
def putT (l : List NodeD) (up at_ kid : Int) : List NodeD :=
 if (!isT l up || !isT l kid || kid == 0 || holdsT l kid up) = true then l else
 let c := cutT l kid
 let ks := (nd c up).kids
 let i := min (max at_ 0) (ks.length : Int)
 let c2 := c.set up.toNat (setKids (nd c up) (ks.take i.toNat ++ kid :: ks.drop i.toNat))
 c2.set kid.toNat (setUp (nd c2 kid) up)
theorem getD_set {l : List NodeD} {k i : Nat} {n : NodeD} : (l.set k n).getD i nodeTy.dflt = if k = i ∧ k < l.length then n else l.getD i nodeTy.dflt := by
 simp only [List.getD, List.getElem?_set]
 by_cases h : k = i
 ·subst h
  by_cases h2 : k < l.length
  ·simp [h2]
  ·simp [h2]
 ·simp [h]
def smB (m : Nat) (l : List NodeD) : Prop := l.length ≤ m ∧ ∀ i, i < l.length → (l.getD i nodeTy.dflt).2.2.2.1.length ≤ m ∧ (l.getD i nodeTy.dflt).kids.length ≤ m
theorem smB_small {l : List NodeD} {m : Nat} (hm : m ≤ 1000) (h : smB m l) : smallT l = true := by
 simp only [smallT, Bool.and_eq_true, List.all_eq_true, decide_eq_true_eq]
 refine ⟨by have := h.1; omega, fun x hx => ?_⟩
 obtain ⟨i, hi, rfl⟩ := List.getElem_of_mem hx
 have := h.2 i hi
 simp [List.getD, List.getElem?_eq_getElem hi] at this
 exact ⟨by omega, by omega⟩
theorem smB_of {l : List NodeD} (h : smallT l = true) : smB 1000 l := by
 refine ⟨small_len h, fun i hi => ?_⟩
 have := small_at h i (isT_iff.2 ⟨by omega, by omega⟩)
 simpa [nd] using this
theorem smB_set {l : List NodeD} {m : Nat} (h : smB m l) {k : Nat} {n : NodeD} (hn : k < l.length → n.2.2.2.1.length ≤ m ∧ n.kids.length ≤ m) : smB m (l.set k n) := by
 refine ⟨by simpa using h.1, fun i hi => ?_⟩
 rw [getD_set]
 split
 ·rename_i hc; exact hn hc.2
 ·exact h.2 i (by simpa using hi)
theorem cutA_len {l : List NodeD} {kid : Int} : (cutA l kid).length = l.length := by unfold cutA; split <;> simp
theorem cutT_len {l : List NodeD} {kid : Int} : (cutT l kid).length = l.length := by
 unfold cutT; split
 ·rw [List.length_set, cutA_len]
 ·exact cutA_len
theorem cutA_sm {l : List NodeD} {m : Nat} {kid : Int} (h : smB m l) : smB m (cutA l kid) := by
 unfold cutA
 split
 ·refine smB_set h fun hk => ?_
  have := h.2 _ hk
  refine ⟨this.1, ?_⟩
  have e : (setKids (nd l (nd l kid).up) ((nd l (nd l kid).up).kids.take (placeT l kid).toNat ++ (nd l (nd l kid).up).kids.drop (placeT l kid + 1).toNat)).kids.length ≤ (nd l (nd l kid).up).kids.length := by
   show ((nd l (nd l kid).up).kids.take (placeT l kid).toNat ++ (nd l (nd l kid).up).kids.drop (placeT l kid + 1).toNat).length ≤ _
   simp only [List.length_append, List.length_take, List.length_drop]
   omega
  exact Nat.le_trans e this.2
 ·exact h
theorem cutT_sm {l : List NodeD} {m : Nat} {kid : Int} (h : smB m l) : smB m (cutT l kid) := by
 unfold cutT
 split
 ·refine smB_set (cutA_sm h) fun hk => ?_
  exact (cutA_sm h (kid := kid)).2 _ hk
 ·exact cutA_sm h
theorem min_of (a b : Int) : (bif false then max (bif true then max a 0 else min a 0) b else min (bif true then max a 0 else min a 0) b) = min (max a 0) b := rfl
end Go.Vc

namespace Go.Vc
open Go.Proofs
set_option maxRecDepth 10000
def rootN : NodeD := ((0 : Int), (0 : Int), ([] : List UInt8), ([] : List AttrD), ([] : List UInt8), (-1 : Int), ([] : List Int))
instance f18 : FnM BB 33 [] [] True (.agg [.own 0]) [(0, .own nodeTy [rootN])] := by
 refine FnM.intro (N := 4) [0] [] 1 Tryz.call33 Tryz.func33 rfl rfl (by kernel_rfl) (fun hpre => ?_)
 all_goals exact vcA
theorem FnM.wk {B : Base} {f : FuncId} {args args' : List SV} {Φ : Phi} {pre : Prop} {res : SV} {Φ' : Phi} (F : FnM B f args Φ pre res Φ') (h : ∀ r β vs, RelL r β args' vs → RelL r β args vs) : FnM B f args' Φ pre res Φ' :=
 ⟨F.call, fun hp r β w vs hG m hl => F.ok hp r β w vs hG m (h r β vs hl)⟩
theorem nils_rd {r β v} {τ : Ty} (h : Rel r β .nils v) : Rel r β (.rd τ []) v := by cases h; exact .rd .litsE
end Go.Vc

namespace Go.Vc
set_option autoImplicit false
abbrev Ev := Nat × Int × Nat × Bool
def unseen (s : List Bool) : Nat := s.count false
def okK (s : List Bool) (k : Int) : Bool := decide (0 ≤ k) && !(s.getD k.toNat true)
theorem okK_spec {s : List Bool} {k : Int} (h : okK s k = true) : 0 ≤ k ∧ k.toNat < s.length ∧ s[k.toNat]? = some false := by
 unfold okK at h
 simp only [Bool.and_eq_true, decide_eq_true_eq, Bool.not_eq_true'] at h
 have hl : k.toNat < s.length := by
  rcases Nat.lt_or_ge k.toNat s.length with q | q
  ·exact q
  ·have := h.2; simp [List.getD, List.getElem?_eq_none q] at this
 refine ⟨h.1, hl, ?_⟩
 have := h.2
 rw [List.getD_eq_getElem?_getD, List.getElem?_eq_getElem hl] at this
 rw [List.getElem?_eq_getElem hl]
 simpa using this
theorem unseen_set {s : List Bool} {k : Nat} (h : s[k]? = some false) : unseen (s.set k true) + 1 = unseen s := by
 unfold unseen
 induction s generalizing k with
 | nil => cases h
 | cons x r ih =>
  cases k with
  | zero => simp at h; subst h; simp
  | succ k =>
   have := ih (k := k) (by simpa using h)
   simp only [List.set_cons_succ, List.count_cons]
   omega
def dfs (K : Nat → List Int) (s : List Bool) (i j c : Nat) : List Ev × List Bool × Nat :=
 if h : j < (K i).length then
  if hk : okK s ((K i).getD j 0) = true then
   let r1 := dfs K (s.set ((K i).getD j 0).toNat true) ((K i).getD j 0).toNat 0 (c + 1)
   if hg : unseen r1.2.1 < unseen s then
    let r2 := dfs K r1.2.1 i (j + 1) r1.2.2
    ((((K i).getD j 0).toNat, (i : Int), c, false) :: (r1.1 ++ r2.1), r2.2.1, r2.2.2)
   else ([], s, c)
  else dfs K s i (j + 1) c
 else ([(i, 0, c, true)], s, c + 1)
termination_by (unseen s, (K i).length - j)
decreasing_by
 ·have := unseen_set (okK_spec hk).2.2
  exact Prod.Lex.left _ _ (by omega)
 ·exact Prod.Lex.left _ _ hg
 ·exact Prod.Lex.right _ (by omega)
variable {K : Nat → List Int}
theorem dfs_end {s : List Bool} {i j c : Nat} (h : ¬ j < (K i).length) : dfs K s i j c = ([(i, 0, c, true)], s, c + 1) := by
 rw [dfs, dif_neg h]
theorem dfs_bad {s : List Bool} {i j c : Nat} (h : j < (K i).length) (hk : okK s ((K i).getD j 0) = false) : dfs K s i j c = dfs K s i (j + 1) c := by
 rw [dfs, dif_pos h, dif_neg (by rw [hk]; decide)]
theorem dfs_ok0 {s : List Bool} {i j c : Nat} (h : j < (K i).length) (hk : okK s ((K i).getD j 0) = true) : dfs K s i j c =
  (let r1 := dfs K (s.set ((K i).getD j 0).toNat true) ((K i).getD j 0).toNat 0 (c + 1)
   if hg : unseen r1.2.1 < unseen s then
    let r2 := dfs K r1.2.1 i (j + 1) r1.2.2
    ((((K i).getD j 0).toNat, (i : Int), c, false) :: (r1.1 ++ r2.1), r2.2.1, r2.2.2)
   else ([], s, c)) := by
 rw [dfs, dif_pos h, dif_pos hk]
theorem dfs_ind0 {P : List Bool → Nat → Nat → Nat → Prop}
  (h : ∀ s i j c, (∀ s' i' j' c', (unseen s' < unseen s ∨ (unseen s' = unseen s ∧ (K i').length - j' < (K i).length - j)) → P s' i' j' c') → P s i j c) : ∀ s i j c, P s i j c := by
 have main : ∀ a b s i j c, unseen s = a → (K i).length - j = b → P s i j c := by
  intro a
  induction a using Nat.strongRecOn with
  | ind a iha =>
   intro b
   induction b using Nat.strongRecOn with
   | ind b ihb =>
    intro s i j c ha hb
    refine h s i j c fun s' i' j' c' q => ?_
    rcases q with q | ⟨q1, q2⟩
    ·exact iha (unseen s') (by omega) _ s' i' j' c' rfl rfl
    ·exact ihb _ (by omega) s' i' j' c' (by omega) rfl
 exact fun s i j c => main _ _ s i j c rfl rfl
theorem unseen_le : ∀ (s : List Bool) (i j c : Nat), unseen (dfs K s i j c).2.1 ≤ unseen s := by
 refine dfs_ind0 (K := K) fun s i j c ih => ?_
 by_cases h : j < (K i).length
 ·cases hk : okK s ((K i).getD j 0) with
  | false => rw [dfs_bad h hk]; exact ih s i (j + 1) c (.inr ⟨rfl, by omega⟩)
  | true =>
   rw [dfs_ok0 h hk]
   dsimp only
   split
   ·rename_i hg
    have := ih _ i (j + 1) (dfs K (s.set ((K i).getD j 0).toNat true) ((K i).getD j 0).toNat 0 (c + 1)).2.2 (.inl hg)
    exact Nat.le_trans this (Nat.le_of_lt hg)
   ·exact Nat.le_refl _
 ·rw [dfs_end h]; exact Nat.le_refl _
theorem dfs_guard {s : List Bool} {k : Nat} (hk : s[k]? = some false) (c : Nat) : unseen (dfs K (s.set k true) k 0 c).2.1 < unseen s := by
 have h1 := unseen_le (K := K) (s.set k true) k 0 c
 have h2 := unseen_set hk
 omega
theorem dfs_ok {s : List Bool} {i j c : Nat} (h : j < (K i).length) (hk : okK s ((K i).getD j 0) = true) : dfs K s i j c =
    ((((K i).getD j 0).toNat, (i : Int), c, false) :: ((dfs K (s.set ((K i).getD j 0).toNat true) ((K i).getD j 0).toNat 0 (c + 1)).1 ++
      (dfs K (dfs K (s.set ((K i).getD j 0).toNat true) ((K i).getD j 0).toNat 0 (c + 1)).2.1 i (j + 1) (dfs K (s.set ((K i).getD j 0).toNat true) ((K i).getD j 0).toNat 0 (c + 1)).2.2).1),
     (dfs K (dfs K (s.set ((K i).getD j 0).toNat true) ((K i).getD j 0).toNat 0 (c + 1)).2.1 i (j + 1) (dfs K (s.set ((K i).getD j 0).toNat true) ((K i).getD j 0).toNat 0 (c + 1)).2.2).2.1,
     (dfs K (dfs K (s.set ((K i).getD j 0).toNat true) ((K i).getD j 0).toNat 0 (c + 1)).2.1 i (j + 1) (dfs K (s.set ((K i).getD j 0).toNat true) ((K i).getD j 0).toNat 0 (c + 1)).2.2).2.2) := by
  rw [dfs_ok0 h hk]
  dsimp only
  rw [dif_pos (dfs_guard (okK_spec hk).2.2 (c + 1))]
theorem dfs_ind {P : List Bool → Nat → Nat → Nat → Prop}
  (he : ∀ s i j c, ¬ j < (K i).length → P s i j c)
  (hb : ∀ s i j c, j < (K i).length → okK s ((K i).getD j 0) = false → P s i (j + 1) c → P s i j c)
  (ho : ∀ s i j c, j < (K i).length → okK s ((K i).getD j 0) = true → P (s.set ((K i).getD j 0).toNat true) ((K i).getD j 0).toNat 0 (c + 1) →
   (P (dfs K (s.set ((K i).getD j 0).toNat true) ((K i).getD j 0).toNat 0 (c + 1)).2.1 i (j + 1) (dfs K (s.set ((K i).getD j 0).toNat true) ((K i).getD j 0).toNat 0 (c + 1)).2.2) → P s i j c) :
  ∀ s i j c, P s i j c := by
 refine dfs_ind0 (K := K) fun s i j c ih => ?_
 by_cases h : j < (K i).length
 ·cases hk : okK s ((K i).getD j 0) with
  | false => exact hb s i j c h hk (ih s i (j + 1) c (.inr ⟨rfl, by omega⟩))
  | true =>
   have h2 := unseen_set (okK_spec hk).2.2
   exact ho s i j c h hk (ih _ _ _ _ (.inl (by omega))) (ih _ _ _ _ (.inl (dfs_guard (okK_spec hk).2.2 (c + 1))))
 ·exact he s i j c h
def runS (K : Nat → List Int) : List (Nat × Nat) → List Bool → Nat → List Ev
 | [], _, _ => []
 | (i, j) :: rest, s, c => (dfs K s i j c).1 ++ runS K rest (dfs K s i j c).2.1 (dfs K s i j c).2.2
def evsT (K : Nat → List Int) (n : Nat) : List Ev := if n = 0 then [] else (0, -1, 0, false) :: runS K [(0, 0)] ((List.replicate n false).set 0 true) 1
end Go.Vc

namespace Go.Vc
set_option autoImplicit false
structure St where
 L : List Nat
 P : List Nat
 I : List Int
 O : List Int
 m : Nat
def St.step (x : St) (e : Ev) : St :=
 if e.2.2.2 = true then { x with P := x.P.dropLast, O := x.O.set e.1 (x.m : Int), m := x.m + 1 }
 else { x with L := x.L ++ [e.1], P := x.P ++ [e.1], I := x.I.set e.1 (x.m : Int), m := x.m + 1 }
structure Good (n : Nat) (x : St) : Prop where
 lI : x.I.length = n
 lO : x.O.length = n
 lt : ∀ u ∈ x.L, u < n
 nod : x.L.Nodup
 out : ∀ u, u ∉ x.L → x.I.getD u (-1) = -1 ∧ x.O.getD u (-1) = -1
 rI : ∀ u ∈ x.L, 0 ≤ x.I.getD u (-1) ∧ x.I.getD u (-1) < x.m
 rO : ∀ u ∈ x.L, x.O.getD u (-1) = -1 ∨ (x.I.getD u (-1) < x.O.getD u (-1) ∧ x.O.getD u (-1) < x.m)
 srt : x.L.Pairwise fun a b => x.I.getD a (-1) < x.I.getD b (-1)
 stk : x.P = x.L.filter fun u => x.O.getD u (-1) == -1
 nest : ∀ u ∈ x.L, ∀ v ∈ x.L, x.I.getD u (-1) < x.I.getD v (-1) → x.O.getD u (-1) = -1 ∨ x.O.getD u (-1) < x.I.getD v (-1) ∨ (x.O.getD v (-1) ≠ -1 ∧ x.O.getD v (-1) < x.O.getD u (-1))
 dis : ∀ u ∈ x.L, ∀ v ∈ x.L, x.O.getD u (-1) ≠ -1 → x.O.getD u (-1) ≠ x.I.getD v (-1) ∧ (x.O.getD v (-1) = x.O.getD u (-1) → u = v)
 cnt : x.m + x.P.length = 2 * x.L.length
def EvOk (n : Nat) (x : St) (e : Ev) : Prop :=
 e.2.2.1 = x.m ∧ (if e.2.2.2 = true then x.P.getLast? = some e.1 else e.1 < n ∧ e.1 ∉ x.L)
theorem getD_setO {α : Type} (l : List α) (i j : Nat) (a d : α) : (l.set i a).getD j d = if i = j ∧ i < l.length then a else l.getD j d := by
 rw [List.getD_eq_getElem?_getD, List.getElem?_set]
 by_cases h : i = j
 ·subst h
  by_cases hl : i < l.length
  ·simp [hl]
  ·simp [hl, List.getD_eq_getElem?_getD, List.getElem?_eq_none (Nat.le_of_not_lt hl)]
 ·simp [h, List.getD_eq_getElem?_getD]
theorem Good.into {n : Nat} {x : St} (g : Good n x) {v : Nat} (hv : v < n) (hn : v ∉ x.L) :
  Good n { x with L := x.L ++ [v], P := x.P ++ [v], I := x.I.set v (x.m : Int), m := x.m + 1 } := by
 have hI : ∀ u, (x.I.set v (x.m : Int)).getD u (-1) = if v = u then (x.m : Int) else x.I.getD u (-1) := by
  intro u
  rw [getD_setO]
  by_cases h : v = u
  ·rw [if_pos h, if_pos ⟨h, by rw [g.lI]; exact hv⟩]
  ·rw [if_neg h, if_neg (fun q => h q.1)]
 have ho := g.out v hn
 have hne : ∀ u ∈ x.L, v ≠ u := fun u hu e => hn (e ▸ hu)
 refine ⟨by simp [g.lI], g.lO, ?_, ?_, ?_, ?_, ?_, ?_, ?_, ?_, ?_, ?_⟩ <;> dsimp only
 ·intro u hu
  rcases List.mem_append.1 hu with h | h
  ·exact g.lt u h
  ·simp at h; subst h; exact hv
 ·rw [List.nodup_append]
  refine ⟨g.nod, by simp, ?_⟩
  intro a ha b hb e
  simp at hb
  subst hb; subst e
  exact hn ha
 ·intro u hu
  simp only [List.mem_append, List.mem_singleton, not_or] at hu
  rw [hI, if_neg (fun e => hu.2 e.symm)]
  exact g.out u hu.1
 ·intro u hu
  rw [hI]
  rcases List.mem_append.1 hu with h | h
  ·rw [if_neg (hne u h)]
   have := g.rI u h
   omega
  ·simp at h; subst h; rw [if_pos rfl]; omega
 ·intro u hu
  rw [hI]
  rcases List.mem_append.1 hu with h | h
  ·rw [if_neg (hne u h)]
   have := g.rO u h
   omega
  ·simp at h; subst h; exact .inl ho.2
 ·rw [List.pairwise_append]
  refine ⟨?_, by simp, ?_⟩
  ·refine g.srt.imp_of_mem ?_
   intro a b ha hb h
   rw [hI, hI, if_neg (hne a ha), if_neg (hne b hb)]
   exact h
  ·intro a ha b hb
   simp at hb; subst hb
   rw [hI, hI, if_neg (hne a ha), if_pos rfl]
   exact (g.rI a ha).2
 ·rw [List.filter_append, ← g.stk]
  simp only [List.filter_cons, List.filter_nil, ho.2]
  rfl
 ·intro u hu w hw
  rw [hI, hI]
  rcases List.mem_append.1 hu with h | h
  ·rw [if_neg (hne u h)]
   rcases List.mem_append.1 hw with k | k
   ·rw [if_neg (hne w k)]; exact g.nest u h w k
   ·simp at k; subst k
    rw [if_pos rfl]
    intro _
    have := g.rO u h
    omega
  ·simp at h; subst h
   rw [if_pos rfl]
   exact fun _ => .inl ho.2
 ·intro u hu w hw hq
  rw [hI]
  rcases List.mem_append.1 hu with h | h
  ·rcases List.mem_append.1 hw with k | k
   ·rw [if_neg (hne w k)]; exact g.dis u h w k hq
   ·simp at k; subst k
    rw [if_pos rfl]
    have := g.rO u h
    refine ⟨by omega, fun e => ?_⟩
    rw [ho.2] at e
    exact absurd e.symm hq
  ·simp at h; subst h
   exact absurd ho.2 hq
 ·have := g.cnt
  simp only [List.length_append, List.length_cons, List.length_nil]
  omega
theorem filter_last {α : Type} [BEq α] [LawfulBEq α] {l : List α} (hn : l.Nodup) {p q : α → Bool} {v : α} (hv : (l.filter p).getLast? = some v)
  (hq : ∀ u, q u = (p u && !(u == v))) : l.filter q = (l.filter p).dropLast := by
 have e : l.filter q = (l.filter p).filter fun u => !(u == v) := by
  rw [List.filter_filter]
  exact List.filter_congr fun u _ => by rw [hq u, Bool.and_comm]
 rw [e]
 have hnp := hn.filter p
 generalize l.filter p = m at *
 rcases List.eq_nil_or_concat m with rfl | ⟨r, a, rfl⟩
 ·simp at hv
 ·rw [List.concat_eq_append] at *
  simp at hv
  subst hv
  rw [List.pairwise_append] at hnp
  simp only [List.filter_append, List.filter_cons, List.filter_nil, beq_self_eq_true, Bool.not_true, Bool.false_eq_true, if_false, List.append_nil, List.dropLast_concat]
  rw [List.filter_eq_self]
  intro u hu
  have := hnp.2.2 u hu a (by simp)
  simpa using this
theorem Good.leave {n : Nat} {x : St} (g : Good n x) {v : Nat} (hl : x.P.getLast? = some v) :
  Good n { x with P := x.P.dropLast, O := x.O.set v (x.m : Int), m := x.m + 1 } := by
 have hvP : v ∈ x.P := List.mem_of_getLast? hl
 have hvP' := hvP
 rw [g.stk, List.mem_filter] at hvP'
 have hvL := hvP'.1
 have hvO : x.O.getD v (-1) = -1 := by simpa using hvP'.2
 have hvn := g.lt v hvL
 have hO : ∀ u, (x.O.set v (x.m : Int)).getD u (-1) = if v = u then (x.m : Int) else x.O.getD u (-1) := by
  intro u
  rw [getD_setO]
  by_cases h : v = u
  ·rw [if_pos h, if_pos ⟨h, by rw [g.lO]; exact hvn⟩]
  ·rw [if_neg h, if_neg (fun q => h q.1)]
 have hlast : ∀ w ∈ x.L, x.I.getD v (-1) < x.I.getD w (-1) → x.O.getD w (-1) ≠ -1 := by
  intro w hw hlt ho
  have hwP : w ∈ x.P := by rw [g.stk, List.mem_filter]; exact ⟨hw, by simpa using ho⟩
  have hs : x.P.Pairwise fun a b => x.I.getD a (-1) < x.I.getD b (-1) := by rw [g.stk]; exact g.srt.filter _
  rcases List.eq_nil_or_concat x.P with he | ⟨r, a, he⟩
  ·rw [he] at hl; cases hl
  ·rw [List.concat_eq_append] at he
   rw [he] at hl hwP hs
   simp at hl
   subst hl
   rw [List.pairwise_append] at hs
   rcases List.mem_append.1 hwP with h | h
   ·have := hs.2.2 w h a (by simp); omega
   ·simp at h; subst h; omega
 refine ⟨g.lI, by simp [g.lO], g.lt, g.nod, ?_, ?_, ?_, g.srt, ?_, ?_, ?_, ?_⟩ <;> dsimp only
 ·intro u hu
  rw [hO, if_neg (fun e : v = u => hu (e ▸ hvL))]
  exact g.out u hu
 ·intro u hu
  have := g.rI u hu
  omega
 ·intro u hu
  rw [hO]
  have h1 := g.rI u hu
  have h2 := g.rO u hu
  split <;> omega
 ·rw [g.stk] at hl
  rw [g.stk]
  refine (filter_last g.nod hl fun u => ?_).symm
  rw [hO]
  by_cases h : v = u
  ·subst h; rw [if_pos rfl]
   have : ((x.m : Int) == -1) = false := beq_eq_false_iff_ne.mpr (by omega)
   rw [this]; simp
  ·rw [if_neg h, show (u == v) = false from beq_eq_false_iff_ne.mpr (fun e => h e.symm)]; simp
 ·intro u hu w hw hlt
  rw [hO, hO]
  have h0 := g.nest u hu w hw hlt
  have hru := g.rO u hu
  by_cases h : v = u
  ·subst h
   rw [if_pos rfl]
   have hwo := hlast w hw hlt
   have hrw := g.rO w hw
   rw [if_neg (by rintro rfl; omega)]
   omega
  ·rw [if_neg h]
   by_cases h' : v = w
   ·subst h'
    rw [if_pos rfl]
    omega
   ·rw [if_neg h']; exact h0
 ·intro u hu w hw hq
  rw [hO] at hq ⊢
  rw [hO]
  have hru := g.rO u hu
  have hrw := g.rO w hw
  have hiw := g.rI w hw
  by_cases h : v = u
  ·subst h
   rw [if_pos rfl] at hq ⊢
   refine ⟨by omega, fun e => ?_⟩
   by_cases h' : v = w
   ·exact h'
   ·rw [if_neg h'] at e; omega
  ·rw [if_neg h] at hq ⊢
   have h0 := g.dis u hu w hw hq
   refine ⟨h0.1, fun e => ?_⟩
   by_cases h' : v = w
   ·rw [if_pos h'] at e; omega
   ·rw [if_neg h'] at e; exact h0.2 e
 ·have := g.cnt
  have hp : 0 < x.P.length := List.length_pos_of_mem hvP
  simp only [List.length_dropLast]
  omega
theorem Good.step {n : Nat} {x : St} (g : Good n x) {e : Ev} (h : EvOk n x e) : Good n (x.step e) := by
 obtain ⟨h1, h2⟩ := h
 unfold St.step
 split
 ·rename_i hl
  rw [if_pos hl] at h2
  exact g.leave h2
 ·rename_i hl
  rw [if_neg hl] at h2
  exact g.into h2.1 h2.2
def AllOk (n : Nat) : St → List Ev → Prop
 | _, [] => True
 | x, e :: r => EvOk n x e ∧ AllOk n (x.step e) r
def St.run (x : St) (l : List Ev) : St := l.foldl St.step x
theorem run_app (x : St) (a b : List Ev) : x.run (a ++ b) = (x.run a).run b := by unfold St.run; rw [List.foldl_append]
theorem Good.run {n : Nat} : ∀ {l : List Ev} {x : St}, Good n x → AllOk n x l → Good n (x.run l) := by
 intro l
 induction l with
 | nil => intro x g _; exact g
 | cons e l ih => intro x g h; exact ih (g.step h.1) h.2
def st0 (n : Nat) : St := { L := [], P := [], I := List.replicate n (-1), O := List.replicate n (-1), m := 0 }
end Go.Vc

namespace Go.Vc
set_option autoImplicit false
structure Mono (x y : St) : Prop where
 L : ∃ l, y.L = x.L ++ l ∧ ∀ u ∈ l, (x.m : Int) ≤ y.I.getD u (-1)
 I : ∀ u ∈ x.L, y.I.getD u (-1) = x.I.getD u (-1)
 O : ∀ u ∈ x.L, x.O.getD u (-1) ≠ -1 → y.O.getD u (-1) = x.O.getD u (-1)
 O' : ∀ u ∈ x.L, x.O.getD u (-1) = -1 → y.O.getD u (-1) = -1 ∨ (x.m : Int) ≤ y.O.getD u (-1)
 m : x.m ≤ y.m
theorem Mono.refl (x : St) : Mono x x := ⟨⟨[], by simp, by simp⟩, fun _ _ => rfl, fun _ _ _ => rfl, fun _ _ h => .inl h, Nat.le_refl _⟩
theorem Mono.step {n : Nat} {x : St} (g : Good n x) {e : Ev} (h : EvOk n x e) : Mono x (x.step e) := by
 obtain ⟨h1, h2⟩ := h
 unfold St.step
 split
 ·rename_i hl
  rw [if_pos hl] at h2
  have hP : e.1 ∈ x.P := List.mem_of_getLast? h2
  rw [g.stk, List.mem_filter] at hP
  have hO : x.O.getD e.1 (-1) = -1 := by simpa using hP.2
  have hn := g.lt _ hP.1
  refine ⟨⟨[], by simp, by simp⟩, fun _ _ => rfl, ?_, ?_, Nat.le_succ _⟩ <;> dsimp only
  ·intro u hu hq
   rw [getD_setO]
   by_cases q : e.1 = u
   ·subst q; exact absurd hO hq
   ·rw [if_neg (fun z => q z.1)]
  ·intro u hu hq
   rw [getD_setO]
   by_cases q : e.1 = u
   ·rw [if_pos ⟨q, by rw [g.lO]; exact hn⟩]; right; omega
   ·rw [if_neg (fun z => q z.1)]; exact .inl hq
 ·rename_i hl
  rw [if_neg hl] at h2
  have hI : ∀ u, (x.I.set e.1 (x.m : Int)).getD u (-1) = if e.1 = u then (x.m : Int) else x.I.getD u (-1) := by
   intro u
   rw [getD_setO]
   by_cases q : e.1 = u
   ·rw [if_pos q, if_pos ⟨q, by rw [g.lI]; exact h2.1⟩]
   ·rw [if_neg q, if_neg (fun z => q z.1)]
  refine ⟨⟨[e.1], rfl, ?_⟩, ?_, fun _ _ _ => rfl, fun _ _ h => .inl h, Nat.le_succ _⟩ <;> dsimp only
  ·intro u hu
   simp at hu
   rw [hI, if_pos hu.symm]; omega
  ·intro u hu
   rw [hI, if_neg (fun q : e.1 = u => h2.2 (q ▸ hu))]
theorem Mono.trans {x y z : St} (a : Mono x y) (b : Mono y z) : Mono x z := by
 obtain ⟨l, e1, h1⟩ := a.L
 obtain ⟨l', e2, h2⟩ := b.L
 have sub : ∀ u ∈ x.L, u ∈ y.L := fun u hu => by rw [e1]; exact List.mem_append_left _ hu
 have hm := a.m
 refine ⟨⟨l ++ l', by rw [e2, e1, List.append_assoc], ?_⟩, ?_, ?_, ?_, Nat.le_trans a.m b.m⟩
 ·intro u hu
  rcases List.mem_append.1 hu with h | h
  ·rw [b.I u (by rw [e1]; exact List.mem_append_right _ h)]; exact h1 u h
  ·have := h2 u h; omega
 ·intro u hu; rw [b.I u (sub u hu), a.I u hu]
 ·intro u hu h
  have := a.O u hu h
  rw [b.O u (sub u hu) (by rw [this]; exact h), this]
 ·intro u hu h
  rcases a.O' u hu h with q | q
  ·rcases b.O' u (sub u hu) q with r | r
   ·exact .inl r
   ·right; omega
  ·by_cases r : y.O.getD u (-1) = -1
   ·omega
   ·rw [b.O u (sub u hu) r]; exact .inr q
theorem Mono.run {n : Nat} : ∀ {l : List Ev} {x : St}, Good n x → AllOk n x l → Mono x (x.run l) := by
 intro l
 induction l with
 | nil => intro x _ _; exact Mono.refl x
 | cons e l ih => intro x g h; exact (Mono.step g h.1).trans (ih (g.step h.1) h.2)
structure Done (n : Nat) (y : St) : Prop extends Good n y where
 P0 : y.P = []
theorem Done.o {n : Nat} {y : St} (g : Done n y) {u : Nat} (hu : u ∈ y.L) : y.O.getD u (-1) ≠ -1 := by
 intro h
 have : u ∈ y.P := by rw [g.stk, List.mem_filter]; exact ⟨hu, by simpa using h⟩
 rw [g.P0] at this; cases this
def MaxOf (D : Int) (S : Nat → Prop) (f : Nat → Int) : Prop := 0 ≤ D ∧ (∀ v, S v → f v ≤ D) ∧ (D = 0 ∨ ∃ v, S v ∧ D = f v)
theorem MaxOf.uniq {D D' : Int} {S : Nat → Prop} {f : Nat → Int} (h : MaxOf D S f) (h' : MaxOf D' S f) (hf : ∀ v, S v → 0 ≤ f v) : D = D' := by
 obtain ⟨a0, a1, a2⟩ := h
 obtain ⟨b0, b1, b2⟩ := h'
 rcases a2 with rfl | ⟨v, hv, rfl⟩
 ·rcases b2 with rfl | ⟨w, hw, rfl⟩
  ·rfl
  ·have := a1 w hw; omega
 ·have := b1 v hv
  rcases b2 with rfl | ⟨w, hw, rfl⟩
  ·have := hf v hv; omega
  ·have := a1 w hw; omega
def finT (K : Nat → List Int) (n : Nat) : St := (st0 n).run (evsT K n)
end Go.Vc

namespace Go.Vc
open Go.Proofs
set_option maxRecDepth 10000
set_option maxHeartbeats 4000000
def kidsOf (l : List NodeD) (i : Nat) : List Int := (l.getD i nodeTy.dflt).2.2.2.2.2.2
end Go.Vc

namespace Go.Vc
open Go.Proofs
set_option maxRecDepth 10000
set_option maxHeartbeats 4000000
def fin (l : List NodeD) : St := finT (kidsOf l) l.length
def natI (l : List Nat) : List Int := List.map (fun u : Nat => (u : Int)) l
theorem natI_snoc (l : List Nat) (v : Nat) : natI (l ++ [v]) = natI l ++ [(v : Int)] := by unfold natI; rw [List.map_append]; rfl
def flat (x : St) : List (Int × Int) := (List.range x.I.length).map fun u => (x.I.getD u (-1), x.O.getD u (-1))
theorem rep_step {α : Type} {a b : α} (i n : Nat) (h : i < n) : (List.replicate i a ++ List.replicate (n - i) b).set i a = List.replicate (i + 1) a ++ List.replicate (n - (i + 1)) b := by
 rw [List.set_append_right _ _ (by simp), List.length_replicate, Nat.sub_self]
 obtain ⟨m, hm⟩ : ∃ m, n - i = m + 1 := ⟨n - i - 1, by omega⟩
 rw [hm, List.replicate_succ, List.set_cons_zero, show n - (i + 1) = m by omega, List.replicate_succ']
 simp
end Go.Vc

namespace Go.Vc
set_option autoImplicit false
def sI (I : List Int) : List Bool := I.map fun v => decide (0 ≤ v)
theorem sI_set (I : List Int) (k m : Nat) : sI (I.set k (m : Int)) = (sI I).set k true := by
 unfold sI; rw [List.map_set, decide_eq_true (by omega : (0 : Int) ≤ (m : Int))]
theorem sI_rep (n : Nat) : sI (List.replicate n (-1)) = List.replicate n false := by
 unfold sI; rw [List.map_replicate]; rfl
theorem sI_getD (I : List Int) (k : Nat) (h : k < I.length) : (sI I).getD k true = decide (0 ≤ I.getD k 0) := by
 unfold sI; simp [List.getD, h]
def dR (K : Nat → List Int) (x : St) (i j : Nat) : St := x.run (dfs K (sI x.I) i j x.m).1
variable {K : Nat → List Int}
theorem run_cons (x : St) (e : Ev) (l : List Ev) : x.run (e :: l) = (x.step e).run l := rfl
theorem dR_fst : ∀ (s : List Bool) (i j c : Nat) (x : St), sI x.I = s → x.m = c →
  sI (x.run (dfs K s i j c).1).I = (dfs K s i j c).2.1 ∧ (x.run (dfs K s i j c).1).m = (dfs K s i j c).2.2 := by
 refine dfs_ind (K := K) ?_ ?_ ?_
 ·intro s i j c h x hs hm
  rw [dfs_end h]
  exact ⟨hs, by show x.m + 1 = c + 1; rw [hm]⟩
 ·intro s i j c h hk ih x hs hm
  rw [dfs_bad h hk]
  exact ih x hs hm
 ·intro s i j c h hk i1 i2 x hs hm
  rw [dfs_ok h hk]
  dsimp only
  rw [run_cons, run_app]
  have a := i1 (x.step (((K i).getD j 0).toNat, (i : Int), c, false)) (by show sI (x.I.set _ (x.m : Int)) = _; rw [sI_set, hs]) (by show x.m + 1 = c + 1; rw [hm])
  exact i2 _ a.1 a.2
theorem dR_end {x : St} {i j : Nat} (h : ¬ j < (K i).length) : dR K x i j = x.step (i, 0, x.m, true) := by
 unfold dR; rw [dfs_end h]; rfl
theorem dR_bad {x : St} {i j : Nat} (h : j < (K i).length) (hk : okK (sI x.I) ((K i).getD j 0) = false) : dR K x i j = dR K x i (j + 1) := by
 unfold dR; rw [dfs_bad h hk]
theorem dR_ok {x : St} {i j : Nat} (h : j < (K i).length) (hk : okK (sI x.I) ((K i).getD j 0) = true) :
    dR K x i j = dR K (dR K (x.step (((K i).getD j 0).toNat, (i : Int), x.m, false)) ((K i).getD j 0).toNat 0) i (j + 1) := by
  have hI : sI (x.step (((K i).getD j 0).toNat, (i : Int), x.m, false)).I = (sI x.I).set ((K i).getD j 0).toNat true := sI_set ..
  have hm : (x.step (((K i).getD j 0).toNat, (i : Int), x.m, false)).m = x.m + 1 := rfl
  have a := dR_fst (K := K) _ ((K i).getD j 0).toNat 0 _ _ hI hm
  have e1 : dR K (x.step (((K i).getD j 0).toNat, (i : Int), x.m, false)) ((K i).getD j 0).toNat 0 =
      (x.step (((K i).getD j 0).toNat, (i : Int), x.m, false)).run (dfs K ((sI x.I).set ((K i).getD j 0).toNat true) ((K i).getD j 0).toNat 0 (x.m + 1)).1 := by
    unfold dR; rw [hI, hm]
  rw [e1]
  generalize hy : (x.step (((K i).getD j 0).toNat, (i : Int), x.m, false)).run (dfs K ((sI x.I).set ((K i).getD j 0).toNat true) ((K i).getD j 0).toNat 0 (x.m + 1)).1 = y at *
  unfold dR
  rw [a.1, a.2, dfs_ok h hk]
  dsimp only
  rw [run_cons, run_app, hy]
theorem dR_ind {P : St → Nat → Nat → Prop} (he : ∀ x i j, ¬ j < (K i).length → P x i j) (hb : ∀ x i j, j < (K i).length → okK (sI x.I) ((K i).getD j 0) = false → P x i (j + 1) → P x i j)
  (ho : ∀ x i j, j < (K i).length → okK (sI x.I) ((K i).getD j 0) = true → P (x.step (((K i).getD j 0).toNat, (i : Int), x.m, false)) ((K i).getD j 0).toNat 0 →
   P (dR K (x.step (((K i).getD j 0).toNat, (i : Int), x.m, false)) ((K i).getD j 0).toNat 0) i (j + 1) → P x i j) : ∀ x i j, P x i j := by
 have main : ∀ (s : List Bool) (i j c : Nat) (x : St), sI x.I = s → x.m = c → P x i j := by
  refine dfs_ind (K := K) ?_ ?_ ?_
  ·intro s i j c h x hs hm; exact he x i j h
  ·intro s i j c h hk ih x hs hm; subst hs; exact hb x i j h hk (ih x rfl hm)
  ·intro s i j c h hk i1 i2 x hs hm
   subst hs; subst hm
   have hI : sI (x.step (((K i).getD j 0).toNat, (i : Int), x.m, false)).I = (sI x.I).set ((K i).getD j 0).toNat true := sI_set ..
   have a := dR_fst (K := K) _ ((K i).getD j 0).toNat 0 (x.m + 1) (x.step (((K i).getD j 0).toNat, (i : Int), x.m, false)) hI rfl
   refine ho x i j h hk (i1 _ hI rfl) (i2 _ ?_ ?_)
   ·unfold dR; rw [hI]; exact a.1
   ·unfold dR; rw [hI]; exact a.2
 exact fun x i j => main _ i j _ x rfl rfl
theorem dR_bnd : ∀ (x : St) (i j : Nat), (dR K x i j).m + 2 * unseen (sI (dR K x i j).I) ≤ x.m + 2 * unseen (sI x.I) + 1 ∧ (dR K x i j).I.length = x.I.length ∧ (dR K x i j).O.length = x.O.length ∧
  (dR K x i j).L.length + x.m ≤ x.L.length + (dR K x i j).m ∧ unseen (sI (dR K x i j).I) ≤ unseen (sI x.I) := by
 refine dR_ind (K := K) ?_ ?_ ?_
 ·intro x i j h
  rw [dR_end h]
  refine ⟨?_, rfl, List.length_set .., ?_, Nat.le_refl _⟩
  ·show x.m + 1 + _ ≤ _; exact Nat.le_of_eq (by show x.m + 1 + 2 * unseen (sI x.I) = _; omega)
  ·show x.L.length + x.m ≤ x.L.length + (x.m + 1); omega
 ·intro x i j h hk ih
  rw [dR_bad h hk]; exact ih
 ·intro x i j h hk i1 i2
  rw [dR_ok h hk]
  have hI : sI (x.step (((K i).getD j 0).toNat, (i : Int), x.m, false)).I = (sI x.I).set ((K i).getD j 0).toNat true := sI_set ..
  have hu := unseen_set (okK_spec hk).2.2
  have hm : (x.step (((K i).getD j 0).toNat, (i : Int), x.m, false)).m = x.m + 1 := rfl
  have hL : (x.step (((K i).getD j 0).toNat, (i : Int), x.m, false)).L.length = x.L.length + 1 := by
   show (x.L ++ [_]).length = _; simp
  have hIl : (x.step (((K i).getD j 0).toNat, (i : Int), x.m, false)).I.length = x.I.length := List.length_set ..
  have hOl : (x.step (((K i).getD j 0).toNat, (i : Int), x.m, false)).O.length = x.O.length := rfl
  rw [hI, hm, hL, hIl, hOl] at i1
  exact ⟨by omega, by omega, by omega, by omega, by omega⟩
def StE (x y : St) : Prop := x.L = y.L ∧ x.I = y.I ∧ x.O = y.O ∧ x.m = y.m
theorem StE.step {x y : St} (h : StE x y) {e e' : Ev} (h1 : e.1 = e'.1) (h2 : e.2.2.2 = e'.2.2.2) : StE (x.step e) (y.step e') := by
 obtain ⟨a, b, c, d⟩ := h
 unfold St.step
 rw [← h2]
 split
 ·exact ⟨a, b, by dsimp only; rw [c, d, h1], by dsimp only; rw [d]⟩
 ·exact ⟨by dsimp only; rw [a, h1], by dsimp only; rw [b, d, h1], c, by dsimp only; rw [d]⟩
theorem StE.run : ∀ {l : List Ev} {x y : St}, StE x y → StE (x.run l) (y.run l) := by
 intro l
 induction l with
 | nil => intro x y h; exact h
 | cons e l ih => intro x y h; exact ih (h.step rfl rfl)
theorem StE.dR {x y : St} (h : StE x y) (i j : Nat) : StE (dR K x i j) (dR K y i j) := by
 unfold Go.Vc.dR
 rw [← h.2.1, ← h.2.2.2]
 exact h.run
def wkS (K : Nat → List Int) (L : List Nat) (I O : List Int) (i m : Nat) : St := dR K (({ L := L, P := [], I := I, O := O, m := m } : St).step (i, 0, m, false)) i 0
theorem fin_wk (K : Nat → List Int) (n : Nat) (h : 0 < n) : StE (finT K n) (wkS K [] (List.replicate n (-1)) (List.replicate n (-1)) 0 0) := by
 have e : finT K n = dR K ((st0 n).step (0, -1, 0, false)) 0 0 := by
  unfold finT evsT dR
  rw [if_neg (by omega)]
  have e2 : sI ((st0 n).step (0, -1, 0, false)).I = (List.replicate n false).set 0 true := by
   show sI ((List.replicate n (-1)).set 0 ((0 : Nat) : Int)) = _
   rw [sI_set, sI_rep]
  have e3 : ((st0 n).step (0, -1, 0, false)).m = 1 := rfl
  rw [e2, e3, run_cons, runS, runS, List.append_nil]
 rw [e]
 unfold wkS
 exact (StE.step (x := st0 n) ⟨rfl, rfl, rfl, rfl⟩ rfl rfl).dR 0 0
end Go.Vc

namespace Go.Vc
open Go.Proofs
set_option maxRecDepth 10000
set_option maxHeartbeats 4000000
def hPre (t : List NodeD) (L : List Nat) (I O : List Int) (k : Int) (m : Nat) : Prop :=
 t.length ≤ 45 ∧ I.length = t.length ∧ O.length = t.length ∧ (0 ≤ k ∧ k < t.length) ∧ m + 2 * unseen (sI (I.set k.toNat (m : Int))) + 2 ≤ 200 ∧ L.length ≤ m
theorem cnd13 {I : List Int} {n : Nat} (hI : I.length = n) (k : Int) : (decide (k ≥ 0) && decide (k < (n : Int)) && decide (I.getD k.toNat 0 < 0)) = okK (sI I) k := by
  unfold okK
  by_cases h1 : k < 0
  · rw [decide_eq_false (by omega : ¬ k ≥ 0)]; rfl
  · rw [decide_eq_true (by omega : k ≥ 0)]
    by_cases h2 : k < (n : Int)
    · rw [decide_eq_true h2, sI_getD I k.toNat (by omega)]
      by_cases h3 : I.getD k.toNat 0 < 0
      · rw [decide_eq_true h3, decide_eq_false (by omega : ¬ 0 ≤ I.getD k.toNat 0)]; rfl
      · rw [decide_eq_false h3, decide_eq_true (by omega : 0 ≤ I.getD k.toNat 0)]; rfl
    · have : (sI I).getD k.toNat true = true := by
        rw [List.getD_eq_getElem?_getD, List.getElem?_eq_none (by unfold sI; rw [List.length_map]; omega)]; rfl
      rw [decide_eq_false h2, this]; rfl
theorem hWalkN (N : Nat) : ∀ (t : List NodeD) (L : List Nat) (I O : List Int) (k : Int) (m : Nat),
  FnM BB 83 [.agg [.rd nodeTy t], .int .i64 k, .own 0, .own 1, .own 2, .int .i64 m] [(0, .own intTy (natI L)), (1, .ow intTy I), (2, .ow intTy O)]
   (hPre t L I O k m ∧ unseen (sI (I.set k.toNat (m : Int))) < N)
   (.tup [.own 0, .int .i64 ((wkS (kidsOf t) L I O k.toNat m).m : Int)]) [(0, .own intTy (natI (wkS (kidsOf t) L I O k.toNat m).L)), (1, .ow intTy (wkS (kidsOf t) L I O k.toNat m).I), (2, .ow intTy (wkS (kidsOf t) L I O k.toNat m).O)] := by
 induction N with
 | zero => intro t L I O k m; exact ⟨Tryz.call83, fun h => absurd h.2 (Nat.not_lt_zero _)⟩
 | succ N ih =>
  intro t L I O k m
  refine FnM.intro (N := 79) [0, 1, 2, 3, 4, 5, 6, 12, 13, 14, 15, 34, 61] [] 3 Tryz.call83 Tryz.func83 rfl rfl (by kernel_rfl) (fun hpre => ?_)
  repeat' ((conv => whnf);first|(with_reducible first|rfl|exact absTF|exact absFT)|exact True.intro|intro _|refine And.intro ?_ ?_|refine Fin.mk ?_|refine W1 rfl ?_ ?_|refine W2 rfl ?_ ?_|refine W3 rfl ?_ ?_|refine W4 ?_ ?_|refine W5 rfl ?_ ?_|refine W6 ?_ ?_|refine AppN.mk ?_|refine X1 (W1 rfl ?_ ?_)|refine X1 (W2 rfl ?_ ?_)|refine X2 (W7 rfl ?_ ?_)|refine X3 (W7 rfl ?_ ?_)|refine X4 (W7 rfl ?_ ?_)|refine X5 (W7 rfl ?_ ?_))
  all_goals (try (conv => whnf))
  all_goals (try first|exact obA|refine Ob.mk ?_)
  all_goals (obtain ⟨⟨ht, hIl, hOl, hk, hm, hL⟩, hN⟩ := hpre)
  ·have : (natI L).length = L.length := by unfold natI; simp
   rw [this, List.length_singleton]
   simp only [bytes3, bytesB3]
   omega
  ·omega
  ·omega
  ·constructor <;> omega
  generalize hx0 : (({ L := L, P := [], I := I, O := O, m := m } : St).step (k.toNat, 0, m, false)) = x0
  have hxI : x0.I = I.set k.toNat (m : Int) := by rw [← hx0]; rfl
  have hxL : x0.L = L ++ [k.toNat] := by rw [← hx0]; rfl
  have hxO : x0.O = O := by rw [← hx0]; rfl
  have hxm : x0.m = m + 1 := by rw [← hx0]; rfl
  have hwk : wkS (kidsOf t) L I O k.toNat m = dR (kidsOf t) x0 k.toNat 0 := by unfold wkS; rw [hx0]
  rw [hwk]
  refine LoopStop.mk (α := St × Nat) (fun a => [(5, .int .i64 a.1.m), (14, .int .i64 a.2)]) (fun a => [(0, .own intTy (natI a.1.L)), (1, .ow intTy a.1.I), (2, .ow intTy a.1.O)]) 60
   (fun a => dR (kidsOf t) a.1 k.toNat a.2 = dR (kidsOf t) x0 k.toNat 0 ∧ a.1.I.length = t.length ∧ a.1.O.length = t.length ∧ a.1.m + 2 * unseen (sI a.1.I) + 1 ≤ 200 ∧ a.1.L.length ≤ a.1.m ∧ unseen (sI a.1.I) ≤ N ∧ a.2 ≤ (kidsOf t k.toNat).length)
   (fun a => (kidsOf t k.toNat).length - a.2) (x0, 0) ⟨rfl, by rw [hxI, List.length_set]; exact hIl, by rw [hxO]; exact hOl, by rw [hxI, hxm]; omega, by rw [hxL, hxm, List.length_append, List.length_singleton]; omega, by rw [hxI]; omega, Nat.zero_le _⟩ ?_ (fun a ha => ?_)
  ·repeat' ((conv => whnf);first|(with_reducible first|rfl|exact absTF|exact absFT)|exact True.intro|intro _|refine And.intro ?_ ?_|refine Fin.mk ?_|refine W1 rfl ?_ ?_|refine W2 rfl ?_ ?_|refine W3 rfl ?_ ?_|refine W4 ?_ ?_|refine W5 rfl ?_ ?_|refine W6 ?_ ?_|refine AppN.mk ?_|refine X1 (W1 rfl ?_ ?_)|refine X1 (W2 rfl ?_ ?_)|refine X2 (W7 rfl ?_ ?_)|refine X3 (W7 rfl ?_ ?_)|refine X4 (W7 rfl ?_ ?_)|refine X5 (W7 rfl ?_ ?_))
   all_goals (try (conv => whnf))
   all_goals (try first|exact obA|refine Ob.mk ?_)
   ·show (m : Int) + 1 = (x0.m : Int); rw [hxm]; omega
   ·show Chunk.own intTy _ = Chunk.own intTy (natI x0.L)
    rw [hxL, natI_snoc, Int.toNat_of_nonneg hk.1]
   ·show Chunk.ow intTy _ = Chunk.ow intTy x0.I
    rw [hxI]
   ·show Chunk.ow intTy _ = Chunk.ow intTy x0.O
    rw [hxO]
  ·obtain ⟨x, j⟩ := a
   dsimp only at ha ⊢
   obtain ⟨hD, hI2, hO2, hm2, hL2, hu2, hj2⟩ := ha
   repeat' ((conv => whnf);first|(with_reducible first|rfl|exact absTF|exact absFT)|exact True.intro|intro _|refine And.intro ?_ ?_|refine Fin.mk ?_|refine W1 rfl ?_ ?_|refine W2 rfl ?_ ?_|refine W3 rfl ?_ ?_|refine W4 ?_ ?_|refine W5 rfl ?_ ?_|refine W6 ?_ ?_|refine AppN.mk ?_|refine X1 (W1 rfl ?_ ?_)|refine X1 (W2 rfl ?_ ?_)|refine X2 (W7 rfl ?_ ?_)|refine X3 (W7 rfl ?_ ?_)|refine X4 (W7 rfl ?_ ?_)|refine X5 (W7 rfl ?_ ?_))
   all_goals (try (conv => whnf))
   all_goals (try first|exact obA|refine Ob.mk ?_)
   all_goals (try simp only [Int.toNat_natCast] at *)
   ·rename_i h1 h2 h3
    have hc : okK (sI x.I) ((kidsOf t k.toNat).getD j 0) = true := by rw [← cnd13 hI2]; exact h3
    have hks := okK_spec hc
    have hls : (sI x.I).length = t.length := by unfold sI; rw [List.length_map]; exact hI2
    have hu := unseen_set hks.2.2
    rw [← sI_set x.I ((kidsOf t k.toNat).getD j 0).toNat x.m] at hu
    show hPre t x.L x.I x.O ((kidsOf t k.toNat).getD j 0) x.m ∧ unseen (sI (x.I.set ((kidsOf t k.toNat).getD j 0).toNat (x.m : Int))) < N
    exact ⟨⟨ht, hI2, hO2, ⟨hks.1, by omega⟩, by omega, hL2⟩, by omega⟩
   ·rename_i h1 h2 h3
    have hj : j < (kidsOf t k.toNat).length := by have h := of_decide_eq_true h2; exact Int.ofNat_lt.mp h
    have hc : okK (sI x.I) ((kidsOf t k.toNat).getD j 0) = true := by rw [← cnd13 hI2]; exact h3
    rw [dR_ok hj hc] at hD
    have hks := okK_spec hc
    have hu := unseen_set hks.2.2
    rw [← sI_set x.I ((kidsOf t k.toNat).getD j 0).toNat x.m] at hu
    have hb := dR_bnd (K := kidsOf t) (x.step (((kidsOf t k.toNat).getD j 0).toNat, (k.toNat : Int), x.m, false)) ((kidsOf t k.toNat).getD j 0).toNat 0
    have e1 : (x.step (((kidsOf t k.toNat).getD j 0).toNat, (k.toNat : Int), x.m, false)).m = x.m + 1 := rfl
    have e2 : (x.step (((kidsOf t k.toNat).getD j 0).toNat, (k.toNat : Int), x.m, false)).I = x.I.set ((kidsOf t k.toNat).getD j 0).toNat (x.m : Int) := rfl
    have e3 : (x.step (((kidsOf t k.toNat).getD j 0).toNat, (k.toNat : Int), x.m, false)).O = x.O := rfl
    have e4 : (x.step (((kidsOf t k.toNat).getD j 0).toNat, (k.toNat : Int), x.m, false)).L.length = x.L.length + 1 := by show (x.L ++ [_]).length = _; simp
    have hE : StE (wkS (kidsOf t) x.L x.I x.O ((kidsOf t k.toNat).getD j 0).toNat x.m) (dR (kidsOf t) (x.step (((kidsOf t k.toNat).getD j 0).toNat, (k.toNat : Int), x.m, false)) ((kidsOf t k.toNat).getD j 0).toNat 0) := by
     unfold wkS
     exact StE.dR (StE.step (x := { L := x.L, P := [], I := x.I, O := x.O, m := x.m }) (y := x) ⟨rfl, rfl, rfl, rfl⟩ rfl rfl) _ _
    rw [e1, e2, e3, e4, List.length_set] at hb
    generalize dR (kidsOf t) (x.step (((kidsOf t k.toNat).getD j 0).toNat, (k.toNat : Int), x.m, false)) ((kidsOf t k.toNat).getD j 0).toNat 0 = y at *
    refine Rnd.mk ⟨(y, j + 1), ⟨hD, by show y.I.length = _; omega, by show y.O.length = _; omega, by show y.m + 2 * unseen (sI y.I) + 1 ≤ 200; omega, by show y.L.length ≤ y.m; omega, by show unseen (sI y.I) ≤ N; omega, by show j + 1 ≤ _; omega⟩, by show _ - (j + 1) < _; omega, ?_⟩
    repeat' ((conv => whnf);first|(with_reducible first|rfl|exact absTF|exact absFT)|exact True.intro|intro _|refine And.intro ?_ ?_|refine Fin.mk ?_|refine W1 rfl ?_ ?_|refine W2 rfl ?_ ?_|refine W3 rfl ?_ ?_|refine W4 ?_ ?_|refine W5 rfl ?_ ?_|refine W6 ?_ ?_|refine AppN.mk ?_|refine X1 (W1 rfl ?_ ?_)|refine X1 (W2 rfl ?_ ?_)|refine X2 (W7 rfl ?_ ?_)|refine X3 (W7 rfl ?_ ?_)|refine X4 (W7 rfl ?_ ?_)|refine X5 (W7 rfl ?_ ?_))
    all_goals (try (conv => whnf))
    all_goals (try first|exact obA|refine Ob.mk ?_)
    ·show ((wkS (kidsOf t) x.L x.I x.O ((kidsOf t k.toNat).getD j 0).toNat x.m).m : Int) = (y.m : Int)
     rw [hE.2.2.2]
    all_goals (try rfl)
    ·show Chunk.own intTy (natI (wkS (kidsOf t) x.L x.I x.O ((kidsOf t k.toNat).getD j 0).toNat x.m).L) = Chunk.own intTy (natI y.L)
     rw [hE.1]
    ·show Chunk.ow intTy (wkS (kidsOf t) x.L x.I x.O ((kidsOf t k.toNat).getD j 0).toNat x.m).I = Chunk.ow intTy y.I
     rw [hE.2.1]
    ·show Chunk.ow intTy (wkS (kidsOf t) x.L x.I x.O ((kidsOf t k.toNat).getD j 0).toNat x.m).O = Chunk.ow intTy y.O
     rw [hE.2.2.1]
   ·rename_i h1 h2 h3
    have hj : j < (kidsOf t k.toNat).length := by have h := of_decide_eq_true h2; exact Int.ofNat_lt.mp h
    have hc : okK (sI x.I) ((kidsOf t k.toNat).getD j 0) = false := by rw [← cnd13 hI2]; exact h3
    rw [dR_bad hj hc] at hD
    refine Rnd.mk ⟨(x, j + 1), ⟨hD, hI2, hO2, hm2, hL2, hu2, by show j + 1 ≤ _; omega⟩, by show _ - (j + 1) < _; omega, ?_⟩
    all_goals exact vcA
   all_goals (rename_i h1 h2)
   all_goals (have hj : ¬ j < (kidsOf t k.toNat).length := by have h := of_decide_eq_false h2; exact fun q => h (Int.ofNat_lt.mpr q))
   all_goals (rw [dR_end hj] at hD; rw [← hD])
   ·rfl
   ·rfl
   ·rfl
   ·rfl
instance hWalk (t : List NodeD) (L : List Nat) (I O : List Int) (k : Int) (m : Nat) :
  FnM BB 83 [.agg [.rd nodeTy t], .int .i64 k, .own 0, .own 1, .own 2, .int .i64 m] [(0, .own intTy (natI L)), (1, .ow intTy I), (2, .ow intTy O)]
   (hPre t L I O k m)
   (.tup [.own 0, .int .i64 ((wkS (kidsOf t) L I O k.toNat m).m : Int)]) [(0, .own intTy (natI (wkS (kidsOf t) L I O k.toNat m).L)), (1, .ow intTy (wkS (kidsOf t) L I O k.toNat m).I), (2, .ow intTy (wkS (kidsOf t) L I O k.toNat m).O)] :=
 have h := hWalkN (unseen (sI (I.set k.toNat (m : Int))) + 1) t L I O k m
 ⟨h.call, fun hp => h.ok ⟨hp, Nat.lt_succ_self _⟩⟩
end Go.Vc

namespace Go.Vc
open Go.Proofs
set_option maxRecDepth 10000
set_option maxHeartbeats 4000000
instance hWalk0 (t : List NodeD) (I O : List Int) :
  FnM BB 83 [.agg [.rd nodeTy t], .int .i64 0, .nils, .own 0, .own 1, .int .i64 0] [(0, .ow intTy I), (1, .ow intTy O)]
   (hPre t [] I O 0 0)
   (.tup [.own 2, .int .i64 ((wkS (kidsOf t) [] I O 0 0).m : Int)]) [(0, .ow intTy (wkS (kidsOf t) [] I O 0 0).I), (1, .ow intTy (wkS (kidsOf t) [] I O 0 0).O), (2, .own intTy (natI (wkS (kidsOf t) [] I O 0 0).L))] := by
 refine FnM.intro (N := 79) [0, 1, 2, 3, 4, 5, 6, 12, 13, 14, 15, 34, 61] [] 2 Tryz.call83 Tryz.func83 rfl rfl (by kernel_rfl) (fun hpre => ?_)
 repeat' ((conv => whnf);first|(with_reducible first|rfl|exact absTF|exact absFT)|exact True.intro|intro _|refine And.intro ?_ ?_|refine Fin.mk ?_|refine W1 rfl ?_ ?_|refine W2 rfl ?_ ?_|refine W3 rfl ?_ ?_|refine W4 ?_ ?_|refine W5 rfl ?_ ?_|refine W6 ?_ ?_|refine AppN.mk ?_|refine X1 (W1 rfl ?_ ?_)|refine X1 (W2 rfl ?_ ?_)|refine X2 (W7 rfl ?_ ?_)|refine X3 (W7 rfl ?_ ?_)|refine X4 (W7 rfl ?_ ?_)|refine X5 (W7 rfl ?_ ?_))
 all_goals (try (conv => whnf))
 all_goals (try first|exact obA|refine Ob.mk ?_)
 all_goals (obtain ⟨ht, hIl, hOl, hk, hm, hL⟩ := hpre)
 ·show 0 ≤ (0 : Int) ∧ (0 : Int) < (I.length : Int); omega
 ·show 0 < I.length; omega
 have hk0 : (0 : Int).toNat = 0 := rfl
 generalize hx0 : (({ L := [], P := [], I := I, O := O, m := 0 } : St).step (0, 0, 0, false)) = x0
 have hxI : x0.I = I.set 0 0 := by rw [← hx0]; rfl
 have hxL : x0.L = [0] := by rw [← hx0]; rfl
 have hxO : x0.O = O := by rw [← hx0]; rfl
 have hxm : x0.m = 1 := by rw [← hx0]; rfl
 have hwk : wkS (kidsOf t) [] I O 0 0 = dR (kidsOf t) x0 0 0 := by unfold wkS; rw [hx0]
 rw [hwk]
 have hm : 2 * unseen (sI (I.set 0 0)) + 2 ≤ 200 := by have h : 0 + 2 * unseen (sI (I.set (0 : Int).toNat ((0 : Nat) : Int))) + 2 ≤ 200 := hm; have e : I.set (0 : Int).toNat ((0 : Nat) : Int) = I.set 0 0 := rfl; rw [e] at h; omega
 refine LoopStop.mk (α := St × Nat) (fun a => [(5, .int .i64 a.1.m), (14, .int .i64 a.2)]) (fun a => [(4, .own intTy (natI a.1.L)), (0, .ow intTy a.1.I), (1, .ow intTy a.1.O)]) 60
  (fun a => dR (kidsOf t) a.1 0 a.2 = dR (kidsOf t) x0 0 0 ∧ a.1.I.length = t.length ∧ a.1.O.length = t.length ∧ a.1.m + 2 * unseen (sI a.1.I) + 1 ≤ 200 ∧ a.1.L.length ≤ a.1.m ∧ a.2 ≤ (kidsOf t 0).length)
  (fun a => (kidsOf t 0).length - a.2) (x0, 0) ⟨rfl, by rw [hxI, List.length_set]; exact hIl, by rw [hxO]; exact hOl, by rw [hxI, hxm]; omega, by rw [hxL, hxm]; decide, Nat.zero_le _⟩ ?_ (fun a ha => ?_)
 ·repeat' ((conv => whnf);first|(with_reducible first|rfl|exact absTF|exact absFT)|exact True.intro|intro _|refine And.intro ?_ ?_|refine Fin.mk ?_|refine W1 rfl ?_ ?_|refine W2 rfl ?_ ?_|refine W3 rfl ?_ ?_|refine W4 ?_ ?_|refine W5 rfl ?_ ?_|refine W6 ?_ ?_|refine AppN.mk ?_|refine X1 (W1 rfl ?_ ?_)|refine X1 (W2 rfl ?_ ?_)|refine X2 (W7 rfl ?_ ?_)|refine X3 (W7 rfl ?_ ?_)|refine X4 (W7 rfl ?_ ?_)|refine X5 (W7 rfl ?_ ?_))
  all_goals (try (conv => whnf))
  all_goals (try first|exact obA|refine Ob.mk ?_)
  ·show _ = (x0.m : Int); rw [hxm]; rfl
  ·show Chunk.own intTy _ = Chunk.own intTy (natI x0.L)
   rw [hxL]; rfl
  ·show Chunk.ow intTy _ = Chunk.ow intTy x0.I
   rw [hxI]; rfl
  ·show Chunk.ow intTy _ = Chunk.ow intTy x0.O
   rw [hxO]
 ·obtain ⟨x, j⟩ := a
  dsimp only at ha ⊢
  obtain ⟨hD, hI2, hO2, hm2, hL2, hj2⟩ := ha
  repeat' ((conv => whnf);first|(with_reducible first|rfl|exact absTF|exact absFT)|exact True.intro|intro _|refine And.intro ?_ ?_|refine Fin.mk ?_|refine W1 rfl ?_ ?_|refine W2 rfl ?_ ?_|refine W3 rfl ?_ ?_|refine W4 ?_ ?_|refine W5 rfl ?_ ?_|refine W6 ?_ ?_|refine AppN.mk ?_|refine X1 (W1 rfl ?_ ?_)|refine X1 (W2 rfl ?_ ?_)|refine X2 (W7 rfl ?_ ?_)|refine X3 (W7 rfl ?_ ?_)|refine X4 (W7 rfl ?_ ?_)|refine X5 (W7 rfl ?_ ?_))
  all_goals (try (conv => whnf))
  all_goals (try first|exact obA|refine Ob.mk ?_)
  all_goals (try simp only [Int.toNat_natCast] at *)
  ·rename_i h1 h2 h3
   have hc : okK (sI x.I) ((kidsOf t 0).getD j 0) = true := by rw [← cnd13 hI2]; exact h3
   have hks := okK_spec hc
   have hls : (sI x.I).length = t.length := by unfold sI; rw [List.length_map]; exact hI2
   have hu := unseen_set hks.2.2
   rw [← sI_set x.I ((kidsOf t 0).getD j 0).toNat x.m] at hu
   show hPre t x.L x.I x.O ((kidsOf t 0).getD j 0) x.m
   exact ⟨ht, hI2, hO2, ⟨hks.1, by omega⟩, by omega, hL2⟩
  ·rename_i h1 h2 h3
   have hj : j < (kidsOf t 0).length := by have h := of_decide_eq_true h2; exact Int.ofNat_lt.mp h
   have hc : okK (sI x.I) ((kidsOf t 0).getD j 0) = true := by rw [← cnd13 hI2]; exact h3
   rw [dR_ok hj hc] at hD
   have hks := okK_spec hc
   have hu := unseen_set hks.2.2
   rw [← sI_set x.I ((kidsOf t 0).getD j 0).toNat x.m] at hu
   have hb := dR_bnd (K := kidsOf t) (x.step (((kidsOf t 0).getD j 0).toNat, (0 : Int), x.m, false)) ((kidsOf t 0).getD j 0).toNat 0
   have e1 : (x.step (((kidsOf t 0).getD j 0).toNat, (0 : Int), x.m, false)).m = x.m + 1 := rfl
   have e2 : (x.step (((kidsOf t 0).getD j 0).toNat, (0 : Int), x.m, false)).I = x.I.set ((kidsOf t 0).getD j 0).toNat (x.m : Int) := rfl
   have e3 : (x.step (((kidsOf t 0).getD j 0).toNat, (0 : Int), x.m, false)).O = x.O := rfl
   have e4 : (x.step (((kidsOf t 0).getD j 0).toNat, (0 : Int), x.m, false)).L.length = x.L.length + 1 := by show (x.L ++ [_]).length = _; simp
   have hE : StE (wkS (kidsOf t) x.L x.I x.O ((kidsOf t 0).getD j 0).toNat x.m) (dR (kidsOf t) (x.step (((kidsOf t 0).getD j 0).toNat, (0 : Int), x.m, false)) ((kidsOf t 0).getD j 0).toNat 0) := by
    unfold wkS
    exact StE.dR (StE.step (x := { L := x.L, P := [], I := x.I, O := x.O, m := x.m }) (y := x) ⟨rfl, rfl, rfl, rfl⟩ rfl rfl) _ _
   rw [e1, e2, e3, e4, List.length_set] at hb
   generalize dR (kidsOf t) (x.step (((kidsOf t 0).getD j 0).toNat, (0 : Int), x.m, false)) ((kidsOf t 0).getD j 0).toNat 0 = y at *
   refine Rnd.mk ⟨(y, j + 1), ⟨hD, by show y.I.length = _; omega, by show y.O.length = _; omega, by show y.m + 2 * unseen (sI y.I) + 1 ≤ 200; omega, by show y.L.length ≤ y.m; omega, by show j + 1 ≤ _; omega⟩, by show _ - (j + 1) < _; omega, ?_⟩
   repeat' ((conv => whnf);first|(with_reducible first|rfl|exact absTF|exact absFT)|exact True.intro|intro _|refine And.intro ?_ ?_|refine Fin.mk ?_|refine W1 rfl ?_ ?_|refine W2 rfl ?_ ?_|refine W3 rfl ?_ ?_|refine W4 ?_ ?_|refine W5 rfl ?_ ?_|refine W6 ?_ ?_|refine AppN.mk ?_|refine X1 (W1 rfl ?_ ?_)|refine X1 (W2 rfl ?_ ?_)|refine X2 (W7 rfl ?_ ?_)|refine X3 (W7 rfl ?_ ?_)|refine X4 (W7 rfl ?_ ?_)|refine X5 (W7 rfl ?_ ?_))
   all_goals (try (conv => whnf))
   all_goals (try first|exact obA|refine Ob.mk ?_)
   ·show ((wkS (kidsOf t) x.L x.I x.O ((kidsOf t 0).getD j 0).toNat x.m).m : Int) = (y.m : Int)
    rw [hE.2.2.2]
   all_goals (try rfl)
   ·show Chunk.own intTy (natI (wkS (kidsOf t) x.L x.I x.O ((kidsOf t 0).getD j 0).toNat x.m).L) = Chunk.own intTy (natI y.L)
    rw [hE.1]
   ·show Chunk.ow intTy (wkS (kidsOf t) x.L x.I x.O ((kidsOf t 0).getD j 0).toNat x.m).I = Chunk.ow intTy y.I
    rw [hE.2.1]
   ·show Chunk.ow intTy (wkS (kidsOf t) x.L x.I x.O ((kidsOf t 0).getD j 0).toNat x.m).O = Chunk.ow intTy y.O
    rw [hE.2.2.1]
  ·rename_i h1 h2 h3
   have hj : j < (kidsOf t 0).length := by have h := of_decide_eq_true h2; exact Int.ofNat_lt.mp h
   have hc : okK (sI x.I) ((kidsOf t 0).getD j 0) = false := by rw [← cnd13 hI2]; exact h3
   rw [dR_bad hj hc] at hD
   refine Rnd.mk ⟨(x, j + 1), ⟨hD, hI2, hO2, hm2, hL2, by show j + 1 ≤ _; omega⟩, by show _ - (j + 1) < _; omega, ?_⟩
   all_goals exact vcA
  all_goals (rename_i h1 h2)
  all_goals (have hj : ¬ j < (kidsOf t 0).length := by have h := of_decide_eq_false h2; exact fun q => h (Int.ofNat_lt.mpr q))
  all_goals (rw [dR_end hj] at hD; rw [← hD])
  ·rfl
  ·rfl
  ·rfl
  ·rfl
theorem unseen_len (s : List Bool) : unseen s ≤ s.length := by unfold unseen; exact List.count_le_length
instance hAll (l : List NodeD) : Fn BB 50 [.agg [.rd nodeTy l]] (l.length ≤ 45) (.tup [.rd intTy (natI (fin l).L), .rd intTy (fin l).I, .rd intTy (fin l).O]) := by
 refine Fn.intro (N := 42) [0, 1, 2, 3, 4, 5, 6, 7, 8, 20, 31] [(1, [0, 0, 0, 6, 0, 0, 0, 6, 6, 6]), (2000007, [1,2])] Tryz.call50 Tryz.func50 rfl rfl (by kernel_rfl) (fun hpre => ?_)
 repeat' ((conv => whnf);first|(with_reducible first|rfl|exact absTF|exact absFT)|exact True.intro|intro _|refine And.intro ?_ ?_|refine Fin.mk ?_|refine W1 rfl ?_ ?_|refine W2 rfl ?_ ?_|refine W3 rfl ?_ ?_|refine W4 ?_ ?_|refine W5 rfl ?_ ?_|refine W6 ?_ ?_|refine AppN.mk ?_|refine X1 (W1 rfl ?_ ?_)|refine X1 (W2 rfl ?_ ?_)|refine X2 (W7 rfl ?_ ?_)|refine X3 (W7 rfl ?_ ?_)|refine X4 (W7 rfl ?_ ?_)|refine X5 (W7 rfl ?_ ?_))
 all_goals (try (conv => whnf))
 all_goals (try first|exact obA|refine Ob.mk ?_)
 all_goals (try simp only [bytes3, bytesB3] at *)
 all_goals (try omega)
 all_goals (rw [show ((l.length : Int)).toNat = l.length by omega])
 refine LoopStop.mk (α := Nat) (fun i => [(7, .int .i64 i)]) (fun i => [(1, .own intTy (List.replicate i (-1 : Int) ++ List.replicate (l.length - i) (0 : Int))), (2, .own intTy (List.replicate i (-1 : Int) ++ List.replicate (l.length - i) (0 : Int)))]) 40 (fun i => i ≤ l.length) (fun i => l.length - i) 0 (Nat.zero_le _) ?_ (fun i hi => ?_)
 ·all_goals exact vcA
 ·have hrl : (List.replicate i (-1 : Int) ++ List.replicate (l.length - i) (0 : Int)).length = l.length := by simp; omega
  repeat' ((conv => whnf);first|(with_reducible first|rfl|exact absTF|exact absFT)|exact True.intro|intro _|refine And.intro ?_ ?_|refine Fin.mk ?_|refine W1 rfl ?_ ?_|refine W2 rfl ?_ ?_|refine W3 rfl ?_ ?_|refine W4 ?_ ?_|refine W5 rfl ?_ ?_|refine W6 ?_ ?_|refine AppN.mk ?_|refine X1 (W1 rfl ?_ ?_)|refine X1 (W2 rfl ?_ ?_)|refine X2 (W7 rfl ?_ ?_)|refine X3 (W7 rfl ?_ ?_)|refine X4 (W7 rfl ?_ ?_)|refine X5 (W7 rfl ?_ ?_))
  all_goals (try (conv => whnf))
  all_goals (try first|exact obA|refine Ob.mk ?_)
  all_goals (try simp only [Int.toNat_natCast] at *)
  all_goals (try rw [hrl] at *)
  all_goals (try (have hlt : i < l.length := by have h := of_decide_eq_true ‹decide ((i : Int) < (l.length : Int)) = true›; omega))
  all_goals (try (have hin : i = l.length := by have h := of_decide_eq_false ‹decide ((i : Int) < (l.length : Int)) = false›; omega))
  ·refine Rnd.mk ⟨i + 1, by omega, by omega, ?_⟩
   repeat' ((conv => whnf);first|(with_reducible first|rfl|exact absTF|exact absFT)|exact True.intro|intro _|refine And.intro ?_ ?_|refine Fin.mk ?_|refine W1 rfl ?_ ?_|refine W2 rfl ?_ ?_|refine W3 rfl ?_ ?_|refine W4 ?_ ?_|refine W5 rfl ?_ ?_|refine W6 ?_ ?_|refine AppN.mk ?_|refine X1 (W1 rfl ?_ ?_)|refine X1 (W2 rfl ?_ ?_)|refine X2 (W7 rfl ?_ ?_)|refine X3 (W7 rfl ?_ ?_)|refine X4 (W7 rfl ?_ ?_)|refine X5 (W7 rfl ?_ ?_))
   all_goals (try (conv => whnf))
   all_goals (try first|exact obA|refine Ob.mk ?_)
   all_goals (try rfl)
   all_goals (rw [rep_step i l.length hlt])
  all_goals (subst hin; clear hrl)
  all_goals (try simp only [Nat.sub_self, List.replicate_zero, List.append_nil] at *)
  all_goals (try (have hpos : 0 < l.length := by have h := of_decide_eq_true ‹decide ((l.length : Int) > 0) = true›; omega))
  all_goals (try (have hE := fin_wk (kidsOf l) l.length hpos))
  ·have hu := unseen_len (sI ((List.replicate l.length (-1 : Int)).set (0 : Int).toNat ((0 : Nat) : Int)))
   have hul : (sI ((List.replicate l.length (-1 : Int)).set (0 : Int).toNat ((0 : Nat) : Int))).length = l.length := by unfold sI; simp
   exact ⟨hpre, by simp, by simp, ⟨by omega, by omega⟩, by omega, Nat.le_refl _⟩
  ·rw [← hE.1]; rfl
  ·rw [← hE.2.1]; rfl
  ·rw [← hE.2.2.1]; rfl
  all_goals (have hz : l.length = 0 := by have h := of_decide_eq_false ‹decide ((l.length : Int) > 0) = false›; omega)
  all_goals (have e : fin l = st0 l.length := by unfold fin finT evsT; rw [if_pos hz]; rfl)
  all_goals (rw [e])
  all_goals rfl
instance hList (l : List NodeD) : Fn BB 13 [.agg [.rd nodeTy l]] (l.length ≤ 45) (.rd intTy (natI (fin l).L)) := by
 refine Fn.intro (N := 13) [0, 1, 2, 3] [] Tryz.call13 Tryz.func13 rfl rfl (by kernel_rfl) (fun hpre => ?_)
 repeat' ((conv => whnf);first|(with_reducible first|rfl|exact absTF|exact absFT)|exact True.intro|intro _|refine And.intro ?_ ?_|refine Fin.mk ?_|refine W1 rfl ?_ ?_|refine W2 rfl ?_ ?_|refine W3 rfl ?_ ?_|refine W4 ?_ ?_|refine W5 rfl ?_ ?_|refine W6 ?_ ?_|refine AppN.mk ?_|refine X1 (W1 rfl ?_ ?_)|refine X1 (W2 rfl ?_ ?_)|refine X2 (W7 rfl ?_ ?_)|refine X3 (W7 rfl ?_ ?_)|refine X4 (W7 rfl ?_ ?_)|refine X5 (W7 rfl ?_ ?_))
 all_goals (try (conv => whnf))
 all_goals (try first|exact obA|refine Ob.mk ?_)
 all_goals (first | exact hpre | rfl)
end Go.Vc

namespace Go.Vc
open Go.Proofs
set_option maxRecDepth 10000
instance a45 (l : List Int) : Fn BB 90 [.rd intTy l] True (.fn 116 [.el (.sl intTy) [l] 0 0]) := by
 refine Fn.intro (N := 4) [0, 1, 2] [] Tryz.call90 Tryz.func90 rfl rfl (by kernel_rfl) (fun hpre => ?_)
 all_goals exact vcA
instance a73 (l : List Int) : It BB 116 [.el (.sl intTy) [l] 0 0] True l.length (fun i => [.int .i64 ((l.length : Int) - 1 - i), .int .i64 (l.getD (l.length - 1 - i) 0)]) := by
 refine It.intro (N := 19) [0, 1, 3, 8, 18] [] 0 Tryz.call116 Tryz.func116 rfl rfl (by kernel_rfl) (fun hpre yl => ?_)
 repeat' ((conv => whnf);first|(with_reducible first|rfl|exact absTF|exact absFT)|exact True.intro|intro _|refine And.intro ?_ ?_|refine Fin.mk ?_|refine W1 rfl ?_ ?_|refine W2 rfl ?_ ?_|refine W3 rfl ?_ ?_|refine W4 ?_ ?_|refine W5 rfl ?_ ?_|refine W6 ?_ ?_|refine AppN.mk ?_|refine X1 (W1 rfl ?_ ?_)|refine X1 (W2 rfl ?_ ?_)|refine X2 (W7 rfl ?_ ?_)|refine X3 (W7 rfl ?_ ?_)|refine X4 (W7 rfl ?_ ?_)|refine X5 (W7 rfl ?_ ?_))
 all_goals (try (conv => whnf))
 all_goals simp only [List.getD_cons_zero] at *
 all_goals (try first|exact obA|refine Ob.mk ?_)
 refine LoopStop.mk (α := Nat) (fun i => [(3, .int .i64 ((l.length : Int) - 1 - i))]) (fun i => [(GID, .gh (some i))]) 20 (fun i => i ≤ l.length) (fun i => l.length - i) 0 (by simp) ?_ (fun i hi => ?_)
 ·repeat' ((conv => whnf);first|(with_reducible first|rfl|exact absTF|exact absFT)|exact True.intro|intro _|refine And.intro ?_ ?_|refine Fin.mk ?_|refine W1 rfl ?_ ?_|refine W2 rfl ?_ ?_|refine W3 rfl ?_ ?_|refine W4 ?_ ?_|refine W5 rfl ?_ ?_|refine W6 ?_ ?_|refine AppN.mk ?_|refine X1 (W1 rfl ?_ ?_)|refine X1 (W2 rfl ?_ ?_)|refine X2 (W7 rfl ?_ ?_)|refine X3 (W7 rfl ?_ ?_)|refine X4 (W7 rfl ?_ ?_)|refine X5 (W7 rfl ?_ ?_))
  all_goals (try (conv => whnf))
  all_goals (try first|exact obA|refine Ob.mk ?_)
  all_goals (try (first | (exact rfl) | (rename_i hx; exact absFT hx) | (rename_i hx; exact absTF hx)))
 ·repeat' ((conv => whnf);first|(with_reducible first|rfl|exact absTF|exact absFT)|exact True.intro|intro _|refine And.intro ?_ ?_|refine Fin.mk ?_|refine W1 rfl ?_ ?_|refine W2 rfl ?_ ?_|refine W3 rfl ?_ ?_|refine W4 ?_ ?_|refine W5 rfl ?_ ?_|refine W6 ?_ ?_|refine AppN.mk ?_|refine X1 (W1 rfl ?_ ?_)|refine X1 (W2 rfl ?_ ?_)|refine X2 (W7 rfl ?_ ?_)|refine X3 (W7 rfl ?_ ?_)|refine X4 (W7 rfl ?_ ?_)|refine X5 (W7 rfl ?_ ?_))
  all_goals (try (conv => whnf))
  all_goals (try simp only [List.getD_cons_zero] at *)
  all_goals (try first|exact obA|refine Ob.mk ?_)
  all_goals (try (first | (exact rfl) | (rename_i hx; exact absFT hx) | (rename_i hx; exact absTF hx)))
  ·(try simp only [ZA,ZB,ZC,ZD,ZE,ZF,ZG,ZH,ZI,ZJ,ZK,ZL,ZM,ZN,ZO,Int.toNat_natCast,UInt8.ofNat_toNat,cast_eq] at *); rw [show ((l.length : Int) - 1 - i).toNat = l.length - 1 - i by omega]; rfl
  ·refine Rnd.mk ⟨i + 1, (by (try simp only [ZA,ZB,ZC,ZD,ZE,ZF,ZG,ZH,ZI,ZJ,ZK,ZL,ZM,ZN,ZO,Int.toNat_natCast,UInt8.ofNat_toNat,cast_eq] at *); omega), (by (try simp only [ZA,ZB,ZC,ZD,ZE,ZF,ZG,ZH,ZI,ZJ,ZK,ZL,ZM,ZN,ZO,Int.toNat_natCast,UInt8.ofNat_toNat,cast_eq] at *); omega), ?_, ?_, ?_⟩
   all_goals exact vcA
end Go.Vc

namespace Go.Vc.W
open Go.Proofs
def isSp (c : Int) : Bool := c == 9 || c == 10 || c == 12 || c == 13 || c == 32
set_option maxRecDepth 10000
instance f31 (c : Int) : Fn BB 113 [.int .u8 c] True (.bool (isSp c)) := by
 refine Fn.intro (N := 10) [0, 2, 3, 4] [] Tryz.call113 Tryz.func113 rfl rfl (by kernel_rfl) (fun hpre => ?_)
 repeat' ((conv => whnf);first|(with_reducible first|rfl|exact absTF|exact absFT)|exact True.intro|intro _|refine And.intro ?_ ?_|refine Fin.mk ?_|refine W1 rfl ?_ ?_|refine W2 rfl ?_ ?_|refine W3 rfl ?_ ?_|refine W4 ?_ ?_|refine W5 rfl ?_ ?_|refine W6 ?_ ?_|refine AppN.mk ?_|refine X1 (W1 rfl ?_ ?_)|refine X1 (W2 rfl ?_ ?_)|refine X2 (W7 rfl ?_ ?_)|refine X3 (W7 rfl ?_ ?_)|refine X4 (W7 rfl ?_ ?_)|refine X5 (W7 rfl ?_ ?_))
 all_goals (try (conv => whnf))
 all_goals (simp_all [isSp]; done)
instance f40 (c : Int) : Fn BB 121 [.int .u8 c] True (.bool (isSp c)) := by
 refine Fn.intro (N := 21) [0, 2] [] Tryz.call121 Tryz.func121 rfl rfl (by kernel_rfl) (fun hpre => ?_)
 repeat' ((conv => whnf);first|(with_reducible first|rfl|exact absTF|exact absFT)|exact True.intro|intro _|refine And.intro ?_ ?_|refine Fin.mk ?_|refine W1 rfl ?_ ?_|refine W2 rfl ?_ ?_|refine W3 rfl ?_ ?_|refine W4 ?_ ?_|refine W5 rfl ?_ ?_|refine W6 ?_ ?_|refine AppN.mk ?_|refine X1 (W1 rfl ?_ ?_)|refine X1 (W2 rfl ?_ ?_)|refine X2 (W7 rfl ?_ ?_)|refine X3 (W7 rfl ?_ ?_)|refine X4 (W7 rfl ?_ ?_)|refine X5 (W7 rfl ?_ ?_))
 all_goals (try (conv => whnf))
 all_goals (simp_all [isSp]; done)
theorem take_snoc {α : Type} (l : List α) (i : Nat) (d : α) (h : i < l.length) : l.take (i + 1) = l.take i ++ [l.getD i d] := by
 rw [List.take_succ_eq_append_getElem h]; simp [List.getD, List.getElem?_eq_getElem h]
theorem take_has (l : List (List UInt8)) (i : Nat) (w : List UInt8) (h : i < l.length) : (l.take (i+1)).contains w = ((l.take i).contains w || (l.getD i [] == w)) := by
 rw [take_snoc l i [] h]
 simp only [List.contains_eq_any_beq, List.any_append, List.any_cons, List.any_nil, Bool.or_false]
 congr 1
 exact Bool.beq_comm
instance f34 (l : List (List UInt8)) (w : List UInt8) : Fn BB 107 [.rd .str l, .str w] True (.bool (l.contains w)) := by
 refine Fn.intro (N := 18) [0, 1, 4, 5, 9, 17] [] Tryz.call107 Tryz.func107 rfl rfl (by kernel_rfl) (fun hpre => ?_)
 (conv => whnf)
 refine LoopStop.mk (α := Nat) (fun i => [(5, .int .i64 i)]) (fun _ => []) 0 (fun i => i ≤ l.length ∧ (l.take i).contains w = false) (fun i => l.length - i) 0 (by simp) ?_ (fun i hi => ?_)
 ·repeat' ((conv => whnf);first|(with_reducible first|rfl|exact absTF|exact absFT)|exact True.intro|intro _|refine And.intro ?_ ?_|refine Fin.mk ?_|refine W1 rfl ?_ ?_|refine W2 rfl ?_ ?_|refine W3 rfl ?_ ?_|refine W4 ?_ ?_|refine W5 rfl ?_ ?_|refine W6 ?_ ?_|refine AppN.mk ?_|refine X1 (W1 rfl ?_ ?_)|refine X1 (W2 rfl ?_ ?_)|refine X2 (W7 rfl ?_ ?_)|refine X3 (W7 rfl ?_ ?_)|refine X4 (W7 rfl ?_ ?_)|refine X5 (W7 rfl ?_ ?_))
  all_goals (try (conv => whnf))
  all_goals (try rfl)
 ·repeat' ((conv => whnf);first|(with_reducible first|rfl|exact absTF|exact absFT)|exact True.intro|intro _|refine And.intro ?_ ?_|refine Fin.mk ?_|refine W1 rfl ?_ ?_|refine W2 rfl ?_ ?_|refine W3 rfl ?_ ?_|refine W4 ?_ ?_|refine W5 rfl ?_ ?_|refine W6 ?_ ?_|refine AppN.mk ?_|refine X1 (W1 rfl ?_ ?_)|refine X1 (W2 rfl ?_ ?_)|refine X2 (W7 rfl ?_ ?_)|refine X3 (W7 rfl ?_ ?_)|refine X4 (W7 rfl ?_ ?_)|refine X5 (W7 rfl ?_ ?_))
  all_goals (try (conv => whnf))
  all_goals (try first|exact obA|refine Ob.mk ?_)
  all_goals (try simp only [ZA,ZB,ZC,ZD,ZE,ZF,ZG,ZH,ZI,ZJ,ZK,ZL,ZM,ZN,ZO,Int.toNat_natCast,UInt8.ofNat_toNat,cast_eq] at *)
  ·rename_i h1 h2 h3
   have h4 : i < l.length := by omega
   rw [← h3]; simp [List.getD, List.getElem?_eq_getElem h4]
  ·rename_i h1 h2 h3
   have h4 : i < l.length := by omega
   refine Rnd.mk ⟨i + 1, ?_, ?_, ?_⟩
   ·refine ⟨by omega, ?_⟩
    rw [take_has l i w h4, hi.2, Bool.false_or]; exact beq_eq_false_iff_ne.mpr h3
   ·omega
   ·all_goals exact vcA
  ·rename_i h1 h2
   have : i = l.length := by omega
   subst this; simp_all
end Go.Vc.W

namespace Go.Vc.W
open Go.Proofs
set_option maxRecDepth 10000
def spStep (p : List (List UInt8) × List UInt8) (c : UInt8) : List (List UInt8) × List UInt8 :=
 if isSp c.toNat then (if p.2 = [] then (p.1, []) else (p.1 ++ [p.2], [])) else (p.1, p.2 ++ [c])
def spFin (p : List (List UInt8) × List UInt8) : List (List UInt8) := if p.2 = [] then p.1 else p.1 ++ [p.2]
def spl (s : List UInt8) : List (List UInt8) := spFin (s.foldl spStep ([], []))
def spAt (s : List UInt8) (i : Nat) : List (List UInt8) × List UInt8 := (s.take i).foldl spStep ([], [])
theorem spAt_succ (s : List UInt8) (i : Nat) (h : i < s.length) : spAt s (i + 1) = spStep (spAt s i) (s.getD i 0) := by
 unfold spAt; rw [take_snoc s i 0 h, List.foldl_append]; rfl
theorem spAt_all (s : List UInt8) (i : Nat) (h : s.length ≤ i) : spAt s i = s.foldl spStep ([], []) := by
 unfold spAt; rw [List.take_of_length_le h]
theorem spStep_len (p : List (List UInt8) × List UInt8) (c : UInt8) : (spStep p c).1.length + (spStep p c).2.length ≤ p.1.length + p.2.length + 1 := by
 unfold spStep
 by_cases h : isSp c.toNat = true
 ·by_cases h2 : p.2 = []
  ·simp [h, h2]
  ·have := List.length_pos_iff.mpr h2
   simp [h, h2]
 ·simp [h]; omega
theorem spAt_len (s : List UInt8) (i : Nat) : (spAt s i).1.length + (spAt s i).2.length ≤ i := by
 induction i with
 | zero => simp [spAt]
 | succ i ih =>
  by_cases h : i < s.length
  ·rw [spAt_succ s i h]; have := spStep_len (spAt s i) (s.getD i 0); omega
  ·have e : spAt s (i+1) = spAt s i := by rw [spAt_all s (i+1) (by omega), spAt_all s i (by omega)]
   rw [e]; exact Nat.le_succ_of_le ih
theorem drop_take_one (s : List UInt8) (i : Nat) (h : i < s.length) : (s.take (i+1)).drop i = [s.getD i 0] := by
 rw [take_snoc s i 0 h, List.drop_append, List.length_take, Nat.min_eq_left (by omega)]; simp
theorem toNat_add_one (i : Nat) : ((i:Int)+1).toNat = i+1 := by omega
theorem spl_w {s : List UInt8} {i : Nat} (h : s.length ≤ i) (h2 : ¬ (spAt s i).2 = []) : spl s = (spAt s i).1 ++ [(spAt s i).2] := by
 unfold spl; rw [← spAt_all s i h]; simp [spFin, h2]
theorem spl_e {s : List UInt8} {i : Nat} (h : s.length ≤ i) (h2 : (spAt s i).2 = []) : spl s = (spAt s i).1 := by
 unfold spl; rw [← spAt_all s i h]; simp [spFin, h2]
theorem spStep_no {p : List (List UInt8) × List UInt8} {c : UInt8} (h : isSp c.toNat = false) : spStep p c = (p.1, p.2 ++ [c]) := by
 simp [spStep, h]
theorem spStep_sp {p : List (List UInt8) × List UInt8} {c : UInt8} (h : isSp c.toNat = true) (h2 : p.2 = []) : spStep p c = (p.1, []) := by
 simp [spStep, h, h2]
theorem spStep_spw {p : List (List UInt8) × List UInt8} {c : UInt8} (h : isSp c.toNat = true) (h2 : ¬ p.2 = []) : spStep p c = (p.1 ++ [p.2], []) := by
 simp [spStep, h, h2]
instance f35 (s : List UInt8) : Fn BB 108 [.str s] (s.length ≤ 100000) (.rd .str (spl s)) := by
 refine Fn.intro (N := 37) [0, 2, 3, 4, 5, 9, 16, 25, 31] [] Tryz.call108 Tryz.func108 rfl rfl (by kernel_rfl) (fun hpre => ?_)
 (conv => whnf)
 refine LoopStop.mk (α := Nat) (fun i => [(3, .own 0), (4, .str (spAt s i).2), (5, .int .i64 i)]) (fun i => [(0, .own .str (spAt s i).1)]) 1 (fun i => i ≤ s.length) (fun i => s.length - i) 0 (by simp) ?_ (fun i hi => ?_)
 ·repeat' ((conv => whnf);first|(with_reducible first|rfl|exact absTF|exact absFT)|exact True.intro|intro _|refine And.intro ?_ ?_|refine Fin.mk ?_|refine W1 rfl ?_ ?_|refine W2 rfl ?_ ?_|refine W3 rfl ?_ ?_|refine W4 ?_ ?_|refine W5 rfl ?_ ?_|refine W6 ?_ ?_|refine AppN.mk ?_|refine X1 (W1 rfl ?_ ?_)|refine X1 (W2 rfl ?_ ?_)|refine X2 (W7 rfl ?_ ?_)|refine X3 (W7 rfl ?_ ?_)|refine X4 (W7 rfl ?_ ?_)|refine X5 (W7 rfl ?_ ?_))
  all_goals (try (conv => whnf))
  all_goals (try rfl)
 ·have hl := spAt_len s i
  repeat' ((conv => whnf);first|(with_reducible first|rfl|exact absTF|exact absFT)|exact True.intro|intro _|refine And.intro ?_ ?_|refine Fin.mk ?_|refine W1 rfl ?_ ?_|refine W2 rfl ?_ ?_|refine W3 rfl ?_ ?_|refine W4 ?_ ?_|refine W5 rfl ?_ ?_|refine W6 ?_ ?_|refine AppN.mk ?_|refine X1 (W1 rfl ?_ ?_)|refine X1 (W2 rfl ?_ ?_)|refine X2 (W7 rfl ?_ ?_)|refine X3 (W7 rfl ?_ ?_)|refine X4 (W7 rfl ?_ ?_)|refine X5 (W7 rfl ?_ ?_))
  all_goals (try (conv => whnf))
  all_goals (try first|exact obA|refine Ob.mk ?_)
  all_goals (try simp only [ZA,ZB,ZC,ZD,ZE,ZF,ZG,ZH,ZI,ZJ,ZK,ZL,ZM,ZN,ZO,Int.toNat_natCast,UInt8.ofNat_toNat,cast_eq] at *)
  ·have h : i < s.length := by omega
   have e := spAt_succ s i h
   rw [spStep_no ‹_›] at e
   refine Rnd.mk ⟨i + 1, ?_, ?_, ?_⟩
   ·exact h
   ·omega
   ·repeat' ((conv => whnf);first|(with_reducible first|rfl|exact absTF|exact absFT)|exact True.intro|intro _|refine And.intro ?_ ?_|refine Fin.mk ?_|refine W1 rfl ?_ ?_|refine W2 rfl ?_ ?_|refine W3 rfl ?_ ?_|refine W4 ?_ ?_|refine W5 rfl ?_ ?_|refine W6 ?_ ?_|refine AppN.mk ?_|refine X1 (W1 rfl ?_ ?_)|refine X1 (W2 rfl ?_ ?_)|refine X2 (W7 rfl ?_ ?_)|refine X3 (W7 rfl ?_ ?_)|refine X4 (W7 rfl ?_ ?_)|refine X5 (W7 rfl ?_ ?_))
    all_goals (try (conv => whnf))
    all_goals (try first|exact obA|refine Ob.mk ?_)
    all_goals (simp only [e, toNat_add_one, drop_take_one s i h]; done)
  ·skip
   have h : i < s.length := by omega
   have e := spAt_succ s i h
   rw [spStep_spw ‹_› ‹_›] at e
   repeat' ((conv => whnf);first|(with_reducible first|rfl|exact absTF|exact absFT)|exact True.intro|intro _|refine And.intro ?_ ?_|refine Fin.mk ?_|refine W1 rfl ?_ ?_|refine W2 rfl ?_ ?_|refine W3 rfl ?_ ?_|refine W4 ?_ ?_|refine W5 rfl ?_ ?_|refine W6 ?_ ?_|refine AppN.mk ?_|refine X1 (W1 rfl ?_ ?_)|refine X1 (W2 rfl ?_ ?_)|refine X2 (W7 rfl ?_ ?_)|refine X3 (W7 rfl ?_ ?_)|refine X4 (W7 rfl ?_ ?_)|refine X5 (W7 rfl ?_ ?_))
   all_goals (try (conv => whnf))
   all_goals (try first|exact obA|refine Ob.mk ?_)
   refine Rnd.mk ⟨i + 1, ?_, ?_, ?_⟩
   ·exact h
   ·omega
   ·repeat' ((conv => whnf);first|(with_reducible first|rfl|exact absTF|exact absFT)|exact True.intro|intro _|refine And.intro ?_ ?_|refine Fin.mk ?_|refine W1 rfl ?_ ?_|refine W2 rfl ?_ ?_|refine W3 rfl ?_ ?_|refine W4 ?_ ?_|refine W5 rfl ?_ ?_|refine W6 ?_ ?_|refine AppN.mk ?_|refine X1 (W1 rfl ?_ ?_)|refine X1 (W2 rfl ?_ ?_)|refine X2 (W7 rfl ?_ ?_)|refine X3 (W7 rfl ?_ ?_)|refine X4 (W7 rfl ?_ ?_)|refine X5 (W7 rfl ?_ ?_))
    all_goals (try (conv => whnf))
    all_goals (try first|exact obA|refine Ob.mk ?_)
    all_goals (simp only [e]; done)
  ·have h : i < s.length := by omega
   have e := spAt_succ s i h
   rw [spStep_sp ‹_› ‹_›] at e
   refine Rnd.mk ⟨i + 1, ?_, ?_, ?_⟩
   ·exact h
   ·omega
   ·repeat' ((conv => whnf);first|(with_reducible first|rfl|exact absTF|exact absFT)|exact True.intro|intro _|refine And.intro ?_ ?_|refine Fin.mk ?_|refine W1 rfl ?_ ?_|refine W2 rfl ?_ ?_|refine W3 rfl ?_ ?_|refine W4 ?_ ?_|refine W5 rfl ?_ ?_|refine W6 ?_ ?_|refine AppN.mk ?_|refine X1 (W1 rfl ?_ ?_)|refine X1 (W2 rfl ?_ ?_)|refine X2 (W7 rfl ?_ ?_)|refine X3 (W7 rfl ?_ ?_)|refine X4 (W7 rfl ?_ ?_)|refine X5 (W7 rfl ?_ ?_))
    all_goals (try (conv => whnf))
    all_goals (try first|exact obA|refine Ob.mk ?_)
    all_goals (simp only [e]; done)
  ·skip
   repeat' ((conv => whnf);first|(with_reducible first|rfl|exact absTF|exact absFT)|exact True.intro|intro _|refine And.intro ?_ ?_|refine Fin.mk ?_|refine W1 rfl ?_ ?_|refine W2 rfl ?_ ?_|refine W3 rfl ?_ ?_|refine W4 ?_ ?_|refine W5 rfl ?_ ?_|refine W6 ?_ ?_|refine AppN.mk ?_|refine X1 (W1 rfl ?_ ?_)|refine X1 (W2 rfl ?_ ?_)|refine X2 (W7 rfl ?_ ?_)|refine X3 (W7 rfl ?_ ?_)|refine X4 (W7 rfl ?_ ?_)|refine X5 (W7 rfl ?_ ?_))
   all_goals (try (conv => whnf))
   rw [spl_w (i := i) (by omega) ‹_›]
  ·rw [spl_e (i := i) (by omega) ‹_›]
end Go.Vc.W

namespace Go.Vc.W
open Go.Proofs
set_option maxRecDepth 10000
instance f29 (s w : List UInt8) : Fn BB 81 [.str s, .str w] (s.length ≤ 100000) (.bool ((spl s).contains w)) := by
 refine Fn.intro (N := 9) [0, 1, 4] [] Tryz.call81 Tryz.func81 rfl rfl (by kernel_rfl) (fun hpre => ?_)
 all_goals exact vcA
theorem contains_of_getD {l : List (List UInt8)} {i : Nat} (h : i < l.length) : l.contains (l.getD i []) = true := by
 simp [List.getD, List.getElem?_eq_getElem h]
def ixOf (l : List (List UInt8)) (w : List UInt8) : Int := if l.contains w then (l.idxOf w : Int) else -1
theorem ixOf_none {l : List (List UInt8)} {w : List UInt8} (h : l.contains w = false) : ixOf l w = -1 := by rw [ixOf, h]; rfl
theorem ixOf_at {l : List (List UInt8)} {w : List UInt8} {i : Nat} (h : i < l.length) (h1 : (l.take i).contains w = false) (h2 : w = l.getD i []) : ixOf l w = i := by
 rw [ixOf, h2, contains_of_getD h, ← h2, if_pos rfl]
 have e := List.take_append_drop i l
 rw [← e, List.idxOf_append, if_neg (by simpa using h1), List.length_take, Nat.min_eq_left (by omega)]
 have e2 : l.drop i = w :: l.drop (i+1) := by rw [List.drop_eq_getElem_cons h, h2]; simp [List.getD, List.getElem?_eq_getElem h]
 rw [e2, List.idxOf_cons_self]; simp
instance f37 (l : List (List UInt8)) (w : List UInt8) : Fn BB 124 [.rd .str l, .str w] True (.int .i64 (ixOf l w)) := by
 refine Fn.intro (N := 19) [0, 1, 4, 5, 7, 8, 9, 16] [] Tryz.call124 Tryz.func124 rfl rfl (by kernel_rfl) (fun hpre => ?_)
 (conv => whnf)
 intro hlen
 (conv => whnf)
 refine LoopStop.mk (α := Nat) (fun i => [(8, .int .i64 i)]) (fun i => []) 0 (fun i => i ≤ l.length ∧ (l.take i).contains w = false) (fun i => l.length - i) 0 (by simp) ?_ (fun i hi => ?_)
 ·repeat' ((conv => whnf);first|(with_reducible first|rfl|exact absTF|exact absFT)|exact True.intro|intro _|refine And.intro ?_ ?_|refine Fin.mk ?_|refine W1 rfl ?_ ?_|refine W2 rfl ?_ ?_|refine W3 rfl ?_ ?_|refine W4 ?_ ?_|refine W5 rfl ?_ ?_|refine W6 ?_ ?_|refine AppN.mk ?_|refine X1 (W1 rfl ?_ ?_)|refine X1 (W2 rfl ?_ ?_)|refine X2 (W7 rfl ?_ ?_)|refine X3 (W7 rfl ?_ ?_)|refine X4 (W7 rfl ?_ ?_)|refine X5 (W7 rfl ?_ ?_))
  all_goals (try (conv => whnf))
  all_goals (try rfl)
 ·repeat' ((conv => whnf);first|(with_reducible first|rfl|exact absTF|exact absFT)|exact True.intro|intro _|refine And.intro ?_ ?_|refine Fin.mk ?_|refine W1 rfl ?_ ?_|refine W2 rfl ?_ ?_|refine W3 rfl ?_ ?_|refine W4 ?_ ?_|refine W5 rfl ?_ ?_|refine W6 ?_ ?_|refine AppN.mk ?_|refine X1 (W1 rfl ?_ ?_)|refine X1 (W2 rfl ?_ ?_)|refine X2 (W7 rfl ?_ ?_)|refine X3 (W7 rfl ?_ ?_)|refine X4 (W7 rfl ?_ ?_)|refine X5 (W7 rfl ?_ ?_))
  all_goals (try (conv => whnf))
  all_goals (try first|exact obA|refine Ob.mk ?_)
  all_goals (try simp only [ZA,ZB,ZC,ZD,ZE,ZF,ZG,ZH,ZI,ZJ,ZK,ZL,ZM,ZN,ZO,Int.toNat_natCast,UInt8.ofNat_toNat,cast_eq] at *)
  ·rw [ixOf_at (by omega) hi.2 ‹_›]
  ·have h : i < l.length := by omega
   refine Rnd.mk ⟨i + 1, ?_, ?_, ?_⟩
   ·refine ⟨by omega, ?_⟩
    rw [take_has l i w h, hi.2, Bool.false_or]; exact beq_eq_false_iff_ne.mpr (fun e => by simp_all)
   ·omega
   ·all_goals exact vcA
  ·have : i = l.length := by omega
   subst this
   rw [ixOf_none (by simpa using hi.2)]
instance f32 (l : List (List UInt8)) (w : List UInt8) : Fn BB 114 [.rd .str l, .str w] True (.bool (decide (ixOf l w ≥ 0))) := by
 refine Fn.intro (N := 9) [0, 1, 4] [] Tryz.call114 Tryz.func114 rfl rfl (by kernel_rfl) (fun hpre => ?_)
 all_goals exact vcA
end Go.Vc.W

namespace Go.Vc.W
open Go.Proofs
set_option maxRecDepth 10000
def spR (r : Int) : Bool := decide (r < 128) && isSp (IntKind.u8.wrap r)
instance f39 (r : Int) : Fn BB 126 [.int .i32 r] (0 ≤ r) (.bool (spR r)) := by
 refine Fn.intro (N := 10) [0, 2] [] Tryz.call126 Tryz.func126 rfl rfl (by kernel_rfl) (fun hpre => ?_)
 all_goals exact vcA
theorem getB (s : List UInt8) (j : Nat) : (ByteArray.get! ⟨s.toArray⟩ j) = s.getD j 0 := by
 by_cases h : j < s.length
 ·have : j < s.toArray.size := by simpa using h
  simp [ByteArray.get!, List.getD, h]
 ·simp [ByteArray.get!, List.getD, h]; rfl
theorem decL_pos (s : List UInt8) (pos : Nat) (h : pos < s.length) : 1 ≤ (decL s pos).2 ∧ pos + (decL s pos).2 ≤ s.length ∧
  (if (decL s pos).1 < 128 then (decL s pos).2 = 1 ∧ (decL s pos).1 = (s.getD pos 0).toNat else ∀ j, pos ≤ j → j < pos + (decL s pos).2 → 128 ≤ (s.getD j 0).toNat) := by
 have hsz : ByteArray.size ⟨s.toArray⟩ = s.length := by simp [ByteArray.size]
 have hb : ∀ j, (s.getD j 0).toNat < 256 := fun j => UInt8.toNat_lt _
 unfold decL Utf8.decode
 simp only [getB, hsz, Nat.add_zero]
 generalize e0 : (s.getD pos 0).toNat = b0
 generalize e1 : (s.getD (pos+1) 0).toNat = b1
 generalize e2 : (s.getD (pos+2) 0).toNat = b2
 generalize e3 : (s.getD (pos+3) 0).toNat = b3
 have k0 := hb pos
 have k1 := hb (pos+1)
 have k2 := hb (pos+2)
 have k3 := hb (pos+3)
 rw [e0] at k0; rw [e1] at k1; rw [e2] at k2; rw [e3] at k3
 have one : ∀ j, pos ≤ j → j < pos + 1 → (s.getD j 0).toNat = b0 := fun j h1 h2 => by
  have : j = pos := by omega
  subst this; exact e0
 split
 ·simp; omega
 ·rename_i hb0
  have fallb : ∀ j, pos ≤ j → j < pos + 1 → 128 ≤ (s.getD j 0).toNat := fun j h1 h2 => by rw [one j h1 h2]; omega
  have err : 1 ≤ ((Utf8.runeError, 1) : Nat × Nat).2 ∧ pos + ((Utf8.runeError, 1) : Nat × Nat).2 ≤ s.length ∧ (if ((Utf8.runeError, 1) : Nat × Nat).1 < 128 then ((Utf8.runeError, 1) : Nat × Nat).2 = 1 ∧ ((Utf8.runeError, 1) : Nat × Nat).1 = b0 else ∀ j, pos ≤ j → j < pos + ((Utf8.runeError, 1) : Nat × Nat).2 → 128 ≤ (s.getD j 0).toNat) := by
   refine ⟨Nat.le_refl _, h, ?_⟩
   rw [if_neg (by decide)]; exact fallb
  split
  ·rename_i h2
   simp only [Bool.and_eq_true, decide_eq_true_eq, beq_iff_eq] at h2
   split
   ·refine ⟨by simp, by simp; omega, ?_⟩
    rw [if_neg (by simp; omega)]
    intro j h3 h4
    have : j = pos ∨ j = pos + 1 := by simp at h4; omega
    rcases this with rfl | rfl
    ·rw [e0]; omega
    ·rw [e1]; omega
   ·exact err
  ·split
   ·rename_i h2
    simp only [Bool.and_eq_true, decide_eq_true_eq, beq_iff_eq] at h2
    split
    ·rename_i h5
     simp only [Bool.and_eq_true, decide_eq_true_eq, beq_iff_eq] at h5
     refine ⟨by simp, by simp; omega, ?_⟩
     rw [if_neg (by simp; omega)]
     intro j h3 h4
     have : j = pos ∨ j = pos + 1 ∨ j = pos + 2 := by simp at h4; omega
     rcases this with rfl | rfl | rfl
     ·rw [e0]; omega
     ·rw [e1]; omega
     ·rw [e2]; omega
    ·exact err
   ·split
    ·rename_i h2
     simp only [Bool.and_eq_true, decide_eq_true_eq, beq_iff_eq] at h2
     split
     ·rename_i h5
      simp only [Bool.and_eq_true, decide_eq_true_eq, beq_iff_eq] at h5
      refine ⟨by simp, by simp; omega, ?_⟩
      rw [if_neg (by simp; omega)]
      intro j h3 h4
      have : j = pos ∨ j = pos + 1 ∨ j = pos + 2 ∨ j = pos + 3 := by simp at h4; omega
      rcases this with rfl | rfl | rfl | rfl
      ·rw [e0]; omega
      ·rw [e1]; omega
      ·rw [e2]; omega
      ·rw [e3]; omega
     ·exact err
    ·exact err
def cut (s : List UInt8) (p : Int × Int) : List UInt8 := (s.take p.2.toNat).drop p.1.toNat
theorem isSp_high {c : Nat} (h : 128 ≤ c) : isSp c = false := by
 simp only [isSp, Bool.or_eq_false_iff, beq_eq_false_iff_ne]; omega
theorem cut_more (s : List UInt8) (i pos : Nat) (h : i ≤ pos) (h2 : pos < s.length) : cut s (i, (pos+1:Nat)) = cut s (i, pos) ++ [s.getD pos 0] := by
 unfold cut
 simp only [Int.toNat_natCast]
 rw [take_snoc s pos 0 h2, List.drop_append_of_le_length (by rw [List.length_take]; omega)]
theorem spAt_run (s : List UInt8) (pos k : Nat) (h : pos + k ≤ s.length) (hh : ∀ j, pos ≤ j → j < pos + k → isSp (s.getD j 0).toNat = false) :
  spAt s (pos + k) = ((spAt s pos).1, (spAt s pos).2 ++ cut s (pos, (pos + k : Nat))) := by
 induction k with
 | zero => simp [cut]
 | succ k ih =>
  rw [← Nat.add_assoc, spAt_succ s _ (by omega), spStep_no (hh _ (by omega) (by omega)), ih (by omega) (fun j h1 h2 => hh j h1 (by omega)), cut_more s pos (pos+k) (by omega) (by omega)]
  simp
theorem cut_cat (s : List UInt8) (i j k : Nat) (h : i ≤ j) (h2 : j ≤ k) (h3 : k ≤ s.length) : cut s (i, j) ++ cut s (j, k) = cut s (i, k) := by
  induction k with
  | zero => have : j = 0 := by omega
            have : i = 0 := by omega
            subst_vars; simp [cut]
  | succ k ih =>
    by_cases e : j = k + 1
    · subst e; simp [cut]
    · rw [cut_more s j k (by omega) (by omega), cut_more s i k (by omega) (by omega), ← List.append_assoc, ih (by omega) (by omega)]
end Go.Vc.W

namespace Go.Vc.W
open Go.Proofs
set_option maxRecDepth 10000
structure FS where
 pos : Nat
 spans : List (Int × Int)
 start : Int
structure FSok (s : List UInt8) (a : FS) : Prop where
 hp : a.pos ≤ s.length
 hs : a.spans.map (cut s) = (spAt s a.pos).1
 hr : ∀ p ∈ a.spans, 0 ≤ p.1 ∧ p.1 ≤ p.2 ∧ p.2 ≤ s.length
 hb : -(s.length : Int) - 1 ≤ a.start ∧ a.start ≤ s.length
 hw : if a.start < 0 then (spAt s a.pos).2 = [] else a.start < a.pos ∧ (spAt s a.pos).2 = cut s (a.start, a.pos)
theorem FSok.len {s : List UInt8} {a : FS} (h : FSok s a) : a.spans.length ≤ a.pos := by
 have := spAt_len s a.pos
 rw [← h.hs, List.length_map] at this; omega
theorem cut_ne {s : List UInt8} {i : Int} {j : Nat} (h0 : 0 ≤ i) (h : i < j) (h2 : j ≤ s.length) : ¬ cut s (i, j) = [] := by
 intro e
 have := congrArg List.length e
 simp [cut] at this
 omega
theorem spR_eq {s : List UInt8} {pos : Nat} (h : pos < s.length) :
  (spR (decL s pos).1 = true → (decL s pos).2 = 1 ∧ isSp (s.getD pos 0).toNat = true) ∧
  (spR (decL s pos).1 = false → pos < pos + (decL s pos).2 ∧ pos + (decL s pos).2 ≤ s.length ∧ ∀ j, pos ≤ j → j < pos + (decL s pos).2 → isSp (s.getD j 0).toNat = false) := by
 have ⟨d1, d2, d3⟩ := decL_pos s pos h
 have hw : (decL s pos).1 < 128 → IntKind.u8.wrap ((decL s pos).1 : Int) = (decL s pos).1 := fun hh => by
  simp [IntKind.wrap, IntKind.signed, IntKind.bits]; omega
 by_cases hh : (decL s pos).1 < 128
 ·rw [if_pos hh] at d3
  have e : spR (decL s pos).1 = isSp (s.getD pos 0).toNat := by
   unfold spR; rw [hw hh, decide_eq_true (by omega), Bool.true_and, d3.2]
  rw [e]
  refine ⟨fun k => ⟨d3.1, k⟩, fun k => ⟨by omega, d2, fun j h1 h2 => ?_⟩⟩
  have : j = pos := by omega
  subst this; exact k
 ·rw [if_neg hh] at d3
  have e : spR (decL s pos).1 = false := by unfold spR; simp; intro k; omega
  rw [e]
  refine ⟨fun k => (nomatch k), fun _ => ⟨by omega, d2, fun j h1 h2 => isSp_high (d3 j h1 h2)⟩⟩
theorem fs_sp1 {s : List UInt8} {a : FS} (h : FSok s a) (h1 : a.pos < s.length) (h2 : spR (decL s a.pos).1 = true) (h3 : 0 ≤ a.start) :
  FSok s ⟨a.pos + (decL s a.pos).2, a.spans ++ [(a.start, (a.pos:Int))], -a.start - 1⟩ := by
 have ⟨e1, e2⟩ := (spR_eq h1).1 h2
 have hw := h.hw; rw [if_neg (by omega)] at hw
 have hb := h.hb
 have e := spAt_succ s a.pos h1
 rw [spStep_spw e2 (by rw [hw.2]; exact cut_ne h3 hw.1 h.hp)] at e
 constructor
 ·simp only [e1]; omega
 ·simp only [e1, e, List.map_append, h.hs, hw.2]; rfl
 ·intro p hp
  rcases List.mem_append.mp hp with hp | hp
  ·exact h.hr p hp
  ·simp at hp; subst hp; simp; omega
 ·simp; omega
 ·rw [if_pos (by simp; omega)]; simp only [e1, e]
theorem fs_sp0 {s : List UInt8} {a : FS} (h : FSok s a) (h1 : a.pos < s.length) (h2 : spR (decL s a.pos).1 = true) (h3 : a.start < 0) :
  FSok s ⟨a.pos + (decL s a.pos).2, a.spans, a.start⟩ := by
 have ⟨e1, e2⟩ := (spR_eq h1).1 h2
 have hw := h.hw; rw [if_pos (by omega)] at hw
 have e := spAt_succ s a.pos h1
 rw [spStep_sp e2 hw] at e
 constructor
 ·simp only [e1]; omega
 ·simp only [e1, e, h.hs]
 ·exact h.hr
 ·exact h.hb
 ·rw [if_pos (by simpa using h3)]; simp only [e1, e]
theorem fs_no1 {s : List UInt8} {a : FS} (h : FSok s a) (h1 : a.pos < s.length) (h2 : spR (decL s a.pos).1 = false) (h3 : 0 ≤ a.start) :
  FSok s ⟨a.pos + (decL s a.pos).2, a.spans, a.start⟩ := by
 have ⟨e0, e1, e2⟩ := (spR_eq h1).2 h2
 have hw := h.hw; rw [if_neg (by omega)] at hw
 have e := spAt_run s a.pos _ e1 e2
 constructor
 ·exact e1
 ·simp only [e, h.hs]
 ·exact h.hr
 ·exact h.hb
 ·rw [if_neg (by simp; omega)]; simp only [e]
  refine ⟨by omega, ?_⟩
  rw [hw.2]
  obtain ⟨i, hi⟩ : ∃ i : Nat, a.start = i := ⟨a.start.toNat, by omega⟩
  rw [hi, cut_cat s i a.pos _ (by omega) (by omega) e1]
theorem fs_no0 {s : List UInt8} {a : FS} (h : FSok s a) (h1 : a.pos < s.length) (h2 : spR (decL s a.pos).1 = false) (h3 : a.start < 0) :
  FSok s ⟨a.pos + (decL s a.pos).2, a.spans, (a.pos : Int)⟩ := by
 have ⟨e0, e1, e2⟩ := (spR_eq h1).2 h2
 have hw := h.hw; rw [if_pos (by omega)] at hw
 have e := spAt_run s a.pos _ e1 e2
 constructor
 ·exact e1
 ·simp only [e, h.hs]
 ·exact h.hr
 ·simp; omega
 ·rw [if_neg (by simp)]; simp only [e]
  refine ⟨by omega, ?_⟩
  rw [hw]; rfl
theorem fs_end1 {s : List UInt8} {a : FS} (h : FSok s a) (h1 : ¬ a.pos < s.length) (h3 : 0 ≤ a.start) :
  (a.spans ++ [(a.start, (s.length:Int))]).map (cut s) = spl s ∧ ∀ p ∈ (a.spans ++ [(a.start, (s.length:Int))]), 0 ≤ p.1 ∧ p.1 ≤ p.2 ∧ p.2 ≤ s.length := by
 have hp := h.hp
 have e : a.pos = s.length := by omega
 have hw := h.hw; rw [if_neg (by omega)] at hw
 have hb := h.hb
 refine ⟨?_, ?_⟩
 ·rw [spl_w (i := a.pos) (by omega) (by rw [hw.2]; exact cut_ne h3 hw.1 h.hp), hw.2, ← h.hs, e, List.map_append]; rfl
 ·intro p hp
  rcases List.mem_append.mp hp with hp | hp
  ·exact h.hr p hp
  ·simp at hp; subst hp; simp; omega
theorem fs_end0 {s : List UInt8} {a : FS} (h : FSok s a) (h1 : ¬ a.pos < s.length) (h3 : a.start < 0) :
  a.spans.map (cut s) = spl s ∧ ∀ p ∈ a.spans, 0 ≤ p.1 ∧ p.1 ≤ p.2 ∧ p.2 ≤ s.length := by
 have hp := h.hp
 have e : a.pos = s.length := by omega
 have hw := h.hw; rw [if_pos (by omega)] at hw
 exact ⟨by rw [spl_e (i := a.pos) (by omega) hw, h.hs], h.hr⟩
end Go.Vc.W

namespace Go.Vc.W
open Go.Proofs
set_option maxRecDepth 10000
theorem bits_not (x : Int) (h : -100001 ≤ x ∧ x ≤ 100000) : bitsI BinOp.xor IntKind.i64 (if IntKind.i64.signed = true then -1 else IntKind.i64.max) x = -x - 1 := by
 have e : (if IntKind.i64.signed = true then (-1:Int) else IntKind.i64.max) = -1 := rfl
 rw [e]
 show IntKind.wrap .i64 ((BitVec.ofInt 64 (-1) ^^^ BitVec.ofInt 64 x).toNat : Int) = _
 have e2 : BitVec.ofInt 64 (-1) = BitVec.allOnes 64 := by decide
 rw [e2, BitVec.allOnes_xor, BitVec.toNat_not, BitVec.toNat_ofInt]
 simp [IntKind.wrap, IntKind.signed, IntKind.bits]
 omega
def fin2 (s : List UInt8) (sp : List (Int × Int)) (i : Nat) : List (List UInt8) := (sp.take i).map (cut s) ++ List.replicate (sp.length - i) []
theorem fin2_len (s : List UInt8) (sp : List (Int × Int)) (i : Nat) (h : i ≤ sp.length) : (fin2 s sp i).length = sp.length := by
 simp [fin2]; omega
theorem fin2_set (s : List UInt8) (sp : List (Int × Int)) (i : Nat) (h : i < sp.length) : (fin2 s sp i).set i (cut s (sp.getD i (0,0))) = fin2 s sp (i+1) := by
 unfold fin2
 rw [take_snoc sp i (0,0) h]
 have e : sp.length - i = (sp.length - (i+1)) + 1 := by omega
 rw [e, List.replicate_succ, List.set_append_right _ _ (by simp; omega)]
 simp
 have : i - min i sp.length = 0 := by omega
 rw [this]; simp
theorem fin2_end (s : List UInt8) (sp : List (Int × Int)) (i : Nat) (h : sp.length ≤ i) : fin2 s sp i = sp.map (cut s) := by
 unfold fin2; rw [List.take_of_length_le h]; simp; omega
theorem getD_mem' {α : Type} {l : List α} {i : Nat} {d : α} (h : i < l.length) : l.getD i d ∈ l := by
 simp [List.getD, List.getElem?_eq_getElem h]
instance f38 (s : List UInt8) : Fn BB 125 [.str s, .fn 126 []] (s.length ≤ 100000) (.rd .str (spl s)) := by
 refine Fn.intro (N := 65) [0, 1, 4, 5, 6, 7, 8, 9, 10, 11, 14, 15, 16, 21, 23, 33, 36, 47, 48, 49, 50] [] Tryz.call125 Tryz.func125 rfl rfl (by kernel_rfl) (fun hpre => ?_)
 repeat' ((conv => whnf);first|(with_reducible first|rfl|exact absTF|exact absFT)|exact True.intro|intro _|refine And.intro ?_ ?_|refine Fin.mk ?_|refine W1 rfl ?_ ?_|refine W2 rfl ?_ ?_|refine W3 rfl ?_ ?_|refine W4 ?_ ?_|refine W5 rfl ?_ ?_|refine W6 ?_ ?_|refine AppN.mk ?_|refine X1 (W1 rfl ?_ ?_)|refine X1 (W2 rfl ?_ ?_)|refine X2 (W7 rfl ?_ ?_)|refine X3 (W7 rfl ?_ ?_)|refine X4 (W7 rfl ?_ ?_)|refine X5 (W7 rfl ?_ ?_))
 all_goals (try (conv => whnf))
 all_goals (try first|exact obA|refine Ob.mk ?_)
 repeat' ((conv => whnf);first|(with_reducible first|rfl|exact absTF|exact absFT)|exact True.intro|intro _|refine And.intro ?_ ?_|refine Fin.mk ?_|refine W1 rfl ?_ ?_|refine W2 rfl ?_ ?_|refine W3 rfl ?_ ?_|refine W4 ?_ ?_|refine W5 rfl ?_ ?_|refine W6 ?_ ?_|refine AppN.mk ?_|refine X1 (W1 rfl ?_ ?_)|refine X1 (W2 rfl ?_ ?_)|refine X2 (W7 rfl ?_ ?_)|refine X3 (W7 rfl ?_ ?_)|refine X4 (W7 rfl ?_ ?_)|refine X5 (W7 rfl ?_ ?_))
 all_goals (try (conv => whnf))
 refine LoopStop.mk (α := FS) (fun a => [(5, .own 0), (6, .int .i64 a.start)]) (fun a => [(0, .own spTy a.spans), (1, .iter s a.pos)]) 2 (FSok s) (fun a => s.length - a.pos) ⟨0, [], -1⟩ ⟨by simp, by simp [spAt], by simp, by simp; omega, by simp [spAt]⟩ ?_ (fun a ha => ?_)
 ·repeat' ((conv => whnf);first|(with_reducible first|rfl|exact absTF|exact absFT)|exact True.intro|intro _|refine And.intro ?_ ?_|refine Fin.mk ?_|refine W1 rfl ?_ ?_|refine W2 rfl ?_ ?_|refine W3 rfl ?_ ?_|refine W4 ?_ ?_|refine W5 rfl ?_ ?_|refine W6 ?_ ?_|refine AppN.mk ?_|refine X1 (W1 rfl ?_ ?_)|refine X1 (W2 rfl ?_ ?_)|refine X2 (W7 rfl ?_ ?_)|refine X3 (W7 rfl ?_ ?_)|refine X4 (W7 rfl ?_ ?_)|refine X5 (W7 rfl ?_ ?_))
  all_goals (try (conv => whnf))
  all_goals (try rfl)
  all_goals trace_state
 ·have hl := ha.len
  have h1 := ha.hp
  have h2 := ha.hb
  repeat' ((conv => whnf);first|(with_reducible first|rfl|exact absTF|exact absFT)|exact True.intro|intro _|refine And.intro ?_ ?_|refine Fin.mk ?_|refine W1 rfl ?_ ?_|refine W2 rfl ?_ ?_|refine W3 rfl ?_ ?_|refine W4 ?_ ?_|refine W5 rfl ?_ ?_|refine W6 ?_ ?_|refine AppN.mk ?_|refine X1 (W1 rfl ?_ ?_)|refine X1 (W2 rfl ?_ ?_)|refine X2 (W7 rfl ?_ ?_)|refine X3 (W7 rfl ?_ ?_)|refine X4 (W7 rfl ?_ ?_)|refine X5 (W7 rfl ?_ ?_))
  all_goals (try (conv => whnf))
  all_goals (try first|exact obA|refine Ob.mk ?_)
  all_goals (try simp only [ZA,ZB,ZC,ZD,ZE,ZF,ZG,ZH,ZI,ZJ,ZK,ZL,ZM,ZN,ZO,Int.toNat_natCast,UInt8.ofNat_toNat,cast_eq] at *)
  ·skip
   repeat' ((conv => whnf);first|(with_reducible first|rfl|exact absTF|exact absFT)|exact True.intro|intro _|refine And.intro ?_ ?_|refine Fin.mk ?_|refine W1 rfl ?_ ?_|refine W2 rfl ?_ ?_|refine W3 rfl ?_ ?_|refine W4 ?_ ?_|refine W5 rfl ?_ ?_|refine W6 ?_ ?_|refine AppN.mk ?_|refine X1 (W1 rfl ?_ ?_)|refine X1 (W2 rfl ?_ ?_)|refine X2 (W7 rfl ?_ ?_)|refine X3 (W7 rfl ?_ ?_)|refine X4 (W7 rfl ?_ ?_)|refine X5 (W7 rfl ?_ ?_))
   all_goals (try (conv => whnf))
   all_goals (try first|exact obA|refine Ob.mk ?_)
   refine Rnd.mk ⟨⟨a.pos + (decL s a.pos).2, a.spans ++ [(a.start, (a.pos:Int))], -a.start - 1⟩, ?_, ?_, ?_⟩
   ·exact fs_sp1 ha ‹_› ‹_› (by omega)
   ·have := (decL_pos s a.pos ‹_›).1; simp; omega
   ·repeat' ((conv => whnf);first|(with_reducible first|rfl|exact absTF|exact absFT)|exact True.intro|intro _|refine And.intro ?_ ?_|refine Fin.mk ?_|refine W1 rfl ?_ ?_|refine W2 rfl ?_ ?_|refine W3 rfl ?_ ?_|refine W4 ?_ ?_|refine W5 rfl ?_ ?_|refine W6 ?_ ?_|refine AppN.mk ?_|refine X1 (W1 rfl ?_ ?_)|refine X1 (W2 rfl ?_ ?_)|refine X2 (W7 rfl ?_ ?_)|refine X3 (W7 rfl ?_ ?_)|refine X4 (W7 rfl ?_ ?_)|refine X5 (W7 rfl ?_ ?_))
    all_goals (try (conv => whnf))
    all_goals (try first|exact obA|refine Ob.mk ?_)
    all_goals (first | (rw [bits_not _ (by omega)]; done) | skip)
    all_goals trace_state
  ·have := (decL_pos s a.pos ‹_›).1
   refine Rnd.mk ⟨⟨a.pos + (decL s a.pos).2, a.spans, a.start⟩, ?_, ?_, ?_⟩
   ·exact fs_sp0 ha ‹_› ‹_› (by omega)
   ·simp; omega
   ·repeat' ((conv => whnf);first|(with_reducible first|rfl|exact absTF|exact absFT)|exact True.intro|intro _|refine And.intro ?_ ?_|refine Fin.mk ?_|refine W1 rfl ?_ ?_|refine W2 rfl ?_ ?_|refine W3 rfl ?_ ?_|refine W4 ?_ ?_|refine W5 rfl ?_ ?_|refine W6 ?_ ?_|refine AppN.mk ?_|refine X1 (W1 rfl ?_ ?_)|refine X1 (W2 rfl ?_ ?_)|refine X2 (W7 rfl ?_ ?_)|refine X3 (W7 rfl ?_ ?_)|refine X4 (W7 rfl ?_ ?_)|refine X5 (W7 rfl ?_ ?_))
    all_goals (try (conv => whnf))
    all_goals (try first|exact obA|refine Ob.mk ?_)
    all_goals trace_state
  ·have := (decL_pos s a.pos ‹_›).1
   refine Rnd.mk ⟨⟨a.pos + (decL s a.pos).2, a.spans, a.pos⟩, ?_, ?_, ?_⟩
   ·exact fs_no0 ha ‹_› ‹_› (by omega)
   ·simp; omega
   ·repeat' ((conv => whnf);first|(with_reducible first|rfl|exact absTF|exact absFT)|exact True.intro|intro _|refine And.intro ?_ ?_|refine Fin.mk ?_|refine W1 rfl ?_ ?_|refine W2 rfl ?_ ?_|refine W3 rfl ?_ ?_|refine W4 ?_ ?_|refine W5 rfl ?_ ?_|refine W6 ?_ ?_|refine AppN.mk ?_|refine X1 (W1 rfl ?_ ?_)|refine X1 (W2 rfl ?_ ?_)|refine X2 (W7 rfl ?_ ?_)|refine X3 (W7 rfl ?_ ?_)|refine X4 (W7 rfl ?_ ?_)|refine X5 (W7 rfl ?_ ?_))
    all_goals (try (conv => whnf))
    all_goals (try first|exact obA|refine Ob.mk ?_)
    all_goals trace_state
  ·have := (decL_pos s a.pos ‹_›).1
   refine Rnd.mk ⟨⟨a.pos + (decL s a.pos).2, a.spans, a.start⟩, ?_, ?_, ?_⟩
   ·exact fs_no1 ha ‹_› ‹_› (by omega)
   ·simp; omega
   ·repeat' ((conv => whnf);first|(with_reducible first|rfl|exact absTF|exact absFT)|exact True.intro|intro _|refine And.intro ?_ ?_|refine Fin.mk ?_|refine W1 rfl ?_ ?_|refine W2 rfl ?_ ?_|refine W3 rfl ?_ ?_|refine W4 ?_ ?_|refine W5 rfl ?_ ?_|refine W6 ?_ ?_|refine AppN.mk ?_|refine X1 (W1 rfl ?_ ?_)|refine X1 (W2 rfl ?_ ?_)|refine X2 (W7 rfl ?_ ?_)|refine X3 (W7 rfl ?_ ?_)|refine X4 (W7 rfl ?_ ?_)|refine X5 (W7 rfl ?_ ?_))
    all_goals (try (conv => whnf))
    all_goals (try first|exact obA|refine Ob.mk ?_)
    all_goals trace_state
  ·skip
   have hh := fs_end1 ha ‹_› (by omega)
   have hlen : (a.spans ++ [(a.start, (s.length:Int))]).length ≤ s.length + 1 := by simp; omega
   revert hh hlen
   generalize a.spans ++ [(a.start, (s.length:Int))] = sp
   intro hh hlen
   repeat' ((conv => whnf);first|(with_reducible first|rfl|exact absTF|exact absFT)|exact True.intro|intro _|refine And.intro ?_ ?_|refine Fin.mk ?_|refine W1 rfl ?_ ?_|refine W2 rfl ?_ ?_|refine W3 rfl ?_ ?_|refine W4 ?_ ?_|refine W5 rfl ?_ ?_|refine W6 ?_ ?_|refine AppN.mk ?_|refine X1 (W1 rfl ?_ ?_)|refine X1 (W2 rfl ?_ ?_)|refine X2 (W7 rfl ?_ ?_)|refine X3 (W7 rfl ?_ ?_)|refine X4 (W7 rfl ?_ ?_)|refine X5 (W7 rfl ?_ ?_))
   all_goals (try (conv => whnf))
   all_goals (try first|exact obA|refine Ob.mk ?_)
   repeat' ((conv => whnf);first|(with_reducible first|rfl|exact absTF|exact absFT)|exact True.intro|intro _|refine And.intro ?_ ?_|refine Fin.mk ?_|refine W1 rfl ?_ ?_|refine W2 rfl ?_ ?_|refine W3 rfl ?_ ?_|refine W4 ?_ ?_|refine W5 rfl ?_ ?_|refine W6 ?_ ?_|refine AppN.mk ?_|refine X1 (W1 rfl ?_ ?_)|refine X1 (W2 rfl ?_ ?_)|refine X2 (W7 rfl ?_ ?_)|refine X3 (W7 rfl ?_ ?_)|refine X4 (W7 rfl ?_ ?_)|refine X5 (W7 rfl ?_ ?_))
   all_goals (try (conv => whnf))
   refine LoopStop.mk (α := Nat) (fun i => [(49, .int .i64 i)]) (fun i => [(3, .own .str (fin2 s sp i))]) 20 (fun i => i ≤ sp.length) (fun i => sp.length - i) 0 (by simp) ?_ (fun i hi => ?_)
   ·repeat' ((conv => whnf);first|(with_reducible first|rfl|exact absTF|exact absFT)|exact True.intro|intro _|refine And.intro ?_ ?_|refine Fin.mk ?_|refine W1 rfl ?_ ?_|refine W2 rfl ?_ ?_|refine W3 rfl ?_ ?_|refine W4 ?_ ?_|refine W5 rfl ?_ ?_|refine W6 ?_ ?_|refine AppN.mk ?_|refine X1 (W1 rfl ?_ ?_)|refine X1 (W2 rfl ?_ ?_)|refine X2 (W7 rfl ?_ ?_)|refine X3 (W7 rfl ?_ ?_)|refine X4 (W7 rfl ?_ ?_)|refine X5 (W7 rfl ?_ ?_))
    all_goals (try (conv => whnf))
    all_goals (try rfl)
    all_goals trace_state
   ·repeat' ((conv => whnf);first|(with_reducible first|rfl|exact absTF|exact absFT)|exact True.intro|intro _|refine And.intro ?_ ?_|refine Fin.mk ?_|refine W1 rfl ?_ ?_|refine W2 rfl ?_ ?_|refine W3 rfl ?_ ?_|refine W4 ?_ ?_|refine W5 rfl ?_ ?_|refine W6 ?_ ?_|refine AppN.mk ?_|refine X1 (W1 rfl ?_ ?_)|refine X1 (W2 rfl ?_ ?_)|refine X2 (W7 rfl ?_ ?_)|refine X3 (W7 rfl ?_ ?_)|refine X4 (W7 rfl ?_ ?_)|refine X5 (W7 rfl ?_ ?_))
    all_goals (try (conv => whnf))
    all_goals (try first|exact obA|refine Ob.mk ?_)
    all_goals (try simp only [ZA,ZB,ZC,ZD,ZE,ZF,ZG,ZH,ZI,ZJ,ZK,ZL,ZM,ZN,ZO,Int.toNat_natCast,UInt8.ofNat_toNat,cast_eq] at *)
    ·exact hh.2 _ (getD_mem' (by omega))
    ·rw [fin2_len s sp i hi]; omega
    ·rw [fin2_len s sp i hi]; omega
    ·skip
     have e := fin2_set s sp i (by omega)
     repeat' ((conv => whnf);first|(with_reducible first|rfl|exact absTF|exact absFT)|exact True.intro|intro _|refine And.intro ?_ ?_|refine Fin.mk ?_|refine W1 rfl ?_ ?_|refine W2 rfl ?_ ?_|refine W3 rfl ?_ ?_|refine W4 ?_ ?_|refine W5 rfl ?_ ?_|refine W6 ?_ ?_|refine AppN.mk ?_|refine X1 (W1 rfl ?_ ?_)|refine X1 (W2 rfl ?_ ?_)|refine X2 (W7 rfl ?_ ?_)|refine X3 (W7 rfl ?_ ?_)|refine X4 (W7 rfl ?_ ?_)|refine X5 (W7 rfl ?_ ?_))
     all_goals (try (conv => whnf))
     all_goals (try first|exact obA|refine Ob.mk ?_)
     refine Rnd.mk ⟨i + 1, ?_, ?_, ?_⟩
     ·omega
     ·omega
     ·repeat' ((conv => whnf);first|(with_reducible first|rfl|exact absTF|exact absFT)|exact True.intro|intro _|refine And.intro ?_ ?_|refine Fin.mk ?_|refine W1 rfl ?_ ?_|refine W2 rfl ?_ ?_|refine W3 rfl ?_ ?_|refine W4 ?_ ?_|refine W5 rfl ?_ ?_|refine W6 ?_ ?_|refine AppN.mk ?_|refine X1 (W1 rfl ?_ ?_)|refine X1 (W2 rfl ?_ ?_)|refine X2 (W7 rfl ?_ ?_)|refine X3 (W7 rfl ?_ ?_)|refine X4 (W7 rfl ?_ ?_)|refine X5 (W7 rfl ?_ ?_))
      all_goals (try (conv => whnf))
      all_goals (try first|exact obA|refine Ob.mk ?_)
      all_goals (rw [← e]; rfl)
    ·rw [fin2_end s sp i (by omega), hh.1]
  ·have hh := fs_end0 ha ‹_› (by omega)
   have hlen : a.spans.length ≤ s.length + 1 := by omega
   revert hh hlen
   generalize a.spans = sp
   intro hh hlen
   repeat' ((conv => whnf);first|(with_reducible first|rfl|exact absTF|exact absFT)|exact True.intro|intro _|refine And.intro ?_ ?_|refine Fin.mk ?_|refine W1 rfl ?_ ?_|refine W2 rfl ?_ ?_|refine W3 rfl ?_ ?_|refine W4 ?_ ?_|refine W5 rfl ?_ ?_|refine W6 ?_ ?_|refine AppN.mk ?_|refine X1 (W1 rfl ?_ ?_)|refine X1 (W2 rfl ?_ ?_)|refine X2 (W7 rfl ?_ ?_)|refine X3 (W7 rfl ?_ ?_)|refine X4 (W7 rfl ?_ ?_)|refine X5 (W7 rfl ?_ ?_))
   all_goals (try (conv => whnf))
   refine LoopStop.mk (α := Nat) (fun i => [(49, .int .i64 i)]) (fun i => [(2, .own .str (fin2 s sp i))]) 3 (fun i => i ≤ sp.length) (fun i => sp.length - i) 0 (by simp) ?_ (fun i hi => ?_)
   ·repeat' ((conv => whnf);first|(with_reducible first|rfl|exact absTF|exact absFT)|exact True.intro|intro _|refine And.intro ?_ ?_|refine Fin.mk ?_|refine W1 rfl ?_ ?_|refine W2 rfl ?_ ?_|refine W3 rfl ?_ ?_|refine W4 ?_ ?_|refine W5 rfl ?_ ?_|refine W6 ?_ ?_|refine AppN.mk ?_|refine X1 (W1 rfl ?_ ?_)|refine X1 (W2 rfl ?_ ?_)|refine X2 (W7 rfl ?_ ?_)|refine X3 (W7 rfl ?_ ?_)|refine X4 (W7 rfl ?_ ?_)|refine X5 (W7 rfl ?_ ?_))
    all_goals (try (conv => whnf))
    all_goals (try rfl)
    all_goals trace_state
   ·repeat' ((conv => whnf);first|(with_reducible first|rfl|exact absTF|exact absFT)|exact True.intro|intro _|refine And.intro ?_ ?_|refine Fin.mk ?_|refine W1 rfl ?_ ?_|refine W2 rfl ?_ ?_|refine W3 rfl ?_ ?_|refine W4 ?_ ?_|refine W5 rfl ?_ ?_|refine W6 ?_ ?_|refine AppN.mk ?_|refine X1 (W1 rfl ?_ ?_)|refine X1 (W2 rfl ?_ ?_)|refine X2 (W7 rfl ?_ ?_)|refine X3 (W7 rfl ?_ ?_)|refine X4 (W7 rfl ?_ ?_)|refine X5 (W7 rfl ?_ ?_))
    all_goals (try (conv => whnf))
    all_goals (try first|exact obA|refine Ob.mk ?_)
    all_goals (try simp only [ZA,ZB,ZC,ZD,ZE,ZF,ZG,ZH,ZI,ZJ,ZK,ZL,ZM,ZN,ZO,Int.toNat_natCast,UInt8.ofNat_toNat,cast_eq] at *)
    ·exact hh.2 _ (getD_mem' (by omega))
    ·rw [fin2_len s sp i hi]; omega
    ·rw [fin2_len s sp i hi]; omega
    ·skip
     have e := fin2_set s sp i (by omega)
     repeat' ((conv => whnf);first|(with_reducible first|rfl|exact absTF|exact absFT)|exact True.intro|intro _|refine And.intro ?_ ?_|refine Fin.mk ?_|refine W1 rfl ?_ ?_|refine W2 rfl ?_ ?_|refine W3 rfl ?_ ?_|refine W4 ?_ ?_|refine W5 rfl ?_ ?_|refine W6 ?_ ?_|refine AppN.mk ?_|refine X1 (W1 rfl ?_ ?_)|refine X1 (W2 rfl ?_ ?_)|refine X2 (W7 rfl ?_ ?_)|refine X3 (W7 rfl ?_ ?_)|refine X4 (W7 rfl ?_ ?_)|refine X5 (W7 rfl ?_ ?_))
     all_goals (try (conv => whnf))
     all_goals (try first|exact obA|refine Ob.mk ?_)
     refine Rnd.mk ⟨i + 1, ?_, ?_, ?_⟩
     ·omega
     ·omega
     ·repeat' ((conv => whnf);first|(with_reducible first|rfl|exact absTF|exact absFT)|exact True.intro|intro _|refine And.intro ?_ ?_|refine Fin.mk ?_|refine W1 rfl ?_ ?_|refine W2 rfl ?_ ?_|refine W3 rfl ?_ ?_|refine W4 ?_ ?_|refine W5 rfl ?_ ?_|refine W6 ?_ ?_|refine AppN.mk ?_|refine X1 (W1 rfl ?_ ?_)|refine X1 (W2 rfl ?_ ?_)|refine X2 (W7 rfl ?_ ?_)|refine X3 (W7 rfl ?_ ?_)|refine X4 (W7 rfl ?_ ?_)|refine X5 (W7 rfl ?_ ?_))
      all_goals (try (conv => whnf))
      all_goals (try first|exact obA|refine Ob.mk ?_)
      all_goals (rw [← e]; rfl)
    ·rw [fin2_end s sp i (by omega), hh.1]
end Go.Vc.W

namespace Go.Vc.W
open Go.Proofs
set_option maxRecDepth 10000
instance f33 (s : List UInt8) : Fn BB 115 [.str s] (s.length ≤ 100000) (.rd .str (spl s)) := by
 refine Fn.intro (N := 5) [0, 2] [] Tryz.call115 Tryz.func115 rfl rfl (by kernel_rfl) (fun hpre => ?_)
 all_goals exact vcA
instance f30 (s t : List UInt8) : Fn BB 112 [.str s, .str t] (s.length ≤ 4294967280) (.int .i64 (Lib.index s t)) := by
 refine Fn.lift Tryz.call112 fun hp r β w vs hG m hl => ?_
 obtain ⟨rfl, h1, h2⟩ := hl.str2
 obtain ⟨c, T, fr, mm, e1, e2⟩ := hG
 have e3 := m.vis 0 _ e1
 exact ⟨_, Tryz.strings_Index ⟨s.toArray⟩ ⟨t.toArray⟩ mm w (by show s.toArray.size < _; simp; omega) (by simp [World.cell?, e3, e2]), .int⟩
end Go.Vc.W

namespace Go.Vc.W
open Go.Proofs
set_option maxRecDepth 10000
def BOcc (s w : List UInt8) (j : Nat) : Prop := Lib.occAt s w j = true ∧ (j = 0 ∨ isSp (s.getD (j-1) 0).toNat = true) ∧ (j + w.length = s.length ∨ isSp (s.getD (j + w.length) 0).toNat = true)
def NoB (s w : List UInt8) (a : Nat) : Prop := ∀ j, j < a → ¬ BOcc s w j
theorem occ_cut (s : List UInt8) (j i : Nat) (h : j ≤ i) (h2 : i ≤ s.length) : Lib.occAt s (cut s (j, i)) j = true := by
 unfold Lib.occAt cut
 rw [List.isPrefixOf_iff_prefix]
 simp only [Int.toNat_natCast]
 rw [List.drop_take]
 exact List.take_prefix _ _
theorem cut_len (s : List UInt8) (j i : Nat) (h : j ≤ i) (h2 : i ≤ s.length) : (cut s (j, i)).length = i - j := by
 simp [cut]; omega
theorem spAt_words (s : List UInt8) (i : Nat) (h : i ≤ s.length) :
  (∀ x ∈ (spAt s i).1, ¬ x = [] ∧ ∃ j, BOcc s x j) ∧ ∃ j, j ≤ i ∧ (spAt s i).2 = cut s ((j:Nat), (i:Nat)) ∧ (j = 0 ∨ isSp (s.getD (j-1) 0).toNat = true) := by
 induction i with
 | zero => exact ⟨by simp [spAt], 0, by simp, by simp [spAt, cut], Or.inl rfl⟩
 | succ i ih =>
  obtain ⟨ih1, j, hj, e, hb⟩ := ih (by omega)
  have es := spAt_succ s i (by omega)
  cases hc : isSp (s.getD i 0).toNat with
  | false =>
   rw [spStep_no hc] at es
   rw [es]
   exact ⟨ih1, j, by omega, by rw [cut_more s j i hj (by omega), ← e], hb⟩
  | true =>
   by_cases h2 : (spAt s i).2 = []
   ·rw [spStep_sp hc h2] at es
    rw [es]
    exact ⟨ih1, i + 1, by omega, by simp [cut], Or.inr (by simpa using hc)⟩
   ·rw [spStep_spw hc h2] at es
    rw [es]
    refine ⟨fun x hx => ?_, i + 1, by omega, by simp [cut], Or.inr (by simpa using hc)⟩
    rcases List.mem_append.mp hx with hx | hx
    ·exact ih1 x hx
    ·simp only [List.mem_singleton] at hx
     subst hx
     refine ⟨h2, j, ?_⟩
     rw [e]
     refine ⟨occ_cut s j i hj (by omega), hb, Or.inr ?_⟩
     rw [cut_len s j i hj (by omega)]
     have : j + (i - j) = i := by omega
     rw [this]; exact hc
theorem spl_words (s x : List UInt8) (h : (spl s).contains x = true) : ¬ x = [] ∧ ∃ j, BOcc s x j := by
 have hx : x ∈ spl s := by simpa using h
 obtain ⟨h1, j, hj, e, hb⟩ := spAt_words s s.length (Nat.le_refl _)
 by_cases h2 : (spAt s s.length).2 = []
 ·rw [spl_e (Nat.le_refl _) h2] at hx; exact h1 x hx
 ·rw [spl_w (Nat.le_refl _) h2] at hx
  rcases List.mem_append.mp hx with hx | hx
  ·exact h1 x hx
  ·simp only [List.mem_singleton] at hx
   subst hx
   refine ⟨h2, j, ?_⟩
   rw [e]
   refine ⟨occ_cut s j _ hj (Nat.le_refl _), hb, Or.inl ?_⟩
   rw [cut_len s j _ hj (Nat.le_refl _)]; omega
theorem spl_empty (s x : List UInt8) (h : x = []) : (spl s).contains x = false := by
 cases e : (spl s).contains x with
 | false => rfl
 | true => exact absurd h (spl_words s x e).1
theorem spl_noB (s x : List UInt8) (n : Nat) (hn : s.length ≤ n) (h0 : ¬ x = []) (h : NoB s x n) : (spl s).contains x = false := by
 cases e : (spl s).contains x with
 | false => rfl
 | true =>
  obtain ⟨j, hj⟩ := (spl_words s x e).2
  rcases Lib.occAt_room hj.1 with k | k
  ·have : 0 < x.length := List.length_pos_iff.mpr h0
   exact absurd hj (h j (by omega))
  ·exact absurd k h0
theorem least (f : Nat → Bool) (n : Nat) (h : f n = true) : ∃ m, f m = true ∧ ∀ j, j < m → f j = false := by
 induction n using Nat.strongRecOn with
 | _ n ih =>
  by_cases hh : ∃ j, j < n ∧ f j = true
  ·obtain ⟨j, h1, h2⟩ := hh
   exact ih j h1 h2
  ·refine ⟨n, h, fun j hj => ?_⟩
   cases e : f j with
   | false => rfl
   | true => exact absurd ⟨j, hj, e⟩ hh
theorem ixs (s w : List UInt8) (i : Nat) (hi : i ≤ s.length) (h0 : ¬ w = []) :
  (Lib.index (s.drop i) w = -1 ∧ ∀ j, i ≤ j → Lib.occAt s w j = false) ∨
  ∃ p : Nat, Lib.index (s.drop i) w = p ∧ i + p + w.length ≤ s.length ∧ Lib.occAt s w (i + p) = true ∧ ∀ j, i ≤ j → j < i + p → Lib.occAt s w j = false := by
 have sh : ∀ q, Lib.occAt (s.drop i) w q = Lib.occAt s w (i + q) := fun q => by simp [Lib.occAt, List.drop_drop]
 by_cases hh : ∃ q, Lib.occAt (s.drop i) w q = true
 ·right
  obtain ⟨q, hq⟩ := hh
  obtain ⟨p, hd, hm⟩ := least _ q hq
  refine ⟨p, ?_⟩
  have hr : i + p + w.length ≤ s.length := by
   rcases Lib.occAt_room hd with k | k
   ·have : 0 < w.length := List.length_pos_iff.mpr h0
    simp at k; omega
   ·exact absurd k h0
  refine ⟨Lib.index_first (by simp; omega) hd hm, hr, by rw [← sh]; exact hd, fun j h1 h2 => ?_⟩
  have := hm (j - i) (by omega)
  rw [sh] at this
  have e : i + (j - i) = j := by omega
  rwa [e] at this
 ·left
  have hm : ∀ q, Lib.occAt (s.drop i) w q = false := fun q => by
   cases e : Lib.occAt (s.drop i) w q with
   | false => rfl
   | true => exact absurd ⟨q, e⟩ hh
  refine ⟨Lib.index_none fun j _ => hm j, fun j h1 => ?_⟩
  have := hm (j - i)
  rw [sh] at this
  have e : i + (j - i) = j := by omega
  rwa [e] at this
end Go.Vc.W

namespace Go.Vc.W
open Go.Proofs
set_option maxRecDepth 10000
theorem ixOf_has (l : List (List UInt8)) (w : List UInt8) : decide (ixOf l w ≥ 0) = l.contains w := by
 unfold ixOf
 cases h : l.contains w <;> simp
theorem nob_step {s w : List UInt8} {i p : Nat} (h : NoB s w i) (hp : ∀ j, i ≤ j → j < i + p → Lib.occAt s w j = false) (hb : ¬ BOcc s w (i + p)) : NoB s w (i + p + 1) := by
 intro j hj
 by_cases h1 : j < i
 ·exact h j h1
 ·by_cases h2 : j < i + p
  ·intro e; have := hp j (by omega) h2; rw [e.1] at this; cases this
  ·have : j = i + p := by omega
   subst this; exact hb
theorem nob_end {s w : List UInt8} {i : Nat} (h : NoB s w i) (hp : ∀ j, i ≤ j → Lib.occAt s w j = false) (n : Nat) : NoB s w n := by
 intro j hj
 by_cases h1 : j < i
 ·exact h j h1
 ·intro e; have := hp j (by omega); rw [e.1] at this; cases this
instance f26 (s w : List UInt8) : Fn BB 88 [.str s, .str w] (s.length ≤ 100000 ∧ w.length ≤ 100000) (.bool ((spl s).contains w)) := by
  refine Fn.intro (N := 52) [0, 1, 4, 5, 6, 7, 8, 10, 17, 45] [] Tryz.call88 Tryz.func88 rfl rfl (by kernel_rfl) (fun hpre => ?_)
  repeat' ((conv => whnf);first|(with_reducible first|rfl|exact absTF|exact absFT)|exact True.intro|intro _|refine And.intro ?_ ?_|refine Fin.mk ?_|refine W1 rfl ?_ ?_|refine W2 rfl ?_ ?_|refine W3 rfl ?_ ?_|refine W4 ?_ ?_|refine W5 rfl ?_ ?_|refine W6 ?_ ?_|refine AppN.mk ?_|refine X1 (W1 rfl ?_ ?_)|refine X1 (W2 rfl ?_ ?_)|refine X2 (W7 rfl ?_ ?_)|refine X3 (W7 rfl ?_ ?_)|refine X4 (W7 rfl ?_ ?_)|refine X5 (W7 rfl ?_ ?_))
  all_goals (try (conv => whnf))
  all_goals (try first|exact obA|refine Ob.mk ?_)
  · rw [spl_empty s w (by simpa using ‹(w == []) = true›)]
  · have h0 : ¬ w = [] := by simpa using ‹(w == []) = false›
    refine LoopStop.mk (α := Nat) (fun i => [(5, .int .i64 i)]) (fun i => []) 0 (fun i => i ≤ s.length ∧ NoB s w i) (fun i => s.length + 1 - i) 0 ⟨by omega, fun j hj => absurd hj (by omega)⟩ ?_ (fun i hi => ?_)
    · repeat' ((conv => whnf);first|(with_reducible first|rfl|exact absTF|exact absFT)|exact True.intro|intro _|refine And.intro ?_ ?_|refine Fin.mk ?_|refine W1 rfl ?_ ?_|refine W2 rfl ?_ ?_|refine W3 rfl ?_ ?_|refine W4 ?_ ?_|refine W5 rfl ?_ ?_|refine W6 ?_ ?_|refine AppN.mk ?_|refine X1 (W1 rfl ?_ ?_)|refine X1 (W2 rfl ?_ ?_)|refine X2 (W7 rfl ?_ ?_)|refine X3 (W7 rfl ?_ ?_)|refine X4 (W7 rfl ?_ ?_)|refine X5 (W7 rfl ?_ ?_))
      all_goals (try (conv => whnf))
      all_goals (try rfl)
    · have hx := ixs s w i hi.1 h0
      have hl0 : 0 < w.length := List.length_pos_iff.mpr h0
      repeat' ((conv => whnf);first|(with_reducible first|rfl|exact absTF|exact absFT)|exact True.intro|intro _|refine And.intro ?_ ?_|refine Fin.mk ?_|refine W1 rfl ?_ ?_|refine W2 rfl ?_ ?_|refine W3 rfl ?_ ?_|refine W4 ?_ ?_|refine W5 rfl ?_ ?_|refine W6 ?_ ?_|refine AppN.mk ?_|refine X1 (W1 rfl ?_ ?_)|refine X1 (W2 rfl ?_ ?_)|refine X2 (W7 rfl ?_ ?_)|refine X3 (W7 rfl ?_ ?_)|refine X4 (W7 rfl ?_ ?_)|refine X5 (W7 rfl ?_ ?_))
      all_goals (try (conv => whnf))
      all_goals (try simp only [ZA,ZB,ZC,ZD,ZE,ZF,ZG,ZH,ZI,ZJ,ZK,ZL,ZM,ZN,ZO,Int.toNat_natCast,UInt8.ofNat_toNat,cast_eq] at *)
      all_goals (rcases hx with ⟨hx, hx2⟩ | ⟨p, hx, hx1, hx2, hx3⟩)
      all_goals (try (exfalso; omega))
      all_goals (try first|exact obA|refine Ob.mk ?_)
      · rw [spl_noB s w s.length (Nat.le_refl _) h0 (nob_end hi.2 hx2 _)]
      · rw [ixOf_has]
      · have hb : ¬ BOcc s w (i + p) := by
          rintro ⟨b1, b2, b3⟩
          have e1 : ((i:Int) + (p:Int) - 1).toNat = i + p - 1 := by omega
          have e2 : ((i:Int) + (p:Int) + (w.length:Int)).toNat = i + p + w.length := by omega
          rename_i hc _ _
          rw [hx, e1, e2] at hc
          simp only [Bool.and_eq_false_iff, Bool.or_eq_false_iff, beq_eq_false_iff_ne] at hc
          rcases hc with ⟨c1, c2⟩ | ⟨c1, c2⟩
          · rcases b2 with b2 | b2
            · omega
            · rw [b2] at c2; cases c2
          · rcases b3 with b3 | b3
            · omega
            · rw [b3] at c2; cases c2
        refine Rnd.mk ⟨i + p + 1, ?_, ?_, ?_⟩
        · exact ⟨by omega, nob_step hi.2 hx3 hb⟩
        · omega
        · all_goals exact vcA
end Go.Vc.W

namespace Go.Vc.W
open Go.Proofs
set_option maxRecDepth 10000
def cForeign : List UInt8 := [100, 101, 115, 99, 32, 102, 111, 114, 101, 105, 103, 110, 79, 98, 106, 101, 99, 116, 32, 116, 105, 116, 108, 101]
def cPoints : List UInt8 := [109, 105, 32, 109, 110, 32, 109, 111, 32, 109, 115, 32, 109, 116, 101, 120, 116]
def cMath : List UInt8 := [97, 110, 110, 111, 116, 97, 116, 105, 111, 110, 45, 120, 109, 108, 32, 109, 105, 32, 109, 110, 32, 109, 111, 32, 109, 115, 32, 109, 116, 101, 120, 116]
def cAxml : List UInt8 := [97, 110, 110, 111, 116, 97, 116, 105, 111, 110, 45, 120, 109, 108]
def cSpecial : List UInt8 := [97, 100, 100, 114, 101, 115, 115, 32, 97, 112, 112, 108, 101, 116, 32, 97, 114, 101, 97, 32, 97, 114, 116, 105, 99, 108, 101, 32, 97, 115, 105, 100, 101, 32, 98, 97, 115, 101, 32, 98, 97, 115, 101, 102, 111, 110, 116, 32, 98, 103, 115, 111, 117, 110, 100, 32, 98, 108, 111, 99, 107, 113, 117, 111, 116, 101, 32, 98, 111, 100, 121, 32, 98, 114, 32, 98, 117, 116, 116, 111, 110, 32, 99, 97, 112, 116, 105, 111, 110, 32, 99, 101, 110, 116, 101, 114, 32, 99, 111, 108, 32, 99, 111, 108, 103, 114, 111, 117, 112, 32, 100, 100, 32, 100, 101, 116, 97, 105, 108, 115, 32, 100, 105, 114, 32, 100, 105, 118, 32, 100, 108, 32, 100, 116, 32, 101, 109, 98, 101, 100, 32, 102, 105, 101, 108, 100, 115, 101, 116, 32, 102, 105, 103, 99, 97, 112, 116, 105, 111, 110, 32, 102, 105, 103, 117, 114, 101, 32, 102, 111, 111, 116, 101, 114, 32, 102, 111, 114, 109, 32, 102, 114, 97, 109, 101, 32, 102, 114, 97, 109, 101, 115, 101, 116, 32, 104, 49, 32, 104, 50, 32, 104, 51, 32, 104, 52, 32, 104, 53, 32, 104, 54, 32, 104, 101, 97, 100, 32, 104, 101, 97, 100, 101, 114, 32, 104, 103, 114, 111, 117, 112, 32, 104, 114, 32, 104, 116, 109, 108, 32, 105, 102, 114, 97, 109, 101, 32, 105, 109, 103, 32, 105, 110, 112, 117, 116, 32, 107, 101, 121, 103, 101, 110, 32, 108, 105, 32, 108, 105, 110, 107, 32, 108, 105, 115, 116, 105, 110, 103, 32, 109, 97, 105, 110, 32, 109, 97, 114, 113, 117, 101, 101, 32, 109, 101, 110, 117, 32, 109, 101, 116, 97, 32, 110, 97, 118, 32, 110, 111, 101, 109, 98, 101, 100, 32, 110, 111, 102, 114, 97, 109, 101, 115, 32, 110, 111, 115, 99, 114, 105, 112, 116, 32, 111, 98, 106, 101, 99, 116, 32, 111, 108, 32, 111, 112, 116, 103, 114, 111, 117, 112, 32, 111, 112, 116, 105, 111, 110, 32, 112, 32, 112, 97, 114, 97, 109, 32, 112, 108, 97, 105, 110, 116, 101, 120, 116, 32, 112, 114, 101, 32, 115, 99, 114, 105, 112, 116, 32, 115, 101, 97, 114, 99, 104, 32, 115, 101, 99, 116, 105, 111, 110, 32, 115, 101, 108, 101, 99, 116, 32, 115, 111, 117, 114, 99, 101, 32, 115, 116, 121, 108, 101, 32, 115, 117, 109, 109, 97, 114, 121, 32, 116, 97, 98, 108, 101, 32, 116, 98, 111, 100, 121, 32, 116, 100, 32, 116, 101, 109, 112, 108, 97, 116, 101, 32, 116, 101, 120, 116, 97, 114, 101, 97, 32, 116, 102, 111, 111, 116, 32, 116, 104, 32, 116, 104, 101, 97, 100, 32, 116, 105, 116, 108, 101, 32, 116, 114, 32, 116, 114, 97, 99, 107, 32, 117, 108, 32, 119, 98, 114, 32, 120, 109, 112]
def cImpl : List UInt8 := [100, 100, 32, 100, 116, 32, 108, 105, 32, 111, 112, 116, 103, 114, 111, 117, 112, 32, 111, 112, 116, 105, 111, 110, 32, 112, 32, 114, 98, 32, 114, 112, 32, 114, 116, 32, 114, 116, 99]
def cEnds : List UInt8 := [97, 112, 112, 108, 101, 116, 32, 99, 97, 112, 116, 105, 111, 110, 32, 104, 116, 109, 108, 32, 109, 97, 114, 113, 117, 101, 101, 32, 111, 98, 106, 101, 99, 116, 32, 116, 97, 98, 108, 101, 32, 116, 100, 32, 116, 101, 109, 112, 108, 97, 116, 101, 32, 116, 104]
def cOlUl : List UInt8 := [111, 108, 32, 117, 108]
def cButton : List UInt8 := [98, 117, 116, 116, 111, 110]
def cTable : List UInt8 := [104, 116, 109, 108, 32, 116, 97, 98, 108, 101, 32, 116, 101, 109, 112, 108, 97, 116, 101]
def cOpt : List UInt8 := [111, 112, 116, 103, 114, 111, 117, 112, 32, 111, 112, 116, 105, 111, 110]
def cRc : List UInt8 := [116, 101, 120, 116, 97, 114, 101, 97, 32, 116, 105, 116, 108, 101]
def cRaw : List UInt8 := [105, 102, 114, 97, 109, 101, 32, 110, 111, 101, 109, 98, 101, 100, 32, 110, 111, 102, 114, 97, 109, 101, 115, 32, 115, 116, 121, 108, 101, 32, 120, 109, 112]
def cScript : List UInt8 := [115, 99, 114, 105, 112, 116]
def cPlain : List UInt8 := [112, 108, 97, 105, 110, 116, 101, 120, 116]
def w_dd : List UInt8 := [100, 100]
def w_dt : List UInt8 := [100, 116]
def w_li : List UInt8 := [108, 105]
def w_optgroup : List UInt8 := [111, 112, 116, 103, 114, 111, 117, 112]
def w_option : List UInt8 := [111, 112, 116, 105, 111, 110]
def w_p : List UInt8 := [112]
def w_rb : List UInt8 := [114, 98]
def w_rp : List UInt8 := [114, 112]
def w_rt : List UInt8 := [114, 116]
def w_rtc : List UInt8 := [114, 116, 99]
def w_textarea : List UInt8 := [116, 101, 120, 116, 97, 114, 101, 97]
def w_title : List UInt8 := [116, 105, 116, 108, 101]
def w_iframe : List UInt8 := [105, 102, 114, 97, 109, 101]
def w_noembed : List UInt8 := [110, 111, 101, 109, 98, 101, 100]
def w_noframes : List UInt8 := [110, 111, 102, 114, 97, 109, 101, 115]
def w_style : List UInt8 := [115, 116, 121, 108, 101]
def w_xmp : List UInt8 := [120, 109, 112]
def has (c nm : List UInt8) : Bool := (spl c).contains nm
def kForeign (sp : Int) (nm : List UInt8) : Bool := (sp == 2 && has cMath nm) || (sp == 1 && has cForeign nm)
def kHtml (sp : Int) (nm c : List UInt8) : Bool := sp == 0 && has c nm
def kSpecial (sp : Int) (nm : List UInt8) : Bool := kForeign sp nm || kHtml sp nm cSpecial
def kStops (sc sp : Int) (nm : List UInt8) : Bool :=
 let few := kForeign sp nm || kHtml sp nm cEnds
 if sc = 0 then few else if sc = 1 then few || kHtml sp nm cOlUl else if sc = 2 then few || kHtml sp nm cButton
 else if sc = 3 then kHtml sp nm cTable else !(sc == 4) || !kHtml sp nm cOpt
def kLexed (nm : List UInt8) : Int := if has cRc nm then 1 else if has cRaw nm then 2 else if nm = cScript then 3 else if nm = cPlain then 4 else 0
theorem spl_cMath : spl cMath = [cAxml] ++ spl cPoints := by decide +kernel
theorem spl_cImpl : spl cImpl = [w_dd, w_dt, w_li, w_optgroup, w_option, w_p, w_rb, w_rp, w_rt, w_rtc] := by decide +kernel
theorem spl_cRc : spl cRc = [w_textarea, w_title] := by decide +kernel
theorem spl_cRaw : spl cRaw = [w_iframe, w_noembed, w_noframes, w_style, w_xmp] := by decide +kernel
instance f28 (sp : Int) (nm c : List UInt8) : Fn BB 119 [.int .i64 sp, .str nm, .str c] (nm.length ≤ 60 ∧ c.length ≤ 100000) (.bool (kHtml sp nm c)) := by
 refine Fn.intro (N := 14) [0, 1, 2, 6] [] Tryz.call119 Tryz.func119 rfl rfl (by kernel_rfl) (fun hpre => ?_)
 all_goals exact vcA
instance f27 (sp : Int) (nm : List UInt8) : Fn BB 118 [.int .i64 sp, .str nm] (nm.length ≤ 60) (.bool (kForeign sp nm)) := by
 refine Fn.intro (N := 19) [0, 1, 4] [] Tryz.call118 Tryz.func118 rfl rfl (by kernel_rfl) (fun hpre => ?_)
 all_goals exact vcA
end Go.Vc.W

namespace Go.Vc.W
open Go.Proofs
set_option maxRecDepth 10000
theorem k_svg (nm : List UInt8) : kSpecial 1 nm = has cForeign nm := by simp [kSpecial, kForeign, kHtml]
theorem has_math (nm : List UInt8) : has cMath nm = (nm == cAxml || has cPoints nm) := by
 unfold has; rw [spl_cMath]; simp only [List.contains_eq_any_beq, List.any_append, List.any_cons, List.any_nil, Bool.or_false]
theorem k_math (nm : List UInt8) : kSpecial 2 nm = (nm == cAxml || has cPoints nm) := by
 simp [kSpecial, kForeign, kHtml, has_math]
theorem k_else (sp : Int) (nm : List UInt8) (h1 : (sp == 1) = false) (h2 : (sp == 2) = false) : kSpecial sp nm = (sp == 0 && has cSpecial nm) := by
 simp [kSpecial, kForeign, kHtml, h1, h2]
theorem lit_ends : spl [97, 112, 112, 108, 101, 116, 32, 99, 97, 112, 116, 105, 111, 110, 32, 104, 116, 109, 108, 32, 109, 97, 114, 113, 117, 101, 101, 32, 111, 98, 106, 101, 99, 116, 32, 116, 97, 98, 108, 101, 32, 116, 100, 32, 116, 101, 109, 112, 108, 97, 116, 101, 32, 116, 104] = [[97, 112, 112, 108, 101, 116], [99, 97, 112, 116, 105, 111, 110], [104, 116, 109, 108], [109, 97, 114, 113, 117, 101, 101], [111, 98, 106, 101, 99, 116], [116, 97, 98, 108, 101], [116, 100], [116, 101, 109, 112, 108, 97, 116, 101], [116, 104]] := by decide +kernel
theorem lit_olul : spl [111, 108, 32, 117, 108] = [[111, 108], [117, 108]] := by decide +kernel
theorem lit_button : spl [98, 117, 116, 116, 111, 110] = [[98, 117, 116, 116, 111, 110]] := by decide +kernel
theorem lit_opt : spl [111, 112, 116, 103, 114, 111, 117, 112, 32, 111, 112, 116, 105, 111, 110] = [[111, 112, 116, 103, 114, 111, 117, 112], [111, 112, 116, 105, 111, 110]] := by decide +kernel
instance f6 (sp : Int) (nm : List UInt8) : Fn BB 117 [.int .i64 sp, .str nm] (nm.length ≤ 60) (.bool (kSpecial sp nm)) := by
 refine Fn.intro (N := 24) [0, 1, 4, 5, 6, 10] [] Tryz.call117 Tryz.func117 rfl rfl (by kernel_rfl) (fun hpre => ?_)
 repeat' ((conv => whnf);first|(with_reducible first|rfl|exact absTF|exact absFT)|exact True.intro|intro _|refine And.intro ?_ ?_|refine Fin.mk ?_|refine W1 rfl ?_ ?_|refine W2 rfl ?_ ?_|refine W3 rfl ?_ ?_|refine W4 ?_ ?_|refine W5 rfl ?_ ?_|refine W6 ?_ ?_|refine AppN.mk ?_|refine X1 (W1 rfl ?_ ?_)|refine X1 (W2 rfl ?_ ?_)|refine X2 (W7 rfl ?_ ?_)|refine X3 (W7 rfl ?_ ?_)|refine X4 (W7 rfl ?_ ?_)|refine X5 (W7 rfl ?_ ?_))
 all_goals (try (conv => whnf))
 all_goals (try first|exact obA|refine Ob.mk ?_)
 ·have : sp = 1 := by simpa using ‹(sp == 1) = true›
  subst this; rw [k_svg]; rfl
 ·have : sp = 2 := by simpa using ‹(sp == 2) = true›
  subst this; rw [k_math]; rfl
 ·rw [k_else sp nm ‹_› ‹_›]; rfl
instance f15 (sp : Int) (nm : List UInt8) : Fn BB 97 [.int .i64 sp, .str nm] (nm.length ≤ 60) (.bool (kHtml sp nm cImpl)) := by
 refine Fn.intro (N := 8) [0, 1, 4] [] Tryz.call97 Tryz.func97 rfl rfl (by kernel_rfl) (fun hpre => ?_)
 all_goals exact vcA
instance f14 (sp : Int) (nm : List UInt8) : Fn BB 96 [.int .i64 sp, .str nm] (nm.length ≤ 60) (.bool (kHtml sp nm cImpl)) := by
 refine Fn.intro (N := 19) [0, 1, 4, 5, 6] [] Tryz.call96 Tryz.func96 rfl rfl (by kernel_rfl) (fun hpre => ?_)
 repeat' ((conv => whnf);first|(with_reducible first|rfl|exact absTF|exact absFT)|exact True.intro|intro _|refine And.intro ?_ ?_|refine Fin.mk ?_|refine W1 rfl ?_ ?_|refine W2 rfl ?_ ?_|refine W3 rfl ?_ ?_|refine W4 ?_ ?_|refine W5 rfl ?_ ?_|refine W6 ?_ ?_|refine AppN.mk ?_|refine X1 (W1 rfl ?_ ?_)|refine X1 (W2 rfl ?_ ?_)|refine X2 (W7 rfl ?_ ?_)|refine X3 (W7 rfl ?_ ?_)|refine X4 (W7 rfl ?_ ?_)|refine X5 (W7 rfl ?_ ?_))
 all_goals (try (conv => whnf))
 all_goals (try first|exact obA|refine Ob.mk ?_)
 all_goals (simp_all [kHtml, has, spl_cImpl, w_dd, w_dt, w_li, w_optgroup, w_option, w_p, w_rb, w_rp, w_rt, w_rtc]; done)
instance f25 (nm : List UInt8) : Fn BB 42 [.str nm] (nm.length ≤ 60) (.int .i64 (kLexed nm)) := by
 refine Fn.intro (N := 11) [0, 2, 4, 6, 8, 10] [] Tryz.call42 Tryz.func42 rfl rfl (by kernel_rfl) (fun hpre => ?_)
 repeat' ((conv => whnf);first|(with_reducible first|rfl|exact absTF|exact absFT)|exact True.intro|intro _|refine And.intro ?_ ?_|refine Fin.mk ?_|refine W1 rfl ?_ ?_|refine W2 rfl ?_ ?_|refine W3 rfl ?_ ?_|refine W4 ?_ ?_|refine W5 rfl ?_ ?_|refine W6 ?_ ?_|refine AppN.mk ?_|refine X1 (W1 rfl ?_ ?_)|refine X1 (W2 rfl ?_ ?_)|refine X2 (W7 rfl ?_ ?_)|refine X3 (W7 rfl ?_ ?_)|refine X4 (W7 rfl ?_ ?_)|refine X5 (W7 rfl ?_ ?_))
 all_goals (try (conv => whnf))
 all_goals (try first|exact obA|refine Ob.mk ?_)
 all_goals (unfold kLexed has cRc cRaw; simp_all [cScript, cPlain]; done)
instance f24 (nm : List UInt8) : Fn BB 36 [.str nm] (nm.length ≤ 60) (.int .i64 (kLexed nm)) := by
 refine Fn.intro (N := 17) [0, 2, 3, 4, 7, 13, 15] [] Tryz.call36 Tryz.func36 rfl rfl (by kernel_rfl) (fun hpre => ?_)
 repeat' ((conv => whnf);first|(with_reducible first|rfl|exact absTF|exact absFT)|exact True.intro|intro _|refine And.intro ?_ ?_|refine Fin.mk ?_|refine W1 rfl ?_ ?_|refine W2 rfl ?_ ?_|refine W3 rfl ?_ ?_|refine W4 ?_ ?_|refine W5 rfl ?_ ?_|refine W6 ?_ ?_|refine AppN.mk ?_|refine X1 (W1 rfl ?_ ?_)|refine X1 (W2 rfl ?_ ?_)|refine X2 (W7 rfl ?_ ?_)|refine X3 (W7 rfl ?_ ?_)|refine X4 (W7 rfl ?_ ?_)|refine X5 (W7 rfl ?_ ?_))
 all_goals (try (conv => whnf))
 all_goals (try first|exact obA|refine Ob.mk ?_)
 all_goals (unfold kLexed has; rw [spl_cRc, spl_cRaw]; simp_all [cScript, cPlain, w_textarea, w_title, w_iframe, w_noembed, w_noframes, w_style, w_xmp]; done)
instance f21 (sc : Int) (sp : Int) (nm : List UInt8) : Fn BB 92 [.int .i64 sc, .int .i64 sp, .str nm] (nm.length ≤ 60) (.bool (kStops sc sp nm)) := by
 refine Fn.intro (N := 48) [0, 1, 2, 6, 7, 17, 20, 28, 36] [] Tryz.call92 Tryz.func92 rfl rfl (by kernel_rfl) (fun hpre => ?_)
 repeat' ((conv => whnf);first|(with_reducible first|rfl|exact absTF|exact absFT)|exact True.intro|intro _|refine And.intro ?_ ?_|refine Fin.mk ?_|refine W1 rfl ?_ ?_|refine W2 rfl ?_ ?_|refine W3 rfl ?_ ?_|refine W4 ?_ ?_|refine W5 rfl ?_ ?_|refine W6 ?_ ?_|refine AppN.mk ?_|refine X1 (W1 rfl ?_ ?_)|refine X1 (W2 rfl ?_ ?_)|refine X2 (W7 rfl ?_ ?_)|refine X3 (W7 rfl ?_ ?_)|refine X4 (W7 rfl ?_ ?_)|refine X5 (W7 rfl ?_ ?_))
 all_goals (try (conv => whnf))
 all_goals (try first|exact obA|refine Ob.mk ?_)
 all_goals (unfold kStops cEnds cOlUl cButton cTable cOpt; simp_all [bne, Bool.beq_eq_decide_eq]; done)
instance f20 (sc : Int) (sp : Int) (nm : List UInt8) : Fn BB 91 [.int .i64 sc, .int .i64 sp, .str nm] (nm.length ≤ 60) (.bool (kStops sc sp nm)) := by
 refine Fn.intro (N := 53) [0, 1, 2, 6, 7, 10, 25, 32, 37, 41, 42, 47] [] Tryz.call91 Tryz.func91 rfl rfl (by kernel_rfl) (fun hpre => ?_)
 repeat' ((conv => whnf);first|(with_reducible first|rfl|exact absTF|exact absFT)|exact True.intro|intro _|refine And.intro ?_ ?_|refine Fin.mk ?_|refine W1 rfl ?_ ?_|refine W2 rfl ?_ ?_|refine W3 rfl ?_ ?_|refine W4 ?_ ?_|refine W5 rfl ?_ ?_|refine W6 ?_ ?_|refine AppN.mk ?_|refine X1 (W1 rfl ?_ ?_)|refine X1 (W2 rfl ?_ ?_)|refine X2 (W7 rfl ?_ ?_)|refine X3 (W7 rfl ?_ ?_)|refine X4 (W7 rfl ?_ ?_)|refine X5 (W7 rfl ?_ ?_))
 all_goals (try (conv => whnf))
 all_goals (try first|exact obA|refine Ob.mk ?_)
 all_goals (simp_all [kStops, kHtml, kForeign, kSpecial, has, cEnds, cOlUl, cButton, cTable, cOpt, lit_ends, lit_olul, lit_button, lit_opt, bne, Bool.beq_eq_decide_eq, Bool.or_assoc]; done)
end Go.Vc.W

namespace Go.Vc
open Go.Proofs
set_option maxRecDepth 10000
def noneE : NodeD := ((1 : Int), (0 : Int), ([] : List UInt8), ([] : List AttrD), ([] : List UInt8), (0 : Int), ([] : List Int))
def nodeE (l : List NodeD) (i : Int) : NodeD := bif isT l i then l.getD i.toNat nodeTy.dflt else noneE
theorem nodeE_in {l : List NodeD} {i : Int} (h : isT l i = true) : nodeE l i = l.getD i.toNat nodeTy.dflt := by rw [nodeE, h]; rfl
theorem nodeE_out {l : List NodeD} {i : Int} (h : isT l i = false) : nodeE l i = noneE := by rw [nodeE, h]; rfl
instance s101 (l : List NodeD) (i : Int) : Fn BB 87 [.agg [.rd nodeTy l], .int .i64 i] True (.agg (nodeTy.enc (nodeE l i))) := by
 cases h : isT l i with
 | true =>
  rw [nodeE_in h]
  refine Fn.intro (N := 20) [0, 1, 2, 4, 13] [] Tryz.call87 Tryz.func87 rfl rfl (by kernel_rfl) (fun hpre => ?_)
  repeat' ((conv => whnf);first|(with_reducible first|rfl|exact absTF|exact absFT)|exact True.intro|intro _|refine And.intro ?_ ?_|refine Fin.mk ?_|refine W1 rfl ?_ ?_|refine W2 rfl ?_ ?_|refine W3 rfl ?_ ?_|refine W4 ?_ ?_|refine W5 rfl ?_ ?_|refine W6 ?_ ?_|refine AppN.mk ?_|refine X1 (W1 rfl ?_ ?_)|refine X1 (W2 rfl ?_ ?_)|refine X2 (W7 rfl ?_ ?_)|refine X3 (W7 rfl ?_ ?_)|refine X4 (W7 rfl ?_ ?_)|refine X5 (W7 rfl ?_ ?_))
  all_goals (try (conv => whnf))
  all_goals (try first|exact obA|refine Ob.mk ?_)
  all_goals (try (first | (exact rfl) | (rename_i hx; exact absFT hx) | (rename_i hx; exact absTF hx)))
  all_goals (first | (simp_all [isT]; done) | (exfalso; simp_all [isT]; omega))
 | false =>
  rw [nodeE_out h]
  refine Fn.intro (N := 20) [0, 1, 2, 4, 13] [] Tryz.call87 Tryz.func87 rfl rfl (by kernel_rfl) (fun hpre => ?_)
  repeat' ((conv => whnf);first|(with_reducible first|rfl|exact absTF|exact absFT)|exact True.intro|intro _|refine And.intro ?_ ?_|refine Fin.mk ?_|refine W1 rfl ?_ ?_|refine W2 rfl ?_ ?_|refine W3 rfl ?_ ?_|refine W4 ?_ ?_|refine W5 rfl ?_ ?_|refine W6 ?_ ?_|refine AppN.mk ?_|refine X1 (W1 rfl ?_ ?_)|refine X1 (W2 rfl ?_ ?_)|refine X2 (W7 rfl ?_ ?_)|refine X3 (W7 rfl ?_ ?_)|refine X4 (W7 rfl ?_ ?_)|refine X5 (W7 rfl ?_ ?_))
  all_goals (try (conv => whnf))
  all_goals (try first|exact obA|refine Ob.mk ?_)
  all_goals (try (first | (exact rfl) | (rename_i hx; exact absFT hx) | (rename_i hx; exact absTF hx)))
  all_goals (exfalso; rename_i hx; simp only [isT] at h; (try simp only [ZA,ZB,ZC,ZD,ZE,ZF,ZG,ZH,ZI,ZJ,ZK,ZL,ZM,ZN,ZO,Bool.and_eq_false_iff,Bool.or_eq_false_iff,ge_iff_le,gt_iff_lt,Int.toNat_natCast,UInt8.ofNat_toNat,cast_eq] at *); omega)
instance s103 (l : List NodeD) (i : Int) : Fn BB 89 [.agg [.rd nodeTy l], .int .i64 i] True (.agg (nodeTy.enc (nodeE l i))) := by
 cases h : isT l i with
 | true =>
  rw [nodeE_in h]
  refine Fn.intro (N := 20) [0, 1, 2, 4, 13] [] Tryz.call89 Tryz.func89 rfl rfl (by kernel_rfl) (fun hpre => ?_)
  repeat' ((conv => whnf);first|(with_reducible first|rfl|exact absTF|exact absFT)|exact True.intro|intro _|refine And.intro ?_ ?_|refine Fin.mk ?_|refine W1 rfl ?_ ?_|refine W2 rfl ?_ ?_|refine W3 rfl ?_ ?_|refine W4 ?_ ?_|refine W5 rfl ?_ ?_|refine W6 ?_ ?_|refine AppN.mk ?_|refine X1 (W1 rfl ?_ ?_)|refine X1 (W2 rfl ?_ ?_)|refine X2 (W7 rfl ?_ ?_)|refine X3 (W7 rfl ?_ ?_)|refine X4 (W7 rfl ?_ ?_)|refine X5 (W7 rfl ?_ ?_))
  all_goals (try (conv => whnf))
  all_goals (try first|exact obA|refine Ob.mk ?_)
  all_goals (try (first | (exact rfl) | (rename_i hx; exact absFT hx) | (rename_i hx; exact absTF hx)))
  all_goals (first | (simp_all [isT]; done) | (exfalso; simp_all [isT]; omega))
 | false =>
  rw [nodeE_out h]
  refine Fn.intro (N := 20) [0, 1, 2, 4, 13] [] Tryz.call89 Tryz.func89 rfl rfl (by kernel_rfl) (fun hpre => ?_)
  repeat' ((conv => whnf);first|(with_reducible first|rfl|exact absTF|exact absFT)|exact True.intro|intro _|refine And.intro ?_ ?_|refine Fin.mk ?_|refine W1 rfl ?_ ?_|refine W2 rfl ?_ ?_|refine W3 rfl ?_ ?_|refine W4 ?_ ?_|refine W5 rfl ?_ ?_|refine W6 ?_ ?_|refine AppN.mk ?_|refine X1 (W1 rfl ?_ ?_)|refine X1 (W2 rfl ?_ ?_)|refine X2 (W7 rfl ?_ ?_)|refine X3 (W7 rfl ?_ ?_)|refine X4 (W7 rfl ?_ ?_)|refine X5 (W7 rfl ?_ ?_))
  all_goals (try (conv => whnf))
  all_goals (try first|exact obA|refine Ob.mk ?_)
  all_goals (try (first | (exact rfl) | (rename_i hx; exact absFT hx) | (rename_i hx; exact absTF hx)))
  all_goals (exfalso; rename_i hx; simp only [isT] at h; (try simp only [ZA,ZB,ZC,ZD,ZE,ZF,ZG,ZH,ZI,ZJ,ZK,ZL,ZM,ZN,ZO,Bool.and_eq_false_iff,Bool.or_eq_false_iff,ge_iff_le,gt_iff_lt,Int.toNat_natCast,UInt8.ofNat_toNat,cast_eq] at *); omega)
def shortN (l : List NodeD) : Prop := ∀ i : Int, (nodeE l i).2.2.1.length ≤ 60
def isE (l : List NodeD) (i : Int) (nm : List UInt8) : Bool := isT l i && ((nodeE l i).1 == 1 && ((nodeE l i).2.1 == 0 && (W.spl nm).contains (nodeE l i).2.2.1))
theorem spl_nil (s : List UInt8) : (W.spl s).contains [] = false := W.spl_empty s [] rfl
theorem isE_eq (l : List NodeD) (i : Int) (nm : List UInt8) : (!(nodeE l i).2.2.1 == [] && (nodeE l i).1 == 1 && (nodeE l i).2.1 == 0 && (W.spl nm).contains (nodeE l i).2.2.1) = isE l i nm := by
 unfold isE
 cases h : isT l i with
 | false => rw [nodeE_out h]; rfl
 | true =>
  cases hn : (nodeE l i).2.2.1 == [] with
  | true =>
   have hn : (nodeE l i).2.2.1 = [] := by simpa using hn
   rw [hn, spl_nil]; simp
  | false => simp only [Bool.not_false, Bool.true_and, Bool.and_assoc]
instance s48 (l : List NodeD) (i : Int) (nm : List UInt8) : Fn BB 54 [.agg [.rd nodeTy l], .int .i64 i, .str nm] (shortN l ∧ nm.length ≤ 100000) (.bool (isE l i nm)) := by
 refine Fn.intro (N := 30) [0, 1, 2, 3, 6, 7] [] Tryz.call54 Tryz.func54 rfl rfl (by kernel_rfl) (fun hpre => ?_)
 obtain ⟨h1, h2⟩ := hpre
 have h3 := h1 i
 repeat' ((conv => whnf);first|(with_reducible first|rfl|exact absTF|exact absFT)|exact True.intro|intro _|refine And.intro ?_ ?_|refine Fin.mk ?_|refine W1 rfl ?_ ?_|refine W2 rfl ?_ ?_|refine W3 rfl ?_ ?_|refine W4 ?_ ?_|refine W5 rfl ?_ ?_|refine W6 ?_ ?_|refine AppN.mk ?_|refine X1 (W1 rfl ?_ ?_)|refine X1 (W2 rfl ?_ ?_)|refine X2 (W7 rfl ?_ ?_)|refine X3 (W7 rfl ?_ ?_)|refine X4 (W7 rfl ?_ ?_)|refine X5 (W7 rfl ?_ ?_))
 all_goals (try (conv => whnf))
 all_goals (try first|exact obA|refine Ob.mk ?_)
 all_goals (exact isE_eq l i nm)
instance s49 (l : List NodeD) (i : Int) (nm : List UInt8) : Fn BB 56 [.agg [.rd nodeTy l], .int .i64 i, .str nm] (nm.length ≤ 100000) (.bool (isE l i nm)) := by
 refine Fn.intro (N := 36) [0, 1, 2, 3, 6, 7] [] Tryz.call56 Tryz.func56 rfl rfl (by kernel_rfl) (fun hpre => ?_)
 repeat' ((conv => whnf);first|(with_reducible first|rfl|exact absTF|exact absFT)|exact True.intro|intro _|refine And.intro ?_ ?_|refine Fin.mk ?_|refine W1 rfl ?_ ?_|refine W2 rfl ?_ ?_|refine W3 rfl ?_ ?_|refine W4 ?_ ?_|refine W5 rfl ?_ ?_|refine W6 ?_ ?_|refine AppN.mk ?_|refine X1 (W1 rfl ?_ ?_)|refine X1 (W2 rfl ?_ ?_)|refine X2 (W7 rfl ?_ ?_)|refine X3 (W7 rfl ?_ ?_)|refine X4 (W7 rfl ?_ ?_)|refine X5 (W7 rfl ?_ ?_))
 all_goals (try (conv => whnf))
 all_goals (try first|exact obA|refine Ob.mk ?_)
 all_goals (simp only [isE, isT, ge_iff_le, Bool.and_assoc])
end Go.Vc

namespace Go.Vc
open Go.Proofs
set_option maxRecDepth 10000
def topS (l : List Int) : Int := bif decide (l.length = 0) then -1 else l.getD (l.length - 1) 0
instance s46 (l : List Int) : Fn BB 55 [.rd intTy l] True (.int .i64 (topS l)) := by
 refine Fn.intro (N := 13) [0, 2, 3, 7] [] Tryz.call55 Tryz.func55 rfl rfl (by kernel_rfl) (fun hpre => ?_)
 repeat' ((conv => whnf);first|(with_reducible first|rfl|exact absTF|exact absFT)|exact True.intro|intro _|refine And.intro ?_ ?_|refine Fin.mk ?_|refine W1 rfl ?_ ?_|refine W2 rfl ?_ ?_|refine W3 rfl ?_ ?_|refine W4 ?_ ?_|refine W5 rfl ?_ ?_|refine W6 ?_ ?_|refine AppN.mk ?_|refine X1 (W1 rfl ?_ ?_)|refine X1 (W2 rfl ?_ ?_)|refine X2 (W7 rfl ?_ ?_)|refine X3 (W7 rfl ?_ ?_)|refine X4 (W7 rfl ?_ ?_)|refine X5 (W7 rfl ?_ ?_))
 all_goals (try (conv => whnf))
 all_goals (try first|exact obA|refine Ob.mk ?_)
 all_goals (rename_i h)
 ·have := of_decide_eq_true h
  rw [topS, decide_eq_false (by omega), cond_false]; congr 1; omega
 ·have := of_decide_eq_false h
  rw [topS, decide_eq_true (by omega)]; rfl
instance s47 (l : List Int) : Fn BB 57 [.rd intTy l] True (.int .i64 (topS l)) := by
  refine Fn.intro (N := 12) [0, 2, 5] [] Tryz.call57 Tryz.func57 rfl rfl (by kernel_rfl) (fun hpre => ?_)
  repeat' ((conv => whnf);first|(with_reducible first|rfl|exact absTF|exact absFT)|exact True.intro|intro _|refine And.intro ?_ ?_|refine Fin.mk ?_|refine W1 rfl ?_ ?_|refine W2 rfl ?_ ?_|refine W3 rfl ?_ ?_|refine W4 ?_ ?_|refine W5 rfl ?_ ?_|refine W6 ?_ ?_|refine AppN.mk ?_|refine X1 (W1 rfl ?_ ?_)|refine X1 (W2 rfl ?_ ?_)|refine X2 (W7 rfl ?_ ?_)|refine X3 (W7 rfl ?_ ?_)|refine X4 (W7 rfl ?_ ?_)|refine X5 (W7 rfl ?_ ?_))
  all_goals (try (conv => whnf))
  all_goals (try first|exact obA|refine Ob.mk ?_)
  · rename_i h
    have : l.length = 0 := by simpa using h
    rw [topS, decide_eq_true this]; rfl
  · have : ¬ l.length = 0 := by
      have h : (((l.length : Nat) : Int) == 0) = false := ‹_›
      simpa using h
    rw [topS, decide_eq_false this, cond_false]; congr 1; omega
def hasR (p q : Int → Bool) (l : List Int) : Nat → Bool
 | 0 => false
 | k + 1 => bif p (l.getD k 0) then true else bif q (l.getD k 0) then false else hasR p q l k
def stopN (t : List NodeD) (sc : Int) (x : Int) : Bool := W.kStops sc (nodeE t x).2.1 (nodeE t x).2.2.1
def hasS (t : List NodeD) (l : List Int) (nm : List UInt8) (sc : Int) : Bool := hasR (fun x => isE t x nm) (stopN t sc) l l.length
instance s50 (t : List NodeD) (l : List Int) (nm : List UInt8) (sc : Int) : Fn BB 58 [.agg [.rd nodeTy t], .rd intTy l, .str nm, .int .i64 sc] (shortN t ∧ nm.length ≤ 100000) (.bool (hasS t l nm sc)) := by
 refine Fn.intro (N := 31) [0, 1, 2, 3, 4, 6, 7, 8, 10, 11, 13, 14, 15, 19, 24] [] Tryz.call58 Tryz.func58 rfl rfl (by kernel_rfl) (fun hpre => ?_)
 repeat' ((conv => whnf);first|(with_reducible first|rfl|exact absTF|exact absFT)|exact True.intro|intro _|refine And.intro ?_ ?_|refine Fin.mk ?_|refine W1 rfl ?_ ?_|refine W2 rfl ?_ ?_|refine W3 rfl ?_ ?_|refine W4 ?_ ?_|refine W5 rfl ?_ ?_|refine W6 ?_ ?_|refine AppN.mk ?_|refine X1 (W1 rfl ?_ ?_)|refine X1 (W2 rfl ?_ ?_)|refine X2 (W7 rfl ?_ ?_)|refine X3 (W7 rfl ?_ ?_)|refine X4 (W7 rfl ?_ ?_)|refine X5 (W7 rfl ?_ ?_))
 all_goals (try (conv => whnf))
 all_goals (try first|exact obA|refine Ob.mk ?_)
 refine RangeStop.mk (α := Unit) ⟨trivial⟩ rfl (fun _ => [(0, .box [.rd nodeTy t]), (1, .box [.str nm]), (2, .box [.int .i64 sc]), (3, .box [.bool false])]) 20 (fun i _ => hasS t l nm sc = hasR (fun x => isE t x nm) (stopN t sc) l (l.length - i)) () (by simp [hasS]) ?_ (fun i a hC hi => ?_) (fun a hC => ?_)
 ·all_goals exact vcA
 ·obtain ⟨k, hk⟩ : ∃ k, l.length - i = k + 1 := ⟨l.length - i - 1, by omega⟩
  have hk' : l.length - 1 - i = k := by omega
  rw [hk, hasR, ← hk'] at hC
  have hs := hpre.1 (l.getD (l.length - 1 - i) 0)
  repeat' ((conv => whnf);first|(with_reducible first|rfl|exact absTF|exact absFT)|exact True.intro|intro _|refine And.intro ?_ ?_|refine Fin.mk ?_|refine W1 rfl ?_ ?_|refine W2 rfl ?_ ?_|refine W3 rfl ?_ ?_|refine W4 ?_ ?_|refine W5 rfl ?_ ?_|refine W6 ?_ ?_|refine AppN.mk ?_|refine X1 (W1 rfl ?_ ?_)|refine X1 (W2 rfl ?_ ?_)|refine X2 (W7 rfl ?_ ?_)|refine X3 (W7 rfl ?_ ?_)|refine X4 (W7 rfl ?_ ?_)|refine X5 (W7 rfl ?_ ?_))
  all_goals (try (conv => whnf))
  all_goals (try first|exact obA|refine Ob.mk ?_)
  ·rename_i h
   rw [h, cond_true] at hC; exact hC.symm
  ·rename_i h1 h2
   have h2 : stopN t sc (l.getD (l.length - 1 - i) 0) = true := h2
   rw [h1, h2, cond_false, cond_true] at hC; exact hC.symm
  ·rename_i h1 h2
   have h2 : stopN t sc (l.getD (l.length - 1 - i) 0) = false := h2
   rw [h1, h2, cond_false, cond_false] at hC
   refine Rnd.mk ⟨(), by rw [hC]; congr 1; omega, ?_, ?_, ?_⟩
   all_goals exact vcA
 ·repeat' ((conv => whnf);first|(with_reducible first|rfl|exact absTF|exact absFT)|exact True.intro|intro _|refine And.intro ?_ ?_|refine Fin.mk ?_|refine W1 rfl ?_ ?_|refine W2 rfl ?_ ?_|refine W3 rfl ?_ ?_|refine W4 ?_ ?_|refine W5 rfl ?_ ?_|refine W6 ?_ ?_|refine AppN.mk ?_|refine X1 (W1 rfl ?_ ?_)|refine X1 (W2 rfl ?_ ?_)|refine X2 (W7 rfl ?_ ?_)|refine X3 (W7 rfl ?_ ?_)|refine X4 (W7 rfl ?_ ?_)|refine X5 (W7 rfl ?_ ?_))
  all_goals (try (conv => whnf))
  all_goals (try first|exact obA|refine Ob.mk ?_)
  rw [hC, Nat.sub_self]; rfl
instance s51 (t : List NodeD) (l : List Int) (nm : List UInt8) (sc : Int) : Fn BB 59 [.agg [.rd nodeTy t], .rd intTy l, .str nm, .int .i64 sc] (shortN t ∧ nm.length ≤ 100000) (.bool (hasS t l nm sc)) := by
 refine Fn.intro (N := 37) [0, 1, 2, 3, 4, 8, 9, 10, 15, 24, 36] [(4, [1, 0, 0, 1, 1, 0, 3]), (6, [0, 0, 0, 0, 0, 6, 6, 6])] Tryz.call59 Tryz.func59 rfl rfl (by kernel_rfl) (fun hpre => ?_)
 repeat' ((conv => whnf);first|(with_reducible first|rfl|exact absTF|exact absFT)|exact True.intro|intro _|refine And.intro ?_ ?_|refine Fin.mk ?_|refine W1 rfl ?_ ?_|refine W2 rfl ?_ ?_|refine W3 rfl ?_ ?_|refine W4 ?_ ?_|refine W5 rfl ?_ ?_|refine W6 ?_ ?_|refine AppN.mk ?_|refine X1 (W1 rfl ?_ ?_)|refine X1 (W2 rfl ?_ ?_)|refine X2 (W7 rfl ?_ ?_)|refine X3 (W7 rfl ?_ ?_)|refine X4 (W7 rfl ?_ ?_)|refine X5 (W7 rfl ?_ ?_))
 all_goals (try (conv => whnf))
 all_goals (try first|exact obA|refine Ob.mk ?_)
 refine LoopStop.mk (α := Nat) (fun i => [(9, .int .i64 ((l.length : Int) - 1 - i))]) (fun _ => []) 20 (fun i => i ≤ l.length ∧ hasS t l nm sc = hasR (fun x => isE t x nm) (stopN t sc) l (l.length - i)) (fun i => l.length - i) 0 (by simp [hasS]) ?_ (fun i hC => ?_)
 ·repeat' ((conv => whnf);first|(with_reducible first|rfl|exact absTF|exact absFT)|exact True.intro|intro _|refine And.intro ?_ ?_|refine Fin.mk ?_|refine W1 rfl ?_ ?_|refine W2 rfl ?_ ?_|refine W3 rfl ?_ ?_|refine W4 ?_ ?_|refine W5 rfl ?_ ?_|refine W6 ?_ ?_|refine AppN.mk ?_|refine X1 (W1 rfl ?_ ?_)|refine X1 (W2 rfl ?_ ?_)|refine X2 (W7 rfl ?_ ?_)|refine X3 (W7 rfl ?_ ?_)|refine X4 (W7 rfl ?_ ?_)|refine X5 (W7 rfl ?_ ?_))
  all_goals (try (conv => whnf))
  all_goals (try first|exact obA|refine Ob.mk ?_)
  all_goals (try omega)
 ·obtain ⟨hi, hC⟩ := hC
  have hs := hpre.1 (l.getD ((l.length : Int) - 1 - i).toNat intTy.dflt)
  have step : i < l.length → hasS t l nm sc = bif isE t (l.getD ((l.length : Int) - 1 - i).toNat intTy.dflt) nm then true else bif stopN t sc (l.getD ((l.length : Int) - 1 - i).toNat intTy.dflt) then false else hasR (fun x => isE t x nm) (stopN t sc) l (l.length - (i + 1)) := by
   intro hlt
   obtain ⟨k, hk⟩ : ∃ k, l.length - i = k + 1 := ⟨l.length - i - 1, by omega⟩
   rw [hC, hk, hasR, show ((l.length : Int) - 1 - i).toNat = k by omega, show l.length - (i + 1) = k by omega]; rfl
  repeat' ((conv => whnf);first|(with_reducible first|rfl|exact absTF|exact absFT)|exact True.intro|intro _|refine And.intro ?_ ?_|refine Fin.mk ?_|refine W1 rfl ?_ ?_|refine W2 rfl ?_ ?_|refine W3 rfl ?_ ?_|refine W4 ?_ ?_|refine W5 rfl ?_ ?_|refine W6 ?_ ?_|refine AppN.mk ?_|refine X1 (W1 rfl ?_ ?_)|refine X1 (W2 rfl ?_ ?_)|refine X2 (W7 rfl ?_ ?_)|refine X3 (W7 rfl ?_ ?_)|refine X4 (W7 rfl ?_ ?_)|refine X5 (W7 rfl ?_ ?_))
  all_goals (try (conv => whnf))
  all_goals (try first|exact obA|refine Ob.mk ?_)
  ·rename_i hp h
   have hp : i < l.length := by have := of_decide_eq_true hp; omega
   rw [step hp, h]; rfl
  ·rename_i hp h1 h2
   have hp : i < l.length := by have := of_decide_eq_true hp; omega
   have h2 : stopN t sc (l.getD ((l.length : Int) - 1 - i).toNat intTy.dflt) = true := h2
   rw [step hp, h1, h2]; rfl
  ·rename_i hp h1 h2
   have hp : i < l.length := by have := of_decide_eq_true hp; omega
   have h2 : stopN t sc (l.getD ((l.length : Int) - 1 - i).toNat intTy.dflt) = false := h2
   have := step hp
   rw [h1, h2, cond_false, cond_false] at this
   refine Rnd.mk ⟨i + 1, ⟨hp, this⟩, by omega, ?_, ?_, ?_⟩
   all_goals exact vcA
  ·rename_i hp
   have hp : i = l.length := by have := of_decide_eq_false hp; omega
   rw [hC, hp, Nat.sub_self]; rfl
def findE (p : Int → Bool) (l : List Int) : Nat → Int
 | 0 => -1
 | k + 1 => bif p (l.getD k 0) then k else findE p l k
def findES (t : List NodeD) (l : List Int) (nm : List UInt8) : Int := findE (fun x => isE t x nm) l l.length
instance s52 (t : List NodeD) (l : List Int) (nm : List UInt8) : Fn BB 99 [.agg [.rd nodeTy t], .rd intTy l, .str nm] (shortN t ∧ nm.length ≤ 100000) (.int .i64 (findES t l nm)) := by
 refine Fn.intro (N := 18) [0, 1, 2, 3, 5, 6, 7, 8, 10, 11, 12, 16] [] Tryz.call99 Tryz.func99 rfl rfl (by kernel_rfl) (fun hpre => ?_)
 repeat' ((conv => whnf);first|(with_reducible first|rfl|exact absTF|exact absFT)|exact True.intro|intro _|refine And.intro ?_ ?_|refine Fin.mk ?_|refine W1 rfl ?_ ?_|refine W2 rfl ?_ ?_|refine W3 rfl ?_ ?_|refine W4 ?_ ?_|refine W5 rfl ?_ ?_|refine W6 ?_ ?_|refine AppN.mk ?_|refine X1 (W1 rfl ?_ ?_)|refine X1 (W2 rfl ?_ ?_)|refine X2 (W7 rfl ?_ ?_)|refine X3 (W7 rfl ?_ ?_)|refine X4 (W7 rfl ?_ ?_)|refine X5 (W7 rfl ?_ ?_))
 all_goals (try (conv => whnf))
 all_goals (try first|exact obA|refine Ob.mk ?_)
 refine RangeStop.mk (α := Unit) ⟨trivial⟩ rfl (fun _ => [(0, .box [.rd nodeTy t]), (1, .box [.str nm]), (2, .box [.int .i64 0])]) 20 (fun i _ => findES t l nm = findE (fun x => isE t x nm) l (l.length - i)) () (by simp [findES]) ?_ (fun i a hC hi => ?_) (fun a hC => ?_)
 ·all_goals exact vcA
 ·obtain ⟨k, hk⟩ : ∃ k, l.length - i = k + 1 := ⟨l.length - i - 1, by omega⟩
  have hk' : l.length - 1 - i = k := by omega
  rw [hk, findE, ← hk'] at hC
  repeat' ((conv => whnf);first|(with_reducible first|rfl|exact absTF|exact absFT)|exact True.intro|intro _|refine And.intro ?_ ?_|refine Fin.mk ?_|refine W1 rfl ?_ ?_|refine W2 rfl ?_ ?_|refine W3 rfl ?_ ?_|refine W4 ?_ ?_|refine W5 rfl ?_ ?_|refine W6 ?_ ?_|refine AppN.mk ?_|refine X1 (W1 rfl ?_ ?_)|refine X1 (W2 rfl ?_ ?_)|refine X2 (W7 rfl ?_ ?_)|refine X3 (W7 rfl ?_ ?_)|refine X4 (W7 rfl ?_ ?_)|refine X5 (W7 rfl ?_ ?_))
  all_goals (try (conv => whnf))
  all_goals (try first|exact obA|refine Ob.mk ?_)
  ·rename_i h
   rw [h, cond_true] at hC; rw [hC]; omega
  ·rename_i h1
   rw [h1, cond_false] at hC
   refine Rnd.mk ⟨(), by rw [hC]; congr 1; omega, ?_, ?_, ?_⟩
   all_goals exact vcA
 ·repeat' ((conv => whnf);first|(with_reducible first|rfl|exact absTF|exact absFT)|exact True.intro|intro _|refine And.intro ?_ ?_|refine Fin.mk ?_|refine W1 rfl ?_ ?_|refine W2 rfl ?_ ?_|refine W3 rfl ?_ ?_|refine W4 ?_ ?_|refine W5 rfl ?_ ?_|refine W6 ?_ ?_|refine AppN.mk ?_|refine X1 (W1 rfl ?_ ?_)|refine X1 (W2 rfl ?_ ?_)|refine X2 (W7 rfl ?_ ?_)|refine X3 (W7 rfl ?_ ?_)|refine X4 (W7 rfl ?_ ?_)|refine X5 (W7 rfl ?_ ?_))
  all_goals (try (conv => whnf))
  all_goals (try first|exact obA|refine Ob.mk ?_)
  rw [hC, Nat.sub_self]; rfl
instance s53 (t : List NodeD) (l : List Int) (nm : List UInt8) : Fn BB 109 [.agg [.rd nodeTy t], .rd intTy l, .str nm] (nm.length ≤ 100000) (.int .i64 (findES t l nm)) := by
 refine Fn.intro (N := 23) [0, 1, 2, 3, 6, 7, 12, 21] [(4, [1, 0, 0, 1, 1, 0, 3])] Tryz.call109 Tryz.func109 rfl rfl (by kernel_rfl) (fun hpre => ?_)
 repeat' ((conv => whnf);first|(with_reducible first|rfl|exact absTF|exact absFT)|exact True.intro|intro _|refine And.intro ?_ ?_|refine Fin.mk ?_|refine W1 rfl ?_ ?_|refine W2 rfl ?_ ?_|refine W3 rfl ?_ ?_|refine W4 ?_ ?_|refine W5 rfl ?_ ?_|refine W6 ?_ ?_|refine AppN.mk ?_|refine X1 (W1 rfl ?_ ?_)|refine X1 (W2 rfl ?_ ?_)|refine X2 (W7 rfl ?_ ?_)|refine X3 (W7 rfl ?_ ?_)|refine X4 (W7 rfl ?_ ?_)|refine X5 (W7 rfl ?_ ?_))
 all_goals (try (conv => whnf))
 all_goals (try first|exact obA|refine Ob.mk ?_)
 refine LoopStop.mk (α := Nat) (fun i => [(7, .int .i64 ((l.length : Int) - 1 - i))]) (fun _ => []) 20 (fun i => i ≤ l.length ∧ findES t l nm = findE (fun x => isE t x nm) l (l.length - i)) (fun i => l.length - i) 0 (by simp [findES]) ?_ (fun i hC => ?_)
 ·repeat' ((conv => whnf);first|(with_reducible first|rfl|exact absTF|exact absFT)|exact True.intro|intro _|refine And.intro ?_ ?_|refine Fin.mk ?_|refine W1 rfl ?_ ?_|refine W2 rfl ?_ ?_|refine W3 rfl ?_ ?_|refine W4 ?_ ?_|refine W5 rfl ?_ ?_|refine W6 ?_ ?_|refine AppN.mk ?_|refine X1 (W1 rfl ?_ ?_)|refine X1 (W2 rfl ?_ ?_)|refine X2 (W7 rfl ?_ ?_)|refine X3 (W7 rfl ?_ ?_)|refine X4 (W7 rfl ?_ ?_)|refine X5 (W7 rfl ?_ ?_))
  all_goals (try (conv => whnf))
  all_goals (try first|exact obA|refine Ob.mk ?_)
  all_goals (try omega)
 ·obtain ⟨hi, hC⟩ := hC
  have step : i < l.length → findES t l nm = bif isE t (l.getD ((l.length : Int) - 1 - i).toNat intTy.dflt) nm then ((l.length : Int) - 1 - i) else findE (fun x => isE t x nm) l (l.length - (i + 1)) := by
   intro hlt
   obtain ⟨k, hk⟩ : ∃ k, l.length - i = k + 1 := ⟨l.length - i - 1, by omega⟩
   rw [hC, hk, findE, show ((l.length : Int) - 1 - i).toNat = k by omega, show l.length - (i + 1) = k by omega, show (k : Int) = (l.length : Int) - 1 - i by omega]; rfl
  repeat' ((conv => whnf);first|(with_reducible first|rfl|exact absTF|exact absFT)|exact True.intro|intro _|refine And.intro ?_ ?_|refine Fin.mk ?_|refine W1 rfl ?_ ?_|refine W2 rfl ?_ ?_|refine W3 rfl ?_ ?_|refine W4 ?_ ?_|refine W5 rfl ?_ ?_|refine W6 ?_ ?_|refine AppN.mk ?_|refine X1 (W1 rfl ?_ ?_)|refine X1 (W2 rfl ?_ ?_)|refine X2 (W7 rfl ?_ ?_)|refine X3 (W7 rfl ?_ ?_)|refine X4 (W7 rfl ?_ ?_)|refine X5 (W7 rfl ?_ ?_))
  all_goals (try (conv => whnf))
  all_goals (try first|exact obA|refine Ob.mk ?_)
  ·rename_i hp h
   have hp : i < l.length := by have := of_decide_eq_true hp; omega
   rw [step hp, h]; rfl
  ·rename_i hp h1
   have hp : i < l.length := by have := of_decide_eq_true hp; omega
   have := step hp
   rw [h1, cond_false] at this
   refine Rnd.mk ⟨i + 1, ⟨hp, this⟩, by omega, ?_, ?_, ?_⟩
   all_goals exact vcA
  ·rename_i hp
   have hp : i = l.length := by have := of_decide_eq_false hp; omega
   rw [hC, hp, Nat.sub_self]; rfl
end Go.Vc

namespace Go.Vc
open Go.Proofs
set_option maxRecDepth 10000
instance s113 (t : List NodeD) (nm : List UInt8) (x : Int) : FnM BB 98 [.int .i64 x, .loc 0 0, .loc 1 0] [(0, .box [.rd nodeTy t]), (1, .box [.str nm])] (shortN t ∧ nm.length ≤ 100000) (.bool (!isE t x nm)) [(0, .box [.rd nodeTy t]), (1, .box [.str nm])] := by
 refine FnM.intro (N := 10) [0, 1, 2, 4] [] 2 Tryz.call98 Tryz.func98 rfl rfl (by kernel_rfl) (fun hpre => ?_)
 all_goals exact vcA
def implN (t : List NodeD) (but : List UInt8) (x : Int) : Bool := (nodeE t x).1 == 1 && (W.kHtml (nodeE t x).2.1 (nodeE t x).2.2.1 W.cImpl && !(W.spl but).contains (nodeE t x).2.2.1)
instance s110 (t : List NodeD) (nm : List UInt8) (x : Int) : FnM BB 95 [.int .i64 x, .loc 0 0, .loc 1 0] [(0, .box [.rd nodeTy t]), (1, .box [.str nm])] (shortN t ∧ nm.length ≤ 100000) (.bool (implN t nm x)) [(0, .box [.rd nodeTy t]), (1, .box [.str nm])] := by
 refine FnM.intro (N := 26) [0, 1, 2, 4, 5] [] 2 Tryz.call95 Tryz.func95 rfl rfl (by kernel_rfl) (fun hpre => ?_)
 have hs := hpre.1 x
 repeat' ((conv => whnf);first|(with_reducible first|rfl|exact absTF|exact absFT)|exact True.intro|intro _|refine And.intro ?_ ?_|refine Fin.mk ?_|refine W1 rfl ?_ ?_|refine W2 rfl ?_ ?_|refine W3 rfl ?_ ?_|refine W4 ?_ ?_|refine W5 rfl ?_ ?_|refine W6 ?_ ?_|refine AppN.mk ?_|refine X1 (W1 rfl ?_ ?_)|refine X1 (W2 rfl ?_ ?_)|refine X2 (W7 rfl ?_ ?_)|refine X3 (W7 rfl ?_ ?_)|refine X4 (W7 rfl ?_ ?_)|refine X5 (W7 rfl ?_ ?_))
 all_goals (try (conv => whnf))
 all_goals (try first|exact obA|refine Ob.mk ?_)
 all_goals (try rfl)
 all_goals (simp only [implN, Bool.and_assoc])
instance s109 (t : List NodeD) (nm : List UInt8) (x : Int) (f : Bool) : FnM BB 94 [.int .i64 x, .loc 0 0, .loc 1 0, .loc 2 0] [(0, .box [.bool f]), (1, .box [.rd nodeTy t]), (2, .box [.str nm])] (shortN t ∧ nm.length ≤ 100000) (.bool (!f)) [(0, .box [.bool (f || isE t x nm)]), (1, .box [.rd nodeTy t]), (2, .box [.str nm])] := by
 refine FnM.intro (N := 11) [0, 1, 2, 3, 5, 6] [] 3 Tryz.call94 Tryz.func94 rfl rfl (by kernel_rfl) (fun hpre => ?_)
 cases f with
 | true =>
  repeat' ((conv => whnf);first|(with_reducible first|rfl|exact absTF|exact absFT)|exact True.intro|intro _|refine And.intro ?_ ?_|refine Fin.mk ?_|refine W1 rfl ?_ ?_|refine W2 rfl ?_ ?_|refine W3 rfl ?_ ?_|refine W4 ?_ ?_|refine W5 rfl ?_ ?_|refine W6 ?_ ?_|refine AppN.mk ?_|refine X1 (W1 rfl ?_ ?_)|refine X1 (W2 rfl ?_ ?_)|refine X2 (W7 rfl ?_ ?_)|refine X3 (W7 rfl ?_ ?_)|refine X4 (W7 rfl ?_ ?_)|refine X5 (W7 rfl ?_ ?_))
  all_goals (try (conv => whnf))
  all_goals (try first|exact obA|refine Ob.mk ?_)
  all_goals (try (first | (exact rfl) | (rename_i hx; exact absFT hx) | (rename_i hx; exact absTF hx)))
  all_goals (try rfl)
 | false =>
  repeat' ((conv => whnf);first|(with_reducible first|rfl|exact absTF|exact absFT)|exact True.intro|intro _|refine And.intro ?_ ?_|refine Fin.mk ?_|refine W1 rfl ?_ ?_|refine W2 rfl ?_ ?_|refine W3 rfl ?_ ?_|refine W4 ?_ ?_|refine W5 rfl ?_ ?_|refine W6 ?_ ?_|refine AppN.mk ?_|refine X1 (W1 rfl ?_ ?_)|refine X1 (W2 rfl ?_ ?_)|refine X2 (W7 rfl ?_ ?_)|refine X3 (W7 rfl ?_ ?_)|refine X4 (W7 rfl ?_ ?_)|refine X5 (W7 rfl ?_ ?_))
  all_goals (try (conv => whnf))
  all_goals (try first|exact obA|refine Ob.mk ?_)
  all_goals (try (first | (exact rfl) | (rename_i hx; exact absFT hx) | (rename_i hx; exact absTF hx)))
  all_goals (try rfl)
def cutR (q : Int → Bool) (l : List Int) : Nat → Nat
 | 0 => 0
 | 1 => 1
 | k + 2 => bif q (l.getD (k + 1) 0) then cutR q l (k + 1) else k + 2
def popR (p : Int → Bool) (l : List Int) : Nat → Nat
 | 0 => 0
 | 1 => 1
 | k + 2 => bif p (l.getD (k + 1) 0) then k + 1 else popR p l (k + 1)
theorem cutR_le (q : Int → Bool) (l : List Int) : ∀ n, cutR q l n ≤ n := by
 intro n
 induction n with
 | zero => exact Nat.le_refl _
 | succ n ih =>
  match n, ih with
  | 0, _ => exact Nat.le_refl _
  | k + 1, ih => rw [cutR]; cases q (l.getD (k + 1) 0) <;> simp; omega
theorem popR_le (q : Int → Bool) (l : List Int) : ∀ n, popR q l n ≤ n := by
 intro n
 induction n with
 | zero => exact Nat.le_refl _
 | succ n ih =>
  match n, ih with
  | 0, _ => exact Nat.le_refl _
  | k + 1, ih => rw [popR]; cases q (l.getD (k + 1) 0) <;> simp; omega
theorem cutR_step {q : Int → Bool} {l : List Int} {n : Nat} (h : 1 < n) : cutR q l n = bif q (l.getD (n - 1) 0) then cutR q l (n - 1) else n := by
 obtain ⟨k, rfl⟩ : ∃ k, n = k + 2 := ⟨n - 2, by omega⟩
 rw [cutR]; rfl
theorem popR_step {q : Int → Bool} {l : List Int} {n : Nat} (h : 1 < n) : popR q l n = bif q (l.getD (n - 1) 0) then n - 1 else popR q l (n - 1) := by
 obtain ⟨k, rfl⟩ : ∃ k, n = k + 2 := ⟨n - 2, by omega⟩
 rw [popR]; rfl
theorem cutR_one {q : Int → Bool} {l : List Int} {n : Nat} (h : ¬ 1 < n) : cutR q l n = n := by
 match n, h with
 | 0, _ => rfl
 | 1, _ => rfl
 | k + 2, h => omega
theorem popR_one {q : Int → Bool} {l : List Int} {n : Nat} (h : ¬ 1 < n) : popR q l n = n := by
 match n, h with
 | 0, _ => rfl
 | 1, _ => rfl
 | k + 2, h => omega
theorem cutR_go {q : Int → Bool} {l : List Int} {n : Nat} (h : 1 < n) (hq : q (l.getD (n - 1) 0) = true) : cutR q l n = cutR q l (n - 1) := by rw [cutR_step h, hq]; rfl
theorem cutR_stop {q : Int → Bool} {l : List Int} {n : Nat} (h : 1 < n) (hq : q (l.getD (n - 1) 0) = false) : cutR q l n = n := by rw [cutR_step h, hq]; rfl
instance s108t (t : List NodeD) (nm : List UInt8) (l : List Int) : FnM BB 93 [.rd intTy l, .fn 98 [.loc 0 0, .loc 1 0]] [(0, .box [.rd nodeTy t]), (1, .box [.str nm])] (shortN t ∧ nm.length ≤ 100000 ∧ l.length ≤ 100000)
  (.own 2) [(0, .box [.rd nodeTy t]), (1, .box [.str nm]), (2, .own intTy (l.take (cutR (fun x => !isE t x nm) l l.length)))] := by
 refine FnM.intro (N := 25) [0, 1, 4, 5, 18] [] 2 Tryz.call93 Tryz.func93 rfl rfl (by kernel_rfl) (fun hpre => ?_)
 repeat' ((conv => whnf);first|(with_reducible first|rfl|exact absTF|exact absFT)|exact True.intro|intro _|refine And.intro ?_ ?_|refine Fin.mk ?_|refine W1 rfl ?_ ?_|refine W2 rfl ?_ ?_|refine W3 rfl ?_ ?_|refine W4 ?_ ?_|refine W5 rfl ?_ ?_|refine W6 ?_ ?_|refine AppN.mk ?_|refine X1 (W1 rfl ?_ ?_)|refine X1 (W2 rfl ?_ ?_)|refine X2 (W7 rfl ?_ ?_)|refine X3 (W7 rfl ?_ ?_)|refine X4 (W7 rfl ?_ ?_)|refine X5 (W7 rfl ?_ ?_))
 all_goals (try (conv => whnf))
 all_goals (try first|exact obA|refine Ob.mk ?_)
 refine LoopStop.mk (α := Nat) (fun n => [(5, .int .i64 n)]) (fun _ => []) 20 (fun n => n ≤ l.length ∧ cutR (fun x => !isE t x nm) l l.length = cutR (fun x => !isE t x nm) l n) (fun n => n) l.length (by simp) ?_ (fun n hC => ?_)
 ·all_goals exact vcA
 ·obtain ⟨hn, hC⟩ := hC
  have e1 : ((n : Int) - 1).toNat = n - 1 := by omega
  repeat' ((conv => whnf);first|(with_reducible first|rfl|exact absTF|exact absFT)|exact True.intro|intro _|refine And.intro ?_ ?_|refine Fin.mk ?_|refine W1 rfl ?_ ?_|refine W2 rfl ?_ ?_|refine W3 rfl ?_ ?_|refine W4 ?_ ?_|refine W5 rfl ?_ ?_|refine W6 ?_ ?_|refine AppN.mk ?_|refine X1 (W1 rfl ?_ ?_)|refine X1 (W2 rfl ?_ ?_)|refine X2 (W7 rfl ?_ ?_)|refine X3 (W7 rfl ?_ ?_)|refine X4 (W7 rfl ?_ ?_)|refine X5 (W7 rfl ?_ ?_))
  all_goals (try (conv => whnf))
  all_goals (try first|exact obA|refine Ob.mk ?_)
  all_goals (try rw [e1] at *)
  ·exact ⟨hpre.1, hpre.2.1⟩
  ·rename_i h1 h2
   have h1 := of_decide_eq_true h1
   have h2 : (fun x => !isE t x nm) (l.getD (n - 1) 0) = true := (Bool.true_and _).symm.trans h2
   refine Rnd.mk ⟨n - 1, ⟨by omega, hC.trans (cutR_go (by omega) h2)⟩, by omega, ?_, ?_, ?_⟩
   repeat' ((conv => whnf);first|(with_reducible first|rfl|exact absTF|exact absFT)|exact True.intro|intro _|refine And.intro ?_ ?_|refine Fin.mk ?_|refine W1 rfl ?_ ?_|refine W2 rfl ?_ ?_|refine W3 rfl ?_ ?_|refine W4 ?_ ?_|refine W5 rfl ?_ ?_|refine W6 ?_ ?_|refine AppN.mk ?_|refine X1 (W1 rfl ?_ ?_)|refine X1 (W2 rfl ?_ ?_)|refine X2 (W7 rfl ?_ ?_)|refine X3 (W7 rfl ?_ ?_)|refine X4 (W7 rfl ?_ ?_)|refine X5 (W7 rfl ?_ ?_))
   all_goals (try (conv => whnf))
   all_goals (try first|exact obA|refine Ob.mk ?_)
   all_goals (try omega)
  ·rename_i h1 h2
   have h1 := of_decide_eq_true h1
   have h2 : (fun x => !isE t x nm) (l.getD (n - 1) 0) = false := (Bool.true_and _).symm.trans h2
   rw [hC.trans (cutR_stop (by omega) h2)]; rfl
  ·rename_i h1 _
   have h1 := of_decide_eq_false h1
   rw [hC.trans (cutR_one (by omega))]; rfl
instance s108i (t : List NodeD) (nm : List UInt8) (l : List Int) : FnM BB 93 [.rd intTy l, .fn 95 [.loc 0 0, .loc 1 0]] [(0, .box [.rd nodeTy t]), (1, .box [.str nm])] (shortN t ∧ nm.length ≤ 100000 ∧ l.length ≤ 100000)
  (.own 2) [(0, .box [.rd nodeTy t]), (1, .box [.str nm]), (2, .own intTy (l.take (cutR (implN t nm) l l.length)))] := by
 refine FnM.intro (N := 25) [0, 1, 4, 5, 18] [] 2 Tryz.call93 Tryz.func93 rfl rfl (by kernel_rfl) (fun hpre => ?_)
 repeat' ((conv => whnf);first|(with_reducible first|rfl|exact absTF|exact absFT)|exact True.intro|intro _|refine And.intro ?_ ?_|refine Fin.mk ?_|refine W1 rfl ?_ ?_|refine W2 rfl ?_ ?_|refine W3 rfl ?_ ?_|refine W4 ?_ ?_|refine W5 rfl ?_ ?_|refine W6 ?_ ?_|refine AppN.mk ?_|refine X1 (W1 rfl ?_ ?_)|refine X1 (W2 rfl ?_ ?_)|refine X2 (W7 rfl ?_ ?_)|refine X3 (W7 rfl ?_ ?_)|refine X4 (W7 rfl ?_ ?_)|refine X5 (W7 rfl ?_ ?_))
 all_goals (try (conv => whnf))
 all_goals (try first|exact obA|refine Ob.mk ?_)
 refine LoopStop.mk (α := Nat) (fun n => [(5, .int .i64 n)]) (fun _ => []) 20 (fun n => n ≤ l.length ∧ cutR (implN t nm) l l.length = cutR (implN t nm) l n) (fun n => n) l.length (by simp) ?_ (fun n hC => ?_)
 ·all_goals exact vcA
 ·obtain ⟨hn, hC⟩ := hC
  have e1 : ((n : Int) - 1).toNat = n - 1 := by omega
  repeat' ((conv => whnf);first|(with_reducible first|rfl|exact absTF|exact absFT)|exact True.intro|intro _|refine And.intro ?_ ?_|refine Fin.mk ?_|refine W1 rfl ?_ ?_|refine W2 rfl ?_ ?_|refine W3 rfl ?_ ?_|refine W4 ?_ ?_|refine W5 rfl ?_ ?_|refine W6 ?_ ?_|refine AppN.mk ?_|refine X1 (W1 rfl ?_ ?_)|refine X1 (W2 rfl ?_ ?_)|refine X2 (W7 rfl ?_ ?_)|refine X3 (W7 rfl ?_ ?_)|refine X4 (W7 rfl ?_ ?_)|refine X5 (W7 rfl ?_ ?_))
  all_goals (try (conv => whnf))
  all_goals (try first|exact obA|refine Ob.mk ?_)
  all_goals (try rw [e1] at *)
  ·exact ⟨hpre.1, hpre.2.1⟩
  ·rename_i h1 h2
   have h1 := of_decide_eq_true h1
   have h2 : (implN t nm) (l.getD (n - 1) 0) = true := (Bool.true_and _).symm.trans h2
   refine Rnd.mk ⟨n - 1, ⟨by omega, hC.trans (cutR_go (by omega) h2)⟩, by omega, ?_, ?_, ?_⟩
   repeat' ((conv => whnf);first|(with_reducible first|rfl|exact absTF|exact absFT)|exact True.intro|intro _|refine And.intro ?_ ?_|refine Fin.mk ?_|refine W1 rfl ?_ ?_|refine W2 rfl ?_ ?_|refine W3 rfl ?_ ?_|refine W4 ?_ ?_|refine W5 rfl ?_ ?_|refine W6 ?_ ?_|refine AppN.mk ?_|refine X1 (W1 rfl ?_ ?_)|refine X1 (W2 rfl ?_ ?_)|refine X2 (W7 rfl ?_ ?_)|refine X3 (W7 rfl ?_ ?_)|refine X4 (W7 rfl ?_ ?_)|refine X5 (W7 rfl ?_ ?_))
   all_goals (try (conv => whnf))
   all_goals (try first|exact obA|refine Ob.mk ?_)
   all_goals (try omega)
  ·rename_i h1 h2
   have h1 := of_decide_eq_true h1
   have h2 : (implN t nm) (l.getD (n - 1) 0) = false := (Bool.true_and _).symm.trans h2
   rw [hC.trans (cutR_stop (by omega) h2)]; rfl
  ·rename_i h1 _
   have h1 := of_decide_eq_false h1
   rw [hC.trans (cutR_one (by omega))]; rfl
instance s108p (t : List NodeD) (nm : List UInt8) (l : List Int) : FnM BB 93 [.rd intTy l, .fn 94 [.loc 0 0, .loc 1 0, .loc 2 0]] [(0, .box [.bool false]), (1, .box [.rd nodeTy t]), (2, .box [.str nm])] (shortN t ∧ nm.length ≤ 100000 ∧ l.length ≤ 100000)
  (.own 3) [(0, .box [.und]), (1, .box [.rd nodeTy t]), (2, .box [.str nm]), (3, .own intTy (l.take (popR (fun x => isE t x nm) l l.length)))] := by
 refine FnM.intro (N := 25) [0, 1, 4, 5, 18] [] 3 Tryz.call93 Tryz.func93 rfl rfl (by kernel_rfl) (fun hpre => ?_)
 repeat' ((conv => whnf);first|(with_reducible first|rfl|exact absTF|exact absFT)|exact True.intro|intro _|refine And.intro ?_ ?_|refine Fin.mk ?_|refine W1 rfl ?_ ?_|refine W2 rfl ?_ ?_|refine W3 rfl ?_ ?_|refine W4 ?_ ?_|refine W5 rfl ?_ ?_|refine W6 ?_ ?_|refine AppN.mk ?_|refine X1 (W1 rfl ?_ ?_)|refine X1 (W2 rfl ?_ ?_)|refine X2 (W7 rfl ?_ ?_)|refine X3 (W7 rfl ?_ ?_)|refine X4 (W7 rfl ?_ ?_)|refine X5 (W7 rfl ?_ ?_))
 all_goals (try (conv => whnf))
 all_goals (try first|exact obA|refine Ob.mk ?_)
 refine LoopStop.mk (α := Nat × Bool) (fun a => [(5, .int .i64 a.1)]) (fun a => [(0, .box [.bool a.2])]) 20 (fun a => a.1 ≤ l.length ∧ popR (fun x => isE t x nm) l l.length = bif a.2 then a.1 else popR (fun x => isE t x nm) l a.1) (fun a => a.1) (l.length, false) (by simp) ?_ (fun a hC => ?_)
 ·all_goals exact vcA
 ·obtain ⟨n, f⟩ := a
  obtain ⟨hn, hC⟩ := hC
  simp only at hn hC
  have e1 : ((n : Int) - 1).toNat = n - 1 := by omega
  repeat' ((conv => whnf);first|(with_reducible first|rfl|exact absTF|exact absFT)|exact True.intro|intro _|refine And.intro ?_ ?_|refine Fin.mk ?_|refine W1 rfl ?_ ?_|refine W2 rfl ?_ ?_|refine W3 rfl ?_ ?_|refine W4 ?_ ?_|refine W5 rfl ?_ ?_|refine W6 ?_ ?_|refine AppN.mk ?_|refine X1 (W1 rfl ?_ ?_)|refine X1 (W2 rfl ?_ ?_)|refine X2 (W7 rfl ?_ ?_)|refine X3 (W7 rfl ?_ ?_)|refine X4 (W7 rfl ?_ ?_)|refine X5 (W7 rfl ?_ ?_))
  all_goals (try (conv => whnf))
  all_goals (try first|exact obA|refine Ob.mk ?_)
  all_goals (try simp only at *)
  all_goals (try rw [e1] at *)
  ·exact ⟨hpre.1, hpre.2.1⟩
  ·rename_i h1 h2
   have h1 := of_decide_eq_true h1
   have h2 : f = false := by simpa using h2
   subst h2
   rw [cond_false] at hC
   refine Rnd.mk ⟨(n - 1, isE t (l.getD (n - 1) 0) nm), ⟨by (simp only; omega), hC.trans (popR_step (by omega))⟩, by (simp only; omega), ?_, ?_, ?_⟩
   repeat' ((conv => whnf);first|(with_reducible first|rfl|exact absTF|exact absFT)|exact True.intro|intro _|refine And.intro ?_ ?_|refine Fin.mk ?_|refine W1 rfl ?_ ?_|refine W2 rfl ?_ ?_|refine W3 rfl ?_ ?_|refine W4 ?_ ?_|refine W5 rfl ?_ ?_|refine W6 ?_ ?_|refine AppN.mk ?_|refine X1 (W1 rfl ?_ ?_)|refine X1 (W2 rfl ?_ ?_)|refine X2 (W7 rfl ?_ ?_)|refine X3 (W7 rfl ?_ ?_)|refine X4 (W7 rfl ?_ ?_)|refine X5 (W7 rfl ?_ ?_))
   all_goals (try (conv => whnf))
   all_goals (try first|exact obA|refine Ob.mk ?_)
   all_goals (try omega)
   all_goals (try rfl)
  ·rename_i h1 h2
   have h1 := of_decide_eq_true h1
   have h2 : f = true := by simpa using h2
   subst h2
   rw [cond_true] at hC
   rw [hC]; rfl
  ·rename_i h1 _
   have h1 := of_decide_eq_false h1
   have hC : popR (fun x => isE t x nm) l l.length = n := by
    rw [hC]; cases f with
    | true => rfl
    | false => exact popR_one (by omega)
   rw [hC]; rfl
end Go.Vc

namespace Go.Vc
open Go.Proofs
set_option maxRecDepth 10000
theorem len_take {l : List Int} {n : Nat} (h : n ≤ l.length) : (l.take n).length = n := by simp; omega
theorem take_getD {l : List Int} {n k : Nat} (h : k < n) : (l.take n).getD k 0 = l.getD k 0 := by
 simp [List.getD, List.getElem?_take, h]
theorem take_pred {l : List Int} {n : Nat} : (l.take n).take (n - 1) = l.take (n - 1) := by rw [List.take_take]; congr 1; omega
theorem implN_neg (t : List NodeD) (but : List UInt8) (x : Int) : (!implN t but x) = ((nodeE t x).1 != 1 || !W.kHtml (nodeE t x).2.1 (nodeE t x).2.2.1 W.cImpl || (W.spl but).contains (nodeE t x).2.2.1) := by
 simp only [implN, Bool.not_and, Bool.not_not, bne, Bool.or_assoc]
theorem popR_hit {q : Int → Bool} {l : List Int} {n : Nat} (h : 1 < n) (hq : q (l.getD (n - 1) 0) = true) : popR q l n = n - 1 := by rw [popR_step h, hq]; rfl
theorem popR_go {q : Int → Bool} {l : List Int} {n : Nat} (h : 1 < n) (hq : q (l.getD (n - 1) 0) = false) : popR q l n = popR q l (n - 1) := by rw [popR_step h, hq]; rfl
end Go.Vc

namespace Go.Vc
open Go.Proofs
set_option maxRecDepth 10000
instance (priority := low) fnM_fn {B : Base} {f : FuncId} {args : List SV} {pre : Prop} {res : SV} [h : Fn B f args pre res] : FnM B f args [] pre res [] := ⟨h.call, h.ok⟩
end Go.Vc

namespace Go.Vc
open Go.Proofs
set_option autoImplicit false
def addKid (n : NodeD) (k : Int) : NodeD := (n.1, n.2.1, n.2.2.1, n.2.2.2.1, n.2.2.2.2.1, n.2.2.2.2.2.1, n.2.2.2.2.2.2 ++ [k])
def mkN (n : NodeD) (up : Int) : NodeD := (n.1, n.2.1, n.2.2.1, n.2.2.2.1, n.2.2.2.2.1, up, [])
def addAt (out : List NodeD) (p : Nat) (k : Int) : List NodeD := out.set p (addKid (out.getD p nodeTy.dflt) k)
structure PSt where
 out : List NodeD
 P : List Nat
def PSt.step (t : List NodeD) (x : PSt) (e : Ev) : PSt :=
 match e.2.2.2, x.P with
 | true, P => { out := x.out, P := P.tail }
 | false, [] => { out := x.out ++ [mkN (t.getD e.1 nodeTy.dflt) (-1)], P := [x.out.length] }
 | false, p :: P => { out := addAt x.out p x.out.length ++ [mkN (t.getD e.1 nodeTy.dflt) p], P := x.out.length :: p :: P }
def PSt.run (t : List NodeD) : PSt → List Ev → PSt
 | x, [] => x
 | x, e :: l => PSt.run t (x.step t e) l
variable {K : Nat → List Int} {t : List NodeD}
end Go.Vc

namespace Go.Vc
open Go.Proofs
set_option maxRecDepth 10000
def okI (n : Nat) (i : Int) : Prop := 0 ≤ i ∧ i < n
structure Ti (n : Nat) (U : Int → Int) (K : Int → List Int) : Prop where
 pos : 0 < n
 root : U 0 = -1
 kid : ∀ i, okI n i → ∀ k ∈ K i, okI n k ∧ U k = i
 up : ∀ i, okI n i → U i = -1 ∨ (okI n (U i) ∧ (K (U i)).count i = 1)
 dep : ∃ d : Int → Nat, ∀ i, okI n i → U i ≠ -1 → d (U i) < d i
inductive Ds (U : Int → Int) (r : Int) : Int → Prop
 | here : Ds U r r
 | up {x : Int} : U x ≠ -1 → Ds U r (U x) → Ds U r x
theorem countP_lt {l : List Int} {p q : Int → Bool} (h : ∀ x ∈ l, p x = true → q x = true) (y : Int) (hy : y ∈ l) (hp : p y = false) (hq : q y = true) : l.countP p < l.countP q := by
 induction l with
 | nil => cases hy
 | cons a l ih =>
  have hle : l.countP p ≤ l.countP q := List.countP_mono_left fun x hx => h x (List.mem_cons_of_mem _ hx)
  rw [List.countP_cons, List.countP_cons]
  rcases List.mem_cons.1 hy with rfl | hy
  ·rw [hp, hq]; simp; omega
  ·have := ih (fun x hx => h x (List.mem_cons_of_mem _ hx)) hy
   have ha := h a List.mem_cons_self
   cases hpa : p a
   ·simp; omega
   ·rw [ha hpa]; simp; omega
theorem Ti.rank {n : Nat} {U : Int → Int} {K : Int → List Int} (h : Ti n U K) : ∃ d : Int → Nat, (∀ i, okI n i → d i < n) ∧ ∀ i, okI n i → U i ≠ -1 → d (U i) < d i := by
 obtain ⟨d, hd⟩ := h.dep
 let L : List Int := (List.range n).map fun (k : Nat) => (k : Int)
 have hL : ∀ i, okI n i → i ∈ L := fun i hi => List.mem_map.2 ⟨i.toNat, List.mem_range.2 (by have := hi.2; have := hi.1; omega), by have := hi.1; omega⟩
 refine ⟨fun i => L.countP fun y => decide (d y < d i), fun i hi => ?_, fun i hi hu => ?_⟩
 ·have h1 : L.countP (fun y => decide (d y < d i)) < L.countP (fun _ => true) := countP_lt (fun _ _ _ => rfl) i (hL i hi) (decide_eq_false (Nat.lt_irrefl _)) rfl
  have h2 : L.countP (fun _ => true) = n := by simp [L]
  show L.countP (fun y => decide (d y < d i)) < n
  omega
 ·have hd := hd i hi hu
  rcases h.up i hi with q | q
  ·exact absurd q hu
  ·exact countP_lt (fun x _ hx => decide_eq_true (Nat.lt_trans (of_decide_eq_true hx) hd)) (U i) (hL _ q.1) (decide_eq_false (Nat.lt_irrefl _)) (decide_eq_true hd)
theorem Ds.le {n : Nat} {U : Int → Int} {K : Int → List Int} (h : Ti n U K) {d : Int → Nat} (hd : ∀ i, okI n i → U i ≠ -1 → d (U i) < d i) {r x : Int} (s : Ds U r x) : okI n x → d r ≤ d x := by
 induction s with
 | here => intro _; exact Nat.le_refl _
 | @up x hu _ ih =>
  intro hx
  rcases h.up x hx with q | q
  ·exact absurd q hu
  ·exact Nat.le_trans (ih q.1) (Nat.le_of_lt (hd x hx hu))
theorem Ds.self {n : Nat} {U : Int → Int} {K : Int → List Int} (h : Ti n U K) {r : Int} (hr : okI n r) (hu : U r ≠ -1) : ¬ Ds U r (U r) := by
 obtain ⟨d, hd⟩ := h.dep
 intro s
 rcases h.up r hr with q | q
 ·exact hu q
 ·have h1 := s.le h hd q.1
  have h2 := hd r hr hu
  omega
theorem mem_kids {n : Nat} {U : Int → Int} {K : Int → List Int} (h : Ti n U K) {i k : Int} (hi : okI n i) : k ∈ K i ↔ okI n k ∧ U k = i := by
 refine ⟨h.kid i hi k, fun ⟨hk, e⟩ => ?_⟩
 rcases h.up k hk with q | q
 ·have := hi.1; omega
 ·have h2 := q.2
  rw [e] at h2
  exact List.count_pos_iff.1 (by omega)
theorem kids_one {n : Nat} {U : Int → Int} {K : Int → List Int} (h : Ti n U K) {i : Int} (hi : okI n i) (k : Int) : (K i).count k ≤ 1 := by
 by_cases hk : k ∈ K i
 ·have hk' := (mem_kids h hi).1 hk
  rcases h.up k hk'.1 with q | q
  ·have := hi.1; omega
  ·have h2 := q.2; rw [hk'.2] at h2; omega
 ·rw [List.count_eq_zero_of_not_mem hk]; omega
theorem len_of_one : ∀ (n : Nat) (l : List Int), (∀ x ∈ l, 0 ≤ x ∧ x < (n : Int)) → (∀ x, l.count x ≤ 1) → l.length ≤ n
 | 0, l, h, _ => by
  cases l with
  | nil => exact Nat.le_refl _
  | cons a l => have := h a List.mem_cons_self; omega
 | n + 1, l, h, h1 => by
  have h2 := len_of_one n (l.erase (n : Int)) (fun x hx => by
   have hm := h x (List.mem_of_mem_erase hx)
   have : x ≠ (n : Int) := fun e => by
    subst e
    have := List.count_pos_iff.2 hx
    rw [List.count_erase_self] at this
    have := h1 (n : Int); omega
   omega) (fun x => Nat.le_trans (List.Sublist.count_le _ List.erase_sublist) (h1 x))
  have h3 := List.length_erase (a := (n : Int)) (l := l)
  split at h3 <;> omega
theorem Ti.len {n : Nat} {U : Int → Int} {K : Int → List Int} (h : Ti n U K) {i : Int} (hi : okI n i) : (K i).length ≤ n :=
 len_of_one n (K i) (fun x hx => (h.kid i hi x hx).1) (kids_one h hi)
theorem Ti.add {n : Nat} {U U' : Int → Int} {K K' : Int → List Int} (h : Ti n U K) (hU : ∀ i, okI n i → U' i = U i) (hK : ∀ i, okI n i → K' i = K i) (hn : U' n = -1) (hk : K' n = []) : Ti (n + 1) U' K' := by
 have hs : ∀ i, okI (n + 1) i → okI n i ∨ i = n := fun i hi => by have := hi.1; have := hi.2; rcases Int.lt_or_le i n with q | q; exact .inl ⟨by omega, by omega⟩; exact .inr (by omega)
 have ho : ∀ i, okI n i → okI (n + 1) i := fun i hi => ⟨hi.1, by have := hi.2; omega⟩
 have h0 : okI n 0 := ⟨by omega, by have := h.pos; omega⟩
 obtain ⟨d, hd⟩ := h.dep
 refine ⟨by omega, by rw [hU 0 h0]; exact h.root, fun i hi k hk' => ?_, fun i hi => ?_, d, fun i hi hu => ?_⟩
 ·rcases hs i hi with q | rfl
  ·rw [hK i q] at hk'
   have := h.kid i q k hk'
   exact ⟨ho _ this.1, by rw [hU _ this.1]; exact this.2⟩
  ·rw [hk] at hk'; cases hk'
 ·rcases hs i hi with q | rfl
  ·rw [hU i q]
   rcases h.up i q with q' | q'
   ·exact .inl q'
   ·exact .inr ⟨ho _ q'.1, by rw [hK _ q'.1]; exact q'.2⟩
  ·exact .inl hn
 ·rcases hs i hi with q | rfl
  ·rw [hU i q] at hu ⊢; exact hd i q hu
  ·exact absurd hn hu
theorem Ti.congr {n : Nat} {U U' : Int → Int} {K K' : Int → List Int} (h : Ti n U K) (hU : ∀ i, okI n i → U' i = U i) (hK : ∀ i, okI n i → K' i = K i) : Ti n U' K' := by
 have h0 : okI n 0 := ⟨by omega, by have := h.pos; omega⟩
 obtain ⟨d, hd⟩ := h.dep
 refine ⟨h.pos, by rw [hU 0 h0]; exact h.root, fun i hi k hk' => ?_, fun i hi => ?_, d, fun i hi hu => ?_⟩
 ·rw [hK i hi] at hk'
  have := h.kid i hi k hk'
  exact ⟨this.1, by rw [hU k this.1]; exact this.2⟩
 ·rw [hU i hi]
  rcases h.up i hi with q | q
  ·exact .inl q
  ·exact .inr ⟨q.1, by rw [hK _ q.1]; exact q.2⟩
 ·rw [hU i hi] at hu ⊢; exact hd i hi hu
theorem Ti.cut {n : Nat} {U U' : Int → Int} {K K' : Int → List Int} (h : Ti n U K) {kid : Int} (hk : okI n kid) (hu : U kid ≠ -1) (hU : ∀ i, okI n i → U' i = if i = kid then -1 else U i) (hK : ∀ i, okI n i → i ≠ U kid → K' i = K i)
  (hKp : ∀ k, (K' (U kid)).count k + (if k = kid then 1 else 0) = (K (U kid)).count k) : Ti n U' K' := by
 have h0 : okI n 0 := ⟨by omega, by have := h.pos; omega⟩
 have hp : okI n (U kid) ∧ (K (U kid)).count kid = 1 := (h.up kid hk).resolve_left hu
 obtain ⟨d, hd⟩ := h.dep
 have hne : ∀ i, okI n i → ∀ k, k ∈ K' i → k ∈ K i ∧ k ≠ kid := fun i hi k hk' => by
  by_cases e : i = U kid
  ·subst e
   have h1 := List.count_pos_iff.2 hk'
   have h2 := hKp k
   by_cases e' : k = kid
   ·subst e'; rw [if_pos rfl, hp.2] at h2; omega
   ·rw [if_neg e'] at h2
    exact ⟨List.count_pos_iff.1 (by omega), e'⟩
  ·rw [hK i hi e] at hk'
   refine ⟨hk', fun e' => ?_⟩
   subst e'
   exact e (h.kid i hi _ hk').2.symm
 refine ⟨h.pos, ?_, fun i hi k hk' => ?_, fun i hi => ?_, d, fun i hi hu' => ?_⟩
 ·rw [hU 0 h0]; split
  ·rfl
  ·exact h.root
 ·obtain ⟨a, b⟩ := hne i hi k hk'
  have := h.kid i hi k a
  exact ⟨this.1, by rw [hU k this.1, if_neg b]; exact this.2⟩
 ·rw [hU i hi]
  split
  ·exact .inl rfl
  ·rename_i e
   rcases h.up i hi with q | q
   ·exact .inl q
   ·refine .inr ⟨q.1, ?_⟩
    by_cases e2 : U i = U kid
    ·have h2 := hKp i
     rw [if_neg e, Nat.add_zero] at h2
     rw [e2, h2, ← e2]; exact q.2
    ·rw [hK _ q.1 e2]; exact q.2
 ·rw [hU i hi] at hu' ⊢
  split at hu'
  ·exact absurd rfl hu'
  ·rename_i e; rw [if_neg e]; exact hd i hi hu'
open Classical in
theorem Ti.put {n : Nat} {U U' : Int → Int} {K K' : Int → List Int} (h : Ti n U K) {kid p : Int} (hk : okI n kid) (hk0 : kid ≠ 0) (hp : okI n p) (hu : U kid = -1) (hd' : ¬ Ds U kid p) (hU : ∀ i, okI n i → U' i = if i = kid then p else U i)
  (hK : ∀ i, okI n i → i ≠ p → K' i = K i) (hKp : ∀ k, (K' p).count k = (K p).count k + if k = kid then 1 else 0) : Ti n U' K' := by
 have h0 : okI n 0 := ⟨by omega, by have := h.pos; omega⟩
 obtain ⟨d, hd⟩ := h.dep
 have hno : kid ∉ K p := fun q => by have := (h.kid p hp _ q).2; have := hp.1; omega
 refine ⟨h.pos, by rw [hU 0 h0, if_neg (Ne.symm hk0)]; exact h.root, fun i hi k hk' => ?_, fun i hi => ?_, fun x => if Ds U kid x then d x + d p + 1 else d x, fun i hi hu' => ?_⟩
 ·by_cases e : i = p
  ·subst e
   have hc := List.count_pos_iff.2 hk'
   rw [hKp] at hc
   by_cases ek : k = kid
   ·subst ek; exact ⟨hk, by rw [hU k hk, if_pos rfl]⟩
   ·rw [if_neg ek] at hc
    have := h.kid i hi k (List.count_pos_iff.1 (by omega))
    exact ⟨this.1, by rw [hU k this.1, if_neg ek]; exact this.2⟩
  ·rw [hK i hi e] at hk'
   have := h.kid i hi k hk'
   exact ⟨this.1, by rw [hU k this.1, if_neg (fun ek => by subst ek; have := hi.1; omega)]; exact this.2⟩
 ·rw [hU i hi]
  split
  ·rename_i e
   subst e
   exact .inr ⟨hp, by rw [hKp, if_pos rfl, List.count_eq_zero_of_not_mem hno]⟩
  ·rename_i e
   rcases h.up i hi with q | q
   ·exact .inl q
   ·refine .inr ⟨q.1, ?_⟩
    by_cases eq : U i = p
    ·rw [eq, hKp, if_neg e, Nat.add_zero, ← eq]; exact q.2
    ·rw [hK _ q.1 eq]; exact q.2
 ·rw [hU i hi] at hu' ⊢
  by_cases e : i = kid
  ·subst e
   simp only [if_true]
   rw [if_neg hd', if_pos Ds.here]; omega
  ·rw [if_neg e] at hu' ⊢
   have hlt := hd i hi hu'
   have hiff : Ds U kid i ↔ Ds U kid (U i) := ⟨fun s => by cases s with | here => exact absurd rfl e | up _ s => exact s, fun s => .up hu' s⟩
   simp only
   by_cases hs : Ds U kid i
   ·rw [if_pos hs, if_pos (hiff.1 hs)]; omega
   ·rw [if_neg hs, if_neg (fun q => hs (hiff.2 q))]; exact hlt
open Classical in
theorem Ti.move {n : Nat} {U U' : Int → Int} {K K' : Int → List Int} (h : Ti n U K) {a b : Int} (ha : okI n a) (hb : okI n b) (hd' : ¬ Ds U a b) (hU : ∀ i, okI n i → U' i = if i ∈ K a then b else U i)
    (hKa : K' a = []) (hKb : K' b = K b ++ K a) (hK : ∀ i, okI n i → i ≠ a → i ≠ b → K' i = K i) : Ti n U' K' := by
  have h0 : okI n 0 := ⟨by omega, by have := h.pos; omega⟩
  have hab : b ≠ a := fun e => hd' (by rw [e]; exact .here)
  obtain ⟨d, hd⟩ := h.dep
  have hm : ∀ i, okI n i → (i ∈ K a ↔ U i = a) := fun i hi => by rw [mem_kids h ha]; exact ⟨fun q => q.2, fun q => ⟨hi, q⟩⟩
  have hU2 : ∀ i, okI n i → U' i = if U i = a then b else U i := fun i hi => by
    rw [hU i hi]
    by_cases q : i ∈ K a
    · rw [if_pos q, if_pos ((hm i hi).1 q)]
    · rw [if_neg q, if_neg (fun e => q ((hm i hi).2 e))]
  refine ⟨h.pos, by rw [hU2 0 h0, h.root, if_neg (by have := ha.1; omega)], fun i hi k hk' => ?_, fun i hi => ?_, fun x => if Ds U a x ∧ x ≠ a then d x + d b + 1 else d x, fun i hi hu' => ?_⟩
  · by_cases ea : i = a
    · subst ea; rw [hKa] at hk'; cases hk'
    · by_cases eb : i = b
      · subst eb
        rw [hKb] at hk'
        rcases List.mem_append.1 hk' with q | q
        · have := h.kid i hi k q
          exact ⟨this.1, by rw [hU2 k this.1, this.2, if_neg hab]⟩
        · have := h.kid a ha k q
          exact ⟨this.1, by rw [hU2 k this.1, if_pos this.2]⟩
      · rw [hK i hi ea eb] at hk'
        have := h.kid i hi k hk'
        exact ⟨this.1, by rw [hU2 k this.1, this.2, if_neg ea]⟩
  · rw [hU2 i hi]
    by_cases e : U i = a
    · rw [if_pos e]
      refine .inr ⟨hb, ?_⟩
      rw [hKb, List.count_append, List.count_eq_zero_of_not_mem (fun q => hab ((h.kid b hb i q).2.symm.trans e))]
      rcases h.up i hi with q | q
      · have := ha.1; omega
      · have h2 := q.2; rw [e] at h2; omega
    · rw [if_neg e]
      rcases h.up i hi with q | q
      · exact .inl q
      · refine .inr ⟨q.1, ?_⟩
        by_cases eb : U i = b
        · rw [eb, hKb, List.count_append, List.count_eq_zero_of_not_mem (l := K a) (fun q' => e ((hm i hi).1 q'))]
          have h2 := q.2; rw [eb] at h2; omega
        · rw [hK _ q.1 e eb]; exact q.2
  · rw [hU2 i hi] at hu' ⊢
    by_cases e : U i = a
    · rw [if_pos e]
      have hi2 : i ≠ a := fun q => by
        have hlt := hd i hi (by rw [e]; have := ha.1; omega)
        rw [e, q] at hlt; omega
      simp only
      rw [if_neg (fun q => hd' q.1), if_pos ⟨.up (by rw [e]; have := ha.1; omega) (by rw [e]; exact .here), hi2⟩]
      omega
    · rw [if_neg e] at hu' ⊢
      have hlt := hd i hi hu'
      simp only
      by_cases hs : Ds U a i ∧ i ≠ a
      · have hs2 : Ds U a (U i) := by
          cases hs.1 with
          | here => exact absurd rfl hs.2
          | up _ s => exact s
        rw [if_pos hs, if_pos ⟨hs2, e⟩]; omega
      · rw [if_neg hs]
        split
        · rename_i q
          by_cases hi2 : i = a
          · subst hi2
            exact absurd q.1 (Ds.self h hi hu')
          · exact absurd ⟨.up hu' q.1, hi2⟩ hs
        · exact hlt
end Go.Vc

namespace Go.Vc
open Go.Proofs
set_option maxRecDepth 10000
set_option maxHeartbeats 4000000
theorem isT_len {l l' : List NodeD} (h : l'.length = l.length) (i : Int) : isT l' i = isT l i := by unfold isT; rw [h]
end Go.Vc

namespace Go.Vc
open Go.Proofs
set_option maxRecDepth 10000
set_option maxHeartbeats 4000000
instance hNew : FnM BB 38 [] [] True (.agg [.own 0]) [(0, .own nodeTy [rootN])] := by
 refine FnM.intro (N := 4) [0] [] 0 Tryz.call38 Tryz.func38 rfl rfl (by kernel_rfl) (fun hpre => ?_)
 all_goals exact vcA
instance hIs (l : List NodeD) (i : Int) : Fn BB 76 [.agg [.rd nodeTy l], .int .i64 i] True (.bool (isT l i)) := by
 refine Fn.intro (N := 14) [0, 1, 2, 4] [] Tryz.call76 Tryz.func76 rfl rfl (by kernel_rfl) (fun hpre => ?_)
 all_goals exact vcA
instance hHolds (l : List NodeD) (up kid : Int) : Fn BB 77 [.agg [.rd nodeTy l], .int .i64 up, .int .i64 kid] (l.length ≤ 100000) (.bool (holdsT l up kid)) := by
  refine Fn.intro (N := 34) [0, 1, 2, 3, 6, 7, 22, 27] [] Tryz.call77 Tryz.func77 rfl rfl (by kernel_rfl) (fun hpre => ?_)
  repeat' ((conv => whnf);first|(with_reducible first|rfl|exact absTF|exact absFT)|exact True.intro|intro _|refine And.intro ?_ ?_|refine Fin.mk ?_|refine W1 rfl ?_ ?_|refine W2 rfl ?_ ?_|refine W3 rfl ?_ ?_|refine W4 ?_ ?_|refine W5 rfl ?_ ?_|refine W6 ?_ ?_|refine AppN.mk ?_|refine X1 (W1 rfl ?_ ?_)|refine X1 (W2 rfl ?_ ?_)|refine X2 (W7 rfl ?_ ?_)|refine X3 (W7 rfl ?_ ?_)|refine X4 (W7 rfl ?_ ?_)|refine X5 (W7 rfl ?_ ?_))
  all_goals (try (conv => whnf))
  all_goals (try first|exact obA|refine Ob.mk ?_)
  refine LoopStop.mk (α := Nat × Int) (fun a => [(7, .int .i64 (a.1 : Nat)), (2, .int .i64 a.2)]) (fun _ => []) 30 (fun a => a.1 ≤ l.length + 1 ∧ (isT l up && holdsF (l.length + 1 - a.1) l up a.2) = holdsT l up kid) (fun a => l.length + 1 - a.1) (0, kid) ⟨by simp, rfl⟩ ?_ (fun a ha => ?_)
  · all_goals exact vcA
  · obtain ⟨k, x⟩ := a
    obtain ⟨h1, h2⟩ := ha
    dsimp only at h1 h2
    have c1 : (decide ((k : Int) ≤ (l.length : Int)) && isT l x && isT l up) = true → k ≤ l.length ∧ isT l x = true ∧ isT l up = true ∧ holdsF (l.length + 1 - k) l up x = holdsT l up kid := fun h => by
      simp only [Bool.and_eq_true] at h
      have h3 := of_decide_eq_true h.1.1
      rw [h.2, Bool.true_and] at h2
      exact ⟨by omega, h.1.2, h.2, h2⟩
    have c0 : (decide ((k : Int) ≤ (l.length : Int)) && isT l x && isT l up) = false → false = holdsT l up kid := fun h => by
      rw [← h2]
      by_cases hu : isT l up = true
      · by_cases hx : isT l x = true
        · rw [hu, hx, Bool.and_true, Bool.and_true] at h
          have := of_decide_eq_false h
          rw [show l.length + 1 - k = 0 by omega, hu]; rfl
        · have : holdsF (l.length + 1 - k) l up x = false := by
            cases l.length + 1 - k with
            | zero => rfl
            | succ m => rw [holdsF, if_neg hx]
          rw [this, Bool.and_false]
      · rw [show isT l up = false by simpa using hu]; rfl
    have c2 : (decide ((k : Int) ≤ (l.length : Int)) && isT l x && isT l up) = true → (x == up) = true → true = holdsT l up kid := fun h h' => by
      obtain ⟨q1, q2, q3, q4⟩ := c1 h
      rw [← q4, show l.length + 1 - k = (l.length - k) + 1 by omega, holdsF, if_pos q2, if_pos (by simpa using h')]
    have c3 : (decide ((k : Int) ≤ (l.length : Int)) && isT l x && isT l up) = true → (x == up) = false → k ≤ l.length ∧ (isT l up && holdsF (l.length + 1 - (k + 1)) l up (nd l x).up) = holdsT l up kid := fun h h' => by
      obtain ⟨q1, q2, q3, q4⟩ := c1 h
      rw [← q4, show l.length + 1 - k = (l.length - k) + 1 by omega, holdsF, if_pos q2, if_neg (by simpa using h'), q3, Bool.true_and, show l.length + 1 - (k + 1) = l.length - k by omega]
      exact ⟨q1, rfl⟩
    repeat' ((conv => whnf);first|(with_reducible first|rfl|exact absTF|exact absFT)|exact True.intro|intro _|refine And.intro ?_ ?_|refine Fin.mk ?_|refine W1 rfl ?_ ?_|refine W2 rfl ?_ ?_|refine W3 rfl ?_ ?_|refine W4 ?_ ?_|refine W5 rfl ?_ ?_|refine W6 ?_ ?_|refine AppN.mk ?_|refine X1 (W1 rfl ?_ ?_)|refine X1 (W2 rfl ?_ ?_)|refine X2 (W7 rfl ?_ ?_)|refine X3 (W7 rfl ?_ ?_)|refine X4 (W7 rfl ?_ ?_)|refine X5 (W7 rfl ?_ ?_))
    all_goals (try (conv => whnf))
    all_goals (try first|exact obA|refine Ob.mk ?_)
    all_goals (try dsimp only at *)
    all_goals (first | exact c2 ‹_› ‹_› | exact c0 ‹_› | exact isT_iff.1 (c1 ‹_›).2.1 | (have := (c1 ‹_›).1; omega) | skip)
    obtain ⟨q1, q2⟩ := c3 ‹_› ‹_›
    refine Rnd.mk ⟨(k + 1, (nd l x).up), ⟨by simp only; omega, q2⟩, by simp only; omega, ?_⟩
    repeat' ((conv => whnf);first|(with_reducible first|rfl|exact absTF|exact absFT)|exact True.intro|intro _|refine And.intro ?_ ?_|refine Fin.mk ?_|refine W1 rfl ?_ ?_|refine W2 rfl ?_ ?_|refine W3 rfl ?_ ?_|refine W4 ?_ ?_|refine W5 rfl ?_ ?_|refine W6 ?_ ?_|refine AppN.mk ?_|refine X1 (W1 rfl ?_ ?_)|refine X1 (W2 rfl ?_ ?_)|refine X2 (W7 rfl ?_ ?_)|refine X3 (W7 rfl ?_ ?_)|refine X4 (W7 rfl ?_ ?_)|refine X5 (W7 rfl ?_ ?_))
    all_goals (try (conv => whnf))
    all_goals (try first|exact obA|refine Ob.mk ?_)
    all_goals (first | rfl | omega | trace_state)
end Go.Vc

namespace Go.Vc
open Go.Proofs
set_option maxRecDepth 10000
instance f40 (k s : Int) (nm : List UInt8) (at_ : List AttrD) (d : List UInt8) (up : Int) (kids : List Int) (k' s' : Int) (nm' : List UInt8) (at_' : List AttrD) (d' : List UInt8) (up' : Int) (kids' : List Int) :
  Fn BB 110 [.agg [.int .i64 k, .int .i64 s, .str nm, .rd attrTy at_, .str d, .int .i64 up, .rd intTy kids], .agg [.int .i64 k', .int .i64 s', .str nm', .rd attrTy at_', .str d', .int .i64 up', .rd intTy kids']]
   True (.bool (eqB (α := NodeD) (k, s, nm, at_, d, up, kids) (k', s', nm', at_', d', up', kids'))) := by
 refine Fn.intro (N := 71) [0, 1, 2, 3, 4, 5, 47, 52, 65] [(6, [0, 1, 0, 1, 1, 0, 1, 0, 1, 1, 3])] Tryz.call110 Tryz.func110 rfl rfl (by kernel_rfl) (fun hpre => ?_)
 repeat' ((conv => whnf);first|(with_reducible first|rfl|exact absTF|exact absFT)|exact True.intro|intro _|refine And.intro ?_ ?_|refine Fin.mk ?_|refine W1 rfl ?_ ?_|refine W2 rfl ?_ ?_|refine W3 rfl ?_ ?_|refine W4 ?_ ?_|refine W5 rfl ?_ ?_|refine W6 ?_ ?_|refine AppN.mk ?_|refine X1 (W1 rfl ?_ ?_)|refine X1 (W2 rfl ?_ ?_)|refine X2 (W7 rfl ?_ ?_)|refine X3 (W7 rfl ?_ ?_)|refine X4 (W7 rfl ?_ ?_)|refine X5 (W7 rfl ?_ ?_))
 all_goals (try (conv => whnf))
 all_goals (try first|exact obA|refine Ob.mk ?_)
 ·rename_i h
  refine eqB_false fun e => ?_
  simp only [Prod.mk.injEq] at e
  obtain ⟨rfl, rfl, rfl, rfl, rfl, rfl, rfl⟩ := e
  simp at h
 ·rename_i h
  simp only [Bool.or_eq_false_iff, bne_eq_false_iff_eq, Bool.not_eq_false', beq_iff_eq] at h
  obtain ⟨⟨⟨⟨⟨rfl, rfl⟩, rfl⟩, rfl⟩, rfl⟩, hl⟩ := h
  refine LoopStop.mk (α := Nat) (fun i => [(5, .int .i64 i)]) (fun _ => []) 20 (fun i => i ≤ kids.length ∧ kids.take i = kids'.take i) (fun i => kids.length - i) 0 (by simp) ?_ (fun i hi => ?_)
  ·repeat' ((conv => whnf);first|(with_reducible first|rfl|exact absTF|exact absFT)|exact True.intro|intro _|refine And.intro ?_ ?_|refine Fin.mk ?_|refine W1 rfl ?_ ?_|refine W2 rfl ?_ ?_|refine W3 rfl ?_ ?_|refine W4 ?_ ?_|refine W5 rfl ?_ ?_|refine W6 ?_ ?_|refine AppN.mk ?_|refine X1 (W1 rfl ?_ ?_)|refine X1 (W2 rfl ?_ ?_)|refine X2 (W7 rfl ?_ ?_)|refine X3 (W7 rfl ?_ ?_)|refine X4 (W7 rfl ?_ ?_)|refine X5 (W7 rfl ?_ ?_))
   all_goals (try (conv => whnf))
   all_goals (try rfl)
  ·obtain ⟨hi, ha⟩ := hi
   repeat' ((conv => whnf);first|(with_reducible first|rfl|exact absTF|exact absFT)|exact True.intro|intro _|refine And.intro ?_ ?_|refine Fin.mk ?_|refine W1 rfl ?_ ?_|refine W2 rfl ?_ ?_|refine W3 rfl ?_ ?_|refine W4 ?_ ?_|refine W5 rfl ?_ ?_|refine W6 ?_ ?_|refine AppN.mk ?_|refine X1 (W1 rfl ?_ ?_)|refine X1 (W2 rfl ?_ ?_)|refine X2 (W7 rfl ?_ ?_)|refine X3 (W7 rfl ?_ ?_)|refine X4 (W7 rfl ?_ ?_)|refine X5 (W7 rfl ?_ ?_))
   all_goals (try (conv => whnf))
   all_goals (try first|exact obA|refine Ob.mk ?_)
   all_goals (simp only [decide_eq_true_eq, decide_eq_false_iff_not, bne_eq_false_iff_eq, bne_iff_ne, ne_eq, Bool.not_eq_true', Bool.not_eq_false', Bool.and_true] at *)
   ·rename_i h
    refine eqB_false fun e => h ?_
    simp only [Prod.mk.injEq] at e
    rw [e.2.2.2.2.2.2]
   ·rename_i h
    have hil : i < kids.length := by omega
    refine Rnd.mk ⟨i + 1, ?_, ?_, ?_⟩
    ·exact ⟨by omega, take_eq_snoc (d := intTy.dflt) hil (by omega) ha h⟩
    ·omega
    ·all_goals exact vcA
   ·have hk : i = kids.length := by omega
    subst hk
    rw [List.take_length, List.take_of_length_le (by omega)] at ha
    subst ha
    by_cases he : at_ = at_'
    ·subst he; rw [decide_eq_true rfl]; exact eqB_true rfl
    ·rw [decide_eq_false he]; refine eqB_false fun e => he ?_
     simp only [Prod.mk.injEq] at e
     exact e.2.2.2.1
end Go.Vc

namespace Go.Vc
open Go.Proofs
set_option maxRecDepth 10000
def wSelect : List UInt8 := [115, 101, 108, 101, 99, 116]
def wTd : List UInt8 := [116, 100]
def wTh : List UInt8 := [116, 104]
def wTr : List UInt8 := [116, 114]
def wTbody : List UInt8 := [116, 98, 111, 100, 121]
def wTfoot : List UInt8 := [116, 102, 111, 111, 116]
def wThead : List UInt8 := [116, 104, 101, 97, 100]
def wCaption : List UInt8 := [99, 97, 112, 116, 105, 111, 110]
def wColgroup : List UInt8 := [99, 111, 108, 103, 114, 111, 117, 112]
def wTable : List UInt8 := [116, 97, 98, 108, 101]
def wHead : List UInt8 := [104, 101, 97, 100]
def wBody : List UInt8 := [98, 111, 100, 121]
def wHtml : List UInt8 := [104, 116, 109, 108]
def toldL (nm : List UInt8) (hd : Int) : Int × Bool :=
 bif nm == wSelect then (13, true) else bif nm == wTd || nm == wTh then (12, false) else bif nm == wTr then (11, true)
 else bif nm == wTbody || (nm == wTfoot || nm == wThead) then (10, true) else bif nm == wCaption then (8, true) else bif nm == wColgroup then (9, true)
 else bif nm == wTable then (7, true) else bif nm == wHead then (3, false) else bif nm == wBody then (5, true)
 else bif nm == wHtml then (bif hd == 0 then (2, true) else (4, true)) else (0, false)
set_option maxHeartbeats 4000000
instance u99 (t : List NodeD) (op : List Int) (nm : List UInt8) (at_ md bk lx fm hd : Int) (fo sk last : Bool) (ins : List UInt8) :
  FnM BB 75 [.loc 0 0, .str nm, .int .i64 at_, .bool last]
   [(0, .box [.own 1, .own 2, .nils, .int .i64 md, .int .i64 bk, .int .i64 lx, .int .i64 fm, .int .i64 hd, .bool fo, .bool sk, .str ins]), (1, .own nodeTy t), (2, .own intTy op)] (last = true)
   (.tup [.int .i64 (toldL nm hd).1, .bool (toldL nm hd).2])
   [(0, .box [.own 1, .own 2, .nils, .int .i64 md, .int .i64 bk, .int .i64 lx, .int .i64 fm, .int .i64 hd, .bool fo, .bool sk, .str ins]), (1, .own nodeTy t), (2, .own intTy op)] := by
 refine FnM.intro (N := 47) [0, 1, 2, 3, 8, 9, 10, 11, 13, 17, 22, 24, 28, 30, 32, 34, 38, 40, 46] [] 3 Tryz.call75 Tryz.func75 rfl rfl (by kernel_rfl) (fun hpre => ?_)
 subst hpre
 repeat' ((conv => whnf);first|(with_reducible first|rfl|exact absTF|exact absFT)|exact True.intro|intro _|refine And.intro ?_ ?_|refine Fin.mk ?_|refine W1 rfl ?_ ?_|refine W2 rfl ?_ ?_|refine W3 rfl ?_ ?_|refine W4 ?_ ?_|refine W5 rfl ?_ ?_|refine W6 ?_ ?_|refine AppN.mk ?_|refine X1 (W1 rfl ?_ ?_)|refine X1 (W2 rfl ?_ ?_)|refine X2 (W7 rfl ?_ ?_)|refine X3 (W7 rfl ?_ ?_)|refine X4 (W7 rfl ?_ ?_)|refine X5 (W7 rfl ?_ ?_))
 all_goals (try (conv => whnf))
 all_goals (try first|exact obA|refine Ob.mk ?_)
 all_goals (unfold toldL wSelect wTd wTh wTr wTbody wTfoot wThead wCaption wColgroup wTable wHead wBody wHtml)
 all_goals (simp_all [Bool.cond_eq_ite]; done)
end Go.Vc

namespace Go.Vc
open Go.Proofs
set_option maxRecDepth 10000
theorem ext_getD {l l' : List NodeD} (h1 : l.length = l'.length) (h2 : ∀ k, k < l.length → l.getD k nodeTy.dflt = l'.getD k nodeTy.dflt) : l = l' := by
 refine List.ext_getElem h1 fun k q1 q2 => ?_
 have := h2 k q1
 simpa [List.getD, List.getElem?_eq_getElem q1, List.getElem?_eq_getElem q2] using this
theorem set_getD {l : List NodeD} {k : Nat} : l.set k (l.getD k nodeTy.dflt) = l := by
 refine ext_getD (by simp) fun j hj => ?_
 rw [getD_set]; split
 ·rename_i h; rw [h.1]
 ·rfl
theorem setUp_self {n : NodeD} {u : Int} (h : n.up = u) : setUp n u = n := by
 obtain ⟨a, b, c, d, e, f, g⟩ := n
 have h : f = u := h
 subst h; rfl
theorem nd_set {l : List NodeD} {k : Nat} {n : NodeD} {i : Int} (hi : 0 ≤ i) : nd (l.set k n) i = if (k : Int) = i ∧ k < l.length then n else nd l i := by
 have e : (k = i.toNat ∧ k < l.length) ↔ ((k : Int) = i ∧ k < l.length) := by omega
 rw [nd, getD_set]
 simp only [e]
theorem cut_none {l : List NodeD} {i : Int} (hu : (nd l i).up = -1) : cutT l i = l := by
 have hp : placeT l i = -1 := by
  have : isT l (nd l i).up = false := by rw [hu]; simp [isT]
  rw [placeT, this]; simp
 have ha : cutA l i = l := by rw [cutA, if_neg (by rw [hp]; omega)]
 rw [cutT]
 split
 ·rw [ha, setUp_self hu]; exact set_getD
 ·exact ha
end Go.Vc

namespace Go.Vc
open Go.Proofs
set_option maxRecDepth 10000
set_option maxHeartbeats 2000000
instance sf12 (md bk lx fm hd : Int) (fo sk : Bool) (ins : List UInt8) (l : List NodeD) (k s : Int) (nm : List UInt8) (at_ : List AttrD) (d : List UInt8) (up : Int) (kids : List Int) :
  FnM BB 34 [.loc 0 0, .agg [.int .i64 k, .int .i64 s, .str nm, .rd attrTy at_, .str d, .int .i64 up, .rd intTy kids]] [(0, .box [.own 1, .nils, .nils, .int .i64 md, .int .i64 bk, .int .i64 lx, .int .i64 fm, .int .i64 hd, .bool fo, .bool sk, .str ins]), (1, .own nodeTy l)] (l.length ≤ 100000 ∧ at_.length ≤ 100000)
   (.int .i64 l.length) [(0, .box [.own 1, .nils, .nils, .int .i64 md, .int .i64 bk, .int .i64 lx, .int .i64 fm, .int .i64 hd, .bool fo, .bool sk, .str ins]), (1, .own nodeTy (addT l (k, s, nm, at_, d, up, kids)))] := by
 refine FnM.intro (N := 32) [0, 1, 3, 4] [(1, [0, 0, 0, 0, 1, 0, 1, 0, 1, 0, 1, 0, 1, 1, 0, 1, 1, 1, 3, 0, 0, 3])] 2 Tryz.call34 Tryz.func34 rfl rfl (by kernel_rfl) (fun hpre => ?_)
 obtain ⟨hp1, hp2⟩ := hpre
 repeat' ((conv => whnf);first|(with_reducible first|rfl|exact absTF|exact absFT)|exact True.intro|intro _|refine And.intro ?_ ?_|refine Fin.mk ?_|refine W1 rfl ?_ ?_|refine W2 rfl ?_ ?_|refine W3 rfl ?_ ?_|refine W4 ?_ ?_|refine W5 rfl ?_ ?_|refine W6 ?_ ?_|refine AppN.mk ?_|refine X1 (W1 rfl ?_ ?_)|refine X1 (W2 rfl ?_ ?_)|refine X2 (W7 rfl ?_ ?_)|refine X3 (W7 rfl ?_ ?_)|refine X4 (W7 rfl ?_ ?_)|refine X5 (W7 rfl ?_ ?_))
 all_goals (try (conv => whnf))
 all_goals (try first|exact obA|refine Ob.mk ?_)
 ·simp
 ·rfl
instance sf15 (md bk lx fm hd : Int) (fo sk : Bool) (ins : List UInt8) (l : List NodeD) (kid : Int) : FnM BB 72 [.loc 0 0, .int .i64 kid] [(0, .box [.own 1, .nils, .nils, .int .i64 md, .int .i64 bk, .int .i64 lx, .int .i64 fm, .int .i64 hd, .bool fo, .bool sk, .str ins]), (1, .own nodeTy l)] (smallT l = true)
      (.tup []) [(0, .box [.own 1, .nils, .nils, .int .i64 md, .int .i64 bk, .int .i64 lx, .int .i64 fm, .int .i64 hd, .bool fo, .bool sk, .str ins]), (1, .own nodeTy (cutT l kid))] := by
  refine FnM.intro (N := 54) [0, 1, 4, 5, 12, 46] [(2, [0, 0, 0, 1, 0, 0, 0, 1, 0, 1, 1, 1, 3, 3])] 2 Tryz.call72 Tryz.func72 rfl rfl (by kernel_rfl) (fun hpre => ?_)
  have H : placeT l kid ≥ 0 → (0 ≤ kid ∧ kid < l.length) ∧ (0 ≤ (nd l kid).up ∧ (nd l kid).up < l.length) ∧ placeT l kid < (nd l (nd l kid).up).kids.length ∧ (nd l (nd l kid).up).kids.length ≤ 1000 := by
    intro h
    obtain ⟨h1, h2, h3⟩ := place_nonneg h
    exact ⟨isT_iff.1 h1, isT_iff.1 h2, h3, (small_at hpre _ h2).2⟩
  by_cases h0 : placeT l kid ≥ 0
  · obtain ⟨f1, f2, f3, f4⟩ := H h0
    clear H
    repeat' ((conv => whnf);first|(with_reducible first|rfl|exact absTF|exact absFT)|exact True.intro|intro _|refine And.intro ?_ ?_|refine Fin.mk ?_|refine W1 rfl ?_ ?_|refine W2 rfl ?_ ?_|refine W3 rfl ?_ ?_|refine W4 ?_ ?_|refine W5 rfl ?_ ?_|refine W6 ?_ ?_|refine AppN.mk ?_|refine X1 (W1 rfl ?_ ?_)|refine X1 (W2 rfl ?_ ?_)|refine X2 (W7 rfl ?_ ?_)|refine X3 (W7 rfl ?_ ?_)|refine X4 (W7 rfl ?_ ?_)|refine X5 (W7 rfl ?_ ?_))
    all_goals (try (conv => whnf))
    all_goals (try first|exact obA|refine Ob.mk ?_)
    all_goals (first
      | (show (nd l kid).up.toNat < _; omega)
      | exact Nat.le_trans f4 (by omega)
      | (show 0 ≤ placeT l kid ∧ _; refine ⟨h0, by omega, ?_⟩; show placeT l kid + 1 ≤ ((nd l (nd l kid).up).kids.length : Int); omega)
      | exact isT_iff.1 ((Bool.and_eq_true_iff.1 ‹(_ && _) = true›).2)
      | skip)
    · rename_i h
      have h := Bool.and_eq_true_iff.1 h
      have h2 : isT (cutA l kid) kid = true := by rw [cutA, if_pos h0]; exact h.2
      have h3 : isT l kid = true := by have := h.2; rw [isT_set] at this; exact this
      rw [cutT, if_pos ⟨by simpa using h.1, h3⟩, cutA, if_pos h0]
      rfl
    · rename_i h
      have h1 : ¬ (kid ≠ 0 ∧ isT l kid = true) := fun hc => by
        rw [isT_set] at h
        simp [hc.1, hc.2] at h
      rw [cutT, if_neg h1, cutA, if_pos h0]
      rfl
    all_goals (exfalso; have := of_decide_eq_false ‹decide (placeT l kid ≥ 0) = false›; exact this h0)
  · have h1 : decide (placeT l kid ≥ 0) = false := decide_eq_false h0
    clear H
    repeat' ((conv => whnf);first|(with_reducible first|rfl|exact absTF|exact absFT)|exact True.intro|intro _|refine And.intro ?_ ?_|refine Fin.mk ?_|refine W1 rfl ?_ ?_|refine W2 rfl ?_ ?_|refine W3 rfl ?_ ?_|refine W4 ?_ ?_|refine W5 rfl ?_ ?_|refine W6 ?_ ?_|refine AppN.mk ?_|refine X1 (W1 rfl ?_ ?_)|refine X1 (W2 rfl ?_ ?_)|refine X2 (W7 rfl ?_ ?_)|refine X3 (W7 rfl ?_ ?_)|refine X4 (W7 rfl ?_ ?_)|refine X5 (W7 rfl ?_ ?_))
    all_goals (try (conv => whnf))
    all_goals (try first|exact obA|refine Ob.mk ?_)
    all_goals (first
      | (exfalso; exact h0 (of_decide_eq_true ‹decide (placeT l kid ≥ 0) = true›))
      | exact isT_iff.1 ((Bool.and_eq_true_iff.1 ‹(_ && _) = true›).2)
      | (have hh := isT_iff.1 ((Bool.and_eq_true_iff.1 ‹(kid != 0 && isT l kid) = true›).2); omega)
      | skip)
    · rename_i h
      have h := Bool.and_eq_true_iff.1 h
      rw [cutT, if_pos ⟨by simpa using h.1, h.2⟩, cutA, if_neg h0]
      rfl
    · rename_i h
      have h1 : ¬ (kid ≠ 0 ∧ isT l kid = true) := fun hc => by
        simp [hc.1, hc.2] at h
      rw [cutT, if_neg h1, cutA, if_neg h0]
instance sf13 (md bk lx fm hd : Int) (fo sk : Bool) (ins : List UInt8) (l : List NodeD) (up at_ kid : Int) : FnM BB 35 [.loc 0 0, .int .i64 up, .int .i64 at_, .int .i64 kid] [(0, .box [.own 1, .nils, .nils, .int .i64 md, .int .i64 bk, .int .i64 lx, .int .i64 fm, .int .i64 hd, .bool fo, .bool sk, .str ins]), (1, .own nodeTy l)] (smallT l = true)
      (.tup []) [(0, .box [.own 1, .nils, .nils, .int .i64 md, .int .i64 bk, .int .i64 lx, .int .i64 fm, .int .i64 hd, .bool fo, .bool sk, .str ins]), (1, .own nodeTy (putT l up at_ kid))] := by
  refine FnM.intro (N := 71) [0, 1, 2, 3, 8, 34] [(3, [0, 0, 0, 0, 1, 2, 0, 1, 0, 0, 0, 1, 1, 1, 0, 2, 3, 0, 0, 3])] 2 Tryz.call35 Tryz.func35 rfl rfl (by kernel_rfl) (fun hpre => ?_)
  have hsm := cutT_sm (kid := kid) (smB_of hpre)
  have hll := small_len hpre
  have hu : (!isT l up || !isT l kid || kid == 0 || holdsT l kid up) = false → (0 ≤ up ∧ up < (cutT l kid).length) ∧ (0 ≤ kid ∧ kid < (cutT l kid).length) ∧ ((cutT l kid).getD up.toNat nodeTy.dflt).2.2.2.2.2.2.length ≤ 1000 := by
    intro h
    simp only [Bool.or_eq_false_iff, Bool.not_eq_false'] at h
    have h1 := isT_iff.1 h.1.1.1
    have h2 := isT_iff.1 h.1.1.2
    rw [cutT_len]
    exact ⟨h1, h2, (hsm.2 up.toNat (by rw [cutT_len]; omega)).2⟩
  repeat' ((conv => whnf);first|(with_reducible first|rfl|exact absTF|exact absFT)|exact True.intro|intro _|refine And.intro ?_ ?_|refine Fin.mk ?_|refine W1 rfl ?_ ?_|refine W2 rfl ?_ ?_|refine W3 rfl ?_ ?_|refine W4 ?_ ?_|refine W5 rfl ?_ ?_|refine W6 ?_ ?_|refine AppN.mk ?_|refine X1 (W1 rfl ?_ ?_)|refine X1 (W2 rfl ?_ ?_)|refine X2 (W7 rfl ?_ ?_)|refine X3 (W7 rfl ?_ ?_)|refine X4 (W7 rfl ?_ ?_)|refine X5 (W7 rfl ?_ ?_))
  all_goals (try (conv => whnf))
  all_goals (try first|exact obA|refine Ob.mk ?_)
  all_goals (first
    | omega
    | (rename_i h; obtain ⟨g1, g2, g3⟩ := hu h; first
        | exact g1
        | exact g2
        | omega
        | exact Nat.le_trans g3 (by omega)
        | (rw [List.length_set]; first | exact g2 | omega)
        | (refine ⟨?_, ?_, Nat.le_trans g3 (by omega)⟩ <;> rw [min_of] <;> omega))
    | skip)
  · rename_i h; rw [putT, if_pos h]
  · rename_i h
    rw [putT, if_neg (by rw [h]; exact Bool.false_ne_true)]
    rfl
end Go.Vc

namespace Go.Vc
open Go.Proofs
set_option maxRecDepth 10000
set_option maxHeartbeats 2000000
def modeL (ins : List UInt8) (hd : Int) : Int := bif (toldL ins hd).2 then (toldL ins hd).1 else 5
instance u43 (t : List NodeD) (x : Int) (md bk lx fm hd : Int) (fo sk : Bool) (ins : List UInt8) :
  FnM BB 37 [.loc 0 0]
   [(0, .box [.own 1, .own 2, .nils, .int .i64 md, .int .i64 bk, .int .i64 lx, .int .i64 fm, .int .i64 hd, .bool fo, .bool sk, .str ins]), (1, .own nodeTy t), (2, .own intTy [x])] ((0 ≤ x ∧ x < t.length) ∧ ins ≠ [])
   (.tup [])
   [(0, .box [.own 1, .own 2, .nils, .int .i64 (modeL ins hd), .int .i64 bk, .int .i64 lx, .int .i64 fm, .int .i64 hd, .bool fo, .bool sk, .str ins]), (1, .own nodeTy t), (2, .own intTy [x])] := by
 refine FnM.intro (N := 66) [0, 2, 3, 4, 5, 6, 14, 40, 48, 58] [(3, [0, 0, 0, 0, 0, 0, 0, 0, 0, 0, 0, 0, 0, 0, 6, 6])] 3 Tryz.call37 Tryz.func37 rfl rfl (by kernel_rfl) (fun hpre => ?_)
 obtain ⟨hp1, hp2⟩ := hpre
 have hne : (ins == []) = false := beq_eq_false_iff_ne.2 hp2
 repeat' ((conv => whnf);first|(with_reducible first|rfl|exact absTF|exact absFT)|exact True.intro|intro _|refine And.intro ?_ ?_|refine Fin.mk ?_|refine W1 rfl ?_ ?_|refine W2 rfl ?_ ?_|refine W3 rfl ?_ ?_|refine W4 ?_ ?_|refine W5 rfl ?_ ?_|refine W6 ?_ ?_|refine AppN.mk ?_|refine X1 (W1 rfl ?_ ?_)|refine X1 (W2 rfl ?_ ?_)|refine X2 (W7 rfl ?_ ?_)|refine X3 (W7 rfl ?_ ?_)|refine X4 (W7 rfl ?_ ?_)|refine X5 (W7 rfl ?_ ?_))
 all_goals (try (conv => whnf))
 all_goals (try first|exact obA|refine Ob.mk ?_)
 refine LoopStop.mk (α := Nat) (fun k => [(2, .int .i64 (0 - (k : Int)))]) (fun _ => []) 60 (fun k => k ≤ 1 ∧ (k = 1 → (toldL ins hd).2 = false)) (fun k => 1 - k) 0 (by simp) ?_ (fun k hk => ?_)
 ·all_goals exact vcA
 ·obtain ⟨hk, h1⟩ := hk
  obtain rfl | rfl : k = 0 ∨ k = 1 := by omega
  ·have hlast : ((0 : Int) - ((0 : Nat) : Int) == 0 && !ins == []) = true := by rw [hne]; rfl
   repeat' ((conv => whnf);first|(with_reducible first|rfl|exact absTF|exact absFT)|exact True.intro|intro _|refine And.intro ?_ ?_|refine Fin.mk ?_|refine W1 rfl ?_ ?_|refine W2 rfl ?_ ?_|refine W3 rfl ?_ ?_|refine W4 ?_ ?_|refine W5 rfl ?_ ?_|refine W6 ?_ ?_|refine AppN.mk ?_|refine X1 (W1 rfl ?_ ?_)|refine X1 (W2 rfl ?_ ?_)|refine X2 (W7 rfl ?_ ?_)|refine X3 (W7 rfl ?_ ?_)|refine X4 (W7 rfl ?_ ?_)|refine X5 (W7 rfl ?_ ?_))
   all_goals (try (conv => whnf))
   all_goals (try first|exact obA|refine Ob.mk ?_)
   all_goals (try (exact ⟨by decide, by decide⟩))
   all_goals (try (exact hlast))
   all_goals (try (exfalso; rename_i h; revert h; decide))
   all_goals (try (exfalso; have h : ((0 : Int) - ((0 : Nat) : Int) == 0 && !ins == []) = false := ‹_›; rw [hlast] at h; cases h))
   all_goals (try (exact hp1))
   all_goals (try (exact ⟨by decide, by simp⟩))
   ·rename_i h
    rw [modeL, h]; rfl
   ·rename_i h
    refine Rnd.mk ⟨1, ⟨by omega, fun _ => h⟩, by omega, ?_, ?_, ?_⟩
    all_goals exact vcA
  ·repeat' ((conv => whnf);first|(with_reducible first|rfl|exact absTF|exact absFT)|exact True.intro|intro _|refine And.intro ?_ ?_|refine Fin.mk ?_|refine W1 rfl ?_ ?_|refine W2 rfl ?_ ?_|refine W3 rfl ?_ ?_|refine W4 ?_ ?_|refine W5 rfl ?_ ?_|refine W6 ?_ ?_|refine AppN.mk ?_|refine X1 (W1 rfl ?_ ?_)|refine X1 (W2 rfl ?_ ?_)|refine X2 (W7 rfl ?_ ?_)|refine X3 (W7 rfl ?_ ?_)|refine X4 (W7 rfl ?_ ?_)|refine X5 (W7 rfl ?_ ?_))
   all_goals (try (conv => whnf))
   all_goals (try first|exact obA|refine Ob.mk ?_)
   all_goals (try (exfalso; have h : decide ((0 : Int) - ((1 : Nat) : Int) ≥ 0) = true := ‹_›; revert h; decide))
   all_goals (rw [modeL, h1 rfl]; rfl)
end Go.Vc

namespace Go.Vc
open Go.Proofs
set_option maxRecDepth 10000
set_option maxHeartbeats 2000000
instance sf12n (md bk lx fm hd : Int) (fo sk : Bool) (ins : List UInt8) (l : List NodeD) (k s : Int) (nm : List UInt8) (d : List UInt8) (up : Int) :
  FnM BB 34 [.loc 0 0, .agg [.int .i64 k, .int .i64 s, .str nm, .nils, .str d, .int .i64 up, .nils]] [(0, .box [.own 1, .nils, .nils, .int .i64 md, .int .i64 bk, .int .i64 lx, .int .i64 fm, .int .i64 hd, .bool fo, .bool sk, .str ins]), (1, .own nodeTy l)] (l.length ≤ 100000 ∧ ([] : List AttrD).length ≤ 100000)
   (.int .i64 l.length) [(0, .box [.own 1, .nils, .nils, .int .i64 md, .int .i64 bk, .int .i64 lx, .int .i64 fm, .int .i64 hd, .bool fo, .bool sk, .str ins]), (1, .own nodeTy (addT l (k, s, nm, [], d, up, [])))] :=
 FnM.wk (sf12 md bk lx fm hd fo sk ins l k s nm [] d up []) fun r β vs h => by
  refine ⟨h.1, fun i sv v h1 h2 => ?_⟩
  match i, h1 with
  | 0, h1 => cases h1; exact h.2 0 _ v rfl h2
  | 1, h1 =>
   cases h1
   obtain ⟨cs, rfl, hc⟩ := (h.2 1 _ v rfl h2).aggL_inv
   refine .aggL ⟨hc.1, fun j sv u q1 q2 => ?_⟩
   match j, q1 with
   | 0, q1 => cases q1; exact hc.2 0 _ u rfl q2
   | 1, q1 => cases q1; exact hc.2 1 _ u rfl q2
   | 2, q1 => cases q1; exact hc.2 2 _ u rfl q2
   | 3, q1 => cases q1; exact nils_rd (hc.2 3 _ u rfl q2)
   | 4, q1 => cases q1; exact hc.2 4 _ u rfl q2
   | 5, q1 => cases q1; exact hc.2 5 _ u rfl q2
   | 6, q1 => cases q1; exact nils_rd (hc.2 6 _ u rfl q2)
def htmlN : NodeD := ((1 : Int), (0 : Int), wHtml, ([] : List AttrD), ([] : List UInt8), (0 : Int), ([] : List Int))
def newT : List NodeD := putT (addT [rootN] htmlN) 0 0 1
theorem newT_sm : smallT (addT [rootN] htmlN) = true := by decide
instance u41 (ins : List UInt8) :
  FnM BB 8 [.str ins] [] (ins ≠ [] ∧ ins.length ≤ 60) (.loc 0 0)
   [(0, .box [.own 1, .own 2, .nils, .int .i64 (modeL ins 0), .int .i64 0, .int .i64 (W.kLexed ins), .int .i64 0, .int .i64 0, .bool false, .bool false, .str ins]), (1, .own nodeTy newT), (2, .own intTy [1])] := by
 refine FnM.intro (N := 40) [0, 2, 3, 4, 10] [] 3 Tryz.call8 Tryz.func8 rfl rfl (by kernel_rfl) (fun hpre => ?_)
 obtain ⟨hp1, hp2⟩ := hpre
 repeat' ((conv => whnf);first|(with_reducible first|rfl|exact absTF|exact absFT)|exact True.intro|intro _|refine And.intro ?_ ?_|refine Fin.mk ?_|refine W1 rfl ?_ ?_|refine W2 rfl ?_ ?_|refine W3 rfl ?_ ?_|refine W4 ?_ ?_|refine W5 rfl ?_ ?_|refine W6 ?_ ?_|refine AppN.mk ?_|refine X1 (W1 rfl ?_ ?_)|refine X1 (W2 rfl ?_ ?_)|refine X2 (W7 rfl ?_ ?_)|refine X3 (W7 rfl ?_ ?_)|refine X4 (W7 rfl ?_ ?_)|refine X5 (W7 rfl ?_ ?_))
 all_goals (try (conv => whnf))
 all_goals (try first|exact obA|refine Ob.mk ?_)
 all_goals (try (exfalso; exact hp1 (by simpa using ‹(ins == []) = true›)))
 all_goals (try (exact newT_sm))
 all_goals (try rfl)
 all_goals (try (exact ⟨by decide, by decide⟩))
 all_goals (try (exact ⟨⟨by decide, by decide⟩, hp1⟩))
 all_goals trace_state
end Go.Vc

namespace Go.Vc
open Go.Proofs
set_option maxRecDepth 10000
set_option maxHeartbeats 4000000
theorem take_one (l : List Int) (i : Nat) (h : i < l.length) : l.take (i + 1) = l.take i ++ [l.getD i 0] := by
 rw [List.take_succ_eq_append_getElem h]; simp [List.getD, List.getElem?_eq_getElem h]
def delA (l : List Int) (a i : Nat) : List Int := (l.take a).take i ++ (l.take i).drop (a + 1)
theorem delA_step (l : List Int) (a i : Nat) (h : i < l.length) (ha : a ≤ l.length) : delA l a (i + 1) = if i = a then delA l a i else delA l a i ++ [l.getD i 0] := by
 unfold delA
 rcases Nat.lt_trichotomy i a with q | q | q
 ·rw [if_neg (by omega), List.take_take, List.take_take, Nat.min_eq_left (by omega), Nat.min_eq_left (by omega), List.drop_eq_nil_of_le (by rw [List.length_take]; omega), List.drop_eq_nil_of_le (by rw [List.length_take]; omega), List.append_nil, List.append_nil]
  exact take_one l i h
 ·subst q
  rw [if_pos rfl, List.take_take, List.take_take, Nat.min_eq_right (by omega), Nat.min_self, List.drop_eq_nil_of_le (by rw [List.length_take]; omega), List.drop_eq_nil_of_le (by rw [List.length_take]; omega)]
 ·rw [if_neg (by omega), List.take_take, List.take_take, Nat.min_eq_right (by omega), Nat.min_eq_right (by omega), take_one l i h, List.drop_append_of_le_length (by rw [List.length_take]; omega), List.append_assoc]
theorem delA_end (l : List Int) (a : Nat) (h : a ≤ l.length) : delA l a l.length = l.take a ++ l.drop (a + 1) := by
 unfold delA
 rw [List.take_take, List.take_length, Nat.min_eq_right h]
theorem delA_len (l : List Int) (a i : Nat) : (delA l a i).length ≤ i + i := by
 unfold delA; simp only [List.length_append, List.length_take, List.length_drop]; omega
def insA (l : List Int) (a : Nat) (n : Int) (i : Nat) : List Int := (l.take a).take i ++ ((if a < i then [n] else []) ++ (l.take i).drop a)
theorem insA_step (l : List Int) (a : Nat) (n : Int) (i : Nat) (h : i ≤ l.length) (ha : a ≤ l.length) : insA l a n (i + 1) = (if i = a then insA l a n i ++ [n] else insA l a n i) ++ (if i < l.length then [l.getD i 0] else []) := by
 unfold insA
 rcases Nat.lt_trichotomy i a with q | q | q
 ·rw [if_neg (show ¬ a < i + 1 by omega), if_neg (show ¬ a < i by omega), if_neg (show ¬ i = a by omega), if_pos (by omega), List.take_take, List.take_take, Nat.min_eq_left (by omega), Nat.min_eq_left (by omega), List.drop_eq_nil_of_le (by rw [List.length_take]; omega), List.drop_eq_nil_of_le (by rw [List.length_take]; omega)]
  simp only [List.append_nil]
  exact take_one l i (by omega)
 ·subst q
  have hdr : (l.take i).drop i = [] := List.drop_eq_nil_of_le (by rw [List.length_take]; omega)
  rw [if_pos (show i < i + 1 by omega), if_neg (show ¬ i < i by omega), if_pos rfl, List.take_take, List.take_take, Nat.min_eq_right (by omega), Nat.min_self, hdr]
  simp only [List.append_nil, List.append_assoc]
  congr 2
  by_cases hl : i < l.length
  ·rw [if_pos hl, take_one l i hl, List.drop_append_of_le_length (by rw [List.length_take]; omega), List.drop_eq_nil_of_le (by rw [List.length_take]; omega)]; rfl
  ·rw [if_neg hl, List.drop_eq_nil_of_le (by rw [List.length_take]; omega)]
 ·rw [if_pos (show a < i + 1 by omega), if_pos (show a < i by omega), if_neg (show ¬ i = a by omega), List.take_take, List.take_take, Nat.min_eq_right (by omega), Nat.min_eq_right (by omega)]
  by_cases hl : i < l.length
  ·rw [if_pos hl, take_one l i hl, List.drop_append_of_le_length (by rw [List.length_take]; omega)]
   simp only [List.append_assoc]
  ·rw [if_neg hl, List.append_nil, List.take_of_length_le (l := l) (i := i + 1) (by omega), List.take_of_length_le (l := l) (i := i) (by omega)]
theorem insA_end (l : List Int) (a : Nat) (n : Int) (h : a ≤ l.length) : insA l a n (l.length + 1) = l.take a ++ n :: l.drop a := by
 unfold insA
 rw [if_pos (by omega), List.take_take, List.take_of_length_le (l := l) (i := l.length + 1) (by omega), Nat.min_eq_right (by omega)]
 rfl
theorem insA_len (l : List Int) (a : Nat) (n : Int) (i : Nat) : (insA l a n i).length ≤ i + 1 + i := by
 unfold insA; simp only [List.length_append, List.length_take, List.length_drop]; split <;> simp <;> omega
instance hPlace (l : List NodeD) (kid : Int) : Fn BB 105 [.agg [.rd nodeTy l], .int .i64 kid] True (.int .i64 (placeT l kid)) := by
 refine Fn.intro (N := 46) [0, 1, 2, 4, 5, 6, 21, 36, 44] [(1, [1, 0, 1, 1, 1, 1, 1, 1, 1, 1, 1, 1, 3, 3, 3]), (3, [0, 1, 0, 1, 0, 1, 1, 1, 3, 3, 3, 3])] Tryz.call105 Tryz.func105 rfl rfl (by kernel_rfl) (fun hpre => ?_)
 have p0 : (!isT l kid || !isT l (nd l kid).up) = true → (-1 : Int) = placeT l kid := fun h => by
  have h := not_or_true h
  unfold placeT; rw [h]; rfl
 have p1 : (!isT l kid || !isT l (nd l kid).up) = false → (0 ≤ kid ∧ kid < l.length) ∧ (0 ≤ (nd l kid).up ∧ (nd l kid).up < l.length) ∧ placeT l kid = ixOf (nd l (nd l kid).up).kids kid := fun h => by
  obtain ⟨h1, h2⟩ := not_or_false h
  refine ⟨isT_iff.1 h1, isT_iff.1 h2, ?_⟩
  unfold placeT; rw [h1, h2]; rfl
 repeat' ((conv => whnf);first|(with_reducible first|rfl|exact absTF|exact absFT)|exact True.intro|intro _|refine And.intro ?_ ?_|refine Fin.mk ?_|refine W1 rfl ?_ ?_|refine W2 rfl ?_ ?_|refine W3 rfl ?_ ?_|refine W4 ?_ ?_|refine W5 rfl ?_ ?_|refine W6 ?_ ?_|refine AppN.mk ?_|refine X1 (W1 rfl ?_ ?_)|refine X1 (W2 rfl ?_ ?_)|refine X2 (W7 rfl ?_ ?_)|refine X3 (W7 rfl ?_ ?_)|refine X4 (W7 rfl ?_ ?_)|refine X5 (W7 rfl ?_ ?_))
 all_goals (try (conv => whnf))
 all_goals (try first|exact obA|refine Ob.mk ?_)
 all_goals (try (have q := p0 ‹(!isT l kid || !isT l (nd l kid).up) = true›))
 all_goals (try (have q := p1 ‹(!isT l kid || !isT l (nd l kid).up) = false›; obtain ⟨q1, q2, q3⟩ := q))
 all_goals (first | exact q | exact q1 | exact q2 | (exact isT_iff.1 (by simp_all; done)) | skip)
 generalize hks : (nd l (nd l kid).up).kids = ks at *
 have hks' : (l.getD (l.getD kid.toNat nodeTy.dflt).2.2.2.2.2.1.toNat nodeTy.dflt).2.2.2.2.2.2 = ks := hks
 try rw [hks']
 refine LoopStop.mk (α := Nat) (fun i => [(6, .int .i64 i)]) (fun _ => []) 20 (fun i => i ≤ ks.length ∧ (ks.take i).contains kid = false) (fun i => ks.length - i) 0 (by simp) ?_ (fun i hi => ?_)
 ·all_goals exact vcA
 ·obtain ⟨hi, ha⟩ := hi
  repeat' ((conv => whnf);first|(with_reducible first|rfl|exact absTF|exact absFT)|exact True.intro|intro _|refine And.intro ?_ ?_|refine Fin.mk ?_|refine W1 rfl ?_ ?_|refine W2 rfl ?_ ?_|refine W3 rfl ?_ ?_|refine W4 ?_ ?_|refine W5 rfl ?_ ?_|refine W6 ?_ ?_|refine AppN.mk ?_|refine X1 (W1 rfl ?_ ?_)|refine X1 (W2 rfl ?_ ?_)|refine X2 (W7 rfl ?_ ?_)|refine X3 (W7 rfl ?_ ?_)|refine X4 (W7 rfl ?_ ?_)|refine X5 (W7 rfl ?_ ?_))
  all_goals (try (conv => whnf))
  all_goals (try first|exact obA|refine Ob.mk ?_)
  all_goals (try (have b1 := of_decide_eq_true ‹decide ((i : Int) < (ks.length : Int)) = true›))
  all_goals (try (have b1 := of_decide_eq_false ‹decide ((i : Int) < (ks.length : Int)) = false›))
  all_goals (try simp only [Int.toNat_natCast] at *)
  ·rw [q3, ixOf_at (i := i) (by omega) ha (eq_of_beq (show (ks.getD i 0 == kid) = true from ‹_›)).symm]
  ·have h : (ks.getD i 0 == kid) = false := ‹_›
   refine Rnd.mk ⟨i + 1, ⟨by omega, by rw [take_has ks i kid (by omega), ha, h]; rfl⟩, by omega, ?_⟩
   repeat' ((conv => whnf);first|(with_reducible first|rfl|exact absTF|exact absFT)|exact True.intro|intro _|refine And.intro ?_ ?_|refine Fin.mk ?_|refine W1 rfl ?_ ?_|refine W2 rfl ?_ ?_|refine W3 rfl ?_ ?_|refine W4 ?_ ?_|refine W5 rfl ?_ ?_|refine W6 ?_ ?_|refine AppN.mk ?_|refine X1 (W1 rfl ?_ ?_)|refine X1 (W2 rfl ?_ ?_)|refine X2 (W7 rfl ?_ ?_)|refine X3 (W7 rfl ?_ ?_)|refine X4 (W7 rfl ?_ ?_)|refine X5 (W7 rfl ?_ ?_))
   all_goals (try (conv => whnf))
   all_goals (try first|exact obA|refine Ob.mk ?_)
   all_goals (first | rfl | omega | trace_state)
  ·obtain rfl : i = ks.length := by omega
   rw [q3, ixOf_none (by rw [List.take_length] at ha; exact ha)]
instance hWith (l : List Int) (at_ n : Int) : Fn BB 79 [.rd intTy l, .int .i64 at_, .int .i64 n] (0 ≤ at_ ∧ at_ ≤ l.length ∧ l.length ≤ 100000) (.rd intTy (l.take at_.toNat ++ n :: l.drop at_.toNat)) := by
 refine Fn.intro (N := 34) [0, 1, 2, 6, 7, 8, 12, 17, 25] [] Tryz.call79 Tryz.func79 rfl rfl (by kernel_rfl) (fun hpre => ?_)
 obtain ⟨p1, p2, p3⟩ := hpre
 obtain ⟨a, rfl⟩ := Int.eq_ofNat_of_zero_le p1
 have hen := insA_end l a n (by omega)
 rw [Int.toNat_natCast]
 repeat' ((conv => whnf);first|(with_reducible first|rfl|exact absTF|exact absFT)|exact True.intro|intro _|refine And.intro ?_ ?_|refine Fin.mk ?_|refine W1 rfl ?_ ?_|refine W2 rfl ?_ ?_|refine W3 rfl ?_ ?_|refine W4 ?_ ?_|refine W5 rfl ?_ ?_|refine W6 ?_ ?_|refine AppN.mk ?_|refine X1 (W1 rfl ?_ ?_)|refine X1 (W2 rfl ?_ ?_)|refine X2 (W7 rfl ?_ ?_)|refine X3 (W7 rfl ?_ ?_)|refine X4 (W7 rfl ?_ ?_)|refine X5 (W7 rfl ?_ ?_))
 all_goals (try (conv => whnf))
 all_goals (try first|exact obA|refine Ob.mk ?_)
 refine LoopStop.mk (α := Nat) (fun i => [(8, .int .i64 i), (7, .own 20)]) (fun i => [(20, .own intTy (insA l a n i))]) 30 (fun i => i ≤ l.length + 1) (fun i => l.length + 1 - i) 0 (by simp) ?_ (fun i hi => ?_)
 ·repeat' ((conv => whnf);first|(with_reducible first|rfl|exact absTF|exact absFT)|exact True.intro|intro _|refine And.intro ?_ ?_|refine Fin.mk ?_|refine W1 rfl ?_ ?_|refine W2 rfl ?_ ?_|refine W3 rfl ?_ ?_|refine W4 ?_ ?_|refine W5 rfl ?_ ?_|refine W6 ?_ ?_|refine AppN.mk ?_|refine X1 (W1 rfl ?_ ?_)|refine X1 (W2 rfl ?_ ?_)|refine X2 (W7 rfl ?_ ?_)|refine X3 (W7 rfl ?_ ?_)|refine X4 (W7 rfl ?_ ?_)|refine X5 (W7 rfl ?_ ?_))
  all_goals (try (conv => whnf))
  all_goals (try first|exact obA|refine Ob.mk ?_)
  all_goals (first | rfl | (simp [insA]; done) | trace_state)
 ·have hl := insA_len l a n i
  have hst := insA_step l a n i
  repeat' ((conv => whnf);first|(with_reducible first|rfl|exact absTF|exact absFT)|exact True.intro|intro _|refine And.intro ?_ ?_|refine Fin.mk ?_|refine W1 rfl ?_ ?_|refine W2 rfl ?_ ?_|refine W3 rfl ?_ ?_|refine W4 ?_ ?_|refine W5 rfl ?_ ?_|refine W6 ?_ ?_|refine AppN.mk ?_|refine X1 (W1 rfl ?_ ?_)|refine X1 (W2 rfl ?_ ?_)|refine X2 (W7 rfl ?_ ?_)|refine X3 (W7 rfl ?_ ?_)|refine X4 (W7 rfl ?_ ?_)|refine X5 (W7 rfl ?_ ?_))
  all_goals (try (conv => whnf))
  all_goals (try first|exact obA|refine Ob.mk ?_)
  all_goals (try (have b := of_decide_eq_true ‹decide ((i : Int) ≤ (l.length : Int)) = true›; have hs := hst (by omega) (by omega)))
  all_goals (try (have e1 : i = a := by (have h : ((i : Int) == (a : Int)) = true := ‹_›; have := eq_of_beq h; omega)))
  all_goals (try (have e1 : ¬ i = a := by (have h : ((i : Int) == (a : Int)) = false := ‹_›; rw [beq_eq_false_iff_ne] at h; omega)))
  all_goals (try (have b2 : i < l.length := by (have h := of_decide_eq_true ‹decide ((i : Int) < (l.length : Int)) = true›; omega)))
  all_goals (try (have b2 : ¬ i < l.length := by (have h := of_decide_eq_false ‹decide ((i : Int) < (l.length : Int)) = false›; omega)))
  all_goals (try rw [if_pos e1] at hs)
  all_goals (try rw [if_neg e1] at hs)
  all_goals (try rw [if_pos b2] at hs)
  all_goals (try rw [if_neg b2, List.append_nil] at hs)
  all_goals (try simp only [Int.toNat_natCast] at *)
  all_goals (try (refine Rnd.mk ⟨i + 1, by omega, by omega, ?_⟩))
  all_goals (first | omega | exact ⟨by omega, by omega⟩ | (show _ * 8 ≤ _ ∧ _ ≤ _; exact ⟨by simp only [List.length_append, List.length_cons, List.length_nil]; omega, by simp only [List.length_append, List.length_cons, List.length_nil]; omega⟩) | skip)
  all_goals (try (have b := of_decide_eq_false ‹decide ((i : Int) ≤ (l.length : Int)) = false›; rw [show i = l.length + 1 by omega, hen]))
  repeat' ((conv => whnf);first|(with_reducible first|rfl|exact absTF|exact absFT)|exact True.intro|intro _|refine And.intro ?_ ?_|refine Fin.mk ?_|refine W1 rfl ?_ ?_|refine W2 rfl ?_ ?_|refine W3 rfl ?_ ?_|refine W4 ?_ ?_|refine W5 rfl ?_ ?_|refine W6 ?_ ?_|refine AppN.mk ?_|refine X1 (W1 rfl ?_ ?_)|refine X1 (W2 rfl ?_ ?_)|refine X2 (W7 rfl ?_ ?_)|refine X3 (W7 rfl ?_ ?_)|refine X4 (W7 rfl ?_ ?_)|refine X5 (W7 rfl ?_ ?_))
  all_goals (try (conv => whnf))
  all_goals (try first|exact obA|refine Ob.mk ?_)
  all_goals (first | rfl | omega | (rw [hs]; done) | (rw [hs]; rfl) | trace_state)
theorem cutT_on {l : List NodeD} {kid : Int} (h : isT l kid = true ∧ kid ≠ 0) : cutT l kid = (cutA l kid).set kid.toNat (setUp (nd (cutA l kid) kid) (-1)) := by unfold cutT; rw [if_pos ⟨h.2, h.1⟩]
theorem cutT_off {l : List NodeD} {kid : Int} (h : ¬ (isT l kid = true ∧ kid ≠ 0)) : cutT l kid = cutA l kid := by unfold cutT; rw [if_neg (fun q => h ⟨q.2, q.1⟩)]
end Go.Vc

namespace Go.Vc
open Go.Proofs
set_option maxRecDepth 10000
set_option maxHeartbeats 4000000
theorem mm (a b : Int) (hb : 0 ≤ b) : (bif true then max 0 (bif false then max a b else min a b) else min 0 (bif false then max a b else min a b)) = min (max a 0) b := by
 show max 0 (min a b) = min (max a 0) b
 omega
end Go.Vc
