/- A part of the proof: lemmas and walks that the last text of the claim joins; no condition. -/
import Derived.Test.YtgihgphehpjjfaaTreeUpsTE
import Derived.Test.YtgihgphehpjjfaaTreeUpsVF
import Derived.Shelf.Spec.SlicesGrow
import Derived.Laws.AppendOwn
import Derived.Shelf.Vars
import Derived.Test.YtgihgphehpjjfaaRows
set_option linter.unusedVariables false
set_option linter.unusedSimpArgs false
set_option maxHeartbeats 8000000
namespace Go.Vc
open Go.Proofs
set_option maxRecDepth 10000
instance f39 (l : List Int) (i j : Int) : FnM BB 78 [.own 0, .int .i64 i, .int .i64 j] [(0, .own intTy l)] (0 ≤ i ∧ i ≤ j ∧ j ≤ l.length) (.own 0) [(0, .own intTy (l.take i.toNat ++ l.drop j.toNat))] :=
  fnm_delete (B := BB) Try.laysNm223 rfl Try.call78 l i j
instance f38 (l : List Int) (i x : Int) : FnM BB 82 [.own 0, .int .i64 i, .own 1] [(0, .own intTy l), (1, .own intTy [x])] (0 ≤ i ∧ i ≤ l.length ∧ l.length ≤ 100000) (.own 0) [(0, .own intTy (l.take i.toNat ++ x :: l.drop i.toNat)), (1, .own intTy [x])] :=
  fnm_insert (B := BB) Try.laysNm221 rfl Try.call82 l i x
def addT (l : List NodeD) (n : NodeD) : List NodeD := l ++ [(n.1, n.2.1, n.2.2.1, n.2.2.2.1, n.2.2.2.2.1, -1, [])]
instance f12 (l : List NodeD) (k s : Int) (nm : List UInt8) (at_ : List AttrD) (d : List UInt8) (up : Int) (kids : List Int) :
    FnM BB 41 [.loc 0 0, .agg [.int .i64 k, .int .i64 s, .str nm, .rd attrTy at_, .str d, .int .i64 up, .rd intTy kids]] [(0, .box [.own 1]), (1, .own nodeTy l)] (l.length ≤ 100000 ∧ at_.length ≤ 100000)
      (.int .i64 l.length) [(0, .box [.own 1]), (1, .own nodeTy (addT l (k, s, nm, at_, d, up, kids)))] := by
  refine FnM.intro (N := 32) [0, 1, 3, 4] [(1, [0, 0, 0, 0, 1, 0, 1, 0, 1, 0, 1, 0, 1, 1, 0, 1, 1, 1, 3, 0, 0, 3])] 2 Try.call41 Try.func41 rfl rfl (by kernel_rfl) (fun hpre => ?_)
  obtain ⟨hp1, hp2⟩ := hpre
  repeat' ((conv => whnf);first|(with_reducible first|rfl|exact absTF|exact absFT)|exact True.intro|intro _|refine And.intro ?_ ?_|refine Fin.mk ?_|refine W1 rfl ?_ ?_|refine W2 rfl ?_ ?_|refine W3 rfl ?_ ?_|refine W4 ?_ ?_|refine W5 rfl ?_ ?_|refine W6 ?_ ?_|refine AppN.mk ?_|refine X1 (W1 rfl ?_ ?_)|refine X1 (W2 rfl ?_ ?_)|refine X2 (W7 rfl ?_ ?_)|refine X3 (W7 rfl ?_ ?_)|refine X4 (W7 rfl ?_ ?_)|refine X5 (W7 rfl ?_ ?_))
  all_goals (try (conv => whnf))
  all_goals (try first|exact Ob.mk (u8_bnd _)|(refine Ob.mk ?_;first|exact True.intro|assumption|omega|(try simp only [ZA,ZB,ZC,ZD,ZE,ZF,ZG,ZH,ZI,ZJ,ZK,ZL,ZM,ZN,ZO,Int.toNat_natCast,UInt8.ofNat_toNat,cast_eq] at *;omega)))
  all_goals (try first|(show (_:Int) = _;omega)|(show tupSV _ = _;with_unfolding_all rfl)|((first|show (_:Nat) ≤ _|show (_:Nat) ≤ _ ∧ (_:Nat) ≤ _|show (_:Int) ≤ _ ∧ (_:Int) ≤ _ ∧ (_:Int) ≤ _ ∧ (_:Int) ≤ _);(simp <;> omega)))
  · simp
  · rfl
def setKids (n : NodeD) (k : List Int) : NodeD := (n.1, n.2.1, n.2.2.1, n.2.2.2.1, n.2.2.2.2.1, n.2.2.2.2.2.1, k)
def setUp (n : NodeD) (u : Int) : NodeD := (n.1, n.2.1, n.2.2.1, n.2.2.2.1, n.2.2.2.2.1, u, n.2.2.2.2.2.2)
def cutA (l : List NodeD) (kid : Int) : List NodeD :=
  if placeT l kid ≥ 0 then l.set (nd l kid).up.toNat (setKids (nd l (nd l kid).up) ((nd l (nd l kid).up).kids.take (placeT l kid).toNat ++ (nd l (nd l kid).up).kids.drop (placeT l kid + 1).toNat)) else l
def cutT (l : List NodeD) (kid : Int) : List NodeD :=
  if kid ≠ 0 ∧ isT l kid = true then (cutA l kid).set kid.toNat (setUp (nd (cutA l kid) kid) (-1)) else cutA l kid
theorem isT_set {l : List NodeD} {i : Nat} {n : NodeD} {k : Int} : isT (l.set i n) k = isT l k := by simp [isT]
theorem ix_lt {l : List Int} {w : Int} (h : ixOf l w ≥ 0) : ixOf l w < l.length := by
  unfold ixOf at h ⊢
  split at h
  · rename_i hc
    rw [if_pos hc]
    have := List.idxOf_lt_length_of_mem (a := w) (l := l) (by simpa using hc)
    omega
  · omega
theorem place_nonneg {l : List NodeD} {kid : Int} (h : placeT l kid ≥ 0) : isT l kid = true ∧ isT l (nd l kid).up = true ∧ placeT l kid < (nd l (nd l kid).up).kids.length := by
  unfold placeT at h ⊢
  split at h
  · rename_i hc
    rw [if_pos hc]
    simp only [Bool.and_eq_true] at hc
    exact ⟨hc.1, hc.2, ix_lt h⟩
  · omega
theorem small_at {l : List NodeD} (h : smallT l = true) (i : Int) (hi : isT l i = true) : (nd l i).2.2.2.1.length ≤ 1000 ∧ (nd l i).kids.length ≤ 1000 := by
  simp only [smallT, Bool.and_eq_true, List.all_eq_true, decide_eq_true_eq] at h
  obtain ⟨h1, h2⟩ := isT_iff.1 hi
  refine h.2 (nd l i) ?_
  have : i.toNat < l.length := by omega
  simp [nd, List.getD, List.getElem?_eq_getElem this]
theorem small_len {l : List NodeD} (h : smallT l = true) : l.length ≤ 1000 := by
  simp only [smallT, Bool.and_eq_true, decide_eq_true_eq] at h
  exact h.1
instance f15 (l : List NodeD) (kid : Int) : FnM BB 43 [.loc 0 0, .int .i64 kid] [(0, .box [.own 1]), (1, .own nodeTy l)] (smallT l = true)
      (.tup []) [(0, .box [.own 1]), (1, .own nodeTy (cutT l kid))] := by
  refine FnM.intro (N := 54) [0, 1, 4, 5, 12, 46] [(2, [0, 0, 0, 1, 0, 0, 0, 1, 0, 1, 1, 1, 3, 3])] 2 Try.call43 Try.func43 rfl rfl (by kernel_rfl) (fun hpre => ?_)
  have H : placeT l kid ≥ 0 → (0 ≤ kid ∧ kid < l.length) ∧ (0 ≤ (nd l kid).up ∧ (nd l kid).up < l.length) ∧ placeT l kid < (nd l (nd l kid).up).kids.length ∧ (nd l (nd l kid).up).kids.length ≤ 1000 := by
    intro h
    obtain ⟨h1, h2, h3⟩ := place_nonneg h
    exact ⟨isT_iff.1 h1, isT_iff.1 h2, h3, (small_at hpre _ h2).2⟩
  by_cases h0 : placeT l kid ≥ 0
  · obtain ⟨f1, f2, f3, f4⟩ := H h0
    clear H
    repeat' ((conv => whnf);first|(with_reducible first|rfl|exact absTF|exact absFT)|exact True.intro|intro _|refine And.intro ?_ ?_|refine Fin.mk ?_|refine W1 rfl ?_ ?_|refine W2 rfl ?_ ?_|refine W3 rfl ?_ ?_|refine W4 ?_ ?_|refine W5 rfl ?_ ?_|refine W6 ?_ ?_|refine AppN.mk ?_|refine X1 (W1 rfl ?_ ?_)|refine X1 (W2 rfl ?_ ?_)|refine X2 (W7 rfl ?_ ?_)|refine X3 (W7 rfl ?_ ?_)|refine X4 (W7 rfl ?_ ?_)|refine X5 (W7 rfl ?_ ?_))
    all_goals (try (conv => whnf))
    all_goals (try first|exact Ob.mk (u8_bnd _)|(refine Ob.mk ?_;first|exact True.intro|assumption|omega|(try simp only [ZA,ZB,ZC,ZD,ZE,ZF,ZG,ZH,ZI,ZJ,ZK,ZL,ZM,ZN,ZO,Int.toNat_natCast,UInt8.ofNat_toNat,cast_eq] at *;omega)))
    all_goals (try first|(show (_:Int) = _;omega)|(show tupSV _ = _;with_unfolding_all rfl)|((first|show (_:Nat) ≤ _|show (_:Nat) ≤ _ ∧ (_:Nat) ≤ _|show (_:Int) ≤ _ ∧ (_:Int) ≤ _ ∧ (_:Int) ≤ _ ∧ (_:Int) ≤ _);(simp <;> omega)))
    all_goals (first
      | (show (nd l kid).up.toNat < _; omega)
      | exact Nat.le_trans f4 (by omega)
      | (show 0 ≤ placeT l kid ∧ _; refine ⟨h0, by omega, ?_⟩; show placeT l kid + 1 ≤ ((nd l (nd l kid).up).kids.length : Int); omega)
      | exact isT_iff.1 ((Bool.and_eq_true_iff.1 ‹(_ && _) = true›).2)
      | skip)
    · rename_i h
      have h := Bool.and_eq_true_iff.1 h
      have h2 : isT (cutA l kid) kid = true := by rw [cutA, if_pos h0]; exact h.2
      have h3 : isT l kid = true := by have := h.2; rw [isT_set] at this; exact this
      rw [cutT, if_pos ⟨by simpa using h.1, h3⟩, cutA, if_pos h0]
      rfl
    · rename_i h
      have h1 : ¬ (kid ≠ 0 ∧ isT l kid = true) := fun hc => by
        rw [isT_set] at h
        simp [hc.1, hc.2] at h
      rw [cutT, if_neg h1, cutA, if_pos h0]
      rfl
    all_goals (exfalso; have := of_decide_eq_false ‹decide (placeT l kid ≥ 0) = false›; exact this h0)
  · have h1 : decide (placeT l kid ≥ 0) = false := decide_eq_false h0
    clear H
    repeat' ((conv => whnf);first|(with_reducible first|rfl|exact absTF|exact absFT)|exact True.intro|intro _|refine And.intro ?_ ?_|refine Fin.mk ?_|refine W1 rfl ?_ ?_|refine W2 rfl ?_ ?_|refine W3 rfl ?_ ?_|refine W4 ?_ ?_|refine W5 rfl ?_ ?_|refine W6 ?_ ?_|refine AppN.mk ?_|refine X1 (W1 rfl ?_ ?_)|refine X1 (W2 rfl ?_ ?_)|refine X2 (W7 rfl ?_ ?_)|refine X3 (W7 rfl ?_ ?_)|refine X4 (W7 rfl ?_ ?_)|refine X5 (W7 rfl ?_ ?_))
    all_goals (try (conv => whnf))
    all_goals (try first|exact Ob.mk (u8_bnd _)|(refine Ob.mk ?_;first|exact True.intro|assumption|omega|(try simp only [ZA,ZB,ZC,ZD,ZE,ZF,ZG,ZH,ZI,ZJ,ZK,ZL,ZM,ZN,ZO,Int.toNat_natCast,UInt8.ofNat_toNat,cast_eq] at *;omega)))
    all_goals (try first|(show (_:Int) = _;omega)|(show tupSV _ = _;with_unfolding_all rfl)|((first|show (_:Nat) ≤ _|show (_:Nat) ≤ _ ∧ (_:Nat) ≤ _|show (_:Int) ≤ _ ∧ (_:Int) ≤ _ ∧ (_:Int) ≤ _ ∧ (_:Int) ≤ _);(simp <;> omega)))
    all_goals (first
      | (exfalso; exact h0 (of_decide_eq_true ‹decide (placeT l kid ≥ 0) = true›))
      | exact isT_iff.1 ((Bool.and_eq_true_iff.1 ‹(_ && _) = true›).2)
      | (have hh := isT_iff.1 ((Bool.and_eq_true_iff.1 ‹(kid != 0 && isT l kid) = true›).2); omega)
      | skip)
    · rename_i h
      have h := Bool.and_eq_true_iff.1 h
      rw [cutT, if_pos ⟨by simpa using h.1, h.2⟩, cutA, if_neg h0]
      rfl
    · rename_i h
      have h1 : ¬ (kid ≠ 0 ∧ isT l kid = true) := fun hc => by
        simp [hc.1, hc.2] at h
      rw [cutT, if_neg h1, cutA, if_neg h0]
def putT (l : List NodeD) (up at_ kid : Int) : List NodeD :=
  if (!isT l up || !isT l kid || kid == 0 || holdsT l kid up) = true then l else
  let c := cutT l kid
  let ks := (nd c up).kids
  let i := min (max at_ 0) (ks.length : Int)
  let c2 := c.set up.toNat (setKids (nd c up) (ks.take i.toNat ++ kid :: ks.drop i.toNat))
  c2.set kid.toNat (setUp (nd c2 kid) up)
theorem getD_set {l : List NodeD} {k i : Nat} {n : NodeD} : (l.set k n).getD i nodeTy.dflt = if k = i ∧ k < l.length then n else l.getD i nodeTy.dflt := by
  simp only [List.getD, List.getElem?_set]
  by_cases h : k = i
  · subst h
    by_cases h2 : k < l.length
    · simp [h2]
    · simp [h2]
  · simp [h]
def smB (m : Nat) (l : List NodeD) : Prop := l.length ≤ m ∧ ∀ i, i < l.length → (l.getD i nodeTy.dflt).2.2.2.1.length ≤ m ∧ (l.getD i nodeTy.dflt).kids.length ≤ m
theorem smB_small {l : List NodeD} {m : Nat} (hm : m ≤ 1000) (h : smB m l) : smallT l = true := by
  simp only [smallT, Bool.and_eq_true, List.all_eq_true, decide_eq_true_eq]
  refine ⟨by have := h.1; omega, fun x hx => ?_⟩
  obtain ⟨i, hi, rfl⟩ := List.getElem_of_mem hx
  have := h.2 i hi
  simp [List.getD, List.getElem?_eq_getElem hi] at this
  exact ⟨by omega, by omega⟩
theorem smB_of {l : List NodeD} (h : smallT l = true) : smB 1000 l := by
  refine ⟨small_len h, fun i hi => ?_⟩
  have := small_at h i (isT_iff.2 ⟨by omega, by omega⟩)
  simpa [nd] using this
theorem smB_set {l : List NodeD} {m : Nat} (h : smB m l) {k : Nat} {n : NodeD} (hn : k < l.length → n.2.2.2.1.length ≤ m ∧ n.kids.length ≤ m) : smB m (l.set k n) := by
  refine ⟨by simpa using h.1, fun i hi => ?_⟩
  rw [getD_set]
  split
  · rename_i hc; exact hn hc.2
  · exact h.2 i (by simpa using hi)
theorem cutA_len {l : List NodeD} {kid : Int} : (cutA l kid).length = l.length := by unfold cutA; split <;> simp
theorem cutT_len {l : List NodeD} {kid : Int} : (cutT l kid).length = l.length := by
  unfold cutT; split
  · rw [List.length_set, cutA_len]
  · exact cutA_len
theorem cutA_sm {l : List NodeD} {m : Nat} {kid : Int} (h : smB m l) : smB m (cutA l kid) := by
  unfold cutA
  split
  · refine smB_set h fun hk => ?_
    have := h.2 _ hk
    refine ⟨this.1, ?_⟩
    have e : (setKids (nd l (nd l kid).up) ((nd l (nd l kid).up).kids.take (placeT l kid).toNat ++ (nd l (nd l kid).up).kids.drop (placeT l kid + 1).toNat)).kids.length ≤ (nd l (nd l kid).up).kids.length := by
      show ((nd l (nd l kid).up).kids.take (placeT l kid).toNat ++ (nd l (nd l kid).up).kids.drop (placeT l kid + 1).toNat).length ≤ _
      simp only [List.length_append, List.length_take, List.length_drop]
      omega
    exact Nat.le_trans e this.2
  · exact h
theorem cutT_sm {l : List NodeD} {m : Nat} {kid : Int} (h : smB m l) : smB m (cutT l kid) := by
  unfold cutT
  split
  · refine smB_set (cutA_sm h) fun hk => ?_
    exact (cutA_sm h (kid := kid)).2 _ hk
  · exact cutA_sm h
theorem min_of (a b : Int) : (bif false then max (bif true then max a 0 else min a 0) b else min (bif true then max a 0 else min a 0) b) = min (max a 0) b := rfl
instance f13 (l : List NodeD) (up at_ kid : Int) : FnM BB 45 [.loc 0 0, .int .i64 up, .int .i64 at_, .int .i64 kid] [(0, .box [.own 1]), (1, .own nodeTy l)] (smallT l = true)
      (.tup []) [(0, .box [.own 1]), (1, .own nodeTy (putT l up at_ kid))] := by
  refine FnM.intro (N := 71) [0, 1, 2, 3, 8, 34] [(3, [0, 0, 0, 0, 1, 2, 0, 1, 0, 0, 0, 1, 1, 1, 0, 2, 3, 0, 0, 3])] 2 Try.call45 Try.func45 rfl rfl (by kernel_rfl) (fun hpre => ?_)
  have hsm := cutT_sm (kid := kid) (smB_of hpre)
  have hll := small_len hpre
  have hu : (!isT l up || !isT l kid || kid == 0 || holdsT l kid up) = false → (0 ≤ up ∧ up < (cutT l kid).length) ∧ (0 ≤ kid ∧ kid < (cutT l kid).length) ∧ ((cutT l kid).getD up.toNat nodeTy.dflt).2.2.2.2.2.2.length ≤ 1000 := by
    intro h
    simp only [Bool.or_eq_false_iff, Bool.not_eq_false'] at h
    have h1 := isT_iff.1 h.1.1.1
    have h2 := isT_iff.1 h.1.1.2
    rw [cutT_len]
    exact ⟨h1, h2, (hsm.2 up.toNat (by rw [cutT_len]; omega)).2⟩
  repeat' ((conv => whnf);first|(with_reducible first|rfl|exact absTF|exact absFT)|exact True.intro|intro _|refine And.intro ?_ ?_|refine Fin.mk ?_|refine W1 rfl ?_ ?_|refine W2 rfl ?_ ?_|refine W3 rfl ?_ ?_|refine W4 ?_ ?_|refine W5 rfl ?_ ?_|refine W6 ?_ ?_|refine AppN.mk ?_|refine X1 (W1 rfl ?_ ?_)|refine X1 (W2 rfl ?_ ?_)|refine X2 (W7 rfl ?_ ?_)|refine X3 (W7 rfl ?_ ?_)|refine X4 (W7 rfl ?_ ?_)|refine X5 (W7 rfl ?_ ?_))
  all_goals (try (conv => whnf))
  all_goals (try first|exact Ob.mk (u8_bnd _)|(refine Ob.mk ?_;first|exact True.intro|assumption|omega|(try simp only [ZA,ZB,ZC,ZD,ZE,ZF,ZG,ZH,ZI,ZJ,ZK,ZL,ZM,ZN,ZO,Int.toNat_natCast,UInt8.ofNat_toNat,cast_eq] at *;omega)))
  all_goals (try first|(show (_:Int) = _;omega)|(show tupSV _ = _;with_unfolding_all rfl)|((first|show (_:Nat) ≤ _|show (_:Nat) ≤ _ ∧ (_:Nat) ≤ _|show (_:Int) ≤ _ ∧ (_:Int) ≤ _ ∧ (_:Int) ≤ _ ∧ (_:Int) ≤ _);(simp <;> omega)))
  all_goals (first
    | omega
    | (rename_i h; obtain ⟨g1, g2, g3⟩ := hu h; first
        | exact g1
        | exact g2
        | omega
        | exact Nat.le_trans g3 (by omega)
        | (rw [List.length_set]; first | exact g2 | omega)
        | (refine ⟨?_, ?_, Nat.le_trans g3 (by omega)⟩ <;> rw [min_of] <;> omega))
    | skip)
  · rename_i h; rw [putT, if_pos h]
  · rename_i h
    rw [putT, if_neg (by rw [h]; exact Bool.false_ne_true)]
    rfl
end Go.Vc

namespace Go.Vc
open Go.Proofs
set_option maxRecDepth 10000
def rootN : NodeD := ((0 : Int), (0 : Int), ([] : List UInt8), ([] : List AttrD), ([] : List UInt8), (-1 : Int), ([] : List Int))
instance f18 : FnM BB 9 [] [] True (.agg [.own 0]) [(0, .own nodeTy [rootN])] := by
  refine FnM.intro (N := 4) [0] [] 1 Try.call9 Try.func9 rfl rfl (by kernel_rfl) (fun hpre => ?_)
  repeat' ((conv => whnf);first|(with_reducible first|rfl|exact absTF|exact absFT)|exact True.intro|intro _|refine And.intro ?_ ?_|refine Fin.mk ?_|refine W1 rfl ?_ ?_|refine W2 rfl ?_ ?_|refine W3 rfl ?_ ?_|refine W4 ?_ ?_|refine W5 rfl ?_ ?_|refine W6 ?_ ?_|refine AppN.mk ?_|refine X1 (W1 rfl ?_ ?_)|refine X1 (W2 rfl ?_ ?_)|refine X2 (W7 rfl ?_ ?_)|refine X3 (W7 rfl ?_ ?_)|refine X4 (W7 rfl ?_ ?_)|refine X5 (W7 rfl ?_ ?_))
  all_goals (try (conv => whnf))
  all_goals (try first|exact Ob.mk (u8_bnd _)|(refine Ob.mk ?_;first|exact True.intro|assumption|omega|(try simp only [ZA,ZB,ZC,ZD,ZE,ZF,ZG,ZH,ZI,ZJ,ZK,ZL,ZM,ZN,ZO,Int.toNat_natCast,UInt8.ofNat_toNat,cast_eq] at *;omega)))
  all_goals (try first|(show (_:Int) = _;omega)|(show tupSV _ = _;with_unfolding_all rfl)|((first|show (_:Nat) ≤ _|show (_:Nat) ≤ _ ∧ (_:Nat) ≤ _|show (_:Int) ≤ _ ∧ (_:Int) ≤ _ ∧ (_:Int) ≤ _ ∧ (_:Int) ≤ _);(simp <;> omega)))
  all_goals rfl
theorem FnM.wk {B : Base} {f : FuncId} {args args' : List SV} {Φ : Phi} {pre : Prop} {res : SV} {Φ' : Phi} (F : FnM B f args Φ pre res Φ') (h : ∀ r β vs, RelL r β args' vs → RelL r β args vs) : FnM B f args' Φ pre res Φ' :=
  ⟨F.call, fun hp r β w vs hG m hl => F.ok hp r β w vs hG m (h r β vs hl)⟩
theorem nils_rd {r β v} {τ : Ty} (h : Rel r β .nils v) : Rel r β (.rd τ []) v := by cases h; exact .rd .litsE
instance f12n (l : List NodeD) (k s : Int) (nm : List UInt8) (d : List UInt8) (up : Int) :
    FnM BB 41 [.loc 0 0, .agg [.int .i64 k, .int .i64 s, .str nm, .nils, .str d, .int .i64 up, .nils]] [(0, .box [.own 1]), (1, .own nodeTy l)] (l.length ≤ 100000 ∧ ([] : List AttrD).length ≤ 100000)
      (.int .i64 l.length) [(0, .box [.own 1]), (1, .own nodeTy (addT l (k, s, nm, [], d, up, [])))] :=
  FnM.wk (f12 l k s nm [] d up []) fun r β vs h => by
    refine ⟨h.1, fun i sv v h1 h2 => ?_⟩
    match i, h1 with
    | 0, h1 => cases h1; exact h.2 0 _ v rfl h2
    | 1, h1 =>
      cases h1
      obtain ⟨cs, rfl, hc⟩ := (h.2 1 _ v rfl h2).aggL_inv
      refine .aggL ⟨hc.1, fun j sv u q1 q2 => ?_⟩
      match j, q1 with
      | 0, q1 => cases q1; exact hc.2 0 _ u rfl q2
      | 1, q1 => cases q1; exact hc.2 1 _ u rfl q2
      | 2, q1 => cases q1; exact hc.2 2 _ u rfl q2
      | 3, q1 => cases q1; exact nils_rd (hc.2 3 _ u rfl q2)
      | 4, q1 => cases q1; exact hc.2 4 _ u rfl q2
      | 5, q1 => cases q1; exact hc.2 5 _ u rfl q2
      | 6, q1 => cases q1; exact nils_rd (hc.2 6 _ u rfl q2)
end Go.Vc

namespace Go.Vc
open Go.Proofs
set_option maxRecDepth 10000
def okI (n : Nat) (i : Int) : Prop := 0 ≤ i ∧ i < n
structure Ti (n : Nat) (U : Int → Int) (K : Int → List Int) : Prop where
  pos : 0 < n
  root : U 0 = -1
  kid : ∀ i, okI n i → ∀ k ∈ K i, okI n k ∧ U k = i
  up : ∀ i, okI n i → U i = -1 ∨ (okI n (U i) ∧ (K (U i)).count i = 1)
  dep : ∃ d : Int → Nat, ∀ i, okI n i → U i ≠ -1 → d (U i) < d i
inductive Ds (U : Int → Int) (r : Int) : Int → Prop
  | here : Ds U r r
  | up {x : Int} : U x ≠ -1 → Ds U r (U x) → Ds U r x
theorem countP_lt {l : List Int} {p q : Int → Bool} (h : ∀ x ∈ l, p x = true → q x = true) (y : Int) (hy : y ∈ l) (hp : p y = false) (hq : q y = true) : l.countP p < l.countP q := by
  induction l with
  | nil => cases hy
  | cons a l ih =>
    have hle : l.countP p ≤ l.countP q := List.countP_mono_left fun x hx => h x (List.mem_cons_of_mem _ hx)
    rw [List.countP_cons, List.countP_cons]
    rcases List.mem_cons.1 hy with rfl | hy
    · rw [hp, hq]; simp; omega
    · have := ih (fun x hx => h x (List.mem_cons_of_mem _ hx)) hy
      have ha := h a List.mem_cons_self
      cases hpa : p a
      · simp; omega
      · rw [ha hpa]; simp; omega
theorem Ti.rank {n : Nat} {U : Int → Int} {K : Int → List Int} (h : Ti n U K) : ∃ d : Int → Nat, (∀ i, okI n i → d i < n) ∧ ∀ i, okI n i → U i ≠ -1 → d (U i) < d i := by
  obtain ⟨d, hd⟩ := h.dep
  let L : List Int := (List.range n).map fun (k : Nat) => (k : Int)
  have hL : ∀ i, okI n i → i ∈ L := fun i hi => List.mem_map.2 ⟨i.toNat, List.mem_range.2 (by have := hi.2; have := hi.1; omega), by have := hi.1; omega⟩
  refine ⟨fun i => L.countP fun y => decide (d y < d i), fun i hi => ?_, fun i hi hu => ?_⟩
  · have h1 : L.countP (fun y => decide (d y < d i)) < L.countP (fun _ => true) := countP_lt (fun _ _ _ => rfl) i (hL i hi) (decide_eq_false (Nat.lt_irrefl _)) rfl
    have h2 : L.countP (fun _ => true) = n := by simp [L]
    show L.countP (fun y => decide (d y < d i)) < n
    omega
  · have hd := hd i hi hu
    rcases h.up i hi with q | q
    · exact absurd q hu
    · exact countP_lt (fun x _ hx => decide_eq_true (Nat.lt_trans (of_decide_eq_true hx) hd)) (U i) (hL _ q.1) (decide_eq_false (Nat.lt_irrefl _)) (decide_eq_true hd)
theorem Ds.le {n : Nat} {U : Int → Int} {K : Int → List Int} (h : Ti n U K) {d : Int → Nat} (hd : ∀ i, okI n i → U i ≠ -1 → d (U i) < d i) {r x : Int} (s : Ds U r x) : okI n x → d r ≤ d x := by
  induction s with
  | here => intro _; exact Nat.le_refl _
  | @up x hu _ ih =>
    intro hx
    rcases h.up x hx with q | q
    · exact absurd q hu
    · exact Nat.le_trans (ih q.1) (Nat.le_of_lt (hd x hx hu))
theorem Ds.self {n : Nat} {U : Int → Int} {K : Int → List Int} (h : Ti n U K) {r : Int} (hr : okI n r) (hu : U r ≠ -1) : ¬ Ds U r (U r) := by
  obtain ⟨d, hd⟩ := h.dep
  intro s
  rcases h.up r hr with q | q
  · exact hu q
  · have h1 := s.le h hd q.1
    have h2 := hd r hr hu
    omega
theorem mem_kids {n : Nat} {U : Int → Int} {K : Int → List Int} (h : Ti n U K) {i k : Int} (hi : okI n i) : k ∈ K i ↔ okI n k ∧ U k = i := by
  refine ⟨h.kid i hi k, fun ⟨hk, e⟩ => ?_⟩
  rcases h.up k hk with q | q
  · have := hi.1; omega
  · have h2 := q.2
    rw [e] at h2
    exact List.count_pos_iff.1 (by omega)
theorem kids_one {n : Nat} {U : Int → Int} {K : Int → List Int} (h : Ti n U K) {i : Int} (hi : okI n i) (k : Int) : (K i).count k ≤ 1 := by
  by_cases hk : k ∈ K i
  · have hk' := (mem_kids h hi).1 hk
    rcases h.up k hk'.1 with q | q
    · have := hi.1; omega
    · have h2 := q.2; rw [hk'.2] at h2; omega
  · rw [List.count_eq_zero_of_not_mem hk]; omega
theorem len_of_one : ∀ (n : Nat) (l : List Int), (∀ x ∈ l, 0 ≤ x ∧ x < (n : Int)) → (∀ x, l.count x ≤ 1) → l.length ≤ n
  | 0, l, h, _ => by
    cases l with
    | nil => exact Nat.le_refl _
    | cons a l => have := h a List.mem_cons_self; omega
  | n + 1, l, h, h1 => by
    have h2 := len_of_one n (l.erase (n : Int)) (fun x hx => by
      have hm := h x (List.mem_of_mem_erase hx)
      have : x ≠ (n : Int) := fun e => by
        subst e
        have := List.count_pos_iff.2 hx
        rw [List.count_erase_self] at this
        have := h1 (n : Int); omega
      omega) (fun x => Nat.le_trans (List.Sublist.count_le _ List.erase_sublist) (h1 x))
    have h3 := List.length_erase (a := (n : Int)) (l := l)
    split at h3 <;> omega
theorem Ti.len {n : Nat} {U : Int → Int} {K : Int → List Int} (h : Ti n U K) {i : Int} (hi : okI n i) : (K i).length ≤ n :=
  len_of_one n (K i) (fun x hx => (h.kid i hi x hx).1) (kids_one h hi)
theorem Ti.add {n : Nat} {U U' : Int → Int} {K K' : Int → List Int} (h : Ti n U K) (hU : ∀ i, okI n i → U' i = U i) (hK : ∀ i, okI n i → K' i = K i) (hn : U' n = -1) (hk : K' n = []) : Ti (n + 1) U' K' := by
  have hs : ∀ i, okI (n + 1) i → okI n i ∨ i = n := fun i hi => by have := hi.1; have := hi.2; rcases Int.lt_or_le i n with q | q; exact .inl ⟨by omega, by omega⟩; exact .inr (by omega)
  have ho : ∀ i, okI n i → okI (n + 1) i := fun i hi => ⟨hi.1, by have := hi.2; omega⟩
  have h0 : okI n 0 := ⟨by omega, by have := h.pos; omega⟩
  obtain ⟨d, hd⟩ := h.dep
  refine ⟨by omega, by rw [hU 0 h0]; exact h.root, fun i hi k hk' => ?_, fun i hi => ?_, d, fun i hi hu => ?_⟩
  · rcases hs i hi with q | rfl
    · rw [hK i q] at hk'
      have := h.kid i q k hk'
      exact ⟨ho _ this.1, by rw [hU _ this.1]; exact this.2⟩
    · rw [hk] at hk'; cases hk'
  · rcases hs i hi with q | rfl
    · rw [hU i q]
      rcases h.up i q with q' | q'
      · exact .inl q'
      · exact .inr ⟨ho _ q'.1, by rw [hK _ q'.1]; exact q'.2⟩
    · exact .inl hn
  · rcases hs i hi with q | rfl
    · rw [hU i q] at hu ⊢; exact hd i q hu
    · exact absurd hn hu
theorem Ti.congr {n : Nat} {U U' : Int → Int} {K K' : Int → List Int} (h : Ti n U K) (hU : ∀ i, okI n i → U' i = U i) (hK : ∀ i, okI n i → K' i = K i) : Ti n U' K' := by
  have h0 : okI n 0 := ⟨by omega, by have := h.pos; omega⟩
  obtain ⟨d, hd⟩ := h.dep
  refine ⟨h.pos, by rw [hU 0 h0]; exact h.root, fun i hi k hk' => ?_, fun i hi => ?_, d, fun i hi hu => ?_⟩
  · rw [hK i hi] at hk'
    have := h.kid i hi k hk'
    exact ⟨this.1, by rw [hU k this.1]; exact this.2⟩
  · rw [hU i hi]
    rcases h.up i hi with q | q
    · exact .inl q
    · exact .inr ⟨q.1, by rw [hK _ q.1]; exact q.2⟩
  · rw [hU i hi] at hu ⊢; exact hd i hi hu
theorem Ti.cut {n : Nat} {U U' : Int → Int} {K K' : Int → List Int} (h : Ti n U K) {kid : Int} (hk : okI n kid) (hu : U kid ≠ -1) (hU : ∀ i, okI n i → U' i = if i = kid then -1 else U i) (hK : ∀ i, okI n i → i ≠ U kid → K' i = K i)
    (hKp : ∀ k, (K' (U kid)).count k + (if k = kid then 1 else 0) = (K (U kid)).count k) : Ti n U' K' := by
  have h0 : okI n 0 := ⟨by omega, by have := h.pos; omega⟩
  have hp : okI n (U kid) ∧ (K (U kid)).count kid = 1 := (h.up kid hk).resolve_left hu
  obtain ⟨d, hd⟩ := h.dep
  have hne : ∀ i, okI n i → ∀ k, k ∈ K' i → k ∈ K i ∧ k ≠ kid := fun i hi k hk' => by
    by_cases e : i = U kid
    · subst e
      have h1 := List.count_pos_iff.2 hk'
      have h2 := hKp k
      by_cases e' : k = kid
      · subst e'; rw [if_pos rfl, hp.2] at h2; omega
      · rw [if_neg e'] at h2
        exact ⟨List.count_pos_iff.1 (by omega), e'⟩
    · rw [hK i hi e] at hk'
      refine ⟨hk', fun e' => ?_⟩
      subst e'
      exact e (h.kid i hi _ hk').2.symm
  refine ⟨h.pos, ?_, fun i hi k hk' => ?_, fun i hi => ?_, d, fun i hi hu' => ?_⟩
  · rw [hU 0 h0]; split
    · rfl
    · exact h.root
  · obtain ⟨a, b⟩ := hne i hi k hk'
    have := h.kid i hi k a
    exact ⟨this.1, by rw [hU k this.1, if_neg b]; exact this.2⟩
  · rw [hU i hi]
    split
    · exact .inl rfl
    · rename_i e
      rcases h.up i hi with q | q
      · exact .inl q
      · refine .inr ⟨q.1, ?_⟩
        by_cases e2 : U i = U kid
        · have h2 := hKp i
          rw [if_neg e, Nat.add_zero] at h2
          rw [e2, h2, ← e2]; exact q.2
        · rw [hK _ q.1 e2]; exact q.2
  · rw [hU i hi] at hu' ⊢
    split at hu'
    · exact absurd rfl hu'
    · rename_i e; rw [if_neg e]; exact hd i hi hu'
open Classical in
theorem Ti.put {n : Nat} {U U' : Int → Int} {K K' : Int → List Int} (h : Ti n U K) {kid p : Int} (hk : okI n kid) (hk0 : kid ≠ 0) (hp : okI n p) (hu : U kid = -1) (hd' : ¬ Ds U kid p) (hU : ∀ i, okI n i → U' i = if i = kid then p else U i)
    (hK : ∀ i, okI n i → i ≠ p → K' i = K i) (hKp : ∀ k, (K' p).count k = (K p).count k + if k = kid then 1 else 0) : Ti n U' K' := by
  have h0 : okI n 0 := ⟨by omega, by have := h.pos; omega⟩
  obtain ⟨d, hd⟩ := h.dep
  have hno : kid ∉ K p := fun q => by have := (h.kid p hp _ q).2; have := hp.1; omega
  refine ⟨h.pos, by rw [hU 0 h0, if_neg (Ne.symm hk0)]; exact h.root, fun i hi k hk' => ?_, fun i hi => ?_, fun x => if Ds U kid x then d x + d p + 1 else d x, fun i hi hu' => ?_⟩
  · by_cases e : i = p
    · subst e
      have hc := List.count_pos_iff.2 hk'
      rw [hKp] at hc
      by_cases ek : k = kid
      · subst ek; exact ⟨hk, by rw [hU k hk, if_pos rfl]⟩
      · rw [if_neg ek] at hc
        have := h.kid i hi k (List.count_pos_iff.1 (by omega))
        exact ⟨this.1, by rw [hU k this.1, if_neg ek]; exact this.2⟩
    · rw [hK i hi e] at hk'
      have := h.kid i hi k hk'
      exact ⟨this.1, by rw [hU k this.1, if_neg (fun ek => by subst ek; have := hi.1; omega)]; exact this.2⟩
  · rw [hU i hi]
    split
    · rename_i e
      subst e
      exact .inr ⟨hp, by rw [hKp, if_pos rfl, List.count_eq_zero_of_not_mem hno]⟩
    · rename_i e
      rcases h.up i hi with q | q
      · exact .inl q
      · refine .inr ⟨q.1, ?_⟩
        by_cases eq : U i = p
        · rw [eq, hKp, if_neg e, Nat.add_zero, ← eq]; exact q.2
        · rw [hK _ q.1 eq]; exact q.2
  · rw [hU i hi] at hu' ⊢
    by_cases e : i = kid
    · subst e
      simp only [if_true]
      rw [if_neg hd', if_pos Ds.here]; omega
    · rw [if_neg e] at hu' ⊢
      have hlt := hd i hi hu'
      have hiff : Ds U kid i ↔ Ds U kid (U i) := ⟨fun s => by cases s with | here => exact absurd rfl e | up _ s => exact s, fun s => .up hu' s⟩
      simp only
      by_cases hs : Ds U kid i
      · rw [if_pos hs, if_pos (hiff.1 hs)]; omega
      · rw [if_neg hs, if_neg (fun q => hs (hiff.2 q))]; exact hlt
open Classical in
theorem Ti.move {n : Nat} {U U' : Int → Int} {K K' : Int → List Int} (h : Ti n U K) {a b : Int} (ha : okI n a) (hb : okI n b) (hd' : ¬ Ds U a b) (hU : ∀ i, okI n i → U' i = if i ∈ K a then b else U i)
    (hKa : K' a = []) (hKb : K' b = K b ++ K a) (hK : ∀ i, okI n i → i ≠ a → i ≠ b → K' i = K i) : Ti n U' K' := by
  have h0 : okI n 0 := ⟨by omega, by have := h.pos; omega⟩
  have hab : b ≠ a := fun e => hd' (by rw [e]; exact .here)
  obtain ⟨d, hd⟩ := h.dep
  have hm : ∀ i, okI n i → (i ∈ K a ↔ U i = a) := fun i hi => by rw [mem_kids h ha]; exact ⟨fun q => q.2, fun q => ⟨hi, q⟩⟩
  have hU2 : ∀ i, okI n i → U' i = if U i = a then b else U i := fun i hi => by
    rw [hU i hi]
    by_cases q : i ∈ K a
    · rw [if_pos q, if_pos ((hm i hi).1 q)]
    · rw [if_neg q, if_neg (fun e => q ((hm i hi).2 e))]
  refine ⟨h.pos, by rw [hU2 0 h0, h.root, if_neg (by have := ha.1; omega)], fun i hi k hk' => ?_, fun i hi => ?_, fun x => if Ds U a x ∧ x ≠ a then d x + d b + 1 else d x, fun i hi hu' => ?_⟩
  · by_cases ea : i = a
    · subst ea; rw [hKa] at hk'; cases hk'
    · by_cases eb : i = b
      · subst eb
        rw [hKb] at hk'
        rcases List.mem_append.1 hk' with q | q
        · have := h.kid i hi k q
          exact ⟨this.1, by rw [hU2 k this.1, this.2, if_neg hab]⟩
        · have := h.kid a ha k q
          exact ⟨this.1, by rw [hU2 k this.1, if_pos this.2]⟩
      · rw [hK i hi ea eb] at hk'
        have := h.kid i hi k hk'
        exact ⟨this.1, by rw [hU2 k this.1, this.2, if_neg ea]⟩
  · rw [hU2 i hi]
    by_cases e : U i = a
    · rw [if_pos e]
      refine .inr ⟨hb, ?_⟩
      rw [hKb, List.count_append, List.count_eq_zero_of_not_mem (fun q => hab ((h.kid b hb i q).2.symm.trans e))]
      rcases h.up i hi with q | q
      · have := ha.1; omega
      · have h2 := q.2; rw [e] at h2; omega
    · rw [if_neg e]
      rcases h.up i hi with q | q
      · exact .inl q
      · refine .inr ⟨q.1, ?_⟩
        by_cases eb : U i = b
        · rw [eb, hKb, List.count_append, List.count_eq_zero_of_not_mem (l := K a) (fun q' => e ((hm i hi).1 q'))]
          have h2 := q.2; rw [eb] at h2; omega
        · rw [hK _ q.1 e eb]; exact q.2
  · rw [hU2 i hi] at hu' ⊢
    by_cases e : U i = a
    · rw [if_pos e]
      have hi2 : i ≠ a := fun q => by
        have hlt := hd i hi (by rw [e]; have := ha.1; omega)
        rw [e, q] at hlt; omega
      simp only
      rw [if_neg (fun q => hd' q.1), if_pos ⟨.up (by rw [e]; have := ha.1; omega) (by rw [e]; exact .here), hi2⟩]
      omega
    · rw [if_neg e] at hu' ⊢
      have hlt := hd i hi hu'
      simp only
      by_cases hs : Ds U a i ∧ i ≠ a
      · have hs2 : Ds U a (U i) := by
          cases hs.1 with
          | here => exact absurd rfl hs.2
          | up _ s => exact s
        rw [if_pos hs, if_pos ⟨hs2, e⟩]; omega
      · rw [if_neg hs]
        split
        · rename_i q
          by_cases hi2 : i = a
          · subst hi2
            exact absurd q.1 (Ds.self h hi hu')
          · exact absurd ⟨.up hu' q.1, hi2⟩ hs
        · exact hlt
end Go.Vc

namespace Go.Vc
open Go.Proofs
set_option maxRecDepth 10000
set_option maxHeartbeats 2000000
theorem grow_done {r β w} {v' : Value} {w' : World} (m : MemSat r β [] w) (hI : IntsAt r w' v' [])
    (hos : w'.os = w.os ∧ w'.tape = w.tape ∧ w'.output = w.output) (hsz : w.heap.size ≤ w'.heap.size)
    (hblk : ∀ b', Chunk.blk (.own i64T []) v' = some b' → w.heap.size ≤ b') (hoth : ∀ b', b' < w.heap.size → w'.heap[b']? = w.heap[b']?) :
    Rel r (bind0 β v') (.own 0) v' ∧ MemSat r (bind0 β v') [(0, .own i64T [])] w' ∧ Hid r β [] w r (bind0 β v') [(0, .own i64T [])] w' := by
  have hone : v'.oneCell' = true := by cases hI with | nil a hx _ => rw [hx]; rfl | row b off cap c T fr hx => rw [hx]; rfl
  refine ⟨?_, ⟨fun b o h => ?_, fun id ch h => ?_, fun id ch b h hb => ?_, fun id id' ch ch' b h h' _ _ => ?_⟩, hos.1, hos.2.1, hos.2.2, hsz, fun b hb h1 h2 => ⟨?_, h1, fun id ch h hb' => ?_⟩, fun id ch h hk => ?_⟩
  · have : Rel r (bind0 β v') (.own 0) ((bind0 β v') 0) := .own hone
    exact this
  · have := m.vis b o h
    rw [hoth b (lt_of_heap this)]; exact this
  · obtain ⟨rfl, rfl⟩ := one_get h
    exact .own (rowsAt_ints.2 hI)
  · obtain ⟨rfl, rfl⟩ := one_get h
    have h1 := hblk b hb
    cases hr : r b with
    | none => rfl
    | some o => exact absurd (lt_of_heap (m.vis _ _ hr)) (by omega)
  · obtain ⟨rfl, _⟩ := one_get h
    obtain ⟨rfl, _⟩ := one_get h'
    rfl
  · exact hoth b hb
  · obtain ⟨rfl, rfl⟩ := one_get h
    have := hblk b hb'
    omega
  · cases h
instance gGrow (n : Int) : FnM BB 110 [.nils, .int .i64 n] [] (0 ≤ n ∧ n ≤ 100000) (.own 0) [(0, .own intTy [])] := by
  refine ⟨Try.call110, fun hp r β w vs hG m hl => ?_⟩
  obtain ⟨p1, p2⟩ := hp
  have hlen := hl.1
  match vs, hlen with
  | [v0, v1], _ =>
  have h0 := hl.2 0 _ v0 rfl rfl
  have h1 := hl.2 1 _ v1 rfl rfl
  cases h0; cases h1
  obtain ⟨k, rfl⟩ := Int.eq_ofNat_of_zero_le p1
  have fin : ∀ {v' : Value} {w' : World}, IntsAt r w' v' [] → (w'.os = w.os ∧ w'.tape = w.tape ∧ w'.output = w.output) → w.heap.size ≤ w'.heap.size →
      (∀ b', Chunk.blk (.own i64T []) v' = some b' → w.heap.size ≤ b') → (∀ b', b' < w.heap.size → w'.heap[b']? = w.heap[b']?) →
      ∃ v sv r' β' Φ', Ending.returned v' = .returned v ∧ (sv = .own 0 ∧ Φ' = [(0, .own i64T [])]) ∧ Rel r' β' sv v ∧ MemSat r' β' Φ' w' ∧ r.le r' ∧ Hid r β [] w r' β' Φ' w' := by
    intro v' w' a1 a2 a3 a4 a5
    obtain ⟨b1, b2, b3⟩ := grow_done m a1 a2 a3 a4 a5
    exact ⟨_, _, r, _, _, rfl, ⟨rfl, rfl⟩, b1, b2, Mem.le_refl r, b3⟩
  by_cases hk : k = 0
  · subst hk
    refine (Any8.slices_Grow_room Try.growI none 0 0 0 w (Nat.le_refl _) (by omega) (by omega) (by omega)).mono ?_
    rintro e w' ⟨rfl, rfl⟩
    exact fin (.nil none rfl rfl) ⟨rfl, rfl, rfl⟩ (Nat.le_refl _) (fun b' hb => by cases hb) (fun _ _ => rfl)
  · have hz : (Try.prog.info? 3).bind (fun i => i.zero) = some (.int .i64 0) := by kernel_rfl
    have hs : (Try.prog.info? 3).map (fun i => i.size) = some 1 := by kernel_rfl
    have hb : (Try.prog.info? 3).map (fun i => i.bytes) = some 8 := by kernel_rfl
    cases hi : Try.prog.info? 3 with
    | none => rw [hi] at hs; cases hs
    | some i0 =>
      rw [hi] at hz hs hb
      have hz : i0.zero = some (.int .i64 0) := hz
      have hs : i0.size = 1 := by injection hs
      have hb : i0.bytes = 8 := by injection hb
      refine (Any8.slices_Grow_grow Try.growI i0 (.int .i64 0) hi hz (by omega) none 0 0 k [] w (Nat.le_refl _) (by omega) (by rw [hb]; omega) (by omega) (by simp) (fun _ => rfl) (fun a h => by cases h)).mono ?_
      rintro e w' ⟨rfl, rfl⟩
      have g1 := grownCap_ge w (0 + k) 0 3
      have g2 := grownCap_le_maxLen w (0 + k) 0 3 (by unfold maxLen; omega)
      unfold maxLen at g2
      refine fin (.row w.heap.size 0 (grownCap w (0 + k) 0 3) (([] : List Value).toArray ++ Builtin.zeroCells (Value.int .i64 0).cells (0 + k - 0) ++ Builtin.zeroCells (Value.int .i64 0).cells (grownCap w (0 + k) 0 3 - (0 + k))) 3 (0, 0) rfl (by omega) ?_ rfl (by omega) (by simp) ?_ (fun j n h => by cases h)) ⟨rfl, rfl, rfl⟩ ?_ (fun b' hb => ?_) (fun b' hb => ?_)
      · show (w.heap.push _)[w.heap.size]? = _
        rw [Array.getElem?_push_size]; rfl
      · have e1 : (Value.int .i64 0).cells.size = 1 := rfl
        simp only [Array.size_append, size_zeroCells, e1, List.size_toArray, List.length_nil]; omega
      · show w.heap.size ≤ (w.heap.push _).size
        rw [Array.size_push]; omega
      · have : w.heap.size = b' := by
          have h0 : (bif Nat.beq (grownCap w (0 + k) 0 3) 0 then none else some w.heap.size) = some b' := hb
          cases hq : Nat.beq (grownCap w (0 + k) 0 3) 0 with
          | true => rw [hq] at h0; cases h0
          | false => rw [hq] at h0; injection h0
        omega
      · show (w.heap.push _)[b']? = _
        rw [Array.getElem?_push, if_neg (by omega)]
end Go.Vc

namespace Go.Vc
open Go.Proofs
set_option maxRecDepth 10000
set_option maxHeartbeats 4000000
theorem take_flat (ls : List (List Int)) (i : Nat) (h : i < ls.length) : (ls.take (i + 1)).flatten = (ls.take i).flatten ++ ls.getD i [] := by
  rw [List.take_succ_eq_append_getElem h, List.flatten_append]
  simp [List.getD, List.getElem?_eq_getElem h]
theorem flat_le (ls : List (List Int)) (i : Nat) : (ls.take i).flatten.length ≤ ls.flatten.length := by
  have e : ls.flatten = (ls.take i).flatten ++ (ls.drop i).flatten := by rw [← List.flatten_append, List.take_append_drop]
  rw [e, List.length_append]; omega
instance gConcat (ls : List (List Int)) : Fn BB 84 [.rd (.sl intTy) ls] (ls.length ≤ 1000 ∧ ls.flatten.length ≤ 100000) (.rd intTy ls.flatten) := by
  refine Fn.intro (N := 36) [0, 2, 3, 5, 6, 8, 9, 10, 11, 12, 20, 25, 26, 27, 28] [] Try.call84 Try.func84 rfl rfl (by kernel_rfl) (fun hpre => ?_)
  obtain ⟨p1, p2⟩ := hpre
  repeat' ((conv => whnf);first|(with_reducible first|rfl|exact absTF|exact absFT)|exact True.intro|intro _|refine And.intro ?_ ?_|refine Fin.mk ?_|refine W1 rfl ?_ ?_|refine W2 rfl ?_ ?_|refine W3 rfl ?_ ?_|refine W4 ?_ ?_|refine W5 rfl ?_ ?_|refine W6 ?_ ?_|refine AppN.mk ?_|refine X1 (W1 rfl ?_ ?_)|refine X1 (W2 rfl ?_ ?_)|refine X2 (W7 rfl ?_ ?_)|refine X3 (W7 rfl ?_ ?_)|refine X4 (W7 rfl ?_ ?_)|refine X5 (W7 rfl ?_ ?_))
  all_goals (try (conv => whnf))
  all_goals (try first|exact Ob.mk (u8_bnd _)|(refine Ob.mk ?_;first|exact True.intro|assumption|omega|(try simp only [ZA,ZB,ZC,ZD,ZE,ZF,ZG,ZH,ZI,ZJ,ZK,ZL,ZM,ZN,ZO,Int.toNat_natCast,UInt8.ofNat_toNat,cast_eq] at *;omega)))
  all_goals (try first|(show (_:Int) = _;omega)|(show tupSV _ = _;with_unfolding_all rfl)|((first|show (_:Nat) ≤ _|show (_:Nat) ≤ _ ∧ (_:Nat) ≤ _|show (_:Int) ≤ _ ∧ (_:Int) ≤ _ ∧ (_:Int) ≤ _ ∧ (_:Int) ≤ _);(simp <;> omega)))
  refine LoopStop.mk (α := Nat) (fun i => [(11, .int .i64 i), (3, .int .i64 ((ls.take i).flatten.length : Nat))]) (fun _ => []) 20 (fun i => i ≤ ls.length) (fun i => ls.length - i) 0 (by simp) ?_ (fun i hi => ?_)
  · repeat' ((conv => whnf);first|(with_reducible first|rfl|exact absTF|exact absFT)|exact True.intro|intro _|refine And.intro ?_ ?_|refine Fin.mk ?_|refine W1 rfl ?_ ?_|refine W2 rfl ?_ ?_|refine W3 rfl ?_ ?_|refine W4 ?_ ?_|refine W5 rfl ?_ ?_|refine W6 ?_ ?_|refine AppN.mk ?_|refine X1 (W1 rfl ?_ ?_)|refine X1 (W2 rfl ?_ ?_)|refine X2 (W7 rfl ?_ ?_)|refine X3 (W7 rfl ?_ ?_)|refine X4 (W7 rfl ?_ ?_)|refine X5 (W7 rfl ?_ ?_))
    all_goals (try (conv => whnf))
    all_goals (try first|exact Ob.mk (u8_bnd _)|(refine Ob.mk ?_;first|exact True.intro|assumption|omega|(try simp only [ZA,ZB,ZC,ZD,ZE,ZF,ZG,ZH,ZI,ZJ,ZK,ZL,ZM,ZN,ZO,Int.toNat_natCast,UInt8.ofNat_toNat,cast_eq] at *;omega)))
    all_goals (try first|(show (_:Int) = _;omega)|(show tupSV _ = _;with_unfolding_all rfl)|((first|show (_:Nat) ≤ _|show (_:Nat) ≤ _ ∧ (_:Nat) ≤ _|show (_:Int) ≤ _ ∧ (_:Int) ≤ _ ∧ (_:Int) ≤ _ ∧ (_:Int) ≤ _);(simp <;> omega)))
    all_goals (first | rfl | trace_state)
  · have h1 := flat_le ls i
    have h2 := flat_le ls (i + 1)
    have h3 := take_flat ls i
    have h4 : i < ls.length → (ls.take (i + 1)).flatten.length = (ls.take i).flatten.length + List.length (ls.getD i (Ty.sl intTy).dflt) := fun h => by
      rw [h3 h, List.length_append]; rfl
    repeat' ((conv => whnf);first|(with_reducible first|rfl|exact absTF|exact absFT)|exact True.intro|intro _|refine And.intro ?_ ?_|refine Fin.mk ?_|refine W1 rfl ?_ ?_|refine W2 rfl ?_ ?_|refine W3 rfl ?_ ?_|refine W4 ?_ ?_|refine W5 rfl ?_ ?_|refine W6 ?_ ?_|refine AppN.mk ?_|refine X1 (W1 rfl ?_ ?_)|refine X1 (W2 rfl ?_ ?_)|refine X2 (W7 rfl ?_ ?_)|refine X3 (W7 rfl ?_ ?_)|refine X4 (W7 rfl ?_ ?_)|refine X5 (W7 rfl ?_ ?_))
    all_goals (try (conv => whnf))
    all_goals (try first|exact Ob.mk (u8_bnd _)|(refine Ob.mk ?_;first|exact True.intro|assumption|omega|(try simp only [ZA,ZB,ZC,ZD,ZE,ZF,ZG,ZH,ZI,ZJ,ZK,ZL,ZM,ZN,ZO,Int.toNat_natCast,UInt8.ofNat_toNat,cast_eq] at *;omega)))
    all_goals (try first|(show (_:Int) = _;omega)|(show tupSV _ = _;with_unfolding_all rfl)|((first|show (_:Nat) ≤ _|show (_:Nat) ≤ _ ∧ (_:Nat) ≤ _|show (_:Int) ≤ _ ∧ (_:Int) ≤ _ ∧ (_:Int) ≤ _ ∧ (_:Int) ≤ _);(simp <;> omega)))
    all_goals (try (have b := of_decide_eq_true ‹decide ((i : Int) < (ls.length : Int)) = true›; have h5 := h4 (by omega)))
    all_goals (try (have b := of_decide_eq_false ‹decide ((i : Int) < (ls.length : Int)) = false›))
    all_goals (try simp only [Int.toNat_natCast] at *)
    all_goals (try (exfalso; have q := of_decide_eq_true ‹decide (_ < (0 : Int)) = true›; omega))
    all_goals (first | omega | (unfold InI64; omega) | skip)
    · refine Rnd.mk ⟨i + 1, by omega, by omega, ?_⟩
      repeat' ((conv => whnf);first|(with_reducible first|rfl|exact absTF|exact absFT)|exact True.intro|intro _|refine And.intro ?_ ?_|refine Fin.mk ?_|refine W1 rfl ?_ ?_|refine W2 rfl ?_ ?_|refine W3 rfl ?_ ?_|refine W4 ?_ ?_|refine W5 rfl ?_ ?_|refine W6 ?_ ?_|refine AppN.mk ?_|refine X1 (W1 rfl ?_ ?_)|refine X1 (W2 rfl ?_ ?_)|refine X2 (W7 rfl ?_ ?_)|refine X3 (W7 rfl ?_ ?_)|refine X4 (W7 rfl ?_ ?_)|refine X5 (W7 rfl ?_ ?_))
      all_goals (try (conv => whnf))
      all_goals (try first|exact Ob.mk (u8_bnd _)|(refine Ob.mk ?_;first|exact True.intro|assumption|omega|(try simp only [ZA,ZB,ZC,ZD,ZE,ZF,ZG,ZH,ZI,ZJ,ZK,ZL,ZM,ZN,ZO,Int.toNat_natCast,UInt8.ofNat_toNat,cast_eq] at *;omega)))
      all_goals (try first|(show (_:Int) = _;omega)|(show tupSV _ = _;with_unfolding_all rfl)|((first|show (_:Nat) ≤ _|show (_:Nat) ≤ _ ∧ (_:Nat) ≤ _|show (_:Int) ≤ _ ∧ (_:Int) ≤ _ ∧ (_:Int) ≤ _ ∧ (_:Int) ≤ _);(simp <;> omega)))
      all_goals (first | rfl | omega | trace_state)
    · obtain rfl : i = ls.length := by omega
      refine LoopStop.mk (α := Nat) (fun i => [(27, .int .i64 i), (6, .own 20)]) (fun i => [(20, .own intTy (ls.take i).flatten)]) 60 (fun i => i ≤ ls.length) (fun i => ls.length - i) 0 (by simp) ?_ (fun i hi => ?_)
      · repeat' ((conv => whnf);first|(with_reducible first|rfl|exact absTF|exact absFT)|exact True.intro|intro _|refine And.intro ?_ ?_|refine Fin.mk ?_|refine W1 rfl ?_ ?_|refine W2 rfl ?_ ?_|refine W3 rfl ?_ ?_|refine W4 ?_ ?_|refine W5 rfl ?_ ?_|refine W6 ?_ ?_|refine AppN.mk ?_|refine X1 (W1 rfl ?_ ?_)|refine X1 (W2 rfl ?_ ?_)|refine X2 (W7 rfl ?_ ?_)|refine X3 (W7 rfl ?_ ?_)|refine X4 (W7 rfl ?_ ?_)|refine X5 (W7 rfl ?_ ?_))
        all_goals (try (conv => whnf))
        all_goals (try first|exact Ob.mk (u8_bnd _)|(refine Ob.mk ?_;first|exact True.intro|assumption|omega|(try simp only [ZA,ZB,ZC,ZD,ZE,ZF,ZG,ZH,ZI,ZJ,ZK,ZL,ZM,ZN,ZO,Int.toNat_natCast,UInt8.ofNat_toNat,cast_eq] at *;omega)))
        all_goals (try first|(show (_:Int) = _;omega)|(show tupSV _ = _;with_unfolding_all rfl)|((first|show (_:Nat) ≤ _|show (_:Nat) ≤ _ ∧ (_:Nat) ≤ _|show (_:Int) ≤ _ ∧ (_:Int) ≤ _ ∧ (_:Int) ≤ _ ∧ (_:Int) ≤ _);(simp <;> omega)))
        all_goals (first | rfl | trace_state)
      · have h1 := flat_le ls i
        have h2 := flat_le ls (i + 1)
        have h3 : i < ls.length → (ls.take (i + 1)).flatten = (ls.take i).flatten ++ ls.getD i (Ty.sl intTy).dflt := take_flat ls i
        have h4 : i < ls.length → (ls.take (i + 1)).flatten.length = (ls.take i).flatten.length + List.length (ls.getD i (Ty.sl intTy).dflt) := fun h => by
          rw [h3 h, List.length_append]
        repeat' ((conv => whnf);first|(with_reducible first|rfl|exact absTF|exact absFT)|exact True.intro|intro _|refine And.intro ?_ ?_|refine Fin.mk ?_|refine W1 rfl ?_ ?_|refine W2 rfl ?_ ?_|refine W3 rfl ?_ ?_|refine W4 ?_ ?_|refine W5 rfl ?_ ?_|refine W6 ?_ ?_|refine AppN.mk ?_|refine X1 (W1 rfl ?_ ?_)|refine X1 (W2 rfl ?_ ?_)|refine X2 (W7 rfl ?_ ?_)|refine X3 (W7 rfl ?_ ?_)|refine X4 (W7 rfl ?_ ?_)|refine X5 (W7 rfl ?_ ?_))
        all_goals (try (conv => whnf))
        all_goals (try first|exact Ob.mk (u8_bnd _)|(refine Ob.mk ?_;first|exact True.intro|assumption|omega|(try simp only [ZA,ZB,ZC,ZD,ZE,ZF,ZG,ZH,ZI,ZJ,ZK,ZL,ZM,ZN,ZO,Int.toNat_natCast,UInt8.ofNat_toNat,cast_eq] at *;omega)))
        all_goals (try first|(show (_:Int) = _;omega)|(show tupSV _ = _;with_unfolding_all rfl)|((first|show (_:Nat) ≤ _|show (_:Nat) ≤ _ ∧ (_:Nat) ≤ _|show (_:Int) ≤ _ ∧ (_:Int) ≤ _ ∧ (_:Int) ≤ _ ∧ (_:Int) ≤ _);(simp <;> omega)))
        all_goals (try (have b := of_decide_eq_true ‹decide ((i : Int) < (ls.length : Int)) = true›))
        all_goals (try (have b := of_decide_eq_false ‹decide ((i : Int) < (ls.length : Int)) = false›))
        all_goals (try (have h5 := h4 (by omega); have h6 := h3 (by omega)))
        all_goals (try simp only [Int.toNat_natCast] at *)
        · refine ⟨Nat.le_trans (Nat.mul_le_mul_right _ (Nat.le_of_eq h5.symm)) ?_, Nat.le_trans (Nat.le_of_eq h5.symm) (by omega)⟩
          show (ls.take (i + 1)).flatten.length * 8 ≤ _
          omega
        · refine Rnd.mk ⟨i + 1, by omega, by omega, ?_⟩
          repeat' ((conv => whnf);first|(with_reducible first|rfl|exact absTF|exact absFT)|exact True.intro|intro _|refine And.intro ?_ ?_|refine Fin.mk ?_|refine W1 rfl ?_ ?_|refine W2 rfl ?_ ?_|refine W3 rfl ?_ ?_|refine W4 ?_ ?_|refine W5 rfl ?_ ?_|refine W6 ?_ ?_|refine AppN.mk ?_|refine X1 (W1 rfl ?_ ?_)|refine X1 (W2 rfl ?_ ?_)|refine X2 (W7 rfl ?_ ?_)|refine X3 (W7 rfl ?_ ?_)|refine X4 (W7 rfl ?_ ?_)|refine X5 (W7 rfl ?_ ?_))
          all_goals (try (conv => whnf))
          all_goals (try first|exact Ob.mk (u8_bnd _)|(refine Ob.mk ?_;first|exact True.intro|assumption|omega|(try simp only [ZA,ZB,ZC,ZD,ZE,ZF,ZG,ZH,ZI,ZJ,ZK,ZL,ZM,ZN,ZO,Int.toNat_natCast,UInt8.ofNat_toNat,cast_eq] at *;omega)))
          all_goals (try first|(show (_:Int) = _;omega)|(show tupSV _ = _;with_unfolding_all rfl)|((first|show (_:Nat) ≤ _|show (_:Nat) ≤ _ ∧ (_:Nat) ≤ _|show (_:Int) ≤ _ ∧ (_:Int) ≤ _ ∧ (_:Int) ≤ _ ∧ (_:Int) ≤ _);(simp <;> omega)))
          all_goals (first | rfl | omega | exact congrArg _ h6.symm | (rw [h6]; rfl) | trace_state)
        · obtain rfl : i = ls.length := by omega
          rw [List.take_length]
end Go.Vc

namespace Go.Vc
open Go.Proofs
set_option maxRecDepth 10000
set_option maxHeartbeats 4000000
def upOne (p : Int) (l : List NodeD) (k : Int) : List NodeD := if isT l k = true then l.set k.toNat (setUp (nd l k) p) else l
def upsT (l : List NodeD) (p : Int) (ks : List Int) : List NodeD := ks.foldl (upOne p) l
def setK (l : List NodeD) (i : Int) (ks : List Int) : List NodeD := l.set i.toNat (setKids (nd l i) ks)
def moveT (l : List NodeD) (a b : Int) : List NodeD :=
  if (!isT l a || !isT l b || holdsT l a b) = true then l else
  setK (setK (upsT l b (nd l a).kids) b ((nd (upsT l b (nd l a).kids) b).kids ++ (nd l a).kids)) a []
theorem upOne_len (p k : Int) (l : List NodeD) : (upOne p l k).length = l.length := by unfold upOne; split <;> simp
theorem ups_len (p : Int) (ks : List Int) : ∀ l : List NodeD, (upsT l p ks).length = l.length := by
  induction ks with
  | nil => intro l; rfl
  | cons k ks ih => intro l; show (upsT (upOne p l k) p ks).length = _; rw [ih, upOne_len]
theorem ups_step (l : List NodeD) (p : Int) (ks : List Int) (i : Nat) (h : i < ks.length) : upsT l p (ks.take (i + 1)) = upOne p (upsT l p (ks.take i)) (ks.getD i 0) := by
  unfold upsT
  rw [List.take_succ_eq_append_getElem h, List.foldl_append]
  simp [List.getD, List.getElem?_eq_getElem h]
theorem ups_rest (p : Int) (ks : List Int) : ∀ (l : List NodeD) (i : Nat), ((upsT l p ks).getD i nodeTy.dflt).kids = (l.getD i nodeTy.dflt).kids ∧ ((upsT l p ks).getD i nodeTy.dflt).2.2.2.1 = (l.getD i nodeTy.dflt).2.2.2.1 := by
  induction ks with
  | nil => intro l i; exact ⟨rfl, rfl⟩
  | cons k ks ih =>
    intro l i
    show ((upsT (upOne p l k) p ks).getD i nodeTy.dflt).kids = _ ∧ ((upsT (upOne p l k) p ks).getD i nodeTy.dflt).2.2.2.1 = _
    rw [(ih _ i).1, (ih _ i).2]
    unfold upOne
    split
    · rw [getD_set]
      split
      · rename_i h
        obtain ⟨rfl, h2⟩ := h
        exact ⟨rfl, rfl⟩
      · exact ⟨rfl, rfl⟩
    · exact ⟨rfl, rfl⟩
theorem isT_len {l l' : List NodeD} (h : l'.length = l.length) (i : Int) : isT l' i = isT l i := by unfold isT; rw [h]
instance gMove (l : List NodeD) (a b : Int) : FnM BB 47 [.loc 0 0, .int .i64 a, .int .i64 b] [(0, .box [.own 1]), (1, .own nodeTy l)] (smallT l = true)
      (.tup []) [(0, .box [.own 1]), (1, .own nodeTy (moveT l a b))] := by
  refine FnM.intro (N := 84) [0, 1, 2, 6, 8, 30, 39, 40, 41, 42, 49] [(8, [0, 0, 0, 1, 0, 0, 0, 0, 1, 0, 1, 1, 1, 0, 1, 1, 3, 3, 3])] 2 Try.call47 Try.func47 rfl rfl (by kernel_rfl) (fun hpre => ?_)
  have hsm := small_len hpre
  have hg : (!isT l a || !isT l b || holdsT l a b) = true → moveT l a b = l := fun h => by unfold moveT; rw [if_pos h]
  have hg' : (!isT l a || !isT l b || holdsT l a b) = false → (0 ≤ a ∧ a < l.length) ∧ (0 ≤ b ∧ b < l.length) ∧ moveT l a b = setK (setK (upsT l b (nd l a).kids) b ((nd (upsT l b (nd l a).kids) b).kids ++ (nd l a).kids)) a [] := fun h => by
    rw [Bool.or_eq_false_iff, Bool.or_eq_false_iff] at h
    refine ⟨isT_iff.1 (by simpa using h.1.1), isT_iff.1 (by simpa using h.1.2), ?_⟩
    unfold moveT; rw [if_neg]; simp [h.1.1, h.1.2, h.2]
  have hka := fun h => (small_at hpre a h).2
  have hkb := fun h => (small_at hpre b h).2
  repeat' ((conv => whnf);first|(with_reducible first|rfl|exact absTF|exact absFT)|exact True.intro|intro _|refine And.intro ?_ ?_|refine Fin.mk ?_|refine W1 rfl ?_ ?_|refine W2 rfl ?_ ?_|refine W3 rfl ?_ ?_|refine W4 ?_ ?_|refine W5 rfl ?_ ?_|refine W6 ?_ ?_|refine AppN.mk ?_|refine X1 (W1 rfl ?_ ?_)|refine X1 (W2 rfl ?_ ?_)|refine X2 (W7 rfl ?_ ?_)|refine X3 (W7 rfl ?_ ?_)|refine X4 (W7 rfl ?_ ?_)|refine X5 (W7 rfl ?_ ?_))
  all_goals (try (conv => whnf))
  all_goals (try first|exact Ob.mk (u8_bnd _)|(refine Ob.mk ?_;first|exact True.intro|assumption|omega|(try simp only [ZA,ZB,ZC,ZD,ZE,ZF,ZG,ZH,ZI,ZJ,ZK,ZL,ZM,ZN,ZO,Int.toNat_natCast,UInt8.ofNat_toNat,cast_eq] at *;omega)))
  all_goals (try first|(show (_:Int) = _;omega)|(show tupSV _ = _;with_unfolding_all rfl)|((first|show (_:Nat) ≤ _|show (_:Nat) ≤ _ ∧ (_:Nat) ≤ _|show (_:Int) ≤ _ ∧ (_:Int) ≤ _ ∧ (_:Int) ≤ _ ∧ (_:Int) ≤ _);(simp <;> omega)))
  all_goals (try (have q := hg ‹(!isT l a || !isT l b || holdsT l a b) = true›))
  all_goals (try (have q := hg' ‹(!isT l a || !isT l b || holdsT l a b) = false›; obtain ⟨q1, q2, q3⟩ := q))
  all_goals (first | (rw [q]; done) | exact q1 | omega | skip)
  have hka := hka (isT_iff.2 q1)
  have hkb := hkb (isT_iff.2 q2)
  generalize hks : (nd l a).kids = ks at *
  have hks' : (l.getD a.toNat nodeTy.dflt).2.2.2.2.2.2 = ks := hks
  rw [hks']
  refine LoopStop.mk (α := Nat) (fun i => [(41, .int .i64 i)]) (fun i => [(1, .own nodeTy (upsT l b (ks.take i)))]) 40 (fun i => i ≤ ks.length) (fun i => ks.length - i) 0 (by simp) ?_ (fun i hi => ?_)
  · repeat' ((conv => whnf);first|(with_reducible first|rfl|exact absTF|exact absFT)|exact True.intro|intro _|refine And.intro ?_ ?_|refine Fin.mk ?_|refine W1 rfl ?_ ?_|refine W2 rfl ?_ ?_|refine W3 rfl ?_ ?_|refine W4 ?_ ?_|refine W5 rfl ?_ ?_|refine W6 ?_ ?_|refine AppN.mk ?_|refine X1 (W1 rfl ?_ ?_)|refine X1 (W2 rfl ?_ ?_)|refine X2 (W7 rfl ?_ ?_)|refine X3 (W7 rfl ?_ ?_)|refine X4 (W7 rfl ?_ ?_)|refine X5 (W7 rfl ?_ ?_))
    all_goals (try (conv => whnf))
    all_goals (try first|exact Ob.mk (u8_bnd _)|(refine Ob.mk ?_;first|exact True.intro|assumption|omega|(try simp only [ZA,ZB,ZC,ZD,ZE,ZF,ZG,ZH,ZI,ZJ,ZK,ZL,ZM,ZN,ZO,Int.toNat_natCast,UInt8.ofNat_toNat,cast_eq] at *;omega)))
    all_goals (try first|(show (_:Int) = _;omega)|(show tupSV _ = _;with_unfolding_all rfl)|((first|show (_:Nat) ≤ _|show (_:Nat) ≤ _ ∧ (_:Nat) ≤ _|show (_:Int) ≤ _ ∧ (_:Int) ≤ _ ∧ (_:Int) ≤ _ ∧ (_:Int) ≤ _);(simp <;> omega)))
    all_goals (first | rfl | trace_state)
  · have hl := ups_len b (ks.take i) l
    have hs := ups_step l b ks i
    have hsm' : ∀ x : Int, isT (upsT l b (ks.take i)) x = isT l x := isT_len hl
    repeat' ((conv => whnf);first|(with_reducible first|rfl|exact absTF|exact absFT)|exact True.intro|intro _|refine And.intro ?_ ?_|refine Fin.mk ?_|refine W1 rfl ?_ ?_|refine W2 rfl ?_ ?_|refine W3 rfl ?_ ?_|refine W4 ?_ ?_|refine W5 rfl ?_ ?_|refine W6 ?_ ?_|refine AppN.mk ?_|refine X1 (W1 rfl ?_ ?_)|refine X1 (W2 rfl ?_ ?_)|refine X2 (W7 rfl ?_ ?_)|refine X3 (W7 rfl ?_ ?_)|refine X4 (W7 rfl ?_ ?_)|refine X5 (W7 rfl ?_ ?_))
    all_goals (try (conv => whnf))
    all_goals (try first|exact Ob.mk (u8_bnd _)|(refine Ob.mk ?_;first|exact True.intro|assumption|omega|(try simp only [ZA,ZB,ZC,ZD,ZE,ZF,ZG,ZH,ZI,ZJ,ZK,ZL,ZM,ZN,ZO,Int.toNat_natCast,UInt8.ofNat_toNat,cast_eq] at *;omega)))
    all_goals (try first|(show (_:Int) = _;omega)|(show tupSV _ = _;with_unfolding_all rfl)|((first|show (_:Nat) ≤ _|show (_:Nat) ≤ _ ∧ (_:Nat) ≤ _|show (_:Int) ≤ _ ∧ (_:Int) ≤ _ ∧ (_:Int) ≤ _ ∧ (_:Int) ≤ _);(simp <;> omega)))
    all_goals (try (have b1 := of_decide_eq_true ‹decide ((i : Int) < (ks.length : Int)) = true›; have hs := hs (by omega)))
    all_goals (try (have b1 := of_decide_eq_false ‹decide ((i : Int) < (ks.length : Int)) = false›))
    all_goals (try simp only [Int.toNat_natCast] at *)
    all_goals (try (have ht := isT_iff.1 ‹isT (upsT l b (List.take i ks)) _ = true›))
    all_goals (first | omega | exact ht | (show Int.toNat _ < _; omega) | skip)
    · have hs2 : upsT l b (ks.take (i + 1)) = (upsT l b (ks.take i)).set (ks.getD i 0).toNat (setUp (nd (upsT l b (ks.take i)) (ks.getD i 0)) b) := by
        rw [hs, upOne, if_pos ‹isT (upsT l b (List.take i ks)) _ = true›]
      refine Rnd.mk ⟨i + 1, by omega, by omega, ?_⟩
      repeat' ((conv => whnf);first|(with_reducible first|rfl|exact absTF|exact absFT)|exact True.intro|intro _|refine And.intro ?_ ?_|refine Fin.mk ?_|refine W1 rfl ?_ ?_|refine W2 rfl ?_ ?_|refine W3 rfl ?_ ?_|refine W4 ?_ ?_|refine W5 rfl ?_ ?_|refine W6 ?_ ?_|refine AppN.mk ?_|refine X1 (W1 rfl ?_ ?_)|refine X1 (W2 rfl ?_ ?_)|refine X2 (W7 rfl ?_ ?_)|refine X3 (W7 rfl ?_ ?_)|refine X4 (W7 rfl ?_ ?_)|refine X5 (W7 rfl ?_ ?_))
      all_goals (try (conv => whnf))
      all_goals (try first|exact Ob.mk (u8_bnd _)|(refine Ob.mk ?_;first|exact True.intro|assumption|omega|(try simp only [ZA,ZB,ZC,ZD,ZE,ZF,ZG,ZH,ZI,ZJ,ZK,ZL,ZM,ZN,ZO,Int.toNat_natCast,UInt8.ofNat_toNat,cast_eq] at *;omega)))
      all_goals (try first|(show (_:Int) = _;omega)|(show tupSV _ = _;with_unfolding_all rfl)|((first|show (_:Nat) ≤ _|show (_:Nat) ≤ _ ∧ (_:Nat) ≤ _|show (_:Int) ≤ _ ∧ (_:Int) ≤ _ ∧ (_:Int) ≤ _ ∧ (_:Int) ≤ _);(simp <;> omega)))
      all_goals (first | rfl | omega | (rw [hs2]; done) | (rw [hs2]; rfl) | trace_state)
    · have hs2 : upsT l b (ks.take (i + 1)) = upsT l b (ks.take i) := by
        rw [hs, upOne, if_neg (by rw [show isT (upsT l b (List.take i ks)) (ks.getD i 0) = false from ‹_›]; decide)]
      refine Rnd.mk ⟨i + 1, by omega, by omega, ?_⟩
      repeat' ((conv => whnf);first|(with_reducible first|rfl|exact absTF|exact absFT)|exact True.intro|intro _|refine And.intro ?_ ?_|refine Fin.mk ?_|refine W1 rfl ?_ ?_|refine W2 rfl ?_ ?_|refine W3 rfl ?_ ?_|refine W4 ?_ ?_|refine W5 rfl ?_ ?_|refine W6 ?_ ?_|refine AppN.mk ?_|refine X1 (W1 rfl ?_ ?_)|refine X1 (W2 rfl ?_ ?_)|refine X2 (W7 rfl ?_ ?_)|refine X3 (W7 rfl ?_ ?_)|refine X4 (W7 rfl ?_ ?_)|refine X5 (W7 rfl ?_ ?_))
      all_goals (try (conv => whnf))
      all_goals (try first|exact Ob.mk (u8_bnd _)|(refine Ob.mk ?_;first|exact True.intro|assumption|omega|(try simp only [ZA,ZB,ZC,ZD,ZE,ZF,ZG,ZH,ZI,ZJ,ZK,ZL,ZM,ZN,ZO,Int.toNat_natCast,UInt8.ofNat_toNat,cast_eq] at *;omega)))
      all_goals (try first|(show (_:Int) = _;omega)|(show tupSV _ = _;with_unfolding_all rfl)|((first|show (_:Nat) ≤ _|show (_:Nat) ≤ _ ∧ (_:Nat) ≤ _|show (_:Int) ≤ _ ∧ (_:Int) ≤ _ ∧ (_:Int) ≤ _ ∧ (_:Int) ≤ _);(simp <;> omega)))
      all_goals (first | rfl | omega | (rw [hs2]; done) | (rw [hs2]; rfl) | trace_state)
    all_goals (obtain rfl : i = ks.length := by omega)
    all_goals (simp only [List.take_length] at *)
    all_goals (have hr := (ups_rest b ks l b.toNat).1)
    · have hr' : List.length (((upsT l b ks).getD b.toNat nodeTy.dflt).2.2.2.2.2.2) ≤ 1000 := by rw [show ((upsT l b ks).getD b.toNat nodeTy.dflt).2.2.2.2.2.2 = _ from hr]; exact hkb
      refine ⟨by simp, ?_⟩
      simp only [List.flatten_cons, List.flatten_nil, List.append_nil, List.length_append]
      exact Nat.le_trans (Nat.add_le_add hr' hka) (by omega)
    all_goals (try simp only [List.length_set, hl, List.flatten_cons, List.flatten_nil, List.append_nil])
    all_goals (first | exact q1 | omega | (show Int.toNat _ < _; omega) | (rw [q3]; rfl) | skip)
    all_goals trace_state
end Go.Vc

namespace Go.Vc
open Go.Proofs
set_option maxRecDepth 10000
set_option maxHeartbeats 4000000
instance hIs (l : List NodeD) (i : Int) : Fn BB 49 [.agg [.rd nodeTy l], .int .i64 i] True (.bool (isT l i)) := by
  refine Fn.intro (N := 14) [0, 1, 2, 4] [] Try.call49 Try.func49 rfl rfl (by kernel_rfl) (fun hpre => ?_)
  repeat' ((conv => whnf);first|(with_reducible first|rfl|exact absTF|exact absFT)|exact True.intro|intro _|refine And.intro ?_ ?_|refine Fin.mk ?_|refine W1 rfl ?_ ?_|refine W2 rfl ?_ ?_|refine W3 rfl ?_ ?_|refine W4 ?_ ?_|refine W5 rfl ?_ ?_|refine W6 ?_ ?_|refine AppN.mk ?_|refine X1 (W1 rfl ?_ ?_)|refine X1 (W2 rfl ?_ ?_)|refine X2 (W7 rfl ?_ ?_)|refine X3 (W7 rfl ?_ ?_)|refine X4 (W7 rfl ?_ ?_)|refine X5 (W7 rfl ?_ ?_))
  all_goals (try (conv => whnf))
  all_goals (try first|exact Ob.mk (u8_bnd _)|(refine Ob.mk ?_;first|exact True.intro|assumption|omega|(try simp only [ZA,ZB,ZC,ZD,ZE,ZF,ZG,ZH,ZI,ZJ,ZK,ZL,ZM,ZN,ZO,Int.toNat_natCast,UInt8.ofNat_toNat,cast_eq] at *;omega)))
  all_goals (try first|(show (_:Int) = _;omega)|(show tupSV _ = _;with_unfolding_all rfl)|((first|show (_:Nat) ≤ _|show (_:Nat) ≤ _ ∧ (_:Nat) ≤ _|show (_:Int) ≤ _ ∧ (_:Int) ≤ _ ∧ (_:Int) ≤ _ ∧ (_:Int) ≤ _);(simp <;> omega)))
  all_goals (first | rfl | trace_state)
instance hAdd (l : List NodeD) (k s : Int) (nm : List UInt8) (at_ : List AttrD) (d : List UInt8) (up : Int) (kids : List Int) :
    FnM BB 42 [.loc 0 0, .agg [.int .i64 k, .int .i64 s, .str nm, .rd attrTy at_, .str d, .int .i64 up, .rd intTy kids]] [(0, .box [.own 1]), (1, .own nodeTy l)] (l.length ≤ 100000 ∧ at_.length ≤ 100000)
      (.int .i64 l.length) [(0, .box [.own 1]), (1, .own nodeTy (addT l (k, s, nm, at_, d, up, kids)))] := by
  refine FnM.intro (N := 28) [0, 1, 3, 4] [(3, [0, 0, 0, 0, 1, 1, 1, 3, 0, 0, 3]), (1000003, [3])] 2 Try.call42 Try.func42 rfl rfl (by kernel_rfl) (fun hpre => ?_)
  obtain ⟨hp1, hp2⟩ := hpre
  repeat' ((conv => whnf);first|(with_reducible first|rfl|exact absTF|exact absFT)|exact True.intro|intro _|refine And.intro ?_ ?_|refine Fin.mk ?_|refine W1 rfl ?_ ?_|refine W2 rfl ?_ ?_|refine W3 rfl ?_ ?_|refine W4 ?_ ?_|refine W5 rfl ?_ ?_|refine W6 ?_ ?_|refine AppN.mk ?_|refine X1 (W1 rfl ?_ ?_)|refine X1 (W2 rfl ?_ ?_)|refine X2 (W7 rfl ?_ ?_)|refine X3 (W7 rfl ?_ ?_)|refine X4 (W7 rfl ?_ ?_)|refine X5 (W7 rfl ?_ ?_))
  all_goals (try (conv => whnf))
  all_goals (try first|exact Ob.mk (u8_bnd _)|(refine Ob.mk ?_;first|exact True.intro|assumption|omega|(try simp only [ZA,ZB,ZC,ZD,ZE,ZF,ZG,ZH,ZI,ZJ,ZK,ZL,ZM,ZN,ZO,Int.toNat_natCast,UInt8.ofNat_toNat,cast_eq] at *;omega)))
  all_goals (try first|(show (_:Int) = _;omega)|(show tupSV _ = _;with_unfolding_all rfl)|((first|show (_:Nat) ≤ _|show (_:Nat) ≤ _ ∧ (_:Nat) ≤ _|show (_:Int) ≤ _ ∧ (_:Int) ≤ _ ∧ (_:Int) ≤ _ ∧ (_:Int) ≤ _);(simp <;> omega)))
  all_goals (first | (simp; done) | rfl | trace_state)
instance hHolds (l : List NodeD) (up kid : Int) : Fn BB 12 [.agg [.rd nodeTy l], .int .i64 up, .int .i64 kid] (l.length ≤ 100000) (.bool (holdsT l up kid)) := by
  refine Fn.intro (N := 34) [0, 1, 2, 3, 6, 7, 22, 27] [] Try.call12 Try.func12 rfl rfl (by kernel_rfl) (fun hpre => ?_)
  repeat' ((conv => whnf);first|(with_reducible first|rfl|exact absTF|exact absFT)|exact True.intro|intro _|refine And.intro ?_ ?_|refine Fin.mk ?_|refine W1 rfl ?_ ?_|refine W2 rfl ?_ ?_|refine W3 rfl ?_ ?_|refine W4 ?_ ?_|refine W5 rfl ?_ ?_|refine W6 ?_ ?_|refine AppN.mk ?_|refine X1 (W1 rfl ?_ ?_)|refine X1 (W2 rfl ?_ ?_)|refine X2 (W7 rfl ?_ ?_)|refine X3 (W7 rfl ?_ ?_)|refine X4 (W7 rfl ?_ ?_)|refine X5 (W7 rfl ?_ ?_))
  all_goals (try (conv => whnf))
  all_goals (try first|exact Ob.mk (u8_bnd _)|(refine Ob.mk ?_;first|exact True.intro|assumption|omega|(try simp only [ZA,ZB,ZC,ZD,ZE,ZF,ZG,ZH,ZI,ZJ,ZK,ZL,ZM,ZN,ZO,Int.toNat_natCast,UInt8.ofNat_toNat,cast_eq] at *;omega)))
  all_goals (try first|(show (_:Int) = _;omega)|(show tupSV _ = _;with_unfolding_all rfl)|((first|show (_:Nat) ≤ _|show (_:Nat) ≤ _ ∧ (_:Nat) ≤ _|show (_:Int) ≤ _ ∧ (_:Int) ≤ _ ∧ (_:Int) ≤ _ ∧ (_:Int) ≤ _);(simp <;> omega)))
  refine LoopStop.mk (α := Nat × Int) (fun a => [(7, .int .i64 (a.1 : Nat)), (2, .int .i64 a.2)]) (fun _ => []) 30 (fun a => a.1 ≤ l.length + 1 ∧ (isT l up && holdsF (l.length + 1 - a.1) l up a.2) = holdsT l up kid) (fun a => l.length + 1 - a.1) (0, kid) ⟨by simp, rfl⟩ ?_ (fun a ha => ?_)
  · repeat' ((conv => whnf);first|(with_reducible first|rfl|exact absTF|exact absFT)|exact True.intro|intro _|refine And.intro ?_ ?_|refine Fin.mk ?_|refine W1 rfl ?_ ?_|refine W2 rfl ?_ ?_|refine W3 rfl ?_ ?_|refine W4 ?_ ?_|refine W5 rfl ?_ ?_|refine W6 ?_ ?_|refine AppN.mk ?_|refine X1 (W1 rfl ?_ ?_)|refine X1 (W2 rfl ?_ ?_)|refine X2 (W7 rfl ?_ ?_)|refine X3 (W7 rfl ?_ ?_)|refine X4 (W7 rfl ?_ ?_)|refine X5 (W7 rfl ?_ ?_))
    all_goals (try (conv => whnf))
    all_goals (try first|exact Ob.mk (u8_bnd _)|(refine Ob.mk ?_;first|exact True.intro|assumption|omega|(try simp only [ZA,ZB,ZC,ZD,ZE,ZF,ZG,ZH,ZI,ZJ,ZK,ZL,ZM,ZN,ZO,Int.toNat_natCast,UInt8.ofNat_toNat,cast_eq] at *;omega)))
    all_goals (try first|(show (_:Int) = _;omega)|(show tupSV _ = _;with_unfolding_all rfl)|((first|show (_:Nat) ≤ _|show (_:Nat) ≤ _ ∧ (_:Nat) ≤ _|show (_:Int) ≤ _ ∧ (_:Int) ≤ _ ∧ (_:Int) ≤ _ ∧ (_:Int) ≤ _);(simp <;> omega)))
    all_goals (first | rfl | trace_state)
  · obtain ⟨k, x⟩ := a
    obtain ⟨h1, h2⟩ := ha
    dsimp only at h1 h2
    have c1 : (decide ((k : Int) ≤ (l.length : Int)) && isT l x && isT l up) = true → k ≤ l.length ∧ isT l x = true ∧ isT l up = true ∧ holdsF (l.length + 1 - k) l up x = holdsT l up kid := fun h => by
      simp only [Bool.and_eq_true] at h
      have h3 := of_decide_eq_true h.1.1
      rw [h.2, Bool.true_and] at h2
      exact ⟨by omega, h.1.2, h.2, h2⟩
    have c0 : (decide ((k : Int) ≤ (l.length : Int)) && isT l x && isT l up) = false → false = holdsT l up kid := fun h => by
      rw [← h2]
      by_cases hu : isT l up = true
      · by_cases hx : isT l x = true
        · rw [hu, hx, Bool.and_true, Bool.and_true] at h
          have := of_decide_eq_false h
          rw [show l.length + 1 - k = 0 by omega, hu]; rfl
        · have : holdsF (l.length + 1 - k) l up x = false := by
            cases l.length + 1 - k with
            | zero => rfl
            | succ m => rw [holdsF, if_neg hx]
          rw [this, Bool.and_false]
      · rw [show isT l up = false by simpa using hu]; rfl
    have c2 : (decide ((k : Int) ≤ (l.length : Int)) && isT l x && isT l up) = true → (x == up) = true → true = holdsT l up kid := fun h h' => by
      obtain ⟨q1, q2, q3, q4⟩ := c1 h
      rw [← q4, show l.length + 1 - k = (l.length - k) + 1 by omega, holdsF, if_pos q2, if_pos (by simpa using h')]
    have c3 : (decide ((k : Int) ≤ (l.length : Int)) && isT l x && isT l up) = true → (x == up) = false → k ≤ l.length ∧ (isT l up && holdsF (l.length + 1 - (k + 1)) l up (nd l x).up) = holdsT l up kid := fun h h' => by
      obtain ⟨q1, q2, q3, q4⟩ := c1 h
      rw [← q4, show l.length + 1 - k = (l.length - k) + 1 by omega, holdsF, if_pos q2, if_neg (by simpa using h'), q3, Bool.true_and, show l.length + 1 - (k + 1) = l.length - k by omega]
      exact ⟨q1, rfl⟩
    repeat' ((conv => whnf);first|(with_reducible first|rfl|exact absTF|exact absFT)|exact True.intro|intro _|refine And.intro ?_ ?_|refine Fin.mk ?_|refine W1 rfl ?_ ?_|refine W2 rfl ?_ ?_|refine W3 rfl ?_ ?_|refine W4 ?_ ?_|refine W5 rfl ?_ ?_|refine W6 ?_ ?_|refine AppN.mk ?_|refine X1 (W1 rfl ?_ ?_)|refine X1 (W2 rfl ?_ ?_)|refine X2 (W7 rfl ?_ ?_)|refine X3 (W7 rfl ?_ ?_)|refine X4 (W7 rfl ?_ ?_)|refine X5 (W7 rfl ?_ ?_))
    all_goals (try (conv => whnf))
    all_goals (try first|exact Ob.mk (u8_bnd _)|(refine Ob.mk ?_;first|exact True.intro|assumption|omega|(try simp only [ZA,ZB,ZC,ZD,ZE,ZF,ZG,ZH,ZI,ZJ,ZK,ZL,ZM,ZN,ZO,Int.toNat_natCast,UInt8.ofNat_toNat,cast_eq] at *;omega)))
    all_goals (try first|(show (_:Int) = _;omega)|(show tupSV _ = _;with_unfolding_all rfl)|((first|show (_:Nat) ≤ _|show (_:Nat) ≤ _ ∧ (_:Nat) ≤ _|show (_:Int) ≤ _ ∧ (_:Int) ≤ _ ∧ (_:Int) ≤ _ ∧ (_:Int) ≤ _);(simp <;> omega)))
    all_goals (try dsimp only at *)
    all_goals (first | exact c2 ‹_› ‹_› | exact c0 ‹_› | exact isT_iff.1 (c1 ‹_›).2.1 | (have := (c1 ‹_›).1; omega) | skip)
    obtain ⟨q1, q2⟩ := c3 ‹_› ‹_›
    refine Rnd.mk ⟨(k + 1, (nd l x).up), ⟨by simp only; omega, q2⟩, by simp only; omega, ?_⟩
    repeat' ((conv => whnf);first|(with_reducible first|rfl|exact absTF|exact absFT)|exact True.intro|intro _|refine And.intro ?_ ?_|refine Fin.mk ?_|refine W1 rfl ?_ ?_|refine W2 rfl ?_ ?_|refine W3 rfl ?_ ?_|refine W4 ?_ ?_|refine W5 rfl ?_ ?_|refine W6 ?_ ?_|refine AppN.mk ?_|refine X1 (W1 rfl ?_ ?_)|refine X1 (W2 rfl ?_ ?_)|refine X2 (W7 rfl ?_ ?_)|refine X3 (W7 rfl ?_ ?_)|refine X4 (W7 rfl ?_ ?_)|refine X5 (W7 rfl ?_ ?_))
    all_goals (try (conv => whnf))
    all_goals (try first|exact Ob.mk (u8_bnd _)|(refine Ob.mk ?_;first|exact True.intro|assumption|omega|(try simp only [ZA,ZB,ZC,ZD,ZE,ZF,ZG,ZH,ZI,ZJ,ZK,ZL,ZM,ZN,ZO,Int.toNat_natCast,UInt8.ofNat_toNat,cast_eq] at *;omega)))
    all_goals (try first|(show (_:Int) = _;omega)|(show tupSV _ = _;with_unfolding_all rfl)|((first|show (_:Nat) ≤ _|show (_:Nat) ≤ _ ∧ (_:Nat) ≤ _|show (_:Int) ≤ _ ∧ (_:Int) ≤ _ ∧ (_:Int) ≤ _ ∧ (_:Int) ≤ _);(simp <;> omega)))
    all_goals (first | rfl | omega | trace_state)
end Go.Vc

namespace Go.Vc
open Go.Proofs
set_option maxRecDepth 10000
set_option maxHeartbeats 4000000
theorem take_one (l : List Int) (i : Nat) (h : i < l.length) : l.take (i + 1) = l.take i ++ [l.getD i 0] := by
  rw [List.take_succ_eq_append_getElem h]; simp [List.getD, List.getElem?_eq_getElem h]
def delA (l : List Int) (a i : Nat) : List Int := (l.take a).take i ++ (l.take i).drop (a + 1)
theorem delA_step (l : List Int) (a i : Nat) (h : i < l.length) (ha : a ≤ l.length) : delA l a (i + 1) = if i = a then delA l a i else delA l a i ++ [l.getD i 0] := by
  unfold delA
  rcases Nat.lt_trichotomy i a with q | q | q
  · rw [if_neg (by omega), List.take_take, List.take_take, Nat.min_eq_left (by omega), Nat.min_eq_left (by omega), List.drop_eq_nil_of_le (by rw [List.length_take]; omega), List.drop_eq_nil_of_le (by rw [List.length_take]; omega), List.append_nil, List.append_nil]
    exact take_one l i h
  · subst q
    rw [if_pos rfl, List.take_take, List.take_take, Nat.min_eq_right (by omega), Nat.min_self, List.drop_eq_nil_of_le (by rw [List.length_take]; omega), List.drop_eq_nil_of_le (by rw [List.length_take]; omega)]
  · rw [if_neg (by omega), List.take_take, List.take_take, Nat.min_eq_right (by omega), Nat.min_eq_right (by omega), take_one l i h, List.drop_append_of_le_length (by rw [List.length_take]; omega), List.append_assoc]
theorem delA_end (l : List Int) (a : Nat) (h : a ≤ l.length) : delA l a l.length = l.take a ++ l.drop (a + 1) := by
  unfold delA
  rw [List.take_take, List.take_length, Nat.min_eq_right h]
theorem delA_len (l : List Int) (a i : Nat) : (delA l a i).length ≤ i + i := by
  unfold delA; simp only [List.length_append, List.length_take, List.length_drop]; omega
def insA (l : List Int) (a : Nat) (n : Int) (i : Nat) : List Int := (l.take a).take i ++ ((if a < i then [n] else []) ++ (l.take i).drop a)
theorem insA_step (l : List Int) (a : Nat) (n : Int) (i : Nat) (h : i ≤ l.length) (ha : a ≤ l.length) : insA l a n (i + 1) = (if i = a then insA l a n i ++ [n] else insA l a n i) ++ (if i < l.length then [l.getD i 0] else []) := by
  unfold insA
  rcases Nat.lt_trichotomy i a with q | q | q
  · rw [if_neg (show ¬ a < i + 1 by omega), if_neg (show ¬ a < i by omega), if_neg (show ¬ i = a by omega), if_pos (by omega), List.take_take, List.take_take, Nat.min_eq_left (by omega), Nat.min_eq_left (by omega), List.drop_eq_nil_of_le (by rw [List.length_take]; omega), List.drop_eq_nil_of_le (by rw [List.length_take]; omega)]
    simp only [List.append_nil]
    exact take_one l i (by omega)
  · subst q
    have hdr : (l.take i).drop i = [] := List.drop_eq_nil_of_le (by rw [List.length_take]; omega)
    rw [if_pos (show i < i + 1 by omega), if_neg (show ¬ i < i by omega), if_pos rfl, List.take_take, List.take_take, Nat.min_eq_right (by omega), Nat.min_self, hdr]
    simp only [List.append_nil, List.append_assoc]
    congr 2
    by_cases hl : i < l.length
    · rw [if_pos hl, take_one l i hl, List.drop_append_of_le_length (by rw [List.length_take]; omega), List.drop_eq_nil_of_le (by rw [List.length_take]; omega)]; rfl
    · rw [if_neg hl, List.drop_eq_nil_of_le (by rw [List.length_take]; omega)]
  · rw [if_pos (show a < i + 1 by omega), if_pos (show a < i by omega), if_neg (show ¬ i = a by omega), List.take_take, List.take_take, Nat.min_eq_right (by omega), Nat.min_eq_right (by omega)]
    by_cases hl : i < l.length
    · rw [if_pos hl, take_one l i hl, List.drop_append_of_le_length (by rw [List.length_take]; omega)]
      simp only [List.append_assoc]
    · rw [if_neg hl, List.append_nil, List.take_of_length_le (l := l) (i := i + 1) (by omega), List.take_of_length_le (l := l) (i := i) (by omega)]
theorem insA_end (l : List Int) (a : Nat) (n : Int) (h : a ≤ l.length) : insA l a n (l.length + 1) = l.take a ++ n :: l.drop a := by
  unfold insA
  rw [if_pos (by omega), List.take_take, List.take_of_length_le (l := l) (i := l.length + 1) (by omega), Nat.min_eq_right (by omega)]
  rfl
theorem insA_len (l : List Int) (a : Nat) (n : Int) (i : Nat) : (insA l a n i).length ≤ i + 1 + i := by
  unfold insA; simp only [List.length_append, List.length_take, List.length_drop]; split <;> simp <;> omega
instance hPlace (l : List NodeD) (kid : Int) : Fn BB 81 [.agg [.rd nodeTy l], .int .i64 kid] True (.int .i64 (placeT l kid)) := by
  refine Fn.intro (N := 46) [0, 1, 2, 4, 5, 6, 21, 36, 44] [(1, [1, 0, 1, 1, 1, 1, 1, 1, 1, 1, 1, 1, 3, 3, 3]), (3, [0, 1, 0, 1, 0, 1, 1, 1, 3, 3, 3, 3])] Try.call81 Try.func81 rfl rfl (by kernel_rfl) (fun hpre => ?_)
  have p0 : (!isT l kid || !isT l (nd l kid).up) = true → (-1 : Int) = placeT l kid := fun h => by
    have h := not_or_true h
    unfold placeT; rw [h]; rfl
  have p1 : (!isT l kid || !isT l (nd l kid).up) = false → (0 ≤ kid ∧ kid < l.length) ∧ (0 ≤ (nd l kid).up ∧ (nd l kid).up < l.length) ∧ placeT l kid = ixOf (nd l (nd l kid).up).kids kid := fun h => by
    obtain ⟨h1, h2⟩ := not_or_false h
    refine ⟨isT_iff.1 h1, isT_iff.1 h2, ?_⟩
    unfold placeT; rw [h1, h2]; rfl
  repeat' ((conv => whnf);first|(with_reducible first|rfl|exact absTF|exact absFT)|exact True.intro|intro _|refine And.intro ?_ ?_|refine Fin.mk ?_|refine W1 rfl ?_ ?_|refine W2 rfl ?_ ?_|refine W3 rfl ?_ ?_|refine W4 ?_ ?_|refine W5 rfl ?_ ?_|refine W6 ?_ ?_|refine AppN.mk ?_|refine X1 (W1 rfl ?_ ?_)|refine X1 (W2 rfl ?_ ?_)|refine X2 (W7 rfl ?_ ?_)|refine X3 (W7 rfl ?_ ?_)|refine X4 (W7 rfl ?_ ?_)|refine X5 (W7 rfl ?_ ?_))
  all_goals (try (conv => whnf))
  all_goals (try first|exact Ob.mk (u8_bnd _)|(refine Ob.mk ?_;first|exact True.intro|assumption|omega|(try simp only [ZA,ZB,ZC,ZD,ZE,ZF,ZG,ZH,ZI,ZJ,ZK,ZL,ZM,ZN,ZO,Int.toNat_natCast,UInt8.ofNat_toNat,cast_eq] at *;omega)))
  all_goals (try first|(show (_:Int) = _;omega)|(show tupSV _ = _;with_unfolding_all rfl)|((first|show (_:Nat) ≤ _|show (_:Nat) ≤ _ ∧ (_:Nat) ≤ _|show (_:Int) ≤ _ ∧ (_:Int) ≤ _ ∧ (_:Int) ≤ _ ∧ (_:Int) ≤ _);(simp <;> omega)))
  all_goals (try (have q := p0 ‹(!isT l kid || !isT l (nd l kid).up) = true›))
  all_goals (try (have q := p1 ‹(!isT l kid || !isT l (nd l kid).up) = false›; obtain ⟨q1, q2, q3⟩ := q))
  all_goals (first | exact q | exact q1 | exact q2 | (exact isT_iff.1 (by simp_all; done)) | skip)
  generalize hks : (nd l (nd l kid).up).kids = ks at *
  have hks' : (l.getD (l.getD kid.toNat nodeTy.dflt).2.2.2.2.2.1.toNat nodeTy.dflt).2.2.2.2.2.2 = ks := hks
  try rw [hks']
  refine LoopStop.mk (α := Nat) (fun i => [(6, .int .i64 i)]) (fun _ => []) 20 (fun i => i ≤ ks.length ∧ (ks.take i).contains kid = false) (fun i => ks.length - i) 0 (by simp) ?_ (fun i hi => ?_)
  · repeat' ((conv => whnf);first|(with_reducible first|rfl|exact absTF|exact absFT)|exact True.intro|intro _|refine And.intro ?_ ?_|refine Fin.mk ?_|refine W1 rfl ?_ ?_|refine W2 rfl ?_ ?_|refine W3 rfl ?_ ?_|refine W4 ?_ ?_|refine W5 rfl ?_ ?_|refine W6 ?_ ?_|refine AppN.mk ?_|refine X1 (W1 rfl ?_ ?_)|refine X1 (W2 rfl ?_ ?_)|refine X2 (W7 rfl ?_ ?_)|refine X3 (W7 rfl ?_ ?_)|refine X4 (W7 rfl ?_ ?_)|refine X5 (W7 rfl ?_ ?_))
    all_goals (try (conv => whnf))
    all_goals (try first|exact Ob.mk (u8_bnd _)|(refine Ob.mk ?_;first|exact True.intro|assumption|omega|(try simp only [ZA,ZB,ZC,ZD,ZE,ZF,ZG,ZH,ZI,ZJ,ZK,ZL,ZM,ZN,ZO,Int.toNat_natCast,UInt8.ofNat_toNat,cast_eq] at *;omega)))
    all_goals (try first|(show (_:Int) = _;omega)|(show tupSV _ = _;with_unfolding_all rfl)|((first|show (_:Nat) ≤ _|show (_:Nat) ≤ _ ∧ (_:Nat) ≤ _|show (_:Int) ≤ _ ∧ (_:Int) ≤ _ ∧ (_:Int) ≤ _ ∧ (_:Int) ≤ _);(simp <;> omega)))
    all_goals (first | rfl | trace_state)
  · obtain ⟨hi, ha⟩ := hi
    repeat' ((conv => whnf);first|(with_reducible first|rfl|exact absTF|exact absFT)|exact True.intro|intro _|refine And.intro ?_ ?_|refine Fin.mk ?_|refine W1 rfl ?_ ?_|refine W2 rfl ?_ ?_|refine W3 rfl ?_ ?_|refine W4 ?_ ?_|refine W5 rfl ?_ ?_|refine W6 ?_ ?_|refine AppN.mk ?_|refine X1 (W1 rfl ?_ ?_)|refine X1 (W2 rfl ?_ ?_)|refine X2 (W7 rfl ?_ ?_)|refine X3 (W7 rfl ?_ ?_)|refine X4 (W7 rfl ?_ ?_)|refine X5 (W7 rfl ?_ ?_))
    all_goals (try (conv => whnf))
    all_goals (try first|exact Ob.mk (u8_bnd _)|(refine Ob.mk ?_;first|exact True.intro|assumption|omega|(try simp only [ZA,ZB,ZC,ZD,ZE,ZF,ZG,ZH,ZI,ZJ,ZK,ZL,ZM,ZN,ZO,Int.toNat_natCast,UInt8.ofNat_toNat,cast_eq] at *;omega)))
    all_goals (try first|(show (_:Int) = _;omega)|(show tupSV _ = _;with_unfolding_all rfl)|((first|show (_:Nat) ≤ _|show (_:Nat) ≤ _ ∧ (_:Nat) ≤ _|show (_:Int) ≤ _ ∧ (_:Int) ≤ _ ∧ (_:Int) ≤ _ ∧ (_:Int) ≤ _);(simp <;> omega)))
    all_goals (try (have b1 := of_decide_eq_true ‹decide ((i : Int) < (ks.length : Int)) = true›))
    all_goals (try (have b1 := of_decide_eq_false ‹decide ((i : Int) < (ks.length : Int)) = false›))
    all_goals (try simp only [Int.toNat_natCast] at *)
    · rw [q3, ixOf_at (i := i) (by omega) ha (eq_of_beq (show (ks.getD i 0 == kid) = true from ‹_›)).symm]
    · have h : (ks.getD i 0 == kid) = false := ‹_›
      refine Rnd.mk ⟨i + 1, ⟨by omega, by rw [take_has ks i kid (by omega), ha, h]; rfl⟩, by omega, ?_⟩
      repeat' ((conv => whnf);first|(with_reducible first|rfl|exact absTF|exact absFT)|exact True.intro|intro _|refine And.intro ?_ ?_|refine Fin.mk ?_|refine W1 rfl ?_ ?_|refine W2 rfl ?_ ?_|refine W3 rfl ?_ ?_|refine W4 ?_ ?_|refine W5 rfl ?_ ?_|refine W6 ?_ ?_|refine AppN.mk ?_|refine X1 (W1 rfl ?_ ?_)|refine X1 (W2 rfl ?_ ?_)|refine X2 (W7 rfl ?_ ?_)|refine X3 (W7 rfl ?_ ?_)|refine X4 (W7 rfl ?_ ?_)|refine X5 (W7 rfl ?_ ?_))
      all_goals (try (conv => whnf))
      all_goals (try first|exact Ob.mk (u8_bnd _)|(refine Ob.mk ?_;first|exact True.intro|assumption|omega|(try simp only [ZA,ZB,ZC,ZD,ZE,ZF,ZG,ZH,ZI,ZJ,ZK,ZL,ZM,ZN,ZO,Int.toNat_natCast,UInt8.ofNat_toNat,cast_eq] at *;omega)))
      all_goals (try first|(show (_:Int) = _;omega)|(show tupSV _ = _;with_unfolding_all rfl)|((first|show (_:Nat) ≤ _|show (_:Nat) ≤ _ ∧ (_:Nat) ≤ _|show (_:Int) ≤ _ ∧ (_:Int) ≤ _ ∧ (_:Int) ≤ _ ∧ (_:Int) ≤ _);(simp <;> omega)))
      all_goals (first | rfl | omega | trace_state)
    · obtain rfl : i = ks.length := by omega
      rw [q3, ixOf_none (by rw [List.take_length] at ha; exact ha)]
instance hWith (l : List Int) (at_ n : Int) : Fn BB 83 [.rd intTy l, .int .i64 at_, .int .i64 n] (0 ≤ at_ ∧ at_ ≤ l.length ∧ l.length ≤ 100000) (.rd intTy (l.take at_.toNat ++ n :: l.drop at_.toNat)) := by
  refine Fn.intro (N := 34) [0, 1, 2, 6, 7, 8, 12, 17, 25] [] Try.call83 Try.func83 rfl rfl (by kernel_rfl) (fun hpre => ?_)
  obtain ⟨p1, p2, p3⟩ := hpre
  obtain ⟨a, rfl⟩ := Int.eq_ofNat_of_zero_le p1
  have hen := insA_end l a n (by omega)
  rw [Int.toNat_natCast]
  repeat' ((conv => whnf);first|(with_reducible first|rfl|exact absTF|exact absFT)|exact True.intro|intro _|refine And.intro ?_ ?_|refine Fin.mk ?_|refine W1 rfl ?_ ?_|refine W2 rfl ?_ ?_|refine W3 rfl ?_ ?_|refine W4 ?_ ?_|refine W5 rfl ?_ ?_|refine W6 ?_ ?_|refine AppN.mk ?_|refine X1 (W1 rfl ?_ ?_)|refine X1 (W2 rfl ?_ ?_)|refine X2 (W7 rfl ?_ ?_)|refine X3 (W7 rfl ?_ ?_)|refine X4 (W7 rfl ?_ ?_)|refine X5 (W7 rfl ?_ ?_))
  all_goals (try (conv => whnf))
  all_goals (try first|exact Ob.mk (u8_bnd _)|(refine Ob.mk ?_;first|exact True.intro|assumption|omega|(try simp only [ZA,ZB,ZC,ZD,ZE,ZF,ZG,ZH,ZI,ZJ,ZK,ZL,ZM,ZN,ZO,Int.toNat_natCast,UInt8.ofNat_toNat,cast_eq] at *;omega)))
  all_goals (try first|(show (_:Int) = _;omega)|(show tupSV _ = _;with_unfolding_all rfl)|((first|show (_:Nat) ≤ _|show (_:Nat) ≤ _ ∧ (_:Nat) ≤ _|show (_:Int) ≤ _ ∧ (_:Int) ≤ _ ∧ (_:Int) ≤ _ ∧ (_:Int) ≤ _);(simp <;> omega)))
  refine LoopStop.mk (α := Nat) (fun i => [(8, .int .i64 i), (7, .own 20)]) (fun i => [(20, .own intTy (insA l a n i))]) 30 (fun i => i ≤ l.length + 1) (fun i => l.length + 1 - i) 0 (by simp) ?_ (fun i hi => ?_)
  · repeat' ((conv => whnf);first|(with_reducible first|rfl|exact absTF|exact absFT)|exact True.intro|intro _|refine And.intro ?_ ?_|refine Fin.mk ?_|refine W1 rfl ?_ ?_|refine W2 rfl ?_ ?_|refine W3 rfl ?_ ?_|refine W4 ?_ ?_|refine W5 rfl ?_ ?_|refine W6 ?_ ?_|refine AppN.mk ?_|refine X1 (W1 rfl ?_ ?_)|refine X1 (W2 rfl ?_ ?_)|refine X2 (W7 rfl ?_ ?_)|refine X3 (W7 rfl ?_ ?_)|refine X4 (W7 rfl ?_ ?_)|refine X5 (W7 rfl ?_ ?_))
    all_goals (try (conv => whnf))
    all_goals (try first|exact Ob.mk (u8_bnd _)|(refine Ob.mk ?_;first|exact True.intro|assumption|omega|(try simp only [ZA,ZB,ZC,ZD,ZE,ZF,ZG,ZH,ZI,ZJ,ZK,ZL,ZM,ZN,ZO,Int.toNat_natCast,UInt8.ofNat_toNat,cast_eq] at *;omega)))
    all_goals (try first|(show (_:Int) = _;omega)|(show tupSV _ = _;with_unfolding_all rfl)|((first|show (_:Nat) ≤ _|show (_:Nat) ≤ _ ∧ (_:Nat) ≤ _|show (_:Int) ≤ _ ∧ (_:Int) ≤ _ ∧ (_:Int) ≤ _ ∧ (_:Int) ≤ _);(simp <;> omega)))
    all_goals (first | rfl | (simp [insA]; done) | trace_state)
  · have hl := insA_len l a n i
    have hst := insA_step l a n i
    repeat' ((conv => whnf);first|(with_reducible first|rfl|exact absTF|exact absFT)|exact True.intro|intro _|refine And.intro ?_ ?_|refine Fin.mk ?_|refine W1 rfl ?_ ?_|refine W2 rfl ?_ ?_|refine W3 rfl ?_ ?_|refine W4 ?_ ?_|refine W5 rfl ?_ ?_|refine W6 ?_ ?_|refine AppN.mk ?_|refine X1 (W1 rfl ?_ ?_)|refine X1 (W2 rfl ?_ ?_)|refine X2 (W7 rfl ?_ ?_)|refine X3 (W7 rfl ?_ ?_)|refine X4 (W7 rfl ?_ ?_)|refine X5 (W7 rfl ?_ ?_))
    all_goals (try (conv => whnf))
    all_goals (try first|exact Ob.mk (u8_bnd _)|(refine Ob.mk ?_;first|exact True.intro|assumption|omega|(try simp only [ZA,ZB,ZC,ZD,ZE,ZF,ZG,ZH,ZI,ZJ,ZK,ZL,ZM,ZN,ZO,Int.toNat_natCast,UInt8.ofNat_toNat,cast_eq] at *;omega)))
    all_goals (try first|(show (_:Int) = _;omega)|(show tupSV _ = _;with_unfolding_all rfl)|((first|show (_:Nat) ≤ _|show (_:Nat) ≤ _ ∧ (_:Nat) ≤ _|show (_:Int) ≤ _ ∧ (_:Int) ≤ _ ∧ (_:Int) ≤ _ ∧ (_:Int) ≤ _);(simp <;> omega)))
    all_goals (try (have b := of_decide_eq_true ‹decide ((i : Int) ≤ (l.length : Int)) = true›; have hs := hst (by omega) (by omega)))
    all_goals (try (have e1 : i = a := by (have h : ((i : Int) == (a : Int)) = true := ‹_›; have := eq_of_beq h; omega)))
    all_goals (try (have e1 : ¬ i = a := by (have h : ((i : Int) == (a : Int)) = false := ‹_›; rw [beq_eq_false_iff_ne] at h; omega)))
    all_goals (try (have b2 : i < l.length := by (have h := of_decide_eq_true ‹decide ((i : Int) < (l.length : Int)) = true›; omega)))
    all_goals (try (have b2 : ¬ i < l.length := by (have h := of_decide_eq_false ‹decide ((i : Int) < (l.length : Int)) = false›; omega)))
    all_goals (try rw [if_pos e1] at hs)
    all_goals (try rw [if_neg e1] at hs)
    all_goals (try rw [if_pos b2] at hs)
    all_goals (try rw [if_neg b2, List.append_nil] at hs)
    all_goals (try simp only [Int.toNat_natCast] at *)
    all_goals (try (refine Rnd.mk ⟨i + 1, by omega, by omega, ?_⟩))
    all_goals (first | omega | exact ⟨by omega, by omega⟩ | (show _ * 8 ≤ _ ∧ _ ≤ _; exact ⟨by simp only [List.length_append, List.length_cons, List.length_nil]; omega, by simp only [List.length_append, List.length_cons, List.length_nil]; omega⟩) | skip)
    all_goals (try (have b := of_decide_eq_false ‹decide ((i : Int) ≤ (l.length : Int)) = false›; rw [show i = l.length + 1 by omega, hen]))
    repeat' ((conv => whnf);first|(with_reducible first|rfl|exact absTF|exact absFT)|exact True.intro|intro _|refine And.intro ?_ ?_|refine Fin.mk ?_|refine W1 rfl ?_ ?_|refine W2 rfl ?_ ?_|refine W3 rfl ?_ ?_|refine W4 ?_ ?_|refine W5 rfl ?_ ?_|refine W6 ?_ ?_|refine AppN.mk ?_|refine X1 (W1 rfl ?_ ?_)|refine X1 (W2 rfl ?_ ?_)|refine X2 (W7 rfl ?_ ?_)|refine X3 (W7 rfl ?_ ?_)|refine X4 (W7 rfl ?_ ?_)|refine X5 (W7 rfl ?_ ?_))
    all_goals (try (conv => whnf))
    all_goals (try first|exact Ob.mk (u8_bnd _)|(refine Ob.mk ?_;first|exact True.intro|assumption|omega|(try simp only [ZA,ZB,ZC,ZD,ZE,ZF,ZG,ZH,ZI,ZJ,ZK,ZL,ZM,ZN,ZO,Int.toNat_natCast,UInt8.ofNat_toNat,cast_eq] at *;omega)))
    all_goals (try first|(show (_:Int) = _;omega)|(show tupSV _ = _;with_unfolding_all rfl)|((first|show (_:Nat) ≤ _|show (_:Nat) ≤ _ ∧ (_:Nat) ≤ _|show (_:Int) ≤ _ ∧ (_:Int) ≤ _ ∧ (_:Int) ≤ _ ∧ (_:Int) ≤ _);(simp <;> omega)))
    all_goals (first | rfl | omega | (rw [hs]; done) | (rw [hs]; rfl) | trace_state)
theorem cutT_on {l : List NodeD} {kid : Int} (h : isT l kid = true ∧ kid ≠ 0) : cutT l kid = (cutA l kid).set kid.toNat (setUp (nd (cutA l kid) kid) (-1)) := by unfold cutT; rw [if_pos ⟨h.2, h.1⟩]
theorem cutT_off {l : List NodeD} {kid : Int} (h : ¬ (isT l kid = true ∧ kid ≠ 0)) : cutT l kid = cutA l kid := by unfold cutT; rw [if_neg (fun q => h ⟨q.2, q.1⟩)]
instance hCut (l : List NodeD) (kid : Int) : FnM BB 44 [.loc 0 0, .int .i64 kid] [(0, .box [.own 1]), (1, .own nodeTy l)] (smallT l = true)
      (.tup []) [(0, .box [.own 1]), (1, .own nodeTy (cutT l kid))] := by
  refine FnM.intro (N := 77) [0, 1, 4, 5, 6, 7, 14, 33, 38, 69] [] 2 Try.call44 Try.func44 rfl rfl (by kernel_rfl) (fun hpre => ?_)
  have H : placeT l kid ≥ 0 → (0 ≤ kid ∧ kid < l.length) ∧ (0 ≤ (nd l kid).up ∧ (nd l kid).up < l.length) ∧ placeT l kid < (nd l (nd l kid).up).kids.length ∧ (nd l (nd l kid).up).kids.length ≤ 1000 := by
    intro h
    obtain ⟨h1, h2, h3⟩ := place_nonneg h
    exact ⟨isT_iff.1 h1, isT_iff.1 h2, h3, (small_at hpre _ h2).2⟩
  by_cases h0 : placeT l kid ≥ 0
  · obtain ⟨f1, f2, f3, f4⟩ := H h0
    clear H
    obtain ⟨a, ha⟩ : ∃ a : Nat, placeT l kid = a := ⟨(placeT l kid).toNat, by omega⟩
    obtain ⟨u, hu⟩ : ∃ u : Int, (l.getD kid.toNat nodeTy.dflt).2.2.2.2.2.1 = u := ⟨_, rfl⟩
    obtain ⟨ks, hks⟩ : ∃ ks : List Int, (l.getD u.toNat nodeTy.dflt).2.2.2.2.2.2 = ks := ⟨_, rfl⟩
    have hA2 : cutA l kid = l.set u.toNat (setKids (l.getD u.toNat nodeTy.dflt) (delA ks a ks.length)) := by
      have f3' : placeT l kid < (ks.length : Int) := by rw [← hks, ← hu]; exact f3
      unfold cutA
      rw [if_pos h0, delA_end ks a (by omega), ha, Int.toNat_natCast, show ((a : Int) + 1).toNat = a + 1 by omega]
      subst hu; subst hks; rfl
    have f2 : 0 ≤ u ∧ u < l.length := by rw [← hu]; exact f2
    have f3 : placeT l kid < (ks.length : Int) := by rw [← hks, ← hu]; exact f3
    have f4 : ks.length ≤ 1000 := by rw [← hks, ← hu]; exact f4
    have hAi : ∀ i, isT (cutA l kid) i = isT l i := isT_len cutA_len
    have fk : isT l kid = true := isT_iff.2 f1
    repeat' ((conv => whnf);first|(with_reducible first|rfl|exact absTF|exact absFT)|exact True.intro|intro _|refine And.intro ?_ ?_|refine Fin.mk ?_|refine W1 rfl ?_ ?_|refine W2 rfl ?_ ?_|refine W3 rfl ?_ ?_|refine W4 ?_ ?_|refine W5 rfl ?_ ?_|refine W6 ?_ ?_|refine AppN.mk ?_|refine X1 (W1 rfl ?_ ?_)|refine X1 (W2 rfl ?_ ?_)|refine X2 (W7 rfl ?_ ?_)|refine X3 (W7 rfl ?_ ?_)|refine X4 (W7 rfl ?_ ?_)|refine X5 (W7 rfl ?_ ?_))
    all_goals (try (conv => whnf))
    all_goals (try first|exact Ob.mk (u8_bnd _)|(refine Ob.mk ?_;first|exact True.intro|assumption|omega|(try simp only [ZA,ZB,ZC,ZD,ZE,ZF,ZG,ZH,ZI,ZJ,ZK,ZL,ZM,ZN,ZO,Int.toNat_natCast,UInt8.ofNat_toNat,cast_eq] at *;omega)))
    all_goals (try first|(show (_:Int) = _;omega)|(show tupSV _ = _;with_unfolding_all rfl)|((first|show (_:Nat) ≤ _|show (_:Nat) ≤ _ ∧ (_:Nat) ≤ _|show (_:Int) ≤ _ ∧ (_:Int) ≤ _ ∧ (_:Int) ≤ _ ∧ (_:Int) ≤ _);(simp <;> omega)))
    all_goals (try simp only [hu, hks])
    all_goals (try (exfalso; have h := of_decide_eq_false ‹decide (placeT l kid ≥ 0) = false›; exact h h0))
    all_goals (first | exact f1 | exact f2 | omega | skip)
    refine LoopStop.mk (α := Nat) (fun i => [(7, .int .i64 i), (6, .own 20)]) (fun i => [(20, .own intTy (delA ks a i))]) 30 (fun i => i ≤ ks.length) (fun i => ks.length - i) 0 (by simp) ?_ (fun i hi => ?_)
    · repeat' ((conv => whnf);first|(with_reducible first|rfl|exact absTF|exact absFT)|exact True.intro|intro _|refine And.intro ?_ ?_|refine Fin.mk ?_|refine W1 rfl ?_ ?_|refine W2 rfl ?_ ?_|refine W3 rfl ?_ ?_|refine W4 ?_ ?_|refine W5 rfl ?_ ?_|refine W6 ?_ ?_|refine AppN.mk ?_|refine X1 (W1 rfl ?_ ?_)|refine X1 (W2 rfl ?_ ?_)|refine X2 (W7 rfl ?_ ?_)|refine X3 (W7 rfl ?_ ?_)|refine X4 (W7 rfl ?_ ?_)|refine X5 (W7 rfl ?_ ?_))
      all_goals (try (conv => whnf))
      all_goals (try first|exact Ob.mk (u8_bnd _)|(refine Ob.mk ?_;first|exact True.intro|assumption|omega|(try simp only [ZA,ZB,ZC,ZD,ZE,ZF,ZG,ZH,ZI,ZJ,ZK,ZL,ZM,ZN,ZO,Int.toNat_natCast,UInt8.ofNat_toNat,cast_eq] at *;omega)))
      all_goals (try first|(show (_:Int) = _;omega)|(show tupSV _ = _;with_unfolding_all rfl)|((first|show (_:Nat) ≤ _|show (_:Nat) ≤ _ ∧ (_:Nat) ≤ _|show (_:Int) ≤ _ ∧ (_:Int) ≤ _ ∧ (_:Int) ≤ _ ∧ (_:Int) ≤ _);(simp <;> omega)))
      all_goals (first | rfl | (simp [delA]; done) | trace_state)
    · have hl := delA_len ks a i
      have hst := delA_step ks a i
      repeat' ((conv => whnf);first|(with_reducible first|rfl|exact absTF|exact absFT)|exact True.intro|intro _|refine And.intro ?_ ?_|refine Fin.mk ?_|refine W1 rfl ?_ ?_|refine W2 rfl ?_ ?_|refine W3 rfl ?_ ?_|refine W4 ?_ ?_|refine W5 rfl ?_ ?_|refine W6 ?_ ?_|refine AppN.mk ?_|refine X1 (W1 rfl ?_ ?_)|refine X1 (W2 rfl ?_ ?_)|refine X2 (W7 rfl ?_ ?_)|refine X3 (W7 rfl ?_ ?_)|refine X4 (W7 rfl ?_ ?_)|refine X5 (W7 rfl ?_ ?_))
      all_goals (try (conv => whnf))
      all_goals (try first|exact Ob.mk (u8_bnd _)|(refine Ob.mk ?_;first|exact True.intro|assumption|omega|(try simp only [ZA,ZB,ZC,ZD,ZE,ZF,ZG,ZH,ZI,ZJ,ZK,ZL,ZM,ZN,ZO,Int.toNat_natCast,UInt8.ofNat_toNat,cast_eq] at *;omega)))
      all_goals (try first|(show (_:Int) = _;omega)|(show tupSV _ = _;with_unfolding_all rfl)|((first|show (_:Nat) ≤ _|show (_:Nat) ≤ _ ∧ (_:Nat) ≤ _|show (_:Int) ≤ _ ∧ (_:Int) ≤ _ ∧ (_:Int) ≤ _ ∧ (_:Int) ≤ _);(simp <;> omega)))
      all_goals (try simp only [hu, hks, Int.toNat_natCast])
      all_goals (try (have b1 : (i : Int) < (ks.length : Int) := by (have h := of_decide_eq_true (show decide ((i : Int) < (List.length (l.getD u.toNat nodeTy.dflt).2.2.2.2.2.2 : Int)) = true from ‹_›); rw [hks] at h; exact h)))
      all_goals (try (have b1 : ¬ (i : Int) < (ks.length : Int) := by (have h := of_decide_eq_false (show decide ((i : Int) < (List.length (l.getD u.toNat nodeTy.dflt).2.2.2.2.2.2 : Int)) = false from ‹_›); rw [hks] at h; exact h)))
      all_goals (try (have hs := hst (by omega) (by omega)))
      all_goals (try (have e1 : i = a := by (have h : ((i : Int) != placeT l kid) = false := ‹_›; rw [bne_eq_false_iff_eq, ha] at h; omega)))
      all_goals (try (have e1 : ¬ i = a := by (have h : ((i : Int) != placeT l kid) = true := ‹_›; rw [bne_iff_ne, ha] at h; omega)))
      all_goals (try rw [if_pos e1] at hs)
      all_goals (try rw [if_neg e1] at hs)
      have f2' : u.toNat < l.length := by omega
      all_goals (first | exact f1 | exact f2 | exact f2' | omega | skip)
      · refine Rnd.mk ⟨i + 1, by omega, by omega, ?_⟩
        repeat' ((conv => whnf);first|(with_reducible first|rfl|exact absTF|exact absFT)|exact True.intro|intro _|refine And.intro ?_ ?_|refine Fin.mk ?_|refine W1 rfl ?_ ?_|refine W2 rfl ?_ ?_|refine W3 rfl ?_ ?_|refine W4 ?_ ?_|refine W5 rfl ?_ ?_|refine W6 ?_ ?_|refine AppN.mk ?_|refine X1 (W1 rfl ?_ ?_)|refine X1 (W2 rfl ?_ ?_)|refine X2 (W7 rfl ?_ ?_)|refine X3 (W7 rfl ?_ ?_)|refine X4 (W7 rfl ?_ ?_)|refine X5 (W7 rfl ?_ ?_))
        all_goals (try (conv => whnf))
        all_goals (try first|exact Ob.mk (u8_bnd _)|(refine Ob.mk ?_;first|exact True.intro|assumption|omega|(try simp only [ZA,ZB,ZC,ZD,ZE,ZF,ZG,ZH,ZI,ZJ,ZK,ZL,ZM,ZN,ZO,Int.toNat_natCast,UInt8.ofNat_toNat,cast_eq] at *;omega)))
        all_goals (try first|(show (_:Int) = _;omega)|(show tupSV _ = _;with_unfolding_all rfl)|((first|show (_:Nat) ≤ _|show (_:Nat) ≤ _ ∧ (_:Nat) ≤ _|show (_:Int) ≤ _ ∧ (_:Int) ≤ _ ∧ (_:Int) ≤ _ ∧ (_:Int) ≤ _);(simp <;> omega)))
        all_goals (first | rfl | omega | (rw [hs]; done) | (rw [hs]; rfl) | trace_state)
      · refine Rnd.mk ⟨i + 1, by omega, by omega, ?_⟩
        repeat' ((conv => whnf);first|(with_reducible first|rfl|exact absTF|exact absFT)|exact True.intro|intro _|refine And.intro ?_ ?_|refine Fin.mk ?_|refine W1 rfl ?_ ?_|refine W2 rfl ?_ ?_|refine W3 rfl ?_ ?_|refine W4 ?_ ?_|refine W5 rfl ?_ ?_|refine W6 ?_ ?_|refine AppN.mk ?_|refine X1 (W1 rfl ?_ ?_)|refine X1 (W2 rfl ?_ ?_)|refine X2 (W7 rfl ?_ ?_)|refine X3 (W7 rfl ?_ ?_)|refine X4 (W7 rfl ?_ ?_)|refine X5 (W7 rfl ?_ ?_))
        all_goals (try (conv => whnf))
        all_goals (try first|exact Ob.mk (u8_bnd _)|(refine Ob.mk ?_;first|exact True.intro|assumption|omega|(try simp only [ZA,ZB,ZC,ZD,ZE,ZF,ZG,ZH,ZI,ZJ,ZK,ZL,ZM,ZN,ZO,Int.toNat_natCast,UInt8.ofNat_toNat,cast_eq] at *;omega)))
        all_goals (try first|(show (_:Int) = _;omega)|(show tupSV _ = _;with_unfolding_all rfl)|((first|show (_:Nat) ≤ _|show (_:Nat) ≤ _ ∧ (_:Nat) ≤ _|show (_:Int) ≤ _ ∧ (_:Int) ≤ _ ∧ (_:Int) ≤ _ ∧ (_:Int) ≤ _);(simp <;> omega)))
        all_goals (first | rfl | omega | (rw [hs]; done) | (rw [hs]; rfl) | trace_state)
      all_goals (obtain rfl : i = ks.length := by omega)
      all_goals (try simp only [List.length_set])
      all_goals (first | exact f1 | (show Int.toNat _ < _; omega) | skip)
      all_goals (try (have hG : (isT (l.set u.toNat (setKids (l.getD u.toNat nodeTy.dflt) (delA ks a ks.length))) kid && kid != 0) = true := ‹_›; rw [isT_set, fk, Bool.true_and, bne_iff_ne] at hG; rw [cutT_on ⟨fk, hG⟩, hA2]; rfl))
      all_goals (try (have hG : (isT (l.set u.toNat (setKids (l.getD u.toNat nodeTy.dflt) (delA ks a ks.length))) kid && kid != 0) = false := ‹_›; rw [isT_set, fk, Bool.true_and, bne_eq_false_iff_eq] at hG; rw [cutT_off (fun q => q.2 hG), hA2]; rfl))
      all_goals trace_state
  · have hA : cutA l kid = l := by unfold cutA; rw [if_neg h0]
    have g1 : (isT l kid && kid != 0) = true → isT l kid = true ∧ kid ≠ 0 := fun h => by rw [Bool.and_eq_true, bne_iff_ne] at h; exact h
    have g0 : (isT l kid && kid != 0) = false → ¬ (isT l kid = true ∧ kid ≠ 0) := fun h q => by rw [q.1, Bool.true_and, bne_eq_false_iff_eq] at h; exact q.2 h
    repeat' ((conv => whnf);first|(with_reducible first|rfl|exact absTF|exact absFT)|exact True.intro|intro _|refine And.intro ?_ ?_|refine Fin.mk ?_|refine W1 rfl ?_ ?_|refine W2 rfl ?_ ?_|refine W3 rfl ?_ ?_|refine W4 ?_ ?_|refine W5 rfl ?_ ?_|refine W6 ?_ ?_|refine AppN.mk ?_|refine X1 (W1 rfl ?_ ?_)|refine X1 (W2 rfl ?_ ?_)|refine X2 (W7 rfl ?_ ?_)|refine X3 (W7 rfl ?_ ?_)|refine X4 (W7 rfl ?_ ?_)|refine X5 (W7 rfl ?_ ?_))
    all_goals (try (conv => whnf))
    all_goals (try first|exact Ob.mk (u8_bnd _)|(refine Ob.mk ?_;first|exact True.intro|assumption|omega|(try simp only [ZA,ZB,ZC,ZD,ZE,ZF,ZG,ZH,ZI,ZJ,ZK,ZL,ZM,ZN,ZO,Int.toNat_natCast,UInt8.ofNat_toNat,cast_eq] at *;omega)))
    all_goals (try first|(show (_:Int) = _;omega)|(show tupSV _ = _;with_unfolding_all rfl)|((first|show (_:Nat) ≤ _|show (_:Nat) ≤ _ ∧ (_:Nat) ≤ _|show (_:Int) ≤ _ ∧ (_:Int) ≤ _ ∧ (_:Int) ≤ _ ∧ (_:Int) ≤ _);(simp <;> omega)))
    all_goals (try (exfalso; exact h0 (of_decide_eq_true ‹decide (placeT l kid ≥ 0) = true›)))
    all_goals (try (have q := g1 ‹_›; have q' := isT_iff.1 q.1))
    all_goals (try (have q := g0 ‹_›))
    all_goals (first | exact q' | (show Int.toNat _ < _; omega) | (rw [cutT_on q, hA]; rfl) | (rw [cutT_off q, hA]; done) | (rw [cutT_off q, hA]; rfl) | trace_state)
end Go.Vc

namespace Go.Vc
open Go.Proofs
set_option maxRecDepth 10000
set_option maxHeartbeats 4000000
theorem mm (a b : Int) (hb : 0 ≤ b) : (bif true then max 0 (bif false then max a b else min a b) else min 0 (bif false then max a b else min a b)) = min (max a 0) b := by
  show max 0 (min a b) = min (max a 0) b
  omega
instance hPut (l : List NodeD) (up at_ kid : Int) : FnM BB 46 [.loc 0 0, .int .i64 up, .int .i64 at_, .int .i64 kid] [(0, .box [.own 1]), (1, .own nodeTy l)] (smallT l = true)
      (.tup []) [(0, .box [.own 1]), (1, .own nodeTy (putT l up at_ kid))] := by
  refine FnM.intro (N := 69) [0, 1, 2, 3, 8, 34] [(3, [0, 0, 0, 1, 0, 0, 0, 0, 1, 1, 1, 0, 1, 3, 3, 3])] 2 Try.call46 Try.func46 rfl rfl (by kernel_rfl) (fun hpre => ?_)
  have hsm := cutT_sm (kid := kid) (smB_of hpre)
  have hll := small_len hpre
  have hu : (!isT l up || !isT l kid || kid == 0 || holdsT l kid up) = false → (0 ≤ up ∧ up < (cutT l kid).length) ∧ (0 ≤ kid ∧ kid < (cutT l kid).length) ∧ ((cutT l kid).getD up.toNat nodeTy.dflt).kids.length ≤ 1000 := by
    intro h
    simp only [Bool.or_eq_false_iff, Bool.not_eq_false'] at h
    have h1 := isT_iff.1 h.1.1.1
    have h2 := isT_iff.1 h.1.1.2
    rw [cutT_len]
    exact ⟨h1, h2, (hsm.2 up.toNat (by rw [cutT_len]; omega)).2⟩
  have hp1 : (!isT l up || !isT l kid || kid == 0 || holdsT l kid up) = true → putT l up at_ kid = l := fun h => by rw [putT, if_pos h]
  repeat' ((conv => whnf);first|(with_reducible first|rfl|exact absTF|exact absFT)|exact True.intro|intro _|refine And.intro ?_ ?_|refine Fin.mk ?_|refine W1 rfl ?_ ?_|refine W2 rfl ?_ ?_|refine W3 rfl ?_ ?_|refine W4 ?_ ?_|refine W5 rfl ?_ ?_|refine W6 ?_ ?_|refine AppN.mk ?_|refine X1 (W1 rfl ?_ ?_)|refine X1 (W2 rfl ?_ ?_)|refine X2 (W7 rfl ?_ ?_)|refine X3 (W7 rfl ?_ ?_)|refine X4 (W7 rfl ?_ ?_)|refine X5 (W7 rfl ?_ ?_))
  all_goals (try (conv => whnf))
  all_goals (try first|exact Ob.mk (u8_bnd _)|(refine Ob.mk ?_;first|exact True.intro|assumption|omega|(try simp only [ZA,ZB,ZC,ZD,ZE,ZF,ZG,ZH,ZI,ZJ,ZK,ZL,ZM,ZN,ZO,Int.toNat_natCast,UInt8.ofNat_toNat,cast_eq] at *;omega)))
  all_goals (try first|(show (_:Int) = _;omega)|(show tupSV _ = _;with_unfolding_all rfl)|((first|show (_:Nat) ≤ _|show (_:Nat) ≤ _ ∧ (_:Nat) ≤ _|show (_:Int) ≤ _ ∧ (_:Int) ≤ _ ∧ (_:Int) ≤ _ ∧ (_:Int) ≤ _);(simp <;> omega)))
  all_goals (try (have q := hu ‹(!isT l up || !isT l kid || kid == 0 || holdsT l kid up) = false›; obtain ⟨q1, q2, q3⟩ := q))
  all_goals (first | (rw [hp1 ‹_›]; done) | exact q1 | exact q2 | (show Int.toNat _ < _; omega) | skip)
  · rw [mm _ _ (by omega)]
    refine ⟨by omega, by omega, Nat.le_trans q3 (by omega)⟩
  · rw [List.length_set]; exact q2
  · rw [List.length_set]; omega
  · rw [putT, if_neg (by rw [show (!isT l up || !isT l kid || kid == 0 || holdsT l kid up) = false from ‹_›]; decide), mm _ _ (by omega)]
    rfl
  all_goals trace_state
instance hMove (l : List NodeD) (a b : Int) : FnM BB 48 [.loc 0 0, .int .i64 a, .int .i64 b] [(0, .box [.own 1]), (1, .own nodeTy l)] (smallT l = true)
      (.tup []) [(0, .box [.own 1]), (1, .own nodeTy (moveT l a b))] := by
  refine FnM.intro (N := 89) [0, 1, 2, 6, 7, 29, 41, 51] [(5, [0, 0, 1, 0, 0, 1, 1, 3]), (6, [0, 0, 0, 1, 0, 0, 1, 1, 0, 3, 3, 3]), (7, [0, 0, 0, 4, 0, 4, 0, 0, 0, 4, 0, 4, 4, 4, 4, 0, 4, 4, 4, 4])] 2 Try.call48 Try.func48 rfl rfl (by kernel_rfl) (fun hpre => ?_)
  have hsm := small_len hpre
  have hg : (!isT l a || !isT l b || holdsT l a b) = true → moveT l a b = l := fun h => by unfold moveT; rw [if_pos h]
  have hg' : (!isT l a || !isT l b || holdsT l a b) = false → (0 ≤ a ∧ a < l.length) ∧ (0 ≤ b ∧ b < l.length) ∧ moveT l a b = setK (setK (upsT l b (nd l a).kids) b ((nd (upsT l b (nd l a).kids) b).kids ++ (nd l a).kids)) a [] := fun h => by
    rw [Bool.or_eq_false_iff, Bool.or_eq_false_iff] at h
    refine ⟨isT_iff.1 (by simpa using h.1.1), isT_iff.1 (by simpa using h.1.2), ?_⟩
    unfold moveT; rw [if_neg]; simp [h.1.1, h.1.2, h.2]
  have hka := fun h => (small_at hpre a h).2
  have hkb := fun h => (small_at hpre b h).2
  repeat' ((conv => whnf);first|(with_reducible first|rfl|exact absTF|exact absFT)|exact True.intro|intro _|refine And.intro ?_ ?_|refine Fin.mk ?_|refine W1 rfl ?_ ?_|refine W2 rfl ?_ ?_|refine W3 rfl ?_ ?_|refine W4 ?_ ?_|refine W5 rfl ?_ ?_|refine W6 ?_ ?_|refine AppN.mk ?_|refine X1 (W1 rfl ?_ ?_)|refine X1 (W2 rfl ?_ ?_)|refine X2 (W7 rfl ?_ ?_)|refine X3 (W7 rfl ?_ ?_)|refine X4 (W7 rfl ?_ ?_)|refine X5 (W7 rfl ?_ ?_))
  all_goals (try (conv => whnf))
  all_goals (try first|exact Ob.mk (u8_bnd _)|(refine Ob.mk ?_;first|exact True.intro|assumption|omega|(try simp only [ZA,ZB,ZC,ZD,ZE,ZF,ZG,ZH,ZI,ZJ,ZK,ZL,ZM,ZN,ZO,Int.toNat_natCast,UInt8.ofNat_toNat,cast_eq] at *;omega)))
  all_goals (try first|(show (_:Int) = _;omega)|(show tupSV _ = _;with_unfolding_all rfl)|((first|show (_:Nat) ≤ _|show (_:Nat) ≤ _ ∧ (_:Nat) ≤ _|show (_:Int) ≤ _ ∧ (_:Int) ≤ _ ∧ (_:Int) ≤ _ ∧ (_:Int) ≤ _);(simp <;> omega)))
  all_goals (try (have q := hg ‹(!isT l a || !isT l b || holdsT l a b) = true›))
  all_goals (try (have q := hg' ‹(!isT l a || !isT l b || holdsT l a b) = false›; obtain ⟨q1, q2, q3⟩ := q))
  all_goals (first | (rw [q]; done) | exact q1 | omega | skip)
  have hka := hka (isT_iff.2 q1)
  have hkb := hkb (isT_iff.2 q2)
  generalize hks : (nd l a).kids = ks at *
  have hks' : (l.getD a.toNat nodeTy.dflt).2.2.2.2.2.2 = ks := hks
  rw [hks']
  refine LoopStop.mk (α := Nat) (fun i => [(7, .int .i64 i)]) (fun i => [(1, .own nodeTy (upsT l b (ks.take i)))]) 40 (fun i => i ≤ ks.length) (fun i => ks.length - i) 0 (by simp) ?_ (fun i hi => ?_)
  · repeat' ((conv => whnf);first|(with_reducible first|rfl|exact absTF|exact absFT)|exact True.intro|intro _|refine And.intro ?_ ?_|refine Fin.mk ?_|refine W1 rfl ?_ ?_|refine W2 rfl ?_ ?_|refine W3 rfl ?_ ?_|refine W4 ?_ ?_|refine W5 rfl ?_ ?_|refine W6 ?_ ?_|refine AppN.mk ?_|refine X1 (W1 rfl ?_ ?_)|refine X1 (W2 rfl ?_ ?_)|refine X2 (W7 rfl ?_ ?_)|refine X3 (W7 rfl ?_ ?_)|refine X4 (W7 rfl ?_ ?_)|refine X5 (W7 rfl ?_ ?_))
    all_goals (try (conv => whnf))
    all_goals (try first|exact Ob.mk (u8_bnd _)|(refine Ob.mk ?_;first|exact True.intro|assumption|omega|(try simp only [ZA,ZB,ZC,ZD,ZE,ZF,ZG,ZH,ZI,ZJ,ZK,ZL,ZM,ZN,ZO,Int.toNat_natCast,UInt8.ofNat_toNat,cast_eq] at *;omega)))
    all_goals (try first|(show (_:Int) = _;omega)|(show tupSV _ = _;with_unfolding_all rfl)|((first|show (_:Nat) ≤ _|show (_:Nat) ≤ _ ∧ (_:Nat) ≤ _|show (_:Int) ≤ _ ∧ (_:Int) ≤ _ ∧ (_:Int) ≤ _ ∧ (_:Int) ≤ _);(simp <;> omega)))
    all_goals (first | rfl | trace_state)
  · have hl := ups_len b (ks.take i) l
    have hs := ups_step l b ks i
    have hsm' : ∀ x : Int, isT (upsT l b (ks.take i)) x = isT l x := isT_len hl
    repeat' ((conv => whnf);first|(with_reducible first|rfl|exact absTF|exact absFT)|exact True.intro|intro _|refine And.intro ?_ ?_|refine Fin.mk ?_|refine W1 rfl ?_ ?_|refine W2 rfl ?_ ?_|refine W3 rfl ?_ ?_|refine W4 ?_ ?_|refine W5 rfl ?_ ?_|refine W6 ?_ ?_|refine AppN.mk ?_|refine X1 (W1 rfl ?_ ?_)|refine X1 (W2 rfl ?_ ?_)|refine X2 (W7 rfl ?_ ?_)|refine X3 (W7 rfl ?_ ?_)|refine X4 (W7 rfl ?_ ?_)|refine X5 (W7 rfl ?_ ?_))
    all_goals (try (conv => whnf))
    all_goals (try first|exact Ob.mk (u8_bnd _)|(refine Ob.mk ?_;first|exact True.intro|assumption|omega|(try simp only [ZA,ZB,ZC,ZD,ZE,ZF,ZG,ZH,ZI,ZJ,ZK,ZL,ZM,ZN,ZO,Int.toNat_natCast,UInt8.ofNat_toNat,cast_eq] at *;omega)))
    all_goals (try first|(show (_:Int) = _;omega)|(show tupSV _ = _;with_unfolding_all rfl)|((first|show (_:Nat) ≤ _|show (_:Nat) ≤ _ ∧ (_:Nat) ≤ _|show (_:Int) ≤ _ ∧ (_:Int) ≤ _ ∧ (_:Int) ≤ _ ∧ (_:Int) ≤ _);(simp <;> omega)))
    all_goals (try (have b1 := of_decide_eq_true ‹decide ((i : Int) < (ks.length : Int)) = true›; have hs := hs (by omega)))
    all_goals (try (have b1 := of_decide_eq_false ‹decide ((i : Int) < (ks.length : Int)) = false›))
    all_goals (try simp only [Int.toNat_natCast] at *)
    all_goals (try (have ht := isT_iff.1 ‹isT (upsT l b (List.take i ks)) _ = true›))
    all_goals (first | omega | exact ht | exact ⟨by omega, by omega⟩ | (show Int.toNat _ < _; omega) | skip)
    · have hs2 : upsT l b (ks.take (i + 1)) = (upsT l b (ks.take i)).set (ks.getD i 0).toNat (setUp (nd (upsT l b (ks.take i)) (ks.getD i 0)) b) := by
        rw [hs, upOne, if_pos ‹isT (upsT l b (List.take i ks)) _ = true›]
      refine Rnd.mk ⟨i + 1, by omega, by omega, ?_⟩
      repeat' ((conv => whnf);first|(with_reducible first|rfl|exact absTF|exact absFT)|exact True.intro|intro _|refine And.intro ?_ ?_|refine Fin.mk ?_|refine W1 rfl ?_ ?_|refine W2 rfl ?_ ?_|refine W3 rfl ?_ ?_|refine W4 ?_ ?_|refine W5 rfl ?_ ?_|refine W6 ?_ ?_|refine AppN.mk ?_|refine X1 (W1 rfl ?_ ?_)|refine X1 (W2 rfl ?_ ?_)|refine X2 (W7 rfl ?_ ?_)|refine X3 (W7 rfl ?_ ?_)|refine X4 (W7 rfl ?_ ?_)|refine X5 (W7 rfl ?_ ?_))
      all_goals (try (conv => whnf))
      all_goals (try first|exact Ob.mk (u8_bnd _)|(refine Ob.mk ?_;first|exact True.intro|assumption|omega|(try simp only [ZA,ZB,ZC,ZD,ZE,ZF,ZG,ZH,ZI,ZJ,ZK,ZL,ZM,ZN,ZO,Int.toNat_natCast,UInt8.ofNat_toNat,cast_eq] at *;omega)))
      all_goals (try first|(show (_:Int) = _;omega)|(show tupSV _ = _;with_unfolding_all rfl)|((first|show (_:Nat) ≤ _|show (_:Nat) ≤ _ ∧ (_:Nat) ≤ _|show (_:Int) ≤ _ ∧ (_:Int) ≤ _ ∧ (_:Int) ≤ _ ∧ (_:Int) ≤ _);(simp <;> omega)))
      all_goals (first | rfl | omega | (rw [hs2]; done) | (rw [hs2]; rfl) | trace_state)
    · have hs2 : upsT l b (ks.take (i + 1)) = upsT l b (ks.take i) := by
        rw [hs, upOne, if_neg (by rw [show isT (upsT l b (List.take i ks)) (ks.getD i 0) = false from ‹_›]; decide)]
      refine Rnd.mk ⟨i + 1, by omega, by omega, ?_⟩
      repeat' ((conv => whnf);first|(with_reducible first|rfl|exact absTF|exact absFT)|exact True.intro|intro _|refine And.intro ?_ ?_|refine Fin.mk ?_|refine W1 rfl ?_ ?_|refine W2 rfl ?_ ?_|refine W3 rfl ?_ ?_|refine W4 ?_ ?_|refine W5 rfl ?_ ?_|refine W6 ?_ ?_|refine AppN.mk ?_|refine X1 (W1 rfl ?_ ?_)|refine X1 (W2 rfl ?_ ?_)|refine X2 (W7 rfl ?_ ?_)|refine X3 (W7 rfl ?_ ?_)|refine X4 (W7 rfl ?_ ?_)|refine X5 (W7 rfl ?_ ?_))
      all_goals (try (conv => whnf))
      all_goals (try first|exact Ob.mk (u8_bnd _)|(refine Ob.mk ?_;first|exact True.intro|assumption|omega|(try simp only [ZA,ZB,ZC,ZD,ZE,ZF,ZG,ZH,ZI,ZJ,ZK,ZL,ZM,ZN,ZO,Int.toNat_natCast,UInt8.ofNat_toNat,cast_eq] at *;omega)))
      all_goals (try first|(show (_:Int) = _;omega)|(show tupSV _ = _;with_unfolding_all rfl)|((first|show (_:Nat) ≤ _|show (_:Nat) ≤ _ ∧ (_:Nat) ≤ _|show (_:Int) ≤ _ ∧ (_:Int) ≤ _ ∧ (_:Int) ≤ _ ∧ (_:Int) ≤ _);(simp <;> omega)))
      all_goals (first | rfl | omega | (rw [hs2]; done) | (rw [hs2]; rfl) | trace_state)
    all_goals (obtain rfl : i = ks.length := by omega)
    all_goals (simp only [List.take_length] at *)
    all_goals (have hr := (ups_rest b ks l b.toNat).1)
    all_goals (have hr' : List.length (((upsT l b ks).getD b.toNat nodeTy.dflt).2.2.2.2.2.2) ≤ 1000 := by rw [show ((upsT l b ks).getD b.toNat nodeTy.dflt).2.2.2.2.2.2 = _ from hr]; exact hkb)
    all_goals (try simp only [List.length_set, hl])
    all_goals (first | exact q1 | exact q2 | (refine ⟨Nat.le_trans (Nat.mul_le_mul_right _ (Nat.add_le_add (Nat.le_refl _) hr')) (by show (0 + 1000) * 8 ≤ _; decide), Nat.le_trans (Nat.add_le_add (Nat.le_refl _) hr') (by show 0 + 1000 ≤ _; decide)⟩; done) | (refine ⟨Nat.le_trans (Nat.mul_le_mul_right _ (Nat.add_le_add hr' hka)) (by show (1000 + 1000) * 8 ≤ _; decide), Nat.le_trans (Nat.add_le_add hr' hka) (by decide)⟩; done) | omega | (show Int.toNat _ < _; omega) | (rw [q3]; rfl) | skip)
    all_goals trace_state
end Go.Vc

namespace Go.Vc
open Go.Proofs
set_option maxRecDepth 10000
abbrev Uf (l : List NodeD) (i : Int) : Int := (nd l i).up
abbrev Kf (l : List NodeD) (i : Int) : List Int := (nd l i).kids
def TiL (l : List NodeD) : Prop := Ti l.length (Uf l) (Kf l)
theorem nd_set {l : List NodeD} {k i : Int} {n : NodeD} (hk : okI l.length k) (hi : 0 ≤ i) : nd (l.set k.toNat n) i = if i = k then n else nd l i := by
  unfold nd
  rw [getD_set]
  by_cases e : i = k
  · subst e; rw [if_pos rfl, if_pos ⟨rfl, by have := hk.2; have := hk.1; omega⟩]
  · rw [if_neg e, if_neg (fun q => e (by have := hk.1; have := q.1; omega))]
theorem okI_isT {l : List NodeD} {i : Int} : isT l i = true ↔ okI l.length i := isT_iff
theorem ti_root : TiL [rootN] := by
  refine ⟨by decide, rfl, fun i hi k hk => ?_, fun i hi => ?_, fun _ => 0, fun i hi hu => ?_⟩
  all_goals (have e : i = 0 := by have h1 := hi.1; have h2 : i < 1 := hi.2; omega)
  all_goals subst e
  · cases hk
  · exact .inl rfl
  · exact absurd rfl hu
theorem ti_add {l : List NodeD} (n : NodeD) (h : TiL l) : TiL (addT l n) := by
  have hl : (addT l n).length = l.length + 1 := by simp [addT]
  have ho : ∀ i, okI l.length i → nd (addT l n) i = nd l i := fun i hi => by
    unfold nd addT
    simp only [List.getD]
    rw [List.getElem?_append_left (by have := hi.1; have := hi.2; omega)]
  have hn : nd (addT l n) (l.length : Int) = (n.1, n.2.1, n.2.2.1, n.2.2.2.1, n.2.2.2.2.1, -1, []) := by
    unfold nd addT
    simp only [List.getD, Int.toNat_natCast]
    rw [List.getElem?_append_right (Nat.le_refl _), Nat.sub_self]; rfl
  unfold TiL
  rw [hl]
  exact Ti.add h (fun i hi => by show (nd (addT l n) i).up = _; rw [ho i hi]) (fun i hi => by show (nd (addT l n) i).kids = _; rw [ho i hi]) (by show (nd (addT l n) (l.length : Int)).up = _; rw [hn]) (by show (nd (addT l n) (l.length : Int)).kids = _; rw [hn])
theorem count_mid (l : List Int) (a : Nat) (x : Int) (h : a < l.length) (k : Int) : (l.take a ++ l.drop (a + 1)).count k + (if k = l.getD a 0 then 1 else 0) = l.count k := by
  have e : l = l.take a ++ l.getD a 0 :: l.drop (a + 1) := by
    have : l.getD a 0 = l[a] := by simp [List.getD, List.getElem?_eq_getElem h]
    rw [this, ← List.drop_eq_getElem_cons h, List.take_append_drop]
  generalize hx : l.getD a 0 = y at *
  have e2 : l.count k = (l.take a ++ y :: l.drop (a + 1)).count k := by rw [← e]
  rw [e2, List.count_append, List.count_append, List.count_cons]
  by_cases q : k = y
  · subst q; simp; omega
  · rw [if_neg q, if_neg (by simp; exact fun h => q h.symm)]; omega
theorem cut_facts {l : List NodeD} (h : TiL l) {kid : Int} (hk : okI l.length kid) :
    (∀ i, okI l.length i → Uf (cutT l kid) i = if i = kid then -1 else Uf l i) ∧
    (Uf l kid = -1 → ∀ i, okI l.length i → Kf (cutT l kid) i = Kf l i) ∧
    (Uf l kid ≠ -1 → (∀ i, okI l.length i → i ≠ Uf l kid → Kf (cutT l kid) i = Kf l i) ∧ ∀ k, (Kf (cutT l kid) (Uf l kid)).count k + (if k = kid then 1 else 0) = (Kf l (Uf l kid)).count k) := by
  have hkt := okI_isT.2 hk
  by_cases hu : Uf l kid = -1
  · have hp : placeT l kid = -1 := by
      unfold placeT
      rw [if_neg]
      rw [Bool.and_eq_true]
      intro q
      have := (isT_iff.1 q.2).1
      have hu' : (nd l kid).up = -1 := hu
      omega
    have hA : cutA l kid = l := by unfold cutA; rw [if_neg (by rw [hp]; decide)]
    by_cases h0 : kid = 0
    · have e : cutT l kid = l := by rw [cutT_off (fun q => q.2 h0), hA]
      rw [e]
      refine ⟨fun i hi => ?_, fun _ i _ => rfl, fun q => absurd hu q⟩
      split
      · rename_i e'; rw [e']; exact hu
      · rfl
    · have e : cutT l kid = l.set kid.toNat (setUp (nd l kid) (-1)) := by rw [cutT_on ⟨hkt, h0⟩, hA]
      rw [e]
      refine ⟨fun i hi => ?_, fun _ i hi => ?_, fun q => absurd hu q⟩
      · show (nd (l.set kid.toNat (setUp (nd l kid) (-1))) i).up = _
        rw [nd_set hk hi.1]
        split <;> rfl
      · show (nd (l.set kid.toNat (setUp (nd l kid) (-1))) i).kids = _
        rw [nd_set hk hi.1]
        split
        · rename_i e'; rw [e']; rfl
        · rfl
  · have h0 : kid ≠ 0 := fun q => hu (by rw [q]; exact h.root)
    obtain ⟨hp, hc⟩ := (h.up kid hk).resolve_left hu
    have hm : (Kf l (Uf l kid)).contains kid = true := by
      rw [List.contains_iff_mem]; exact List.count_pos_iff.1 (by omega)
    have hpl : placeT l kid = ((Kf l (Uf l kid)).idxOf kid : Int) := by
      unfold placeT
      rw [hkt, show isT l (nd l kid).up = true from okI_isT.2 hp]
      show (if (true && true) = true then ixOf (Kf l (Uf l kid)) kid else -1) = _
      rw [Bool.and_self, if_pos rfl, ixOf, if_pos hm]
    have hlt : (Kf l (Uf l kid)).idxOf kid < (Kf l (Uf l kid)).length := List.idxOf_lt_length_of_mem (List.contains_iff_mem.1 hm)
    have hA : cutA l kid = l.set (Uf l kid).toNat (setKids (nd l (Uf l kid)) ((Kf l (Uf l kid)).take ((Kf l (Uf l kid)).idxOf kid) ++ (Kf l (Uf l kid)).drop ((Kf l (Uf l kid)).idxOf kid + 1))) := by
      unfold cutA
      rw [if_pos (by rw [hpl]; omega), hpl, Int.toNat_natCast, show (((Kf l (Uf l kid)).idxOf kid : Int) + 1).toNat = (Kf l (Uf l kid)).idxOf kid + 1 by omega]
    have hcm := count_mid (Kf l (Uf l kid)) _ kid hlt
    have hget : (Kf l (Uf l kid)).getD ((Kf l (Uf l kid)).idxOf kid) 0 = kid := by
      simp [List.getD, List.getElem?_eq_getElem hlt]
    rw [hget] at hcm
    generalize hr : (Kf l (Uf l kid)).take ((Kf l (Uf l kid)).idxOf kid) ++ (Kf l (Uf l kid)).drop ((Kf l (Uf l kid)).idxOf kid + 1) = R at *
    have hlA : (cutA l kid).length = l.length := cutA_len
    have hndA : ∀ i, 0 ≤ i → nd (cutA l kid) i = if i = Uf l kid then setKids (nd l (Uf l kid)) R else nd l i := fun i hi => by rw [hA, nd_set hp hi]
    have hne : kid ≠ Uf l kid := fun q => by
      obtain ⟨d, hd⟩ := h.dep
      have := hd kid hk hu
      rw [← q] at this; omega
    have hnd : ∀ i, 0 ≤ i → nd (cutT l kid) i = if i = kid then setUp (nd l kid) (-1) else if i = Uf l kid then setKids (nd l (Uf l kid)) R else nd l i := fun i hi => by
      rw [cutT_on ⟨hkt, h0⟩, nd_set (by rw [hlA]; exact hk) hi]
      split
      · rw [hndA kid hk.1, if_neg hne]
      · exact hndA i hi
    refine ⟨fun i hi => ?_, fun q => absurd q hu, fun _ => ⟨fun i hi e => ?_, fun k => ?_⟩⟩
    · show (nd (cutT l kid) i).up = _
      rw [hnd i hi.1]
      split
      · rfl
      · split
        · rename_i e; rw [e]; rfl
        · rfl
    · show (nd (cutT l kid) i).kids = _
      rw [hnd i hi.1]
      split
      · rename_i e'; rw [e']; rfl
      · first | rfl | rw [if_neg e]
    · show (nd (cutT l kid) (Uf l kid)).kids.count k + _ = _
      rw [hnd _ hp.1, if_neg (fun q => hne q.symm), if_pos rfl]
      exact hcm k
theorem ti_cut {l : List NodeD} (h : TiL l) (kid : Int) : TiL (cutT l kid) := by
  by_cases hk : okI l.length kid
  · obtain ⟨f1, f2, f3⟩ := cut_facts h hk
    unfold TiL
    rw [cutT_len]
    by_cases hu : Uf l kid = -1
    · exact Ti.congr h (fun i hi => by rw [f1 i hi]; split; rename_i e; rw [e, hu]; rfl) (f2 hu)
    · exact Ti.cut h hk hu f1 (f3 hu).1 (f3 hu).2
  · have hkt : ¬ isT l kid = true := fun q => hk (okI_isT.1 q)
    have e : cutT l kid = l := by
      rw [cutT_off (fun q => hkt q.1)]
      unfold cutA
      rw [if_neg]
      intro q
      exact hkt (place_nonneg q).1
    rw [e]; exact h
theorem holds_of {l : List NodeD} (h : TiL l) {d : Int → Nat} (hd : ∀ i, okI l.length i → Uf l i ≠ -1 → d (Uf l i) < d i) {r x : Int} (s : Ds (Uf l) r x) : okI l.length x → ∀ f, d x < f → holdsF f l r x = true := by
  induction s with
  | here =>
    intro hx f hf
    obtain ⟨f, rfl⟩ : ∃ g, f = g + 1 := ⟨f - 1, by omega⟩
    rw [holdsF, if_pos (okI_isT.2 hx), if_pos rfl]
  | @up x hu _ ih =>
    intro hx f hf
    obtain ⟨f, rfl⟩ : ∃ g, f = g + 1 := ⟨f - 1, by omega⟩
    rw [holdsF, if_pos (okI_isT.2 hx)]
    split
    · rfl
    · have := hd x hx hu
      exact ih ((h.up x hx).resolve_left hu).1 f (by omega)
theorem of_holds {l : List NodeD} {r : Int} : ∀ (f : Nat) (x : Int), holdsF f l r x = true → Ds (Uf l) r x
  | 0, x, h => by cases h
  | f + 1, x, h => by
    rw [holdsF] at h
    split at h
    · split at h
      · rename_i e; rw [e]; exact .here
      · have hs := of_holds f _ h
        refine .up (fun q => ?_) hs
        have h2 : holdsF f l r (-1) = true := by rw [← q]; exact h
        cases f with
        | zero => cases h2
        | succ f => rw [holdsF, if_neg (by rw [isT]; simp)] at h2; cases h2
    · cases h
theorem no_Ds {l : List NodeD} (h : TiL l) {r x : Int} (hr : okI l.length r) (hx : okI l.length x) (hh : holdsT l r x = false) : ¬ Ds (Uf l) r x := fun s => by
  obtain ⟨d, hb, hd⟩ := Ti.rank h
  have := holds_of h hd s hx (l.length + 1) (by have := hb x hx; omega)
  unfold holdsT at hh
  rw [okI_isT.2 hr, this] at hh
  cases hh
theorem ti_put {l : List NodeD} (h : TiL l) (up at_ kid : Int) : TiL (putT l up at_ kid) := by
  unfold putT
  split
  · exact h
  rename_i hg
  have hg : (!isT l up || !isT l kid || kid == 0 || holdsT l kid up) = false := by simpa using hg
  simp only [Bool.or_eq_false_iff, Bool.not_eq_false', beq_eq_false_iff_ne] at hg
  obtain ⟨⟨⟨g1, g2⟩, g3⟩, g4⟩ := hg
  have hu := okI_isT.1 g1
  have hk := okI_isT.1 g2
  have hc := ti_cut h kid
  obtain ⟨f1, f2, f3⟩ := cut_facts h hk
  have hcl : (cutT l kid).length = l.length := cutT_len
  have hne : kid ≠ up := fun q => by
    unfold holdsT at g4
    rw [g2, ← q, holdsF, if_pos g2, if_pos rfl] at g4
    cases g4
  have hnd := no_Ds h hk hu g4
  have hsub : ∀ x, Ds (Uf (cutT l kid)) kid x → okI l.length x → Ds (Uf l) kid x := fun x s => by
    induction s with
    | here => intro _; exact .here
    | @up x hx _ ih =>
      intro ho
      have e := f1 x ho
      by_cases q : x = kid
      · rw [q]; exact .here
      · rw [if_neg q] at e
        rw [e] at hx ih
        exact .up hx (ih ((h.up x ho).resolve_left hx).1)
  simp only
  generalize hi : min (max at_ 0) (((nd (cutT l kid) up).kids.length : Int)) = ii
  have hku : okI (cutT l kid).length up := by rw [hcl]; exact hu
  have hkk : okI (cutT l kid).length kid := by rw [hcl]; exact hk
  have h2 : ∀ i, 0 ≤ i → nd ((cutT l kid).set up.toNat (setKids (nd (cutT l kid) up) ((nd (cutT l kid) up).kids.take ii.toNat ++ kid :: (nd (cutT l kid) up).kids.drop ii.toNat))) i = if i = up then (setKids (nd (cutT l kid) up) ((nd (cutT l kid) up).kids.take ii.toNat ++ kid :: (nd (cutT l kid) up).kids.drop ii.toNat)) else nd (cutT l kid) i := fun i hi => nd_set hku hi
  generalize hC2 : (cutT l kid).set up.toNat (setKids (nd (cutT l kid) up) ((nd (cutT l kid) up).kids.take ii.toNat ++ kid :: (nd (cutT l kid) up).kids.drop ii.toNat)) = c2 at *
  have hl2 : c2.length = (cutT l kid).length := by rw [← hC2, List.length_set]
  have h3 : ∀ i, 0 ≤ i → nd (c2.set kid.toNat (setUp (nd c2 kid) up)) i = if i = kid then setUp (nd c2 kid) up else nd c2 i := fun i hi => nd_set (by rw [hl2]; exact hkk) hi
  unfold TiL
  rw [List.length_set, hl2]
  refine Ti.put hc hkk g3 hku (by rw [f1 kid hk, if_pos rfl]) (fun s => hnd (hsub up s hu)) (fun i hi => ?_) (fun i hi e => ?_) (fun k => ?_)
  · show (nd (c2.set kid.toNat (setUp (nd c2 kid) up)) i).up = _
    rw [h3 i hi.1]
    split
    · rfl
    · rw [h2 i hi.1]
      split
      · rename_i e; rw [e]; rfl
      · rfl
  · show (nd (c2.set kid.toNat (setUp (nd c2 kid) up)) i).kids = _
    rw [h3 i hi.1]
    split
    · rename_i e'
      show (nd c2 kid).kids = _
      rw [h2 kid hk.1, if_neg hne, e']
    · rw [h2 i hi.1, if_neg e]
  · show (nd (c2.set kid.toNat (setUp (nd c2 kid) up)) up).kids.count k = _
    rw [h3 up hu.1, if_neg (fun q => hne q.symm), h2 up hu.1, if_pos rfl]
    show ((nd (cutT l kid) up).kids.take ii.toNat ++ kid :: (nd (cutT l kid) up).kids.drop ii.toNat).count k = (nd (cutT l kid) up).kids.count k + _
    have e : (nd (cutT l kid) up).kids = (nd (cutT l kid) up).kids.take ii.toNat ++ (nd (cutT l kid) up).kids.drop ii.toNat := (List.take_append_drop _ _).symm
    generalize (nd (cutT l kid) up).kids.take ii.toNat = A at *
    generalize (nd (cutT l kid) up).kids.drop ii.toNat = B at *
    rw [e, List.count_append, List.count_append, List.count_cons]
    by_cases q : k = kid
    · subst q; simp; omega
    · rw [if_neg q, if_neg (by simp; exact fun h => q h.symm)]; omega
theorem ups_up (p : Int) (ks : List Int) : ∀ (l : List NodeD) (i : Int), okI l.length i → Uf (upsT l p ks) i = if i ∈ ks then p else Uf l i := by
  induction ks with
  | nil => intro l i _; simp [upsT]
  | cons k ks ih =>
    intro l i hi
    show Uf (upsT (upOne p l k) p ks) i = _
    rw [ih _ i (by rw [upOne_len]; exact hi)]
    by_cases q : i ∈ ks
    · rw [if_pos q, if_pos (List.mem_cons_of_mem _ q)]
    · rw [if_neg q]
      unfold upOne
      by_cases hk : isT l k = true
      · rw [if_pos hk]
        show (nd (l.set k.toNat (setUp (nd l k) p)) i).up = _
        rw [nd_set (okI_isT.1 hk) hi.1]
        by_cases e : i = k
        · rw [if_pos e, if_pos (by rw [e]; exact List.mem_cons_self)]; rfl
        · rw [if_neg e, if_neg (by rw [List.mem_cons]; exact fun z => z.elim e q)]
      · rw [if_neg hk, if_neg]
        rw [List.mem_cons]
        rintro (z | z)
        · exact hk (okI_isT.2 (by rw [← z]; exact hi))
        · exact q z
theorem ti_move {l : List NodeD} (h : TiL l) (a b : Int) : TiL (moveT l a b) := by
  unfold moveT
  split
  · exact h
  rename_i hg
  have hg : (!isT l a || !isT l b || holdsT l a b) = false := by simpa using hg
  simp only [Bool.or_eq_false_iff, Bool.not_eq_false'] at hg
  obtain ⟨⟨g1, g2⟩, g4⟩ := hg
  have ha := okI_isT.1 g1
  have hb := okI_isT.1 g2
  have hd := no_Ds h ha hb g4
  have hne : a ≠ b := fun q => hd (by rw [q]; exact .here)
  have hlu := ups_len b (nd l a).kids l
  have hU := ups_up b (nd l a).kids l
  have hK : ∀ i : Int, Kf (upsT l b (nd l a).kids) i = Kf l i := fun i => (ups_rest b (nd l a).kids l i.toNat).1
  generalize hu : upsT l b (nd l a).kids = u at *
  have hb' : okI u.length b := by rw [hlu]; exact hb
  have h2 : ∀ i, 0 ≤ i → nd (setK u b ((nd u b).kids ++ (nd l a).kids)) i = if i = b then setKids (nd u b) ((nd u b).kids ++ (nd l a).kids) else nd u i := fun i hi => nd_set hb' hi
  have hl2 : (setK u b ((nd u b).kids ++ (nd l a).kids)).length = u.length := List.length_set
  generalize hc : setK u b ((nd u b).kids ++ (nd l a).kids) = c at *
  have ha' : okI c.length a := by rw [hl2, hlu]; exact ha
  have h3 : ∀ i, 0 ≤ i → nd (setK c a []) i = if i = a then setKids (nd c a) [] else nd c i := fun i hi => nd_set ha' hi
  have hl3 : (setK c a []).length = l.length := by unfold setK; rw [List.length_set, hl2, hlu]
  unfold TiL
  rw [hl3]
  refine Ti.move h ha hb hd (fun i hi => ?_) ?_ ?_ (fun i hi e1 e2 => ?_)
  · rw [← hU i hi]
    show (nd (setK c a []) i).up = (nd u i).up
    rw [h3 i hi.1]
    have hcu : ∀ i, 0 ≤ i → (nd c i).up = (nd u i).up := fun i hi => by
      rw [h2 i hi]; split
      · rename_i e; rw [e]; rfl
      · rfl
    split
    · rename_i e; rw [e]; exact hcu a ha.1
    · exact hcu i hi.1
  · show (nd (setK c a []) a).kids = []
    rw [h3 a ha.1, if_pos rfl]; rfl
  · show (nd (setK c a []) b).kids = _
    rw [h3 b hb.1, if_neg (fun q => hne q.symm), h2 b hb.1, if_pos rfl]
    show (nd u b).kids ++ (nd l a).kids = _
    rw [show (nd u b).kids = Kf l b from hK b]
  · show (nd (setK c a []) i).kids = _
    rw [h3 i hi.1, if_neg e1, h2 i hi.1, if_neg e2]
    exact hK i
end Go.Vc

namespace Go.Vc
open Go.Proofs
set_option maxRecDepth 10000
set_option maxHeartbeats 4000000
def stepT (l : List NodeD) (o a b c : Int) (n : NodeD) : List NodeD :=
  if o = 0 then addT l n else if o = 1 then cutT l a else if o = 2 then putT l a b c else moveT l a b
instance gDone (l : List NodeD) (o a b c : Int) (k s : Int) (nm : List UInt8) (at_ : List AttrD) (d : List UInt8) (up : Int) (kids : List Int) :
    FnM BB 11 [.loc 0 0, .loc 2 0, .agg [.int .i64 o, .int .i64 a, .int .i64 b, .int .i64 c, .int .i64 k, .int .i64 s, .str nm, .rd attrTy at_, .str d, .int .i64 up, .rd intTy kids]]
      [(0, .box [.own 1]), (1, .own nodeTy l), (2, .box [.own 3]), (3, .own nodeTy l)] (smallT l = true ∧ at_.length ≤ 1000)
      (.bool true) [(0, .box [.own 1]), (1, .own nodeTy (stepT l o a b c (k, s, nm, at_, d, up, kids))), (2, .box [.own 3]), (3, .own nodeTy (stepT l o a b c (k, s, nm, at_, d, up, kids)))] := by
  refine FnM.intro (N := 60) [0, 1, 2, 5, 6, 8, 21, 32, 42] [(5, [0, 0, 4, 4, 0, 0, 4, 4, 4, 4])] 4 Try.call11 Try.func11 rfl rfl (by kernel_rfl) (fun hpre => ?_)
  obtain ⟨p1, p2⟩ := hpre
  have hl := small_len p1
  have w0 : (o == 0) = true → stepT l o a b c (k, s, nm, at_, d, up, kids) = addT l (k, s, nm, at_, d, up, kids) := fun h => by unfold stepT; rw [if_pos (by simpa using h)]
  have w1 : (o == 0) = false → (o == 1) = true → stepT l o a b c (k, s, nm, at_, d, up, kids) = cutT l a := fun h h1 => by unfold stepT; rw [if_neg (by simpa using h), if_pos (by simpa using h1)]
  have w2 : (o == 0) = false → (o == 1) = false → (o == 2) = true → stepT l o a b c (k, s, nm, at_, d, up, kids) = putT l a b c := fun h h1 h2 => by unfold stepT; rw [if_neg (by simpa using h), if_neg (by simpa using h1), if_pos (by simpa using h2)]
  have w3 : (o == 0) = false → (o == 1) = false → (o == 2) = false → stepT l o a b c (k, s, nm, at_, d, up, kids) = moveT l a b := fun h h1 h2 => by unfold stepT; rw [if_neg (by simpa using h), if_neg (by simpa using h1), if_neg (by simpa using h2)]
  repeat' ((conv => whnf);first|(with_reducible first|rfl|exact absTF|exact absFT)|exact True.intro|intro _|refine And.intro ?_ ?_|refine Fin.mk ?_|refine W1 rfl ?_ ?_|refine W2 rfl ?_ ?_|refine W3 rfl ?_ ?_|refine W4 ?_ ?_|refine W5 rfl ?_ ?_|refine W6 ?_ ?_|refine AppN.mk ?_|refine X1 (W1 rfl ?_ ?_)|refine X1 (W2 rfl ?_ ?_)|refine X2 (W7 rfl ?_ ?_)|refine X3 (W7 rfl ?_ ?_)|refine X4 (W7 rfl ?_ ?_)|refine X5 (W7 rfl ?_ ?_))
  all_goals (try (conv => whnf))
  all_goals (try first|exact Ob.mk (u8_bnd _)|(refine Ob.mk ?_;first|exact True.intro|assumption|omega|(try simp only [ZA,ZB,ZC,ZD,ZE,ZF,ZG,ZH,ZI,ZJ,ZK,ZL,ZM,ZN,ZO,Int.toNat_natCast,UInt8.ofNat_toNat,cast_eq] at *;omega)))
  all_goals (try first|(show (_:Int) = _;omega)|(show tupSV _ = _;with_unfolding_all rfl)|((first|show (_:Nat) ≤ _|show (_:Nat) ≤ _ ∧ (_:Nat) ≤ _|show (_:Int) ≤ _ ∧ (_:Int) ≤ _ ∧ (_:Int) ≤ _ ∧ (_:Int) ≤ _);(simp <;> omega)))
  all_goals (try (have q := w0 ‹(o == 0) = true›))
  all_goals (try (have q := w1 ‹(o == 0) = false› ‹(o == 1) = true›))
  all_goals (try (have q := w2 ‹(o == 0) = false› ‹(o == 1) = false› ‹(o == 2) = true›))
  all_goals (try (have q := w3 ‹(o == 0) = false› ‹(o == 1) = false› ‹(o == 2) = false›))
  all_goals (first | (rw [q]; done) | (rw [q]; rfl) | (simp; done) | trace_state)
end Go.Vc

namespace Go.Vc
open Go.Proofs
set_option maxRecDepth 10000
set_option maxHeartbeats 8000000
abbrev NodeD.at (n : NodeD) : List AttrD := n.2.2.2.1
def atSame (l l' : List NodeD) : Prop := l'.length = l.length ∧ ∀ i : Nat, (l'.getD i nodeTy.dflt).2.2.2.1 = (l.getD i nodeTy.dflt).2.2.2.1
theorem atSame.refl (l : List NodeD) : atSame l l := ⟨rfl, fun _ => rfl⟩
theorem atSame.trans {a b c : List NodeD} (h : atSame a b) (h2 : atSame b c) : atSame a c := ⟨h2.1.trans h.1, fun i => (h2.2 i).trans (h.2 i)⟩
theorem atSame_set (l : List NodeD) (k : Nat) (n : NodeD) (h : n.2.2.2.1 = (l.getD k nodeTy.dflt).2.2.2.1) : atSame l (l.set k n) := by
  refine ⟨List.length_set, fun i => ?_⟩
  rw [getD_set]
  split
  · rename_i q; rw [h, q.1]
  · rfl
theorem at_cut (l : List NodeD) (kid : Int) : atSame l (cutT l kid) := by
  have hA : atSame l (cutA l kid) := by
    unfold cutA
    split
    · exact atSame_set _ _ _ rfl
    · exact .refl l
  unfold cutT
  split
  · exact hA.trans (atSame_set _ _ _ rfl)
  · exact hA
theorem at_put (l : List NodeD) (up a kid : Int) : atSame l (putT l up a kid) := by
  unfold putT
  split
  · exact .refl l
  · refine atSame.trans ?_ (atSame_set _ kid.toNat (setUp (nd _ kid) up) rfl)
    exact (at_cut l kid).trans (atSame_set _ up.toNat (setKids (nd _ up) _) rfl)
theorem at_ups (p : Int) (ks : List Int) : ∀ l : List NodeD, atSame l (upsT l p ks) := by
  induction ks with
  | nil => intro l; exact .refl l
  | cons k ks ih =>
    intro l
    refine atSame.trans ?_ (ih (upOne p l k))
    unfold upOne
    split
    · exact atSame_set _ _ _ rfl
    · exact .refl l
theorem at_move (l : List NodeD) (a b : Int) : atSame l (moveT l a b) := by
  unfold moveT
  split
  · exact .refl l
  · unfold setK
    refine atSame.trans ?_ (atSame_set _ a.toNat (setKids (nd _ a) []) rfl)
    exact (at_ups b (nd l a).kids l).trans (atSame_set _ b.toNat (setKids (nd _ b) _) rfl)
def atOk (l : List NodeD) : Prop := ∀ i, i < l.length → (l.getD i nodeTy.dflt).2.2.2.1.length ≤ 1000
theorem atOk_same {l l' : List NodeD} (h : atSame l l') (ho : atOk l) : atOk l' := fun i hi => by rw [h.2 i]; exact ho i (by rw [← h.1]; exact hi)
theorem step_ok {l : List NodeD} (ht : TiL l) (ho : atOk l) (o a b c : Int) (n : NodeD) (hn : n.2.2.2.1.length ≤ 1000) : TiL (stepT l o a b c n) ∧ atOk (stepT l o a b c n) ∧ (stepT l o a b c n).length ≤ l.length + 1 := by
  unfold stepT
  split
  · refine ⟨ti_add n ht, fun i hi => ?_, by simp [addT]⟩
    unfold addT at hi ⊢
    simp only [List.length_append, List.length_cons, List.length_nil] at hi
    simp only [List.getD]
    rcases Nat.lt_or_ge i l.length with q | q
    · rw [List.getElem?_append_left q]; have := ho i q; simpa [List.getD] using this
    · rw [List.getElem?_append_right q, show i - l.length = 0 by omega]; exact hn
  split
  · exact ⟨ti_cut ht a, atOk_same (at_cut l a) ho, by rw [(at_cut l a).1]; omega⟩
  split
  · exact ⟨ti_put ht a b c, atOk_same (at_put l a b c) ho, by rw [(at_put l a b c).1]; omega⟩
  · exact ⟨ti_move ht a b, atOk_same (at_move l a b) ho, by rw [(at_move l a b).1]; omega⟩
theorem small_of {l : List NodeD} (ht : TiL l) (ho : atOk l) (hl : l.length ≤ 1000) : smallT l = true := by
  refine smB_small (m := 1000) (Nat.le_refl _) ⟨hl, fun i hi => ⟨ho i hi, ?_⟩⟩
  have := Ti.len ht (i := (i : Int)) ⟨by omega, by omega⟩
  have e : Kf l (i : Int) = (l.getD i nodeTy.dflt).kids := by show (nd l (i : Int)).kids = _; unfold nd; rw [Int.toNat_natCast]
  rw [e] at this
  exact Nat.le_trans this hl
instance gAwake : Fn BB 13 [] True (.bool true) := by
  refine Fn.intro (N := 42) [0, 1, 2] [] Try.call13 Try.func13 rfl rfl (by kernel_rfl) (fun hpre => ?_)
  repeat' ((conv => whnf);first|(with_reducible first|rfl|exact absTF|exact absFT)|exact True.intro|intro _|refine And.intro ?_ ?_|refine Fin.mk ?_|refine W1 rfl ?_ ?_|refine W2 rfl ?_ ?_|refine W3 rfl ?_ ?_|refine W4 ?_ ?_|refine W5 rfl ?_ ?_|refine W6 ?_ ?_|refine AppN.mk ?_|refine X1 (W1 rfl ?_ ?_)|refine X1 (W2 rfl ?_ ?_)|refine X2 (W7 rfl ?_ ?_)|refine X3 (W7 rfl ?_ ?_)|refine X4 (W7 rfl ?_ ?_)|refine X5 (W7 rfl ?_ ?_))
  all_goals (try (conv => whnf))
  all_goals (try first|exact Ob.mk (u8_bnd _)|(refine Ob.mk ?_;first|exact True.intro|assumption|omega|(try simp only [ZA,ZB,ZC,ZD,ZE,ZF,ZG,ZH,ZI,ZJ,ZK,ZL,ZM,ZN,ZO,Int.toNat_natCast,UInt8.ofNat_toNat,cast_eq] at *;omega)))
  all_goals (try first|(show (_:Int) = _;omega)|(show tupSV _ = _;with_unfolding_all rfl)|((first|show (_:Nat) ≤ _|show (_:Nat) ≤ _ ∧ (_:Nat) ≤ _|show (_:Int) ≤ _ ∧ (_:Int) ≤ _ ∧ (_:Int) ≤ _ ∧ (_:Int) ≤ _);(simp <;> omega)))
  all_goals (try (decide +kernel))
  all_goals trace_state
theorem getD_mem (L : List Int) (k : Nat) (h : k < L.length) : L.getD k 0 ∈ L := by
  rw [List.getD_eq_getElem?_getD, List.getElem?_eq_getElem h]; exact List.getElem_mem h
theorem holds_self {l : List NodeD} (h : TiL l) {j : Int} (hj : okI l.length j) : holdsT l j (nd l j).up = false := by
  cases hh : holdsT l j (nd l j).up with
  | false => rfl
  | true =>
    unfold holdsT at hh
    rw [Bool.and_eq_true] at hh
    have s := of_holds _ _ hh.2
    by_cases hu : Uf l j = -1
    · have h2 := hh.2
      rw [show (nd l j).up = -1 from hu, holdsF, if_neg (by rw [isT]; simp)] at h2
      cases h2
    · exact absurd s (Ds.self h hj hu)
theorem count_take (l : List Int) (k : Nat) (x : Int) (h : k < l.length) : (l.take (k + 1)).count x = (l.take k).count x + (if l.getD k 0 = x then 1 else 0) := by
  rw [take_one l k h, List.count_append, List.count_cons, List.count_nil]
  by_cases q : l.getD k 0 = x
  · rw [if_pos q, if_pos (by simpa using q)]
  · rw [if_neg q, if_neg (by simpa using q)]
instance gUps (ops : List opTy.T) : Fn BB 3 [.rd opTy ops] True (.bool true) := by
  refine Fn.intro (N := 132) [0, 2, 3, 4, 5, 6, 7, 8, 9, 11, 12, 15, 16, 17, 18, 29, 32, 35, 36, 37, 38, 43, 44, 45, 46, 67, 91, 106, 120, 129] [] Try.call3 Try.func3 rfl rfl (by kernel_rfl) (fun hpre => ?_)
  repeat' ((conv => whnf);first|(with_reducible first|rfl|exact absTF|exact absFT)|exact True.intro|intro _|refine And.intro ?_ ?_|refine Fin.mk ?_|refine W1 rfl ?_ ?_|refine W2 rfl ?_ ?_|refine W3 rfl ?_ ?_|refine W4 ?_ ?_|refine W5 rfl ?_ ?_|refine W6 ?_ ?_|refine AppN.mk ?_|refine X1 (W1 rfl ?_ ?_)|refine X1 (W2 rfl ?_ ?_)|refine X2 (W7 rfl ?_ ?_)|refine X3 (W7 rfl ?_ ?_)|refine X4 (W7 rfl ?_ ?_)|refine X5 (W7 rfl ?_ ?_))
  all_goals (try (conv => whnf))
  all_goals (try first|exact Ob.mk (u8_bnd _)|(refine Ob.mk ?_;first|exact True.intro|assumption|omega|(try simp only [ZA,ZB,ZC,ZD,ZE,ZF,ZG,ZH,ZI,ZJ,ZK,ZL,ZM,ZN,ZO,Int.toNat_natCast,UInt8.ofNat_toNat,cast_eq] at *;omega)))
  all_goals (try first|(show (_:Int) = _;omega)|(show tupSV _ = _;with_unfolding_all rfl)|((first|show (_:Nat) ≤ _|show (_:Nat) ≤ _ ∧ (_:Nat) ≤ _|show (_:Int) ≤ _ ∧ (_:Int) ≤ _ ∧ (_:Int) ≤ _ ∧ (_:Int) ≤ _);(simp <;> omega)))
  refine LoopStop.mk (α := Nat × List NodeD) (fun a => [(17, .int .i64 (a.1 : Nat))]) (fun a => [(0, .own nodeTy a.2), (2, .own nodeTy a.2)]) 60 (fun a => a.1 ≤ ops.length ∧ a.1 ≤ 30 ∧ TiL a.2 ∧ atOk a.2 ∧ a.2.length ≤ a.1 + 1) (fun a => ops.length - a.1) (0, [rootN]) ⟨by simp, by simp, ti_root, fun i hi => by (have : i = 0 := by (have : i < 1 := hi; omega)); subst this; decide, by simp⟩ ?_ (fun a ha => ?_)
  · repeat' ((conv => whnf);first|(with_reducible first|rfl|exact absTF|exact absFT)|exact True.intro|intro _|refine And.intro ?_ ?_|refine Fin.mk ?_|refine W1 rfl ?_ ?_|refine W2 rfl ?_ ?_|refine W3 rfl ?_ ?_|refine W4 ?_ ?_|refine W5 rfl ?_ ?_|refine W6 ?_ ?_|refine AppN.mk ?_|refine X1 (W1 rfl ?_ ?_)|refine X1 (W2 rfl ?_ ?_)|refine X2 (W7 rfl ?_ ?_)|refine X3 (W7 rfl ?_ ?_)|refine X4 (W7 rfl ?_ ?_)|refine X5 (W7 rfl ?_ ?_))
    all_goals (try (conv => whnf))
    all_goals (try first|exact Ob.mk (u8_bnd _)|(refine Ob.mk ?_;first|exact True.intro|assumption|omega|(try simp only [ZA,ZB,ZC,ZD,ZE,ZF,ZG,ZH,ZI,ZJ,ZK,ZL,ZM,ZN,ZO,Int.toNat_natCast,UInt8.ofNat_toNat,cast_eq] at *;omega)))
    all_goals (try first|(show (_:Int) = _;omega)|(show tupSV _ = _;with_unfolding_all rfl)|((first|show (_:Nat) ≤ _|show (_:Nat) ≤ _ ∧ (_:Nat) ≤ _|show (_:Int) ≤ _ ∧ (_:Int) ≤ _ ∧ (_:Int) ≤ _ ∧ (_:Int) ≤ _);(simp <;> omega)))
    all_goals (first | rfl | trace_state)
  · obtain ⟨i, l⟩ := a
    obtain ⟨h1, h2, h3, h4, h5⟩ := ha
    dsimp only at h1 h2 h3 h4 h5
    have hsm := small_of h3 h4 (by omega)
    obtain ⟨n, hn⟩ : ∃ n : NodeD, (ops.getD i opTy.dflt).2.2.2.2 = n := ⟨_, rfl⟩
    have hg : (decide ((i : Int) ≥ 30) || !nodeOk (n.1, n.2.1, n.2.2.1, n.2.2.2.1, n.2.2.2.2.1, n.2.2.2.2.2.1, n.2.2.2.2.2.2)) = false → i < 30 ∧ n.2.2.2.1.length ≤ 1000 := fun h => by
      rw [Bool.or_eq_false_iff] at h
      have q1 := of_decide_eq_false h.1
      have q2 : nodeOk n = true := by simpa using h.2
      unfold nodeOk attrsOk at q2
      simp only [Bool.and_eq_true, decide_eq_true_eq] at q2
      exact ⟨by omega, by omega⟩
    repeat' ((conv => whnf);first|(with_reducible first|rfl|exact absTF|exact absFT)|exact True.intro|intro _|refine And.intro ?_ ?_|refine Fin.mk ?_|refine W1 rfl ?_ ?_|refine W2 rfl ?_ ?_|refine W3 rfl ?_ ?_|refine W4 ?_ ?_|refine W5 rfl ?_ ?_|refine W6 ?_ ?_|refine AppN.mk ?_|refine X1 (W1 rfl ?_ ?_)|refine X1 (W2 rfl ?_ ?_)|refine X2 (W7 rfl ?_ ?_)|refine X3 (W7 rfl ?_ ?_)|refine X4 (W7 rfl ?_ ?_)|refine X5 (W7 rfl ?_ ?_))
    all_goals (try (conv => whnf))
    all_goals (try first|exact Ob.mk (u8_bnd _)|(refine Ob.mk ?_;first|exact True.intro|assumption|omega|(try simp only [ZA,ZB,ZC,ZD,ZE,ZF,ZG,ZH,ZI,ZJ,ZK,ZL,ZM,ZN,ZO,Int.toNat_natCast,UInt8.ofNat_toNat,cast_eq] at *;omega)))
    all_goals (try first|(show (_:Int) = _;omega)|(show tupSV _ = _;with_unfolding_all rfl)|((first|show (_:Nat) ≤ _|show (_:Nat) ≤ _ ∧ (_:Nat) ≤ _|show (_:Int) ≤ _ ∧ (_:Int) ≤ _ ∧ (_:Int) ≤ _ ∧ (_:Int) ≤ _);(simp <;> omega)))
    all_goals (try dsimp only at *)
    all_goals (try simp only [Int.toNat_natCast] at *)
    all_goals (try (have q := hg (by rw [← hn]; assumption); obtain ⟨q1, q2⟩ := q))
    all_goals (try (have b1 := of_decide_eq_true ‹decide ((i : Int) < (ops.length : Int)) = true›))
    all_goals (first | omega | (exact ⟨hsm, by rw [hn]; exact q2⟩) | (exfalso; exact absurd ‹(!true) = true› (by decide)) | skip)
    · refine LoopStop.mk (α := Nat) (fun j => [(37, .int .i64 j)]) (fun _ => []) 100 (fun j => j ≤ l.length) (fun j => l.length - j) 0 (by simp) ?_ (fun j hj => ?_)
      · repeat' ((conv => whnf);first|(with_reducible first|rfl|exact absTF|exact absFT)|exact True.intro|intro _|refine And.intro ?_ ?_|refine Fin.mk ?_|refine W1 rfl ?_ ?_|refine W2 rfl ?_ ?_|refine W3 rfl ?_ ?_|refine W4 ?_ ?_|refine W5 rfl ?_ ?_|refine W6 ?_ ?_|refine AppN.mk ?_|refine X1 (W1 rfl ?_ ?_)|refine X1 (W2 rfl ?_ ?_)|refine X2 (W7 rfl ?_ ?_)|refine X3 (W7 rfl ?_ ?_)|refine X4 (W7 rfl ?_ ?_)|refine X5 (W7 rfl ?_ ?_))
        all_goals (try (conv => whnf))
        all_goals (try first|exact Ob.mk (u8_bnd _)|(refine Ob.mk ?_;first|exact True.intro|assumption|omega|(try simp only [ZA,ZB,ZC,ZD,ZE,ZF,ZG,ZH,ZI,ZJ,ZK,ZL,ZM,ZN,ZO,Int.toNat_natCast,UInt8.ofNat_toNat,cast_eq] at *;omega)))
        all_goals (try first|(show (_:Int) = _;omega)|(show tupSV _ = _;with_unfolding_all rfl)|((first|show (_:Nat) ≤ _|show (_:Nat) ≤ _ ∧ (_:Nat) ≤ _|show (_:Int) ≤ _ ∧ (_:Int) ≤ _ ∧ (_:Int) ≤ _ ∧ (_:Int) ≤ _);(simp <;> omega)))
        all_goals (first | rfl | trace_state)
      · have fk : ∀ (k : Nat), j < l.length → k < (l.getD j nodeTy.dflt).kids.length → okI l.length ((l.getD j nodeTy.dflt).kids.getD k 0) ∧ (nd l ((l.getD j nodeTy.dflt).kids.getD k 0)).up = j := fun k hjl hk => by
          have hm : (l.getD j nodeTy.dflt).kids.getD k 0 ∈ Kf l j := by
            show _ ∈ (nd l (j : Int)).kids
            rw [show nd l (j : Int) = l.getD j nodeTy.dflt from by unfold nd; rw [Int.toNat_natCast]]
            exact getD_mem _ k hk
          exact h3.kid j ⟨by omega, by omega⟩ _ hm
        have fh : j < l.length → holdsT l j (l.getD j nodeTy.dflt).up = false := fun hjl => by
          have := holds_self h3 (j := (j : Int)) ⟨by omega, by omega⟩
          rwa [show nd l (j : Int) = l.getD j nodeTy.dflt from by unfold nd; rw [Int.toNat_natCast]] at this
        have fu : j < l.length → (l.getD j nodeTy.dflt).up = -1 ∨ ((0 ≤ (l.getD j nodeTy.dflt).up ∧ (l.getD j nodeTy.dflt).up < l.length) ∧ (Kf l (l.getD j nodeTy.dflt).up).count (j : Int) = 1) := fun hjl => by
          have := h3.up (j : Int) ⟨by omega, by omega⟩
          rwa [show Uf l (j : Int) = (l.getD j nodeTy.dflt).up from by show (nd l (j : Int)).up = _; unfold nd; rw [Int.toNat_natCast]] at this
        repeat' ((conv => whnf);first|(with_reducible first|rfl|exact absTF|exact absFT)|exact True.intro|intro _|refine And.intro ?_ ?_|refine Fin.mk ?_|refine W1 rfl ?_ ?_|refine W2 rfl ?_ ?_|refine W3 rfl ?_ ?_|refine W4 ?_ ?_|refine W5 rfl ?_ ?_|refine W6 ?_ ?_|refine AppN.mk ?_|refine X1 (W1 rfl ?_ ?_)|refine X1 (W2 rfl ?_ ?_)|refine X2 (W7 rfl ?_ ?_)|refine X3 (W7 rfl ?_ ?_)|refine X4 (W7 rfl ?_ ?_)|refine X5 (W7 rfl ?_ ?_))
        all_goals (try (conv => whnf))
        all_goals (try first|exact Ob.mk (u8_bnd _)|(refine Ob.mk ?_;first|exact True.intro|assumption|omega|(try simp only [ZA,ZB,ZC,ZD,ZE,ZF,ZG,ZH,ZI,ZJ,ZK,ZL,ZM,ZN,ZO,Int.toNat_natCast,UInt8.ofNat_toNat,cast_eq] at *;omega)))
        all_goals (try first|(show (_:Int) = _;omega)|(show tupSV _ = _;with_unfolding_all rfl)|((first|show (_:Nat) ≤ _|show (_:Nat) ≤ _ ∧ (_:Nat) ≤ _|show (_:Int) ≤ _ ∧ (_:Int) ≤ _ ∧ (_:Int) ≤ _ ∧ (_:Int) ≤ _);(simp <;> omega)))
        all_goals (try dsimp only at *)
        all_goals (try simp only [Int.toNat_natCast] at *)
        · have hjl : j < l.length := by (have := of_decide_eq_true ‹decide ((j : Int) < (l.length : Int)) = true›; omega)
          refine LoopStop.mk (α := Nat) (fun m => [(45, .int .i64 m)]) (fun _ => []) 140 (fun m => m ≤ (l.getD j nodeTy.dflt).kids.length) (fun m => (l.getD j nodeTy.dflt).kids.length - m) 0 (by simp) ?_ (fun m hm => ?_)
          · repeat' ((conv => whnf);first|(with_reducible first|rfl|exact absTF|exact absFT)|exact True.intro|intro _|refine And.intro ?_ ?_|refine Fin.mk ?_|refine W1 rfl ?_ ?_|refine W2 rfl ?_ ?_|refine W3 rfl ?_ ?_|refine W4 ?_ ?_|refine W5 rfl ?_ ?_|refine W6 ?_ ?_|refine AppN.mk ?_|refine X1 (W1 rfl ?_ ?_)|refine X1 (W2 rfl ?_ ?_)|refine X2 (W7 rfl ?_ ?_)|refine X3 (W7 rfl ?_ ?_)|refine X4 (W7 rfl ?_ ?_)|refine X5 (W7 rfl ?_ ?_))
            all_goals (try (conv => whnf))
            all_goals (try first|exact Ob.mk (u8_bnd _)|(refine Ob.mk ?_;first|exact True.intro|assumption|omega|(try simp only [ZA,ZB,ZC,ZD,ZE,ZF,ZG,ZH,ZI,ZJ,ZK,ZL,ZM,ZN,ZO,Int.toNat_natCast,UInt8.ofNat_toNat,cast_eq] at *;omega)))
            all_goals (try first|(show (_:Int) = _;omega)|(show tupSV _ = _;with_unfolding_all rfl)|((first|show (_:Nat) ≤ _|show (_:Nat) ≤ _ ∧ (_:Nat) ≤ _|show (_:Int) ≤ _ ∧ (_:Int) ≤ _ ∧ (_:Int) ≤ _ ∧ (_:Int) ≤ _);(simp <;> omega)))
            all_goals (first | rfl | trace_state)
          · have fkm := fk m hjl
            repeat' ((conv => whnf);first|(with_reducible first|rfl|exact absTF|exact absFT)|exact True.intro|intro _|refine And.intro ?_ ?_|refine Fin.mk ?_|refine W1 rfl ?_ ?_|refine W2 rfl ?_ ?_|refine W3 rfl ?_ ?_|refine W4 ?_ ?_|refine W5 rfl ?_ ?_|refine W6 ?_ ?_|refine AppN.mk ?_|refine X1 (W1 rfl ?_ ?_)|refine X1 (W2 rfl ?_ ?_)|refine X2 (W7 rfl ?_ ?_)|refine X3 (W7 rfl ?_ ?_)|refine X4 (W7 rfl ?_ ?_)|refine X5 (W7 rfl ?_ ?_))
            all_goals (try (conv => whnf))
            all_goals (try first|exact Ob.mk (u8_bnd _)|(refine Ob.mk ?_;first|exact True.intro|assumption|omega|(try simp only [ZA,ZB,ZC,ZD,ZE,ZF,ZG,ZH,ZI,ZJ,ZK,ZL,ZM,ZN,ZO,Int.toNat_natCast,UInt8.ofNat_toNat,cast_eq] at *;omega)))
            all_goals (try first|(show (_:Int) = _;omega)|(show tupSV _ = _;with_unfolding_all rfl)|((first|show (_:Nat) ≤ _|show (_:Nat) ≤ _ ∧ (_:Nat) ≤ _|show (_:Int) ≤ _ ∧ (_:Int) ≤ _ ∧ (_:Int) ≤ _ ∧ (_:Int) ≤ _);(simp <;> omega)))
            all_goals (try dsimp only at *)
            all_goals (try simp only [Int.toNat_natCast] at *)
            all_goals (try (have bm : m < (l.getD j nodeTy.dflt).kids.length := by (have := of_decide_eq_true (show decide ((m : Int) < ((l.getD j nodeTy.dflt).kids.length : Int)) = true from ‹_›); omega)))
            all_goals (try (have o := fkm ‹m < (l.getD j nodeTy.dflt).kids.length›; obtain ⟨o1, o2⟩ := o))
            all_goals (try (exact o1))
            all_goals (try (exact (by have h1 := o1.1; have h2 := o1.2; omega : ((l.getD j nodeTy.dflt).kids.getD m 0).toNat < l.length)))
            all_goals (try (exfalso; have G : (decide ((l.getD j nodeTy.dflt).kids.getD m 0 < 0) || decide ((l.getD j nodeTy.dflt).kids.getD m 0 ≥ (l.length : Int)) || (nd l ((l.getD j nodeTy.dflt).kids.getD m 0)).up != (j : Int)) = true := ‹_›; rw [o2, decide_eq_false (by have := o1.1; omega), decide_eq_false (by have := o1.2; omega)] at G; simp at G; done))
            all_goals (try (exfalso; have G : (decide ((l.getD j nodeTy.dflt).up < -1) || decide ((l.getD j nodeTy.dflt).up ≥ (l.length : Int)) || decide ((l.getD j nodeTy.dflt).up ≥ 0) && holdsT l (j : Int) (l.getD j nodeTy.dflt).up) = true := ‹_›; rw [fh hjl, Bool.and_false, Bool.or_false, Bool.or_eq_true] at G; rcases fu hjl with q | q <;> rcases G with G | G <;> (have := of_decide_eq_true G; omega)))
            · refine Rnd.mk ⟨m + 1, by omega, by omega, ?_⟩
              repeat' ((conv => whnf);first|(with_reducible first|rfl|exact absTF|exact absFT)|exact True.intro|intro _|refine And.intro ?_ ?_|refine Fin.mk ?_|refine W1 rfl ?_ ?_|refine W2 rfl ?_ ?_|refine W3 rfl ?_ ?_|refine W4 ?_ ?_|refine W5 rfl ?_ ?_|refine W6 ?_ ?_|refine AppN.mk ?_|refine X1 (W1 rfl ?_ ?_)|refine X1 (W2 rfl ?_ ?_)|refine X2 (W7 rfl ?_ ?_)|refine X3 (W7 rfl ?_ ?_)|refine X4 (W7 rfl ?_ ?_)|refine X5 (W7 rfl ?_ ?_))
              all_goals (try (conv => whnf))
              all_goals (try first|exact Ob.mk (u8_bnd _)|(refine Ob.mk ?_;first|exact True.intro|assumption|omega|(try simp only [ZA,ZB,ZC,ZD,ZE,ZF,ZG,ZH,ZI,ZJ,ZK,ZL,ZM,ZN,ZO,Int.toNat_natCast,UInt8.ofNat_toNat,cast_eq] at *;omega)))
              all_goals (try first|(show (_:Int) = _;omega)|(show tupSV _ = _;with_unfolding_all rfl)|((first|show (_:Nat) ≤ _|show (_:Nat) ≤ _ ∧ (_:Nat) ≤ _|show (_:Int) ≤ _ ∧ (_:Int) ≤ _ ∧ (_:Int) ≤ _ ∧ (_:Int) ≤ _);(simp <;> omega)))
              all_goals (first | rfl | omega | trace_state)
            · have fu := fu hjl
              have kb : (Kf l (l.getD j nodeTy.dflt).up).length ≤ 1000 := by
                refine ((smB_of hsm).2 (l.getD j nodeTy.dflt).up.toNat ?_).2
                have := h3.pos
                rcases fu with q | q <;> omega
              have fpos : decide ((l.getD j nodeTy.dflt).up ≥ 0) = true → 0 ≤ (l.getD j nodeTy.dflt).up ∧ (l.getD j nodeTy.dflt).up < l.length := fun h => by
                have := of_decide_eq_true h
                rcases fu with q | q
                · omega
                · exact q.1
              refine LoopStop.mk (α := Nat) (fun k => [(12, .int .i64 (k : Nat)), (9, .int .i64 (((Kf l (l.getD j nodeTy.dflt).up).take k).count (j : Int) : Nat))]) (fun _ => []) 180 (fun k => k ≤ (Kf l (l.getD j nodeTy.dflt).up).length) (fun k => (Kf l (l.getD j nodeTy.dflt).up).length - k) 0 (by simp) ?_ (fun k hk => ?_)
              · repeat' ((conv => whnf);first|(with_reducible first|rfl|exact absTF|exact absFT)|exact True.intro|intro _|refine And.intro ?_ ?_|refine Fin.mk ?_|refine W1 rfl ?_ ?_|refine W2 rfl ?_ ?_|refine W3 rfl ?_ ?_|refine W4 ?_ ?_|refine W5 rfl ?_ ?_|refine W6 ?_ ?_|refine AppN.mk ?_|refine X1 (W1 rfl ?_ ?_)|refine X1 (W2 rfl ?_ ?_)|refine X2 (W7 rfl ?_ ?_)|refine X3 (W7 rfl ?_ ?_)|refine X4 (W7 rfl ?_ ?_)|refine X5 (W7 rfl ?_ ?_))
                all_goals (try (conv => whnf))
                all_goals (try first|exact Ob.mk (u8_bnd _)|(refine Ob.mk ?_;first|exact True.intro|assumption|omega|(try simp only [ZA,ZB,ZC,ZD,ZE,ZF,ZG,ZH,ZI,ZJ,ZK,ZL,ZM,ZN,ZO,Int.toNat_natCast,UInt8.ofNat_toNat,cast_eq] at *;omega)))
                all_goals (try first|(show (_:Int) = _;omega)|(show tupSV _ = _;with_unfolding_all rfl)|((first|show (_:Nat) ≤ _|show (_:Nat) ≤ _ ∧ (_:Nat) ≤ _|show (_:Int) ≤ _ ∧ (_:Int) ≤ _ ∧ (_:Int) ≤ _ ∧ (_:Int) ≤ _);(simp <;> omega)))
                all_goals (first | rfl | trace_state)
              · have fc := count_take (Kf l (l.getD j nodeTy.dflt).up) k (j : Int)
                have cb : ((Kf l (l.getD j nodeTy.dflt).up).take k).count (j : Int) ≤ 1000 := Nat.le_trans (List.count_le_length) (by rw [List.length_take]; omega)
                have c1 : (decide ((l.getD j nodeTy.dflt).up ≥ 0) && decide ((k : Int) < ((Kf l (l.getD j nodeTy.dflt).up).length : Int))) = true → (0 ≤ (l.getD j nodeTy.dflt).up ∧ (l.getD j nodeTy.dflt).up < l.length) ∧ k < (Kf l (l.getD j nodeTy.dflt).up).length := fun h => by
                  rw [Bool.and_eq_true] at h
                  have := of_decide_eq_true h.2
                  exact ⟨fpos h.1, by omega⟩
                have c0 : (decide ((l.getD j nodeTy.dflt).up ≥ 0) && decide ((k : Int) < ((Kf l (l.getD j nodeTy.dflt).up).length : Int))) = false → (decide ((l.getD j nodeTy.dflt).up ≥ 0) && ((((Kf l (l.getD j nodeTy.dflt).up).take k).count (j : Int) : Nat) : Int) != 1) = true → False := fun h h' => by
                  rw [Bool.and_eq_true, bne_iff_ne] at h'
                  have hp := fpos h'.1
                  rw [h'.1, Bool.true_and] at h
                  have hk2 := of_decide_eq_false h
                  rcases fu with q | q
                  · omega
                  · apply h'.2
                    rw [List.take_of_length_le (by omega), q.2]; rfl
                repeat' ((conv => whnf);first|(with_reducible first|rfl|exact absTF|exact absFT)|exact True.intro|intro _|refine And.intro ?_ ?_|refine Fin.mk ?_|refine W1 rfl ?_ ?_|refine W2 rfl ?_ ?_|refine W3 rfl ?_ ?_|refine W4 ?_ ?_|refine W5 rfl ?_ ?_|refine W6 ?_ ?_|refine AppN.mk ?_|refine X1 (W1 rfl ?_ ?_)|refine X1 (W2 rfl ?_ ?_)|refine X2 (W7 rfl ?_ ?_)|refine X3 (W7 rfl ?_ ?_)|refine X4 (W7 rfl ?_ ?_)|refine X5 (W7 rfl ?_ ?_))
                all_goals (try (conv => whnf))
                all_goals (try first|exact Ob.mk (u8_bnd _)|(refine Ob.mk ?_;first|exact True.intro|assumption|omega|(try simp only [ZA,ZB,ZC,ZD,ZE,ZF,ZG,ZH,ZI,ZJ,ZK,ZL,ZM,ZN,ZO,Int.toNat_natCast,UInt8.ofNat_toNat,cast_eq] at *;omega)))
                all_goals (try first|(show (_:Int) = _;omega)|(show tupSV _ = _;with_unfolding_all rfl)|((first|show (_:Nat) ≤ _|show (_:Nat) ≤ _ ∧ (_:Nat) ≤ _|show (_:Int) ≤ _ ∧ (_:Int) ≤ _ ∧ (_:Int) ≤ _ ∧ (_:Int) ≤ _);(simp <;> omega)))
                all_goals (try dsimp only at *)
                all_goals (try simp only [Int.toNat_natCast] at *)
                all_goals (first | exact fpos ‹_› | exact (c1 ‹_›).1 | exact (by have := fpos ‹_›; omega : (l.getD j nodeTy.dflt).up.toNat < l.length) | exact (by have := (c1 ‹_›).1; omega : (l.getD j nodeTy.dflt).up.toNat < l.length) | (exfalso; exact c0 ‹_› ‹_›) | (unfold InI64; omega) | skip)
                · have e : (Kf l (l.getD j nodeTy.dflt).up).getD k 0 = (j : Int) := eq_of_beq (show ((Kf l (l.getD j nodeTy.dflt).up).getD k 0 == (j : Int)) = true from ‹_›)
                  obtain ⟨b1', b2'⟩ := c1 ‹_›
                  have fc' := fc b2'
                  rw [if_pos e] at fc'
                  refine Rnd.mk ⟨k + 1, by omega, by omega, ?_⟩
                  repeat' ((conv => whnf);first|(with_reducible first|rfl|exact absTF|exact absFT)|exact True.intro|intro _|refine And.intro ?_ ?_|refine Fin.mk ?_|refine W1 rfl ?_ ?_|refine W2 rfl ?_ ?_|refine W3 rfl ?_ ?_|refine W4 ?_ ?_|refine W5 rfl ?_ ?_|refine W6 ?_ ?_|refine AppN.mk ?_|refine X1 (W1 rfl ?_ ?_)|refine X1 (W2 rfl ?_ ?_)|refine X2 (W7 rfl ?_ ?_)|refine X3 (W7 rfl ?_ ?_)|refine X4 (W7 rfl ?_ ?_)|refine X5 (W7 rfl ?_ ?_))
                  all_goals (try (conv => whnf))
                  all_goals (try first|exact Ob.mk (u8_bnd _)|(refine Ob.mk ?_;first|exact True.intro|assumption|omega|(try simp only [ZA,ZB,ZC,ZD,ZE,ZF,ZG,ZH,ZI,ZJ,ZK,ZL,ZM,ZN,ZO,Int.toNat_natCast,UInt8.ofNat_toNat,cast_eq] at *;omega)))
                  all_goals (try first|(show (_:Int) = _;omega)|(show tupSV _ = _;with_unfolding_all rfl)|((first|show (_:Nat) ≤ _|show (_:Nat) ≤ _ ∧ (_:Nat) ≤ _|show (_:Int) ≤ _ ∧ (_:Int) ≤ _ ∧ (_:Int) ≤ _ ∧ (_:Int) ≤ _);(simp <;> omega)))
                  all_goals (first | rfl | omega | trace_state)
                · have e : ¬ (Kf l (l.getD j nodeTy.dflt).up).getD k 0 = (j : Int) := beq_eq_false_iff_ne.1 (show ((Kf l (l.getD j nodeTy.dflt).up).getD k 0 == (j : Int)) = false from ‹_›)
                  obtain ⟨b1', b2'⟩ := c1 ‹_›
                  have fc' := fc b2'
                  rw [if_neg e, Nat.add_zero] at fc'
                  refine Rnd.mk ⟨k + 1, by omega, by omega, ?_⟩
                  repeat' ((conv => whnf);first|(with_reducible first|rfl|exact absTF|exact absFT)|exact True.intro|intro _|refine And.intro ?_ ?_|refine Fin.mk ?_|refine W1 rfl ?_ ?_|refine W2 rfl ?_ ?_|refine W3 rfl ?_ ?_|refine W4 ?_ ?_|refine W5 rfl ?_ ?_|refine W6 ?_ ?_|refine AppN.mk ?_|refine X1 (W1 rfl ?_ ?_)|refine X1 (W2 rfl ?_ ?_)|refine X2 (W7 rfl ?_ ?_)|refine X3 (W7 rfl ?_ ?_)|refine X4 (W7 rfl ?_ ?_)|refine X5 (W7 rfl ?_ ?_))
                  all_goals (try (conv => whnf))
                  all_goals (try first|exact Ob.mk (u8_bnd _)|(refine Ob.mk ?_;first|exact True.intro|assumption|omega|(try simp only [ZA,ZB,ZC,ZD,ZE,ZF,ZG,ZH,ZI,ZJ,ZK,ZL,ZM,ZN,ZO,Int.toNat_natCast,UInt8.ofNat_toNat,cast_eq] at *;omega)))
                  all_goals (try first|(show (_:Int) = _;omega)|(show tupSV _ = _;with_unfolding_all rfl)|((first|show (_:Nat) ≤ _|show (_:Nat) ≤ _ ∧ (_:Nat) ≤ _|show (_:Int) ≤ _ ∧ (_:Int) ≤ _ ∧ (_:Int) ≤ _ ∧ (_:Int) ≤ _);(simp <;> omega)))
                  all_goals (first | rfl | omega | trace_state)
                · refine Rnd.mk ⟨j + 1, by omega, by omega, ?_⟩
                  repeat' ((conv => whnf);first|(with_reducible first|rfl|exact absTF|exact absFT)|exact True.intro|intro _|refine And.intro ?_ ?_|refine Fin.mk ?_|refine W1 rfl ?_ ?_|refine W2 rfl ?_ ?_|refine W3 rfl ?_ ?_|refine W4 ?_ ?_|refine W5 rfl ?_ ?_|refine W6 ?_ ?_|refine AppN.mk ?_|refine X1 (W1 rfl ?_ ?_)|refine X1 (W2 rfl ?_ ?_)|refine X2 (W7 rfl ?_ ?_)|refine X3 (W7 rfl ?_ ?_)|refine X4 (W7 rfl ?_ ?_)|refine X5 (W7 rfl ?_ ?_))
                  all_goals (try (conv => whnf))
                  all_goals (try first|exact Ob.mk (u8_bnd _)|(refine Ob.mk ?_;first|exact True.intro|assumption|omega|(try simp only [ZA,ZB,ZC,ZD,ZE,ZF,ZG,ZH,ZI,ZJ,ZK,ZL,ZM,ZN,ZO,Int.toNat_natCast,UInt8.ofNat_toNat,cast_eq] at *;omega)))
                  all_goals (try first|(show (_:Int) = _;omega)|(show tupSV _ = _;with_unfolding_all rfl)|((first|show (_:Nat) ≤ _|show (_:Nat) ≤ _ ∧ (_:Nat) ≤ _|show (_:Int) ≤ _ ∧ (_:Int) ≤ _ ∧ (_:Int) ≤ _ ∧ (_:Int) ≤ _);(simp <;> omega)))
                  all_goals (first | rfl | omega | trace_state)
            all_goals trace_state
        all_goals trace_state
    · have hst := step_ok h3 h4 (ops.getD i opTy.dflt).1 (ops.getD i opTy.dflt).2.1 (ops.getD i opTy.dflt).2.2.1 (ops.getD i opTy.dflt).2.2.2.1 n q2
      rw [← hn] at hst
      refine Rnd.mk ⟨(i + 1, stepT l (ops.getD i opTy.dflt).1 (ops.getD i opTy.dflt).2.1 (ops.getD i opTy.dflt).2.2.1 (ops.getD i opTy.dflt).2.2.2.1 (ops.getD i opTy.dflt).2.2.2.2), ⟨by simp only; omega, by simp only; omega, hst.1, hst.2.1, by simp only; have := hst.2.2; omega⟩, by simp only; omega, ?_⟩
      repeat' ((conv => whnf);first|(with_reducible first|rfl|exact absTF|exact absFT)|exact True.intro|intro _|refine And.intro ?_ ?_|refine Fin.mk ?_|refine W1 rfl ?_ ?_|refine W2 rfl ?_ ?_|refine W3 rfl ?_ ?_|refine W4 ?_ ?_|refine W5 rfl ?_ ?_|refine W6 ?_ ?_|refine AppN.mk ?_|refine X1 (W1 rfl ?_ ?_)|refine X1 (W2 rfl ?_ ?_)|refine X2 (W7 rfl ?_ ?_)|refine X3 (W7 rfl ?_ ?_)|refine X4 (W7 rfl ?_ ?_)|refine X5 (W7 rfl ?_ ?_))
      all_goals (try (conv => whnf))
      all_goals (try first|exact Ob.mk (u8_bnd _)|(refine Ob.mk ?_;first|exact True.intro|assumption|omega|(try simp only [ZA,ZB,ZC,ZD,ZE,ZF,ZG,ZH,ZI,ZJ,ZK,ZL,ZM,ZN,ZO,Int.toNat_natCast,UInt8.ofNat_toNat,cast_eq] at *;omega)))
      all_goals (try first|(show (_:Int) = _;omega)|(show tupSV _ = _;with_unfolding_all rfl)|((first|show (_:Nat) ≤ _|show (_:Nat) ≤ _ ∧ (_:Nat) ≤ _|show (_:Int) ≤ _ ∧ (_:Int) ≤ _ ∧ (_:Int) ≤ _ ∧ (_:Int) ≤ _);(simp <;> omega)))
      all_goals (first | rfl | omega | trace_state)
    · refine LoopStop.mk (α := Nat) (fun j => [(37, .int .i64 j)]) (fun _ => []) 100 (fun j => j ≤ l.length) (fun j => l.length - j) 0 (by simp) ?_ (fun j hj => ?_)
      · repeat' ((conv => whnf);first|(with_reducible first|rfl|exact absTF|exact absFT)|exact True.intro|intro _|refine And.intro ?_ ?_|refine Fin.mk ?_|refine W1 rfl ?_ ?_|refine W2 rfl ?_ ?_|refine W3 rfl ?_ ?_|refine W4 ?_ ?_|refine W5 rfl ?_ ?_|refine W6 ?_ ?_|refine AppN.mk ?_|refine X1 (W1 rfl ?_ ?_)|refine X1 (W2 rfl ?_ ?_)|refine X2 (W7 rfl ?_ ?_)|refine X3 (W7 rfl ?_ ?_)|refine X4 (W7 rfl ?_ ?_)|refine X5 (W7 rfl ?_ ?_))
        all_goals (try (conv => whnf))
        all_goals (try first|exact Ob.mk (u8_bnd _)|(refine Ob.mk ?_;first|exact True.intro|assumption|omega|(try simp only [ZA,ZB,ZC,ZD,ZE,ZF,ZG,ZH,ZI,ZJ,ZK,ZL,ZM,ZN,ZO,Int.toNat_natCast,UInt8.ofNat_toNat,cast_eq] at *;omega)))
        all_goals (try first|(show (_:Int) = _;omega)|(show tupSV _ = _;with_unfolding_all rfl)|((first|show (_:Nat) ≤ _|show (_:Nat) ≤ _ ∧ (_:Nat) ≤ _|show (_:Int) ≤ _ ∧ (_:Int) ≤ _ ∧ (_:Int) ≤ _ ∧ (_:Int) ≤ _);(simp <;> omega)))
        all_goals (first | rfl | trace_state)
      · have fk : ∀ (k : Nat), j < l.length → k < (l.getD j nodeTy.dflt).kids.length → okI l.length ((l.getD j nodeTy.dflt).kids.getD k 0) ∧ (nd l ((l.getD j nodeTy.dflt).kids.getD k 0)).up = j := fun k hjl hk => by
          have hm : (l.getD j nodeTy.dflt).kids.getD k 0 ∈ Kf l j := by
            show _ ∈ (nd l (j : Int)).kids
            rw [show nd l (j : Int) = l.getD j nodeTy.dflt from by unfold nd; rw [Int.toNat_natCast]]
            exact getD_mem _ k hk
          exact h3.kid j ⟨by omega, by omega⟩ _ hm
        have fh : j < l.length → holdsT l j (l.getD j nodeTy.dflt).up = false := fun hjl => by
          have := holds_self h3 (j := (j : Int)) ⟨by omega, by omega⟩
          rwa [show nd l (j : Int) = l.getD j nodeTy.dflt from by unfold nd; rw [Int.toNat_natCast]] at this
        have fu : j < l.length → (l.getD j nodeTy.dflt).up = -1 ∨ ((0 ≤ (l.getD j nodeTy.dflt).up ∧ (l.getD j nodeTy.dflt).up < l.length) ∧ (Kf l (l.getD j nodeTy.dflt).up).count (j : Int) = 1) := fun hjl => by
          have := h3.up (j : Int) ⟨by omega, by omega⟩
          rwa [show Uf l (j : Int) = (l.getD j nodeTy.dflt).up from by show (nd l (j : Int)).up = _; unfold nd; rw [Int.toNat_natCast]] at this
        repeat' ((conv => whnf);first|(with_reducible first|rfl|exact absTF|exact absFT)|exact True.intro|intro _|refine And.intro ?_ ?_|refine Fin.mk ?_|refine W1 rfl ?_ ?_|refine W2 rfl ?_ ?_|refine W3 rfl ?_ ?_|refine W4 ?_ ?_|refine W5 rfl ?_ ?_|refine W6 ?_ ?_|refine AppN.mk ?_|refine X1 (W1 rfl ?_ ?_)|refine X1 (W2 rfl ?_ ?_)|refine X2 (W7 rfl ?_ ?_)|refine X3 (W7 rfl ?_ ?_)|refine X4 (W7 rfl ?_ ?_)|refine X5 (W7 rfl ?_ ?_))
        all_goals (try (conv => whnf))
        all_goals (try first|exact Ob.mk (u8_bnd _)|(refine Ob.mk ?_;first|exact True.intro|assumption|omega|(try simp only [ZA,ZB,ZC,ZD,ZE,ZF,ZG,ZH,ZI,ZJ,ZK,ZL,ZM,ZN,ZO,Int.toNat_natCast,UInt8.ofNat_toNat,cast_eq] at *;omega)))
        all_goals (try first|(show (_:Int) = _;omega)|(show tupSV _ = _;with_unfolding_all rfl)|((first|show (_:Nat) ≤ _|show (_:Nat) ≤ _ ∧ (_:Nat) ≤ _|show (_:Int) ≤ _ ∧ (_:Int) ≤ _ ∧ (_:Int) ≤ _ ∧ (_:Int) ≤ _);(simp <;> omega)))
        all_goals (try dsimp only at *)
        all_goals (try simp only [Int.toNat_natCast] at *)
        · have hjl : j < l.length := by (have := of_decide_eq_true ‹decide ((j : Int) < (l.length : Int)) = true›; omega)
          refine LoopStop.mk (α := Nat) (fun m => [(45, .int .i64 m)]) (fun _ => []) 140 (fun m => m ≤ (l.getD j nodeTy.dflt).kids.length) (fun m => (l.getD j nodeTy.dflt).kids.length - m) 0 (by simp) ?_ (fun m hm => ?_)
          · repeat' ((conv => whnf);first|(with_reducible first|rfl|exact absTF|exact absFT)|exact True.intro|intro _|refine And.intro ?_ ?_|refine Fin.mk ?_|refine W1 rfl ?_ ?_|refine W2 rfl ?_ ?_|refine W3 rfl ?_ ?_|refine W4 ?_ ?_|refine W5 rfl ?_ ?_|refine W6 ?_ ?_|refine AppN.mk ?_|refine X1 (W1 rfl ?_ ?_)|refine X1 (W2 rfl ?_ ?_)|refine X2 (W7 rfl ?_ ?_)|refine X3 (W7 rfl ?_ ?_)|refine X4 (W7 rfl ?_ ?_)|refine X5 (W7 rfl ?_ ?_))
            all_goals (try (conv => whnf))
            all_goals (try first|exact Ob.mk (u8_bnd _)|(refine Ob.mk ?_;first|exact True.intro|assumption|omega|(try simp only [ZA,ZB,ZC,ZD,ZE,ZF,ZG,ZH,ZI,ZJ,ZK,ZL,ZM,ZN,ZO,Int.toNat_natCast,UInt8.ofNat_toNat,cast_eq] at *;omega)))
            all_goals (try first|(show (_:Int) = _;omega)|(show tupSV _ = _;with_unfolding_all rfl)|((first|show (_:Nat) ≤ _|show (_:Nat) ≤ _ ∧ (_:Nat) ≤ _|show (_:Int) ≤ _ ∧ (_:Int) ≤ _ ∧ (_:Int) ≤ _ ∧ (_:Int) ≤ _);(simp <;> omega)))
            all_goals (first | rfl | trace_state)
          · have fkm := fk m hjl
            repeat' ((conv => whnf);first|(with_reducible first|rfl|exact absTF|exact absFT)|exact True.intro|intro _|refine And.intro ?_ ?_|refine Fin.mk ?_|refine W1 rfl ?_ ?_|refine W2 rfl ?_ ?_|refine W3 rfl ?_ ?_|refine W4 ?_ ?_|refine W5 rfl ?_ ?_|refine W6 ?_ ?_|refine AppN.mk ?_|refine X1 (W1 rfl ?_ ?_)|refine X1 (W2 rfl ?_ ?_)|refine X2 (W7 rfl ?_ ?_)|refine X3 (W7 rfl ?_ ?_)|refine X4 (W7 rfl ?_ ?_)|refine X5 (W7 rfl ?_ ?_))
            all_goals (try (conv => whnf))
            all_goals (try first|exact Ob.mk (u8_bnd _)|(refine Ob.mk ?_;first|exact True.intro|assumption|omega|(try simp only [ZA,ZB,ZC,ZD,ZE,ZF,ZG,ZH,ZI,ZJ,ZK,ZL,ZM,ZN,ZO,Int.toNat_natCast,UInt8.ofNat_toNat,cast_eq] at *;omega)))
            all_goals (try first|(show (_:Int) = _;omega)|(show tupSV _ = _;with_unfolding_all rfl)|((first|show (_:Nat) ≤ _|show (_:Nat) ≤ _ ∧ (_:Nat) ≤ _|show (_:Int) ≤ _ ∧ (_:Int) ≤ _ ∧ (_:Int) ≤ _ ∧ (_:Int) ≤ _);(simp <;> omega)))
            all_goals (try dsimp only at *)
            all_goals (try simp only [Int.toNat_natCast] at *)
            all_goals (try (have bm : m < (l.getD j nodeTy.dflt).kids.length := by (have := of_decide_eq_true (show decide ((m : Int) < ((l.getD j nodeTy.dflt).kids.length : Int)) = true from ‹_›); omega)))
            all_goals (try (have o := fkm ‹m < (l.getD j nodeTy.dflt).kids.length›; obtain ⟨o1, o2⟩ := o))
            all_goals (try (exact o1))
            all_goals (try (exact (by have h1 := o1.1; have h2 := o1.2; omega : ((l.getD j nodeTy.dflt).kids.getD m 0).toNat < l.length)))
            all_goals (try (exfalso; have G : (decide ((l.getD j nodeTy.dflt).kids.getD m 0 < 0) || decide ((l.getD j nodeTy.dflt).kids.getD m 0 ≥ (l.length : Int)) || (nd l ((l.getD j nodeTy.dflt).kids.getD m 0)).up != (j : Int)) = true := ‹_›; rw [o2, decide_eq_false (by have := o1.1; omega), decide_eq_false (by have := o1.2; omega)] at G; simp at G; done))
            all_goals (try (exfalso; have G : (decide ((l.getD j nodeTy.dflt).up < -1) || decide ((l.getD j nodeTy.dflt).up ≥ (l.length : Int)) || decide ((l.getD j nodeTy.dflt).up ≥ 0) && holdsT l (j : Int) (l.getD j nodeTy.dflt).up) = true := ‹_›; rw [fh hjl, Bool.and_false, Bool.or_false, Bool.or_eq_true] at G; rcases fu hjl with q | q <;> rcases G with G | G <;> (have := of_decide_eq_true G; omega)))
            · refine Rnd.mk ⟨m + 1, by omega, by omega, ?_⟩
              repeat' ((conv => whnf);first|(with_reducible first|rfl|exact absTF|exact absFT)|exact True.intro|intro _|refine And.intro ?_ ?_|refine Fin.mk ?_|refine W1 rfl ?_ ?_|refine W2 rfl ?_ ?_|refine W3 rfl ?_ ?_|refine W4 ?_ ?_|refine W5 rfl ?_ ?_|refine W6 ?_ ?_|refine AppN.mk ?_|refine X1 (W1 rfl ?_ ?_)|refine X1 (W2 rfl ?_ ?_)|refine X2 (W7 rfl ?_ ?_)|refine X3 (W7 rfl ?_ ?_)|refine X4 (W7 rfl ?_ ?_)|refine X5 (W7 rfl ?_ ?_))
              all_goals (try (conv => whnf))
              all_goals (try first|exact Ob.mk (u8_bnd _)|(refine Ob.mk ?_;first|exact True.intro|assumption|omega|(try simp only [ZA,ZB,ZC,ZD,ZE,ZF,ZG,ZH,ZI,ZJ,ZK,ZL,ZM,ZN,ZO,Int.toNat_natCast,UInt8.ofNat_toNat,cast_eq] at *;omega)))
              all_goals (try first|(show (_:Int) = _;omega)|(show tupSV _ = _;with_unfolding_all rfl)|((first|show (_:Nat) ≤ _|show (_:Nat) ≤ _ ∧ (_:Nat) ≤ _|show (_:Int) ≤ _ ∧ (_:Int) ≤ _ ∧ (_:Int) ≤ _ ∧ (_:Int) ≤ _);(simp <;> omega)))
              all_goals (first | rfl | omega | trace_state)
            · have fu := fu hjl
              have kb : (Kf l (l.getD j nodeTy.dflt).up).length ≤ 1000 := by
                refine ((smB_of hsm).2 (l.getD j nodeTy.dflt).up.toNat ?_).2
                have := h3.pos
                rcases fu with q | q <;> omega
              have fpos : decide ((l.getD j nodeTy.dflt).up ≥ 0) = true → 0 ≤ (l.getD j nodeTy.dflt).up ∧ (l.getD j nodeTy.dflt).up < l.length := fun h => by
                have := of_decide_eq_true h
                rcases fu with q | q
                · omega
                · exact q.1
              refine LoopStop.mk (α := Nat) (fun k => [(12, .int .i64 (k : Nat)), (9, .int .i64 (((Kf l (l.getD j nodeTy.dflt).up).take k).count (j : Int) : Nat))]) (fun _ => []) 180 (fun k => k ≤ (Kf l (l.getD j nodeTy.dflt).up).length) (fun k => (Kf l (l.getD j nodeTy.dflt).up).length - k) 0 (by simp) ?_ (fun k hk => ?_)
              · repeat' ((conv => whnf);first|(with_reducible first|rfl|exact absTF|exact absFT)|exact True.intro|intro _|refine And.intro ?_ ?_|refine Fin.mk ?_|refine W1 rfl ?_ ?_|refine W2 rfl ?_ ?_|refine W3 rfl ?_ ?_|refine W4 ?_ ?_|refine W5 rfl ?_ ?_|refine W6 ?_ ?_|refine AppN.mk ?_|refine X1 (W1 rfl ?_ ?_)|refine X1 (W2 rfl ?_ ?_)|refine X2 (W7 rfl ?_ ?_)|refine X3 (W7 rfl ?_ ?_)|refine X4 (W7 rfl ?_ ?_)|refine X5 (W7 rfl ?_ ?_))
                all_goals (try (conv => whnf))
                all_goals (try first|exact Ob.mk (u8_bnd _)|(refine Ob.mk ?_;first|exact True.intro|assumption|omega|(try simp only [ZA,ZB,ZC,ZD,ZE,ZF,ZG,ZH,ZI,ZJ,ZK,ZL,ZM,ZN,ZO,Int.toNat_natCast,UInt8.ofNat_toNat,cast_eq] at *;omega)))
                all_goals (try first|(show (_:Int) = _;omega)|(show tupSV _ = _;with_unfolding_all rfl)|((first|show (_:Nat) ≤ _|show (_:Nat) ≤ _ ∧ (_:Nat) ≤ _|show (_:Int) ≤ _ ∧ (_:Int) ≤ _ ∧ (_:Int) ≤ _ ∧ (_:Int) ≤ _);(simp <;> omega)))
                all_goals (first | rfl | trace_state)
              · have fc := count_take (Kf l (l.getD j nodeTy.dflt).up) k (j : Int)
                have cb : ((Kf l (l.getD j nodeTy.dflt).up).take k).count (j : Int) ≤ 1000 := Nat.le_trans (List.count_le_length) (by rw [List.length_take]; omega)
                have c1 : (decide ((l.getD j nodeTy.dflt).up ≥ 0) && decide ((k : Int) < ((Kf l (l.getD j nodeTy.dflt).up).length : Int))) = true → (0 ≤ (l.getD j nodeTy.dflt).up ∧ (l.getD j nodeTy.dflt).up < l.length) ∧ k < (Kf l (l.getD j nodeTy.dflt).up).length := fun h => by
                  rw [Bool.and_eq_true] at h
                  have := of_decide_eq_true h.2
                  exact ⟨fpos h.1, by omega⟩
                have c0 : (decide ((l.getD j nodeTy.dflt).up ≥ 0) && decide ((k : Int) < ((Kf l (l.getD j nodeTy.dflt).up).length : Int))) = false → (decide ((l.getD j nodeTy.dflt).up ≥ 0) && ((((Kf l (l.getD j nodeTy.dflt).up).take k).count (j : Int) : Nat) : Int) != 1) = true → False := fun h h' => by
                  rw [Bool.and_eq_true, bne_iff_ne] at h'
                  have hp := fpos h'.1
                  rw [h'.1, Bool.true_and] at h
                  have hk2 := of_decide_eq_false h
                  rcases fu with q | q
                  · omega
                  · apply h'.2
                    rw [List.take_of_length_le (by omega), q.2]; rfl
                repeat' ((conv => whnf);first|(with_reducible first|rfl|exact absTF|exact absFT)|exact True.intro|intro _|refine And.intro ?_ ?_|refine Fin.mk ?_|refine W1 rfl ?_ ?_|refine W2 rfl ?_ ?_|refine W3 rfl ?_ ?_|refine W4 ?_ ?_|refine W5 rfl ?_ ?_|refine W6 ?_ ?_|refine AppN.mk ?_|refine X1 (W1 rfl ?_ ?_)|refine X1 (W2 rfl ?_ ?_)|refine X2 (W7 rfl ?_ ?_)|refine X3 (W7 rfl ?_ ?_)|refine X4 (W7 rfl ?_ ?_)|refine X5 (W7 rfl ?_ ?_))
                all_goals (try (conv => whnf))
                all_goals (try first|exact Ob.mk (u8_bnd _)|(refine Ob.mk ?_;first|exact True.intro|assumption|omega|(try simp only [ZA,ZB,ZC,ZD,ZE,ZF,ZG,ZH,ZI,ZJ,ZK,ZL,ZM,ZN,ZO,Int.toNat_natCast,UInt8.ofNat_toNat,cast_eq] at *;omega)))
                all_goals (try first|(show (_:Int) = _;omega)|(show tupSV _ = _;with_unfolding_all rfl)|((first|show (_:Nat) ≤ _|show (_:Nat) ≤ _ ∧ (_:Nat) ≤ _|show (_:Int) ≤ _ ∧ (_:Int) ≤ _ ∧ (_:Int) ≤ _ ∧ (_:Int) ≤ _);(simp <;> omega)))
                all_goals (try dsimp only at *)
                all_goals (try simp only [Int.toNat_natCast] at *)
                all_goals (first | exact fpos ‹_› | exact (c1 ‹_›).1 | exact (by have := fpos ‹_›; omega : (l.getD j nodeTy.dflt).up.toNat < l.length) | exact (by have := (c1 ‹_›).1; omega : (l.getD j nodeTy.dflt).up.toNat < l.length) | (exfalso; exact c0 ‹_› ‹_›) | (unfold InI64; omega) | skip)
                · have e : (Kf l (l.getD j nodeTy.dflt).up).getD k 0 = (j : Int) := eq_of_beq (show ((Kf l (l.getD j nodeTy.dflt).up).getD k 0 == (j : Int)) = true from ‹_›)
                  obtain ⟨b1', b2'⟩ := c1 ‹_›
                  have fc' := fc b2'
                  rw [if_pos e] at fc'
                  refine Rnd.mk ⟨k + 1, by omega, by omega, ?_⟩
                  repeat' ((conv => whnf);first|(with_reducible first|rfl|exact absTF|exact absFT)|exact True.intro|intro _|refine And.intro ?_ ?_|refine Fin.mk ?_|refine W1 rfl ?_ ?_|refine W2 rfl ?_ ?_|refine W3 rfl ?_ ?_|refine W4 ?_ ?_|refine W5 rfl ?_ ?_|refine W6 ?_ ?_|refine AppN.mk ?_|refine X1 (W1 rfl ?_ ?_)|refine X1 (W2 rfl ?_ ?_)|refine X2 (W7 rfl ?_ ?_)|refine X3 (W7 rfl ?_ ?_)|refine X4 (W7 rfl ?_ ?_)|refine X5 (W7 rfl ?_ ?_))
                  all_goals (try (conv => whnf))
                  all_goals (try first|exact Ob.mk (u8_bnd _)|(refine Ob.mk ?_;first|exact True.intro|assumption|omega|(try simp only [ZA,ZB,ZC,ZD,ZE,ZF,ZG,ZH,ZI,ZJ,ZK,ZL,ZM,ZN,ZO,Int.toNat_natCast,UInt8.ofNat_toNat,cast_eq] at *;omega)))
                  all_goals (try first|(show (_:Int) = _;omega)|(show tupSV _ = _;with_unfolding_all rfl)|((first|show (_:Nat) ≤ _|show (_:Nat) ≤ _ ∧ (_:Nat) ≤ _|show (_:Int) ≤ _ ∧ (_:Int) ≤ _ ∧ (_:Int) ≤ _ ∧ (_:Int) ≤ _);(simp <;> omega)))
                  all_goals (first | rfl | omega | trace_state)
                · have e : ¬ (Kf l (l.getD j nodeTy.dflt).up).getD k 0 = (j : Int) := beq_eq_false_iff_ne.1 (show ((Kf l (l.getD j nodeTy.dflt).up).getD k 0 == (j : Int)) = false from ‹_›)
                  obtain ⟨b1', b2'⟩ := c1 ‹_›
                  have fc' := fc b2'
                  rw [if_neg e, Nat.add_zero] at fc'
                  refine Rnd.mk ⟨k + 1, by omega, by omega, ?_⟩
                  repeat' ((conv => whnf);first|(with_reducible first|rfl|exact absTF|exact absFT)|exact True.intro|intro _|refine And.intro ?_ ?_|refine Fin.mk ?_|refine W1 rfl ?_ ?_|refine W2 rfl ?_ ?_|refine W3 rfl ?_ ?_|refine W4 ?_ ?_|refine W5 rfl ?_ ?_|refine W6 ?_ ?_|refine AppN.mk ?_|refine X1 (W1 rfl ?_ ?_)|refine X1 (W2 rfl ?_ ?_)|refine X2 (W7 rfl ?_ ?_)|refine X3 (W7 rfl ?_ ?_)|refine X4 (W7 rfl ?_ ?_)|refine X5 (W7 rfl ?_ ?_))
                  all_goals (try (conv => whnf))
                  all_goals (try first|exact Ob.mk (u8_bnd _)|(refine Ob.mk ?_;first|exact True.intro|assumption|omega|(try simp only [ZA,ZB,ZC,ZD,ZE,ZF,ZG,ZH,ZI,ZJ,ZK,ZL,ZM,ZN,ZO,Int.toNat_natCast,UInt8.ofNat_toNat,cast_eq] at *;omega)))
                  all_goals (try first|(show (_:Int) = _;omega)|(show tupSV _ = _;with_unfolding_all rfl)|((first|show (_:Nat) ≤ _|show (_:Nat) ≤ _ ∧ (_:Nat) ≤ _|show (_:Int) ≤ _ ∧ (_:Int) ≤ _ ∧ (_:Int) ≤ _ ∧ (_:Int) ≤ _);(simp <;> omega)))
                  all_goals (first | rfl | omega | trace_state)
                · refine Rnd.mk ⟨j + 1, by omega, by omega, ?_⟩
                  repeat' ((conv => whnf);first|(with_reducible first|rfl|exact absTF|exact absFT)|exact True.intro|intro _|refine And.intro ?_ ?_|refine Fin.mk ?_|refine W1 rfl ?_ ?_|refine W2 rfl ?_ ?_|refine W3 rfl ?_ ?_|refine W4 ?_ ?_|refine W5 rfl ?_ ?_|refine W6 ?_ ?_|refine AppN.mk ?_|refine X1 (W1 rfl ?_ ?_)|refine X1 (W2 rfl ?_ ?_)|refine X2 (W7 rfl ?_ ?_)|refine X3 (W7 rfl ?_ ?_)|refine X4 (W7 rfl ?_ ?_)|refine X5 (W7 rfl ?_ ?_))
                  all_goals (try (conv => whnf))
                  all_goals (try first|exact Ob.mk (u8_bnd _)|(refine Ob.mk ?_;first|exact True.intro|assumption|omega|(try simp only [ZA,ZB,ZC,ZD,ZE,ZF,ZG,ZH,ZI,ZJ,ZK,ZL,ZM,ZN,ZO,Int.toNat_natCast,UInt8.ofNat_toNat,cast_eq] at *;omega)))
                  all_goals (try first|(show (_:Int) = _;omega)|(show tupSV _ = _;with_unfolding_all rfl)|((first|show (_:Nat) ≤ _|show (_:Nat) ≤ _ ∧ (_:Nat) ≤ _|show (_:Int) ≤ _ ∧ (_:Int) ≤ _ ∧ (_:Int) ≤ _ ∧ (_:Int) ≤ _);(simp <;> omega)))
                  all_goals (first | rfl | omega | trace_state)
            all_goals trace_state
        all_goals trace_state
end Go.Vc

namespace Go.Vc
open Go.Proofs
set_option maxRecDepth 100000
theorem base_ok (W : World) (hsh : W.ShapedOpen Try.prog) : BB.G fun b => W.heap[b]? := by
  obtain ⟨m, hm⟩ := Go.Proofs.cell_of_shapedOpen_int (g := 0) (zero := #[.int .i64 0]) (t := 3) hsh (of_decide_eq_true (by kernel_rfl)) (by kernel_rfl) rfl (by kernel_rfl) (by kernel_rfl) Try.underlying3
  have hm' : W.cell? ⟨0, 0, none⟩ = some (.int .i64 m) := hm
  unfold World.cell? at hm'
  show ∃ c T fr m, W.heap[0]? = some (.cells c T fr) ∧ c[0]? = some (.int .i64 m)
  cases h : W.heap[0]? with
  | none => simp [h] at hm'
  | some o =>
    cases o with
    | cells c T fr => exact ⟨c, T, fr, m, rfl, by simpa [h] using hm'⟩
    | _ => simp [h] at hm'
end Go.Vc
