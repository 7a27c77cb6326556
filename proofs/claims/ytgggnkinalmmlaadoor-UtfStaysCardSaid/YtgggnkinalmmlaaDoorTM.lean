/- A part of the proof: lemmas and walks that the last text of the claim joins; no condition. -/
import Derived.Test.YtgggnkinalmmlaaDoorTL
import Derived.Lib.ValidU
import Derived.Lib.RuneCount
import Derived.Test.YtgggnkinalmmlaaDoorTJ
import Derived.Shelf.SlGeneric
import Derived.Shelf.Spec.SlicesGrow
import Derived.Shelf.Unicode.ValidAny
import Derived.Test.YtgggnkinalmmlaaDoorProg
import Derived.Shelf.Strings.MapAny
import Derived.Lib.MapU
set_option linter.unusedVariables false
set_option linter.unusedSimpArgs false
namespace Go.Vc
set_option linter.unusedVariables false
theorem cutU_spec (l : List UInt8) (j : Nat) (h1 : 1 ≤ j) (h2 : j < cutU l) : okW l j := by
  unfold cutU cutN at h2
  unfold okW loW hiW
  have hj : j = 1 ∨ j = 2 ∨ j = 3 := by
    revert h2; (repeat' split) <;> omega
  rcases hj with rfl | rfl | rfl
  · simp only [if_true]
    revert h2
    split
    · rename_i h; intro _; exact ⟨h.2.2.1, h.2.2.2⟩
    · intro h; omega
  · simp only [show ¬ (2 : Nat) = 1 by omega, if_false]
    revert h2
    split
    · split
      · rename_i h; intro _; exact ⟨h.2.2.1, h.2.2.2⟩
      · intro h; omega
    · intro h; omega
  · simp only [show ¬ (3 : Nat) = 1 by omega, if_false]
    revert h2
    split
    · split
      · split
        · rename_i h; intro _; exact ⟨h.2.2.1, h.2.2.2⟩
        · intro h; omega
      · intro h; omega
    · intro h; omega
/-- one character, whole -/
structure IsChr (c : List UInt8) : Prop where
  ne : c ≠ []
  len : c.length = mU (c.getD 0 0).toNat + 1
  hd : (c.getD 0 0).toNat < 128 ∨ 1 ≤ mU (c.getD 0 0).toNat
  tl : ∀ j, 1 ≤ j → j < c.length → okW c j
theorem mU_small {c : Nat} (h : c < 128) : mU c = 0 := by unfold mU; rw [if_pos (by omega)]
theorem okU_spec {l : List UInt8} (h : okU l = true) : cutU l = mU (l.getD 0 0).toNat + 1 ∧ ((l.getD 0 0).toNat < 128 ∨ 1 ≤ mU (l.getD 0 0).toNat) := by
  rw [okU_iff] at h
  rcases h with h | h
  · have := mU_small h
    exact ⟨by rw [cutU_small l this, this], .inl h⟩
  · exact ⟨h.2, .inr h.1⟩
theorem getD_take'' (t : List UInt8) (k i : Nat) (h : i < k) : (t.take k).getD i 0 = t.getD i 0 := by
  simp [List.getD, List.getElem?_take, h]
theorem getD_app (c r : List UInt8) (i : Nat) (h : i < c.length) : (c ++ r).getD i 0 = c.getD i 0 := by
  simp [List.getD, List.getElem?_append_left h]
theorem okW_of {l c : List UInt8} {j : Nat} (h0 : c.getD 0 0 = l.getD 0 0) (hj : c.getD j 0 = l.getD j 0) (h : okW l j) : okW c j := by
  unfold okW loW hiW at *; rw [h0, hj]; exact h
theorem chr_take {l : List UInt8} (hl : l ≠ []) (h : okU l = true) : IsChr (l.take (cutU l)) := by
  have hb := cutU_bnd l hl
  obtain ⟨h1, h2⟩ := okU_spec h
  have e0 := getD_take'' l (cutU l) 0 (by omega)
  have el : (l.take (cutU l)).length = cutU l := by rw [List.length_take]; omega
  refine ⟨fun q => ?_, by rw [e0, el]; exact h1, by rw [e0]; exact h2, fun j hj1 hj2 => ?_⟩
  · rw [q] at el; simp at el; omega
  · rw [el] at hj2
    exact okW_of e0 (getD_take'' l _ j hj2) (cutU_spec l j hj1 hj2)
theorem chr_app {c : List UInt8} (h : IsChr c) (r : List UInt8) : okU (c ++ r) = true ∧ cutU (c ++ r) = c.length := by
  obtain ⟨hne, hlen, hhd, htl⟩ := h
  have hp : 1 ≤ c.length := List.length_pos_iff.mpr hne
  have e0 := getD_app c r 0 (by omega)
  have hc : cutU (c ++ r) = c.length := by
    refine cutU_of hp (by rw [e0]; omega) (by rw [List.length_append]; omega) (fun j h1 h2 => ?_) (.inl (by rw [e0]; exact hlen))
    exact okW_of e0 (getD_app c r j h2) (htl j h1 h2)
  refine ⟨?_, hc⟩
  rw [okU_iff, e0, hc]
  rcases hhd with h | h
  · exact .inl h
  · exact .inr ⟨h, hlen⟩
/-- it is text throughout, without 0 and 13 -/
def vU (l : List UInt8) : Bool :=
  if h : l = [] then true else okU l && (l.getD 0 0 != 0 && (l.getD 0 0 != 13 && vU (l.drop (cutU l))))
termination_by l.length
decreasing_by
  have := cutU_bnd l h
  have : 0 < l.length := List.length_pos_iff.mpr h
  rw [List.length_drop]; omega
def dU (l : List UInt8) : Bool :=
  if h : l = [] then true else okU l && dU (l.drop (cutU l))
termination_by l.length
decreasing_by
  have := cutU_bnd l h
  have : 0 < l.length := List.length_pos_iff.mpr h
  rw [List.length_drop]; omega
def cU (l : List UInt8) : Nat :=
  if h : l = [] then 0 else 1 + cU (l.drop (cutU l))
termination_by l.length
decreasing_by
  have := cutU_bnd l h
  have : 0 < l.length := List.length_pos_iff.mpr h
  rw [List.length_drop]; omega
theorem vU_nil : vU [] = true := by rw [vU]; rfl
theorem dU_nil : dU [] = true := by rw [dU]; rfl
theorem cU_nil : cU [] = 0 := by rw [cU]; rfl
theorem vU_eq (l : List UInt8) (h : l ≠ []) : vU l = (okU l && (l.getD 0 0 != 0 && (l.getD 0 0 != 13 && vU (l.drop (cutU l))))) := by rw [vU, dif_neg h]
theorem dU_eq (l : List UInt8) (h : l ≠ []) : dU l = (okU l && dU (l.drop (cutU l))) := by rw [dU, dif_neg h]
theorem cU_eq (l : List UInt8) (h : l ≠ []) : cU l = 1 + cU (l.drop (cutU l)) := by rw [cU, dif_neg h]
theorem chr_odd : IsChr oddU := ⟨by decide, by decide, by decide, fun j h1 h2 => by
  have : j = 1 ∨ j = 2 := by simp [oddU] at h2; omega
  rcases this with rfl | rfl
  · unfold okW; decide
  · unfold okW; decide⟩
theorem chr_lf : IsChr [10] := ⟨by decide, by decide, by decide, fun j h1 h2 => by simp at h2; omega⟩
theorem chr_chrU (l : List UInt8) (h : l ≠ []) : IsChr (chrU l) ∧ (chrU l).getD 0 0 ≠ 0 ∧ (chrU l).getD 0 0 ≠ 13 := by
  unfold chrU
  split
  · exact ⟨chr_odd, by decide, by decide⟩
  · rename_i h1
    split
    · exact ⟨chr_lf, by decide, by decide⟩
    · rename_i h2
      have ho : okU l = true := by cases q : okU l with | true => rfl | false => exact absurd (.inl q) h1
      have hb := cutU_bnd l h
      refine ⟨chr_take h ho, ?_, ?_⟩ <;> rw [getD_take'' l _ 0 (by omega)]
      · exact fun q => h1 (.inr q)
      · exact h2
theorem app_ne {c : List UInt8} (h : IsChr c) (r : List UInt8) : c ++ r ≠ [] := fun q => h.ne (by simp at q; exact q.1)
theorem vU_app {c : List UInt8} (h : IsChr c) (h0 : c.getD 0 0 ≠ 0) (h1 : c.getD 0 0 ≠ 13) (r : List UInt8) : vU (c ++ r) = vU r := by
  obtain ⟨a1, a2⟩ := chr_app h r
  have hp : 1 ≤ c.length := List.length_pos_iff.mpr h.ne
  rw [vU_eq _ (app_ne h r), a1, a2, getD_app c r 0 (by omega), List.drop_left]
  have e0 : (c.getD 0 0 != 0) = true := bne_iff_ne.2 h0
  have e1 : (c.getD 0 0 != 13) = true := bne_iff_ne.2 h1
  rw [e0, e1]; rfl
theorem cU_app {c : List UInt8} (h : IsChr c) (r : List UInt8) : cU (c ++ r) = 1 + cU r := by
  obtain ⟨a1, a2⟩ := chr_app h r
  rw [cU_eq _ (app_ne h r), a2, List.drop_left]
theorem ind {P : List UInt8 → Prop} (h0 : P []) (hs : ∀ l, l ≠ [] → (∀ m : List UInt8, m.length < l.length → P m) → P l) (l : List UInt8) : P l := by
  induction hn : l.length using Nat.strongRecOn generalizing l with
  | _ n ih =>
    subst hn
    by_cases h : l = []
    · subst h; exact h0
    · exact hs l h fun m hm => ih _ hm _ rfl
theorem drop_lt {l : List UInt8} {k : Nat} (h : l ≠ []) (hk : 1 ≤ k) : (l.drop k).length < l.length := by
  have : 0 < l.length := List.length_pos_iff.mpr h
  rw [List.length_drop]; omega
theorem vU_decU (l : List UInt8) : vU (decU l) = true := by
  refine ind (P := fun l => vU (decU l) = true) (by rw [decU_nil]; exact vU_nil) (fun l h ih => ?_) l
  obtain ⟨c1, c2, c3⟩ := chr_chrU l h
  rw [decU_eq l h, vU_app c1 c2 c3]
  exact ih _ (drop_lt h (stepU_bnd l h).1)
theorem cU_decU (l : List UInt8) : cU (decU l) ≤ l.length := by
  refine ind (P := fun l => cU (decU l) ≤ l.length) (by rw [decU_nil, cU_nil]; exact Nat.le_refl _) (fun l h ih => ?_) l
  obtain ⟨c1, c2, c3⟩ := chr_chrU l h
  rw [decU_eq l h, cU_app c1]
  have := ih _ (drop_lt h (stepU_bnd l h).1)
  have hd := drop_lt h (stepU_bnd l h).1
  omega
theorem decU_id (l : List UInt8) (hv : vU l = true) : decU l = l := by
  revert hv
  refine ind (P := fun l => vU l = true → decU l = l) (fun _ => decU_nil) (fun l h ih hv => ?_) l
  rw [vU_eq l h] at hv
  simp only [Bool.and_eq_true, bne_iff_ne, ne_eq] at hv
  obtain ⟨h1, h2, h3, h4⟩ := hv
  have hs : stepU l = cutU l := by unfold stepU; rw [if_neg (fun q => h3 q.2.1)]
  have hc : chrU l = l.take (cutU l) := by unfold chrU; rw [if_neg (fun q => q.elim (fun q => by rw [h1] at q; cases q) h2), if_neg h3]
  rw [decU_eq l h, hs, hc, ih _ (drop_lt h (cutU_bnd l h).1) h4, List.take_append_drop]
theorem decU_fix (l : List UInt8) (hd : decU l = l) : vU l = true := by rw [← hd]; exact vU_decU l
theorem decU_iff (l : List UInt8) : (decU l = l) = (vU l = true) := propext ⟨decU_fix l, decU_id l⟩
theorem decU_decU (l : List UInt8) : decU (decU l) = decU l := decU_id _ (vU_decU l)
theorem dU_of (l : List UInt8) (hv : vU l = true) : dU l = true := by
  revert hv
  refine ind (P := fun l => vU l = true → dU l = true) (fun _ => dU_nil) (fun l h ih hv => ?_) l
  rw [vU_eq l h] at hv
  simp only [Bool.and_eq_true] at hv
  rw [dU_eq l h, hv.1, ih _ (drop_lt h (cutU_bnd l h).1) hv.2.2.2]; rfl
/-- the kit's word for it -/
theorem validGo_eq (n : Nat) (l : List UInt8) (h : l.length ≤ n) : Lib.validGoD n l = dU l := by
  induction n generalizing l with
  | zero =>
    have : l = [] := List.length_eq_zero_iff.1 (by omega)
    subst this
    rw [dU_nil]; rfl
  | succ n ih =>
    unfold Lib.validGoD
    by_cases h0 : l = []
    · subst h0; rw [if_pos rfl, dU_nil]
    · rw [if_neg h0, dU_eq l h0]
      have hd := drop_lt h0 (cutU_bnd l h0).1
      rcases decU3 l with ⟨h1, h2⟩ | ⟨h1, h2, h3⟩
      · rw [h1, h2, if_pos ⟨rfl, rfl⟩]; rfl
      · rw [if_neg (by omega), h1, h2, ih _ (by omega)]; rfl
theorem validD_eq (l : List UInt8) : Lib.validD l = dU l := validGo_eq _ _ (Nat.le_refl _)
/-- it has neither 0 nor 13 -/
def noU (l : List UInt8) : Bool := l.all fun c => c != 0 && c != 13
theorem hiByte {l : List UInt8} {j : Nat} (h1 : 1 ≤ j) (h2 : j < cutU l) : 128 ≤ (l.getD j 0).toNat := by
  have := cutU_spec l j h1 h2
  have hb : (cutU l) ≤ mU (l.getD 0 0).toNat + 1 := by
    have : 1 ≤ l.length ∨ l = [] := by cases l with | nil => exact .inr rfl | cons a b => exact .inl (by simp)
    rcases this with h | h
    · exact (cutN_bnd _ _ _ _ _ h).2.2.2
    · subst h
      have : cutU [] = 1 := by decide
      omega
  have hm : 1 ≤ mU (l.getD 0 0).toNat := by omega
  have hlo : 128 ≤ loU (l.getD 0 0).toNat := by
    unfold mU at hm
    unfold loU
    revert hm
    (repeat' split) <;> omega
  unfold okW loW at this
  split at this <;> omega
theorem all_idx (l : List UInt8) (p : UInt8 → Bool) : l.all p = true ↔ ∀ j, j < l.length → p (l.getD j 0) = true := by
  rw [List.all_eq_true]
  constructor
  · intro h j hj; exact h _ (by simp [List.getD, List.getElem?_eq_getElem hj])
  · intro h x hx
    obtain ⟨i, hi, rfl⟩ := List.getElem_of_mem hx
    simpa [List.getD, List.getElem?_eq_getElem hi] using h i hi
theorem noU_take {l : List UInt8} (h : l ≠ []) : noU (l.take (cutU l)) = (l.getD 0 0 != 0 && l.getD 0 0 != 13) := by
  have hb := cutU_bnd l h
  have el : (l.take (cutU l)).length = cutU l := by rw [List.length_take]; omega
  rw [Bool.eq_iff_iff]
  unfold noU
  rw [all_idx]
  constructor
  · intro q
    have := q 0 (by omega)
    rwa [getD_take'' l _ 0 (by omega)] at this
  · intro q j hj
    rw [el] at hj
    rw [getD_take'' l _ j hj]
    rcases Nat.eq_zero_or_pos j with h0 | h0
    · subst h0; exact q
    · have := hiByte h0 hj
      have e1 : l.getD j 0 ≠ 0 := fun e => by rw [e] at this; revert this; decide
      have e2 : l.getD j 0 ≠ 13 := fun e => by rw [e] at this; revert this; decide
      simp only [Bool.and_eq_true, bne_iff_ne, ne_eq]
      exact ⟨e1, e2⟩
theorem vU_split (l : List UInt8) : vU l = (dU l && noU l) := by
  refine ind (P := fun l => vU l = (dU l && noU l)) (by rw [vU_nil, dU_nil]; rfl) (fun l h ih => ?_) l
  have hn : noU l = (noU (l.take (cutU l)) && noU (l.drop (cutU l))) := by
    unfold noU; rw [← List.all_append, List.take_append_drop]
  rw [vU_eq l h, dU_eq l h, hn, noU_take h, ih _ (drop_lt h (cutU_bnd l h).1)]
  cases okU l <;> cases (l.getD 0 0 != 0) <;> cases (l.getD 0 0 != 13) <;> cases dU (l.drop (cutU l)) <;> cases noU (l.drop (cutU l)) <;> rfl
theorem dec_drop (l : List UInt8) (i : Nat) : Utf8.decode ⟨l.toArray⟩ i = Lib.decodeL (l.drop i) := by
  rw [decL_U, Lib.decode_at]
  have hs : (⟨l.toArray⟩ : ByteArray).size = l.length := by show l.toArray.size = _; simp
  have hg : ∀ k, (⟨l.toArray⟩ : ByteArray).get! k = l.getD k 0 := fun k => by
    show l.toArray[k]! = _
    simp [List.getD]; rfl
  have hd : ∀ k, (l.drop i).getD k 0 = l.getD (i + k) 0 := fun k => by simp [List.getD]
  rw [hs, hg, hg, hg, hg, List.length_drop, hd, hd, hd, hd]; rfl
theorem rcFrom (l : List UInt8) (fuel pos : Nat) (h : l.length ≤ pos + fuel) (hv : dU (l.drop pos) = true) : Lib.runeCountFrom ⟨l.toArray⟩ fuel pos = cU (l.drop pos) := by
  have hs : (⟨l.toArray⟩ : ByteArray).size = l.length := by show l.toArray.size = _; simp
  induction fuel generalizing pos with
  | zero =>
    have : l.drop pos = [] := List.drop_eq_nil_of_le (by omega)
    rw [this, cU_nil]; rfl
  | succ fuel ih =>
    unfold Lib.runeCountFrom
    rw [hs]
    by_cases hp : pos < l.length
    · have hne : l.drop pos ≠ [] := fun q => by have := congrArg List.length q; rw [List.length_drop] at this; simp at this; omega
      rw [if_pos hp, dec_drop, cU_eq _ hne]
      rw [dU_eq _ hne, Bool.and_eq_true] at hv
      have hb := cutU_bnd _ hne
      rw [List.length_drop] at hb
      have e : (Lib.decodeL (l.drop pos)).2 = cutU (l.drop pos) := by
        rcases decU3 (l.drop pos) with ⟨h1, h2⟩ | ⟨h1, h2, h3⟩
        · rw [h1] at hv; exact absurd hv.1 (by decide)
        · exact h2
      rw [e, List.drop_drop]
      have := hv.2
      rw [List.drop_drop] at this
      rw [ih _ (by omega) this]
    · have : l.drop pos = [] := List.drop_eq_nil_of_le (by omega)
      rw [if_neg hp, this, cU_nil]
theorem runeCount_eq (l : List UInt8) (hv : dU l = true) : Lib.runeCount ⟨l.toArray⟩ = cU l := by
  have hs : (⟨l.toArray⟩ : ByteArray).size = l.length := by show l.toArray.size = _; simp
  unfold Lib.runeCount
  rw [hs, rcFrom l _ 0 (by omega) (by simpa using hv), List.drop_zero]
end Go.Vc

namespace Go.Vc
open Go.Proofs
set_option linter.unusedVariables false
set_option maxRecDepth 10000
set_option linter.unusedSimpArgs false
instance fIB (s : List UInt8) (c : Int) : Fn BB 55 [.str s, .int .u8 c] True (.int .i64 (Lib.indexByte s c.toNat.toUInt8)) := by
  refine ⟨Tryd.call55, fun _ r β w vs hG m hl => ?_⟩
  obtain ⟨v1, vs1, rfl, h1, hl⟩ := hl.uncons
  obtain ⟨v2, vs2, rfl, h2, hl⟩ := hl.uncons
  obtain rfl := hl.nil_inv
  cases h1; cases h2
  refine (Tryd.strings_IndexByte ⟨s.toArray⟩ c w).mono fun e w' hh => ?_
  obtain ⟨rfl, rfl⟩ := hh
  exact ⟨_, _, r, β, [], rfl, ⟨rfl, rfl⟩, by simpa using (Rel.int), m, Mem.le_refl r, Hid.refl ..⟩
def hexIx (c : Int) : Int := Lib.indexByte [48, 49, 50, 51, 52, 53, 54, 55, 56, 57, 97, 98, 99, 100, 101, 102, 48, 49, 50, 51, 52, 53, 54, 55, 56, 57, 65, 66, 67, 68, 69, 70] c.toNat.toUInt8
theorem hexAt (c : Int) (h : 0 ≤ c ∧ c ≤ 255) : (if hexIx c < 0 then -1 else bitsI .and .i64 (hexIx c) 15) = hexI c := by
  have key : ∀ k : _root_.Fin 256, (if hexIx (k.val : Int) < 0 then -1 else bitsI .and .i64 (hexIx (k.val : Int)) 15) = hexI (k.val : Int) := by decide +kernel
  have := key ⟨c.toNat, by omega⟩
  have e : ((c.toNat : Nat) : Int) = c := by omega
  simp only [e] at this
  exact this
instance fHex (c : Int) : Fn BB 146 [.int .u8 c] (0 ≤ c ∧ c ≤ 255) (.int .i64 (hexI c)) := by
  refine Fn.intro (N := 10) [0, 2, 3, 7] [] Tryd.call146 Tryd.func146 rfl rfl (by kernel_rfl) (fun hpre => ?_)
  have hx := hexAt c hpre
  repeat' ((conv => whnf); first | (with_reducible rfl) | exact True.intro | (with_reducible exact absTF) | (with_reducible exact absFT) | intro _ | refine And.intro ?_ ?_ | refine Fin.mk ?_ | refine CallG.plain rfl ?_ ?_ | refine CallG.mk rfl ?_ ?_ | refine CallG.nwl rfl ?_ ?_ | refine CallG.nw ?_ ?_ | refine CallF.nwl rfl ?_ ?_ | refine CallF.nw ?_ ?_ | refine AppN.mk ?_ | (refine CallS.q ?_; (conv => whnf); first | refine CallG.plain rfl ?_ ?_ | refine CallG.mk rfl ?_ ?_) | (refine CallS.m ?_; (conv => whnf); refine CallM.mk rfl ?_ ?_) | (refine CallS.h ?_; (conv => whnf); refine CallM.mk rfl ?_ ?_) | (refine CallS.b ?_; (conv => whnf); refine CallM.mk rfl ?_ ?_) | (refine CallS.z ?_; (conv => whnf); refine CallM.mk rfl ?_ ?_))
  all_goals (try (conv => whnf))
  all_goals (try (exact Ob.mk (u8_bnd _)))
  all_goals (try (refine Ob.mk ?_; first | exact True.intro | assumption | omega | (try simp only [decide_eq_true_eq, decide_eq_false_iff_not, beq_iff_eq, beq_eq_false_iff_ne, bne_iff_ne, bne_eq_false_iff_eq, ne_eq, Bool.and_eq_true, Bool.or_eq_true, Bool.not_eq_true, Bool.not_eq_false, Bool.not_eq_true', Bool.not_eq_false', Int.toNat_natCast, Int.not_lt, Int.not_le, UInt8.ofNat_toNat, cast_eq] at *; omega)))
  all_goals (try ((show (_:Int) = _); omega))
  all_goals (try (show tupSV _ = _; with_unfolding_all rfl))
  all_goals (try ((show (_ : Nat) ≤ _); (simp <;> omega)))
  all_goals (try ((show (_ : Nat) ≤ _ ∧ (_ : Nat) ≤ _); (simp <;> omega)))
  all_goals (try ((show (_ : Int) ≤ _ ∧ (_ : Int) ≤ _ ∧ (_ : Int) ≤ _ ∧ (_ : Int) ≤ _); (simp <;> omega)))
  · have h : hexIx c < 0 := by simpa using ‹decide _ = true›
    rw [if_pos h] at hx; exact hx
  · have h : ¬ hexIx c < 0 := by rename_i h; exact of_decide_eq_false h
    rw [if_neg h] at hx; exact hx
instance fWin : Fn BB 111 [] True (.agg (winTab.map (SV.int .i64))) := by
  refine Fn.intro (N := 2) [0] [] Tryd.call111 Tryd.func111 rfl rfl (by kernel_rfl) (fun hpre => ?_)
  repeat' ((conv => whnf); first | (with_reducible rfl) | exact True.intro | (with_reducible exact absTF) | (with_reducible exact absFT) | intro _ | refine And.intro ?_ ?_ | refine Fin.mk ?_ | refine CallG.plain rfl ?_ ?_ | refine CallG.mk rfl ?_ ?_ | refine CallG.nwl rfl ?_ ?_ | refine CallG.nw ?_ ?_ | refine CallF.nwl rfl ?_ ?_ | refine CallF.nw ?_ ?_ | refine AppN.mk ?_ | (refine CallS.q ?_; (conv => whnf); first | refine CallG.plain rfl ?_ ?_ | refine CallG.mk rfl ?_ ?_) | (refine CallS.m ?_; (conv => whnf); refine CallM.mk rfl ?_ ?_) | (refine CallS.h ?_; (conv => whnf); refine CallM.mk rfl ?_ ?_) | (refine CallS.b ?_; (conv => whnf); refine CallM.mk rfl ?_ ?_) | (refine CallS.z ?_; (conv => whnf); refine CallM.mk rfl ?_ ?_))
  all_goals (try (conv => whnf))
  all_goals trace_state
instance fNumd (n : Int) : Fn BB 77 [.int .i64 n] True (.str (numF n)) := by
  refine Fn.intro (N := 21) [0, 2, 3, 9, 15, 18] [] Tryd.call77 Tryd.func77 rfl rfl (by kernel_rfl) (fun hpre => ?_)
  repeat' ((conv => whnf); first | (with_reducible rfl) | exact True.intro | (with_reducible exact absTF) | (with_reducible exact absFT) | intro _ | refine And.intro ?_ ?_ | refine Fin.mk ?_ | refine CallG.plain rfl ?_ ?_ | refine CallG.mk rfl ?_ ?_ | refine CallG.nwl rfl ?_ ?_ | refine CallG.nw ?_ ?_ | refine CallF.nwl rfl ?_ ?_ | refine CallF.nw ?_ ?_ | refine AppN.mk ?_ | (refine CallS.q ?_; (conv => whnf); first | refine CallG.plain rfl ?_ ?_ | refine CallG.mk rfl ?_ ?_) | (refine CallS.m ?_; (conv => whnf); refine CallM.mk rfl ?_ ?_) | (refine CallS.h ?_; (conv => whnf); refine CallM.mk rfl ?_ ?_) | (refine CallS.b ?_; (conv => whnf); refine CallM.mk rfl ?_ ?_) | (refine CallS.z ?_; (conv => whnf); refine CallM.mk rfl ?_ ?_))
  all_goals (try (conv => whnf))
  all_goals (try (exact Ob.mk (u8_bnd _)))
  all_goals (try (refine Ob.mk ?_; first | exact True.intro | assumption | omega | (try simp only [decide_eq_true_eq, decide_eq_false_iff_not, beq_iff_eq, beq_eq_false_iff_ne, bne_iff_ne, bne_eq_false_iff_eq, ne_eq, Bool.and_eq_true, Bool.or_eq_true, Bool.not_eq_true, Bool.not_eq_false, Bool.not_eq_true', Bool.not_eq_false', Int.toNat_natCast, Int.not_lt, Int.not_le, UInt8.ofNat_toNat, cast_eq] at *; omega)))
  all_goals (try ((show (_:Int) = _); omega))
  all_goals (try (show tupSV _ = _; with_unfolding_all rfl))
  all_goals (try ((show (_ : Nat) ≤ _); (simp <;> omega)))
  all_goals (try ((show (_ : Nat) ≤ _ ∧ (_ : Nat) ≤ _); (simp <;> omega)))
  all_goals (try ((show (_ : Int) ≤ _ ∧ (_ : Int) ≤ _ ∧ (_ : Int) ≤ _ ∧ (_ : Int) ≤ _); (simp <;> omega)))
  all_goals (try simp only [decide_eq_true_eq, decide_eq_false_iff_not, beq_iff_eq, beq_eq_false_iff_ne, bne_iff_ne, bne_eq_false_iff_eq, ne_eq, Bool.and_eq_true, Bool.or_eq_true, Bool.and_eq_false_iff, Bool.or_eq_false_iff, Bool.not_eq_true, Bool.not_eq_false, Bool.not_eq_true', Bool.not_eq_false', Int.toNat_natCast, Int.not_lt, Int.not_le, ge_iff_le, gt_iff_lt, UInt8.ofNat_toNat, cast_eq] at *)
  all_goals (unfold numF numW winTab)
  all_goals (generalize ([8364, 0, 8218, 402, 8222, 8230, 8224, 8225, 710, 8240, 352, 8249, 338, 0, 381, 0, 0, 8216, 8217, 8220, 8221, 8226, 8211, 8212, 732, 8482, 353, 8250, 339, 0, 382, 376] : List Int).getD (n - 128).toNat 0 = W at *)
  all_goals (congr 1; (repeat' split) <;> omega)
theorem ended_eq (s : List UInt8) : (decide ((s.length : Int) > 0) && ((s.getD ((s.length : Int) - 1).toNat 0).toNat : Int) == 59) = endedOf s := by
  unfold endedOf
  have e : ((s.length : Int) - 1).toNat = s.length - 1 := by omega
  rw [e]
  congr 1
  · simp
  · generalize s.getD (s.length - 1) 0 = c
    rw [Bool.eq_iff_iff, beq_iff_eq, beq_iff_eq]
    constructor
    · intro h; exact UInt8.toNat_inj.1 (by show c.toNat = 59; omega)
    · rintro rfl; rfl
theorem bare_t {s : List UInt8} (h : endedOf s = true) : s.take ((s.length : Int) - 1).toNat = bareOf s := by
  unfold bareOf
  rw [if_pos h]
  congr 1; omega
instance fNamed (s : List UInt8) : Fn BB 76 [.str s] True (.tup [.str (named s).1, .bool (named s).2]) := by
  refine Fn.intro (N := 37) [0, 2, 3, 4, 5, 6, 7, 19, 30, 34] [] Tryd.call76 Tryd.func76 rfl rfl (by kernel_rfl) (fun hpre => ?_)
  have hb := bare_t (s := s)
  have hn := bare_not (name := s)
  repeat' ((conv => whnf); first | (with_reducible rfl) | exact True.intro | (with_reducible exact absTF) | (with_reducible exact absFT) | intro _ | refine And.intro ?_ ?_ | refine Fin.mk ?_ | refine CallG.plain rfl ?_ ?_ | refine CallG.mk rfl ?_ ?_ | refine CallG.nwl rfl ?_ ?_ | refine CallG.nw ?_ ?_ | refine CallF.nwl rfl ?_ ?_ | refine CallF.nw ?_ ?_ | refine AppN.mk ?_ | (refine CallS.q ?_; (conv => whnf); first | refine CallG.plain rfl ?_ ?_ | refine CallG.mk rfl ?_ ?_) | (refine CallS.m ?_; (conv => whnf); refine CallM.mk rfl ?_ ?_) | (refine CallS.h ?_; (conv => whnf); refine CallM.mk rfl ?_ ?_) | (refine CallS.b ?_; (conv => whnf); refine CallM.mk rfl ?_ ?_) | (refine CallS.z ?_; (conv => whnf); refine CallM.mk rfl ?_ ?_))
  all_goals (try (conv => whnf))
  all_goals (try (exact Ob.mk (u8_bnd _)))
  all_goals (try (refine Ob.mk ?_; first | exact True.intro | assumption | omega | (try simp only [decide_eq_true_eq, decide_eq_false_iff_not, beq_iff_eq, beq_eq_false_iff_ne, bne_iff_ne, bne_eq_false_iff_eq, ne_eq, Bool.and_eq_true, Bool.or_eq_true, Bool.not_eq_true, Bool.not_eq_false, Bool.not_eq_true', Bool.not_eq_false', Int.toNat_natCast, Int.not_lt, Int.not_le, UInt8.ofNat_toNat, cast_eq] at *; omega)))
  all_goals (try ((show (_:Int) = _); omega))
  all_goals (try (show tupSV _ = _; with_unfolding_all rfl))
  all_goals (try ((show (_ : Nat) ≤ _); (simp <;> omega)))
  all_goals (try ((show (_ : Nat) ≤ _ ∧ (_ : Nat) ≤ _); (simp <;> omega)))
  all_goals (try ((show (_ : Int) ≤ _ ∧ (_ : Int) ≤ _ ∧ (_ : Int) ≤ _ ∧ (_ : Int) ≤ _); (simp <;> omega)))
  all_goals (simp only [ended_eq] at *)
  all_goals (first | (rw [hb ‹_›] at *) | skip)
  all_goals (unfold named namedN)
  all_goals (simp_all)
theorem refTab_len : refTab.length = 61 := by decide
theorem refTab_good : ∀ e ∈ refTab, 0 < e.1.length ∧ e.1.length ≤ 8 := by decide
def rtN (i : Nat) : List UInt8 := (refTab.map (·.1)).getD i []
theorem rt_at {i : Nat} (h : i < 61) : refTab.drop i = (rtN i, (refTab.map (·.2)).getD i 0) :: refTab.drop (i + 1) := by
  have hl : i < refTab.length := by rw [refTab_len]; exact h
  rw [List.drop_eq_getElem_cons hl]
  congr 1
  simp [rtN, List.getD, List.getElem?_eq_getElem hl]
theorem rt_good {i : Nat} (h : i < 61) : 0 < (rtN i).length ∧ (rtN i).length ≤ 8 := by
  have hl : i < refTab.length := by rw [refTab_len]; exact h
  have := refTab_good refTab[i] (by simp)
  simpa [rtN, List.getD, List.getElem?_eq_getElem hl] using this
theorem refNamed_def (s : List UInt8) : refNamed s = match refTab.find? (refHit s) with | some e => (encN e.2, true) | none => ([], false) := rfl
theorem hit_int (s e : List UInt8) (k : Int) : (e == s || ((e.getD ((e.length : Int) - 1).toNat 0).toNat : Int) != 59 && e ++ [59] == s) = refHit s (e, k) := by
  have h : ((e.length : Int) - 1).toNat = e.length - 1 := by omega
  rw [h]
  unfold refHit
  congr 2
  simp only [bne, u8_59]
end Go.Vc

namespace Go.Vc
open Go.Proofs
set_option linter.unusedVariables false
set_option maxRecDepth 10000
set_option linter.unusedSimpArgs false
set_option maxHeartbeats 8000000
theorem ix013 (r : Int) (h : 0 ≤ r ∧ r < 128) : Lib.indexByte [0, 13] (IntKind.u8.wrap r).toNat.toUInt8 = if r = 0 then 0 else if r = 13 then 1 else -1 := by
  have key : ∀ k : _root_.Fin 128, Lib.indexByte [0, 13] (IntKind.u8.wrap (k.val : Int)).toNat.toUInt8 = if (k.val : Int) = 0 then 0 else if (k.val : Int) = 13 then 1 else -1 := by decide
  have := key ⟨r.toNat, by omega⟩
  have e : ((r.toNat : Nat) : Int) = r := by omega
  simp only [e] at this
  exact this
theorem encR (r : Int) (h : 128 ≤ r) (hv : Utf8.valid r = true) : (∃ a b, (Utf8.encode r).data.toList = [a, b] ∧ 128 ≤ b.toNat) ∨ (Utf8.encode r).data.toList.length = 3 ∨ (Utf8.encode r).data.toList.length = 4 := by
  unfold Utf8.encode
  rw [if_pos hv]
  dsimp only
  rw [if_neg (by omega)]
  split
  · left
    refine ⟨_, _, rfl, ?_⟩
    show 128 ≤ (UInt8.ofNat _).toNat
    rw [UInt8.toNat_ofNat']
    omega
  · split
    · right; left; rfl
    · right; right; rfl
theorem okR_valid (r : Int) : okR r = Utf8.valid r := by
  unfold okR Utf8.valid
  rw [Bool.eq_iff_iff]
  simp only [Bool.or_eq_true, Bool.and_eq_true, decide_eq_true_eq]
  omega
instance fIR (r : Int) : Fn BB 131 [.str [0, 13], .int .i32 r] True (.int .i64 (if r = 0 then 0 else if r = 13 then 1 else -1)) := by
  refine Fn.intro (N := 187) [0, 1, 4, 5, 6, 7, 8, 9, 10, 11, 12, 13, 14, 15, 16, 26, 33, 43, 51, 64, 98, 108, 124, 139, 143, 156, 160, 171, 175, 176, 177, 181, 183] [(6, [0, 0, 0, 0, 0, 0, 0]), (7, [0, 0, 0, 0, 0, 0, 0, 3, 3]), (14, [0, 0, 0, 0, 0, 0, 0, 0, 0, 0, 0]), (31, [0, 0, 0, 0, 0, 0, 0, 0, 0, 0, 0])] Tryd.call131 Tryd.func131 rfl rfl (by kernel_rfl) (fun hpre => ?_)
  repeat' ((conv => whnf); first | (with_reducible rfl) | exact True.intro | (with_reducible exact absTF) | (with_reducible exact absFT) | intro _ | refine And.intro ?_ ?_ | refine Fin.mk ?_ | refine CallG.plain rfl ?_ ?_ | refine CallG.mk rfl ?_ ?_ | refine CallG.nwl rfl ?_ ?_ | refine CallG.nw ?_ ?_ | refine CallF.nwl rfl ?_ ?_ | refine CallF.nw ?_ ?_ | refine AppN.mk ?_ | (refine CallS.q ?_; (conv => whnf); first | refine CallG.plain rfl ?_ ?_ | refine CallG.mk rfl ?_ ?_) | (refine CallS.m ?_; (conv => whnf); refine CallM.mk rfl ?_ ?_) | (refine CallS.h ?_; (conv => whnf); refine CallM.mk rfl ?_ ?_) | (refine CallS.b ?_; (conv => whnf); refine CallM.mk rfl ?_ ?_) | (refine CallS.z ?_; (conv => whnf); refine CallM.mk rfl ?_ ?_))
  all_goals (try (conv => whnf))
  all_goals (try (exact Ob.mk (u8_bnd _)))
  all_goals (try (refine Ob.mk ?_; first | exact True.intro | assumption | omega | (try simp only [decide_eq_true_eq, decide_eq_false_iff_not, beq_iff_eq, beq_eq_false_iff_ne, bne_iff_ne, bne_eq_false_iff_eq, ne_eq, Bool.and_eq_true, Bool.or_eq_true, Bool.not_eq_true, Bool.not_eq_false, Bool.not_eq_true', Bool.not_eq_false', Int.toNat_natCast, Int.not_lt, Int.not_le, UInt8.ofNat_toNat, cast_eq] at *; omega)))
  all_goals (try ((show (_:Int) = _); omega))
  all_goals (try (show tupSV _ = _; with_unfolding_all rfl))
  all_goals (try ((show (_ : Nat) ≤ _); (simp <;> omega)))
  all_goals (try ((show (_ : Nat) ≤ _ ∧ (_ : Nat) ≤ _); (simp <;> omega)))
  all_goals (try ((show (_ : Int) ≤ _ ∧ (_ : Int) ≤ _ ∧ (_ : Int) ≤ _ ∧ (_ : Int) ≤ _); (simp <;> omega)))
  · have h : 0 ≤ r ∧ r < 128 := by simpa using ‹(decide (0 ≤ r) && decide (r < 128)) = true›
    rw [ix013 r h]
  · refine LoopStop.mk (α := Nat) (fun p => []) (fun p => [(0, .iter [0, 13] p)]) 20 (fun p => p ≤ 2) (fun p => 2 - p) 0 (by omega) ?_ (fun p hp => ?_)
    · repeat' ((conv => whnf); first | (with_reducible rfl) | exact True.intro | (with_reducible exact absTF) | (with_reducible exact absFT) | intro _ | refine And.intro ?_ ?_ | refine Fin.mk ?_ | refine CallG.plain rfl ?_ ?_ | refine CallG.mk rfl ?_ ?_ | refine CallG.nwl rfl ?_ ?_ | refine CallG.nw ?_ ?_ | refine CallF.nwl rfl ?_ ?_ | refine CallF.nw ?_ ?_ | refine AppN.mk ?_ | (refine CallS.q ?_; (conv => whnf); first | refine CallG.plain rfl ?_ ?_ | refine CallG.mk rfl ?_ ?_) | (refine CallS.m ?_; (conv => whnf); refine CallM.mk rfl ?_ ?_) | (refine CallS.h ?_; (conv => whnf); refine CallM.mk rfl ?_ ?_) | (refine CallS.b ?_; (conv => whnf); refine CallM.mk rfl ?_ ?_) | (refine CallS.z ?_; (conv => whnf); refine CallM.mk rfl ?_ ?_))
      all_goals (try (conv => whnf))
      all_goals (try (exact Ob.mk (u8_bnd _)))
      all_goals (try (refine Ob.mk ?_; first | exact True.intro | assumption | omega | (try simp only [decide_eq_true_eq, decide_eq_false_iff_not, beq_iff_eq, beq_eq_false_iff_ne, bne_iff_ne, bne_eq_false_iff_eq, ne_eq, Bool.and_eq_true, Bool.or_eq_true, Bool.not_eq_true, Bool.not_eq_false, Bool.not_eq_true', Bool.not_eq_false', Int.toNat_natCast, Int.not_lt, Int.not_le, UInt8.ofNat_toNat, cast_eq] at *; omega)))
      all_goals (try ((show (_:Int) = _); omega))
      all_goals (try (show tupSV _ = _; with_unfolding_all rfl))
      all_goals (try ((show (_ : Nat) ≤ _); (simp <;> omega)))
      all_goals (try ((show (_ : Nat) ≤ _ ∧ (_ : Nat) ≤ _); (simp <;> omega)))
      all_goals (try ((show (_ : Int) ≤ _ ∧ (_ : Int) ≤ _ ∧ (_ : Int) ≤ _ ∧ (_ : Int) ≤ _); (simp <;> omega)))
      all_goals rfl
    · have h : r = 65533 := by simpa using ‹(r == 65533) = true›
      have hp3 : p = 0 ∨ p = 1 ∨ p = 2 := by omega
      rcases hp3 with rfl | rfl | rfl
      · repeat' ((conv => whnf); first | (with_reducible rfl) | exact True.intro | (with_reducible exact absTF) | (with_reducible exact absFT) | intro _ | refine And.intro ?_ ?_ | refine Fin.mk ?_ | refine CallG.plain rfl ?_ ?_ | refine CallG.mk rfl ?_ ?_ | refine CallG.nwl rfl ?_ ?_ | refine CallG.nw ?_ ?_ | refine CallF.nwl rfl ?_ ?_ | refine CallF.nw ?_ ?_ | refine AppN.mk ?_ | (refine CallS.q ?_; (conv => whnf); first | refine CallG.plain rfl ?_ ?_ | refine CallG.mk rfl ?_ ?_) | (refine CallS.m ?_; (conv => whnf); refine CallM.mk rfl ?_ ?_) | (refine CallS.h ?_; (conv => whnf); refine CallM.mk rfl ?_ ?_) | (refine CallS.b ?_; (conv => whnf); refine CallM.mk rfl ?_ ?_) | (refine CallS.z ?_; (conv => whnf); refine CallM.mk rfl ?_ ?_))
        all_goals (try (conv => whnf))
        all_goals (try (exact Ob.mk (u8_bnd _)))
        all_goals (try (refine Ob.mk ?_; first | exact True.intro | assumption | omega | (try simp only [decide_eq_true_eq, decide_eq_false_iff_not, beq_iff_eq, beq_eq_false_iff_ne, bne_iff_ne, bne_eq_false_iff_eq, ne_eq, Bool.and_eq_true, Bool.or_eq_true, Bool.not_eq_true, Bool.not_eq_false, Bool.not_eq_true', Bool.not_eq_false', Int.toNat_natCast, Int.not_lt, Int.not_le, UInt8.ofNat_toNat, cast_eq] at *; omega)))
        all_goals (try ((show (_:Int) = _); omega))
        all_goals (try (show tupSV _ = _; with_unfolding_all rfl))
        all_goals (try ((show (_ : Nat) ≤ _); (simp <;> omega)))
        all_goals (try ((show (_ : Nat) ≤ _ ∧ (_ : Nat) ≤ _); (simp <;> omega)))
        all_goals (try ((show (_ : Int) ≤ _ ∧ (_ : Int) ≤ _ ∧ (_ : Int) ≤ _ ∧ (_ : Int) ≤ _); (simp <;> omega)))
        · exact absurd ‹(((decL [0, 13] 0).fst : Int) == 65533) = true› (by decide)
        · refine Rnd.mk ⟨1, by omega, by omega, ?_⟩
          repeat' ((conv => whnf); first | (with_reducible rfl) | exact True.intro | (with_reducible exact absTF) | (with_reducible exact absFT) | intro _ | refine And.intro ?_ ?_ | refine Fin.mk ?_ | refine CallG.plain rfl ?_ ?_ | refine CallG.mk rfl ?_ ?_ | refine CallG.nwl rfl ?_ ?_ | refine CallG.nw ?_ ?_ | refine CallF.nwl rfl ?_ ?_ | refine CallF.nw ?_ ?_ | refine AppN.mk ?_ | (refine CallS.q ?_; (conv => whnf); first | refine CallG.plain rfl ?_ ?_ | refine CallG.mk rfl ?_ ?_) | (refine CallS.m ?_; (conv => whnf); refine CallM.mk rfl ?_ ?_) | (refine CallS.h ?_; (conv => whnf); refine CallM.mk rfl ?_ ?_) | (refine CallS.b ?_; (conv => whnf); refine CallM.mk rfl ?_ ?_) | (refine CallS.z ?_; (conv => whnf); refine CallM.mk rfl ?_ ?_))
          all_goals (try (conv => whnf))
          all_goals (try (exact Ob.mk (u8_bnd _)))
          all_goals (try (refine Ob.mk ?_; first | exact True.intro | assumption | omega | (try simp only [decide_eq_true_eq, decide_eq_false_iff_not, beq_iff_eq, beq_eq_false_iff_ne, bne_iff_ne, bne_eq_false_iff_eq, ne_eq, Bool.and_eq_true, Bool.or_eq_true, Bool.not_eq_true, Bool.not_eq_false, Bool.not_eq_true', Bool.not_eq_false', Int.toNat_natCast, Int.not_lt, Int.not_le, UInt8.ofNat_toNat, cast_eq] at *; omega)))
          all_goals (try ((show (_:Int) = _); omega))
          all_goals (try (show tupSV _ = _; with_unfolding_all rfl))
          all_goals (try ((show (_ : Nat) ≤ _); (simp <;> omega)))
          all_goals (try ((show (_ : Nat) ≤ _ ∧ (_ : Nat) ≤ _); (simp <;> omega)))
          all_goals (try ((show (_ : Int) ≤ _ ∧ (_ : Int) ≤ _ ∧ (_ : Int) ≤ _ ∧ (_ : Int) ≤ _); (simp <;> omega)))
          all_goals rfl
      · repeat' ((conv => whnf); first | (with_reducible rfl) | exact True.intro | (with_reducible exact absTF) | (with_reducible exact absFT) | intro _ | refine And.intro ?_ ?_ | refine Fin.mk ?_ | refine CallG.plain rfl ?_ ?_ | refine CallG.mk rfl ?_ ?_ | refine CallG.nwl rfl ?_ ?_ | refine CallG.nw ?_ ?_ | refine CallF.nwl rfl ?_ ?_ | refine CallF.nw ?_ ?_ | refine AppN.mk ?_ | (refine CallS.q ?_; (conv => whnf); first | refine CallG.plain rfl ?_ ?_ | refine CallG.mk rfl ?_ ?_) | (refine CallS.m ?_; (conv => whnf); refine CallM.mk rfl ?_ ?_) | (refine CallS.h ?_; (conv => whnf); refine CallM.mk rfl ?_ ?_) | (refine CallS.b ?_; (conv => whnf); refine CallM.mk rfl ?_ ?_) | (refine CallS.z ?_; (conv => whnf); refine CallM.mk rfl ?_ ?_))
        all_goals (try (conv => whnf))
        all_goals (try (exact Ob.mk (u8_bnd _)))
        all_goals (try (refine Ob.mk ?_; first | exact True.intro | assumption | omega | (try simp only [decide_eq_true_eq, decide_eq_false_iff_not, beq_iff_eq, beq_eq_false_iff_ne, bne_iff_ne, bne_eq_false_iff_eq, ne_eq, Bool.and_eq_true, Bool.or_eq_true, Bool.not_eq_true, Bool.not_eq_false, Bool.not_eq_true', Bool.not_eq_false', Int.toNat_natCast, Int.not_lt, Int.not_le, UInt8.ofNat_toNat, cast_eq] at *; omega)))
        all_goals (try ((show (_:Int) = _); omega))
        all_goals (try (show tupSV _ = _; with_unfolding_all rfl))
        all_goals (try ((show (_ : Nat) ≤ _); (simp <;> omega)))
        all_goals (try ((show (_ : Nat) ≤ _ ∧ (_ : Nat) ≤ _); (simp <;> omega)))
        all_goals (try ((show (_ : Int) ≤ _ ∧ (_ : Int) ≤ _ ∧ (_ : Int) ≤ _ ∧ (_ : Int) ≤ _); (simp <;> omega)))
        · exact absurd ‹(((decL [0, 13] 1).fst : Int) == 65533) = true› (by decide)
        · refine Rnd.mk ⟨2, by omega, by omega, ?_⟩
          repeat' ((conv => whnf); first | (with_reducible rfl) | exact True.intro | (with_reducible exact absTF) | (with_reducible exact absFT) | intro _ | refine And.intro ?_ ?_ | refine Fin.mk ?_ | refine CallG.plain rfl ?_ ?_ | refine CallG.mk rfl ?_ ?_ | refine CallG.nwl rfl ?_ ?_ | refine CallG.nw ?_ ?_ | refine CallF.nwl rfl ?_ ?_ | refine CallF.nw ?_ ?_ | refine AppN.mk ?_ | (refine CallS.q ?_; (conv => whnf); first | refine CallG.plain rfl ?_ ?_ | refine CallG.mk rfl ?_ ?_) | (refine CallS.m ?_; (conv => whnf); refine CallM.mk rfl ?_ ?_) | (refine CallS.h ?_; (conv => whnf); refine CallM.mk rfl ?_ ?_) | (refine CallS.b ?_; (conv => whnf); refine CallM.mk rfl ?_ ?_) | (refine CallS.z ?_; (conv => whnf); refine CallM.mk rfl ?_ ?_))
          all_goals (try (conv => whnf))
          all_goals (try (exact Ob.mk (u8_bnd _)))
          all_goals (try (refine Ob.mk ?_; first | exact True.intro | assumption | omega | (try simp only [decide_eq_true_eq, decide_eq_false_iff_not, beq_iff_eq, beq_eq_false_iff_ne, bne_iff_ne, bne_eq_false_iff_eq, ne_eq, Bool.and_eq_true, Bool.or_eq_true, Bool.not_eq_true, Bool.not_eq_false, Bool.not_eq_true', Bool.not_eq_false', Int.toNat_natCast, Int.not_lt, Int.not_le, UInt8.ofNat_toNat, cast_eq] at *; omega)))
          all_goals (try ((show (_:Int) = _); omega))
          all_goals (try (show tupSV _ = _; with_unfolding_all rfl))
          all_goals (try ((show (_ : Nat) ≤ _); (simp <;> omega)))
          all_goals (try ((show (_ : Nat) ≤ _ ∧ (_ : Nat) ≤ _); (simp <;> omega)))
          all_goals (try ((show (_ : Int) ≤ _ ∧ (_ : Int) ≤ _ ∧ (_ : Int) ≤ _ ∧ (_ : Int) ≤ _); (simp <;> omega)))
          all_goals rfl
      · repeat' ((conv => whnf); first | (with_reducible rfl) | exact True.intro | (with_reducible exact absTF) | (with_reducible exact absFT) | intro _ | refine And.intro ?_ ?_ | refine Fin.mk ?_ | refine CallG.plain rfl ?_ ?_ | refine CallG.mk rfl ?_ ?_ | refine CallG.nwl rfl ?_ ?_ | refine CallG.nw ?_ ?_ | refine CallF.nwl rfl ?_ ?_ | refine CallF.nw ?_ ?_ | refine AppN.mk ?_ | (refine CallS.q ?_; (conv => whnf); first | refine CallG.plain rfl ?_ ?_ | refine CallG.mk rfl ?_ ?_) | (refine CallS.m ?_; (conv => whnf); refine CallM.mk rfl ?_ ?_) | (refine CallS.h ?_; (conv => whnf); refine CallM.mk rfl ?_ ?_) | (refine CallS.b ?_; (conv => whnf); refine CallM.mk rfl ?_ ?_) | (refine CallS.z ?_; (conv => whnf); refine CallM.mk rfl ?_ ?_))
        all_goals (try (conv => whnf))
        all_goals (try (exact Ob.mk (u8_bnd _)))
        all_goals (try (refine Ob.mk ?_; first | exact True.intro | assumption | omega | (try simp only [decide_eq_true_eq, decide_eq_false_iff_not, beq_iff_eq, beq_eq_false_iff_ne, bne_iff_ne, bne_eq_false_iff_eq, ne_eq, Bool.and_eq_true, Bool.or_eq_true, Bool.not_eq_true, Bool.not_eq_false, Bool.not_eq_true', Bool.not_eq_false', Int.toNat_natCast, Int.not_lt, Int.not_le, UInt8.ofNat_toNat, cast_eq] at *; omega)))
        all_goals (try ((show (_:Int) = _); omega))
        all_goals (try (show tupSV _ = _; with_unfolding_all rfl))
        all_goals (try ((show (_ : Nat) ≤ _); (simp <;> omega)))
        all_goals (try ((show (_ : Nat) ≤ _ ∧ (_ : Nat) ≤ _); (simp <;> omega)))
        all_goals (try ((show (_ : Int) ≤ _ ∧ (_ : Int) ≤ _ ∧ (_ : Int) ≤ _ ∧ (_ : Int) ≤ _); (simp <;> omega)))
        all_goals (try (exact absurd ‹2 < ([0, 13] : List UInt8).length› (by decide)))
        all_goals (rw [if_neg (by omega), if_neg (by omega)])
  · have h : (decide (0 ≤ r) && decide (r < 128)) = false := ‹_›
    rw [if_neg (by rintro rfl; revert h; decide), if_neg (by rintro rfl; revert h; decide)]
  · have h : (decide (0 ≤ r) && decide (r < 128)) = false := ‹_›
    have hk : (!okR r) = false := ‹_›
    rw [if_neg (by rintro rfl; revert h; decide), if_neg (by rintro rfl; revert h; decide)]
    have hv : Utf8.valid r = true := by rw [← okR_valid]; simpa using hk
    have h128 : 128 ≤ r := by
      have h0 : 0 ≤ r := by unfold Utf8.valid at hv; simp at hv; omega
      simp [h0] at h; exact h
    have key := encR r h128 hv
    generalize (Utf8.encode r).data.toList = L at *
    refine LoopStop.mk (α := Unit) (fun p => [(9, .int .i64 ((L.length : Int) - 1)), (10, .int .i64 0)]) (fun p => []) 20 (fun p => True) (fun p => 0) () True.intro ?_ (fun p hp => ?_)
    · repeat' ((conv => whnf); first | (with_reducible rfl) | exact True.intro | (with_reducible exact absTF) | (with_reducible exact absFT) | intro _ | refine And.intro ?_ ?_ | refine Fin.mk ?_ | refine CallG.plain rfl ?_ ?_ | refine CallG.mk rfl ?_ ?_ | refine CallG.nwl rfl ?_ ?_ | refine CallG.nw ?_ ?_ | refine CallF.nwl rfl ?_ ?_ | refine CallF.nw ?_ ?_ | refine AppN.mk ?_ | (refine CallS.q ?_; (conv => whnf); first | refine CallG.plain rfl ?_ ?_ | refine CallG.mk rfl ?_ ?_) | (refine CallS.m ?_; (conv => whnf); refine CallM.mk rfl ?_ ?_) | (refine CallS.h ?_; (conv => whnf); refine CallM.mk rfl ?_ ?_) | (refine CallS.b ?_; (conv => whnf); refine CallM.mk rfl ?_ ?_) | (refine CallS.z ?_; (conv => whnf); refine CallM.mk rfl ?_ ?_))
      all_goals (try (conv => whnf))
      all_goals (try (exact Ob.mk (u8_bnd _)))
      all_goals (try (refine Ob.mk ?_; first | exact True.intro | assumption | omega | (try simp only [decide_eq_true_eq, decide_eq_false_iff_not, beq_iff_eq, beq_eq_false_iff_ne, bne_iff_ne, bne_eq_false_iff_eq, ne_eq, Bool.and_eq_true, Bool.or_eq_true, Bool.not_eq_true, Bool.not_eq_false, Bool.not_eq_true', Bool.not_eq_false', Int.toNat_natCast, Int.not_lt, Int.not_le, UInt8.ofNat_toNat, cast_eq] at *; omega)))
      all_goals (try ((show (_:Int) = _); omega))
      all_goals (try (show tupSV _ = _; with_unfolding_all rfl))
      all_goals (try ((show (_ : Nat) ≤ _); (simp <;> omega)))
      all_goals (try ((show (_ : Nat) ≤ _ ∧ (_ : Nat) ≤ _); (simp <;> omega)))
      all_goals (try ((show (_ : Int) ≤ _ ∧ (_ : Int) ≤ _ ∧ (_ : Int) ≤ _ ∧ (_ : Int) ≤ _); (simp <;> omega)))
      all_goals rfl
    · rcases key with ⟨a, b, rfl, hb⟩ | h3 | h4
      · have kneg : ∀ (c : Int), decide (Lib.indexByte (List.drop ((([a, b] : List UInt8).length : Int) - 1 + 1).toNat [0, 13]) c.toNat.toUInt8 < 0) = true := fun c => by
          show decide (Lib.indexByte [] c.toNat.toUInt8 < 0) = true
          simp [Lib.indexByte]
        have kne : ((([0, 13] : List UInt8).getD ((([a, b] : List UInt8).length : Int) - 1).toNat 0).toNat : Int) ≠ ((([a, b] : List UInt8).getD ((([a, b] : List UInt8).length : Int) - 1).toNat 0).toNat : Int) := by
          show (13 : Int) ≠ (b.toNat : Int)
          omega
        repeat' ((conv => whnf); first | (with_reducible rfl) | exact True.intro | (with_reducible exact absTF) | (with_reducible exact absFT) | intro _ | refine And.intro ?_ ?_ | refine Fin.mk ?_ | refine CallG.plain rfl ?_ ?_ | refine CallG.mk rfl ?_ ?_ | refine CallG.nwl rfl ?_ ?_ | refine CallG.nw ?_ ?_ | refine CallF.nwl rfl ?_ ?_ | refine CallF.nw ?_ ?_ | refine AppN.mk ?_ | (refine CallS.q ?_; (conv => whnf); first | refine CallG.plain rfl ?_ ?_ | refine CallG.mk rfl ?_ ?_) | (refine CallS.m ?_; (conv => whnf); refine CallM.mk rfl ?_ ?_) | (refine CallS.h ?_; (conv => whnf); refine CallM.mk rfl ?_ ?_) | (refine CallS.b ?_; (conv => whnf); refine CallM.mk rfl ?_ ?_) | (refine CallS.z ?_; (conv => whnf); refine CallM.mk rfl ?_ ?_))
        all_goals (try (conv => whnf))
        all_goals (try (exact Ob.mk (u8_bnd _)))
        all_goals (try (refine Ob.mk ?_; first | exact True.intro | assumption | omega | (try simp only [decide_eq_true_eq, decide_eq_false_iff_not, beq_iff_eq, beq_eq_false_iff_ne, bne_iff_ne, bne_eq_false_iff_eq, ne_eq, Bool.and_eq_true, Bool.or_eq_true, Bool.not_eq_true, Bool.not_eq_false, Bool.not_eq_true', Bool.not_eq_false', Int.toNat_natCast, Int.not_lt, Int.not_le, UInt8.ofNat_toNat, cast_eq] at *; omega)))
        all_goals (try ((show (_:Int) = _); omega))
        all_goals (try (show tupSV _ = _; with_unfolding_all rfl))
        all_goals (try ((show (_ : Nat) ≤ _); (simp <;> omega)))
        all_goals (try ((show (_ : Nat) ≤ _ ∧ (_ : Nat) ≤ _); (simp <;> omega)))
        all_goals (try ((show (_ : Int) ≤ _ ∧ (_ : Int) ≤ _ ∧ (_ : Int) ≤ _ ∧ (_ : Int) ≤ _); (simp <;> omega)))
        all_goals (try (exfalso; exact absurd (kneg _) (by rw [‹decide (Lib.indexByte _ _ < 0) = false›]; decide)))
        all_goals (try (exfalso; exact kne (bne_eq_false_iff_eq.1 ‹_›)))
        all_goals (try (simp; done))
        all_goals trace_state
      · repeat' ((conv => whnf); first | (with_reducible rfl) | exact True.intro | (with_reducible exact absTF) | (with_reducible exact absFT) | intro _ | refine And.intro ?_ ?_ | refine Fin.mk ?_ | refine CallG.plain rfl ?_ ?_ | refine CallG.mk rfl ?_ ?_ | refine CallG.nwl rfl ?_ ?_ | refine CallG.nw ?_ ?_ | refine CallF.nwl rfl ?_ ?_ | refine CallF.nw ?_ ?_ | refine AppN.mk ?_ | (refine CallS.q ?_; (conv => whnf); first | refine CallG.plain rfl ?_ ?_ | refine CallG.mk rfl ?_ ?_) | (refine CallS.m ?_; (conv => whnf); refine CallM.mk rfl ?_ ?_) | (refine CallS.h ?_; (conv => whnf); refine CallM.mk rfl ?_ ?_) | (refine CallS.b ?_; (conv => whnf); refine CallM.mk rfl ?_ ?_) | (refine CallS.z ?_; (conv => whnf); refine CallM.mk rfl ?_ ?_))
        all_goals (try (conv => whnf))
        all_goals (try (exact Ob.mk (u8_bnd _)))
        all_goals (try (refine Ob.mk ?_; first | exact True.intro | assumption | omega | (try simp only [decide_eq_true_eq, decide_eq_false_iff_not, beq_iff_eq, beq_eq_false_iff_ne, bne_iff_ne, bne_eq_false_iff_eq, ne_eq, Bool.and_eq_true, Bool.or_eq_true, Bool.not_eq_true, Bool.not_eq_false, Bool.not_eq_true', Bool.not_eq_false', Int.toNat_natCast, Int.not_lt, Int.not_le, UInt8.ofNat_toNat, cast_eq] at *; omega)))
        all_goals (try ((show (_:Int) = _); omega))
        all_goals (try (show tupSV _ = _; with_unfolding_all rfl))
        all_goals (try ((show (_ : Nat) ≤ _); (simp <;> omega)))
        all_goals (try ((show (_ : Nat) ≤ _ ∧ (_ : Nat) ≤ _); (simp <;> omega)))
        all_goals (try ((show (_ : Int) ≤ _ ∧ (_ : Int) ≤ _ ∧ (_ : Int) ≤ _ ∧ (_ : Int) ≤ _); (simp <;> omega)))
        all_goals (try (exfalso; have := of_decide_eq_true ‹decide ((L.length : Int) - 1 < _) = true›; rw [h3] at this; revert this; decide))
        all_goals trace_state
      · repeat' ((conv => whnf); first | (with_reducible rfl) | exact True.intro | (with_reducible exact absTF) | (with_reducible exact absFT) | intro _ | refine And.intro ?_ ?_ | refine Fin.mk ?_ | refine CallG.plain rfl ?_ ?_ | refine CallG.mk rfl ?_ ?_ | refine CallG.nwl rfl ?_ ?_ | refine CallG.nw ?_ ?_ | refine CallF.nwl rfl ?_ ?_ | refine CallF.nw ?_ ?_ | refine AppN.mk ?_ | (refine CallS.q ?_; (conv => whnf); first | refine CallG.plain rfl ?_ ?_ | refine CallG.mk rfl ?_ ?_) | (refine CallS.m ?_; (conv => whnf); refine CallM.mk rfl ?_ ?_) | (refine CallS.h ?_; (conv => whnf); refine CallM.mk rfl ?_ ?_) | (refine CallS.b ?_; (conv => whnf); refine CallM.mk rfl ?_ ?_) | (refine CallS.z ?_; (conv => whnf); refine CallM.mk rfl ?_ ?_))
        all_goals (try (conv => whnf))
        all_goals (try (exact Ob.mk (u8_bnd _)))
        all_goals (try (refine Ob.mk ?_; first | exact True.intro | assumption | omega | (try simp only [decide_eq_true_eq, decide_eq_false_iff_not, beq_iff_eq, beq_eq_false_iff_ne, bne_iff_ne, bne_eq_false_iff_eq, ne_eq, Bool.and_eq_true, Bool.or_eq_true, Bool.not_eq_true, Bool.not_eq_false, Bool.not_eq_true', Bool.not_eq_false', Int.toNat_natCast, Int.not_lt, Int.not_le, UInt8.ofNat_toNat, cast_eq] at *; omega)))
        all_goals (try ((show (_:Int) = _); omega))
        all_goals (try (show tupSV _ = _; with_unfolding_all rfl))
        all_goals (try ((show (_ : Nat) ≤ _); (simp <;> omega)))
        all_goals (try ((show (_ : Nat) ≤ _ ∧ (_ : Nat) ≤ _); (simp <;> omega)))
        all_goals (try ((show (_ : Int) ≤ _ ∧ (_ : Int) ≤ _ ∧ (_ : Int) ≤ _ ∧ (_ : Int) ≤ _); (simp <;> omega)))
        all_goals (try (exfalso; have := of_decide_eq_true ‹decide ((L.length : Int) - 1 < _) = true›; rw [h4] at this; revert this; decide))
        all_goals trace_state
end Go.Vc

/-
  DERIVED: THE SHELF's CONTRACTS AT THIS DUMP, IN PLAIN WORDS (tools/lay-plain.mjs out of 'TrygShelf.lean', which tools/lay-shelf.mjs wrote): THE SAME DECLARATIONS UNDER THE SAME NAMES: 'import', 'namespace', 'open', 'def', 'theorem' AND NOTHING ELSE: no command of the shelf's: FOR A HAND-IN. Each laying: the table of numbers ('.._ren') and one theorem, a field a fact of the dump's own or the kernel's comparison; each contract: ONE APPLICATION.
-/
namespace Go.Proofs
open Go.Shelf
def Tryd.laysG62_ren : Go.Shelf.Ren := ⟨fun | 4 => 62 | n => n, fun | 22 => 22 | 25 => 9 | 3 => 3 | 4 => 4 | 9 => 9 | 20 => 20 | 0 => 0 | n => n, fun | n => n⟩
theorem Tryd.laysG62 : Go.Proofs.Lays8.n4 Tryd.prog Tryd.laysG62_ren := {
  mixed := by kernel_rfl
  f4 := ⟨Tryd.f62.name, by decide, Tryd.func62.trans (congrArg some (by kernel_rfl))⟩
  t0 := Tryd.underlying0
  a0 := Tryd.isAgg0
  z0 := Tryd.sizeOf0
  v0 := Tryd.zeroValue0
  t3 := Tryd.underlying3
  a3 := Tryd.isAgg3
  z3 := Tryd.sizeOf3
  v3 := Tryd.zeroValue3
  t4 := Tryd.underlying4
  a4 := Tryd.isAgg4
  z4 := Tryd.sizeOf4
  v4 := Tryd.zeroValue4
  t9 := Tryd.underlying9
  a9 := Tryd.isAgg9
  z9 := Tryd.sizeOf9
  v9 := Tryd.zeroValue9
  t20 := Tryd.underlying20
  a20 := Tryd.isAgg20
  z20 := Tryd.sizeOf20
  v20 := Tryd.zeroValue20
  t22 := Tryd.underlying22
  a22 := Tryd.isAgg22
  z22 := Tryd.sizeOf22
  v22 := Tryd.zeroValue22 }
def Tryd.lays196_ren : Go.Shelf.Ren := ⟨fun | 196 => 71 | 259 => 105 | n => n, fun | 9 => 9 | 4 => 4 | 3 => 3 | 5 => 5 | 12 => 12 | 119 => 110 | 0 => 0 | 46 => 114 | 139 => 113 | 138 => 112 | 53 => 129 | n => n, fun | 3 => 0 | 4 => 1 | n => n⟩
theorem Tryd.lays196 : Go.Proofs.Lays.n196 Tryd.prog Tryd.lays196_ren := {
  mixed := by kernel_rfl
  f196 := Tryd.func71.trans (congrArg some (by kernel_rfl))
  f259 := Tryd.func105.trans (congrArg some (by kernel_rfl))
  t0 := Tryd.underlying0
  a0 := Tryd.isAgg0
  z0 := Tryd.sizeOf0
  v0 := Tryd.zeroValue0
  t3 := Tryd.underlying3
  a3 := Tryd.isAgg3
  z3 := Tryd.sizeOf3
  v3 := Tryd.zeroValue3
  t4 := Tryd.underlying4
  a4 := Tryd.isAgg4
  z4 := Tryd.sizeOf4
  v4 := Tryd.zeroValue4
  t5 := Tryd.underlying5
  a5 := Tryd.isAgg5
  z5 := Tryd.sizeOf5
  v5 := Tryd.zeroValue5
  t9 := Tryd.underlying9
  a9 := Tryd.isAgg9
  z9 := Tryd.sizeOf9
  v9 := Tryd.zeroValue9
  t12 := Tryd.underlying12
  a12 := Tryd.isAgg12
  z12 := Tryd.sizeOf12
  v12 := Tryd.zeroValue12
  t46 := Tryd.underlying114
  a46 := Tryd.isAgg114
  z46 := Tryd.sizeOf114
  v46 := Tryd.zeroValue114
  t53 := Tryd.underlying129
  a53 := Tryd.isAgg129
  z53 := Tryd.sizeOf129
  v53 := Tryd.zeroValue129
  t119 := Tryd.underlying110
  a119 := Tryd.isAgg110
  z119 := Tryd.sizeOf110
  t138 := Tryd.underlying112
  a138 := Tryd.isAgg112
  z138 := Tryd.sizeOf112
  v138 := Tryd.zeroValue112
  t139 := Tryd.underlying113
  a139 := Tryd.isAgg113
  z139 := Tryd.sizeOf113
  v139 := Tryd.zeroValue113
  g3 := by kernel_rfl
  g4 := by kernel_rfl }
end Go.Proofs

namespace Go.Vc
open Go.Proofs
set_option linter.unusedVariables false
set_option maxRecDepth 10000
set_option linter.unusedSimpArgs false
set_option maxHeartbeats 8000000
instance fSU (n : Int) : Fn BB 132 [.int .i64 n] True (.bool (decide (n > 8))) := by
  refine Fn.intro (N := 5) [0, 2] [] Tryd.call132 Tryd.func132 rfl rfl (by kernel_rfl) (fun hpre => ?_)
  repeat' ((conv => whnf); first | (with_reducible rfl) | exact True.intro | (with_reducible exact absTF) | (with_reducible exact absFT) | intro _ | refine And.intro ?_ ?_ | refine Fin.mk ?_ | refine CallG.plain rfl ?_ ?_ | refine CallG.mk rfl ?_ ?_ | refine CallG.nwl rfl ?_ ?_ | refine CallG.nw ?_ ?_ | refine CallF.nwl rfl ?_ ?_ | refine CallF.nw ?_ ?_ | refine AppN.mk ?_ | (refine CallS.q ?_; (conv => whnf); first | refine CallG.plain rfl ?_ ?_ | refine CallG.mk rfl ?_ ?_) | (refine CallS.m ?_; (conv => whnf); refine CallM.mk rfl ?_ ?_) | (refine CallS.h ?_; (conv => whnf); refine CallM.mk rfl ?_ ?_) | (refine CallS.b ?_; (conv => whnf); refine CallM.mk rfl ?_ ?_) | (refine CallS.z ?_; (conv => whnf); refine CallM.mk rfl ?_ ?_))
  all_goals (try (conv => whnf))
  all_goals (try (exact Ob.mk (u8_bnd _)))
  all_goals (try (refine Ob.mk ?_; first | exact True.intro | assumption | omega | (try simp only [decide_eq_true_eq, decide_eq_false_iff_not, beq_iff_eq, beq_eq_false_iff_ne, bne_iff_ne, bne_eq_false_iff_eq, ne_eq, Bool.and_eq_true, Bool.or_eq_true, Bool.not_eq_true, Bool.not_eq_false, Bool.not_eq_true', Bool.not_eq_false', Int.toNat_natCast, Int.not_lt, Int.not_le, UInt8.ofNat_toNat, cast_eq] at *; omega)))
  all_goals (try ((show (_:Int) = _); omega))
  all_goals (try (show tupSV _ = _; with_unfolding_all rfl))
  all_goals (try ((show (_ : Nat) ≤ _); (simp <;> omega)))
  all_goals (try ((show (_ : Nat) ≤ _ ∧ (_ : Nat) ≤ _); (simp <;> omega)))
  all_goals (try ((show (_ : Int) ≤ _ ∧ (_ : Int) ≤ _ ∧ (_ : Int) ≤ _ ∧ (_ : Int) ≤ _); (simp <;> omega)))
theorem noAny_step {s : List UInt8} {p : Nat} (hp : p < s.length) (h : Lib.NoAny s [0, 13] p) (h0 : s.getD p 0 ≠ 0) (h1 : s.getD p 0 ≠ 13) (hv : dU (s.drop p) = true) : p + cutU (s.drop p) ≤ s.length ∧ dU (s.drop (p + cutU (s.drop p))) = true ∧ Lib.NoAny s [0, 13] (p + cutU (s.drop p)) := by
  have hne : s.drop p ≠ [] := fun q => by have := congrArg List.length q; rw [List.length_drop] at this; simp at this; omega
  have hb := cutU_bnd _ hne
  rw [List.length_drop] at hb
  rw [dU_eq _ hne, Bool.and_eq_true, List.drop_drop] at hv
  refine ⟨by omega, hv.2, fun j b hj hs => ?_⟩
  rcases Nat.lt_or_ge j p with hh | hh
  · exact h j b hh hs
  · have hd : (s.drop p).getD (j - p) 0 = b := by simp [List.getD, show p + (j - p) = j by omega, hs]
    rcases Nat.eq_zero_or_pos (j - p) with e | e
    · obtain rfl : j = p := by omega
      have hb' : s.getD j 0 = b := by simp [List.getD, hs]
      rw [hb'] at h0 h1
      simp [h0, h1]
    · have := hiByte (l := s.drop p) e (by omega)
      rw [hd] at this
      have e1 : b ≠ 0 := fun e => by rw [e] at this; revert this; decide
      have e2 : b ≠ 13 := fun e => by rw [e] at this; revert this; decide
      simp [e1, e2]
theorem fIAs (s : List UInt8) : Fn BB 106 [.str s, .str [0, 13]] (s.length ≤ 8 ∧ dU s = true) (.int .i64 (Lib.indexAny s [0, 13])) := by
  refine Fn.intro (N := 55) [0, 1, 4, 5, 6, 7, 8, 9, 10, 12, 15, 20, 26, 32, 36, 42, 45, 46, 47, 53] [] Tryd.call106 Tryd.func106 rfl rfl (by kernel_rfl) (fun hpre => ?_)
  obtain ⟨hp1, hp2⟩ := hpre
  repeat' ((conv => whnf); first | (with_reducible rfl) | exact True.intro | (with_reducible exact absTF) | (with_reducible exact absFT) | (intro hq; (try simp only [decide_eq_true_eq, decide_eq_false_iff_not, beq_iff_eq, beq_eq_false_iff_ne, bne_iff_ne, bne_eq_false_iff_eq, ne_eq, Bool.and_eq_true, Bool.or_eq_true, Bool.and_eq_false_iff, Bool.or_eq_false_iff, Bool.not_eq_true, Bool.not_eq_false, Bool.not_eq_true', Bool.not_eq_false', Int.toNat_natCast, Int.not_lt, Int.not_le, ge_iff_le, gt_iff_lt, UInt8.ofNat_toNat, cast_eq] at hq); (try (exfalso; first | omega | exact hq trivial | exact absurd hq (by decide)))) | refine And.intro ?_ ?_ | refine Fin.mk ?_ | refine CallG.plain rfl ?_ ?_ | refine CallG.mk rfl ?_ ?_ | refine CallG.nwl rfl ?_ ?_ | refine CallG.nw ?_ ?_ | refine CallF.nwl rfl ?_ ?_ | refine CallF.nw ?_ ?_ | refine AppN.mk ?_ | (refine CallS.q ?_; (conv => whnf); first | refine CallG.plain rfl ?_ ?_ | refine CallG.mk rfl ?_ ?_) | (refine CallS.m ?_; (conv => whnf); refine CallM.mk rfl ?_ ?_) | (refine CallS.h ?_; (conv => whnf); refine CallM.mk rfl ?_ ?_) | (refine CallS.b ?_; (conv => whnf); refine CallM.mk rfl ?_ ?_) | (refine CallS.z ?_; (conv => whnf); refine CallM.mk rfl ?_ ?_))
  all_goals (try (conv => whnf))
  all_goals (try (exact Ob.mk (u8_bnd _)))
  all_goals (try (refine Ob.mk ?_; first | exact True.intro | assumption | omega | (try simp only [decide_eq_true_eq, decide_eq_false_iff_not, beq_iff_eq, beq_eq_false_iff_ne, bne_iff_ne, bne_eq_false_iff_eq, ne_eq, Bool.and_eq_true, Bool.or_eq_true, Bool.not_eq_true, Bool.not_eq_false, Bool.not_eq_true', Bool.not_eq_false', Int.toNat_natCast, Int.not_lt, Int.not_le, UInt8.ofNat_toNat, cast_eq] at *; omega)))
  all_goals (try ((show (_:Int) = _); omega))
  all_goals (try (show tupSV _ = _; with_unfolding_all rfl))
  all_goals (try ((show (_ : Nat) ≤ _); (simp <;> omega)))
  all_goals (try ((show (_ : Nat) ≤ _ ∧ (_ : Nat) ≤ _); (simp <;> omega)))
  all_goals (try ((show (_ : Int) ≤ _ ∧ (_ : Int) ≤ _ ∧ (_ : Int) ≤ _ ∧ (_ : Int) ≤ _); (simp <;> omega)))
  refine LoopStop.mk (α := Nat) (fun p => []) (fun p => [(0, .iter s p)]) 20 (fun p => p ≤ s.length ∧ dU (s.drop p) = true ∧ Lib.NoAny s [0, 13] p) (fun p => s.length - p) 0 ⟨by omega, by simpa using hp2, Lib.NoAny.zero _ _⟩ ?_ (fun p hp => ?_)
  · repeat' ((conv => whnf); first | (with_reducible rfl) | exact True.intro | (with_reducible exact absTF) | (with_reducible exact absFT) | intro _ | refine And.intro ?_ ?_ | refine Fin.mk ?_ | refine CallG.plain rfl ?_ ?_ | refine CallG.mk rfl ?_ ?_ | refine CallG.nwl rfl ?_ ?_ | refine CallG.nw ?_ ?_ | refine CallF.nwl rfl ?_ ?_ | refine CallF.nw ?_ ?_ | refine AppN.mk ?_ | (refine CallS.q ?_; (conv => whnf); first | refine CallG.plain rfl ?_ ?_ | refine CallG.mk rfl ?_ ?_) | (refine CallS.m ?_; (conv => whnf); refine CallM.mk rfl ?_ ?_) | (refine CallS.h ?_; (conv => whnf); refine CallM.mk rfl ?_ ?_) | (refine CallS.b ?_; (conv => whnf); refine CallM.mk rfl ?_ ?_) | (refine CallS.z ?_; (conv => whnf); refine CallM.mk rfl ?_ ?_))
    all_goals (try (conv => whnf))
    all_goals (try (exact Ob.mk (u8_bnd _)))
    all_goals (try (refine Ob.mk ?_; first | exact True.intro | assumption | omega | (try simp only [decide_eq_true_eq, decide_eq_false_iff_not, beq_iff_eq, beq_eq_false_iff_ne, bne_iff_ne, bne_eq_false_iff_eq, ne_eq, Bool.and_eq_true, Bool.or_eq_true, Bool.not_eq_true, Bool.not_eq_false, Bool.not_eq_true', Bool.not_eq_false', Int.toNat_natCast, Int.not_lt, Int.not_le, UInt8.ofNat_toNat, cast_eq] at *; omega)))
    all_goals (try ((show (_:Int) = _); omega))
    all_goals (try (show tupSV _ = _; with_unfolding_all rfl))
    all_goals (try ((show (_ : Nat) ≤ _); (simp <;> omega)))
    all_goals (try ((show (_ : Nat) ≤ _ ∧ (_ : Nat) ≤ _); (simp <;> omega)))
    all_goals (try ((show (_ : Int) ≤ _ ∧ (_ : Int) ≤ _ ∧ (_ : Int) ≤ _ ∧ (_ : Int) ≤ _); (simp <;> omega)))
    all_goals rfl
  · obtain ⟨q1, q2, q3⟩ := hp
    have key : p < s.length → ((decL s p).1 : Int) = 0 ∧ s.getD p 0 = 0 ∨ ((decL s p).1 : Int) = 13 ∧ s.getD p 0 = 13 ∨ (((decL s p).1 : Int) ≠ 0 ∧ ((decL s p).1 : Int) ≠ 13 ∧ s.getD p 0 ≠ 0 ∧ s.getD p 0 ≠ 13 ∧ (decL s p).2 = cutU (s.drop p)) := fun hl => by
      have hne : s.drop p ≠ [] := fun q => by have := congrArg List.length q; rw [List.length_drop] at this; simp at this; omega
      have hd : (s.drop p).getD 0 0 = s.getD p 0 := by simp [List.getD]
      have e : decL s p = Lib.decodeL (s.drop p) := dec_drop s p
      rw [e]
      rw [dU_eq _ hne, Bool.and_eq_true] at q2
      rcases decU3 (s.drop p) with ⟨h1, h2⟩ | ⟨h1, h2, h3⟩
      · rw [h1] at q2; exact absurd q2.1 (by decide)
      · rw [hd] at h3
        by_cases c0 : s.getD p 0 = 0
        · left; rw [c0] at h3; have z : (0 : UInt8).toNat = 0 := rfl; exact ⟨by omega, c0⟩
        · by_cases c1 : s.getD p 0 = 13
          · right; left; rw [c1] at h3; have z : (13 : UInt8).toNat = 13 := rfl; exact ⟨by omega, c1⟩
          · right; right
            have n0 : (s.getD p 0).toNat ≠ 0 := fun q => c0 (b_of 0 q)
            have n1 : (s.getD p 0).toNat ≠ 13 := fun q => c1 (b_of 13 q)
            exact ⟨by omega, by omega, c0, c1, h2⟩
    have hget : p < s.length → s[p]? = some (s.getD p 0) := fun hl => by simp [List.getD, List.getElem?_eq_getElem hl]
    repeat' ((conv => whnf); first | (with_reducible rfl) | exact True.intro | (with_reducible exact absTF) | (with_reducible exact absFT) | intro _ | refine And.intro ?_ ?_ | refine Fin.mk ?_ | refine CallG.plain rfl ?_ ?_ | refine CallG.mk rfl ?_ ?_ | refine CallG.nwl rfl ?_ ?_ | refine CallG.nw ?_ ?_ | refine CallF.nwl rfl ?_ ?_ | refine CallF.nw ?_ ?_ | refine AppN.mk ?_ | (refine CallS.q ?_; (conv => whnf); first | refine CallG.plain rfl ?_ ?_ | refine CallG.mk rfl ?_ ?_) | (refine CallS.m ?_; (conv => whnf); refine CallM.mk rfl ?_ ?_) | (refine CallS.h ?_; (conv => whnf); refine CallM.mk rfl ?_ ?_) | (refine CallS.b ?_; (conv => whnf); refine CallM.mk rfl ?_ ?_) | (refine CallS.z ?_; (conv => whnf); refine CallM.mk rfl ?_ ?_))
    all_goals (try (conv => whnf))
    all_goals (try (exact Ob.mk (u8_bnd _)))
    all_goals (try (refine Ob.mk ?_; first | exact True.intro | assumption | omega | (try simp only [decide_eq_true_eq, decide_eq_false_iff_not, beq_iff_eq, beq_eq_false_iff_ne, bne_iff_ne, bne_eq_false_iff_eq, ne_eq, Bool.and_eq_true, Bool.or_eq_true, Bool.not_eq_true, Bool.not_eq_false, Bool.not_eq_true', Bool.not_eq_false', Int.toNat_natCast, Int.not_lt, Int.not_le, UInt8.ofNat_toNat, cast_eq] at *; omega)))
    all_goals (try ((show (_:Int) = _); omega))
    all_goals (try (show tupSV _ = _; with_unfolding_all rfl))
    all_goals (try ((show (_ : Nat) ≤ _); (simp <;> omega)))
    all_goals (try ((show (_ : Nat) ≤ _ ∧ (_ : Nat) ≤ _); (simp <;> omega)))
    all_goals (try ((show (_ : Int) ≤ _ ∧ (_ : Int) ≤ _ ∧ (_ : Int) ≤ _ ∧ (_ : Int) ≤ _); (simp <;> omega)))
    · have hl : p < s.length := ‹_›
      have hq := of_decide_eq_true ‹decide ((if ((decL s p).1 : Int) = 0 then (0 : Int) else if ((decL s p).1 : Int) = 13 then 1 else -1) ≥ 0) = true›
      rcases key hl with ⟨k1, k2⟩ | ⟨k1, k2⟩ | ⟨k1, k2, _⟩
      · exact (Lib.indexAny_hit q3 (hget hl) (by rw [k2]; decide)).symm
      · exact (Lib.indexAny_hit q3 (hget hl) (by rw [k2]; decide)).symm
      · rw [if_neg k1, if_neg k2] at hq; omega
    · have hl : p < s.length := ‹_›
      have hq := of_decide_eq_false ‹decide ((if ((decL s p).1 : Int) = 0 then (0 : Int) else if ((decL s p).1 : Int) = 13 then 1 else -1) ≥ 0) = false›
      rcases key hl with ⟨k1, k2⟩ | ⟨k1, k2⟩ | ⟨k1, k2, k3, k4, k5⟩
      · rw [if_pos k1] at hq; omega
      · rw [if_neg (by omega), if_pos k1] at hq; omega
      · obtain ⟨n1, n2, n3⟩ := noAny_step hl q3 k3 k4 q2
        have hb := cutU_bnd (s.drop p) (fun q => by have := congrArg List.length q; rw [List.length_drop] at this; simp at this; omega)
        refine Rnd.mk ⟨p + cutU (s.drop p), ⟨n1, n2, n3⟩, by omega, ?_⟩
        repeat' ((conv => whnf); first | (with_reducible rfl) | exact True.intro | (with_reducible exact absTF) | (with_reducible exact absFT) | intro _ | refine And.intro ?_ ?_ | refine Fin.mk ?_ | refine CallG.plain rfl ?_ ?_ | refine CallG.mk rfl ?_ ?_ | refine CallG.nwl rfl ?_ ?_ | refine CallG.nw ?_ ?_ | refine CallF.nwl rfl ?_ ?_ | refine CallF.nw ?_ ?_ | refine AppN.mk ?_ | (refine CallS.q ?_; (conv => whnf); first | refine CallG.plain rfl ?_ ?_ | refine CallG.mk rfl ?_ ?_) | (refine CallS.m ?_; (conv => whnf); refine CallM.mk rfl ?_ ?_) | (refine CallS.h ?_; (conv => whnf); refine CallM.mk rfl ?_ ?_) | (refine CallS.b ?_; (conv => whnf); refine CallM.mk rfl ?_ ?_) | (refine CallS.z ?_; (conv => whnf); refine CallM.mk rfl ?_ ?_))
        all_goals (try (conv => whnf))
        all_goals (try (exact Ob.mk (u8_bnd _)))
        all_goals (try (refine Ob.mk ?_; first | exact True.intro | assumption | omega | (try simp only [decide_eq_true_eq, decide_eq_false_iff_not, beq_iff_eq, beq_eq_false_iff_ne, bne_iff_ne, bne_eq_false_iff_eq, ne_eq, Bool.and_eq_true, Bool.or_eq_true, Bool.not_eq_true, Bool.not_eq_false, Bool.not_eq_true', Bool.not_eq_false', Int.toNat_natCast, Int.not_lt, Int.not_le, UInt8.ofNat_toNat, cast_eq] at *; omega)))
        all_goals (try ((show (_:Int) = _); omega))
        all_goals (try (show tupSV _ = _; with_unfolding_all rfl))
        all_goals (try ((show (_ : Nat) ≤ _); (simp <;> omega)))
        all_goals (try ((show (_ : Nat) ≤ _ ∧ (_ : Nat) ≤ _); (simp <;> omega)))
        all_goals (try ((show (_ : Int) ≤ _ ∧ (_ : Int) ≤ _ ∧ (_ : Int) ≤ _ ∧ (_ : Int) ≤ _); (simp <;> omega)))
        all_goals (first | rfl | (rw [k5]; done) | skip)
    · have hl : ¬ p < s.length := ‹_›
      obtain rfl : p = s.length := by omega
      exact (Lib.indexAny_none q3).symm
end Go.Vc

namespace Go.Vc
open Go.Proofs
set_option linter.unusedVariables false
set_option maxRecDepth 10000
set_option linter.unusedSimpArgs false
set_option maxHeartbeats 8000000
theorem hv132 : ∀ w, (zeroValue 132).run Tryd.prog w = .ok (.agg (Array.replicate 256 (.bool false))) w := Tryd.zeroValue132
instance fIA (s : List UInt8) : Fn BB 106 [.str s, .str [0, 13]] (s.length ≤ 1000000 ∧ dU s = true) (.int .i64 (Lib.indexAny s [0, 13])) := by
  by_cases hl : s.length ≤ 8
  · exact ⟨(fIAs s).1, fun hp => (fIAs s).2 ⟨hl, hp.2⟩⟩
  · refine Fn.liftB Tryd.call106 fun hp r β w vs hG m h => ?_
    obtain ⟨rfl, h1, h2⟩ := h.str2
    have hs : (⟨s.toArray⟩ : ByteArray).size = s.length := by show s.toArray.size = _; simp
    refine ⟨_, (Tryd.strings_IndexAny_long hv132 ⟨s.toArray⟩ ⟨([0, 13] : List UInt8).toArray⟩ w (by decide) (by rw [hs]; omega) (by rw [hs]; omega) (by decide) (fun j b hb => ?_)).mono fun e w' hh => ?_, .int⟩
    · have : b = 0 ∨ b = 13 := by
        have := List.mem_of_getElem? hb
        simpa using this
      rcases this with rfl | rfl <;> decide
    · obtain ⟨rfl, rfl⟩ := hh
      exact ⟨rfl, ((Go.RowKit.Below.refl _ _).alloc (Nat.le_refl _) _).alloc (by simp) _⟩
theorem ixAny (s : List UInt8) : decide (Lib.indexAny s [0, 13] ≥ 0) = !noU s := by
  induction s with
  | nil => rfl
  | cons b l ih =>
    have hge := Lib.indexAny_ge [0, 13] l
    have hn : noU (b :: l) = ((b != 0 && b != 13) && noU l) := rfl
    have hc : ([0, 13] : List UInt8).contains b = !(b != 0 && b != 13) := by
      rw [Bool.eq_iff_iff]; simp
    rw [hn]
    unfold Lib.indexAny
    rw [hc]
    cases (b != 0 && b != 13) with
    | false => rfl
    | true =>
      simp only [Bool.not_true, Bool.true_and, Bool.false_eq_true, if_false]
      rw [← ih]
      by_cases h : Lib.indexAny l [0, 13] = -1
      · rw [h]; rfl
      · rw [if_neg (by simpa using h)]
        rw [decide_eq_true (by omega), decide_eq_true (by omega)]
instance fCA (s : List UInt8) : Fn BB 72 [.str s, .str [0, 13]] (s.length ≤ 1000000 ∧ dU s = true) (.bool (!noU s)) := by
  refine Fn.intro (N := 9) [0, 1, 4] [] Tryd.call72 Tryd.func72 rfl rfl (by kernel_rfl) (fun hpre => ?_)
  repeat' ((conv => whnf); first | (with_reducible rfl) | exact True.intro | (with_reducible exact absTF) | (with_reducible exact absFT) | intro _ | refine And.intro ?_ ?_ | refine Fin.mk ?_ | refine CallG.plain rfl ?_ ?_ | refine CallG.mk rfl ?_ ?_ | refine CallG.nwl rfl ?_ ?_ | refine CallG.nw ?_ ?_ | refine CallF.nwl rfl ?_ ?_ | refine CallF.nw ?_ ?_ | refine AppN.mk ?_ | (refine CallS.q ?_; (conv => whnf); first | refine CallG.plain rfl ?_ ?_ | refine CallG.mk rfl ?_ ?_) | (refine CallS.m ?_; (conv => whnf); refine CallM.mk rfl ?_ ?_) | (refine CallS.h ?_; (conv => whnf); refine CallM.mk rfl ?_ ?_) | (refine CallS.b ?_; (conv => whnf); refine CallM.mk rfl ?_ ?_) | (refine CallS.z ?_; (conv => whnf); refine CallM.mk rfl ?_ ?_))
  all_goals (try (conv => whnf))
  all_goals (try (exact Ob.mk (u8_bnd _)))
  all_goals (try (refine Ob.mk ?_; first | exact True.intro | assumption | omega | (try simp only [decide_eq_true_eq, decide_eq_false_iff_not, beq_iff_eq, beq_eq_false_iff_ne, bne_iff_ne, bne_eq_false_iff_eq, ne_eq, Bool.and_eq_true, Bool.or_eq_true, Bool.not_eq_true, Bool.not_eq_false, Bool.not_eq_true', Bool.not_eq_false', Int.toNat_natCast, Int.not_lt, Int.not_le, UInt8.ofNat_toNat, cast_eq] at *; omega)))
  all_goals (try ((show (_:Int) = _); omega))
  all_goals (try (show tupSV _ = _; with_unfolding_all rfl))
  all_goals (try ((show (_ : Nat) ≤ _); (simp <;> omega)))
  all_goals (try ((show (_ : Nat) ≤ _ ∧ (_ : Nat) ≤ _); (simp <;> omega)))
  all_goals (try ((show (_ : Int) ≤ _ ∧ (_ : Int) ≤ _ ∧ (_ : Int) ≤ _ ∧ (_ : Int) ≤ _); (simp <;> omega)))
  all_goals (exact ixAny s)
instance fVS (s : List UInt8) : Fn BB 71 [.str s] (s.length ≤ 1000000) (.bool (dU s)) := by
  refine Fn.liftB Tryd.call71 fun hp r β w vs hG m h => ?_
  obtain ⟨v1, vs1, rfl, h1, hl⟩ := h.uncons
  obtain rfl := hl.nil_inv
  cases h1
  have hs : (⟨s.toArray⟩ : ByteArray).size = s.length := by show s.toArray.size = _; simp
  have := Any.utf8_ValidString Tryd.lays196 ⟨s.toArray⟩ w (by rw [hs]; omega) (hG.tabs m.vis)
  rw [validD_eq] at this
  exact ⟨_, this, .bool⟩
instance fValid (s : List UInt8) : Fn BB 27 [.str s] (s.length ≤ 1000000) (.bool (vU s)) := by
  refine Fn.intro (N := 10) [0, 2] [] Tryd.call27 Tryd.func27 rfl rfl (by kernel_rfl) (fun hpre => ?_)
  have e := vU_split s
  repeat' ((conv => whnf); first | (with_reducible rfl) | exact True.intro | (with_reducible exact absTF) | (with_reducible exact absFT) | intro _ | refine And.intro ?_ ?_ | refine Fin.mk ?_ | refine CallG.plain rfl ?_ ?_ | refine CallG.mk rfl ?_ ?_ | refine CallG.nwl rfl ?_ ?_ | refine CallG.nw ?_ ?_ | refine CallF.nwl rfl ?_ ?_ | refine CallF.nw ?_ ?_ | refine AppN.mk ?_ | (refine CallS.q ?_; (conv => whnf); first | refine CallG.plain rfl ?_ ?_ | refine CallG.mk rfl ?_ ?_) | (refine CallS.m ?_; (conv => whnf); refine CallM.mk rfl ?_ ?_) | (refine CallS.h ?_; (conv => whnf); refine CallM.mk rfl ?_ ?_) | (refine CallS.b ?_; (conv => whnf); refine CallM.mk rfl ?_ ?_) | (refine CallS.z ?_; (conv => whnf); refine CallM.mk rfl ?_ ?_))
  all_goals (try (conv => whnf))
  all_goals (try (exact Ob.mk (u8_bnd _)))
  all_goals (try (refine Ob.mk ?_; first | exact True.intro | assumption | omega | (try simp only [decide_eq_true_eq, decide_eq_false_iff_not, beq_iff_eq, beq_eq_false_iff_ne, bne_iff_ne, bne_eq_false_iff_eq, ne_eq, Bool.and_eq_true, Bool.or_eq_true, Bool.not_eq_true, Bool.not_eq_false, Bool.not_eq_true', Bool.not_eq_false', Int.toNat_natCast, Int.not_lt, Int.not_le, UInt8.ofNat_toNat, cast_eq] at *; omega)))
  all_goals (try ((show (_:Int) = _); omega))
  all_goals (try (show tupSV _ = _; with_unfolding_all rfl))
  all_goals (try ((show (_ : Nat) ≤ _); (simp <;> omega)))
  all_goals (try ((show (_ : Nat) ≤ _ ∧ (_ : Nat) ≤ _); (simp <;> omega)))
  all_goals (try ((show (_ : Int) ≤ _ ∧ (_ : Int) ≤ _ ∧ (_ : Int) ≤ _ ∧ (_ : Int) ≤ _); (simp <;> omega)))
  · exact ⟨hpre, ‹_›⟩
  · rw [e, Bool.not_not]
instance fRC (s : List UInt8) : Fn BB 73 [.str s] (s.length ≤ 1000000 ∧ dU s = true) (.int .i64 (cU s)) := by
  refine Fn.liftB Tryd.call73 fun hp r β w vs hG m h => ?_
  obtain ⟨v1, vs1, rfl, h1, hl⟩ := h.uncons
  obtain rfl := hl.nil_inv
  cases h1
  have hs : (⟨s.toArray⟩ : ByteArray).size = s.length := by show s.toArray.size = _; simp
  refine ⟨_, (Tryd.utf8_RuneCountInString ⟨s.toArray⟩ w (by rw [hs]; omega)).mono fun e w' hh => ?_, .int⟩
  obtain ⟨rfl, pos, rfl⟩ := hh
  rw [runeCount_eq s hp.2]
  exact ⟨rfl, (Go.RowKit.Below.refl _ _).alloc (Nat.le_refl _) _⟩
instance fCount (s : List UInt8) : Fn BB 29 [.str s] (s.length ≤ 100000) (.int .i64 (cU (decU s))) := by
  refine Fn.intro (N := 7) [0, 2] [] Tryd.call29 Tryd.func29 rfl rfl (by kernel_rfl) (fun hpre => ?_)
  have hl := decU_len s
  have hd := dU_of _ (vU_decU s)
  repeat' ((conv => whnf); first | (with_reducible rfl) | exact True.intro | (with_reducible exact absTF) | (with_reducible exact absFT) | intro _ | refine And.intro ?_ ?_ | refine Fin.mk ?_ | refine CallG.plain rfl ?_ ?_ | refine CallG.mk rfl ?_ ?_ | refine CallG.nwl rfl ?_ ?_ | refine CallG.nw ?_ ?_ | refine CallF.nwl rfl ?_ ?_ | refine CallF.nw ?_ ?_ | refine AppN.mk ?_ | (refine CallS.q ?_; (conv => whnf); first | refine CallG.plain rfl ?_ ?_ | refine CallG.mk rfl ?_ ?_) | (refine CallS.m ?_; (conv => whnf); refine CallM.mk rfl ?_ ?_) | (refine CallS.h ?_; (conv => whnf); refine CallM.mk rfl ?_ ?_) | (refine CallS.b ?_; (conv => whnf); refine CallM.mk rfl ?_ ?_) | (refine CallS.z ?_; (conv => whnf); refine CallM.mk rfl ?_ ?_))
  all_goals (try (conv => whnf))
  all_goals (try (exact Ob.mk (u8_bnd _)))
  all_goals (try (refine Ob.mk ?_; first | exact True.intro | assumption | omega | (try simp only [decide_eq_true_eq, decide_eq_false_iff_not, beq_iff_eq, beq_eq_false_iff_ne, bne_iff_ne, bne_eq_false_iff_eq, ne_eq, Bool.and_eq_true, Bool.or_eq_true, Bool.not_eq_true, Bool.not_eq_false, Bool.not_eq_true', Bool.not_eq_false', Int.toNat_natCast, Int.not_lt, Int.not_le, UInt8.ofNat_toNat, cast_eq] at *; omega)))
  all_goals (try ((show (_:Int) = _); omega))
  all_goals (try (show tupSV _ = _; with_unfolding_all rfl))
  all_goals (try ((show (_ : Nat) ≤ _); (simp <;> omega)))
  all_goals (try ((show (_ : Nat) ≤ _ ∧ (_ : Nat) ≤ _); (simp <;> omega)))
  all_goals (try ((show (_ : Int) ≤ _ ∧ (_ : Int) ≤ _ ∧ (_ : Int) ≤ _ ∧ (_ : Int) ≤ _); (simp <;> omega)))
  all_goals (try exact ⟨by omega, hd⟩)
instance fRValid (s : List UInt8) : Fn BB 28 [.str s] (s.length ≤ 100000) (.bool (vU s)) := by
  refine Fn.intro (N := 8) [0, 2] [] Tryd.call28 Tryd.func28 rfl rfl (by kernel_rfl) (fun hpre => ?_)
  have e := decU_iff s
  repeat' ((conv => whnf); first | (with_reducible rfl) | exact True.intro | (with_reducible exact absTF) | (with_reducible exact absFT) | intro _ | refine And.intro ?_ ?_ | refine Fin.mk ?_ | refine CallG.plain rfl ?_ ?_ | refine CallG.mk rfl ?_ ?_ | refine CallG.nwl rfl ?_ ?_ | refine CallG.nw ?_ ?_ | refine CallF.nwl rfl ?_ ?_ | refine CallF.nw ?_ ?_ | refine AppN.mk ?_ | (refine CallS.q ?_; (conv => whnf); first | refine CallG.plain rfl ?_ ?_ | refine CallG.mk rfl ?_ ?_) | (refine CallS.m ?_; (conv => whnf); refine CallM.mk rfl ?_ ?_) | (refine CallS.h ?_; (conv => whnf); refine CallM.mk rfl ?_ ?_) | (refine CallS.b ?_; (conv => whnf); refine CallM.mk rfl ?_ ?_) | (refine CallS.z ?_; (conv => whnf); refine CallM.mk rfl ?_ ?_))
  all_goals (try (conv => whnf))
  all_goals (try (exact Ob.mk (u8_bnd _)))
  all_goals (try (refine Ob.mk ?_; first | exact True.intro | assumption | omega | (try simp only [decide_eq_true_eq, decide_eq_false_iff_not, beq_iff_eq, beq_eq_false_iff_ne, bne_iff_ne, bne_eq_false_iff_eq, ne_eq, Bool.and_eq_true, Bool.or_eq_true, Bool.not_eq_true, Bool.not_eq_false, Bool.not_eq_true', Bool.not_eq_false', Int.toNat_natCast, Int.not_lt, Int.not_le, UInt8.ofNat_toNat, cast_eq] at *; omega)))
  all_goals (try ((show (_:Int) = _); omega))
  all_goals (try (show tupSV _ = _; with_unfolding_all rfl))
  all_goals (try ((show (_ : Nat) ≤ _); (simp <;> omega)))
  all_goals (try ((show (_ : Nat) ≤ _ ∧ (_ : Nat) ≤ _); (simp <;> omega)))
  all_goals (try ((show (_ : Int) ≤ _ ∧ (_ : Int) ≤ _ ∧ (_ : Int) ≤ _ ∧ (_ : Int) ≤ _); (simp <;> omega)))
  rw [Bool.eq_iff_iff, beq_iff_eq, e]
end Go.Vc

namespace Go.Vc
open Go.Proofs
set_option linter.unusedVariables false
set_option maxRecDepth 10000
set_option linter.unusedSimpArgs false
set_option maxHeartbeats 8000000
theorem dU_step {t : List UInt8} {i : Nat} (hl : i < t.length) (hv : dU (t.drop i) = true) : t.drop i ≠ [] ∧ 1 ≤ cutU (t.drop i) ∧ i + cutU (t.drop i) ≤ t.length ∧ dU (t.drop (i + cutU (t.drop i))) = true ∧ cU (t.drop i) = 1 + cU (t.drop (i + cutU (t.drop i))) := by
  have hne : t.drop i ≠ [] := fun q => by have := congrArg List.length q; rw [List.length_drop] at this; simp at this; omega
  have hb := cutU_bnd _ hne
  rw [List.length_drop] at hb
  rw [dU_eq _ hne, Bool.and_eq_true, List.drop_drop] at hv
  exact ⟨hne, hb.1, by omega, hv.2, by rw [cU_eq _ hne, List.drop_drop]⟩
instance fRCount (s : List UInt8) : Fn BB 30 [.str s] (s.length ≤ 100000) (.int .i64 (cU (decU s))) := by
  refine Fn.intro (N := 29) [0, 2, 3, 4, 5, 6, 15] [(1000002, [1])] Tryd.call30 Tryd.func30 rfl rfl (by kernel_rfl) (fun hpre => ?_)
  have hl := decU_len s
  have hd := dU_of _ (vU_decU s)
  repeat' ((conv => whnf); first | (with_reducible rfl) | exact True.intro | (with_reducible exact absTF) | (with_reducible exact absFT) | intro _ | refine And.intro ?_ ?_ | refine Fin.mk ?_ | refine CallG.plain rfl ?_ ?_ | refine CallG.mk rfl ?_ ?_ | refine CallG.nwl rfl ?_ ?_ | refine CallG.nw ?_ ?_ | refine CallF.nwl rfl ?_ ?_ | refine CallF.nw ?_ ?_ | refine AppN.mk ?_ | (refine CallS.q ?_; (conv => whnf); first | refine CallG.plain rfl ?_ ?_ | refine CallG.mk rfl ?_ ?_) | (refine CallS.m ?_; (conv => whnf); refine CallM.mk rfl ?_ ?_) | (refine CallS.h ?_; (conv => whnf); refine CallM.mk rfl ?_ ?_) | (refine CallS.b ?_; (conv => whnf); refine CallM.mk rfl ?_ ?_) | (refine CallS.z ?_; (conv => whnf); refine CallM.mk rfl ?_ ?_))
  all_goals (try (conv => whnf))
  all_goals (try (exact Ob.mk (u8_bnd _)))
  all_goals (try (refine Ob.mk ?_; first | exact True.intro | assumption | omega | (try simp only [decide_eq_true_eq, decide_eq_false_iff_not, beq_iff_eq, beq_eq_false_iff_ne, bne_iff_ne, bne_eq_false_iff_eq, ne_eq, Bool.and_eq_true, Bool.or_eq_true, Bool.not_eq_true, Bool.not_eq_false, Bool.not_eq_true', Bool.not_eq_false', Int.toNat_natCast, Int.not_lt, Int.not_le, UInt8.ofNat_toNat, cast_eq] at *; omega)))
  all_goals (try ((show (_:Int) = _); omega))
  all_goals (try (show tupSV _ = _; with_unfolding_all rfl))
  all_goals (try ((show (_ : Nat) ≤ _); (simp <;> omega)))
  all_goals (try ((show (_ : Nat) ≤ _ ∧ (_ : Nat) ≤ _); (simp <;> omega)))
  all_goals (try ((show (_ : Int) ≤ _ ∧ (_ : Int) ≤ _ ∧ (_ : Int) ≤ _ ∧ (_ : Int) ≤ _); (simp <;> omega)))
  generalize decU s = t at *
  refine LoopStop.mk (α := Nat × Nat) (fun a => [(5, .int .i64 a.1), (4, .int .i64 a.2)]) (fun a => []) 20 (fun a => a.1 ≤ t.length ∧ dU (t.drop a.1) = true ∧ a.2 + cU (t.drop a.1) = cU t ∧ a.2 ≤ a.1) (fun a => t.length - a.1) (0, 0) ⟨by simp, by simpa using hd, by simp, by simp⟩ ?_ (fun a ha => ?_)
  · repeat' ((conv => whnf); first | (with_reducible rfl) | exact True.intro | (with_reducible exact absTF) | (with_reducible exact absFT) | intro _ | refine And.intro ?_ ?_ | refine Fin.mk ?_ | refine CallG.plain rfl ?_ ?_ | refine CallG.mk rfl ?_ ?_ | refine CallG.nwl rfl ?_ ?_ | refine CallG.nw ?_ ?_ | refine CallF.nwl rfl ?_ ?_ | refine CallF.nw ?_ ?_ | refine AppN.mk ?_ | (refine CallS.q ?_; (conv => whnf); first | refine CallG.plain rfl ?_ ?_ | refine CallG.mk rfl ?_ ?_) | (refine CallS.m ?_; (conv => whnf); refine CallM.mk rfl ?_ ?_) | (refine CallS.h ?_; (conv => whnf); refine CallM.mk rfl ?_ ?_) | (refine CallS.b ?_; (conv => whnf); refine CallM.mk rfl ?_ ?_) | (refine CallS.z ?_; (conv => whnf); refine CallM.mk rfl ?_ ?_))
    all_goals (try (conv => whnf))
    all_goals (try (exact Ob.mk (u8_bnd _)))
    all_goals (try (refine Ob.mk ?_; first | exact True.intro | assumption | omega | (try simp only [decide_eq_true_eq, decide_eq_false_iff_not, beq_iff_eq, beq_eq_false_iff_ne, bne_iff_ne, bne_eq_false_iff_eq, ne_eq, Bool.and_eq_true, Bool.or_eq_true, Bool.not_eq_true, Bool.not_eq_false, Bool.not_eq_true', Bool.not_eq_false', Int.toNat_natCast, Int.not_lt, Int.not_le, UInt8.ofNat_toNat, cast_eq] at *; omega)))
    all_goals (try ((show (_:Int) = _); omega))
    all_goals (try (show tupSV _ = _; with_unfolding_all rfl))
    all_goals (try ((show (_ : Nat) ≤ _); (simp <;> omega)))
    all_goals (try ((show (_ : Nat) ≤ _ ∧ (_ : Nat) ≤ _); (simp <;> omega)))
    all_goals (try ((show (_ : Int) ≤ _ ∧ (_ : Int) ≤ _ ∧ (_ : Int) ≤ _ ∧ (_ : Int) ≤ _); (simp <;> omega)))
    all_goals rfl
  · obtain ⟨i, k⟩ := a
    obtain ⟨h1, h2, h3, h4⟩ := ha
    have h1 : i ≤ t.length := h1
    have h2 : dU (t.drop i) = true := h2
    have h3 : k + cU (t.drop i) = cU t := h3
    have h4 : k ≤ i := h4
    rcases Nat.lt_or_ge i t.length with hi | hi
    · obtain ⟨c1, c2, c3, c4, c5⟩ := dU_step hi h2
      have hld : (t.drop i).length ≤ 1000000 := by rw [List.length_drop]; omega
      repeat' ((conv => whnf); first | (with_reducible rfl) | exact True.intro | (with_reducible exact absTF) | (with_reducible exact absFT) | intro _ | refine And.intro ?_ ?_ | refine Fin.mk ?_ | refine CallG.plain rfl ?_ ?_ | refine CallG.mk rfl ?_ ?_ | refine CallG.nwl rfl ?_ ?_ | refine CallG.nw ?_ ?_ | refine CallF.nwl rfl ?_ ?_ | refine CallF.nw ?_ ?_ | refine AppN.mk ?_ | (refine CallS.q ?_; (conv => whnf); first | refine CallG.plain rfl ?_ ?_ | refine CallG.mk rfl ?_ ?_) | (refine CallS.m ?_; (conv => whnf); refine CallM.mk rfl ?_ ?_) | (refine CallS.h ?_; (conv => whnf); refine CallM.mk rfl ?_ ?_) | (refine CallS.b ?_; (conv => whnf); refine CallM.mk rfl ?_ ?_) | (refine CallS.z ?_; (conv => whnf); refine CallM.mk rfl ?_ ?_))
      all_goals (try (conv => whnf))
      all_goals (try (exact Ob.mk (u8_bnd _)))
      all_goals (try (refine Ob.mk ?_; first | exact True.intro | assumption | omega | (try simp only [decide_eq_true_eq, decide_eq_false_iff_not, beq_iff_eq, beq_eq_false_iff_ne, bne_iff_ne, bne_eq_false_iff_eq, ne_eq, Bool.and_eq_true, Bool.or_eq_true, Bool.not_eq_true, Bool.not_eq_false, Bool.not_eq_true', Bool.not_eq_false', Int.toNat_natCast, Int.not_lt, Int.not_le, UInt8.ofNat_toNat, cast_eq] at *; omega)))
      all_goals (try ((show (_:Int) = _); omega))
      all_goals (try (show tupSV _ = _; with_unfolding_all rfl))
      all_goals (try ((show (_ : Nat) ≤ _); (simp <;> omega)))
      all_goals (try ((show (_ : Nat) ≤ _ ∧ (_ : Nat) ≤ _); (simp <;> omega)))
      all_goals (try ((show (_ : Int) ≤ _ ∧ (_ : Int) ≤ _ ∧ (_ : Int) ≤ _ ∧ (_ : Int) ≤ _); (simp <;> omega)))
      all_goals (try simp only [Int.toNat_natCast] at *)
      all_goals (try (exfalso; have := of_decide_eq_false ‹decide ((i : Int) < (t.length : Int)) = false›; omega))
      all_goals (try exact ⟨c1, hld⟩)
      all_goals (try (first | omega | (constructor <;> omega)))
      refine Rnd.mk ⟨(i + cutU (t.drop i), k + 1), ⟨c3, c4, by show k + 1 + cU (t.drop (i + cutU (t.drop i))) = cU t; omega, by show k + 1 ≤ i + _; omega⟩, by show t.length - (i + _) < t.length - i; omega, ?_⟩
      repeat' ((conv => whnf); first | (with_reducible rfl) | exact True.intro | (with_reducible exact absTF) | (with_reducible exact absFT) | intro _ | refine And.intro ?_ ?_ | refine Fin.mk ?_ | refine CallG.plain rfl ?_ ?_ | refine CallG.mk rfl ?_ ?_ | refine CallG.nwl rfl ?_ ?_ | refine CallG.nw ?_ ?_ | refine CallF.nwl rfl ?_ ?_ | refine CallF.nw ?_ ?_ | refine AppN.mk ?_ | (refine CallS.q ?_; (conv => whnf); first | refine CallG.plain rfl ?_ ?_ | refine CallG.mk rfl ?_ ?_) | (refine CallS.m ?_; (conv => whnf); refine CallM.mk rfl ?_ ?_) | (refine CallS.h ?_; (conv => whnf); refine CallM.mk rfl ?_ ?_) | (refine CallS.b ?_; (conv => whnf); refine CallM.mk rfl ?_ ?_) | (refine CallS.z ?_; (conv => whnf); refine CallM.mk rfl ?_ ?_))
      all_goals (try (conv => whnf))
      all_goals (try (exact Ob.mk (u8_bnd _)))
      all_goals (try (refine Ob.mk ?_; first | exact True.intro | assumption | omega | (try simp only [decide_eq_true_eq, decide_eq_false_iff_not, beq_iff_eq, beq_eq_false_iff_ne, bne_iff_ne, bne_eq_false_iff_eq, ne_eq, Bool.and_eq_true, Bool.or_eq_true, Bool.not_eq_true, Bool.not_eq_false, Bool.not_eq_true', Bool.not_eq_false', Int.toNat_natCast, Int.not_lt, Int.not_le, UInt8.ofNat_toNat, cast_eq] at *; omega)))
      all_goals (try ((show (_:Int) = _); omega))
      all_goals (try (show tupSV _ = _; with_unfolding_all rfl))
      all_goals (try ((show (_ : Nat) ≤ _); (simp <;> omega)))
      all_goals (try ((show (_ : Nat) ≤ _ ∧ (_ : Nat) ≤ _); (simp <;> omega)))
      all_goals (try ((show (_ : Int) ≤ _ ∧ (_ : Int) ≤ _ ∧ (_ : Int) ≤ _ ∧ (_ : Int) ≤ _); (simp <;> omega)))
      all_goals rfl
    · have hd : t.drop i = [] := List.drop_eq_nil_of_le (by omega)
      rw [hd, cU_nil] at h3
      repeat' ((conv => whnf); first | (with_reducible rfl) | exact True.intro | (with_reducible exact absTF) | (with_reducible exact absFT) | intro _ | refine And.intro ?_ ?_ | refine Fin.mk ?_ | refine CallG.plain rfl ?_ ?_ | refine CallG.mk rfl ?_ ?_ | refine CallG.nwl rfl ?_ ?_ | refine CallG.nw ?_ ?_ | refine CallF.nwl rfl ?_ ?_ | refine CallF.nw ?_ ?_ | refine AppN.mk ?_ | (refine CallS.q ?_; (conv => whnf); first | refine CallG.plain rfl ?_ ?_ | refine CallG.mk rfl ?_ ?_) | (refine CallS.m ?_; (conv => whnf); refine CallM.mk rfl ?_ ?_) | (refine CallS.h ?_; (conv => whnf); refine CallM.mk rfl ?_ ?_) | (refine CallS.b ?_; (conv => whnf); refine CallM.mk rfl ?_ ?_) | (refine CallS.z ?_; (conv => whnf); refine CallM.mk rfl ?_ ?_))
      all_goals (try (conv => whnf))
      all_goals (try (exact Ob.mk (u8_bnd _)))
      all_goals (try (refine Ob.mk ?_; first | exact True.intro | assumption | omega | (try simp only [decide_eq_true_eq, decide_eq_false_iff_not, beq_iff_eq, beq_eq_false_iff_ne, bne_iff_ne, bne_eq_false_iff_eq, ne_eq, Bool.and_eq_true, Bool.or_eq_true, Bool.not_eq_true, Bool.not_eq_false, Bool.not_eq_true', Bool.not_eq_false', Int.toNat_natCast, Int.not_lt, Int.not_le, UInt8.ofNat_toNat, cast_eq] at *; omega)))
      all_goals (try ((show (_:Int) = _); omega))
      all_goals (try (show tupSV _ = _; with_unfolding_all rfl))
      all_goals (try ((show (_ : Nat) ≤ _); (simp <;> omega)))
      all_goals (try ((show (_ : Nat) ≤ _ ∧ (_ : Nat) ≤ _); (simp <;> omega)))
      all_goals (try ((show (_ : Int) ≤ _ ∧ (_ : Int) ≤ _ ∧ (_ : Int) ≤ _ ∧ (_ : Int) ≤ _); (simp <;> omega)))
      all_goals (try (exfalso; have := of_decide_eq_true ‹decide ((i : Int) < (t.length : Int)) = true›; omega))
      all_goals (try omega)
def decUF : Nat → List UInt8 → List UInt8
  | 0, _ => []
  | n + 1, l => if l = [] then [] else chrU l ++ decUF n (l.drop (stepU l))
theorem decUF_eq (n : Nat) (l : List UInt8) (h : l.length ≤ n) : decU l = decUF n l := by
  induction n generalizing l with
  | zero => rw [List.length_eq_zero_iff.1 (by omega : l.length = 0), decU_nil]; rfl
  | succ n ih =>
    unfold decUF
    by_cases h0 : l = []
    · subst h0; rw [if_pos rfl, decU_nil]
    · have := drop_lt h0 (stepU_bnd l h0).1
      rw [if_neg h0, decU_eq l h0, ih _ (by omega)]
theorem aw1 : decU [226, 130, 97, 13, 10, 0] = [239, 191, 189, 97, 10, 239, 191, 189] := by rw [decUF_eq 6 _ (by decide)]; decide
theorem aw2 : vU [195, 164] = true := by rw [vU_eq _ (by decide), show List.drop (cutU [195, 164]) [195, 164] = ([] : List UInt8) by decide, vU_nil]; decide
theorem aw3 : vU [13] = false := by rw [vU_eq _ (by decide)]; rfl
theorem aw4 : decU [195, 164, 98] = [195, 164, 98] := by rw [decUF_eq 3 _ (by decide)]; decide
theorem aw5 : cU [195, 164, 98] = 2 := by
  rw [cU_eq _ (by decide), show List.drop (cutU [195, 164, 98]) [195, 164, 98] = ([98] : List UInt8) by decide, cU_eq _ (by decide), show List.drop (cutU [98]) [98] = ([] : List UInt8) by decide, cU_nil]
instance fAwk : Fn BB 24 [] True (.bool true) := by
  refine Fn.intro (N := 23) [0] [] Tryd.call24 Tryd.func24 rfl rfl (by kernel_rfl) (fun hpre => ?_)
  repeat' ((conv => whnf); first | (with_reducible rfl) | exact True.intro | (with_reducible exact absTF) | (with_reducible exact absFT) | intro _ | refine And.intro ?_ ?_ | refine Fin.mk ?_ | refine CallG.plain rfl ?_ ?_ | refine CallG.mk rfl ?_ ?_ | refine CallG.nwl rfl ?_ ?_ | refine CallG.nw ?_ ?_ | refine CallF.nwl rfl ?_ ?_ | refine CallF.nw ?_ ?_ | refine AppN.mk ?_ | (refine CallS.q ?_; (conv => whnf); first | refine CallG.plain rfl ?_ ?_ | refine CallG.mk rfl ?_ ?_) | (refine CallS.m ?_; (conv => whnf); refine CallM.mk rfl ?_ ?_) | (refine CallS.h ?_; (conv => whnf); refine CallM.mk rfl ?_ ?_) | (refine CallS.b ?_; (conv => whnf); refine CallM.mk rfl ?_ ?_) | (refine CallS.z ?_; (conv => whnf); refine CallM.mk rfl ?_ ?_))
  all_goals (try (conv => whnf))
  all_goals (try (exact Ob.mk (u8_bnd _)))
  all_goals (try (refine Ob.mk ?_; first | exact True.intro | assumption | omega | (try simp only [decide_eq_true_eq, decide_eq_false_iff_not, beq_iff_eq, beq_eq_false_iff_ne, bne_iff_ne, bne_eq_false_iff_eq, ne_eq, Bool.and_eq_true, Bool.or_eq_true, Bool.not_eq_true, Bool.not_eq_false, Bool.not_eq_true', Bool.not_eq_false', Int.toNat_natCast, Int.not_lt, Int.not_le, UInt8.ofNat_toNat, cast_eq] at *; omega)))
  all_goals (try ((show (_:Int) = _); omega))
  all_goals (try (show tupSV _ = _; with_unfolding_all rfl))
  all_goals (try ((show (_ : Nat) ≤ _); (simp <;> omega)))
  all_goals (try ((show (_ : Nat) ≤ _ ∧ (_ : Nat) ≤ _); (simp <;> omega)))
  all_goals (try ((show (_ : Int) ≤ _ ∧ (_ : Int) ≤ _ ∧ (_ : Int) ≤ _ ∧ (_ : Int) ≤ _); (simp <;> omega)))
  all_goals (
    show (decU [226, 130, 97, 13, 10, 0] == _ && _ && _ && _ && _ && _) = true
    rw [aw1, aw2, aw3, aw4, aw5]
    decide)
end Go.Vc

namespace Go.Vc
set_option linter.unusedVariables false
theorem ub (n : Nat) (h : n < 256) : (UInt8.ofNat n).toNat = n := by rw [UInt8.toNat_ofNat']; omega
theorem mk2 (a b : Nat) (h1 : 194 ≤ a ∧ a ≤ 223) (h2 : 128 ≤ b ∧ b ≤ 191) : IsChr [UInt8.ofNat a, UInt8.ofNat b] := by
  have ea := ub a (by omega)
  have eb := ub b (by omega)
  obtain ⟨_, m1, _, _, _, _, l3, _, _, g3⟩ := mU_facts a
  refine ⟨by simp, ?_, ?_, fun j j1 j2 => ?_⟩
  · show 2 = mU (UInt8.ofNat a).toNat + 1; rw [ea, m1 h1]
  · right; show 1 ≤ mU (UInt8.ofNat a).toNat; rw [ea, m1 h1]; exact Nat.le_refl _
  · simp only [List.length_cons, List.length_nil] at j2
    obtain rfl : j = 1 := by omega
    unfold okW
    rw [loW1, hiW1]
    show loU (UInt8.ofNat a).toNat ≤ (UInt8.ofNat b).toNat ∧ (UInt8.ofNat b).toNat ≤ hiU (UInt8.ofNat a).toNat
    rw [ea, eb, l3 (by omega), g3 (by omega)]; exact h2
theorem mk3 (a b c : Nat) (h1 : 224 ≤ a ∧ a ≤ 239) (h2 : 128 ≤ b ∧ b ≤ 191) (h3 : 128 ≤ c ∧ c ≤ 191) (h4 : a = 224 → 160 ≤ b) (h5 : a = 237 → b ≤ 159) : IsChr [UInt8.ofNat a, UInt8.ofNat b, UInt8.ofNat c] := by
  have ea := ub a (by omega)
  have eb := ub b (by omega)
  have ec := ub c (by omega)
  obtain ⟨_, _, m2, _, l1, _, l3, g1, _, g3⟩ := mU_facts a
  refine ⟨by simp, ?_, ?_, fun j j1 j2 => ?_⟩
  · show 3 = mU (UInt8.ofNat a).toNat + 1; rw [ea, m2 h1]
  · right; show 1 ≤ mU (UInt8.ofNat a).toNat; rw [ea, m2 h1]; omega
  · simp only [List.length_cons, List.length_nil] at j2
    have hj : j = 1 ∨ j = 2 := by omega
    rcases hj with rfl | rfl
    · unfold okW
      rw [loW1, hiW1]
      show loU (UInt8.ofNat a).toNat ≤ (UInt8.ofNat b).toNat ∧ (UInt8.ofNat b).toNat ≤ hiU (UInt8.ofNat a).toNat
      rw [ea, eb]
      constructor
      · by_cases q : a = 224
        · rw [l1 q]; exact h4 q
        · rw [l3 (by omega)]; exact h2.1
      · by_cases q : a = 237
        · rw [g1 q]; exact h5 q
        · rw [g3 (by omega)]; exact h2.2
    · show loW _ (1 + 1) ≤ (UInt8.ofNat c).toNat ∧ (UInt8.ofNat c).toNat ≤ hiW _ (1 + 1)
      rw [loW2 _ _ (by omega), hiW2 _ _ (by omega), ec]; exact h3
theorem mk4 (a b c d : Nat) (h1 : 240 ≤ a ∧ a ≤ 244) (h2 : 128 ≤ b ∧ b ≤ 191) (h3 : 128 ≤ c ∧ c ≤ 191) (h6 : 128 ≤ d ∧ d ≤ 191) (h4 : a = 240 → 144 ≤ b) (h5 : a = 244 → b ≤ 143) : IsChr [UInt8.ofNat a, UInt8.ofNat b, UInt8.ofNat c, UInt8.ofNat d] := by
  have ea := ub a (by omega)
  have eb := ub b (by omega)
  have ec := ub c (by omega)
  have ed := ub d (by omega)
  obtain ⟨_, _, _, m3, _, l2, l3, _, g2, g3⟩ := mU_facts a
  refine ⟨by simp, ?_, ?_, fun j j1 j2 => ?_⟩
  · show 4 = mU (UInt8.ofNat a).toNat + 1; rw [ea, m3 h1]
  · right; show 1 ≤ mU (UInt8.ofNat a).toNat; rw [ea, m3 h1]; omega
  · simp only [List.length_cons, List.length_nil] at j2
    have hj : j = 1 ∨ j = 2 ∨ j = 3 := by omega
    rcases hj with rfl | rfl | rfl
    · unfold okW
      rw [loW1, hiW1]
      show loU (UInt8.ofNat a).toNat ≤ (UInt8.ofNat b).toNat ∧ (UInt8.ofNat b).toNat ≤ hiU (UInt8.ofNat a).toNat
      rw [ea, eb]
      constructor
      · by_cases q : a = 240
        · rw [l2 q]; exact h4 q
        · rw [l3 (by omega)]; exact h2.1
      · by_cases q : a = 244
        · rw [g2 q]; exact h5 q
        · rw [g3 (by omega)]; exact h2.2
    · show loW _ (1 + 1) ≤ (UInt8.ofNat c).toNat ∧ (UInt8.ofNat c).toNat ≤ hiW _ (1 + 1)
      rw [loW2 _ _ (by omega), hiW2 _ _ (by omega), ec]; exact h3
    · show loW _ (2 + 1) ≤ (UInt8.ofNat d).toNat ∧ (UInt8.ofNat d).toNat ≤ hiW _ (2 + 1)
      rw [loW2 _ _ (by omega), hiW2 _ _ (by omega), ed]; exact h6
set_option maxRecDepth 1000000 in
theorem enc_chr (n : Int) : IsChr (encN n) ∧ (n ≠ 0 → (encN n).getD 0 0 ≠ 0) ∧ (n ≠ 13 → (encN n).getD 0 0 ≠ 13) := by
  unfold encN
  obtain ⟨c, hc⟩ : ∃ c, (if n < 0 ∨ n > 1114111 ∨ (55296 ≤ n ∧ n ≤ 57343) then (65533 : Int) else n) = c := ⟨_, rfl⟩
  have hr : (0 ≤ c ∧ c < 55296 ∨ 57344 ≤ c ∧ c ≤ 1114111) ∧ (c = n ∨ c = 65533) := by split at hc <;> omega
  rw [hc]
  clear hc
  obtain ⟨k, rfl⟩ := Int.eq_ofNat_of_zero_le (by omega : 0 ≤ c)
  have hv : Utf8.valid (k : Int) = true := by unfold Utf8.valid; simp; omega
  unfold Utf8.encode
  rw [if_pos hv]
  dsimp only
  rw [Int.toNat_natCast]
  have nz : ∀ (a : Nat) (l : List UInt8), a < 256 → (a ≠ 0 → (UInt8.ofNat a :: l).getD 0 0 ≠ 0) ∧ (a ≠ 13 → (UInt8.ofNat a :: l).getD 0 0 ≠ 13) := fun a l ha => by
    refine ⟨fun q e => q ?_, fun q e => q ?_⟩
    · have e : UInt8.ofNat a = 0 := e
      have := congrArg UInt8.toNat e; rw [ub a ha] at this; exact this
    · have e : UInt8.ofNat a = 13 := e
      have := congrArg UInt8.toNat e; rw [ub a ha] at this; exact this
  split
  · refine ⟨⟨by simp, ?_, ?_, fun j j1 j2 => by simp at j2; omega⟩, fun q => (nz k _ (by omega)).1 (by omega), fun q => (nz k _ (by omega)).2 (by omega)⟩
    · show 1 = mU (UInt8.ofNat k).toNat + 1; rw [ub k (by omega), mU_small (by omega)]
    · left; show (UInt8.ofNat k).toNat < 128; rw [ub k (by omega)]; omega
  · split
    · exact ⟨mk2 _ _ (by omega) (by omega), fun q => (nz _ _ (by omega)).1 (by omega), fun q => (nz _ _ (by omega)).2 (by omega)⟩
    · split
      · exact ⟨mk3 _ _ _ (by omega) (by omega) (by omega) (by omega) (by omega), fun q => (nz _ _ (by omega)).1 (by omega), fun q => (nz _ _ (by omega)).2 (by omega)⟩
      · exact ⟨mk4 _ _ _ _ (by omega) (by omega) (by omega) (by omega) (by omega) (by omega), fun q => (nz _ _ (by omega)).1 (by omega), fun q => (nz _ _ (by omega)).2 (by omega)⟩
end Go.Vc

namespace Go.Vc
open Go.Proofs
set_option linter.unusedVariables false
set_option maxRecDepth 10000
set_option linter.unusedSimpArgs false
set_option maxHeartbeats 8000000
theorem one_chr {c : List UInt8} (h : IsChr c) : cU (decU c) = 1 := by
  obtain ⟨a1, a2⟩ := chr_app h []
  rw [List.append_nil] at a1 a2
  have hb := stepU_bnd c h.ne
  have hs : c.drop (stepU c) = [] := by
    refine List.drop_eq_nil_of_le ?_
    unfold stepU; split
    · rename_i q
      have hh := h.len
      rw [q.2.1] at hh
      have : mU (13 : UInt8).toNat = 0 := by decide
      omega
    · omega
  rw [decU_eq c h.ne, hs, decU_nil, cU_app (chr_chrU c h.ne).1, cU_nil]
theorem one_v {c : List UInt8} (h : IsChr c) (h0 : c.getD 0 0 ≠ 0) (h1 : c.getD 0 0 ≠ 13) : vU c = true := by
  have := vU_app h h0 h1 []
  rwa [List.append_nil, vU_nil] at this
instance fEncodes (n : Int) : Fn BB 6 [.int .i64 n] True (.bool true) := by
  refine Fn.intro (N := 30) [0, 2, 3] [] Tryd.call6 Tryd.func6 rfl rfl (by kernel_rfl) (fun hpre => ?_)
  obtain ⟨e1, e2, e3⟩ := enc_chr n
  have e4 := one_chr e1
  have hl := encN_len n
  have e5 : n ≠ 0 → n ≠ 13 → vU (encN n) = true := fun a b => one_v e1 (e2 a) (e3 b)
  repeat' ((conv => whnf); first | (with_reducible rfl) | exact True.intro | (with_reducible exact absTF) | (with_reducible exact absFT) | intro _ | refine And.intro ?_ ?_ | refine Fin.mk ?_ | refine CallG.plain rfl ?_ ?_ | refine CallG.mk rfl ?_ ?_ | refine CallG.nwl rfl ?_ ?_ | refine CallG.nw ?_ ?_ | refine CallF.nwl rfl ?_ ?_ | refine CallF.nw ?_ ?_ | refine AppN.mk ?_ | (refine CallS.q ?_; (conv => whnf); first | refine CallG.plain rfl ?_ ?_ | refine CallG.mk rfl ?_ ?_) | (refine CallS.m ?_; (conv => whnf); refine CallM.mk rfl ?_ ?_) | (refine CallS.h ?_; (conv => whnf); refine CallM.mk rfl ?_ ?_) | (refine CallS.b ?_; (conv => whnf); refine CallM.mk rfl ?_ ?_) | (refine CallS.z ?_; (conv => whnf); refine CallM.mk rfl ?_ ?_))
  all_goals (try (conv => whnf))
  all_goals (try (exact Ob.mk (u8_bnd _)))
  all_goals (try (refine Ob.mk ?_; first | exact True.intro | assumption | omega | (try simp only [decide_eq_true_eq, decide_eq_false_iff_not, beq_iff_eq, beq_eq_false_iff_ne, bne_iff_ne, bne_eq_false_iff_eq, ne_eq, Bool.and_eq_true, Bool.or_eq_true, Bool.not_eq_true, Bool.not_eq_false, Bool.not_eq_true', Bool.not_eq_false', Int.toNat_natCast, Int.not_lt, Int.not_le, UInt8.ofNat_toNat, cast_eq] at *; omega)))
  all_goals (try ((show (_:Int) = _); omega))
  all_goals (try (show tupSV _ = _; with_unfolding_all rfl))
  all_goals (try ((show (_ : Nat) ≤ _); (simp <;> omega)))
  all_goals (try ((show (_ : Nat) ≤ _ ∧ (_ : Nat) ≤ _); (simp <;> omega)))
  all_goals (try ((show (_ : Int) ≤ _ ∧ (_ : Int) ≤ _ ∧ (_ : Int) ≤ _ ∧ (_ : Int) ≤ _); (simp <;> omega)))
  rw [e4]
  by_cases h0 : n = 0
  · subst h0; simp
  · by_cases h1 : n = 13
    · subst h1; simp
    · rw [e5 h0 h1]; simp
instance fDecodes (l : List UInt8) : Fn BB 5 [.rd .byte l] True (.bool true) := by
  refine Fn.intro (N := 32) [0, 2, 3, 6] [] Tryd.call5 Tryd.func5 rfl rfl (by kernel_rfl) (fun hpre => ?_)
  repeat' ((conv => whnf); first | (with_reducible rfl) | exact True.intro | (with_reducible exact absTF) | (with_reducible exact absFT) | intro _ | refine And.intro ?_ ?_ | refine Fin.mk ?_ | refine CallG.plain rfl ?_ ?_ | refine CallG.mk rfl ?_ ?_ | refine CallG.nwl rfl ?_ ?_ | refine CallG.nw ?_ ?_ | refine CallF.nwl rfl ?_ ?_ | refine CallF.nw ?_ ?_ | refine AppN.mk ?_ | (refine CallS.q ?_; (conv => whnf); first | refine CallG.plain rfl ?_ ?_ | refine CallG.mk rfl ?_ ?_) | (refine CallS.m ?_; (conv => whnf); refine CallM.mk rfl ?_ ?_) | (refine CallS.h ?_; (conv => whnf); refine CallM.mk rfl ?_ ?_) | (refine CallS.b ?_; (conv => whnf); refine CallM.mk rfl ?_ ?_) | (refine CallS.z ?_; (conv => whnf); refine CallM.mk rfl ?_ ?_))
  all_goals (try (conv => whnf))
  all_goals (try (exact Ob.mk (u8_bnd _)))
  all_goals (try (refine Ob.mk ?_; first | exact True.intro | assumption | omega | (try simp only [decide_eq_true_eq, decide_eq_false_iff_not, beq_iff_eq, beq_eq_false_iff_ne, bne_iff_ne, bne_eq_false_iff_eq, ne_eq, Bool.and_eq_true, Bool.or_eq_true, Bool.not_eq_true, Bool.not_eq_false, Bool.not_eq_true', Bool.not_eq_false', Int.toNat_natCast, Int.not_lt, Int.not_le, UInt8.ofNat_toNat, cast_eq] at *; omega)))
  all_goals (try ((show (_:Int) = _); omega))
  all_goals (try (show tupSV _ = _; with_unfolding_all rfl))
  all_goals (try ((show (_ : Nat) ≤ _); (simp <;> omega)))
  all_goals (try ((show (_ : Nat) ≤ _ ∧ (_ : Nat) ≤ _); (simp <;> omega)))
  all_goals (try ((show (_ : Int) ≤ _ ∧ (_ : Int) ≤ _ ∧ (_ : Int) ≤ _ ∧ (_ : Int) ≤ _); (simp <;> omega)))
  all_goals (try simp only [decide_eq_true_eq, decide_eq_false_iff_not, beq_iff_eq, beq_eq_false_iff_ne, bne_iff_ne, bne_eq_false_iff_eq, ne_eq, Bool.and_eq_true, Bool.or_eq_true, Bool.and_eq_false_iff, Bool.or_eq_false_iff, Bool.not_eq_true, Bool.not_eq_false, Bool.not_eq_true', Bool.not_eq_false', Int.toNat_natCast, Int.not_lt, Int.not_le, ge_iff_le, gt_iff_lt, UInt8.ofNat_toNat, cast_eq] at *)
  all_goals (exact ⟨⟨⟨trivial, trivial⟩, trivial⟩, trivial⟩)
end Go.Vc

namespace Go.Proofs
open Go.Shelf
def Tryd.lays230_ren : Go.Shelf.Ren := ⟨fun | 230 => 36 | 197 => 79 | 118 => 80 | 165 => 81 | 166 => 66 | 168 => 82 | 270 => 83 | 167 => 67 | 169 => 69 | 260 => 114 | 240 => 104 | 241 => 115 | 242 => 116 | 276 => 130 | 277 => 137 | 278 => 138 | n => n, fun | 107 => 43 | 9 => 9 | 72 => 76 | 0 => 0 | 4 => 4 | 3 => 3 | 21 => 21 | 105 => 77 | 76 => 82 | 5 => 5 | 75 => 81 | 70 => 74 | 20 => 20 | 37 => 32 | 127 => 108 | 119 => 110 | 46 => 114 | 139 => 113 | 138 => 112 | 164 => 127 | 51 => 138 | 80 => 86 | n => n, fun | 3 => 0 | 4 => 1 | n => n⟩
theorem Tryd.lays230 : Go.Proofs.Lays.n230 Tryd.prog Tryd.lays230_ren := {
  mixed := by kernel_rfl
  f118 := Tryd.func80.trans (congrArg some (by kernel_rfl))
  f165 := Tryd.func81.trans (congrArg some (by kernel_rfl))
  f166 := Tryd.func66.trans (congrArg some (by kernel_rfl))
  f167 := Tryd.func67.trans (congrArg some (by kernel_rfl))
  f168 := Tryd.func82.trans (congrArg some (by kernel_rfl))
  f169 := Tryd.func69.trans (congrArg some (by kernel_rfl))
  f197 := Tryd.func79.trans (congrArg some (by kernel_rfl))
  f230 := Tryd.func36.trans (congrArg some (by kernel_rfl))
  f240 := Tryd.func104.trans (congrArg some (by kernel_rfl))
  f241 := Tryd.func115.trans (congrArg some (by kernel_rfl))
  f242 := Tryd.func116.trans (congrArg some (by kernel_rfl))
  f260 := Tryd.func114.trans (congrArg some (by kernel_rfl))
  f270 := Tryd.func83.trans (congrArg some (by kernel_rfl))
  f276 := Tryd.func130.trans (congrArg some (by kernel_rfl))
  f277 := Tryd.func137.trans (congrArg some (by kernel_rfl))
  f278 := Tryd.func138.trans (congrArg some (by kernel_rfl))
  t0 := Tryd.underlying0
  a0 := Tryd.isAgg0
  z0 := Tryd.sizeOf0
  v0 := Tryd.zeroValue0
  t3 := Tryd.underlying3
  a3 := Tryd.isAgg3
  z3 := Tryd.sizeOf3
  v3 := Tryd.zeroValue3
  t4 := Tryd.underlying4
  a4 := Tryd.isAgg4
  z4 := Tryd.sizeOf4
  v4 := Tryd.zeroValue4
  t5 := Tryd.underlying5
  a5 := Tryd.isAgg5
  z5 := Tryd.sizeOf5
  v5 := Tryd.zeroValue5
  t9 := Tryd.underlying9
  a9 := Tryd.isAgg9
  z9 := Tryd.sizeOf9
  v9 := Tryd.zeroValue9
  t20 := Tryd.underlying20
  a20 := Tryd.isAgg20
  z20 := Tryd.sizeOf20
  v20 := Tryd.zeroValue20
  t21 := Tryd.underlying21
  a21 := Tryd.isAgg21
  z21 := Tryd.sizeOf21
  v21 := Tryd.zeroValue21
  t37 := Tryd.underlying32
  a37 := Tryd.isAgg32
  z37 := Tryd.sizeOf32
  v37 := Tryd.zeroValue32
  t46 := Tryd.underlying114
  a46 := Tryd.isAgg114
  z46 := Tryd.sizeOf114
  v46 := Tryd.zeroValue114
  t51 := Tryd.underlying138
  a51 := Tryd.isAgg138
  z51 := Tryd.sizeOf138
  v51 := Tryd.zeroValue138
  t70 := Tryd.underlying74
  a70 := Tryd.isAgg74
  z70 := Tryd.sizeOf74
  v70 := Tryd.zeroValue74
  t72 := Tryd.underlying76
  a72 := Tryd.isAgg76
  z72 := Tryd.sizeOf76
  v72 := Tryd.zeroValue76
  t75 := Tryd.underlying81
  a75 := Tryd.isAgg81
  z75 := Tryd.sizeOf81
  v75 := Tryd.zeroValue81
  t76 := Tryd.underlying82
  a76 := Tryd.isAgg82
  z76 := Tryd.sizeOf82
  v76 := Tryd.zeroValue82
  t105 := Tryd.underlying77
  a105 := Tryd.isAgg77
  z105 := Tryd.sizeOf77
  v105 := Tryd.zeroValue77
  t107 := Tryd.underlying43
  a107 := Tryd.isAgg43
  z107 := Tryd.sizeOf43
  v107 := Tryd.zeroValue43
  t119 := Tryd.underlying110
  a119 := Tryd.isAgg110
  z119 := Tryd.sizeOf110
  t127 := Tryd.underlying108
  a127 := Tryd.isAgg108
  z127 := Tryd.sizeOf108
  v127 := Tryd.zeroValue108
  t138 := Tryd.underlying112
  a138 := Tryd.isAgg112
  z138 := Tryd.sizeOf112
  v138 := Tryd.zeroValue112
  t139 := Tryd.underlying113
  a139 := Tryd.isAgg113
  z139 := Tryd.sizeOf113
  v139 := Tryd.zeroValue113
  t164 := Tryd.underlying127
  a164 := Tryd.isAgg127
  z164 := Tryd.sizeOf127
  v164 := Tryd.zeroValue127
  g3 := by kernel_rfl
  g4 := by kernel_rfl }
theorem Tryd.Builder_Extra_230 : Builder.Extra Tryd.prog Tryd.lays230_ren := {
  sizeBuilder := by kernel_rfl
  liesBuilder := by kernel_rfl
  t5 := Tryd.underlying5
  a5 := Tryd.isAgg5
  z5 := Tryd.sizeOf5
  v5 := Tryd.zeroValue5
  infoByte := by kernel_rfl
  cellsByte := by kernel_rfl
  sizeByte := by kernel_rfl
  neB5 := by decide }
open Go.RowKit Go.Lib in
theorem Tryd.strings_Map_runes (g : Nat) (lb : Array Value) (eg : ∀ args w, (callFunc g args).run Tryd.prog w = .ok (.enter g args) w) (f : Int → Int) (s : ByteArray) (w : World) (hs : s.size < 35184372088832) (hf : MapAtRunes Tryd.prog g lb f w) (hnn : ∀ x : Nat, x ≤ 1114111 → 0 ≤ f x ∧ f x ≤ 2147483647) (hT : Lib.Utf8Tabs 0 1 w) :
    Calls Tryd.prog 36 #[.func (.func g) #[] lb, .string s] w fun e w' => e = .returned (.string ⟨(Lib.mapD f s.data.toList).toArray⟩) ∧ Below w.heap.size w w' := Any.strings_Map_runes Tryd.lays230 Tryd.Builder_Extra_230 g lb eg f s w hs hf hnn hT
end Go.Proofs

namespace Go.Vc
open Go.Proofs
set_option linter.unusedVariables false
set_option maxRecDepth 10000
set_option linter.unusedSimpArgs false
set_option maxHeartbeats 8000000
def lowR (x : Int) : Int := 32 + x % 95
theorem mapLow (w : World) : MapAtRunes Tryd.prog 37 #[] lowR w := fun W x hx _ => by
  have z1 : (x : Int).tmod 95 = x % 95 := Int.tmod_eq_emod_of_nonneg (by omega)
  unfold FnGives
  go_enter Tryd.func37, Tryd.ntmps37
  go_wp2
  go_ret
  exact ⟨rfl, 0, rfl⟩
theorem low_of (n : Nat) (l : List UInt8) : (Lib.mapGoD lowR n l).length ≤ n ∧ ∀ b ∈ Lib.mapGoD lowR n l, 32 ≤ b.toNat ∧ b.toNat ≤ 126 := by
  induction n generalizing l with
  | zero => exact ⟨by simp [Lib.mapGoD], fun b hb => by simp [Lib.mapGoD] at hb⟩
  | succ n ih =>
    unfold Lib.mapGoD
    split
    · exact ⟨by simp, fun b hb => by cases hb⟩
    · obtain ⟨i1, i2⟩ := ih (l.drop (Lib.decodeL l).2)
      have hf : 0 ≤ lowR ((Lib.decodeL l).1 : Int) := by unfold lowR; omega
      have he : Lib.encodeRune (lowR ((Lib.decodeL l).1 : Int)) = [UInt8.ofNat (lowR ((Lib.decodeL l).1 : Int)).toNat] := by
        have : 32 ≤ lowR ((Lib.decodeL l).1 : Int) ∧ lowR ((Lib.decodeL l).1 : Int) ≤ 126 := by unfold lowR; omega
        generalize lowR ((Lib.decodeL l).1 : Int) = r at *
        unfold Lib.encodeRune; rw [Lib.encodeRuneZ_one (by omega) (by omega)]; rfl
      rw [if_pos hf, he]
      refine ⟨by simp; omega, fun b hb => ?_⟩
      rcases List.mem_append.1 hb with hb | hb
      · have hb' := List.mem_singleton.1 hb
        have : 32 ≤ lowR ((Lib.decodeL l).1 : Int) ∧ lowR ((Lib.decodeL l).1 : Int) ≤ 126 := by unfold lowR; omega
        rw [hb', UInt8.toNat_ofNat']
        omega
      · exact i2 b hb
def lowM (s : List UInt8) : List UInt8 := Lib.mapD lowR s
theorem lowM_len (s : List UInt8) : (lowM s).length ≤ s.length := (low_of s.length s).1
theorem ch1 (c : UInt8) (h : c.toNat < 128) : IsChr [c] := ⟨by simp, by
  show 1 = mU c.toNat + 1
  rw [mU_small h], .inl h, fun j h1 h2 => by simp at h2; omega⟩
theorem vU_low (l : List UInt8) (h : ∀ b ∈ l, 32 ≤ b.toNat ∧ b.toNat ≤ 126) : vU l = true := by
  induction l with
  | nil => exact vU_nil
  | cons c r ih =>
    have hc := h c (by simp)
    have e := vU_app (c := [c]) (ch1 c (by omega)) (by intro q; have q' : c = 0 := q; rw [q'] at hc; exact absurd hc.1 (by decide)) (by intro q; have q' : c = 13 := q; rw [q'] at hc; exact absurd hc.1 (by decide)) r
    rw [List.singleton_append] at e
    rw [e]; exact ih fun b hb => h b (by simp [hb])
theorem decU_low (s : List UInt8) : decU (lowM s) = lowM s := decU_id _ (vU_low _ (low_of s.length s).2)
instance fMap (s : List UInt8) : Fn BB 36 [.fn 37 [], .str s] (s.length ≤ 1000000) (.str (lowM s)) := by
  refine Fn.liftB Tryd.call36 fun hp r β w vs hG m h => ?_
  obtain ⟨v1, vs1, rfl, g1, hl⟩ := h.uncons
  obtain ⟨v2, vs2, rfl, g2, hl⟩ := hl.uncons
  obtain rfl := hl.nil_inv
  cases g2
  cases g1 with
  | fn hlen hrel =>
    rename_i cs
    have hc0 : cs = [] := List.length_eq_zero_iff.1 hlen
    subst hc0
    exact ⟨_, Tryd.strings_Map_runes 37 #[] (enters_of Tryd.func37 (by kernel_rfl) rfl) lowR ⟨s.toArray⟩ w (by show s.toArray.size < _; simp; omega) (mapLow w) (fun x hx => by unfold lowR; omega) (hG.tabs m.vis), .str (by have := lowM_len s; omega)⟩
instance fStays (l : List UInt8) : Fn BB 8 [.rd .byte l] True (.bool true) := by
  refine Fn.intro (N := 39) [0, 2, 3, 4, 7] [] Tryd.call8 Tryd.func8 rfl rfl (by kernel_rfl) (fun hpre => ?_)
  have h1 := vU_decU l
  have h2 := decU_decU l
  have h3 := cU_decU l
  have h4 := decU_len l
  have h5 := decU_low (decU l)
  have h6 := lowM_len (decU l)
  repeat' ((conv => whnf); first | (with_reducible rfl) | exact True.intro | (with_reducible exact absTF) | (with_reducible exact absFT) | intro _ | refine And.intro ?_ ?_ | refine Fin.mk ?_ | refine CallG.plain rfl ?_ ?_ | refine CallG.mk rfl ?_ ?_ | refine CallG.nwl rfl ?_ ?_ | refine CallG.nw ?_ ?_ | refine CallF.nwl rfl ?_ ?_ | refine CallF.nw ?_ ?_ | refine AppN.mk ?_ | (refine CallS.q ?_; (conv => whnf); first | refine CallG.plain rfl ?_ ?_ | refine CallG.mk rfl ?_ ?_) | (refine CallS.m ?_; (conv => whnf); refine CallM.mk rfl ?_ ?_) | (refine CallS.h ?_; (conv => whnf); refine CallM.mk rfl ?_ ?_) | (refine CallS.b ?_; (conv => whnf); refine CallM.mk rfl ?_ ?_) | (refine CallS.z ?_; (conv => whnf); refine CallM.mk rfl ?_ ?_))
  all_goals (try (conv => whnf))
  all_goals (try (exact Ob.mk (u8_bnd _)))
  all_goals (try (refine Ob.mk ?_; first | exact True.intro | assumption | omega | (try simp only [decide_eq_true_eq, decide_eq_false_iff_not, beq_iff_eq, beq_eq_false_iff_ne, bne_iff_ne, bne_eq_false_iff_eq, ne_eq, Bool.and_eq_true, Bool.or_eq_true, Bool.not_eq_true, Bool.not_eq_false, Bool.not_eq_true', Bool.not_eq_false', Int.toNat_natCast, Int.not_lt, Int.not_le, UInt8.ofNat_toNat, cast_eq] at *; omega)))
  all_goals (try ((show (_:Int) = _); omega))
  all_goals (try (show tupSV _ = _; with_unfolding_all rfl))
  all_goals (try ((show (_ : Nat) ≤ _); (simp <;> omega)))
  all_goals (try ((show (_ : Nat) ≤ _ ∧ (_ : Nat) ≤ _); (simp <;> omega)))
  all_goals (try ((show (_ : Int) ≤ _ ∧ (_ : Int) ≤ _ ∧ (_ : Int) ≤ _ ∧ (_ : Int) ≤ _); (simp <;> omega)))
  all_goals (try (exfalso; have a : vU (decU l) = !true := ‹_›; rw [h1] at a; simp at a; done))
  all_goals (try (exfalso; have a : (true && decU (decU l) == decU l) = !true := ‹_›; rw [h2] at a; simp at a; done))
  all_goals (try (rw [h5, h2]; simp; omega))
end Go.Vc
