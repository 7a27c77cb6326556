/- A part of the proof: lemmas and walks that the last text of the claim joins; no condition. -/
import Derived.Test.YtfbkhpkneioecaaTI
import Derived.Lib.CountLaws
import Derived.Lib.AsciiSet
import Derived.Lib.IndexAny
set_option linter.unusedVariables false
set_option linter.unusedSimpArgs false
namespace Go.Vc
open Go.Proofs
set_option linter.unusedVariables false
set_option maxRecDepth 10000
set_option linter.unusedSimpArgs false
set_option maxHeartbeats 8000000
theorem irC_low (cs : List UInt8) (b : UInt8) (h : b.toNat < 128) : decide (irC cs (b.toNat : Int) ≥ 0) = cs.contains b := by
  unfold irC
  rw [if_pos (by omega), ← index_mem]
  simp
theorem irC_hi (cs : List UInt8) (r : Int) (h : 128 ≤ r) : decide (irC cs r ≥ 0) = false := by
  unfold irC; rw [if_neg (by omega)]; rfl
theorem noAny_more {s cs : List UInt8} {p q : Nat} (hcs : ascB cs = true) (h : Lib.NoAny s cs p) (hh : ∀ j, p ≤ j → j < q → 128 ≤ (s.getD j 0).toNat) : Lib.NoAny s cs q := by
  intro j b hj hs
  rcases Nat.lt_or_ge j p with c | c
  · exact h j b c hs
  · have := hh j c hj
    have e : s.getD j 0 = b := by simp [List.getD, hs]
    rw [e] at this
    rw [Bool.eq_false_iff]
    intro hc
    rw [List.contains_iff_mem] at hc
    have := ascB_mem hcs hc
    omega
theorem fIAsc (s cs : List UInt8) : Fn BB 118 [.str s, .str cs] (s.length ≤ 8 ∧ 2 ≤ cs.length ∧ cs.length ≤ 1000 ∧ ascB cs = true) (.int .i64 (Lib.indexAny s cs)) := by
  refine Fn.intro (N := 55) [0, 1, 4, 5, 6, 7, 8, 9, 10, 12, 15, 20, 26, 32, 36, 42, 45, 46, 47, 53] [] Try.call118 Try.func118 rfl rfl (by kernel_rfl) (fun hpre => ?_)
  obtain ⟨hp1, hp2, hp3, hp4⟩ := hpre
  repeat' ((conv => whnf); first | (with_reducible rfl) | exact True.intro | (with_reducible exact absTF) | (with_reducible exact absFT) | (intro hq; (try simp only [decide_eq_true_eq, decide_eq_false_iff_not, beq_iff_eq, beq_eq_false_iff_ne, bne_iff_ne, bne_eq_false_iff_eq, ne_eq, Bool.and_eq_true, Bool.or_eq_true, Bool.and_eq_false_iff, Bool.or_eq_false_iff, Bool.not_eq_true, Bool.not_eq_false, Bool.not_eq_true', Bool.not_eq_false', Int.toNat_natCast, Int.not_lt, Int.not_le, ge_iff_le, gt_iff_lt, UInt8.ofNat_toNat, cast_eq] at hq); (try (exfalso; first | omega | exact hq trivial | exact absurd hq (by decide)))) | refine And.intro ?_ ?_ | refine Fin.mk ?_ | refine CallG.plain rfl ?_ ?_ | refine CallG.mk rfl ?_ ?_ | refine CallG.nwl rfl ?_ ?_ | refine CallG.nw ?_ ?_ | refine CallF.nwl rfl ?_ ?_ | refine CallF.nw ?_ ?_ | refine AppN.mk ?_ | (refine CallS.q ?_; (conv => whnf); first | refine CallG.plain rfl ?_ ?_ | refine CallG.mk rfl ?_ ?_) | (refine CallS.m ?_; (conv => whnf); refine CallM.mk rfl ?_ ?_) | (refine CallS.h ?_; (conv => whnf); refine CallM.mk rfl ?_ ?_) | (refine CallS.b ?_; (conv => whnf); refine CallM.mk rfl ?_ ?_) | (refine CallS.z ?_; (conv => whnf); refine CallM.mk rfl ?_ ?_))
  all_goals (try (conv => whnf))
  all_goals (try (exact Ob.mk (u8_bnd _)))
  all_goals (try (refine Ob.mk ?_; first | exact True.intro | assumption | omega | (try simp only [decide_eq_true_eq, decide_eq_false_iff_not, beq_iff_eq, beq_eq_false_iff_ne, bne_iff_ne, bne_eq_false_iff_eq, ne_eq, Bool.and_eq_true, Bool.or_eq_true, Bool.not_eq_true, Bool.not_eq_false, Bool.not_eq_true', Bool.not_eq_false', Int.toNat_natCast, Int.not_lt, Int.not_le, UInt8.ofNat_toNat, cast_eq] at *; omega)))
  all_goals (try ((show (_:Int) = _); omega))
  all_goals (try (show tupSV _ = _; with_unfolding_all rfl))
  all_goals (try ((show (_ : Nat) ≤ _); (simp <;> omega)))
  all_goals (try ((show (_ : Nat) ≤ _ ∧ (_ : Nat) ≤ _); (simp <;> omega)))
  all_goals (try ((show (_ : Int) ≤ _ ∧ (_ : Int) ≤ _ ∧ (_ : Int) ≤ _ ∧ (_ : Int) ≤ _); (simp <;> omega)))
  · exfalso; simp_all
  refine LoopStop.mk (α := Nat) (fun p => []) (fun p => [(0, .iter s p)]) 20 (fun p => p ≤ s.length ∧ Lib.NoAny s cs p) (fun p => s.length - p) 0 ⟨by omega, Lib.NoAny.zero _ _⟩ ?_ (fun p hp => ?_)
  · repeat' ((conv => whnf); first | (with_reducible rfl) | exact True.intro | (with_reducible exact absTF) | (with_reducible exact absFT) | intro _ | refine And.intro ?_ ?_ | refine Fin.mk ?_ | refine CallG.plain rfl ?_ ?_ | refine CallG.mk rfl ?_ ?_ | refine CallG.nwl rfl ?_ ?_ | refine CallG.nw ?_ ?_ | refine CallF.nwl rfl ?_ ?_ | refine CallF.nw ?_ ?_ | refine AppN.mk ?_ | (refine CallS.q ?_; (conv => whnf); first | refine CallG.plain rfl ?_ ?_ | refine CallG.mk rfl ?_ ?_) | (refine CallS.m ?_; (conv => whnf); refine CallM.mk rfl ?_ ?_) | (refine CallS.h ?_; (conv => whnf); refine CallM.mk rfl ?_ ?_) | (refine CallS.b ?_; (conv => whnf); refine CallM.mk rfl ?_ ?_) | (refine CallS.z ?_; (conv => whnf); refine CallM.mk rfl ?_ ?_))
    all_goals (try (conv => whnf))
    all_goals (try (exact Ob.mk (u8_bnd _)))
    all_goals (try (refine Ob.mk ?_; first | exact True.intro | assumption | omega | (try simp only [decide_eq_true_eq, decide_eq_false_iff_not, beq_iff_eq, beq_eq_false_iff_ne, bne_iff_ne, bne_eq_false_iff_eq, ne_eq, Bool.and_eq_true, Bool.or_eq_true, Bool.not_eq_true, Bool.not_eq_false, Bool.not_eq_true', Bool.not_eq_false', Int.toNat_natCast, Int.not_lt, Int.not_le, UInt8.ofNat_toNat, cast_eq] at *; omega)))
    all_goals (try ((show (_:Int) = _); omega))
    all_goals (try (show tupSV _ = _; with_unfolding_all rfl))
    all_goals (try ((show (_ : Nat) ≤ _); (simp <;> omega)))
    all_goals (try ((show (_ : Nat) ≤ _ ∧ (_ : Nat) ≤ _); (simp <;> omega)))
    all_goals (try ((show (_ : Int) ≤ _ ∧ (_ : Int) ≤ _ ∧ (_ : Int) ≤ _ ∧ (_ : Int) ≤ _); (simp <;> omega)))
    all_goals rfl
  · obtain ⟨q1, q3⟩ := hp
    have hget : p < s.length → s[p]? = some (s.getD p 0) := fun hl => by simp [List.getD, List.getElem?_eq_getElem hl]
    have key : p < s.length → ((s.getD p 0).toNat < 128 ∧ decL s p = ((s.getD p 0).toNat, 1)) ∨ (128 ≤ (s.getD p 0).toNat ∧ 128 ≤ (decL s p).1 ∧ 1 ≤ (decL s p).2 ∧ p + (decL s p).2 ≤ s.length ∧ ∀ j, p ≤ j → j < p + (decL s p).2 → 128 ≤ (s.getD j 0).toNat) := fun hl => dec_place s p hl
    repeat' ((conv => whnf); first | (with_reducible rfl) | exact True.intro | (with_reducible exact absTF) | (with_reducible exact absFT) | intro _ | refine And.intro ?_ ?_ | refine Fin.mk ?_ | refine CallG.plain rfl ?_ ?_ | refine CallG.mk rfl ?_ ?_ | refine CallG.nwl rfl ?_ ?_ | refine CallG.nw ?_ ?_ | refine CallF.nwl rfl ?_ ?_ | refine CallF.nw ?_ ?_ | refine AppN.mk ?_ | (refine CallS.q ?_; (conv => whnf); first | refine CallG.plain rfl ?_ ?_ | refine CallG.mk rfl ?_ ?_) | (refine CallS.m ?_; (conv => whnf); refine CallM.mk rfl ?_ ?_) | (refine CallS.h ?_; (conv => whnf); refine CallM.mk rfl ?_ ?_) | (refine CallS.b ?_; (conv => whnf); refine CallM.mk rfl ?_ ?_) | (refine CallS.z ?_; (conv => whnf); refine CallM.mk rfl ?_ ?_))
    all_goals (try (conv => whnf))
    all_goals (try (exact Ob.mk (u8_bnd _)))
    all_goals (try (refine Ob.mk ?_; first | exact True.intro | assumption | omega | (try simp only [decide_eq_true_eq, decide_eq_false_iff_not, beq_iff_eq, beq_eq_false_iff_ne, bne_iff_ne, bne_eq_false_iff_eq, ne_eq, Bool.and_eq_true, Bool.or_eq_true, Bool.not_eq_true, Bool.not_eq_false, Bool.not_eq_true', Bool.not_eq_false', Int.toNat_natCast, Int.not_lt, Int.not_le, UInt8.ofNat_toNat, cast_eq] at *; omega)))
    all_goals (try ((show (_:Int) = _); omega))
    all_goals (try (show tupSV _ = _; with_unfolding_all rfl))
    all_goals (try ((show (_ : Nat) ≤ _); (simp <;> omega)))
    all_goals (try ((show (_ : Nat) ≤ _ ∧ (_ : Nat) ≤ _); (simp <;> omega)))
    all_goals (try ((show (_ : Int) ≤ _ ∧ (_ : Int) ≤ _ ∧ (_ : Int) ≤ _ ∧ (_ : Int) ≤ _); (simp <;> omega)))
    · exact ⟨hp4, hp3⟩
    · have hl : p < s.length := ‹_›
      have hq : decide (irC cs ((decL s p).1 : Int) ≥ 0) = true := ‹_›
      rcases key hl with ⟨k1, k2⟩ | ⟨k1, k2, _⟩
      · rw [k2, irC_low cs _ k1] at hq
        exact (Lib.indexAny_hit q3 (hget hl) hq).symm
      · rw [irC_hi cs _ (by omega)] at hq; cases hq
    · have hl : p < s.length := ‹_›
      have hq : decide (irC cs ((decL s p).1 : Int) ≥ 0) = false := ‹_›
      refine Rnd.mk ⟨p + (decL s p).2, ?_, ?_, ?_⟩
      · rcases key hl with ⟨k1, k2⟩ | ⟨k1, k2, k3, k4, k5⟩
        · rw [k2, irC_low cs _ k1] at hq
          rw [k2]
          exact ⟨by simp only; omega, q3.succ (hget hl) hq⟩
        · exact ⟨k4, noAny_more hp4 q3 k5⟩
      · rcases key hl with ⟨k1, k2⟩ | ⟨k1, k2, k3, k4, k5⟩
        · rw [k2]; simp only; omega
        · omega
      · repeat' ((conv => whnf); first | (with_reducible rfl) | exact True.intro | (with_reducible exact absTF) | (with_reducible exact absFT) | intro _ | refine And.intro ?_ ?_ | refine Fin.mk ?_ | refine CallG.plain rfl ?_ ?_ | refine CallG.mk rfl ?_ ?_ | refine CallG.nwl rfl ?_ ?_ | refine CallG.nw ?_ ?_ | refine CallF.nwl rfl ?_ ?_ | refine CallF.nw ?_ ?_ | refine AppN.mk ?_ | (refine CallS.q ?_; (conv => whnf); first | refine CallG.plain rfl ?_ ?_ | refine CallG.mk rfl ?_ ?_) | (refine CallS.m ?_; (conv => whnf); refine CallM.mk rfl ?_ ?_) | (refine CallS.h ?_; (conv => whnf); refine CallM.mk rfl ?_ ?_) | (refine CallS.b ?_; (conv => whnf); refine CallM.mk rfl ?_ ?_) | (refine CallS.z ?_; (conv => whnf); refine CallM.mk rfl ?_ ?_))
        all_goals (try (conv => whnf))
        all_goals (try (exact Ob.mk (u8_bnd _)))
        all_goals (try (refine Ob.mk ?_; first | exact True.intro | assumption | omega | (try simp only [decide_eq_true_eq, decide_eq_false_iff_not, beq_iff_eq, beq_eq_false_iff_ne, bne_iff_ne, bne_eq_false_iff_eq, ne_eq, Bool.and_eq_true, Bool.or_eq_true, Bool.not_eq_true, Bool.not_eq_false, Bool.not_eq_true', Bool.not_eq_false', Int.toNat_natCast, Int.not_lt, Int.not_le, UInt8.ofNat_toNat, cast_eq] at *; omega)))
        all_goals (try ((show (_:Int) = _); omega))
        all_goals (try (show tupSV _ = _; with_unfolding_all rfl))
        all_goals (try ((show (_ : Nat) ≤ _); (simp <;> omega)))
        all_goals (try ((show (_ : Nat) ≤ _ ∧ (_ : Nat) ≤ _); (simp <;> omega)))
        all_goals (try ((show (_ : Int) ≤ _ ∧ (_ : Int) ≤ _ ∧ (_ : Int) ≤ _ ∧ (_ : Int) ≤ _); (simp <;> omega)))
        all_goals rfl
    · have hl : ¬ p < s.length := ‹_›
      obtain rfl : p = s.length := by omega
      exact (Lib.indexAny_none q3).symm
instance fIAc (s cs : List UInt8) : Fn BB 118 [.str s, .str cs] (s.length ≤ 1000000 ∧ 2 ≤ cs.length ∧ cs.length ≤ 1000 ∧ ascB cs = true) (.int .i64 (Lib.indexAny s cs)) := by
  by_cases hl : s.length ≤ 8
  · exact ⟨(fIAsc s cs).1, fun hp => (fIAsc s cs).2 ⟨hl, hp.2⟩⟩
  · refine Fn.liftB Try.call118 fun hp r β w vs hG m h => ?_
    obtain ⟨rfl, h1, h2⟩ := h.str2
    have hs : (⟨s.toArray⟩ : ByteArray).size = s.length := by show s.toArray.size = _; simp
    have hc : (⟨cs.toArray⟩ : ByteArray).size = cs.length := by show cs.toArray.size = _; simp
    refine ⟨_, (Try.strings_IndexAny_long (by exact Try.zeroValue146) ⟨s.toArray⟩ ⟨cs.toArray⟩ w (by rw [hc]; omega) (by rw [hs]; omega) (by rw [hs]; omega) (by rw [hc]; omega) (fun j b hb => ascB_mem hp.2.2.2 (List.mem_of_getElem? hb))).mono fun e w' hh => ?_, .int⟩
    obtain ⟨rfl, rfl⟩ := hh
    exact ⟨rfl, ((Go.RowKit.Below.refl _ _).alloc (Nat.le_refl _) _).alloc (by simp) _⟩
theorem ixAnyC (cs s : List UInt8) : decide (Lib.indexAny s cs ≥ 0) = s.any fun b => cs.contains b := by
  induction s with
  | nil => rfl
  | cons b l ih =>
    have hge := Lib.indexAny_ge cs l
    unfold Lib.indexAny
    rw [List.any_cons]
    cases cs.contains b with
    | true => rfl
    | false =>
      simp only [Bool.false_eq_true, if_false, Bool.false_or]
      rw [← ih]
      by_cases h : Lib.indexAny l cs = -1
      · rw [h]; rfl
      · rw [if_neg (by simpa using h)]
        rw [Bool.eq_iff_iff]; simp; omega
instance fCAc (s cs : List UInt8) : Fn BB 65 [.str s, .str cs] (s.length ≤ 1000000 ∧ 2 ≤ cs.length ∧ cs.length ≤ 1000 ∧ ascB cs = true) (.bool (s.any fun b => cs.contains b)) := by
  refine Fn.intro (N := 9) [0, 1, 4] [] Try.call65 Try.func65 rfl rfl (by kernel_rfl) (fun hpre => ?_)
  repeat' ((conv => whnf); first | (with_reducible rfl) | exact True.intro | (with_reducible exact absTF) | (with_reducible exact absFT) | intro _ | refine And.intro ?_ ?_ | refine Fin.mk ?_ | refine CallG.plain rfl ?_ ?_ | refine CallG.mk rfl ?_ ?_ | refine CallG.nwl rfl ?_ ?_ | refine CallG.nw ?_ ?_ | refine CallF.nwl rfl ?_ ?_ | refine CallF.nw ?_ ?_ | refine AppN.mk ?_ | (refine CallS.q ?_; (conv => whnf); first | refine CallG.plain rfl ?_ ?_ | refine CallG.mk rfl ?_ ?_) | (refine CallS.m ?_; (conv => whnf); refine CallM.mk rfl ?_ ?_) | (refine CallS.h ?_; (conv => whnf); refine CallM.mk rfl ?_ ?_) | (refine CallS.b ?_; (conv => whnf); refine CallM.mk rfl ?_ ?_) | (refine CallS.z ?_; (conv => whnf); refine CallM.mk rfl ?_ ?_))
  all_goals (try (conv => whnf))
  all_goals (try (exact Ob.mk (u8_bnd _)))
  all_goals (try (refine Ob.mk ?_; first | exact True.intro | assumption | omega | (try simp only [decide_eq_true_eq, decide_eq_false_iff_not, beq_iff_eq, beq_eq_false_iff_ne, bne_iff_ne, bne_eq_false_iff_eq, ne_eq, Bool.and_eq_true, Bool.or_eq_true, Bool.not_eq_true, Bool.not_eq_false, Bool.not_eq_true', Bool.not_eq_false', Int.toNat_natCast, Int.not_lt, Int.not_le, UInt8.ofNat_toNat, cast_eq] at *; omega)))
  all_goals (try ((show (_:Int) = _); omega))
  all_goals (try (show tupSV _ = _; with_unfolding_all rfl))
  all_goals (try ((show (_ : Nat) ≤ _); (simp <;> omega)))
  all_goals (try ((show (_ : Nat) ≤ _ ∧ (_ : Nat) ≤ _); (simp <;> omega)))
  all_goals (try ((show (_ : Int) ≤ _ ∧ (_ : Int) ≤ _ ∧ (_ : Int) ≤ _ ∧ (_ : Int) ≤ _); (simp <;> omega)))
  all_goals (exact ixAnyC cs s)
end Go.Vc

namespace Go.Vc
set_option autoImplicit false
/-- what stands for a byte; [] : itself -/
def refB (q : Bool) (c : UInt8) : List UInt8 :=
  bif c == 38 then [38, 97, 109, 112, 59] else bif c == 60 then [38, 108, 116, 59] else bif c == 62 then [38, 103, 116, 59] else bif c == 34 && q then [38, 113, 117, 111, 116, 59] else []
def oneB (q : Bool) (c : UInt8) : List UInt8 := bif (refB q c).isEmpty then [c] else refB q c
def nbsp : List UInt8 := [38, 110, 98, 115, 112, 59]
/-- a text, written -/
def escL (q : Bool) : List UInt8 → List UInt8
  | [] => []
  | [c] => oneB q c
  | c :: d :: r => bif c == 194 && d == 160 then nbsp ++ escL q r else oneB q c ++ escL q (d :: r)
theorem oneB_len (q : Bool) (c : UInt8) : (oneB q c).length ≤ 6 ∧ 1 ≤ (oneB q c).length := by
  unfold oneB refB
  cases c == 38 <;> cases c == 60 <;> cases c == 62 <;> cases c == 34 <;> cases q <;> simp
theorem escL_len (q : Bool) : ∀ l : List UInt8, (escL q l).length ≤ 6 * l.length
  | [] => by simp [escL]
  | [c] => by have := oneB_len q c; simp [escL]; omega
  | c :: d :: r => by
    have h1 := oneB_len q c
    have h2 := escL_len q r
    have h3 := escL_len q (d :: r)
    unfold escL
    cases c == 194 && d == 160
    · simp at h3 ⊢; omega
    · simp [nbsp]; omega
theorem escL_ne (q : Bool) (l : List UInt8) (h : l ≠ []) : escL q l ≠ [] := by
  match l, h with
  | [c], _ => have := oneB_len q c; intro h0; simp only [escL] at h0; rw [h0] at this; simp at this
  | c :: d :: r, _ =>
    unfold escL
    cases c == 194 && d == 160
    · have := oneB_len q c
      intro h0
      simp at h0
      rw [h0.1] at this; simp at this
    · simp [nbsp]
theorem drop_cons' (s : List UInt8) (i : Nat) (h : i < s.length) : s.drop i = s.getD i 0 :: s.drop (i + 1) := by
  rw [List.drop_eq_getElem_cons h]
  simp [List.getD, List.getElem?_eq_getElem h]
/-- at a place -/
theorem escL_at (q : Bool) (s : List UInt8) (i : Nat) (h : i < s.length) :
    escL q (s.drop i) = if s.getD i 0 = 194 ∧ i + 1 < s.length ∧ s.getD (i + 1) 0 = 160 then nbsp ++ escL q (s.drop (i + 2)) else oneB q (s.getD i 0) ++ escL q (s.drop (i + 1)) := by
  rw [drop_cons' s i h]
  by_cases h1 : i + 1 < s.length
  · rw [drop_cons' s (i + 1) h1]
    simp only [escL]
    by_cases h2 : s.getD i 0 = 194 ∧ s.getD (i + 1) 0 = 160
    · rw [if_pos ⟨h2.1, h1, h2.2⟩, h2.1, h2.2]; rfl
    · rw [if_neg (fun h => h2 ⟨h.1, h.2.2⟩)]
      have : (s.getD i 0 == 194 && s.getD (i + 1) 0 == 160) = false := by
        rw [Bool.eq_false_iff]; intro hc; simp only [Bool.and_eq_true, beq_iff_eq] at hc; exact h2 hc
      rw [this]; rfl
  · rw [if_neg (fun h => h1 h.2.1)]
    have : s.drop (i + 1) = [] := List.drop_eq_nil_of_le (by omega)
    rw [this]
    simp [escL]
theorem escL_end (q : Bool) (s : List UInt8) : escL q (s.drop s.length) = [] := by simp [escL]
/-- how many bytes a byte takes -/
def wB (c : UInt8) : Nat := bif c == 38 then 5 else bif c == 60 then 4 else bif c == 62 then 4 else bif c == 34 then 6 else 1
def wL : List UInt8 → Nat
  | [] => 0
  | c :: r => wB c + wL r
theorem wB_one (c : UInt8) : wB c = (oneB true c).length := by
  unfold wB oneB refB
  cases c == 38 <;> cases c == 60 <;> cases c == 62 <;> cases c == 34 <;> simp
abbrev nb2 : List UInt8 := [194, 160]
theorem cnt_nil : Lib.count [] nb2 = 0 := rfl
theorem cnt_cons (b : UInt8) (l : List UInt8) : Lib.count (b :: l) nb2 = bif nb2.isPrefixOf (b :: l) then 1 + Lib.count (l.drop 1) nb2 else Lib.count l nb2 := by
  cases hp : nb2.isPrefixOf (b :: l) with
  | true =>
    have : Lib.index (b :: l) nb2 = ((0 : Nat) : Int) := by unfold Lib.index; rw [if_pos hp]; rfl
    rw [Lib.count_hit (by simp) this]
    rfl
  | false =>
    rcases (by omega : Lib.index l nb2 < 0 ∨ 0 ≤ Lib.index l nb2) with h | h
    · have h1 : Lib.index l nb2 = -1 := by have := Lib.index_ge l nb2; omega
      have : Lib.index (b :: l) nb2 = -1 := by unfold Lib.index; rw [if_neg (by rw [hp]; simp), if_pos (by rw [h1]; rfl)]
      rw [Lib.count_miss this, cond_false, Lib.count_miss h1]
    · obtain ⟨i, hi⟩ := Int.eq_ofNat_of_zero_le h
      have : Lib.index (b :: l) nb2 = ((i + 1 : Nat) : Int) := by
        unfold Lib.index
        rw [if_neg (by rw [hp]; simp), if_neg (by rw [hi]; simp), hi]
        simp
      rw [Lib.count_hit (by simp) this, cond_false, Lib.count_hit (by simp) hi]
      rw [show i + 1 + nb2.length = (i + nb2.length) + 1 by omega, List.drop_succ_cons]
/-- the size of a value, written -/
theorem size_law : ∀ l : List UInt8, wL l + 4 * Lib.count l nb2 = (escL true l).length
  | [] => rfl
  | [c] => by
    have : nb2.isPrefixOf [c] = false := by simp [List.isPrefixOf]
    rw [cnt_cons, this, cond_false, cnt_nil]
    simp [wL, escL, wB_one]
  | c :: d :: r => by
    have h1 := size_law r
    have h2 := size_law (d :: r)
    rw [cnt_cons]
    have hp : nb2.isPrefixOf (c :: d :: r) = (c == 194 && d == 160) := by
      simp only [List.isPrefixOf, Bool.and_true]
      rw [show ((194 : UInt8) == c) = (c == 194) from BEq.comm, show ((160 : UInt8) == d) = (d == 160) from BEq.comm]
    rw [hp]
    unfold escL
    cases hc : (c == 194 && d == 160) with
    | true =>
      simp only [Bool.and_eq_true, beq_iff_eq] at hc
      obtain ⟨rfl, rfl⟩ := hc
      simp only [cond_true, wL, List.drop_succ_cons, List.drop_zero, List.length_append]
      have : wB 194 = 1 ∧ wB 160 = 1 := ⟨rfl, rfl⟩
      simp [this, nbsp]
      omega
    | false =>
      simp only [cond_false, List.length_append]
      rw [← h2, ← wB_one]
      simp only [wL]
      omega
theorem wL_le (l : List UInt8) : wL l ≤ 6 * l.length := by
  induction l with
  | nil => simp [wL]
  | cons c r ih => have := oneB_len true c; rw [← wB_one] at this; simp [wL]; omega
theorem wL_take (l : List UInt8) (i : Nat) (h : i < l.length) : wL (l.take (i + 1)) = wL (l.take i) + wB (l.getD i 0) := by
  induction l generalizing i with
  | nil => simp at h
  | cons c r ih =>
    cases i with
    | zero => simp [wL]
    | succ i => have := ih i (by simpa using h); simp only [List.take_succ_cons, wL, this]; simp [List.getD]; omega
end Go.Vc

namespace Go.Vc
set_option autoImplicit false
set_option maxRecDepth 10000
theorem upto_app (x r : List UInt8) (n : Nat) (h : n + 1 ≤ x.length) : upto (x ++ r) n = upto x n := by
  unfold upto
  rw [List.take_append_of_le_length h]
/-- a written reference is read as its character -/
theorem rd_ref (nm r : List UInt8) (v : Bool) (k : Nat) (c : UInt8) (hk : nm.length = k + 3) (h0 : nm.getD 0 0 = 38) (h1 : nm.getD 1 0 ≠ 35) (hal : ∀ j < k + 1, anB (nm.getD (j + 1) 0) = true) (hk8 : k + 1 < 8)
    (h59 : nm.getD (k + 2) 0 = 59) (hn : named (upto nm (k + 2)) = ([c], true)) : rdP (nm ++ r) v = ([c], (k : Int) + 3) := by
  have hget : ∀ j, j < k + 3 → (nm ++ r).getD j 0 = nm.getD j 0 := fun j hj => by
    simp only [List.getD]; rw [List.getElem?_append_left (by omega)]
  have hlen : (nm ++ r).length = k + 3 + r.length := by simp [hk]
  have hd : ∀ j, ((nm ++ r).drop 1).getD j 0 = (nm ++ r).getD (j + 1) 0 := fun j => by simp [List.getD, Nat.add_comm]
  have hL : letN 8 ((nm ++ r).drop 1) = k + 1 := by
    have l1 := letN_max (k := 8) (l := (nm ++ r).drop 1) (n := k + 1) (by omega) (by rw [List.length_drop]; omega) (fun j hj => by rw [hd, hget _ (by omega)]; exact hal j hj)
    have l2 := (letN_le 8 ((nm ++ r).drop 1)).2.2
    rcases Nat.lt_or_ge (k + 1) (letN 8 ((nm ++ r).drop 1)) with h | h
    · have := l2 (k + 1) h
      rw [hd, hget _ (by omega), h59] at this
      exact absurd this (by decide)
    · omega
  have hs : semiOk (nm ++ r) (k + 1) = true := by
    unfold semiOk
    rw [upto_app nm r _ (by omega), hn, hget _ (by omega), h59]
    simp
    omega
  unfold rdP
  rw [if_neg (by rw [hget 0 (by omega), h0]; simp; omega), hget 1 (by omega), if_neg h1, hL, if_pos hs, upto_app nm r _ (by omega), hn]
  simp; omega
theorem dec_ref (nm r : List UInt8) (v : Bool) (k : Nat) (c : UInt8) (hk : nm.length = k + 3) (h0 : nm.getD 0 0 = 38) (h1 : nm.getD 1 0 ≠ 35) (hal : ∀ j < k + 1, anB (nm.getD (j + 1) 0) = true) (hk8 : k + 1 < 8)
    (h59 : nm.getD (k + 2) 0 = 59) (hn : named (upto nm (k + 2)) = ([c], true)) : decF (nm ++ r) v = c :: decF r v := by
  have e := rd_ref nm r v k c hk h0 h1 hal hk8 h59 hn
  have hne : nm ++ r ≠ [] := fun h => by have := congrArg List.length h; simp at this; simp [this.1] at hk
  rw [decF_step v hne, e]
  have : ((k : Int) + 3).toNat = nm.length := by omega
  rw [if_neg (by simp; omega)]
  simp only [this, List.drop_left]
  rfl
theorem encN_38 : encN 38 = [38] := by decide +kernel
theorem encN_60 : encN 60 = [60] := by decide +kernel
theorem encN_62 : encN 62 = [62] := by decide +kernel
theorem encN_34 : encN 34 = [34] := by decide +kernel
theorem encN_160 : encN 160 = [194, 160] := by decide +kernel
theorem dec_amp (r : List UInt8) (v : Bool) : decF ([38, 97, 109, 112, 59] ++ r) v = 38 :: decF r v :=
  dec_ref _ r v 2 38 rfl rfl (by decide) (by decide) (by decide) rfl (by decide +kernel)
theorem dec_lt (r : List UInt8) (v : Bool) : decF ([38, 108, 116, 59] ++ r) v = 60 :: decF r v :=
  dec_ref _ r v 1 60 rfl rfl (by decide) (by decide) (by decide) rfl (by decide +kernel)
theorem dec_gt (r : List UInt8) (v : Bool) : decF ([38, 103, 116, 59] ++ r) v = 62 :: decF r v :=
  dec_ref _ r v 1 62 rfl rfl (by decide) (by decide) (by decide) rfl (by decide +kernel)
theorem dec_quot (r : List UInt8) (v : Bool) : decF ([38, 113, 117, 111, 116, 59] ++ r) v = 34 :: decF r v :=
  dec_ref _ r v 3 34 rfl rfl (by decide) (by decide) (by decide) rfl (by decide +kernel)
theorem dec_nbsp (r : List UInt8) (v : Bool) : decF (nbsp ++ r) v = 194 :: 160 :: decF r v := by
  have e : rdP (nbsp ++ r) v = ([194, 160], 6) := by
    have hL : letN 8 ((nbsp ++ r).drop 1) = 4 := by
      show letN 8 (110 :: 98 :: 115 :: 112 :: 59 :: r) = 4
      have a1 : anB 110 = true := by decide
      have a2 : anB 98 = true := by decide
      have a3 : anB 115 = true := by decide
      have a4 : anB 112 = true := by decide
      have a5 : anB 59 = false := by decide
      simp [letN, a1, a2, a3, a4, a5]
    have hn : named (upto (nbsp ++ r) 5) = ([194, 160], true) := by
      rw [upto_app nbsp r _ (by decide)]; decide +kernel
    have hs : semiOk (nbsp ++ r) 4 = true := by
      unfold semiOk
      rw [hn]
      simp [nbsp]
    unfold rdP
    rw [if_neg (by simp [nbsp]), if_neg (by simp [nbsp]), hL, if_pos hs, hn]
    rfl
  have hne : nbsp ++ r ≠ [] := by simp [nbsp]
  rw [decF_step v hne, e, if_neg (by decide)]
  rfl
theorem dec_plain (c : UInt8) (r : List UInt8) (v : Bool) (h : c ≠ 38) : decF (c :: r) v = c :: decF r v := by
  have e : rdP (c :: r) v = ([], 0) := by
    unfold rdP; rw [if_pos (.inr (by simpa using h))]
  rw [decF_step v (by simp), e]
  rfl
theorem dec_one (q v : Bool) (c : UInt8) (r : List UInt8) : decF (oneB q c ++ r) v = c :: decF r v := by
  unfold oneB refB
  by_cases h1 : c = 38
  · subst h1; exact dec_amp r v
  · have e1 : (c == 38) = false := beq_eq_false_iff_ne.2 h1
    rw [e1]
    by_cases h2 : c = 60
    · subst h2; exact dec_lt r v
    · have e2 : (c == 60) = false := beq_eq_false_iff_ne.2 h2
      rw [e2]
      by_cases h3 : c = 62
      · subst h3; exact dec_gt r v
      · have e3 : (c == 62) = false := beq_eq_false_iff_ne.2 h3
        rw [e3]
        cases h4 : (c == 34 && q)
        · exact dec_plain c r v h1
        · have : c = 34 := by simp at h4; exact h4.1
          subst this
          exact dec_quot r v
/-- what was written is read as it was -/
theorem dec_esc (q v : Bool) : ∀ l : List UInt8, decF (escL q l) v = l
  | [] => rfl
  | [c] => by
    have := dec_one q v c []
    rw [List.append_nil] at this
    exact this
  | c :: d :: r => by
    have h1 := dec_esc q v r
    have h2 := dec_esc q v (d :: r)
    unfold escL
    cases h : (c == 194 && d == 160)
    · rw [cond_false, dec_one, h2]
    · simp only [Bool.and_eq_true, beq_iff_eq] at h
      obtain ⟨rfl, rfl⟩ := h
      rw [cond_true, dec_nbsp, h1]
/-- no sign is left -/
theorem esc_free (q : Bool) (cs : List UInt8) (hcs : ∀ c ∈ cs, c = 60 ∨ c = 62 ∨ (c = 34 ∧ q = true)) : ∀ (l : List UInt8), ∀ b ∈ escL q l, cs.contains b = false
  | [], b, hb => by cases hb
  | [c], b, hb => one c b hb
  | c :: d :: r, b, hb => by
    have h1 := esc_free q cs hcs r
    have h2 := esc_free q cs hcs (d :: r)
    unfold escL at hb
    cases h : (c == 194 && d == 160)
    · rw [h, cond_false, List.mem_append] at hb
      rcases hb with hb | hb
      · exact one c b hb
      · exact h2 b hb
    · rw [h, cond_true, List.mem_append] at hb
      rcases hb with hb | hb
      · refine fr b ?_ ?_
        all_goals (revert hb; simp only [nbsp, List.mem_cons, List.not_mem_nil, or_false]; rintro (rfl | rfl | rfl | rfl | rfl | rfl) <;> simp)
      · exact h1 b hb
where
  fr (b : UInt8) (h1 : b ≠ 60 ∧ b ≠ 62) (h2 : b = 34 → q = false) : cs.contains b = false := by
    rw [Bool.eq_false_iff]
    intro h
    rw [List.contains_iff_mem] at h
    rcases hcs b h with e | e | ⟨e, e'⟩
    · exact h1.1 e
    · exact h1.2 e
    · rw [h2 e] at e'; cases e'
  one (c b : UInt8) (hb : b ∈ oneB q c) : cs.contains b = false := by
    unfold oneB refB at hb
    by_cases h1 : c = 38
    · subst h1
      refine fr b ?_ ?_
      all_goals (revert hb; simp; rintro (rfl | rfl | rfl | rfl | rfl) <;> simp)
    · have e1 : (c == 38) = false := beq_eq_false_iff_ne.2 h1
      rw [e1] at hb
      by_cases h2 : c = 60
      · subst h2
        refine fr b ?_ ?_
        all_goals (revert hb; simp; rintro (rfl | rfl | rfl | rfl) <;> simp)
      · have e2 : (c == 60) = false := beq_eq_false_iff_ne.2 h2
        rw [e2] at hb
        by_cases h3 : c = 62
        · subst h3
          refine fr b ?_ ?_
          all_goals (revert hb; simp; rintro (rfl | rfl | rfl | rfl) <;> simp)
        · have e3 : (c == 62) = false := beq_eq_false_iff_ne.2 h3
          rw [e3] at hb
          cases h4 : (c == 34 && q)
          · rw [h4] at hb
            simp at hb
            subst hb
            refine fr b ⟨h2, h3⟩ (fun e => ?_)
            subst e; simpa using h4
          · rw [h4] at hb
            refine fr b ?_ ?_
            all_goals (revert hb; simp; rintro (rfl | rfl | rfl | rfl | rfl | rfl) <;> simp)
end Go.Vc

namespace Go.Vc
open Go.Proofs
set_option linter.unusedVariables false
set_option maxRecDepth 10000
set_option linter.unusedSimpArgs false
theorem ft_at {n : Int} {i : Nat} (h : i < 27) : (fromTab.zip toTab).drop i = (fromTab.getD i 0, toTab.getD i 0) :: (fromTab.zip toTab).drop (i + 1) := by
  have key : ∀ k : _root_.Fin 27, (fromTab.zip toTab).drop k.val = (fromTab.getD k.val 0, toTab.getD k.val 0) :: (fromTab.zip toTab).drop (k.val + 1) := by decide
  exact key ⟨i, h⟩
theorem ft_f : ([128, 130, 131, 132, 133, 134, 135, 136, 137, 138, 139, 140, 142, 145, 146, 147, 148, 149, 150, 151, 152, 153, 154, 155, 156, 158, 159] : List Int) = fromTab := rfl
theorem ft_t : ([8364, 8218, 402, 8222, 8230, 8224, 8225, 710, 8240, 352, 8249, 338, 381, 8216, 8217, 8220, 8221, 8226, 8211, 8212, 732, 8482, 353, 8250, 339, 382, 376] : List Int) = toTab := rfl
theorem ft_fl : fromTab.length = 27 := rfl
theorem ft_tl : toTab.length = 27 := rfl
theorem refK_def (n : Int) : refK n = match (fromTab.zip toTab).find? (fun e => e.1 == n) with | some e => e.2 | none => if n = 0 then 65533 else n := rfl
theorem numF_ref (n : Int) : numF n = encN (refK n) := by unfold numF; rw [refK_eq]
end Go.Vc

namespace Go.Vc
open Go.Proofs
set_option linter.unusedVariables false
set_option maxRecDepth 10000
set_option linter.unusedSimpArgs false
theorem digs_step {base : Int} {s : List UInt8} {i : Nat} {n : Int} (h : i < s.length) :
    digsL base (s.drop i) n i = if hexI (s.getD i 0).toNat < 0 ∨ base ≤ hexI (s.getD i 0).toNat then (n, (i : Int)) else digsL base (s.drop (i + 1)) (min (n * base + hexI (s.getD i 0).toNat) 1114112) ((i + 1 : Nat) : Int) := by
  rw [List.drop_eq_getElem_cons h, digsL]
  have e : s.getD i 0 = s[i] := by simp [List.getD, List.getElem?_eq_getElem h]
  rw [e]; rfl
theorem digs_end {base : Int} {s : List UInt8} {i : Nat} {n : Int} (h : s.length ≤ i) : digsL base (s.drop i) n i = (n, (i : Int)) := by
  rw [List.drop_of_length_le h]; rfl
theorem hexI_le (c : Int) : hexI c ≤ 15 := by unfold hexI; (repeat' split) <;> omega
instance fDig (s : List UInt8) (at_ base : Int) : Fn BB 169 [.str s, .int .i64 at_, .int .i64 base] (0 ≤ at_ ∧ at_ ≤ s.length ∧ s.length ≤ 100000 ∧ (base = 10 ∨ base = 16)) (.tup [.int .i64 (digsL base (s.drop at_.toNat) 0 at_).1, .int .i64 (digsL base (s.drop at_.toNat) 0 at_).2]) := by
  refine Fn.intro (N := 36) [0, 1, 2, 6, 7, 8, 9, 13, 26, 33] [] Try.call169 Try.func169 rfl rfl (by kernel_rfl) (fun hpre => ?_)
  obtain ⟨p1, p2, p3, p4⟩ := hpre
  repeat' ((conv => whnf); first | (with_reducible rfl) | exact True.intro | (with_reducible exact absTF) | (with_reducible exact absFT) | intro _ | refine And.intro ?_ ?_ | refine Fin.mk ?_ | refine CallG.plain rfl ?_ ?_ | refine CallG.mk rfl ?_ ?_ | refine CallG.nwl rfl ?_ ?_ | refine CallG.nw ?_ ?_ | refine CallF.nwl rfl ?_ ?_ | refine CallF.nw ?_ ?_ | refine AppN.mk ?_ | (refine CallS.q ?_; (conv => whnf); first | refine CallG.plain rfl ?_ ?_ | refine CallG.mk rfl ?_ ?_) | (refine CallS.m ?_; (conv => whnf); refine CallM.mk rfl ?_ ?_) | (refine CallS.h ?_; (conv => whnf); refine CallM.mk rfl ?_ ?_) | (refine CallS.b ?_; (conv => whnf); refine CallM.mk rfl ?_ ?_) | (refine CallS.z ?_; (conv => whnf); refine CallM.mk rfl ?_ ?_))
  all_goals (try (conv => whnf))
  all_goals (try (exact Ob.mk (u8_bnd _)))
  all_goals (try (refine Ob.mk ?_; first | exact True.intro | assumption | omega | (try simp only [decide_eq_true_eq, decide_eq_false_iff_not, beq_iff_eq, beq_eq_false_iff_ne, bne_iff_ne, bne_eq_false_iff_eq, ne_eq, Bool.and_eq_true, Bool.or_eq_true, Bool.not_eq_true, Bool.not_eq_false, Bool.not_eq_true', Bool.not_eq_false', Int.toNat_natCast, Int.not_lt, Int.not_le, UInt8.ofNat_toNat, cast_eq] at *; omega)))
  all_goals (try ((show (_:Int) = _); omega))
  all_goals (try (show tupSV _ = _; with_unfolding_all rfl))
  all_goals (try ((show (_ : Nat) ≤ _); (simp <;> omega)))
  all_goals (try ((show (_ : Nat) ≤ _ ∧ (_ : Nat) ≤ _); (simp <;> omega)))
  all_goals (try ((show (_ : Int) ≤ _ ∧ (_ : Int) ≤ _ ∧ (_ : Int) ≤ _ ∧ (_ : Int) ≤ _); (simp <;> omega)))
  refine LoopStop.mk (α := Int × Nat) (fun a => [(8, .int .i64 a.1), (1, .int .i64 (a.2 : Nat))]) (fun _ => []) 0 (fun a => 0 ≤ a.1 ∧ a.1 ≤ 1114112 ∧ a.2 ≤ s.length ∧ digsL base (s.drop a.2) a.1 a.2 = digsL base (s.drop at_.toNat) 0 at_) (fun a => s.length - a.2) (0, at_.toNat) ⟨by simp, by simp, by simp; omega, by rw [show ((at_.toNat : Nat) : Int) = at_ by omega]⟩ ?_ (fun a ha => ?_)
  · repeat' ((conv => whnf); first | (with_reducible rfl) | exact True.intro | (with_reducible exact absTF) | (with_reducible exact absFT) | intro _ | refine And.intro ?_ ?_ | refine Fin.mk ?_ | refine CallG.plain rfl ?_ ?_ | refine CallG.mk rfl ?_ ?_ | refine CallG.nwl rfl ?_ ?_ | refine CallG.nw ?_ ?_ | refine CallF.nwl rfl ?_ ?_ | refine CallF.nw ?_ ?_ | refine AppN.mk ?_ | (refine CallS.q ?_; (conv => whnf); first | refine CallG.plain rfl ?_ ?_ | refine CallG.mk rfl ?_ ?_) | (refine CallS.m ?_; (conv => whnf); refine CallM.mk rfl ?_ ?_) | (refine CallS.h ?_; (conv => whnf); refine CallM.mk rfl ?_ ?_) | (refine CallS.b ?_; (conv => whnf); refine CallM.mk rfl ?_ ?_) | (refine CallS.z ?_; (conv => whnf); refine CallM.mk rfl ?_ ?_))
    all_goals (try (conv => whnf))
    all_goals (try (exact Ob.mk (u8_bnd _)))
    all_goals (try (refine Ob.mk ?_; first | exact True.intro | assumption | omega | (try simp only [decide_eq_true_eq, decide_eq_false_iff_not, beq_iff_eq, beq_eq_false_iff_ne, bne_iff_ne, bne_eq_false_iff_eq, ne_eq, Bool.and_eq_true, Bool.or_eq_true, Bool.not_eq_true, Bool.not_eq_false, Bool.not_eq_true', Bool.not_eq_false', Int.toNat_natCast, Int.not_lt, Int.not_le, UInt8.ofNat_toNat, cast_eq] at *; omega)))
    all_goals (try ((show (_:Int) = _); omega))
    all_goals (try (show tupSV _ = _; with_unfolding_all rfl))
    all_goals (try ((show (_ : Nat) ≤ _); (simp <;> omega)))
    all_goals (try ((show (_ : Nat) ≤ _ ∧ (_ : Nat) ≤ _); (simp <;> omega)))
    all_goals (try ((show (_ : Int) ≤ _ ∧ (_ : Int) ≤ _ ∧ (_ : Int) ≤ _ ∧ (_ : Int) ≤ _); (simp <;> omega)))
    all_goals (try rfl)
  · obtain ⟨n, i⟩ := a
    obtain ⟨a1, a2, a3, a4⟩ := ha
    dsimp only at a1 a2 a3 a4 ⊢
    have hh := hexI_le (s.getD i 0).toNat
    have hstep := digs_step (base := base) (s := s) (i := i) (n := n)
    have hend := digs_end (base := base) (s := s) (i := i) (n := n)
    have hm : 0 ≤ n * base ∧ n * base ≤ 17825792 := by rcases p4 with rfl | rfl <;> omega
    repeat' ((conv => whnf); first | (with_reducible rfl) | exact True.intro | (with_reducible exact absTF) | (with_reducible exact absFT) | intro _ | refine And.intro ?_ ?_ | refine Fin.mk ?_ | refine CallG.plain rfl ?_ ?_ | refine CallG.mk rfl ?_ ?_ | refine CallG.nwl rfl ?_ ?_ | refine CallG.nw ?_ ?_ | refine CallF.nwl rfl ?_ ?_ | refine CallF.nw ?_ ?_ | refine AppN.mk ?_ | (refine CallS.q ?_; (conv => whnf); first | refine CallG.plain rfl ?_ ?_ | refine CallG.mk rfl ?_ ?_) | (refine CallS.m ?_; (conv => whnf); refine CallM.mk rfl ?_ ?_) | (refine CallS.h ?_; (conv => whnf); refine CallM.mk rfl ?_ ?_) | (refine CallS.b ?_; (conv => whnf); refine CallM.mk rfl ?_ ?_) | (refine CallS.z ?_; (conv => whnf); refine CallM.mk rfl ?_ ?_))
    all_goals (try (conv => whnf))
    all_goals (try (exact Ob.mk (u8_bnd _)))
    all_goals (try (refine Ob.mk ?_; first | exact True.intro | assumption | omega | (try simp only [decide_eq_true_eq, decide_eq_false_iff_not, beq_iff_eq, beq_eq_false_iff_ne, bne_iff_ne, bne_eq_false_iff_eq, ne_eq, Bool.and_eq_true, Bool.or_eq_true, Bool.not_eq_true, Bool.not_eq_false, Bool.not_eq_true', Bool.not_eq_false', Int.toNat_natCast, Int.not_lt, Int.not_le, UInt8.ofNat_toNat, cast_eq] at *; omega)))
    all_goals (try ((show (_:Int) = _); omega))
    all_goals (try (show tupSV _ = _; with_unfolding_all rfl))
    all_goals (try ((show (_ : Nat) ≤ _); (simp <;> omega)))
    all_goals (try ((show (_ : Nat) ≤ _ ∧ (_ : Nat) ≤ _); (simp <;> omega)))
    all_goals (try ((show (_ : Int) ≤ _ ∧ (_ : Int) ≤ _ ∧ (_ : Int) ≤ _ ∧ (_ : Int) ≤ _); (simp <;> omega)))
    all_goals (try (simp only [Int.toNat_natCast, Int.reduceToNat, Ty.dflt, cast_eq] at *))
    all_goals (try simp only [decide_eq_true_eq, decide_eq_false_iff_not, beq_iff_eq, beq_eq_false_iff_ne, bne_iff_ne, bne_eq_false_iff_eq, ne_eq, Bool.and_eq_true, Bool.or_eq_true, Bool.and_eq_false_iff, Bool.or_eq_false_iff, Bool.not_eq_true, Bool.not_eq_false, Bool.not_eq_true', Bool.not_eq_false', Int.toNat_natCast, Int.not_lt, Int.not_le, ge_iff_le, gt_iff_lt, UInt8.ofNat_toNat, cast_eq] at *)
    all_goals (try omega)
    all_goals (try (have hlt : i < s.length := by omega))
    all_goals (try (have hst := hstep hlt))
    · rw [← a4, hst, if_pos ‹_›]
    · rw [← a4, hst, if_pos ‹_›]
    · refine Rnd.mk ⟨(1114112, i + 1), ?_, ?_, ?_⟩
      · refine ⟨by simp, by simp, hlt, ?_⟩
        rw [← a4, hst, if_neg (by omega)]
        congr 1; omega
      · simp only; omega
      · repeat' ((conv => whnf); first | (with_reducible rfl) | exact True.intro | (with_reducible exact absTF) | (with_reducible exact absFT) | intro _ | refine And.intro ?_ ?_ | refine Fin.mk ?_ | refine CallG.plain rfl ?_ ?_ | refine CallG.mk rfl ?_ ?_ | refine CallG.nwl rfl ?_ ?_ | refine CallG.nw ?_ ?_ | refine CallF.nwl rfl ?_ ?_ | refine CallF.nw ?_ ?_ | refine AppN.mk ?_ | (refine CallS.q ?_; (conv => whnf); first | refine CallG.plain rfl ?_ ?_ | refine CallG.mk rfl ?_ ?_) | (refine CallS.m ?_; (conv => whnf); refine CallM.mk rfl ?_ ?_) | (refine CallS.h ?_; (conv => whnf); refine CallM.mk rfl ?_ ?_) | (refine CallS.b ?_; (conv => whnf); refine CallM.mk rfl ?_ ?_) | (refine CallS.z ?_; (conv => whnf); refine CallM.mk rfl ?_ ?_))
        all_goals (try (conv => whnf))
        all_goals (try (exact Ob.mk (u8_bnd _)))
        all_goals (try (refine Ob.mk ?_; first | exact True.intro | assumption | omega | (try simp only [decide_eq_true_eq, decide_eq_false_iff_not, beq_iff_eq, beq_eq_false_iff_ne, bne_iff_ne, bne_eq_false_iff_eq, ne_eq, Bool.and_eq_true, Bool.or_eq_true, Bool.not_eq_true, Bool.not_eq_false, Bool.not_eq_true', Bool.not_eq_false', Int.toNat_natCast, Int.not_lt, Int.not_le, UInt8.ofNat_toNat, cast_eq] at *; omega)))
        all_goals (try ((show (_:Int) = _); omega))
        all_goals (try (show tupSV _ = _; with_unfolding_all rfl))
        all_goals (try ((show (_ : Nat) ≤ _); (simp <;> omega)))
        all_goals (try ((show (_ : Nat) ≤ _ ∧ (_ : Nat) ≤ _); (simp <;> omega)))
        all_goals (try ((show (_ : Int) ≤ _ ∧ (_ : Int) ≤ _ ∧ (_ : Int) ≤ _ ∧ (_ : Int) ≤ _); (simp <;> omega)))
    · refine Rnd.mk ⟨(n * base + hexI (s.getD i 0).toNat, i + 1), ?_, ?_, ?_⟩
      · refine ⟨by simp only; omega, by simp only; omega, hlt, ?_⟩
        rw [← a4, hst, if_neg (by omega)]
        congr 1; omega
      · simp only; omega
      · repeat' ((conv => whnf); first | (with_reducible rfl) | exact True.intro | (with_reducible exact absTF) | (with_reducible exact absFT) | intro _ | refine And.intro ?_ ?_ | refine Fin.mk ?_ | refine CallG.plain rfl ?_ ?_ | refine CallG.mk rfl ?_ ?_ | refine CallG.nwl rfl ?_ ?_ | refine CallG.nw ?_ ?_ | refine CallF.nwl rfl ?_ ?_ | refine CallF.nw ?_ ?_ | refine AppN.mk ?_ | (refine CallS.q ?_; (conv => whnf); first | refine CallG.plain rfl ?_ ?_ | refine CallG.mk rfl ?_ ?_) | (refine CallS.m ?_; (conv => whnf); refine CallM.mk rfl ?_ ?_) | (refine CallS.h ?_; (conv => whnf); refine CallM.mk rfl ?_ ?_) | (refine CallS.b ?_; (conv => whnf); refine CallM.mk rfl ?_ ?_) | (refine CallS.z ?_; (conv => whnf); refine CallM.mk rfl ?_ ?_))
        all_goals (try (conv => whnf))
        all_goals (try (exact Ob.mk (u8_bnd _)))
        all_goals (try (refine Ob.mk ?_; first | exact True.intro | assumption | omega | (try simp only [decide_eq_true_eq, decide_eq_false_iff_not, beq_iff_eq, beq_eq_false_iff_ne, bne_iff_ne, bne_eq_false_iff_eq, ne_eq, Bool.and_eq_true, Bool.or_eq_true, Bool.not_eq_true, Bool.not_eq_false, Bool.not_eq_true', Bool.not_eq_false', Int.toNat_natCast, Int.not_lt, Int.not_le, UInt8.ofNat_toNat, cast_eq] at *; omega)))
        all_goals (try ((show (_:Int) = _); omega))
        all_goals (try (show tupSV _ = _; with_unfolding_all rfl))
        all_goals (try ((show (_ : Nat) ≤ _); (simp <;> omega)))
        all_goals (try ((show (_ : Nat) ≤ _ ∧ (_ : Nat) ≤ _); (simp <;> omega)))
        all_goals (try ((show (_ : Int) ≤ _ ∧ (_ : Int) ≤ _ ∧ (_ : Int) ≤ _ ∧ (_ : Int) ≤ _); (simp <;> omega)))
    · rw [← a4, hend (by omega)]
    · rw [← a4, hend (by omega)]
theorem an_def (c : UInt8) : (alI (c.toNat : Int) || decide (48 ≤ (c.toNat : Int)) && decide ((c.toNat : Int) ≤ 57)) = anB c := rfl
theorem let_step {s : List UInt8} {i : Nat} (h : i < s.length) (hi : i < 8) : letN (8 - i) (s.drop i) = if anB (s.getD i 0) = true then letN (8 - (i + 1)) (s.drop (i + 1)) + 1 else 0 := by
  rw [List.drop_eq_getElem_cons h, show 8 - i = (8 - (i + 1)) + 1 by omega, letN]
  have e : s.getD i 0 = s[i] := by simp [List.getD, List.getElem?_eq_getElem h]
  rw [e]
theorem let_end {s : List UInt8} {i : Nat} (h : s.length ≤ i ∨ 8 ≤ i) : letN (8 - i) (s.drop i) = 0 := by
  rcases h with h | h
  · rw [List.drop_of_length_le h]; cases 8 - i <;> rfl
  · rw [show 8 - i = 0 by omega]; rfl
instance fLetN (s : List UInt8) : Fn BB 151 [.str s] (s.length ≤ 100000) (.int .i64 (letN 8 s)) := by
  refine Fn.intro (N := 33) [0, 2, 3, 29] [] Try.call151 Try.func151 rfl rfl (by kernel_rfl) (fun hpre => ?_)
  repeat' ((conv => whnf); first | (with_reducible rfl) | exact True.intro | (with_reducible exact absTF) | (with_reducible exact absFT) | intro _ | refine And.intro ?_ ?_ | refine Fin.mk ?_ | refine CallG.plain rfl ?_ ?_ | refine CallG.mk rfl ?_ ?_ | refine CallG.nwl rfl ?_ ?_ | refine CallG.nw ?_ ?_ | refine CallF.nwl rfl ?_ ?_ | refine CallF.nw ?_ ?_ | refine AppN.mk ?_ | (refine CallS.q ?_; (conv => whnf); first | refine CallG.plain rfl ?_ ?_ | refine CallG.mk rfl ?_ ?_) | (refine CallS.m ?_; (conv => whnf); refine CallM.mk rfl ?_ ?_) | (refine CallS.h ?_; (conv => whnf); refine CallM.mk rfl ?_ ?_) | (refine CallS.b ?_; (conv => whnf); refine CallM.mk rfl ?_ ?_) | (refine CallS.z ?_; (conv => whnf); refine CallM.mk rfl ?_ ?_))
  all_goals (try (conv => whnf))
  all_goals (try (exact Ob.mk (u8_bnd _)))
  all_goals (try (refine Ob.mk ?_; first | exact True.intro | assumption | omega | (try simp only [decide_eq_true_eq, decide_eq_false_iff_not, beq_iff_eq, beq_eq_false_iff_ne, bne_iff_ne, bne_eq_false_iff_eq, ne_eq, Bool.and_eq_true, Bool.or_eq_true, Bool.not_eq_true, Bool.not_eq_false, Bool.not_eq_true', Bool.not_eq_false', Int.toNat_natCast, Int.not_lt, Int.not_le, UInt8.ofNat_toNat, cast_eq] at *; omega)))
  all_goals (try ((show (_:Int) = _); omega))
  all_goals (try (show tupSV _ = _; with_unfolding_all rfl))
  all_goals (try ((show (_ : Nat) ≤ _); (simp <;> omega)))
  all_goals (try ((show (_ : Nat) ≤ _ ∧ (_ : Nat) ≤ _); (simp <;> omega)))
  all_goals (try ((show (_ : Int) ≤ _ ∧ (_ : Int) ≤ _ ∧ (_ : Int) ≤ _ ∧ (_ : Int) ≤ _); (simp <;> omega)))
  refine LoopStop.mk (α := Nat) (fun i => [(3, .int .i64 i)]) (fun _ => []) 0 (fun i => i ≤ s.length ∧ i ≤ 8 ∧ letN 8 s = i + letN (8 - i) (s.drop i)) (fun i => 8 - i) 0 (by simp) ?_ (fun i hi => ?_)
  · repeat' ((conv => whnf); first | (with_reducible rfl) | exact True.intro | (with_reducible exact absTF) | (with_reducible exact absFT) | intro _ | refine And.intro ?_ ?_ | refine Fin.mk ?_ | refine CallG.plain rfl ?_ ?_ | refine CallG.mk rfl ?_ ?_ | refine CallG.nwl rfl ?_ ?_ | refine CallG.nw ?_ ?_ | refine CallF.nwl rfl ?_ ?_ | refine CallF.nw ?_ ?_ | refine AppN.mk ?_ | (refine CallS.q ?_; (conv => whnf); first | refine CallG.plain rfl ?_ ?_ | refine CallG.mk rfl ?_ ?_) | (refine CallS.m ?_; (conv => whnf); refine CallM.mk rfl ?_ ?_) | (refine CallS.h ?_; (conv => whnf); refine CallM.mk rfl ?_ ?_) | (refine CallS.b ?_; (conv => whnf); refine CallM.mk rfl ?_ ?_) | (refine CallS.z ?_; (conv => whnf); refine CallM.mk rfl ?_ ?_))
    all_goals (try (conv => whnf))
    all_goals (try (exact Ob.mk (u8_bnd _)))
    all_goals (try (refine Ob.mk ?_; first | exact True.intro | assumption | omega | (try simp only [decide_eq_true_eq, decide_eq_false_iff_not, beq_iff_eq, beq_eq_false_iff_ne, bne_iff_ne, bne_eq_false_iff_eq, ne_eq, Bool.and_eq_true, Bool.or_eq_true, Bool.not_eq_true, Bool.not_eq_false, Bool.not_eq_true', Bool.not_eq_false', Int.toNat_natCast, Int.not_lt, Int.not_le, UInt8.ofNat_toNat, cast_eq] at *; omega)))
    all_goals (try ((show (_:Int) = _); omega))
    all_goals (try (show tupSV _ = _; with_unfolding_all rfl))
    all_goals (try ((show (_ : Nat) ≤ _); (simp <;> omega)))
    all_goals (try ((show (_ : Nat) ≤ _ ∧ (_ : Nat) ≤ _); (simp <;> omega)))
    all_goals (try ((show (_ : Int) ≤ _ ∧ (_ : Int) ≤ _ ∧ (_ : Int) ≤ _ ∧ (_ : Int) ≤ _); (simp <;> omega)))
    all_goals (try rfl)
  · obtain ⟨h1, h2, h3⟩ := hi
    have hstep := let_step (s := s) (i := i)
    have hend := let_end (s := s) (i := i)
    repeat' ((conv => whnf); first | (with_reducible rfl) | exact True.intro | (with_reducible exact absTF) | (with_reducible exact absFT) | intro _ | refine And.intro ?_ ?_ | refine Fin.mk ?_ | refine CallG.plain rfl ?_ ?_ | refine CallG.mk rfl ?_ ?_ | refine CallG.nwl rfl ?_ ?_ | refine CallG.nw ?_ ?_ | refine CallF.nwl rfl ?_ ?_ | refine CallF.nw ?_ ?_ | refine AppN.mk ?_ | (refine CallS.q ?_; (conv => whnf); first | refine CallG.plain rfl ?_ ?_ | refine CallG.mk rfl ?_ ?_) | (refine CallS.m ?_; (conv => whnf); refine CallM.mk rfl ?_ ?_) | (refine CallS.h ?_; (conv => whnf); refine CallM.mk rfl ?_ ?_) | (refine CallS.b ?_; (conv => whnf); refine CallM.mk rfl ?_ ?_) | (refine CallS.z ?_; (conv => whnf); refine CallM.mk rfl ?_ ?_))
    all_goals (try (conv => whnf))
    all_goals (try (exact Ob.mk (u8_bnd _)))
    all_goals (try (refine Ob.mk ?_; first | exact True.intro | assumption | omega | (try simp only [decide_eq_true_eq, decide_eq_false_iff_not, beq_iff_eq, beq_eq_false_iff_ne, bne_iff_ne, bne_eq_false_iff_eq, ne_eq, Bool.and_eq_true, Bool.or_eq_true, Bool.not_eq_true, Bool.not_eq_false, Bool.not_eq_true', Bool.not_eq_false', Int.toNat_natCast, Int.not_lt, Int.not_le, UInt8.ofNat_toNat, cast_eq] at *; omega)))
    all_goals (try ((show (_:Int) = _); omega))
    all_goals (try (show tupSV _ = _; with_unfolding_all rfl))
    all_goals (try ((show (_ : Nat) ≤ _); (simp <;> omega)))
    all_goals (try ((show (_ : Nat) ≤ _ ∧ (_ : Nat) ≤ _); (simp <;> omega)))
    all_goals (try ((show (_ : Int) ≤ _ ∧ (_ : Int) ≤ _ ∧ (_ : Int) ≤ _ ∧ (_ : Int) ≤ _); (simp <;> omega)))
    all_goals (try (simp only [Int.toNat_natCast, Int.reduceToNat, Ty.dflt, cast_eq] at *))
    all_goals (simp only [an_def] at *)
    all_goals (try simp only [decide_eq_true_eq, decide_eq_false_iff_not, beq_iff_eq, beq_eq_false_iff_ne, bne_iff_ne, bne_eq_false_iff_eq, ne_eq, Bool.and_eq_true, Bool.or_eq_true, Bool.and_eq_false_iff, Bool.or_eq_false_iff, Bool.not_eq_true, Bool.not_eq_false, Bool.not_eq_true', Bool.not_eq_false', Int.toNat_natCast, Int.not_lt, Int.not_le, ge_iff_le, gt_iff_lt, UInt8.ofNat_toNat, cast_eq] at *)
    · obtain ⟨⟨g1, g2⟩, g3⟩ := ‹_ ∧ anB _ = true›
      have hst := hstep (by omega) (by omega)
      rw [if_pos g3] at hst
      refine Rnd.mk ⟨i + 1, ?_, ?_, ?_⟩
      · exact ⟨by omega, by omega, by omega⟩
      · omega
      · repeat' ((conv => whnf); first | (with_reducible rfl) | exact True.intro | (with_reducible exact absTF) | (with_reducible exact absFT) | intro _ | refine And.intro ?_ ?_ | refine Fin.mk ?_ | refine CallG.plain rfl ?_ ?_ | refine CallG.mk rfl ?_ ?_ | refine CallG.nwl rfl ?_ ?_ | refine CallG.nw ?_ ?_ | refine CallF.nwl rfl ?_ ?_ | refine CallF.nw ?_ ?_ | refine AppN.mk ?_ | (refine CallS.q ?_; (conv => whnf); first | refine CallG.plain rfl ?_ ?_ | refine CallG.mk rfl ?_ ?_) | (refine CallS.m ?_; (conv => whnf); refine CallM.mk rfl ?_ ?_) | (refine CallS.h ?_; (conv => whnf); refine CallM.mk rfl ?_ ?_) | (refine CallS.b ?_; (conv => whnf); refine CallM.mk rfl ?_ ?_) | (refine CallS.z ?_; (conv => whnf); refine CallM.mk rfl ?_ ?_))
        all_goals (try (conv => whnf))
        all_goals (try (exact Ob.mk (u8_bnd _)))
        all_goals (try (refine Ob.mk ?_; first | exact True.intro | assumption | omega | (try simp only [decide_eq_true_eq, decide_eq_false_iff_not, beq_iff_eq, beq_eq_false_iff_ne, bne_iff_ne, bne_eq_false_iff_eq, ne_eq, Bool.and_eq_true, Bool.or_eq_true, Bool.not_eq_true, Bool.not_eq_false, Bool.not_eq_true', Bool.not_eq_false', Int.toNat_natCast, Int.not_lt, Int.not_le, UInt8.ofNat_toNat, cast_eq] at *; omega)))
        all_goals (try ((show (_:Int) = _); omega))
        all_goals (try (show tupSV _ = _; with_unfolding_all rfl))
        all_goals (try ((show (_ : Nat) ≤ _); (simp <;> omega)))
        all_goals (try ((show (_ : Nat) ≤ _ ∧ (_ : Nat) ≤ _); (simp <;> omega)))
        all_goals (try ((show (_ : Int) ≤ _ ∧ (_ : Int) ≤ _ ∧ (_ : Int) ≤ _ ∧ (_ : Int) ≤ _); (simp <;> omega)))
    · have : letN (8 - i) (s.drop i) = 0 := by
        by_cases h8 : s.length ≤ i ∨ 8 ≤ i
        · exact hend h8
        · rw [hstep (by omega) (by omega), if_neg]
          rcases ‹(_ ∨ _) ∨ anB _ = false› with g | g
          · omega
          · rw [g]; simp
      omega
theorem hexS_or (s : List UInt8) (h : 2 < s.length) : (bitsI .or .u8 ((s.getD 2 0).toNat : Int) 32 == 120) = hexS s := by
  have key : ∀ k : _root_.Fin 256, (bitsI .or .u8 (k.val : Int) 32 == 120) = ((k.val : Int) == 120 || (k.val : Int) == 88) := by decide +kernel
  unfold hexS
  have h2 : decide (s.length > 2) = true := by simpa using h
  rw [h2, Bool.true_and, ← u8_120, ← u8_88]
  exact key ⟨(s.getD 2 0).toNat, (s.getD 2 0).toNat_lt⟩
theorem hexS_len {s : List UInt8} (h : hexS s = true) : 2 < s.length := by
  simp only [hexS, Bool.and_eq_true, decide_eq_true_eq] at h; exact h.1
theorem hexS_no {s : List UInt8} (h : s.length ≤ 2) : hexS s = false := by
  unfold hexS; rw [show decide (s.length > 2) = false by simpa using h]; rfl
theorem numAt_bound {s : List UInt8} (h : 2 ≤ s.length) : 2 ≤ (numAt s).2 ∧ (numAt s).2 ≤ s.length := by
  unfold numAt
  by_cases hx : hexS s = true
  · rw [if_pos hx]
    have := digsL_bound 16 (s.drop 3) 0 3
    have := hexS_len hx
    simp only [List.length_drop] at *
    omega
  · rw [if_neg hx]
    have := digsL_bound 10 (s.drop 2) 0 2
    simp only [List.length_drop] at *
    omega
theorem hexC (s : List UInt8) : (decide ((s.length : Int) > 2) && bitsI .or .u8 ((s.getD 2 0).toNat : Int) 32 == 120) = hexS s := by
  by_cases h : 2 < s.length
  · rw [hexS_or s h, show decide ((s.length : Int) > 2) = true from decide_eq_true (by omega), Bool.true_and]
  · rw [hexS_no (by omega), show decide ((s.length : Int) > 2) = false from decide_eq_false (by omega), Bool.false_and]
theorem hexC2 (s : List UInt8) : (decide ((s.length : Int) > 2) && (((s.getD 2 0).toNat : Int) == 120 || ((s.getD 2 0).toNat : Int) == 88)) = hexS s := by
  rw [u8_120, u8_88]
  unfold hexS
  congr 1
  rw [decide_eq_decide]; omega
def hexFrom (s : List UInt8) : Int := if hexS s = true then 3 else 2
theorem numberF_no {s : List UInt8} (h : (numAt s).2 = hexFrom s) : numberF s = ([], 0) := by
  unfold numberF; exact if_pos h
theorem numberF_semi {s : List UInt8} (h : ¬ (numAt s).2 = hexFrom s) (h2 : (numAt s).2 < s.length ∧ s.getD (numAt s).2.toNat 0 = 59) : numberF s = (numF (numAt s).1, (numAt s).2 + 1) := by
  unfold numberF; refine (if_neg h).trans ?_; rw [if_pos h2]
theorem numberF_bare {s : List UInt8} (h : ¬ (numAt s).2 = hexFrom s) (h2 : ¬ ((numAt s).2 < s.length ∧ s.getD (numAt s).2.toNat 0 = 59)) : numberF s = (numF (numAt s).1, (numAt s).2) := by
  unfold numberF; refine (if_neg h).trans ?_; rw [if_neg h2]
theorem numAt_hex {s : List UInt8} (h : hexS s = true) : digsL 16 (s.drop 3) 0 3 = numAt s ∧ hexFrom s = 3 := by
  unfold numAt hexFrom; rw [if_pos h, if_pos h]; exact ⟨rfl, rfl⟩
theorem numAt_dec {s : List UInt8} (h : hexS s = false) : digsL 10 (s.drop 2) 0 2 = numAt s ∧ hexFrom s = 2 := by
  unfold numAt hexFrom; rw [h]; exact ⟨rfl, rfl⟩
instance fNum (s : List UInt8) : Fn BB 150 [.str s] (2 ≤ s.length ∧ s.length ≤ 100000) (.tup [.str (numberF s).1, .int .i64 (numberF s).2]) := by
  refine Fn.intro (N := 42) [0, 2, 3, 4, 5, 6, 7, 16, 26, 36] [] Try.call150 Try.func150 rfl rfl (by kernel_rfl) (fun hpre => ?_)
  obtain ⟨p1, p2⟩ := hpre
  have hb := numAt_bound p1
  have hA := numAt_hex (s := s)
  have hB := numAt_dec (s := s)
  have hl := hexS_len (s := s)
  repeat' ((conv => whnf); first | (with_reducible rfl) | exact True.intro | (with_reducible exact absTF) | (with_reducible exact absFT) | intro _ | refine And.intro ?_ ?_ | refine Fin.mk ?_ | refine CallG.plain rfl ?_ ?_ | refine CallG.mk rfl ?_ ?_ | refine CallG.nwl rfl ?_ ?_ | refine CallG.nw ?_ ?_ | refine CallF.nwl rfl ?_ ?_ | refine CallF.nw ?_ ?_ | refine AppN.mk ?_ | (refine CallS.q ?_; (conv => whnf); first | refine CallG.plain rfl ?_ ?_ | refine CallG.mk rfl ?_ ?_) | (refine CallS.m ?_; (conv => whnf); refine CallM.mk rfl ?_ ?_) | (refine CallS.h ?_; (conv => whnf); refine CallM.mk rfl ?_ ?_) | (refine CallS.b ?_; (conv => whnf); refine CallM.mk rfl ?_ ?_) | (refine CallS.z ?_; (conv => whnf); refine CallM.mk rfl ?_ ?_))
  all_goals (try (conv => whnf))
  all_goals (try (exact Ob.mk (u8_bnd _)))
  all_goals (try (refine Ob.mk ?_; first | exact True.intro | assumption | omega | (try simp only [decide_eq_true_eq, decide_eq_false_iff_not, beq_iff_eq, beq_eq_false_iff_ne, bne_iff_ne, bne_eq_false_iff_eq, ne_eq, Bool.and_eq_true, Bool.or_eq_true, Bool.not_eq_true, Bool.not_eq_false, Bool.not_eq_true', Bool.not_eq_false', Int.toNat_natCast, Int.not_lt, Int.not_le, UInt8.ofNat_toNat, cast_eq] at *; omega)))
  all_goals (try ((show (_:Int) = _); omega))
  all_goals (try (show tupSV _ = _; with_unfolding_all rfl))
  all_goals (try ((show (_ : Nat) ≤ _); (simp <;> omega)))
  all_goals (try ((show (_ : Nat) ≤ _ ∧ (_ : Nat) ≤ _); (simp <;> omega)))
  all_goals (try ((show (_ : Int) ≤ _ ∧ (_ : Int) ≤ _ ∧ (_ : Int) ≤ _ ∧ (_ : Int) ≤ _); (simp <;> omega)))
  all_goals (try (simp only [Int.toNat_natCast, Int.reduceToNat, Ty.dflt, cast_eq] at *))
  all_goals (simp only [hexC, u8_59] at *)
  all_goals (first | (have hx := ‹hexS s = true›; have e2 := (hA hx).2; have hl3 := hl hx; clear hA hB hl; (try (simp only [(numAt_hex hx).1] at *))) | (have hx := ‹hexS s = false›; have e2 := (hB hx).2; clear hA hB hl; (try (simp only [(numAt_dec hx).1] at *))) | skip)
  all_goals (try (simp only [or_true, true_or, and_true]))
  all_goals (try simp only [decide_eq_true_eq, decide_eq_false_iff_not, beq_iff_eq, beq_eq_false_iff_ne, bne_iff_ne, bne_eq_false_iff_eq, ne_eq, Bool.and_eq_true, Bool.or_eq_true, Bool.and_eq_false_iff, Bool.or_eq_false_iff, Bool.not_eq_true, Bool.not_eq_false, Bool.not_eq_true', Bool.not_eq_false', Int.toNat_natCast, Int.not_lt, Int.not_le, ge_iff_le, gt_iff_lt, UInt8.ofNat_toNat, cast_eq] at *)
  all_goals (try omega)
  all_goals (try (show InI64 _; constructor <;> omega))
  all_goals (try (rw [numberF_no (by rw [e2]; assumption)]))
  all_goals (try (rw [numberF_semi (by rw [e2]; assumption) (by assumption)]))
  all_goals (try (rw [numberF_bare (by rw [e2]; assumption) (by rintro ⟨g1, g2⟩; rcases ‹_ ∨ _› with g | g; omega; exact g g2)]))
end Go.Vc

namespace Go.Vc
open Go.Proofs
set_option linter.unusedVariables false
set_option maxRecDepth 10000
set_option linter.unusedSimpArgs false
end Go.Vc

namespace Go.Vc
open Go.Proofs
set_option linter.unusedVariables false
set_option maxRecDepth 10000
set_option linter.unusedSimpArgs false
theorem take_snoc {α : Type} (l : List α) (i : Nat) (d : α) (h : i < l.length) : l.take (i + 1) = l.take i ++ [l.getD i d] := by
  rw [List.take_succ_eq_append_getElem h]; simp [List.getD, List.getElem?_eq_getElem h]
theorem drop_take_one (s : List UInt8) (i : Nat) (h : i < s.length) : (s.take (i+1)).drop i = [s.getD i 0] := by
  rw [take_snoc s i 0 h, List.drop_append, List.length_take, Nat.min_eq_left (by omega)]; simp
theorem ti1 (i : Nat) : ((i : Int) + 1).toNat = i + 1 := by omega
theorem ti2 (i : Nat) : ((i : Int) + 2).toNat = i + 2 := by omega
theorem upto_def (s : List UInt8) (n : Nat) : List.drop 1 (List.take (n + 1) s) = upto s n := rfl
theorem u8n_38 (c : UInt8) : ((c.toNat : Int) != 38) = (c != 38) := by simp only [bne, u8_38]
theorem rdP_bad {s : List UInt8} {v : Bool} (h : s.length < 2 ∨ ¬ s.getD 0 0 = 38) : rdP s v = ([], 0) := by unfold rdP; exact if_pos h
theorem rdP_go {s : List UInt8} {v : Bool} (h : 2 ≤ s.length ∧ s.getD 0 0 = 38) : rdP s v = if s.getD 1 0 = 35 then numberF s
    else if semiOk s (letN 8 (s.drop 1)) = true then ((named (upto s (letN 8 (s.drop 1) + 1))).1, (letN 8 (s.drop 1) : Int) + 2) else rdLoop s v (letN 8 (s.drop 1)) := by
  unfold rdP
  exact if_neg (by rintro (g | g); omega; exact g h.2)
theorem rdP_num {s : List UInt8} {v : Bool} (h : 2 ≤ s.length ∧ s.getD 0 0 = 38) (h1 : s.getD 1 0 = 35) : rdP s v = numberF s := by
  rw [rdP_go h, if_pos h1]
theorem rdP_semi {s : List UInt8} {v : Bool} (h : 2 ≤ s.length ∧ s.getD 0 0 = 38) (h1 : ¬ s.getD 1 0 = 35) {L : Nat} (hL : L = letN 8 (s.drop 1)) (h2 : L + 1 < s.length ∧ s.getD (L + 1) 0 = 59) (h3 : (named (upto s (L + 1))).2 = true) :
    rdP s v = ((named (upto s (L + 1))).1, (L : Int) + 2) := by
  subst hL
  rw [rdP_go h, if_neg h1, if_pos]
  simp only [semiOk, Bool.and_eq_true, decide_eq_true_eq, beq_iff_eq]
  exact ⟨h2.1, h2.2, h3⟩
theorem rdP_loop {s : List UInt8} {v : Bool} (h : 2 ≤ s.length ∧ s.getD 0 0 = 38) (h1 : ¬ s.getD 1 0 = 35) {L : Nat} (hL : L = letN 8 (s.drop 1)) (h2 : ¬ (L + 1 < s.length ∧ s.getD (L + 1) 0 = 59 ∧ (named (upto s (L + 1))).2 = true)) :
    rdP s v = rdLoop s v L := by
  subst hL
  rw [rdP_go h, if_neg h1, if_neg]
  simp only [semiOk, Bool.and_eq_true, decide_eq_true_eq, beq_iff_eq]
  exact h2
theorem stop_eq (s : List UInt8) (v : Bool) (n : Nat) : (v && decide ((n : Int) + 1 < (s.length : Int)) && (((s.getD (n + 1) 0).toNat : Int) == 61 || decide ((letN 8 (s.drop (n + 1)) : Int) > 0))) = stopV s v n := by
  have e : decide ((letN 8 (s.drop (n + 1)) : Int) > 0) = decide (letN 8 (s.drop (n + 1)) > 0) := by rw [decide_eq_decide]; omega
  have e2 : decide ((n : Int) + 1 < (s.length : Int)) = decide (n + 1 < s.length) := by rw [decide_eq_decide]; omega
  rw [u8_61, e, e2, letN_pos (by omega), stopV]
  by_cases h : n + 1 < s.length
  · have h1 : decide (0 < (s.drop (n + 1)).length) = true := decide_eq_true (by rw [List.length_drop]; omega)
    have h2 : (s.drop (n + 1)).getD 0 0 = s.getD (n + 1) 0 := by simp [List.getD]
    rw [h1, h2, Bool.true_and, decide_eq_true h]
    cases v <;> rfl
  · rw [decide_eq_false h]
    cases v <;> rfl
theorem rdL_no {s : List UInt8} {v : Bool} {n : Nat} (h0 : 0 < n) (h : (named (upto s n)).2 = false) : rdLoop s v n = rdLoop s v (n - 1) := by
  obtain ⟨m, rfl⟩ : ∃ m, n = m + 1 := ⟨n - 1, by omega⟩
  rw [rdLoop, if_pos h]; rfl
theorem rdL_stop {s : List UInt8} {v : Bool} {n : Nat} (h0 : 0 < n) (h : (named (upto s n)).2 = true) (h2 : stopV s v n = true) : rdLoop s v n = ([], 0) := by
  obtain ⟨m, rfl⟩ : ∃ m, n = m + 1 := ⟨n - 1, by omega⟩
  rw [rdLoop, if_neg (by rw [h]; simp), if_pos h2]
theorem rdL_yes {s : List UInt8} {v : Bool} {n : Nat} (h0 : 0 < n) (h : (named (upto s n)).2 = true) (h2 : stopV s v n = false) : rdLoop s v n = ((named (upto s n)).1, (n : Int) + 1) := by
  obtain ⟨m, rfl⟩ : ∃ m, n = m + 1 := ⟨n - 1, by omega⟩
  rw [rdLoop, if_neg (by rw [h]; simp), if_neg (by rw [h2]; simp)]
  congr 1
instance fRead (s : List UInt8) (v : Bool) : Fn BB 117 [.str s, .bool v] (s.length ≤ 100000) (.tup [.str (rdP s v).1, .int .i64 (rdP s v).2]) := by
  refine Fn.intro (N := 93) [0, 1, 4, 5, 6, 7, 8, 9, 10, 18, 21, 40, 49, 54, 66, 89] [] Try.call117 Try.func117 rfl rfl (by kernel_rfl) (fun hpre => ?_)
  obtain ⟨g1, g2, g3⟩ := letN_le 8 (s.drop 1)
  simp only [List.length_drop] at g2
  repeat' ((conv => whnf); first | (with_reducible rfl) | exact True.intro | (with_reducible exact absTF) | (with_reducible exact absFT) | intro _ | refine And.intro ?_ ?_ | refine Fin.mk ?_ | refine CallG.plain rfl ?_ ?_ | refine CallG.mk rfl ?_ ?_ | refine CallG.nwl rfl ?_ ?_ | refine CallG.nw ?_ ?_ | refine CallF.nwl rfl ?_ ?_ | refine CallF.nw ?_ ?_ | refine AppN.mk ?_ | (refine CallS.q ?_; (conv => whnf); first | refine CallG.plain rfl ?_ ?_ | refine CallG.mk rfl ?_ ?_) | (refine CallS.m ?_; (conv => whnf); refine CallM.mk rfl ?_ ?_) | (refine CallS.h ?_; (conv => whnf); refine CallM.mk rfl ?_ ?_) | (refine CallS.b ?_; (conv => whnf); refine CallM.mk rfl ?_ ?_) | (refine CallS.z ?_; (conv => whnf); refine CallM.mk rfl ?_ ?_))
  all_goals (try (conv => whnf))
  all_goals (try (exact Ob.mk (u8_bnd _)))
  all_goals (try (refine Ob.mk ?_; first | exact True.intro | assumption | omega | (try simp only [decide_eq_true_eq, decide_eq_false_iff_not, beq_iff_eq, beq_eq_false_iff_ne, bne_iff_ne, bne_eq_false_iff_eq, ne_eq, Bool.and_eq_true, Bool.or_eq_true, Bool.not_eq_true, Bool.not_eq_false, Bool.not_eq_true', Bool.not_eq_false', Int.toNat_natCast, Int.not_lt, Int.not_le, UInt8.ofNat_toNat, cast_eq] at *; omega)))
  all_goals (try ((show (_:Int) = _); omega))
  all_goals (try (show tupSV _ = _; with_unfolding_all rfl))
  all_goals (try ((show (_ : Nat) ≤ _); (simp <;> omega)))
  all_goals (try ((show (_ : Nat) ≤ _ ∧ (_ : Nat) ≤ _); (simp <;> omega)))
  all_goals (try ((show (_ : Int) ≤ _ ∧ (_ : Int) ≤ _ ∧ (_ : Int) ≤ _ ∧ (_ : Int) ≤ _); (simp <;> omega)))
  all_goals (try (simp only [Int.toNat_natCast, Int.reduceToNat, Ty.dflt, cast_eq] at *))
  all_goals (try (simp only [ti1, ti2, upto_def, u8_38, u8n_38, u8_59, u8_35] at *))
  all_goals (try simp only [decide_eq_true_eq, decide_eq_false_iff_not, beq_iff_eq, beq_eq_false_iff_ne, bne_iff_ne, bne_eq_false_iff_eq, ne_eq, Bool.and_eq_true, Bool.or_eq_true, Bool.and_eq_false_iff, Bool.or_eq_false_iff, Bool.not_eq_true, Bool.not_eq_false, Bool.not_eq_true', Bool.not_eq_false', Int.toNat_natCast, Int.not_lt, Int.not_le, ge_iff_le, gt_iff_lt, UInt8.ofNat_toNat, cast_eq] at *)
  all_goals (try omega)
  all_goals (try (rw [rdP_bad (by rcases ‹_ ∨ ¬ _› with g | g; exact .inl (by omega); exact .inr g)]; done))
  all_goals (try (have hgo : 2 ≤ s.length ∧ s.getD 0 0 = 38 := ⟨by have := ‹2 ≤ (s.length : Int) ∧ _›.1; omega, ‹2 ≤ (s.length : Int) ∧ _›.2⟩))
  all_goals (try (rw [rdP_num hgo ‹_›]; done))
  all_goals (try (rw [rdP_semi hgo ‹¬ _› rfl ⟨by have := ‹_ ∧ s.getD _ 0 = 59›.1; omega, ‹_ ∧ s.getD _ 0 = 59›.2⟩ ‹_›]; done))
  · have hR := rdP_loop (v := v) hgo ‹¬ _› rfl (by rintro ⟨_, _, q⟩; rw [‹(named _).2 = false›] at q; cases q)
    refine LoopStop.mk (α := Nat) (fun i => [(6, .int .i64 i)]) (fun _ => []) 0 (fun i => i ≤ letN 8 (s.drop 1) ∧ rdP s v = rdLoop s v i) (fun i => i) (letN 8 (s.drop 1)) ⟨Nat.le_refl _, hR⟩ ?_ (fun i hi => ?_)
    · repeat' ((conv => whnf); first | (with_reducible rfl) | exact True.intro | (with_reducible exact absTF) | (with_reducible exact absFT) | intro _ | refine And.intro ?_ ?_ | refine Fin.mk ?_ | refine CallG.plain rfl ?_ ?_ | refine CallG.mk rfl ?_ ?_ | refine CallG.nwl rfl ?_ ?_ | refine CallG.nw ?_ ?_ | refine CallF.nwl rfl ?_ ?_ | refine CallF.nw ?_ ?_ | refine AppN.mk ?_ | (refine CallS.q ?_; (conv => whnf); first | refine CallG.plain rfl ?_ ?_ | refine CallG.mk rfl ?_ ?_) | (refine CallS.m ?_; (conv => whnf); refine CallM.mk rfl ?_ ?_) | (refine CallS.h ?_; (conv => whnf); refine CallM.mk rfl ?_ ?_) | (refine CallS.b ?_; (conv => whnf); refine CallM.mk rfl ?_ ?_) | (refine CallS.z ?_; (conv => whnf); refine CallM.mk rfl ?_ ?_))
      all_goals (try (conv => whnf))
      all_goals (try (exact Ob.mk (u8_bnd _)))
      all_goals (try (refine Ob.mk ?_; first | exact True.intro | assumption | omega | (try simp only [decide_eq_true_eq, decide_eq_false_iff_not, beq_iff_eq, beq_eq_false_iff_ne, bne_iff_ne, bne_eq_false_iff_eq, ne_eq, Bool.and_eq_true, Bool.or_eq_true, Bool.not_eq_true, Bool.not_eq_false, Bool.not_eq_true', Bool.not_eq_false', Int.toNat_natCast, Int.not_lt, Int.not_le, UInt8.ofNat_toNat, cast_eq] at *; omega)))
      all_goals (try ((show (_:Int) = _); omega))
      all_goals (try (show tupSV _ = _; with_unfolding_all rfl))
      all_goals (try ((show (_ : Nat) ≤ _); (simp <;> omega)))
      all_goals (try ((show (_ : Nat) ≤ _ ∧ (_ : Nat) ≤ _); (simp <;> omega)))
      all_goals (try ((show (_ : Int) ≤ _ ∧ (_ : Int) ≤ _ ∧ (_ : Int) ≤ _ ∧ (_ : Int) ≤ _); (simp <;> omega)))
      all_goals (try rfl)
    · obtain ⟨i1, i2⟩ := hi
      repeat' ((conv => whnf); first | (with_reducible rfl) | exact True.intro | (with_reducible exact absTF) | (with_reducible exact absFT) | intro _ | refine And.intro ?_ ?_ | refine Fin.mk ?_ | refine CallG.plain rfl ?_ ?_ | refine CallG.mk rfl ?_ ?_ | refine CallG.nwl rfl ?_ ?_ | refine CallG.nw ?_ ?_ | refine CallF.nwl rfl ?_ ?_ | refine CallF.nw ?_ ?_ | refine AppN.mk ?_ | (refine CallS.q ?_; (conv => whnf); first | refine CallG.plain rfl ?_ ?_ | refine CallG.mk rfl ?_ ?_) | (refine CallS.m ?_; (conv => whnf); refine CallM.mk rfl ?_ ?_) | (refine CallS.h ?_; (conv => whnf); refine CallM.mk rfl ?_ ?_) | (refine CallS.b ?_; (conv => whnf); refine CallM.mk rfl ?_ ?_) | (refine CallS.z ?_; (conv => whnf); refine CallM.mk rfl ?_ ?_))
      all_goals (try (conv => whnf))
      all_goals (try (exact Ob.mk (u8_bnd _)))
      all_goals (try (refine Ob.mk ?_; first | exact True.intro | assumption | omega | (try simp only [decide_eq_true_eq, decide_eq_false_iff_not, beq_iff_eq, beq_eq_false_iff_ne, bne_iff_ne, bne_eq_false_iff_eq, ne_eq, Bool.and_eq_true, Bool.or_eq_true, Bool.not_eq_true, Bool.not_eq_false, Bool.not_eq_true', Bool.not_eq_false', Int.toNat_natCast, Int.not_lt, Int.not_le, UInt8.ofNat_toNat, cast_eq] at *; omega)))
      all_goals (try ((show (_:Int) = _); omega))
      all_goals (try (show tupSV _ = _; with_unfolding_all rfl))
      all_goals (try ((show (_ : Nat) ≤ _); (simp <;> omega)))
      all_goals (try ((show (_ : Nat) ≤ _ ∧ (_ : Nat) ≤ _); (simp <;> omega)))
      all_goals (try ((show (_ : Int) ≤ _ ∧ (_ : Int) ≤ _ ∧ (_ : Int) ≤ _ ∧ (_ : Int) ≤ _); (simp <;> omega)))
      all_goals (try (simp only [Int.toNat_natCast, Int.reduceToNat, Ty.dflt, cast_eq] at *))
      all_goals (try (simp only [ti1, ti2, upto_def, stop_eq] at *))
      all_goals (try simp only [decide_eq_true_eq, decide_eq_false_iff_not, beq_iff_eq, beq_eq_false_iff_ne, bne_iff_ne, bne_eq_false_iff_eq, ne_eq, Bool.and_eq_true, Bool.or_eq_true, Bool.and_eq_false_iff, Bool.or_eq_false_iff, Bool.not_eq_true, Bool.not_eq_false, Bool.not_eq_true', Bool.not_eq_false', Int.toNat_natCast, Int.not_lt, Int.not_le, ge_iff_le, gt_iff_lt, UInt8.ofNat_toNat, cast_eq] at *)
      all_goals (try omega)
      all_goals (first | (have h0 : 0 < i := by omega) | (have h0 : i = 0 := by omega))
      all_goals (try (rw [i2, rdL_stop h0 ‹_› ‹_›]; done))
      all_goals (try (rw [i2, rdL_yes h0 ‹_› ‹_›]; done))
      all_goals (try (rw [i2, h0]; rfl))
      refine Rnd.mk ⟨i - 1, ?_, ?_, ?_⟩
      · exact ⟨by omega, by rw [i2, rdL_no h0 ‹_›]⟩
      · omega
      · repeat' ((conv => whnf); first | (with_reducible rfl) | exact True.intro | (with_reducible exact absTF) | (with_reducible exact absFT) | intro _ | refine And.intro ?_ ?_ | refine Fin.mk ?_ | refine CallG.plain rfl ?_ ?_ | refine CallG.mk rfl ?_ ?_ | refine CallG.nwl rfl ?_ ?_ | refine CallG.nw ?_ ?_ | refine CallF.nwl rfl ?_ ?_ | refine CallF.nw ?_ ?_ | refine AppN.mk ?_ | (refine CallS.q ?_; (conv => whnf); first | refine CallG.plain rfl ?_ ?_ | refine CallG.mk rfl ?_ ?_) | (refine CallS.m ?_; (conv => whnf); refine CallM.mk rfl ?_ ?_) | (refine CallS.h ?_; (conv => whnf); refine CallM.mk rfl ?_ ?_) | (refine CallS.b ?_; (conv => whnf); refine CallM.mk rfl ?_ ?_) | (refine CallS.z ?_; (conv => whnf); refine CallM.mk rfl ?_ ?_))
        all_goals (try (conv => whnf))
        all_goals (try (exact Ob.mk (u8_bnd _)))
        all_goals (try (refine Ob.mk ?_; first | exact True.intro | assumption | omega | (try simp only [decide_eq_true_eq, decide_eq_false_iff_not, beq_iff_eq, beq_eq_false_iff_ne, bne_iff_ne, bne_eq_false_iff_eq, ne_eq, Bool.and_eq_true, Bool.or_eq_true, Bool.not_eq_true, Bool.not_eq_false, Bool.not_eq_true', Bool.not_eq_false', Int.toNat_natCast, Int.not_lt, Int.not_le, UInt8.ofNat_toNat, cast_eq] at *; omega)))
        all_goals (try ((show (_:Int) = _); omega))
        all_goals (try (show tupSV _ = _; with_unfolding_all rfl))
        all_goals (try ((show (_ : Nat) ≤ _); (simp <;> omega)))
        all_goals (try ((show (_ : Nat) ≤ _ ∧ (_ : Nat) ≤ _); (simp <;> omega)))
        all_goals (try ((show (_ : Int) ≤ _ ∧ (_ : Int) ≤ _ ∧ (_ : Int) ≤ _ ∧ (_ : Int) ≤ _); (simp <;> omega)))
  · have hR := rdP_loop (v := v) hgo ‹¬ _› rfl (by rintro ⟨q1, q2, _⟩; rcases ‹_ ∨ ¬ _› with g | g; omega; exact g q2)
    refine LoopStop.mk (α := Nat) (fun i => [(6, .int .i64 i)]) (fun _ => []) 0 (fun i => i ≤ letN 8 (s.drop 1) ∧ rdP s v = rdLoop s v i) (fun i => i) (letN 8 (s.drop 1)) ⟨Nat.le_refl _, hR⟩ ?_ (fun i hi => ?_)
    · repeat' ((conv => whnf); first | (with_reducible rfl) | exact True.intro | (with_reducible exact absTF) | (with_reducible exact absFT) | intro _ | refine And.intro ?_ ?_ | refine Fin.mk ?_ | refine CallG.plain rfl ?_ ?_ | refine CallG.mk rfl ?_ ?_ | refine CallG.nwl rfl ?_ ?_ | refine CallG.nw ?_ ?_ | refine CallF.nwl rfl ?_ ?_ | refine CallF.nw ?_ ?_ | refine AppN.mk ?_ | (refine CallS.q ?_; (conv => whnf); first | refine CallG.plain rfl ?_ ?_ | refine CallG.mk rfl ?_ ?_) | (refine CallS.m ?_; (conv => whnf); refine CallM.mk rfl ?_ ?_) | (refine CallS.h ?_; (conv => whnf); refine CallM.mk rfl ?_ ?_) | (refine CallS.b ?_; (conv => whnf); refine CallM.mk rfl ?_ ?_) | (refine CallS.z ?_; (conv => whnf); refine CallM.mk rfl ?_ ?_))
      all_goals (try (conv => whnf))
      all_goals (try (exact Ob.mk (u8_bnd _)))
      all_goals (try (refine Ob.mk ?_; first | exact True.intro | assumption | omega | (try simp only [decide_eq_true_eq, decide_eq_false_iff_not, beq_iff_eq, beq_eq_false_iff_ne, bne_iff_ne, bne_eq_false_iff_eq, ne_eq, Bool.and_eq_true, Bool.or_eq_true, Bool.not_eq_true, Bool.not_eq_false, Bool.not_eq_true', Bool.not_eq_false', Int.toNat_natCast, Int.not_lt, Int.not_le, UInt8.ofNat_toNat, cast_eq] at *; omega)))
      all_goals (try ((show (_:Int) = _); omega))
      all_goals (try (show tupSV _ = _; with_unfolding_all rfl))
      all_goals (try ((show (_ : Nat) ≤ _); (simp <;> omega)))
      all_goals (try ((show (_ : Nat) ≤ _ ∧ (_ : Nat) ≤ _); (simp <;> omega)))
      all_goals (try ((show (_ : Int) ≤ _ ∧ (_ : Int) ≤ _ ∧ (_ : Int) ≤ _ ∧ (_ : Int) ≤ _); (simp <;> omega)))
      all_goals (try rfl)
    · obtain ⟨i1, i2⟩ := hi
      repeat' ((conv => whnf); first | (with_reducible rfl) | exact True.intro | (with_reducible exact absTF) | (with_reducible exact absFT) | intro _ | refine And.intro ?_ ?_ | refine Fin.mk ?_ | refine CallG.plain rfl ?_ ?_ | refine CallG.mk rfl ?_ ?_ | refine CallG.nwl rfl ?_ ?_ | refine CallG.nw ?_ ?_ | refine CallF.nwl rfl ?_ ?_ | refine CallF.nw ?_ ?_ | refine AppN.mk ?_ | (refine CallS.q ?_; (conv => whnf); first | refine CallG.plain rfl ?_ ?_ | refine CallG.mk rfl ?_ ?_) | (refine CallS.m ?_; (conv => whnf); refine CallM.mk rfl ?_ ?_) | (refine CallS.h ?_; (conv => whnf); refine CallM.mk rfl ?_ ?_) | (refine CallS.b ?_; (conv => whnf); refine CallM.mk rfl ?_ ?_) | (refine CallS.z ?_; (conv => whnf); refine CallM.mk rfl ?_ ?_))
      all_goals (try (conv => whnf))
      all_goals (try (exact Ob.mk (u8_bnd _)))
      all_goals (try (refine Ob.mk ?_; first | exact True.intro | assumption | omega | (try simp only [decide_eq_true_eq, decide_eq_false_iff_not, beq_iff_eq, beq_eq_false_iff_ne, bne_iff_ne, bne_eq_false_iff_eq, ne_eq, Bool.and_eq_true, Bool.or_eq_true, Bool.not_eq_true, Bool.not_eq_false, Bool.not_eq_true', Bool.not_eq_false', Int.toNat_natCast, Int.not_lt, Int.not_le, UInt8.ofNat_toNat, cast_eq] at *; omega)))
      all_goals (try ((show (_:Int) = _); omega))
      all_goals (try (show tupSV _ = _; with_unfolding_all rfl))
      all_goals (try ((show (_ : Nat) ≤ _); (simp <;> omega)))
      all_goals (try ((show (_ : Nat) ≤ _ ∧ (_ : Nat) ≤ _); (simp <;> omega)))
      all_goals (try ((show (_ : Int) ≤ _ ∧ (_ : Int) ≤ _ ∧ (_ : Int) ≤ _ ∧ (_ : Int) ≤ _); (simp <;> omega)))
      all_goals (try (simp only [Int.toNat_natCast, Int.reduceToNat, Ty.dflt, cast_eq] at *))
      all_goals (try (simp only [ti1, ti2, upto_def, stop_eq] at *))
      all_goals (try simp only [decide_eq_true_eq, decide_eq_false_iff_not, beq_iff_eq, beq_eq_false_iff_ne, bne_iff_ne, bne_eq_false_iff_eq, ne_eq, Bool.and_eq_true, Bool.or_eq_true, Bool.and_eq_false_iff, Bool.or_eq_false_iff, Bool.not_eq_true, Bool.not_eq_false, Bool.not_eq_true', Bool.not_eq_false', Int.toNat_natCast, Int.not_lt, Int.not_le, ge_iff_le, gt_iff_lt, UInt8.ofNat_toNat, cast_eq] at *)
      all_goals (try omega)
      all_goals (first | (have h0 : 0 < i := by omega) | (have h0 : i = 0 := by omega))
      all_goals (try (rw [i2, rdL_stop h0 ‹_› ‹_›]; done))
      all_goals (try (rw [i2, rdL_yes h0 ‹_› ‹_›]; done))
      all_goals (try (rw [i2, h0]; rfl))
      refine Rnd.mk ⟨i - 1, ?_, ?_, ?_⟩
      · exact ⟨by omega, by rw [i2, rdL_no h0 ‹_›]⟩
      · omega
      · repeat' ((conv => whnf); first | (with_reducible rfl) | exact True.intro | (with_reducible exact absTF) | (with_reducible exact absFT) | intro _ | refine And.intro ?_ ?_ | refine Fin.mk ?_ | refine CallG.plain rfl ?_ ?_ | refine CallG.mk rfl ?_ ?_ | refine CallG.nwl rfl ?_ ?_ | refine CallG.nw ?_ ?_ | refine CallF.nwl rfl ?_ ?_ | refine CallF.nw ?_ ?_ | refine AppN.mk ?_ | (refine CallS.q ?_; (conv => whnf); first | refine CallG.plain rfl ?_ ?_ | refine CallG.mk rfl ?_ ?_) | (refine CallS.m ?_; (conv => whnf); refine CallM.mk rfl ?_ ?_) | (refine CallS.h ?_; (conv => whnf); refine CallM.mk rfl ?_ ?_) | (refine CallS.b ?_; (conv => whnf); refine CallM.mk rfl ?_ ?_) | (refine CallS.z ?_; (conv => whnf); refine CallM.mk rfl ?_ ?_))
        all_goals (try (conv => whnf))
        all_goals (try (exact Ob.mk (u8_bnd _)))
        all_goals (try (refine Ob.mk ?_; first | exact True.intro | assumption | omega | (try simp only [decide_eq_true_eq, decide_eq_false_iff_not, beq_iff_eq, beq_eq_false_iff_ne, bne_iff_ne, bne_eq_false_iff_eq, ne_eq, Bool.and_eq_true, Bool.or_eq_true, Bool.not_eq_true, Bool.not_eq_false, Bool.not_eq_true', Bool.not_eq_false', Int.toNat_natCast, Int.not_lt, Int.not_le, UInt8.ofNat_toNat, cast_eq] at *; omega)))
        all_goals (try ((show (_:Int) = _); omega))
        all_goals (try (show tupSV _ = _; with_unfolding_all rfl))
        all_goals (try ((show (_ : Nat) ≤ _); (simp <;> omega)))
        all_goals (try ((show (_ : Nat) ≤ _ ∧ (_ : Nat) ≤ _); (simp <;> omega)))
        all_goals (try ((show (_ : Int) ≤ _ ∧ (_ : Int) ≤ _ ∧ (_ : Int) ≤ _ ∧ (_ : Int) ≤ _); (simp <;> omega)))
theorem rdR_bad {s : List UInt8} {v : Bool} (h : s = [] ∨ ¬ s.getD 0 0 = 38) : rdR s v = ([], 0) := by unfold rdR; exact if_pos h
theorem rdR_num {s : List UInt8} {v : Bool} (h : ¬ s = [] ∧ s.getD 0 0 = 38) (h1 : 1 < s.length ∧ s.getD 1 0 = 35) : rdR s v = numberF s := by
  unfold rdR; refine (if_neg (by rintro (g | g); exact h.1 g; exact g h.2)).trans ?_; exact if_pos h1
theorem rdR_loop {s : List UInt8} {v : Bool} (h : ¬ s = [] ∧ s.getD 0 0 = 38) (h1 : ¬ (1 < s.length ∧ s.getD 1 0 = 35)) : rdR s v = refLoop s v (min (s.length - 1) 12) := by
  unfold rdR; refine (if_neg (by rintro (g | g); exact h.1 g; exact g h.2)).trans ?_; exact if_neg h1
theorem u8n_59 (c : UInt8) : ((c.toNat : Int) != 59) = (c != 59) := by simp only [bne, u8_59]
theorem stop_eq2 (s : List UInt8) (v : Bool) (n : Nat) : (v && s.getD n 0 != 59 && decide ((n : Int) + 1 < (s.length : Int)) && (s.getD (n + 1) 0 == 61 || anI ((s.getD (n + 1) 0).toNat : Int))) = (stopV s v n && s.getD n 0 != 59) := by
  have e2 : decide ((n : Int) + 1 < (s.length : Int)) = decide (n + 1 < s.length) := by rw [decide_eq_decide]; omega
  rw [e2]
  unfold stopV
  show (v && s.getD n 0 != 59 && decide (n + 1 < s.length) && (s.getD (n + 1) 0 == 61 || anB (s.getD (n + 1) 0))) = _
  cases v <;> cases (s.getD n 0 != 59) <;> cases decide (n + 1 < s.length) <;> simp
theorem rfL_no {s : List UInt8} {v : Bool} {n : Nat} (h0 : 0 < n) (h : (named (upto s n)).2 = false) : refLoop s v n = refLoop s v (n - 1) := by
  obtain ⟨m, rfl⟩ : ∃ m, n = m + 1 := ⟨n - 1, by omega⟩
  rw [refLoop, if_pos h]; rfl
theorem rfL_stop {s : List UInt8} {v : Bool} {n : Nat} (h0 : 0 < n) (h : (named (upto s n)).2 = true) (h2 : stopV s v n = true ∧ ¬ s.getD n 0 = 59) : refLoop s v n = ([], 0) := by
  obtain ⟨m, rfl⟩ : ∃ m, n = m + 1 := ⟨n - 1, by omega⟩
  rw [refLoop, if_neg (by rw [h]; simp), if_pos (by simpa using h2)]
theorem rfL_yes {s : List UInt8} {v : Bool} {n : Nat} (h0 : 0 < n) (h : (named (upto s n)).2 = true) (h2 : stopV s v n = false ∨ s.getD n 0 = 59) : refLoop s v n = ((named (upto s n)).1, (n : Int) + 1) := by
  obtain ⟨m, rfl⟩ : ∃ m, n = m + 1 := ⟨n - 1, by omega⟩
  rw [refLoop, if_neg (by rw [h]; simp), if_neg (by rw [Bool.and_eq_true, bne_iff_ne]; rintro ⟨q1, q2⟩; rcases h2 with h2 | h2; rw [q1] at h2; cases h2; exact q2 h2)]
  congr 1
theorem dec_inv {s out : List UInt8} {v : Bool} {i : Nat} (h : i < s.length) (hd : out ++ decF (s.drop i) v = decF s v) :
    (¬ (rdP (s.drop i) v).2 = 0 → (out ++ (rdP (s.drop i) v).1) ++ decF (s.drop (i + (rdP (s.drop i) v).2.toNat)) v = decF s v) ∧
    ((rdP (s.drop i) v).2 = 0 → (out ++ [s.getD i 0]) ++ decF (s.drop (i + 1)) v = decF s v) := by
  have hne : s.drop i ≠ [] := fun h' => by have := congrArg List.length h'; simp at this; omega
  rw [decF_step v hne] at hd
  refine ⟨fun h0 => ?_, fun h0 => ?_⟩
  · rw [if_neg h0, List.drop_drop] at hd
    rw [← hd, List.append_assoc]
  · rw [if_pos h0, List.drop_drop] at hd
    rw [← hd, List.append_assoc]
    simp [List.getD]
instance fDec (s : List UInt8) (v : Bool) : Fn BB 64 [.str s, .bool v] (s.length ≤ 100000) (.str (decF s v)) := by
  refine Fn.intro (N := 36) [0, 1, 4, 5, 6, 7, 8, 12, 22] [] Try.call64 Try.func64 rfl rfl (by kernel_rfl) (fun hpre => ?_)
  repeat' ((conv => whnf); first | (with_reducible rfl) | exact True.intro | (with_reducible exact absTF) | (with_reducible exact absFT) | intro _ | refine And.intro ?_ ?_ | refine Fin.mk ?_ | refine CallG.plain rfl ?_ ?_ | refine CallG.mk rfl ?_ ?_ | refine CallG.nwl rfl ?_ ?_ | refine CallG.nw ?_ ?_ | refine CallF.nwl rfl ?_ ?_ | refine CallF.nw ?_ ?_ | refine AppN.mk ?_ | (refine CallS.q ?_; (conv => whnf); first | refine CallG.plain rfl ?_ ?_ | refine CallG.mk rfl ?_ ?_) | (refine CallS.m ?_; (conv => whnf); refine CallM.mk rfl ?_ ?_) | (refine CallS.h ?_; (conv => whnf); refine CallM.mk rfl ?_ ?_) | (refine CallS.b ?_; (conv => whnf); refine CallM.mk rfl ?_ ?_) | (refine CallS.z ?_; (conv => whnf); refine CallM.mk rfl ?_ ?_))
  all_goals (try (conv => whnf))
  all_goals (try (exact Ob.mk (u8_bnd _)))
  all_goals (try (refine Ob.mk ?_; first | exact True.intro | assumption | omega | (try simp only [decide_eq_true_eq, decide_eq_false_iff_not, beq_iff_eq, beq_eq_false_iff_ne, bne_iff_ne, bne_eq_false_iff_eq, ne_eq, Bool.and_eq_true, Bool.or_eq_true, Bool.not_eq_true, Bool.not_eq_false, Bool.not_eq_true', Bool.not_eq_false', Int.toNat_natCast, Int.not_lt, Int.not_le, UInt8.ofNat_toNat, cast_eq] at *; omega)))
  all_goals (try ((show (_:Int) = _); omega))
  all_goals (try (show tupSV _ = _; with_unfolding_all rfl))
  all_goals (try ((show (_ : Nat) ≤ _); (simp <;> omega)))
  all_goals (try ((show (_ : Nat) ≤ _ ∧ (_ : Nat) ≤ _); (simp <;> omega)))
  all_goals (try ((show (_ : Int) ≤ _ ∧ (_ : Int) ≤ _ ∧ (_ : Int) ≤ _ ∧ (_ : Int) ≤ _); (simp <;> omega)))
  refine LoopStop.mk (α := List UInt8 × Nat) (fun a => [(5, .own 20), (6, .int .i64 (a.2 : Nat))]) (fun a => [(20, .own .byte a.1)]) 40 (fun a => a.2 ≤ s.length ∧ a.1.length ≤ 4 * a.2 ∧ a.1 ++ decF (s.drop a.2) v = decF s v) (fun a => s.length - a.2) ([], 0) ⟨by simp, by simp, by simp⟩ ?_ (fun a ha => ?_)
  · repeat' ((conv => whnf); first | (with_reducible rfl) | exact True.intro | (with_reducible exact absTF) | (with_reducible exact absFT) | intro _ | refine And.intro ?_ ?_ | refine Fin.mk ?_ | refine CallG.plain rfl ?_ ?_ | refine CallG.mk rfl ?_ ?_ | refine CallG.nwl rfl ?_ ?_ | refine CallG.nw ?_ ?_ | refine CallF.nwl rfl ?_ ?_ | refine CallF.nw ?_ ?_ | refine AppN.mk ?_ | (refine CallS.q ?_; (conv => whnf); first | refine CallG.plain rfl ?_ ?_ | refine CallG.mk rfl ?_ ?_) | (refine CallS.m ?_; (conv => whnf); refine CallM.mk rfl ?_ ?_) | (refine CallS.h ?_; (conv => whnf); refine CallM.mk rfl ?_ ?_) | (refine CallS.b ?_; (conv => whnf); refine CallM.mk rfl ?_ ?_) | (refine CallS.z ?_; (conv => whnf); refine CallM.mk rfl ?_ ?_))
    all_goals (try (conv => whnf))
    all_goals (try (exact Ob.mk (u8_bnd _)))
    all_goals (try (refine Ob.mk ?_; first | exact True.intro | assumption | omega | (try simp only [decide_eq_true_eq, decide_eq_false_iff_not, beq_iff_eq, beq_eq_false_iff_ne, bne_iff_ne, bne_eq_false_iff_eq, ne_eq, Bool.and_eq_true, Bool.or_eq_true, Bool.not_eq_true, Bool.not_eq_false, Bool.not_eq_true', Bool.not_eq_false', Int.toNat_natCast, Int.not_lt, Int.not_le, UInt8.ofNat_toNat, cast_eq] at *; omega)))
    all_goals (try ((show (_:Int) = _); omega))
    all_goals (try (show tupSV _ = _; with_unfolding_all rfl))
    all_goals (try ((show (_ : Nat) ≤ _); (simp <;> omega)))
    all_goals (try ((show (_ : Nat) ≤ _ ∧ (_ : Nat) ≤ _); (simp <;> omega)))
    all_goals (try ((show (_ : Int) ≤ _ ∧ (_ : Int) ≤ _ ∧ (_ : Int) ≤ _ ∧ (_ : Int) ≤ _); (simp <;> omega)))
    all_goals (try rfl)
  · obtain ⟨out, i⟩ := a
    obtain ⟨a1, a2, a3⟩ := ha
    dsimp only at a1 a2 a3 ⊢
    obtain ⟨b1, b2, b3⟩ := rd_bound (s.drop i) v
    have hinv := dec_inv (s := s) (out := out) (v := v) (i := i)
    repeat' ((conv => whnf); first | (with_reducible rfl) | exact True.intro | (with_reducible exact absTF) | (with_reducible exact absFT) | intro _ | refine And.intro ?_ ?_ | refine Fin.mk ?_ | refine CallG.plain rfl ?_ ?_ | refine CallG.mk rfl ?_ ?_ | refine CallG.nwl rfl ?_ ?_ | refine CallG.nw ?_ ?_ | refine CallF.nwl rfl ?_ ?_ | refine CallF.nw ?_ ?_ | refine AppN.mk ?_ | (refine CallS.q ?_; (conv => whnf); first | refine CallG.plain rfl ?_ ?_ | refine CallG.mk rfl ?_ ?_) | (refine CallS.m ?_; (conv => whnf); refine CallM.mk rfl ?_ ?_) | (refine CallS.h ?_; (conv => whnf); refine CallM.mk rfl ?_ ?_) | (refine CallS.b ?_; (conv => whnf); refine CallM.mk rfl ?_ ?_) | (refine CallS.z ?_; (conv => whnf); refine CallM.mk rfl ?_ ?_))
    all_goals (try (conv => whnf))
    all_goals (try (exact Ob.mk (u8_bnd _)))
    all_goals (try (refine Ob.mk ?_; first | exact True.intro | assumption | omega | (try simp only [decide_eq_true_eq, decide_eq_false_iff_not, beq_iff_eq, beq_eq_false_iff_ne, bne_iff_ne, bne_eq_false_iff_eq, ne_eq, Bool.and_eq_true, Bool.or_eq_true, Bool.not_eq_true, Bool.not_eq_false, Bool.not_eq_true', Bool.not_eq_false', Int.toNat_natCast, Int.not_lt, Int.not_le, UInt8.ofNat_toNat, cast_eq] at *; omega)))
    all_goals (try ((show (_:Int) = _); omega))
    all_goals (try (show tupSV _ = _; with_unfolding_all rfl))
    all_goals (try ((show (_ : Nat) ≤ _); (simp <;> omega)))
    all_goals (try ((show (_ : Nat) ≤ _ ∧ (_ : Nat) ≤ _); (simp <;> omega)))
    all_goals (try ((show (_ : Int) ≤ _ ∧ (_ : Int) ≤ _ ∧ (_ : Int) ≤ _ ∧ (_ : Int) ≤ _); (simp <;> omega)))
    all_goals (try (simp only [Int.toNat_natCast, Int.reduceToNat, Ty.dflt, cast_eq] at *))
    all_goals (try (simp only [ti1] at *))
    all_goals (try simp only [decide_eq_true_eq, decide_eq_false_iff_not, beq_iff_eq, beq_eq_false_iff_ne, bne_iff_ne, bne_eq_false_iff_eq, ne_eq, Bool.and_eq_true, Bool.or_eq_true, Bool.and_eq_false_iff, Bool.or_eq_false_iff, Bool.not_eq_true, Bool.not_eq_false, Bool.not_eq_true', Bool.not_eq_false', Int.toNat_natCast, Int.not_lt, Int.not_le, ge_iff_le, gt_iff_lt, UInt8.ofNat_toNat, cast_eq] at *)
    all_goals (try (have hlt : i < s.length := by omega))
    all_goals (try (have hstep := hinv hlt a3))
    all_goals (try (simp only [List.length_drop] at b2))
    all_goals (try (show InI64 _; constructor <;> omega))
    all_goals (try (rw [drop_take_one s i hlt]))
    · refine Rnd.mk ⟨(out ++ [s.getD i 0], i + 1), ?_, ?_, ?_⟩
      · exact ⟨hlt, by simp; omega, hstep.2 ‹_›⟩
      · simp only; omega
      · repeat' ((conv => whnf); first | (with_reducible rfl) | exact True.intro | (with_reducible exact absTF) | (with_reducible exact absFT) | intro _ | refine And.intro ?_ ?_ | refine Fin.mk ?_ | refine CallG.plain rfl ?_ ?_ | refine CallG.mk rfl ?_ ?_ | refine CallG.nwl rfl ?_ ?_ | refine CallG.nw ?_ ?_ | refine CallF.nwl rfl ?_ ?_ | refine CallF.nw ?_ ?_ | refine AppN.mk ?_ | (refine CallS.q ?_; (conv => whnf); first | refine CallG.plain rfl ?_ ?_ | refine CallG.mk rfl ?_ ?_) | (refine CallS.m ?_; (conv => whnf); refine CallM.mk rfl ?_ ?_) | (refine CallS.h ?_; (conv => whnf); refine CallM.mk rfl ?_ ?_) | (refine CallS.b ?_; (conv => whnf); refine CallM.mk rfl ?_ ?_) | (refine CallS.z ?_; (conv => whnf); refine CallM.mk rfl ?_ ?_))
        all_goals (try (conv => whnf))
        all_goals (try (exact Ob.mk (u8_bnd _)))
        all_goals (try (refine Ob.mk ?_; first | exact True.intro | assumption | omega | (try simp only [decide_eq_true_eq, decide_eq_false_iff_not, beq_iff_eq, beq_eq_false_iff_ne, bne_iff_ne, bne_eq_false_iff_eq, ne_eq, Bool.and_eq_true, Bool.or_eq_true, Bool.not_eq_true, Bool.not_eq_false, Bool.not_eq_true', Bool.not_eq_false', Int.toNat_natCast, Int.not_lt, Int.not_le, UInt8.ofNat_toNat, cast_eq] at *; omega)))
        all_goals (try ((show (_:Int) = _); omega))
        all_goals (try (show tupSV _ = _; with_unfolding_all rfl))
        all_goals (try ((show (_ : Nat) ≤ _); (simp <;> omega)))
        all_goals (try ((show (_ : Nat) ≤ _ ∧ (_ : Nat) ≤ _); (simp <;> omega)))
        all_goals (try ((show (_ : Int) ≤ _ ∧ (_ : Int) ≤ _ ∧ (_ : Int) ≤ _ ∧ (_ : Int) ≤ _); (simp <;> omega)))
        all_goals (try (rw [drop_take_one s i hlt]))
    · refine Rnd.mk ⟨(out ++ (rdP (s.drop i) v).1, i + (rdP (s.drop i) v).2.toNat), ?_, ?_, ?_⟩
      · refine ⟨by simp only; omega, ?_, hstep.1 ‹_›⟩
        rw [List.length_append]
        simp only; omega
      · simp only; omega
      · repeat' ((conv => whnf); first | (with_reducible rfl) | exact True.intro | (with_reducible exact absTF) | (with_reducible exact absFT) | intro _ | refine And.intro ?_ ?_ | refine Fin.mk ?_ | refine CallG.plain rfl ?_ ?_ | refine CallG.mk rfl ?_ ?_ | refine CallG.nwl rfl ?_ ?_ | refine CallG.nw ?_ ?_ | refine CallF.nwl rfl ?_ ?_ | refine CallF.nw ?_ ?_ | refine AppN.mk ?_ | (refine CallS.q ?_; (conv => whnf); first | refine CallG.plain rfl ?_ ?_ | refine CallG.mk rfl ?_ ?_) | (refine CallS.m ?_; (conv => whnf); refine CallM.mk rfl ?_ ?_) | (refine CallS.h ?_; (conv => whnf); refine CallM.mk rfl ?_ ?_) | (refine CallS.b ?_; (conv => whnf); refine CallM.mk rfl ?_ ?_) | (refine CallS.z ?_; (conv => whnf); refine CallM.mk rfl ?_ ?_))
        all_goals (try (conv => whnf))
        all_goals (try (exact Ob.mk (u8_bnd _)))
        all_goals (try (refine Ob.mk ?_; first | exact True.intro | assumption | omega | (try simp only [decide_eq_true_eq, decide_eq_false_iff_not, beq_iff_eq, beq_eq_false_iff_ne, bne_iff_ne, bne_eq_false_iff_eq, ne_eq, Bool.and_eq_true, Bool.or_eq_true, Bool.not_eq_true, Bool.not_eq_false, Bool.not_eq_true', Bool.not_eq_false', Int.toNat_natCast, Int.not_lt, Int.not_le, UInt8.ofNat_toNat, cast_eq] at *; omega)))
        all_goals (try ((show (_:Int) = _); omega))
        all_goals (try (show tupSV _ = _; with_unfolding_all rfl))
        all_goals (try ((show (_ : Nat) ≤ _); (simp <;> omega)))
        all_goals (try ((show (_ : Nat) ≤ _ ∧ (_ : Nat) ≤ _); (simp <;> omega)))
        all_goals (try ((show (_ : Int) ≤ _ ∧ (_ : Int) ≤ _ ∧ (_ : Int) ≤ _ ∧ (_ : Int) ≤ _); (simp <;> omega)))
        all_goals (try (show _ = (_ : Int); simp only; omega))
    · have he : s.drop i = [] := List.drop_of_length_le (by omega)
      rw [he, decF_nil, List.append_nil] at a3
      rw [a3]
end Go.Vc

namespace Go.Vc
open Go.Proofs
set_option linter.unusedVariables false
set_option maxRecDepth 10000
set_option linter.unusedSimpArgs false
set_option maxHeartbeats 2000000
/-- a writer: its own address, its bytes, a flag -/
abbrev wrB (a b : SV) (q : Bool) : Chunk := .bx (some 110) [a, b, .bool q]
abbrev nilP : SV := .v (.pointer none)
instance eCCa (q : Bool) : FnM BB 179 [.loc 0 0] [(0, wrB nilP .nils q)] True (.tup []) [(0, wrB (.loc 0 0) .nils q)] := by
  refine FnM.intro (N := 20) [0, 6, 19] [] 1 Try.call179 Try.func179 rfl rfl (by kernel_rfl) (fun hpre => ?_)
  repeat' ((conv => whnf); first | (with_reducible rfl) | exact True.intro | (with_reducible exact absTF) | (with_reducible exact absFT) | intro _ | refine And.intro ?_ ?_ | refine Fin.mk ?_ | refine CallG.plain rfl ?_ ?_ | refine CallG.mk rfl ?_ ?_ | refine CallG.nwl rfl ?_ ?_ | refine CallG.nw ?_ ?_ | refine CallF.nwl rfl ?_ ?_ | refine CallF.nw ?_ ?_ | refine AppN.mk ?_ | (refine CallS.q ?_; (conv => whnf); first | refine CallG.plain rfl ?_ ?_ | refine CallG.mk rfl ?_ ?_) | (refine CallS.m ?_; (conv => whnf); refine CallM.mk rfl ?_ ?_) | (refine CallS.h ?_; (conv => whnf); refine CallM.mk rfl ?_ ?_) | (refine CallS.b ?_; (conv => whnf); refine CallM.mk rfl ?_ ?_) | (refine CallS.z ?_; (conv => whnf); refine CallM.mk rfl ?_ ?_))
  all_goals (try (conv => whnf))
  all_goals (try (exact Ob.mk (by kernel_rfl)))
  all_goals (try (exact Ob.mk (u8_bnd _)))
  all_goals (try (refine Ob.mk ?_; first | exact True.intro | assumption | omega | (try simp only [decide_eq_true_eq, decide_eq_false_iff_not, beq_iff_eq, beq_eq_false_iff_ne, bne_iff_ne, bne_eq_false_iff_eq, ne_eq, Bool.and_eq_true, Bool.or_eq_true, Bool.not_eq_true, Bool.not_eq_false, Bool.not_eq_true', Bool.not_eq_false', Int.toNat_natCast, Int.not_lt, Int.not_le, UInt8.ofNat_toNat, cast_eq] at *; omega)))
  all_goals (try ((show (_:Int) = _); omega))
  all_goals (try (show tupSV _ = _; with_unfolding_all rfl))
  all_goals (try ((show (_ : Nat) ≤ _); (simp <;> omega)))
  all_goals (try ((show (_ : Nat) ≤ _ ∧ (_ : Nat) ≤ _); (simp <;> omega)))
  all_goals (try ((show (_ : Int) ≤ _ ∧ (_ : Int) ≤ _ ∧ (_ : Int) ≤ _ ∧ (_ : Int) ≤ _); (simp <;> omega)))
instance eCCb (q : Bool) : FnM BB 179 [.loc 0 0] [(0, wrB (.loc 0 0) .nils q)] True (.tup []) [(0, wrB (.loc 0 0) .nils q)] := by
  refine FnM.intro (N := 20) [0, 6, 19] [] 1 Try.call179 Try.func179 rfl rfl (by kernel_rfl) (fun hpre => ?_)
  repeat' ((conv => whnf); first | (with_reducible rfl) | exact True.intro | (with_reducible exact absTF) | (with_reducible exact absFT) | intro _ | refine And.intro ?_ ?_ | refine Fin.mk ?_ | refine CallG.plain rfl ?_ ?_ | refine CallG.mk rfl ?_ ?_ | refine CallG.nwl rfl ?_ ?_ | refine CallG.nw ?_ ?_ | refine CallF.nwl rfl ?_ ?_ | refine CallF.nw ?_ ?_ | refine AppN.mk ?_ | (refine CallS.q ?_; (conv => whnf); first | refine CallG.plain rfl ?_ ?_ | refine CallG.mk rfl ?_ ?_) | (refine CallS.m ?_; (conv => whnf); refine CallM.mk rfl ?_ ?_) | (refine CallS.h ?_; (conv => whnf); refine CallM.mk rfl ?_ ?_) | (refine CallS.b ?_; (conv => whnf); refine CallM.mk rfl ?_ ?_) | (refine CallS.z ?_; (conv => whnf); refine CallM.mk rfl ?_ ?_))
  all_goals (try (conv => whnf))
  all_goals (try (exact Ob.mk (u8_bnd _)))
  all_goals (try (refine Ob.mk ?_; first | exact True.intro | assumption | omega | (try simp only [decide_eq_true_eq, decide_eq_false_iff_not, beq_iff_eq, beq_eq_false_iff_ne, bne_iff_ne, bne_eq_false_iff_eq, ne_eq, Bool.and_eq_true, Bool.or_eq_true, Bool.not_eq_true, Bool.not_eq_false, Bool.not_eq_true', Bool.not_eq_false', Int.toNat_natCast, Int.not_lt, Int.not_le, UInt8.ofNat_toNat, cast_eq] at *; omega)))
  all_goals (try ((show (_:Int) = _); omega))
  all_goals (try (show tupSV _ = _; with_unfolding_all rfl))
  all_goals (try ((show (_ : Nat) ≤ _); (simp <;> omega)))
  all_goals (try ((show (_ : Nat) ≤ _ ∧ (_ : Nat) ≤ _); (simp <;> omega)))
  all_goals (try ((show (_ : Int) ≤ _ ∧ (_ : Int) ≤ _ ∧ (_ : Int) ≤ _ ∧ (_ : Int) ≤ _); (simp <;> omega)))
  all_goals (try (rename_i h; exact absurd h (by decide)))
instance eCCc (q : Bool) (l : List UInt8) : FnM BB 179 [.loc 0 0] [(0, wrB (.loc 0 0) (.own 1) q), (1, .own .byte l)] True (.tup []) [(0, wrB (.loc 0 0) (.own 1) q), (1, .own .byte l)] := by
  refine FnM.intro (N := 20) [0, 6, 19] [] 2 Try.call179 Try.func179 rfl rfl (by kernel_rfl) (fun hpre => ?_)
  repeat' ((conv => whnf); first | (with_reducible rfl) | exact True.intro | (with_reducible exact absTF) | (with_reducible exact absFT) | intro _ | refine And.intro ?_ ?_ | refine Fin.mk ?_ | refine CallG.plain rfl ?_ ?_ | refine CallG.mk rfl ?_ ?_ | refine CallG.nwl rfl ?_ ?_ | refine CallG.nw ?_ ?_ | refine CallF.nwl rfl ?_ ?_ | refine CallF.nw ?_ ?_ | refine AppN.mk ?_ | (refine CallS.q ?_; (conv => whnf); first | refine CallG.plain rfl ?_ ?_ | refine CallG.mk rfl ?_ ?_) | (refine CallS.m ?_; (conv => whnf); refine CallM.mk rfl ?_ ?_) | (refine CallS.h ?_; (conv => whnf); refine CallM.mk rfl ?_ ?_) | (refine CallS.b ?_; (conv => whnf); refine CallM.mk rfl ?_ ?_) | (refine CallS.z ?_; (conv => whnf); refine CallM.mk rfl ?_ ?_))
  all_goals (try (conv => whnf))
  all_goals (try (exact Ob.mk (u8_bnd _)))
  all_goals (try (refine Ob.mk ?_; first | exact True.intro | assumption | omega | (try simp only [decide_eq_true_eq, decide_eq_false_iff_not, beq_iff_eq, beq_eq_false_iff_ne, bne_iff_ne, bne_eq_false_iff_eq, ne_eq, Bool.and_eq_true, Bool.or_eq_true, Bool.not_eq_true, Bool.not_eq_false, Bool.not_eq_true', Bool.not_eq_false', Int.toNat_natCast, Int.not_lt, Int.not_le, UInt8.ofNat_toNat, cast_eq] at *; omega)))
  all_goals (try ((show (_:Int) = _); omega))
  all_goals (try (show tupSV _ = _; with_unfolding_all rfl))
  all_goals (try ((show (_ : Nat) ≤ _); (simp <;> omega)))
  all_goals (try ((show (_ : Nat) ≤ _ ∧ (_ : Nat) ≤ _); (simp <;> omega)))
  all_goals (try ((show (_ : Int) ≤ _ ∧ (_ : Int) ≤ _ ∧ (_ : Int) ≤ _ ∧ (_ : Int) ≤ _); (simp <;> omega)))
  all_goals (try (rename_i h; exact absurd h (by decide)))
instance eWSa (q : Bool) (x : List UInt8) : FnM BB 158 [.loc 0 0, .str x] [(0, wrB nilP .nils q)] (x ≠ [] ∧ x.length ≤ 1000000) (.tup [.int .i64 x.length, .v .nilIface]) [(0, wrB (.loc 0 0) (.own 1) q), (1, .own .byte x)] := by
  refine FnM.intro (N := 19) [0, 1, 4, 5] [] 1 Try.call158 Try.func158 rfl rfl (by kernel_rfl) (fun hpre => ?_)
  obtain ⟨hp1, hp2⟩ := hpre
  repeat' ((conv => whnf); first | (with_reducible rfl) | exact True.intro | (with_reducible exact absTF) | (with_reducible exact absFT) | intro _ | refine And.intro ?_ ?_ | refine Fin.mk ?_ | refine CallG.plain rfl ?_ ?_ | refine CallG.mk rfl ?_ ?_ | refine CallG.nwl rfl ?_ ?_ | refine CallG.nw ?_ ?_ | refine CallF.nwl rfl ?_ ?_ | refine CallF.nw ?_ ?_ | refine AppN.mk ?_ | (refine CallS.q ?_; (conv => whnf); first | refine CallG.plain rfl ?_ ?_ | refine CallG.mk rfl ?_ ?_) | (refine CallS.m ?_; (conv => whnf); refine CallM.mk rfl ?_ ?_) | (refine CallS.h ?_; (conv => whnf); refine CallM.mk rfl ?_ ?_) | (refine CallS.b ?_; (conv => whnf); refine CallM.mk rfl ?_ ?_) | (refine CallS.z ?_; (conv => whnf); refine CallM.mk rfl ?_ ?_))
  all_goals (try (conv => whnf))
  all_goals (try (exact Ob.mk (u8_bnd _)))
  all_goals (try (refine Ob.mk ?_; first | exact True.intro | assumption | omega | (try simp only [decide_eq_true_eq, decide_eq_false_iff_not, beq_iff_eq, beq_eq_false_iff_ne, bne_iff_ne, bne_eq_false_iff_eq, ne_eq, Bool.and_eq_true, Bool.or_eq_true, Bool.not_eq_true, Bool.not_eq_false, Bool.not_eq_true', Bool.not_eq_false', Int.toNat_natCast, Int.not_lt, Int.not_le, UInt8.ofNat_toNat, cast_eq] at *; omega)))
  all_goals (try ((show (_:Int) = _); omega))
  all_goals (try (show tupSV _ = _; with_unfolding_all rfl))
  all_goals (try ((show (_ : Nat) ≤ _); (simp <;> omega)))
  all_goals (try ((show (_ : Nat) ≤ _ ∧ (_ : Nat) ≤ _); (simp <;> omega)))
  all_goals (try ((show (_ : Int) ≤ _ ∧ (_ : Int) ≤ _ ∧ (_ : Int) ≤ _ ∧ (_ : Int) ≤ _); (simp <;> omega)))
instance eWSb (q : Bool) (x : List UInt8) : FnM BB 158 [.loc 0 0, .str x] [(0, wrB (.loc 0 0) .nils q)] (x ≠ [] ∧ x.length ≤ 1000000) (.tup [.int .i64 x.length, .v .nilIface]) [(0, wrB (.loc 0 0) (.own 1) q), (1, .own .byte x)] := by
  refine FnM.intro (N := 19) [0, 1, 4, 5] [] 1 Try.call158 Try.func158 rfl rfl (by kernel_rfl) (fun hpre => ?_)
  obtain ⟨hp1, hp2⟩ := hpre
  repeat' ((conv => whnf); first | (with_reducible rfl) | exact True.intro | (with_reducible exact absTF) | (with_reducible exact absFT) | intro _ | refine And.intro ?_ ?_ | refine Fin.mk ?_ | refine CallG.plain rfl ?_ ?_ | refine CallG.mk rfl ?_ ?_ | refine CallG.nwl rfl ?_ ?_ | refine CallG.nw ?_ ?_ | refine CallF.nwl rfl ?_ ?_ | refine CallF.nw ?_ ?_ | refine AppN.mk ?_ | (refine CallS.q ?_; (conv => whnf); first | refine CallG.plain rfl ?_ ?_ | refine CallG.mk rfl ?_ ?_) | (refine CallS.m ?_; (conv => whnf); refine CallM.mk rfl ?_ ?_) | (refine CallS.h ?_; (conv => whnf); refine CallM.mk rfl ?_ ?_) | (refine CallS.b ?_; (conv => whnf); refine CallM.mk rfl ?_ ?_) | (refine CallS.z ?_; (conv => whnf); refine CallM.mk rfl ?_ ?_))
  all_goals (try (conv => whnf))
  all_goals (try (exact Ob.mk (u8_bnd _)))
  all_goals (try (refine Ob.mk ?_; first | exact True.intro | assumption | omega | (try simp only [decide_eq_true_eq, decide_eq_false_iff_not, beq_iff_eq, beq_eq_false_iff_ne, bne_iff_ne, bne_eq_false_iff_eq, ne_eq, Bool.and_eq_true, Bool.or_eq_true, Bool.not_eq_true, Bool.not_eq_false, Bool.not_eq_true', Bool.not_eq_false', Int.toNat_natCast, Int.not_lt, Int.not_le, UInt8.ofNat_toNat, cast_eq] at *; omega)))
  all_goals (try ((show (_:Int) = _); omega))
  all_goals (try (show tupSV _ = _; with_unfolding_all rfl))
  all_goals (try ((show (_ : Nat) ≤ _); (simp <;> omega)))
  all_goals (try ((show (_ : Nat) ≤ _ ∧ (_ : Nat) ≤ _); (simp <;> omega)))
  all_goals (try ((show (_ : Int) ≤ _ ∧ (_ : Int) ≤ _ ∧ (_ : Int) ≤ _ ∧ (_ : Int) ≤ _); (simp <;> omega)))
instance eWSc (q : Bool) (x l : List UInt8) : FnM BB 158 [.loc 0 0, .str x] [(0, wrB (.loc 0 0) (.own 1) q), (1, .own .byte l)] (l.length ≤ 1000000 ∧ x.length ≤ 1000000) (.tup [.int .i64 x.length, .v .nilIface]) [(0, wrB (.loc 0 0) (.own 1) q), (1, .own .byte (l ++ x))] := by
  refine FnM.intro (N := 19) [0, 1, 4, 5] [] 2 Try.call158 Try.func158 rfl rfl (by kernel_rfl) (fun hpre => ?_)
  obtain ⟨hp1, hp2⟩ := hpre
  repeat' ((conv => whnf); first | (with_reducible rfl) | exact True.intro | (with_reducible exact absTF) | (with_reducible exact absFT) | intro _ | refine And.intro ?_ ?_ | refine Fin.mk ?_ | refine CallG.plain rfl ?_ ?_ | refine CallG.mk rfl ?_ ?_ | refine CallG.nwl rfl ?_ ?_ | refine CallG.nw ?_ ?_ | refine CallF.nwl rfl ?_ ?_ | refine CallF.nw ?_ ?_ | refine AppN.mk ?_ | (refine CallS.q ?_; (conv => whnf); first | refine CallG.plain rfl ?_ ?_ | refine CallG.mk rfl ?_ ?_) | (refine CallS.m ?_; (conv => whnf); refine CallM.mk rfl ?_ ?_) | (refine CallS.h ?_; (conv => whnf); refine CallM.mk rfl ?_ ?_) | (refine CallS.b ?_; (conv => whnf); refine CallM.mk rfl ?_ ?_) | (refine CallS.z ?_; (conv => whnf); refine CallM.mk rfl ?_ ?_))
  all_goals (try (conv => whnf))
  all_goals (try (exact Ob.mk (u8_bnd _)))
  all_goals (try (refine Ob.mk ?_; first | exact True.intro | assumption | omega | (try simp only [decide_eq_true_eq, decide_eq_false_iff_not, beq_iff_eq, beq_eq_false_iff_ne, bne_iff_ne, bne_eq_false_iff_eq, ne_eq, Bool.and_eq_true, Bool.or_eq_true, Bool.not_eq_true, Bool.not_eq_false, Bool.not_eq_true', Bool.not_eq_false', Int.toNat_natCast, Int.not_lt, Int.not_le, UInt8.ofNat_toNat, cast_eq] at *; omega)))
  all_goals (try ((show (_:Int) = _); omega))
  all_goals (try (show tupSV _ = _; with_unfolding_all rfl))
  all_goals (try ((show (_ : Nat) ≤ _); (simp <;> omega)))
  all_goals (try ((show (_ : Nat) ≤ _ ∧ (_ : Nat) ≤ _); (simp <;> omega)))
  all_goals (try ((show (_ : Int) ≤ _ ∧ (_ : Int) ≤ _ ∧ (_ : Int) ≤ _ ∧ (_ : Int) ≤ _); (simp <;> omega)))
theorem eWSn (q : Bool) (p : SV) (hp : p = nilP ∨ p = .loc 0 0) : FnM BB 158 [.loc 0 0, .str []] [(0, wrB p .nils q)] True (.tup [.int .i64 0, .v .nilIface]) [(0, wrB (.loc 0 0) .nils q)] := by
  rcases hp with rfl | rfl
  · refine FnM.intro (N := 19) [0, 1, 4, 5] [] 1 Try.call158 Try.func158 rfl rfl (by kernel_rfl) (fun hpre => ?_)
    repeat' ((conv => whnf); first | (with_reducible rfl) | exact True.intro | (with_reducible exact absTF) | (with_reducible exact absFT) | intro _ | refine And.intro ?_ ?_ | refine Fin.mk ?_ | refine CallG.plain rfl ?_ ?_ | refine CallG.mk rfl ?_ ?_ | refine CallG.nwl rfl ?_ ?_ | refine CallG.nw ?_ ?_ | refine CallF.nwl rfl ?_ ?_ | refine CallF.nw ?_ ?_ | refine AppN.nl (by kernel_rfl) rfl ?_ | (refine CallS.q ?_; (conv => whnf); first | refine CallG.plain rfl ?_ ?_ | refine CallG.mk rfl ?_ ?_) | (refine CallS.m ?_; (conv => whnf); refine CallM.mk rfl ?_ ?_) | (refine CallS.h ?_; (conv => whnf); refine CallM.mk rfl ?_ ?_) | (refine CallS.b ?_; (conv => whnf); refine CallM.mk rfl ?_ ?_) | (refine CallS.z ?_; (conv => whnf); refine CallM.mk rfl ?_ ?_))
    all_goals (try (conv => whnf))
    all_goals (try (exact Ob.mk (u8_bnd _)))
    all_goals (try (refine Ob.mk ?_; first | exact True.intro | assumption | omega | (try simp only [decide_eq_true_eq, decide_eq_false_iff_not, beq_iff_eq, beq_eq_false_iff_ne, bne_iff_ne, bne_eq_false_iff_eq, ne_eq, Bool.and_eq_true, Bool.or_eq_true, Bool.not_eq_true, Bool.not_eq_false, Bool.not_eq_true', Bool.not_eq_false', Int.toNat_natCast, Int.not_lt, Int.not_le, UInt8.ofNat_toNat, cast_eq] at *; omega)))
    all_goals (try ((show (_:Int) = _); omega))
    all_goals (try (show tupSV _ = _; with_unfolding_all rfl))
    all_goals (try ((show (_ : Nat) ≤ _); (simp <;> omega)))
    all_goals (try ((show (_ : Nat) ≤ _ ∧ (_ : Nat) ≤ _); (simp <;> omega)))
    all_goals (try ((show (_ : Int) ≤ _ ∧ (_ : Int) ≤ _ ∧ (_ : Int) ≤ _ ∧ (_ : Int) ≤ _); (simp <;> omega)))
    all_goals (try rfl)
  · refine FnM.intro (N := 19) [0, 1, 4, 5] [] 1 Try.call158 Try.func158 rfl rfl (by kernel_rfl) (fun hpre => ?_)
    repeat' ((conv => whnf); first | (with_reducible rfl) | exact True.intro | (with_reducible exact absTF) | (with_reducible exact absFT) | intro _ | refine And.intro ?_ ?_ | refine Fin.mk ?_ | refine CallG.plain rfl ?_ ?_ | refine CallG.mk rfl ?_ ?_ | refine CallG.nwl rfl ?_ ?_ | refine CallG.nw ?_ ?_ | refine CallF.nwl rfl ?_ ?_ | refine CallF.nw ?_ ?_ | refine AppN.nl (by kernel_rfl) rfl ?_ | (refine CallS.q ?_; (conv => whnf); first | refine CallG.plain rfl ?_ ?_ | refine CallG.mk rfl ?_ ?_) | (refine CallS.m ?_; (conv => whnf); refine CallM.mk rfl ?_ ?_) | (refine CallS.h ?_; (conv => whnf); refine CallM.mk rfl ?_ ?_) | (refine CallS.b ?_; (conv => whnf); refine CallM.mk rfl ?_ ?_) | (refine CallS.z ?_; (conv => whnf); refine CallM.mk rfl ?_ ?_))
    all_goals (try (conv => whnf))
    all_goals (try (exact Ob.mk (u8_bnd _)))
    all_goals (try (refine Ob.mk ?_; first | exact True.intro | assumption | omega | (try simp only [decide_eq_true_eq, decide_eq_false_iff_not, beq_iff_eq, beq_eq_false_iff_ne, bne_iff_ne, bne_eq_false_iff_eq, ne_eq, Bool.and_eq_true, Bool.or_eq_true, Bool.not_eq_true, Bool.not_eq_false, Bool.not_eq_true', Bool.not_eq_false', Int.toNat_natCast, Int.not_lt, Int.not_le, UInt8.ofNat_toNat, cast_eq] at *; omega)))
    all_goals (try ((show (_:Int) = _); omega))
    all_goals (try (show tupSV _ = _; with_unfolding_all rfl))
    all_goals (try ((show (_ : Nat) ≤ _); (simp <;> omega)))
    all_goals (try ((show (_ : Nat) ≤ _ ∧ (_ : Nat) ≤ _); (simp <;> omega)))
    all_goals (try ((show (_ : Int) ≤ _ ∧ (_ : Int) ≤ _ ∧ (_ : Int) ≤ _ ∧ (_ : Int) ≤ _); (simp <;> omega)))
    all_goals (try rfl)
end Go.Vc
