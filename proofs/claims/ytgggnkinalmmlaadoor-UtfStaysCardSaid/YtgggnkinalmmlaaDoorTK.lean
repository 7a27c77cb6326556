/- A part of the proof: lemmas and walks that the last text of the claim joins; no condition. -/
import Derived.Test.YtgggnkinalmmlaaDoorTJ
set_option linter.unusedVariables false
set_option linter.unusedSimpArgs false
namespace Go.Vc
open Go.Proofs
set_option linter.unusedVariables false
set_option maxRecDepth 10000
set_option linter.unusedSimpArgs false
set_option maxHeartbeats 8000000
def wuF (u : Bool) (b : List UInt8) : Phi :=
  match u with
  | false => [(0, wrU nilU .nils)]
  | true => [(0, wrU (.loc 0 0) (.own 1)), (1, .own .byte b)]
structure UI (l : List UInt8) (u : Bool) (i : Nat) (b : List UInt8) : Prop where
  hi : i ≤ l.length
  h0 : u = false → i = 0 ∧ b = []
  h1 : u = true → b ≠ []
  eq : b ++ decU (l.drop i) = decU l
  bnd : b.length ≤ 3 * i
theorem UI.step {l u i b} (h : UI l u i b) (hl : i < l.length) {c : List UInt8} {k : Nat} (hc : chrU (l.drop i) = c) (hk : stepU (l.drop i) = k) : UI l true (i + k) (b ++ c) := by
  subst hc; subst hk
  obtain ⟨hi, h0, h1, eq, bnd⟩ := h
  have hd : l.drop i ≠ [] := by intro h; have := congrArg List.length h; rw [List.length_drop] at this; simp at this; omega
  have hs := stepU_bnd _ hd
  have hc := chrU_len _ hd
  have hld : (l.drop i).length = l.length - i := List.length_drop
  refine ⟨by omega, (fun h => by cases h), fun _ h => ?_, ?_, ?_⟩
  · have := congrArg List.length h; rw [List.length_append] at this; simp only [List.length_nil] at this; omega
  · rw [← eq, decU_eq _ hd, List.drop_drop, List.append_assoc]
  · rw [List.length_append]; omega
theorem decU3 (d : List UInt8) : (okU d = false ∧ Lib.decodeL d = (65533, 1)) ∨ (okU d = true ∧ (Lib.decodeL d).2 = cutU d ∧ (((d.getD 0 0).toNat < 128 ∧ (Lib.decodeL d).1 = (d.getD 0 0).toNat ∧ cutU d = 1) ∨ (128 ≤ (d.getD 0 0).toNat ∧ 2 ≤ cutU d ∧ 128 ≤ (Lib.decodeL d).1))) := by
  cases h : okU d with
  | false => exact .inl ⟨rfl, decL_bad h⟩
  | true =>
    obtain ⟨h1, h2, h3⟩ := decL_ok h
    refine .inr ⟨rfl, h1, ?_⟩
    rcases Nat.lt_or_ge (d.getD 0 0).toNat 128 with hh | hh
    · exact .inl ⟨hh, h2 hh⟩
    · exact .inr ⟨hh, h3 hh⟩
theorem st_bad {d : List UInt8} (h : okU d = false) : stepU d = cutU d ∧ chrU d = oddU := by
  refine ⟨?_, ?_⟩
  · unfold stepU; rw [if_neg (by rw [h]; simp)]
  · unfold chrU; rw [if_pos (.inl h)]
theorem b_of {c : UInt8} (k : Nat) (h : c.toNat = k) : c = UInt8.ofNat k := by rw [← h, UInt8.ofNat_toNat]
theorem st_nul {d : List UInt8} (h : okU d = true) (h0 : (d.getD 0 0).toNat = 0) : stepU d = cutU d ∧ chrU d = oddU := by
  have h0 : d.getD 0 0 = 0 := b_of 0 h0
  refine ⟨?_, ?_⟩
  · unfold stepU; rw [if_neg (by rw [h0]; rintro ⟨_, h, _⟩; cases h)]
  · unfold chrU; rw [if_pos (.inr h0)]
theorem st_cr {d : List UInt8} (h : okU d = true) (h0 : (d.getD 0 0).toNat = 13) : stepU d = (if 1 < d.length ∧ (d.getD 1 0).toNat = 10 then 2 else cutU d) ∧ chrU d = [10] := by
  have h0 : d.getD 0 0 = 13 := b_of 13 h0
  refine ⟨?_, ?_⟩
  · unfold stepU
    have : d.getD 1 0 = 10 ↔ (d.getD 1 0).toNat = 10 := ⟨fun h => by rw [h]; rfl, fun h => b_of 10 h⟩
    simp only [this, h, h0, true_and]
  · unfold chrU; rw [if_neg (by rw [h, h0]; simp), if_pos h0]
theorem st_any {d : List UInt8} (h : okU d = true) (h0 : (d.getD 0 0).toNat ≠ 0) (h1 : (d.getD 0 0).toNat ≠ 13) : stepU d = cutU d ∧ chrU d = d.take (cutU d) := by
  have h0 : d.getD 0 0 ≠ 0 := fun h => h0 (by rw [h]; rfl)
  have h1 : d.getD 0 0 ≠ 13 := fun h => h1 (by rw [h]; rfl)
  refine ⟨?_, ?_⟩
  · unfold stepU; rw [if_neg (fun h => h1 h.2.1)]
  · unfold chrU; rw [if_neg (fun q => q.elim (fun q => by rw [h] at q; cases q) h0), if_neg h1]
theorem q1t {d : List UInt8} (h : (((Lib.decodeL d).1 : Int) == 65533 && ((Lib.decodeL d).2 : Int) == 1) = true) : okU d = false := by
  simp only [Bool.and_eq_true, beq_iff_eq] at h
  rcases decU3 d with ⟨h1, h2⟩ | ⟨h1, h2, h3 | h3⟩
  · exact h1
  · omega
  · omega
theorem q1f {d : List UInt8} (h : (((Lib.decodeL d).1 : Int) == 65533 && ((Lib.decodeL d).2 : Int) == 1) = false) : okU d = true ∧ (Lib.decodeL d).2 = cutU d := by
  rcases decU3 d with ⟨h1, h2⟩ | ⟨h1, h2, h3⟩
  · rw [h2] at h; exact absurd h (by decide)
  · exact ⟨h1, h2⟩
theorem q2 {d : List UInt8} (h : okU d = true) {k : Nat} (hk : k < 128) : (((Lib.decodeL d).1 : Int) == (k : Int)) = decide ((d.getD 0 0).toNat = k) := by
  rw [Bool.eq_iff_iff, beq_iff_eq, decide_eq_true_eq]
  rcases decU3 d with ⟨h1, h2⟩ | ⟨h1, h2, h3 | h3⟩
  · rw [h] at h1; cases h1
  · omega
  · omega
theorem q2t {d : List UInt8} (h : okU d = true) {k : Nat} (hk : k < 128) (hh : (((Lib.decodeL d).1 : Int) == (k : Int)) = true) : (d.getD 0 0).toNat = k := by
  rw [q2 h hk] at hh; exact of_decide_eq_true hh
theorem q2f {d : List UInt8} (h : okU d = true) {k : Nat} (hk : k < 128) (hh : (((Lib.decodeL d).1 : Int) == (k : Int)) = false) : (d.getD 0 0).toNat ≠ k := by
  rw [q2 h hk] at hh; exact of_decide_eq_false hh
theorem dec_n (d : List UInt8) (h : d ≠ []) : 1 ≤ (Lib.decodeL d).2 ∧ (Lib.decodeL d).2 ≤ d.length ∧ (Lib.decodeL d).2 ≤ 4 := by
  have := cutU_bnd d h
  have hl : 1 ≤ d.length := List.length_pos_iff.mpr h
  rcases decU3 d with ⟨h1, h2⟩ | ⟨h1, h2, h3⟩
  · rw [h2]; exact ⟨by decide, hl, by decide⟩
  · omega
instance fDecode (l : List UInt8) : Fn BB 25 [.rd .byte l] (l.length ≤ 100000) (.str (decU l)) := by
  refine Fn.intro (N := 49) [0, 2, 3, 4, 5, 8, 18, 28, 32, 44] [] Tryd.call25 Tryd.func25 rfl rfl (by kernel_rfl) (fun hpre => ?_)
  repeat' ((conv => whnf); first | (with_reducible rfl) | exact True.intro | (with_reducible exact absTF) | (with_reducible exact absFT) | intro _ | refine And.intro ?_ ?_ | refine Fin.mk ?_ | refine CallG.plain rfl ?_ ?_ | refine CallG.mk rfl ?_ ?_ | refine CallG.nwl rfl ?_ ?_ | refine CallG.nw ?_ ?_ | refine CallF.nwl rfl ?_ ?_ | refine CallF.nw ?_ ?_ | refine AppN.mk ?_ | (refine CallS.q ?_; (conv => whnf); first | refine CallG.plain rfl ?_ ?_ | refine CallG.mk rfl ?_ ?_) | (refine CallS.m ?_; (conv => whnf); refine CallM.mk rfl ?_ ?_) | (refine CallS.h ?_; (conv => whnf); refine CallM.mk rfl ?_ ?_) | (refine CallS.b ?_; (conv => whnf); refine CallM.mk rfl ?_ ?_) | (refine CallS.z ?_; (conv => whnf); refine CallM.mk rfl ?_ ?_))
  all_goals (try (conv => whnf))
  all_goals (try (exact Ob.mk (u8_bnd _)))
  all_goals (try (refine Ob.mk ?_; first | exact True.intro | assumption | omega | (try simp only [decide_eq_true_eq, decide_eq_false_iff_not, beq_iff_eq, beq_eq_false_iff_ne, bne_iff_ne, bne_eq_false_iff_eq, ne_eq, Bool.and_eq_true, Bool.or_eq_true, Bool.not_eq_true, Bool.not_eq_false, Bool.not_eq_true', Bool.not_eq_false', Int.toNat_natCast, Int.not_lt, Int.not_le, UInt8.ofNat_toNat, cast_eq] at *; omega)))
  all_goals (try ((show (_:Int) = _); omega))
  all_goals (try (show tupSV _ = _; with_unfolding_all rfl))
  all_goals (try ((show (_ : Nat) ≤ _); (simp <;> omega)))
  all_goals (try ((show (_ : Nat) ≤ _ ∧ (_ : Nat) ≤ _); (simp <;> omega)))
  all_goals (try ((show (_ : Int) ≤ _ ∧ (_ : Int) ≤ _ ∧ (_ : Int) ≤ _ ∧ (_ : Int) ≤ _); (simp <;> omega)))
  refine LoopStop.mk (α := Bool × Nat × List UInt8) (fun a => [(0, .rd .byte (l.drop a.2.1))]) (fun a => wuF a.1 a.2.2) 20 (fun a => UI l a.1 a.2.1 a.2.2) (fun a => l.length - a.2.1) (false, 0, [])
    ⟨by simp, fun _ => ⟨rfl, rfl⟩, (fun h => by cases h), by simp, by simp⟩ ?_ (fun a ha => ?_)
  · repeat' ((conv => whnf); first | (with_reducible rfl) | exact True.intro | (with_reducible exact absTF) | (with_reducible exact absFT) | intro _ | refine And.intro ?_ ?_ | refine Fin.mk ?_ | refine CallG.plain rfl ?_ ?_ | refine CallG.mk rfl ?_ ?_ | refine CallG.nwl rfl ?_ ?_ | refine CallG.nw ?_ ?_ | refine CallF.nwl rfl ?_ ?_ | refine CallF.nw ?_ ?_ | refine AppN.mk ?_ | (refine CallS.q ?_; (conv => whnf); first | refine CallG.plain rfl ?_ ?_ | refine CallG.mk rfl ?_ ?_) | (refine CallS.m ?_; (conv => whnf); refine CallM.mk rfl ?_ ?_) | (refine CallS.h ?_; (conv => whnf); refine CallM.mk rfl ?_ ?_) | (refine CallS.b ?_; (conv => whnf); refine CallM.mk rfl ?_ ?_) | (refine CallS.z ?_; (conv => whnf); refine CallM.mk rfl ?_ ?_))
    all_goals (try (conv => whnf))
    all_goals (try (exact Ob.mk (u8_bnd _)))
    all_goals (try (refine Ob.mk ?_; first | exact True.intro | assumption | omega | (try simp only [decide_eq_true_eq, decide_eq_false_iff_not, beq_iff_eq, beq_eq_false_iff_ne, bne_iff_ne, bne_eq_false_iff_eq, ne_eq, Bool.and_eq_true, Bool.or_eq_true, Bool.not_eq_true, Bool.not_eq_false, Bool.not_eq_true', Bool.not_eq_false', Int.toNat_natCast, Int.not_lt, Int.not_le, UInt8.ofNat_toNat, cast_eq] at *; omega)))
    all_goals (try ((show (_:Int) = _); omega))
    all_goals (try (show tupSV _ = _; with_unfolding_all rfl))
    all_goals (try ((show (_ : Nat) ≤ _); (simp <;> omega)))
    all_goals (try ((show (_ : Nat) ≤ _ ∧ (_ : Nat) ≤ _); (simp <;> omega)))
    all_goals (try ((show (_ : Int) ≤ _ ∧ (_ : Int) ≤ _ ∧ (_ : Int) ≤ _ ∧ (_ : Int) ≤ _); (simp <;> omega)))
    all_goals rfl
  · obtain ⟨u, i, b⟩ := a
    have hi : i ≤ l.length := ha.hi
    have hbn : b.length ≤ 3 * i := ha.bnd
    replace ha : UI l u i b := ha
    have hld : (l.drop i).length = l.length - i := List.length_drop
    rcases Nat.lt_or_ge i l.length with hl | hl
    · have hd : l.drop i ≠ [] := by intro h; have := congrArg List.length h; rw [hld] at this; simp at this; omega
      have hcb := cutU_bnd _ hd
      have hdn := dec_n _ hd
      cases u
      · obtain ⟨rfl, rfl⟩ : i = 0 ∧ b = [] := ha.h0 rfl
        repeat' ((conv => whnf); first | (with_reducible rfl) | exact True.intro | (with_reducible exact absTF) | (with_reducible exact absFT) | intro _ | refine And.intro ?_ ?_ | refine Fin.mk ?_ | refine CallG.plain rfl ?_ ?_ | refine CallG.mk rfl ?_ ?_ | refine CallG.nwl rfl ?_ ?_ | refine CallG.nw ?_ ?_ | refine CallF.nwl rfl ?_ ?_ | refine CallF.nw ?_ ?_ | refine AppN.mk ?_ | (refine CallS.q ?_; (conv => whnf); first | refine CallG.plain rfl ?_ ?_ | refine CallG.mk rfl ?_ ?_) | (refine CallS.m ?_; (conv => whnf); refine CallM.mk rfl ?_ ?_) | (refine CallS.h ?_; (conv => whnf); refine CallM.mk rfl ?_ ?_) | (refine CallS.b ?_; (conv => whnf); refine CallM.mk rfl ?_ ?_) | (refine CallS.z ?_; (conv => whnf); refine CallM.mk rfl ?_ ?_))
        all_goals (try (conv => whnf))
        all_goals (try (exact Ob.mk (u8_bnd _)))
        all_goals (try (refine Ob.mk ?_; first | exact True.intro | assumption | omega | (try simp only [decide_eq_true_eq, decide_eq_false_iff_not, beq_iff_eq, beq_eq_false_iff_ne, bne_iff_ne, bne_eq_false_iff_eq, ne_eq, Bool.and_eq_true, Bool.or_eq_true, Bool.not_eq_true, Bool.not_eq_false, Bool.not_eq_true', Bool.not_eq_false', Int.toNat_natCast, Int.not_lt, Int.not_le, UInt8.ofNat_toNat, cast_eq] at *; omega)))
        all_goals (try ((show (_:Int) = _); omega))
        all_goals (try (show tupSV _ = _; with_unfolding_all rfl))
        all_goals (try ((show (_ : Nat) ≤ _); (simp <;> omega)))
        all_goals (try ((show (_ : Nat) ≤ _ ∧ (_ : Nat) ≤ _); (simp <;> omega)))
        all_goals (try ((show (_ : Int) ≤ _ ∧ (_ : Int) ≤ _ ∧ (_ : Int) ≤ _ ∧ (_ : Int) ≤ _); (simp <;> omega)))
        all_goals (try simp only [Int.toNat_natCast] at *)
        all_goals (try (first | exact hd | exact ⟨hd, by omega⟩ | exact ⟨by decide, by decide⟩ | (exfalso; have := of_decide_eq_false ‹decide (((List.drop 0 l).length : Int) > 0) = false›; omega)))
        all_goals (try (first | omega | (constructor <;> omega)))
        all_goals (try exact ⟨by decide, by omega⟩)
        all_goals (try (exact ⟨by decide, by decide, by omega⟩))
        all_goals (try (exact ⟨by omega, by decide⟩))
        · rename_i q1
          have ho := q1t q1
          refine Rnd.mk ⟨(true, 0 + cutU (l.drop 0), [] ++ oddU), ha.step hl (st_bad ho).2 (st_bad ho).1, by simp only []; omega, ?_⟩
          repeat' ((conv => whnf); first | (with_reducible rfl) | exact True.intro | (with_reducible exact absTF) | (with_reducible exact absFT) | intro _ | refine And.intro ?_ ?_ | refine Fin.mk ?_ | refine CallG.plain rfl ?_ ?_ | refine CallG.mk rfl ?_ ?_ | refine CallG.nwl rfl ?_ ?_ | refine CallG.nw ?_ ?_ | refine CallF.nwl rfl ?_ ?_ | refine CallF.nw ?_ ?_ | refine AppN.mk ?_ | (refine CallS.q ?_; (conv => whnf); first | refine CallG.plain rfl ?_ ?_ | refine CallG.mk rfl ?_ ?_) | (refine CallS.m ?_; (conv => whnf); refine CallM.mk rfl ?_ ?_) | (refine CallS.h ?_; (conv => whnf); refine CallM.mk rfl ?_ ?_) | (refine CallS.b ?_; (conv => whnf); refine CallM.mk rfl ?_ ?_) | (refine CallS.z ?_; (conv => whnf); refine CallM.mk rfl ?_ ?_))
          all_goals (try (conv => whnf))
          all_goals (try (exact Ob.mk (u8_bnd _)))
          all_goals (try (refine Ob.mk ?_; first | exact True.intro | assumption | omega | (try simp only [decide_eq_true_eq, decide_eq_false_iff_not, beq_iff_eq, beq_eq_false_iff_ne, bne_iff_ne, bne_eq_false_iff_eq, ne_eq, Bool.and_eq_true, Bool.or_eq_true, Bool.not_eq_true, Bool.not_eq_false, Bool.not_eq_true', Bool.not_eq_false', Int.toNat_natCast, Int.not_lt, Int.not_le, UInt8.ofNat_toNat, cast_eq] at *; omega)))
          all_goals (try ((show (_:Int) = _); omega))
          all_goals (try (show tupSV _ = _; with_unfolding_all rfl))
          all_goals (try ((show (_ : Nat) ≤ _); (simp <;> omega)))
          all_goals (try ((show (_ : Nat) ≤ _ ∧ (_ : Nat) ≤ _); (simp <;> omega)))
          all_goals (try ((show (_ : Int) ≤ _ ∧ (_ : Int) ≤ _ ∧ (_ : Int) ≤ _ ∧ (_ : Int) ≤ _); (simp <;> omega)))
          all_goals (first | rfl | (rw [List.drop_drop]; done) | (simp only [List.drop_drop]; done) | (show SV.rd _ (List.drop 2 (List.drop _ _)) = SV.rd _ _; rw [List.drop_drop]; done) | skip)
        · rename_i q1 q2
          obtain ⟨ho, en⟩ := q1f q1
          have h0 := q2t ho (k := 0) (by omega) q2
          rw [en] at *
          refine Rnd.mk ⟨(true, 0 + cutU (l.drop 0), [] ++ oddU), ha.step hl (st_nul ho h0).2 (st_nul ho h0).1, by simp only []; omega, ?_⟩
          repeat' ((conv => whnf); first | (with_reducible rfl) | exact True.intro | (with_reducible exact absTF) | (with_reducible exact absFT) | intro _ | refine And.intro ?_ ?_ | refine Fin.mk ?_ | refine CallG.plain rfl ?_ ?_ | refine CallG.mk rfl ?_ ?_ | refine CallG.nwl rfl ?_ ?_ | refine CallG.nw ?_ ?_ | refine CallF.nwl rfl ?_ ?_ | refine CallF.nw ?_ ?_ | refine AppN.mk ?_ | (refine CallS.q ?_; (conv => whnf); first | refine CallG.plain rfl ?_ ?_ | refine CallG.mk rfl ?_ ?_) | (refine CallS.m ?_; (conv => whnf); refine CallM.mk rfl ?_ ?_) | (refine CallS.h ?_; (conv => whnf); refine CallM.mk rfl ?_ ?_) | (refine CallS.b ?_; (conv => whnf); refine CallM.mk rfl ?_ ?_) | (refine CallS.z ?_; (conv => whnf); refine CallM.mk rfl ?_ ?_))
          all_goals (try (conv => whnf))
          all_goals (try (exact Ob.mk (u8_bnd _)))
          all_goals (try (refine Ob.mk ?_; first | exact True.intro | assumption | omega | (try simp only [decide_eq_true_eq, decide_eq_false_iff_not, beq_iff_eq, beq_eq_false_iff_ne, bne_iff_ne, bne_eq_false_iff_eq, ne_eq, Bool.and_eq_true, Bool.or_eq_true, Bool.not_eq_true, Bool.not_eq_false, Bool.not_eq_true', Bool.not_eq_false', Int.toNat_natCast, Int.not_lt, Int.not_le, UInt8.ofNat_toNat, cast_eq] at *; omega)))
          all_goals (try ((show (_:Int) = _); omega))
          all_goals (try (show tupSV _ = _; with_unfolding_all rfl))
          all_goals (try ((show (_ : Nat) ≤ _); (simp <;> omega)))
          all_goals (try ((show (_ : Nat) ≤ _ ∧ (_ : Nat) ≤ _); (simp <;> omega)))
          all_goals (try ((show (_ : Int) ≤ _ ∧ (_ : Int) ≤ _ ∧ (_ : Int) ≤ _ ∧ (_ : Int) ≤ _); (simp <;> omega)))
          all_goals (first | rfl | (rw [List.drop_drop]; done) | (simp only [List.drop_drop]; done) | (show SV.rd _ (List.drop 2 (List.drop _ _)) = SV.rd _ _; rw [List.drop_drop]; done) | skip)
        · rename_i q1 q2 q3 q5 q4
          obtain ⟨ho, en⟩ := q1f q1
          have h0 := q2t ho (k := 13) (by omega) q3
          simp only [Bool.and_eq_true, decide_eq_true_eq, beq_iff_eq] at q4
          have q4 : 1 < (l.drop 0).length ∧ ((l.drop 0).getD 1 0).toNat = 10 := ⟨by omega, by have := q4.2; exact Int.ofNat_inj.1 this⟩
          refine Rnd.mk ⟨(true, 0 + 2, [] ++ [10]), ha.step hl (st_cr ho h0).2 ((st_cr ho h0).1.trans (if_pos q4)), by simp only []; omega, ?_⟩
          repeat' ((conv => whnf); first | (with_reducible rfl) | exact True.intro | (with_reducible exact absTF) | (with_reducible exact absFT) | intro _ | refine And.intro ?_ ?_ | refine Fin.mk ?_ | refine CallG.plain rfl ?_ ?_ | refine CallG.mk rfl ?_ ?_ | refine CallG.nwl rfl ?_ ?_ | refine CallG.nw ?_ ?_ | refine CallF.nwl rfl ?_ ?_ | refine CallF.nw ?_ ?_ | refine AppN.mk ?_ | (refine CallS.q ?_; (conv => whnf); first | refine CallG.plain rfl ?_ ?_ | refine CallG.mk rfl ?_ ?_) | (refine CallS.m ?_; (conv => whnf); refine CallM.mk rfl ?_ ?_) | (refine CallS.h ?_; (conv => whnf); refine CallM.mk rfl ?_ ?_) | (refine CallS.b ?_; (conv => whnf); refine CallM.mk rfl ?_ ?_) | (refine CallS.z ?_; (conv => whnf); refine CallM.mk rfl ?_ ?_))
          all_goals (try (conv => whnf))
          all_goals (try (exact Ob.mk (u8_bnd _)))
          all_goals (try (refine Ob.mk ?_; first | exact True.intro | assumption | omega | (try simp only [decide_eq_true_eq, decide_eq_false_iff_not, beq_iff_eq, beq_eq_false_iff_ne, bne_iff_ne, bne_eq_false_iff_eq, ne_eq, Bool.and_eq_true, Bool.or_eq_true, Bool.not_eq_true, Bool.not_eq_false, Bool.not_eq_true', Bool.not_eq_false', Int.toNat_natCast, Int.not_lt, Int.not_le, UInt8.ofNat_toNat, cast_eq] at *; omega)))
          all_goals (try ((show (_:Int) = _); omega))
          all_goals (try (show tupSV _ = _; with_unfolding_all rfl))
          all_goals (try ((show (_ : Nat) ≤ _); (simp <;> omega)))
          all_goals (try ((show (_ : Nat) ≤ _ ∧ (_ : Nat) ≤ _); (simp <;> omega)))
          all_goals (try ((show (_ : Int) ≤ _ ∧ (_ : Int) ≤ _ ∧ (_ : Int) ≤ _ ∧ (_ : Int) ≤ _); (simp <;> omega)))
          all_goals (first | rfl | (rw [List.drop_drop]; done) | (simp only [List.drop_drop]; done) | (show SV.rd _ (List.drop 2 (List.drop _ _)) = SV.rd _ _; rw [List.drop_drop]; done) | skip)
        · rename_i q1 q2 q3 q5 q4
          obtain ⟨ho, en⟩ := q1f q1
          have h0 := q2t ho (k := 13) (by omega) q3
          have q4 : ¬ (1 < (l.drop 0).length ∧ ((l.drop 0).getD 1 0).toNat = 10) := by
            rintro ⟨h1, h2⟩
            simp only [Bool.and_eq_false_iff, decide_eq_false_iff_not, beq_eq_false_iff_ne] at q4
            rcases q4 with q | q
            · omega
            · exact q (by show (((l.drop 0).getD 1 0).toNat : Int) = 10; omega)
          rw [en] at *
          refine Rnd.mk ⟨(true, 0 + cutU (l.drop 0), [] ++ [10]), ha.step hl (st_cr ho h0).2 ((st_cr ho h0).1.trans (if_neg q4)), by simp only []; omega, ?_⟩
          repeat' ((conv => whnf); first | (with_reducible rfl) | exact True.intro | (with_reducible exact absTF) | (with_reducible exact absFT) | intro _ | refine And.intro ?_ ?_ | refine Fin.mk ?_ | refine CallG.plain rfl ?_ ?_ | refine CallG.mk rfl ?_ ?_ | refine CallG.nwl rfl ?_ ?_ | refine CallG.nw ?_ ?_ | refine CallF.nwl rfl ?_ ?_ | refine CallF.nw ?_ ?_ | refine AppN.mk ?_ | (refine CallS.q ?_; (conv => whnf); first | refine CallG.plain rfl ?_ ?_ | refine CallG.mk rfl ?_ ?_) | (refine CallS.m ?_; (conv => whnf); refine CallM.mk rfl ?_ ?_) | (refine CallS.h ?_; (conv => whnf); refine CallM.mk rfl ?_ ?_) | (refine CallS.b ?_; (conv => whnf); refine CallM.mk rfl ?_ ?_) | (refine CallS.z ?_; (conv => whnf); refine CallM.mk rfl ?_ ?_))
          all_goals (try (conv => whnf))
          all_goals (try (exact Ob.mk (u8_bnd _)))
          all_goals (try (refine Ob.mk ?_; first | exact True.intro | assumption | omega | (try simp only [decide_eq_true_eq, decide_eq_false_iff_not, beq_iff_eq, beq_eq_false_iff_ne, bne_iff_ne, bne_eq_false_iff_eq, ne_eq, Bool.and_eq_true, Bool.or_eq_true, Bool.not_eq_true, Bool.not_eq_false, Bool.not_eq_true', Bool.not_eq_false', Int.toNat_natCast, Int.not_lt, Int.not_le, UInt8.ofNat_toNat, cast_eq] at *; omega)))
          all_goals (try ((show (_:Int) = _); omega))
          all_goals (try (show tupSV _ = _; with_unfolding_all rfl))
          all_goals (try ((show (_ : Nat) ≤ _); (simp <;> omega)))
          all_goals (try ((show (_ : Nat) ≤ _ ∧ (_ : Nat) ≤ _); (simp <;> omega)))
          all_goals (try ((show (_ : Int) ≤ _ ∧ (_ : Int) ≤ _ ∧ (_ : Int) ≤ _ ∧ (_ : Int) ≤ _); (simp <;> omega)))
          all_goals (first | rfl | (rw [List.drop_drop]; done) | (simp only [List.drop_drop]; done) | (show SV.rd _ (List.drop 2 (List.drop _ _)) = SV.rd _ _; rw [List.drop_drop]; done) | skip)
        · refine ⟨fun h => ?_, by rw [List.length_take]; omega⟩
          have := congrArg List.length h
          rw [List.length_take] at this
          simp only [List.length_nil] at this
          omega
        · rename_i q1 q2 q3
          obtain ⟨ho, en⟩ := q1f q1
          have h0 := q2f ho (k := 0) (by omega) q2
          have h1 := q2f ho (k := 13) (by omega) q3
          rw [en] at *
          refine Rnd.mk ⟨(true, 0 + cutU (l.drop 0), [] ++ (l.drop 0).take (cutU (l.drop 0))), ha.step hl (st_any ho h0 h1).2 (st_any ho h0 h1).1, by simp only []; omega, ?_⟩
          repeat' ((conv => whnf); first | (with_reducible rfl) | exact True.intro | (with_reducible exact absTF) | (with_reducible exact absFT) | intro _ | refine And.intro ?_ ?_ | refine Fin.mk ?_ | refine CallG.plain rfl ?_ ?_ | refine CallG.mk rfl ?_ ?_ | refine CallG.nwl rfl ?_ ?_ | refine CallG.nw ?_ ?_ | refine CallF.nwl rfl ?_ ?_ | refine CallF.nw ?_ ?_ | refine AppN.mk ?_ | (refine CallS.q ?_; (conv => whnf); first | refine CallG.plain rfl ?_ ?_ | refine CallG.mk rfl ?_ ?_) | (refine CallS.m ?_; (conv => whnf); refine CallM.mk rfl ?_ ?_) | (refine CallS.h ?_; (conv => whnf); refine CallM.mk rfl ?_ ?_) | (refine CallS.b ?_; (conv => whnf); refine CallM.mk rfl ?_ ?_) | (refine CallS.z ?_; (conv => whnf); refine CallM.mk rfl ?_ ?_))
          all_goals (try (conv => whnf))
          all_goals (try (exact Ob.mk (u8_bnd _)))
          all_goals (try (refine Ob.mk ?_; first | exact True.intro | assumption | omega | (try simp only [decide_eq_true_eq, decide_eq_false_iff_not, beq_iff_eq, beq_eq_false_iff_ne, bne_iff_ne, bne_eq_false_iff_eq, ne_eq, Bool.and_eq_true, Bool.or_eq_true, Bool.not_eq_true, Bool.not_eq_false, Bool.not_eq_true', Bool.not_eq_false', Int.toNat_natCast, Int.not_lt, Int.not_le, UInt8.ofNat_toNat, cast_eq] at *; omega)))
          all_goals (try ((show (_:Int) = _); omega))
          all_goals (try (show tupSV _ = _; with_unfolding_all rfl))
          all_goals (try ((show (_ : Nat) ≤ _); (simp <;> omega)))
          all_goals (try ((show (_ : Nat) ≤ _ ∧ (_ : Nat) ≤ _); (simp <;> omega)))
          all_goals (try ((show (_ : Int) ≤ _ ∧ (_ : Int) ≤ _ ∧ (_ : Int) ≤ _ ∧ (_ : Int) ≤ _); (simp <;> omega)))
          all_goals (first | rfl | (rw [List.drop_drop]; done) | (simp only [List.drop_drop]; done) | (show SV.rd _ (List.drop 2 (List.drop _ _)) = SV.rd _ _; rw [List.drop_drop]; done) | skip)
      · have hb0 := ha.h1 rfl
        repeat' ((conv => whnf); first | (with_reducible rfl) | exact True.intro | (with_reducible exact absTF) | (with_reducible exact absFT) | intro _ | refine And.intro ?_ ?_ | refine Fin.mk ?_ | refine CallG.plain rfl ?_ ?_ | refine CallG.mk rfl ?_ ?_ | refine CallG.nwl rfl ?_ ?_ | refine CallG.nw ?_ ?_ | refine CallF.nwl rfl ?_ ?_ | refine CallF.nw ?_ ?_ | refine AppN.mk ?_ | (refine CallS.q ?_; (conv => whnf); first | refine CallG.plain rfl ?_ ?_ | refine CallG.mk rfl ?_ ?_) | (refine CallS.m ?_; (conv => whnf); refine CallM.mk rfl ?_ ?_) | (refine CallS.h ?_; (conv => whnf); refine CallM.mk rfl ?_ ?_) | (refine CallS.b ?_; (conv => whnf); refine CallM.mk rfl ?_ ?_) | (refine CallS.z ?_; (conv => whnf); refine CallM.mk rfl ?_ ?_))
        all_goals (try (conv => whnf))
        all_goals (try (exact Ob.mk (u8_bnd _)))
        all_goals (try (refine Ob.mk ?_; first | exact True.intro | assumption | omega | (try simp only [decide_eq_true_eq, decide_eq_false_iff_not, beq_iff_eq, beq_eq_false_iff_ne, bne_iff_ne, bne_eq_false_iff_eq, ne_eq, Bool.and_eq_true, Bool.or_eq_true, Bool.not_eq_true, Bool.not_eq_false, Bool.not_eq_true', Bool.not_eq_false', Int.toNat_natCast, Int.not_lt, Int.not_le, UInt8.ofNat_toNat, cast_eq] at *; omega)))
        all_goals (try ((show (_:Int) = _); omega))
        all_goals (try (show tupSV _ = _; with_unfolding_all rfl))
        all_goals (try ((show (_ : Nat) ≤ _); (simp <;> omega)))
        all_goals (try ((show (_ : Nat) ≤ _ ∧ (_ : Nat) ≤ _); (simp <;> omega)))
        all_goals (try ((show (_ : Int) ≤ _ ∧ (_ : Int) ≤ _ ∧ (_ : Int) ≤ _ ∧ (_ : Int) ≤ _); (simp <;> omega)))
        all_goals (try simp only [Int.toNat_natCast] at *)
        all_goals (try (first | exact hd | exact ⟨hd, by omega⟩ | exact ⟨by decide, by decide⟩ | exact ⟨by omega, by decide⟩ |  (exfalso; have := of_decide_eq_false ‹decide (((List.drop i l).length : Int) > 0) = false›; omega)))
        all_goals (try (first | omega | (constructor <;> omega)))
        all_goals (try exact ⟨by decide, by omega⟩)
        all_goals (try (exact ⟨by decide, by decide, by omega⟩))
        all_goals (try (exact ⟨by omega, by decide⟩))
        · rename_i q1
          have ho := q1t q1
          refine Rnd.mk ⟨(true, i + cutU (l.drop i), b ++ oddU), ha.step hl (st_bad ho).2 (st_bad ho).1, by simp only []; omega, ?_⟩
          repeat' ((conv => whnf); first | (with_reducible rfl) | exact True.intro | (with_reducible exact absTF) | (with_reducible exact absFT) | intro _ | refine And.intro ?_ ?_ | refine Fin.mk ?_ | refine CallG.plain rfl ?_ ?_ | refine CallG.mk rfl ?_ ?_ | refine CallG.nwl rfl ?_ ?_ | refine CallG.nw ?_ ?_ | refine CallF.nwl rfl ?_ ?_ | refine CallF.nw ?_ ?_ | refine AppN.mk ?_ | (refine CallS.q ?_; (conv => whnf); first | refine CallG.plain rfl ?_ ?_ | refine CallG.mk rfl ?_ ?_) | (refine CallS.m ?_; (conv => whnf); refine CallM.mk rfl ?_ ?_) | (refine CallS.h ?_; (conv => whnf); refine CallM.mk rfl ?_ ?_) | (refine CallS.b ?_; (conv => whnf); refine CallM.mk rfl ?_ ?_) | (refine CallS.z ?_; (conv => whnf); refine CallM.mk rfl ?_ ?_))
          all_goals (try (conv => whnf))
          all_goals (try (exact Ob.mk (u8_bnd _)))
          all_goals (try (refine Ob.mk ?_; first | exact True.intro | assumption | omega | (try simp only [decide_eq_true_eq, decide_eq_false_iff_not, beq_iff_eq, beq_eq_false_iff_ne, bne_iff_ne, bne_eq_false_iff_eq, ne_eq, Bool.and_eq_true, Bool.or_eq_true, Bool.not_eq_true, Bool.not_eq_false, Bool.not_eq_true', Bool.not_eq_false', Int.toNat_natCast, Int.not_lt, Int.not_le, UInt8.ofNat_toNat, cast_eq] at *; omega)))
          all_goals (try ((show (_:Int) = _); omega))
          all_goals (try (show tupSV _ = _; with_unfolding_all rfl))
          all_goals (try ((show (_ : Nat) ≤ _); (simp <;> omega)))
          all_goals (try ((show (_ : Nat) ≤ _ ∧ (_ : Nat) ≤ _); (simp <;> omega)))
          all_goals (try ((show (_ : Int) ≤ _ ∧ (_ : Int) ≤ _ ∧ (_ : Int) ≤ _ ∧ (_ : Int) ≤ _); (simp <;> omega)))
          all_goals (first | rfl | (rw [List.drop_drop]; done) | (simp only [List.drop_drop]; done) | (show SV.rd _ (List.drop 2 (List.drop _ _)) = SV.rd _ _; rw [List.drop_drop]; done) | skip)
        · rename_i q1 q2
          obtain ⟨ho, en⟩ := q1f q1
          have h0 := q2t ho (k := 0) (by omega) q2
          rw [en] at *
          refine Rnd.mk ⟨(true, i + cutU (l.drop i), b ++ oddU), ha.step hl (st_nul ho h0).2 (st_nul ho h0).1, by simp only []; omega, ?_⟩
          repeat' ((conv => whnf); first | (with_reducible rfl) | exact True.intro | (with_reducible exact absTF) | (with_reducible exact absFT) | intro _ | refine And.intro ?_ ?_ | refine Fin.mk ?_ | refine CallG.plain rfl ?_ ?_ | refine CallG.mk rfl ?_ ?_ | refine CallG.nwl rfl ?_ ?_ | refine CallG.nw ?_ ?_ | refine CallF.nwl rfl ?_ ?_ | refine CallF.nw ?_ ?_ | refine AppN.mk ?_ | (refine CallS.q ?_; (conv => whnf); first | refine CallG.plain rfl ?_ ?_ | refine CallG.mk rfl ?_ ?_) | (refine CallS.m ?_; (conv => whnf); refine CallM.mk rfl ?_ ?_) | (refine CallS.h ?_; (conv => whnf); refine CallM.mk rfl ?_ ?_) | (refine CallS.b ?_; (conv => whnf); refine CallM.mk rfl ?_ ?_) | (refine CallS.z ?_; (conv => whnf); refine CallM.mk rfl ?_ ?_))
          all_goals (try (conv => whnf))
          all_goals (try (exact Ob.mk (u8_bnd _)))
          all_goals (try (refine Ob.mk ?_; first | exact True.intro | assumption | omega | (try simp only [decide_eq_true_eq, decide_eq_false_iff_not, beq_iff_eq, beq_eq_false_iff_ne, bne_iff_ne, bne_eq_false_iff_eq, ne_eq, Bool.and_eq_true, Bool.or_eq_true, Bool.not_eq_true, Bool.not_eq_false, Bool.not_eq_true', Bool.not_eq_false', Int.toNat_natCast, Int.not_lt, Int.not_le, UInt8.ofNat_toNat, cast_eq] at *; omega)))
          all_goals (try ((show (_:Int) = _); omega))
          all_goals (try (show tupSV _ = _; with_unfolding_all rfl))
          all_goals (try ((show (_ : Nat) ≤ _); (simp <;> omega)))
          all_goals (try ((show (_ : Nat) ≤ _ ∧ (_ : Nat) ≤ _); (simp <;> omega)))
          all_goals (try ((show (_ : Int) ≤ _ ∧ (_ : Int) ≤ _ ∧ (_ : Int) ≤ _ ∧ (_ : Int) ≤ _); (simp <;> omega)))
          all_goals (first | rfl | (rw [List.drop_drop]; done) | (simp only [List.drop_drop]; done) | (show SV.rd _ (List.drop 2 (List.drop _ _)) = SV.rd _ _; rw [List.drop_drop]; done) | skip)
        · rename_i q1 q2 q3 q5 q4
          obtain ⟨ho, en⟩ := q1f q1
          have h0 := q2t ho (k := 13) (by omega) q3
          simp only [Bool.and_eq_true, decide_eq_true_eq, beq_iff_eq] at q4
          have q4 : 1 < (l.drop i).length ∧ ((l.drop i).getD 1 0).toNat = 10 := ⟨by omega, by have := q4.2; exact Int.ofNat_inj.1 this⟩
          refine Rnd.mk ⟨(true, i + 2, b ++ [10]), ha.step hl (st_cr ho h0).2 ((st_cr ho h0).1.trans (if_pos q4)), by simp only []; omega, ?_⟩
          repeat' ((conv => whnf); first | (with_reducible rfl) | exact True.intro | (with_reducible exact absTF) | (with_reducible exact absFT) | intro _ | refine And.intro ?_ ?_ | refine Fin.mk ?_ | refine CallG.plain rfl ?_ ?_ | refine CallG.mk rfl ?_ ?_ | refine CallG.nwl rfl ?_ ?_ | refine CallG.nw ?_ ?_ | refine CallF.nwl rfl ?_ ?_ | refine CallF.nw ?_ ?_ | refine AppN.mk ?_ | (refine CallS.q ?_; (conv => whnf); first | refine CallG.plain rfl ?_ ?_ | refine CallG.mk rfl ?_ ?_) | (refine CallS.m ?_; (conv => whnf); refine CallM.mk rfl ?_ ?_) | (refine CallS.h ?_; (conv => whnf); refine CallM.mk rfl ?_ ?_) | (refine CallS.b ?_; (conv => whnf); refine CallM.mk rfl ?_ ?_) | (refine CallS.z ?_; (conv => whnf); refine CallM.mk rfl ?_ ?_))
          all_goals (try (conv => whnf))
          all_goals (try (exact Ob.mk (u8_bnd _)))
          all_goals (try (refine Ob.mk ?_; first | exact True.intro | assumption | omega | (try simp only [decide_eq_true_eq, decide_eq_false_iff_not, beq_iff_eq, beq_eq_false_iff_ne, bne_iff_ne, bne_eq_false_iff_eq, ne_eq, Bool.and_eq_true, Bool.or_eq_true, Bool.not_eq_true, Bool.not_eq_false, Bool.not_eq_true', Bool.not_eq_false', Int.toNat_natCast, Int.not_lt, Int.not_le, UInt8.ofNat_toNat, cast_eq] at *; omega)))
          all_goals (try ((show (_:Int) = _); omega))
          all_goals (try (show tupSV _ = _; with_unfolding_all rfl))
          all_goals (try ((show (_ : Nat) ≤ _); (simp <;> omega)))
          all_goals (try ((show (_ : Nat) ≤ _ ∧ (_ : Nat) ≤ _); (simp <;> omega)))
          all_goals (try ((show (_ : Int) ≤ _ ∧ (_ : Int) ≤ _ ∧ (_ : Int) ≤ _ ∧ (_ : Int) ≤ _); (simp <;> omega)))
          all_goals (first | rfl | (rw [List.drop_drop]; done) | (simp only [List.drop_drop]; done) | (show SV.rd _ (List.drop 2 (List.drop _ _)) = SV.rd _ _; rw [List.drop_drop]; done) | skip)
        · rename_i q1 q2 q3 q5 q4
          obtain ⟨ho, en⟩ := q1f q1
          have h0 := q2t ho (k := 13) (by omega) q3
          have q4 : ¬ (1 < (l.drop i).length ∧ ((l.drop i).getD 1 0).toNat = 10) := by
            rintro ⟨h1, h2⟩
            simp only [Bool.and_eq_false_iff, decide_eq_false_iff_not, beq_eq_false_iff_ne] at q4
            rcases q4 with q | q
            · omega
            · exact q (by show (((l.drop i).getD 1 0).toNat : Int) = 10; omega)
          rw [en] at *
          refine Rnd.mk ⟨(true, i + cutU (l.drop i), b ++ [10]), ha.step hl (st_cr ho h0).2 ((st_cr ho h0).1.trans (if_neg q4)), by simp only []; omega, ?_⟩
          repeat' ((conv => whnf); first | (with_reducible rfl) | exact True.intro | (with_reducible exact absTF) | (with_reducible exact absFT) | intro _ | refine And.intro ?_ ?_ | refine Fin.mk ?_ | refine CallG.plain rfl ?_ ?_ | refine CallG.mk rfl ?_ ?_ | refine CallG.nwl rfl ?_ ?_ | refine CallG.nw ?_ ?_ | refine CallF.nwl rfl ?_ ?_ | refine CallF.nw ?_ ?_ | refine AppN.mk ?_ | (refine CallS.q ?_; (conv => whnf); first | refine CallG.plain rfl ?_ ?_ | refine CallG.mk rfl ?_ ?_) | (refine CallS.m ?_; (conv => whnf); refine CallM.mk rfl ?_ ?_) | (refine CallS.h ?_; (conv => whnf); refine CallM.mk rfl ?_ ?_) | (refine CallS.b ?_; (conv => whnf); refine CallM.mk rfl ?_ ?_) | (refine CallS.z ?_; (conv => whnf); refine CallM.mk rfl ?_ ?_))
          all_goals (try (conv => whnf))
          all_goals (try (exact Ob.mk (u8_bnd _)))
          all_goals (try (refine Ob.mk ?_; first | exact True.intro | assumption | omega | (try simp only [decide_eq_true_eq, decide_eq_false_iff_not, beq_iff_eq, beq_eq_false_iff_ne, bne_iff_ne, bne_eq_false_iff_eq, ne_eq, Bool.and_eq_true, Bool.or_eq_true, Bool.not_eq_true, Bool.not_eq_false, Bool.not_eq_true', Bool.not_eq_false', Int.toNat_natCast, Int.not_lt, Int.not_le, UInt8.ofNat_toNat, cast_eq] at *; omega)))
          all_goals (try ((show (_:Int) = _); omega))
          all_goals (try (show tupSV _ = _; with_unfolding_all rfl))
          all_goals (try ((show (_ : Nat) ≤ _); (simp <;> omega)))
          all_goals (try ((show (_ : Nat) ≤ _ ∧ (_ : Nat) ≤ _); (simp <;> omega)))
          all_goals (try ((show (_ : Int) ≤ _ ∧ (_ : Int) ≤ _ ∧ (_ : Int) ≤ _ ∧ (_ : Int) ≤ _); (simp <;> omega)))
          all_goals (first | rfl | (rw [List.drop_drop]; done) | (simp only [List.drop_drop]; done) | (show SV.rd _ (List.drop 2 (List.drop _ _)) = SV.rd _ _; rw [List.drop_drop]; done) | skip)
        · rename_i q1 q2 q3
          obtain ⟨ho, en⟩ := q1f q1
          have h0 := q2f ho (k := 0) (by omega) q2
          have h1 := q2f ho (k := 13) (by omega) q3
          rw [en] at *
          refine Rnd.mk ⟨(true, i + cutU (l.drop i), b ++ (l.drop i).take (cutU (l.drop i))), ha.step hl (st_any ho h0 h1).2 (st_any ho h0 h1).1, by simp only []; omega, ?_⟩
          repeat' ((conv => whnf); first | (with_reducible rfl) | exact True.intro | (with_reducible exact absTF) | (with_reducible exact absFT) | intro _ | refine And.intro ?_ ?_ | refine Fin.mk ?_ | refine CallG.plain rfl ?_ ?_ | refine CallG.mk rfl ?_ ?_ | refine CallG.nwl rfl ?_ ?_ | refine CallG.nw ?_ ?_ | refine CallF.nwl rfl ?_ ?_ | refine CallF.nw ?_ ?_ | refine AppN.mk ?_ | (refine CallS.q ?_; (conv => whnf); first | refine CallG.plain rfl ?_ ?_ | refine CallG.mk rfl ?_ ?_) | (refine CallS.m ?_; (conv => whnf); refine CallM.mk rfl ?_ ?_) | (refine CallS.h ?_; (conv => whnf); refine CallM.mk rfl ?_ ?_) | (refine CallS.b ?_; (conv => whnf); refine CallM.mk rfl ?_ ?_) | (refine CallS.z ?_; (conv => whnf); refine CallM.mk rfl ?_ ?_))
          all_goals (try (conv => whnf))
          all_goals (try (exact Ob.mk (u8_bnd _)))
          all_goals (try (refine Ob.mk ?_; first | exact True.intro | assumption | omega | (try simp only [decide_eq_true_eq, decide_eq_false_iff_not, beq_iff_eq, beq_eq_false_iff_ne, bne_iff_ne, bne_eq_false_iff_eq, ne_eq, Bool.and_eq_true, Bool.or_eq_true, Bool.not_eq_true, Bool.not_eq_false, Bool.not_eq_true', Bool.not_eq_false', Int.toNat_natCast, Int.not_lt, Int.not_le, UInt8.ofNat_toNat, cast_eq] at *; omega)))
          all_goals (try ((show (_:Int) = _); omega))
          all_goals (try (show tupSV _ = _; with_unfolding_all rfl))
          all_goals (try ((show (_ : Nat) ≤ _); (simp <;> omega)))
          all_goals (try ((show (_ : Nat) ≤ _ ∧ (_ : Nat) ≤ _); (simp <;> omega)))
          all_goals (try ((show (_ : Int) ≤ _ ∧ (_ : Int) ≤ _ ∧ (_ : Int) ≤ _ ∧ (_ : Int) ≤ _); (simp <;> omega)))
          all_goals (first | rfl | (rw [List.drop_drop]; done) | (simp only [List.drop_drop]; done) | (show SV.rd _ (List.drop 2 (List.drop _ _)) = SV.rd _ _; rw [List.drop_drop]; done) | skip)
    · have hil : i = l.length := by omega
      have hd : l.drop i = [] := List.drop_eq_nil_of_le (by omega)
      have heq := ha.eq
      rw [hd, decU_nil, List.append_nil] at heq
      cases u
      · obtain ⟨rfl, rfl⟩ : i = 0 ∧ b = [] := ha.h0 rfl
        repeat' ((conv => whnf); first | (with_reducible rfl) | exact True.intro | (with_reducible exact absTF) | (with_reducible exact absFT) | intro _ | refine And.intro ?_ ?_ | refine Fin.mk ?_ | refine CallG.plain rfl ?_ ?_ | refine CallG.mk rfl ?_ ?_ | refine CallG.nwl rfl ?_ ?_ | refine CallG.nw ?_ ?_ | refine CallF.nwl rfl ?_ ?_ | refine CallF.nw ?_ ?_ | refine AppN.mk ?_ | (refine CallS.q ?_; (conv => whnf); first | refine CallG.plain rfl ?_ ?_ | refine CallG.mk rfl ?_ ?_) | (refine CallS.m ?_; (conv => whnf); refine CallM.mk rfl ?_ ?_) | (refine CallS.h ?_; (conv => whnf); refine CallM.mk rfl ?_ ?_) | (refine CallS.b ?_; (conv => whnf); refine CallM.mk rfl ?_ ?_) | (refine CallS.z ?_; (conv => whnf); refine CallM.mk rfl ?_ ?_))
        all_goals (try (conv => whnf))
        all_goals (try (exact Ob.mk (u8_bnd _)))
        all_goals (try (refine Ob.mk ?_; first | exact True.intro | assumption | omega | (try simp only [decide_eq_true_eq, decide_eq_false_iff_not, beq_iff_eq, beq_eq_false_iff_ne, bne_iff_ne, bne_eq_false_iff_eq, ne_eq, Bool.and_eq_true, Bool.or_eq_true, Bool.not_eq_true, Bool.not_eq_false, Bool.not_eq_true', Bool.not_eq_false', Int.toNat_natCast, Int.not_lt, Int.not_le, UInt8.ofNat_toNat, cast_eq] at *; omega)))
        all_goals (try ((show (_:Int) = _); omega))
        all_goals (try (show tupSV _ = _; with_unfolding_all rfl))
        all_goals (try ((show (_ : Nat) ≤ _); (simp <;> omega)))
        all_goals (try ((show (_ : Nat) ≤ _ ∧ (_ : Nat) ≤ _); (simp <;> omega)))
        all_goals (try ((show (_ : Int) ≤ _ ∧ (_ : Int) ≤ _ ∧ (_ : Int) ≤ _ ∧ (_ : Int) ≤ _); (simp <;> omega)))
        all_goals (try (exfalso; have := of_decide_eq_true ‹decide (((List.drop 0 l).length : Int) > 0) = true›; omega))
        all_goals (try (rw [← heq]))
      · have hb0 := ha.h1 rfl
        repeat' ((conv => whnf); first | (with_reducible rfl) | exact True.intro | (with_reducible exact absTF) | (with_reducible exact absFT) | intro _ | refine And.intro ?_ ?_ | refine Fin.mk ?_ | refine CallG.plain rfl ?_ ?_ | refine CallG.mk rfl ?_ ?_ | refine CallG.nwl rfl ?_ ?_ | refine CallG.nw ?_ ?_ | refine CallF.nwl rfl ?_ ?_ | refine CallF.nw ?_ ?_ | refine AppN.mk ?_ | (refine CallS.q ?_; (conv => whnf); first | refine CallG.plain rfl ?_ ?_ | refine CallG.mk rfl ?_ ?_) | (refine CallS.m ?_; (conv => whnf); refine CallM.mk rfl ?_ ?_) | (refine CallS.h ?_; (conv => whnf); refine CallM.mk rfl ?_ ?_) | (refine CallS.b ?_; (conv => whnf); refine CallM.mk rfl ?_ ?_) | (refine CallS.z ?_; (conv => whnf); refine CallM.mk rfl ?_ ?_))
        all_goals (try (conv => whnf))
        all_goals (try (exact Ob.mk (u8_bnd _)))
        all_goals (try (refine Ob.mk ?_; first | exact True.intro | assumption | omega | (try simp only [decide_eq_true_eq, decide_eq_false_iff_not, beq_iff_eq, beq_eq_false_iff_ne, bne_iff_ne, bne_eq_false_iff_eq, ne_eq, Bool.and_eq_true, Bool.or_eq_true, Bool.not_eq_true, Bool.not_eq_false, Bool.not_eq_true', Bool.not_eq_false', Int.toNat_natCast, Int.not_lt, Int.not_le, UInt8.ofNat_toNat, cast_eq] at *; omega)))
        all_goals (try ((show (_:Int) = _); omega))
        all_goals (try (show tupSV _ = _; with_unfolding_all rfl))
        all_goals (try ((show (_ : Nat) ≤ _); (simp <;> omega)))
        all_goals (try ((show (_ : Nat) ≤ _ ∧ (_ : Nat) ≤ _); (simp <;> omega)))
        all_goals (try ((show (_ : Int) ≤ _ ∧ (_ : Int) ≤ _ ∧ (_ : Int) ≤ _ ∧ (_ : Int) ≤ _); (simp <;> omega)))
        all_goals (try (exfalso; have := of_decide_eq_true ‹decide (((List.drop i l).length : Int) > 0) = true›; omega))
        all_goals (try (first | exact hb0 | (rw [← heq])))
end Go.Vc
