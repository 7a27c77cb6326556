/- A part of the proof: lemmas and walks that the last text of the claim joins; no condition. -/
import Derived.Test.YtgggnkinalmmlaaDoorTK
import Derived.Test.YtgggnkinalmmlaaDoorTJ
import Derived.Test.YtgggnkinalmmlaaDoorTA
set_option linter.unusedVariables false
set_option linter.unusedSimpArgs false
namespace Go.Vc
open Go.Proofs
set_option linter.unusedVariables false
set_option maxRecDepth 10000
set_option linter.unusedSimpArgs false
set_option maxHeartbeats 8000000
theorem decTT {p : Prop} {i : Decidable p} : (@decide p i = true) = p := by simp
theorem decFF {p : Prop} {i : Decidable p} : (@decide p i = false) = ¬ p := by simp
theorem okU_iff (l : List UInt8) : okU l = true ↔ (l.getD 0 0).toNat < 128 ∨ (1 ≤ mU (l.getD 0 0).toNat ∧ cutU l = mU (l.getD 0 0).toNat + 1) := by
  unfold okU; rw [decide_eq_true_eq]; rfl
theorem mU_facts (c : Nat) : (c < 194 ∨ 244 < c → mU c = 0) ∧ (194 ≤ c ∧ c ≤ 223 → mU c = 1) ∧ (224 ≤ c ∧ c ≤ 239 → mU c = 2) ∧ (240 ≤ c ∧ c ≤ 244 → mU c = 3) ∧
    (c = 224 → loU c = 160) ∧ (c = 240 → loU c = 144) ∧ (194 ≤ c ∧ c ≤ 244 ∧ c ≠ 224 ∧ c ≠ 240 → loU c = 128) ∧
    (c = 237 → hiU c = 159) ∧ (c = 244 → hiU c = 143) ∧ (194 ≤ c ∧ c ≤ 244 ∧ c ≠ 237 ∧ c ≠ 244 → hiU c = 191) := by
  unfold mU loU hiU
  refine ⟨?_, ?_, ?_, ?_, ?_, ?_, ?_, ?_, ?_, ?_⟩ <;> intro h <;> (repeat' split) <;> omega
theorem loW1 (l : List UInt8) : loW l 1 = loU (l.getD 0 0).toNat := rfl
theorem hiW1 (l : List UInt8) : hiW l 1 = hiU (l.getD 0 0).toNat := rfl
theorem loW2 (l : List UInt8) (k : Nat) (h : 1 ≤ k) : loW l (k + 1) = 128 := by unfold loW; rw [if_neg (by omega)]
theorem hiW2 (l : List UInt8) (k : Nat) (h : 1 ≤ k) : hiW l (k + 1) = 191 := by unfold hiW; rw [if_neg (by omega)]
theorem cutU_small (l : List UInt8) (h : mU (l.getD 0 0).toNat = 0) : cutU l = 1 := by
  unfold cutU cutN; rw [if_neg (by omega)]
theorem clsU (c : Nat) : (c < 128 ∧ mU c = 0) ∨ (128 ≤ c ∧ (c < 194 ∨ 244 < c) ∧ mU c = 0) ∨ (194 ≤ c ∧ c ≤ 223 ∧ mU c = 1 ∧ loU c = 128 ∧ hiU c = 191) ∨ (c = 224 ∧ mU c = 2 ∧ loU c = 160 ∧ hiU c = 191) ∨
    (225 ≤ c ∧ c ≤ 239 ∧ c ≠ 237 ∧ mU c = 2 ∧ loU c = 128 ∧ hiU c = 191) ∨ (c = 237 ∧ mU c = 2 ∧ loU c = 128 ∧ hiU c = 159) ∨ (c = 240 ∧ mU c = 3 ∧ loU c = 144 ∧ hiU c = 191) ∨ (241 ≤ c ∧ c ≤ 243 ∧ mU c = 3 ∧ loU c = 128 ∧ hiU c = 191) ∨ (c = 244 ∧ mU c = 3 ∧ loU c = 128 ∧ hiU c = 143) := by
  obtain ⟨f0, f1, f2, f3, l1, l2, l3, g1, g2, g3⟩ := mU_facts c
  have hc : c < 128 ∨ (128 ≤ c ∧ (c < 194 ∨ 244 < c)) ∨ (194 ≤ c ∧ c ≤ 223) ∨ c = 224 ∨ (225 ≤ c ∧ c ≤ 239 ∧ c ≠ 237) ∨ c = 237 ∨ c = 240 ∨ (241 ≤ c ∧ c ≤ 243) ∨ c = 244 := by clear f0 f1 f2 f3 l1 l2 l3 g1 g2 g3; omega
  rcases hc with h | h | h | h | h | h | h | h | h
  · exact .inl ⟨h, f0 (.inl (by clear f0 f1 f2 f3 l1 l2 l3 g1 g2 g3; omega))⟩
  · exact .inr (.inl ⟨h.1, h.2, f0 h.2⟩)
  · exact .inr (.inr (.inl ⟨h.1, h.2, f1 h, l3 (by clear f0 f1 f2 f3 l1 l2 l3 g1 g2 g3; omega), g3 (by clear f0 f1 f2 f3 l1 l2 l3 g1 g2 g3; omega)⟩))
  · exact .inr (.inr (.inr (.inl ⟨h, f2 (by clear f0 f1 f2 f3 l1 l2 l3 g1 g2 g3; omega), l1 h, g3 (by clear f0 f1 f2 f3 l1 l2 l3 g1 g2 g3; omega)⟩)))
  · exact .inr (.inr (.inr (.inr (.inl ⟨h.1, h.2.1, h.2.2, f2 (by clear f0 f1 f2 f3 l1 l2 l3 g1 g2 g3; omega), l3 (by clear f0 f1 f2 f3 l1 l2 l3 g1 g2 g3; omega), g3 (by clear f0 f1 f2 f3 l1 l2 l3 g1 g2 g3; omega)⟩))))
  · exact .inr (.inr (.inr (.inr (.inr (.inl ⟨h, f2 (by clear f0 f1 f2 f3 l1 l2 l3 g1 g2 g3; omega), l3 (by clear f0 f1 f2 f3 l1 l2 l3 g1 g2 g3; omega), g1 h⟩)))))
  · exact .inr (.inr (.inr (.inr (.inr (.inr (.inl ⟨h, f3 (by clear f0 f1 f2 f3 l1 l2 l3 g1 g2 g3; omega), l2 h, g3 (by clear f0 f1 f2 f3 l1 l2 l3 g1 g2 g3; omega)⟩))))))
  · exact .inr (.inr (.inr (.inr (.inr (.inr (.inr (.inl ⟨h.1, h.2, f3 (by clear f0 f1 f2 f3 l1 l2 l3 g1 g2 g3; omega), l3 (by clear f0 f1 f2 f3 l1 l2 l3 g1 g2 g3; omega), g3 (by clear f0 f1 f2 f3 l1 l2 l3 g1 g2 g3; omega)⟩)))))))
  · exact .inr (.inr (.inr (.inr (.inr (.inr (.inr (.inr ⟨h, f3 (by clear f0 f1 f2 f3 l1 l2 l3 g1 g2 g3; omega), l3 (by clear f0 f1 f2 f3 l1 l2 l3 g1 g2 g3; omega), g2 h⟩)))))))
instance fOne (l : List UInt8) : Fn BB 70 [.rd .byte l] (l ≠ [] ∧ l.length ≤ 1000000) (.tup [.int .i64 (cutU l), .bool (okU l)]) := by
  refine Fn.intro (N := 70) [0, 2, 3, 4, 5, 6, 7, 8, 13, 19, 25, 31, 33, 35, 37, 39, 41, 44, 66] [] Tryd.call70 Tryd.func70 rfl rfl (by kernel_rfl) (fun hpre => ?_)
  obtain ⟨hp1, hp2⟩ := hpre
  have hlen : 1 ≤ l.length := List.length_pos_iff.mpr hp1
  have hc := (u8_bnd (l.getD 0 0)).2
  have hok := okU_iff l
  have hS := cutU_small l
  have hC : ∀ k, 1 ≤ k → k ≤ l.length → k ≤ mU (l.getD 0 0).toNat + 1 → (∀ j, 1 ≤ j → j < k → okW l j) → (k = mU (l.getD 0 0).toNat + 1 ∨ k = l.length ∨ ¬ okW l k) → cutU l = k := fun k h1 h2 h3 h4 h => cutU_of h1 h3 h2 h4 h
  have hL := loW1 l
  have hH := hiW1 l
  have hcl := clsU (l.getD 0 0).toNat
  generalize mU (l.getD 0 0).toNat = M at *
  generalize loU (l.getD 0 0).toNat = LO at *
  generalize hiU (l.getD 0 0).toNat = HI at *
  have hce : UInt8.toNat (@List.getD (Ty.T .byte) l (Int.toNat 0) (Ty.dflt .byte)) = (l.getD 0 0).toNat := rfl
  rcases hcl with hcl | hcl | hcl | hcl | hcl | hcl | hcl | hcl | hcl
  · repeat' ((conv => whnf); first | (with_reducible rfl) | exact True.intro | (with_reducible exact absTF) | (with_reducible exact absFT) | (intro hq; (try simp only [decide_eq_true_eq, decide_eq_false_iff_not, beq_iff_eq, beq_eq_false_iff_ne, bne_iff_ne, bne_eq_false_iff_eq, ne_eq, Bool.and_eq_true, Bool.or_eq_true, Bool.and_eq_false_iff, Bool.or_eq_false_iff, Bool.not_eq_true, Bool.not_eq_false, Bool.not_eq_true', Bool.not_eq_false', Int.toNat_natCast, Int.not_lt, Int.not_le, ge_iff_le, gt_iff_lt, UInt8.ofNat_toNat, cast_eq] at hq); (try (exfalso; first | omega | exact hq trivial | exact absurd hq (by decide)))) | refine And.intro ?_ ?_ | refine Fin.mk ?_ | refine CallG.plain rfl ?_ ?_ | refine CallG.mk rfl ?_ ?_ | refine CallG.nwl rfl ?_ ?_ | refine CallG.nw ?_ ?_ | refine CallF.nwl rfl ?_ ?_ | refine CallF.nw ?_ ?_ | refine AppN.mk ?_ | (refine CallS.q ?_; (conv => whnf); first | refine CallG.plain rfl ?_ ?_ | refine CallG.mk rfl ?_ ?_) | (refine CallS.m ?_; (conv => whnf); refine CallM.mk rfl ?_ ?_) | (refine CallS.h ?_; (conv => whnf); refine CallM.mk rfl ?_ ?_) | (refine CallS.b ?_; (conv => whnf); refine CallM.mk rfl ?_ ?_) | (refine CallS.z ?_; (conv => whnf); refine CallM.mk rfl ?_ ?_))
    all_goals (try (conv => whnf))
    all_goals (try (exact Ob.mk (u8_bnd _)))
    all_goals (try (refine Ob.mk ?_; first | exact True.intro | assumption | omega | (try simp only [decide_eq_true_eq, decide_eq_false_iff_not, beq_iff_eq, beq_eq_false_iff_ne, bne_iff_ne, bne_eq_false_iff_eq, ne_eq, Bool.and_eq_true, Bool.or_eq_true, Bool.not_eq_true, Bool.not_eq_false, Bool.not_eq_true', Bool.not_eq_false', Int.toNat_natCast, Int.not_lt, Int.not_le, UInt8.ofNat_toNat, cast_eq] at *; omega)))
    all_goals (try ((show (_:Int) = _); omega))
    all_goals (try (show tupSV _ = _; with_unfolding_all rfl))
    all_goals (try ((show (_ : Nat) ≤ _); (simp <;> omega)))
    all_goals (try ((show (_ : Nat) ≤ _ ∧ (_ : Nat) ≤ _); (simp <;> omega)))
    all_goals (try ((show (_ : Int) ≤ _ ∧ (_ : Int) ≤ _ ∧ (_ : Int) ≤ _ ∧ (_ : Int) ≤ _); (simp <;> omega)))
    · show true = _; symm; rw [hok]; omega
  · repeat' ((conv => whnf); first | (with_reducible rfl) | exact True.intro | (with_reducible exact absTF) | (with_reducible exact absFT) | (intro hq; (try simp only [decide_eq_true_eq, decide_eq_false_iff_not, beq_iff_eq, beq_eq_false_iff_ne, bne_iff_ne, bne_eq_false_iff_eq, ne_eq, Bool.and_eq_true, Bool.or_eq_true, Bool.and_eq_false_iff, Bool.or_eq_false_iff, Bool.not_eq_true, Bool.not_eq_false, Bool.not_eq_true', Bool.not_eq_false', Int.toNat_natCast, Int.not_lt, Int.not_le, ge_iff_le, gt_iff_lt, UInt8.ofNat_toNat, cast_eq] at hq); (try (exfalso; first | omega | exact hq trivial | exact absurd hq (by decide)))) | refine And.intro ?_ ?_ | refine Fin.mk ?_ | refine CallG.plain rfl ?_ ?_ | refine CallG.mk rfl ?_ ?_ | refine CallG.nwl rfl ?_ ?_ | refine CallG.nw ?_ ?_ | refine CallF.nwl rfl ?_ ?_ | refine CallF.nw ?_ ?_ | refine AppN.mk ?_ | (refine CallS.q ?_; (conv => whnf); first | refine CallG.plain rfl ?_ ?_ | refine CallG.mk rfl ?_ ?_) | (refine CallS.m ?_; (conv => whnf); refine CallM.mk rfl ?_ ?_) | (refine CallS.h ?_; (conv => whnf); refine CallM.mk rfl ?_ ?_) | (refine CallS.b ?_; (conv => whnf); refine CallM.mk rfl ?_ ?_) | (refine CallS.z ?_; (conv => whnf); refine CallM.mk rfl ?_ ?_))
    all_goals (try (conv => whnf))
    all_goals (try (exact Ob.mk (u8_bnd _)))
    all_goals (try (refine Ob.mk ?_; first | exact True.intro | assumption | omega | (try simp only [decide_eq_true_eq, decide_eq_false_iff_not, beq_iff_eq, beq_eq_false_iff_ne, bne_iff_ne, bne_eq_false_iff_eq, ne_eq, Bool.and_eq_true, Bool.or_eq_true, Bool.not_eq_true, Bool.not_eq_false, Bool.not_eq_true', Bool.not_eq_false', Int.toNat_natCast, Int.not_lt, Int.not_le, UInt8.ofNat_toNat, cast_eq] at *; omega)))
    all_goals (try ((show (_:Int) = _); omega))
    all_goals (try (show tupSV _ = _; with_unfolding_all rfl))
    all_goals (try ((show (_ : Nat) ≤ _); (simp <;> omega)))
    all_goals (try ((show (_ : Nat) ≤ _ ∧ (_ : Nat) ≤ _); (simp <;> omega)))
    all_goals (try ((show (_ : Int) ≤ _ ∧ (_ : Int) ≤ _ ∧ (_ : Int) ≤ _ ∧ (_ : Int) ≤ _); (simp <;> omega)))
    · show false = _; symm; rw [Bool.eq_false_iff, ne_eq, hok]; omega
  · repeat' ((conv => whnf); first | (with_reducible rfl) | exact True.intro | (with_reducible exact absTF) | (with_reducible exact absFT) | (intro hq; (try simp only [decide_eq_true_eq, decide_eq_false_iff_not, beq_iff_eq, beq_eq_false_iff_ne, bne_iff_ne, bne_eq_false_iff_eq, ne_eq, Bool.and_eq_true, Bool.or_eq_true, Bool.and_eq_false_iff, Bool.or_eq_false_iff, Bool.not_eq_true, Bool.not_eq_false, Bool.not_eq_true', Bool.not_eq_false', Int.toNat_natCast, Int.not_lt, Int.not_le, ge_iff_le, gt_iff_lt, UInt8.ofNat_toNat, cast_eq] at hq); (try (exfalso; first | omega | exact hq trivial | exact absurd hq (by decide)))) | refine And.intro ?_ ?_ | refine Fin.mk ?_ | refine CallG.plain rfl ?_ ?_ | refine CallG.mk rfl ?_ ?_ | refine CallG.nwl rfl ?_ ?_ | refine CallG.nw ?_ ?_ | refine CallF.nwl rfl ?_ ?_ | refine CallF.nw ?_ ?_ | refine AppN.mk ?_ | (refine CallS.q ?_; (conv => whnf); first | refine CallG.plain rfl ?_ ?_ | refine CallG.mk rfl ?_ ?_) | (refine CallS.m ?_; (conv => whnf); refine CallM.mk rfl ?_ ?_) | (refine CallS.h ?_; (conv => whnf); refine CallM.mk rfl ?_ ?_) | (refine CallS.b ?_; (conv => whnf); refine CallM.mk rfl ?_ ?_) | (refine CallS.z ?_; (conv => whnf); refine CallM.mk rfl ?_ ?_))
    all_goals (try (conv => whnf))
    all_goals (try (exact Ob.mk (u8_bnd _)))
    all_goals (try (refine Ob.mk ?_; first | exact True.intro | assumption | omega | (try simp only [decide_eq_true_eq, decide_eq_false_iff_not, beq_iff_eq, beq_eq_false_iff_ne, bne_iff_ne, bne_eq_false_iff_eq, ne_eq, Bool.and_eq_true, Bool.or_eq_true, Bool.not_eq_true, Bool.not_eq_false, Bool.not_eq_true', Bool.not_eq_false', Int.toNat_natCast, Int.not_lt, Int.not_le, UInt8.ofNat_toNat, cast_eq] at *; omega)))
    all_goals (try ((show (_:Int) = _); omega))
    all_goals (try (show tupSV _ = _; with_unfolding_all rfl))
    all_goals (try ((show (_ : Nat) ≤ _); (simp <;> omega)))
    all_goals (try ((show (_ : Nat) ≤ _ ∧ (_ : Nat) ≤ _); (simp <;> omega)))
    all_goals (try ((show (_ : Int) ≤ _ ∧ (_ : Int) ≤ _ ∧ (_ : Int) ≤ _ ∧ (_ : Int) ≤ _); (simp <;> omega)))
    refine LoopStop.mk (α := Nat) (fun k => [(8, .int .i64 k), (6, .int .u8 (loW l k)), (7, .int .u8 (hiW l k))]) (fun i => []) 40 (fun k => 1 ≤ k ∧ k ≤ l.length ∧ k ≤ M + 1 ∧ ∀ j, 1 ≤ j → j < k → okW l j) (fun k => l.length - k) 1 ⟨by omega, by omega, by omega, fun j _ _ => by omega⟩ ?_ (fun k hk => ?_)
    · repeat' ((conv => whnf); first | (with_reducible rfl) | exact True.intro | (with_reducible exact absTF) | (with_reducible exact absFT) | intro _ | refine And.intro ?_ ?_ | refine Fin.mk ?_ | refine CallG.plain rfl ?_ ?_ | refine CallG.mk rfl ?_ ?_ | refine CallG.nwl rfl ?_ ?_ | refine CallG.nw ?_ ?_ | refine CallF.nwl rfl ?_ ?_ | refine CallF.nw ?_ ?_ | refine AppN.mk ?_ | (refine CallS.q ?_; (conv => whnf); first | refine CallG.plain rfl ?_ ?_ | refine CallG.mk rfl ?_ ?_) | (refine CallS.m ?_; (conv => whnf); refine CallM.mk rfl ?_ ?_) | (refine CallS.h ?_; (conv => whnf); refine CallM.mk rfl ?_ ?_) | (refine CallS.b ?_; (conv => whnf); refine CallM.mk rfl ?_ ?_) | (refine CallS.z ?_; (conv => whnf); refine CallM.mk rfl ?_ ?_))
      all_goals (try (conv => whnf))
      all_goals (try (exact Ob.mk (u8_bnd _)))
      all_goals (try (refine Ob.mk ?_; first | exact True.intro | assumption | omega | (try simp only [decide_eq_true_eq, decide_eq_false_iff_not, beq_iff_eq, beq_eq_false_iff_ne, bne_iff_ne, bne_eq_false_iff_eq, ne_eq, Bool.and_eq_true, Bool.or_eq_true, Bool.not_eq_true, Bool.not_eq_false, Bool.not_eq_true', Bool.not_eq_false', Int.toNat_natCast, Int.not_lt, Int.not_le, UInt8.ofNat_toNat, cast_eq] at *; omega)))
      all_goals (try ((show (_:Int) = _); omega))
      all_goals (try (show tupSV _ = _; with_unfolding_all rfl))
      all_goals (try ((show (_ : Nat) ≤ _); (simp <;> omega)))
      all_goals (try ((show (_ : Nat) ≤ _ ∧ (_ : Nat) ≤ _); (simp <;> omega)))
      all_goals (try ((show (_ : Int) ≤ _ ∧ (_ : Int) ≤ _ ∧ (_ : Int) ≤ _ ∧ (_ : Int) ≤ _); (simp <;> omega)))
      all_goals rfl
    · obtain ⟨h1, h2, h3, h4⟩ := hk
      have hcut := hC k h1 h2 h3 h4
      unfold okW at hcut
      have hs : k < l.length → loW l k ≤ (l.getD k 0).toNat → (l.getD k 0).toNat ≤ hiW l k → ∀ j, 1 ≤ j → j < k + 1 → okW l j := fun _ a b j hj1 hj2 => by
        rcases Nat.lt_or_ge j k with hh | hh
        · exact h4 j hj1 hh
        · obtain rfl : j = k := by omega
          exact ⟨a, b⟩
      have hck : UInt8.toNat (@List.getD (Ty.T .byte) l (Int.toNat (k : Int)) (Ty.dflt .byte)) = (l.getD k 0).toNat := rfl
      have hck2 : UInt8.toNat (@List.getD (Ty.T .byte) l k (Ty.dflt .byte)) = (l.getD k 0).toNat := rfl
      clear hce hC h4 hS hL hH
      repeat' ((conv => whnf); first | (with_reducible rfl) | exact True.intro | (with_reducible exact absTF) | (with_reducible exact absFT) | (intro hq; (try simp only [decide_eq_true_eq, decide_eq_false_iff_not, beq_iff_eq, beq_eq_false_iff_ne, bne_iff_ne, bne_eq_false_iff_eq, ne_eq, Bool.and_eq_true, Bool.or_eq_true, Bool.and_eq_false_iff, Bool.or_eq_false_iff, Bool.not_eq_true, Bool.not_eq_false, Bool.not_eq_true', Bool.not_eq_false', Int.toNat_natCast, Int.not_lt, Int.not_le, ge_iff_le, gt_iff_lt, UInt8.ofNat_toNat, cast_eq] at hq); (try (exfalso; first | omega | exact hq trivial | exact absurd hq (by decide)))) | refine And.intro ?_ ?_ | refine Fin.mk ?_ | refine CallG.plain rfl ?_ ?_ | refine CallG.mk rfl ?_ ?_ | refine CallG.nwl rfl ?_ ?_ | refine CallG.nw ?_ ?_ | refine CallF.nwl rfl ?_ ?_ | refine CallF.nw ?_ ?_ | refine AppN.mk ?_ | (refine CallS.q ?_; (conv => whnf); first | refine CallG.plain rfl ?_ ?_ | refine CallG.mk rfl ?_ ?_) | (refine CallS.m ?_; (conv => whnf); refine CallM.mk rfl ?_ ?_) | (refine CallS.h ?_; (conv => whnf); refine CallM.mk rfl ?_ ?_) | (refine CallS.b ?_; (conv => whnf); refine CallM.mk rfl ?_ ?_) | (refine CallS.z ?_; (conv => whnf); refine CallM.mk rfl ?_ ?_))
      all_goals (try (conv => whnf))
      all_goals (try (exact Ob.mk (u8_bnd _)))
      all_goals (try (refine Ob.mk ?_; first | exact True.intro | assumption | omega | (try simp only [decide_eq_true_eq, decide_eq_false_iff_not, beq_iff_eq, beq_eq_false_iff_ne, bne_iff_ne, bne_eq_false_iff_eq, ne_eq, Bool.and_eq_true, Bool.or_eq_true, Bool.not_eq_true, Bool.not_eq_false, Bool.not_eq_true', Bool.not_eq_false', Int.toNat_natCast, Int.not_lt, Int.not_le, UInt8.ofNat_toNat, cast_eq] at *; omega)))
      all_goals (try ((show (_:Int) = _); omega))
      all_goals (try (show tupSV _ = _; with_unfolding_all rfl))
      all_goals (try ((show (_ : Nat) ≤ _); (simp <;> omega)))
      all_goals (try ((show (_ : Nat) ≤ _ ∧ (_ : Nat) ≤ _); (simp <;> omega)))
      all_goals (try ((show (_ : Int) ≤ _ ∧ (_ : Int) ≤ _ ∧ (_ : Int) ≤ _ ∧ (_ : Int) ≤ _); (simp <;> omega)))
      all_goals (first
        | (refine Rnd.mk ⟨k + 1, ⟨by omega, by omega, by omega, hs (by omega) (by omega) (by omega)⟩, by omega, ?_⟩
           repeat' ((conv => whnf); first | (with_reducible rfl) | exact True.intro | (with_reducible exact absTF) | (with_reducible exact absFT) | intro _ | refine And.intro ?_ ?_ | refine Fin.mk ?_ | refine CallG.plain rfl ?_ ?_ | refine CallG.mk rfl ?_ ?_ | refine CallG.nwl rfl ?_ ?_ | refine CallG.nw ?_ ?_ | refine CallF.nwl rfl ?_ ?_ | refine CallF.nw ?_ ?_ | refine AppN.mk ?_ | (refine CallS.q ?_; (conv => whnf); first | refine CallG.plain rfl ?_ ?_ | refine CallG.mk rfl ?_ ?_) | (refine CallS.m ?_; (conv => whnf); refine CallM.mk rfl ?_ ?_) | (refine CallS.h ?_; (conv => whnf); refine CallM.mk rfl ?_ ?_) | (refine CallS.b ?_; (conv => whnf); refine CallM.mk rfl ?_ ?_) | (refine CallS.z ?_; (conv => whnf); refine CallM.mk rfl ?_ ?_))
           all_goals (try (conv => whnf))
           all_goals (try (exact Ob.mk (u8_bnd _)))
           all_goals (try (refine Ob.mk ?_; first | exact True.intro | assumption | omega | (try simp only [decide_eq_true_eq, decide_eq_false_iff_not, beq_iff_eq, beq_eq_false_iff_ne, bne_iff_ne, bne_eq_false_iff_eq, ne_eq, Bool.and_eq_true, Bool.or_eq_true, Bool.not_eq_true, Bool.not_eq_false, Bool.not_eq_true', Bool.not_eq_false', Int.toNat_natCast, Int.not_lt, Int.not_le, UInt8.ofNat_toNat, cast_eq] at *; omega)))
           all_goals (try ((show (_:Int) = _); omega))
           all_goals (try (show tupSV _ = _; with_unfolding_all rfl))
           all_goals (try ((show (_ : Nat) ≤ _); (simp <;> omega)))
           all_goals (try ((show (_ : Nat) ≤ _ ∧ (_ : Nat) ≤ _); (simp <;> omega)))
           all_goals (try ((show (_ : Int) ≤ _ ∧ (_ : Int) ≤ _ ∧ (_ : Int) ≤ _ ∧ (_ : Int) ≤ _); (simp <;> omega)))
           all_goals (first | (rw [loW2 _ _ h1]; rfl) | (rw [hiW2 _ _ h1]; rfl) | rfl)
           done)
        | (have := hcut (by omega); clear hcut hs; first | omega | (show true = _; symm; rw [hok]; omega) | (show false = _; symm; rw [Bool.eq_false_iff, ne_eq, hok]; omega)))
  · repeat' ((conv => whnf); first | (with_reducible rfl) | exact True.intro | (with_reducible exact absTF) | (with_reducible exact absFT) | (intro hq; (try simp only [decide_eq_true_eq, decide_eq_false_iff_not, beq_iff_eq, beq_eq_false_iff_ne, bne_iff_ne, bne_eq_false_iff_eq, ne_eq, Bool.and_eq_true, Bool.or_eq_true, Bool.and_eq_false_iff, Bool.or_eq_false_iff, Bool.not_eq_true, Bool.not_eq_false, Bool.not_eq_true', Bool.not_eq_false', Int.toNat_natCast, Int.not_lt, Int.not_le, ge_iff_le, gt_iff_lt, UInt8.ofNat_toNat, cast_eq] at hq); (try (exfalso; first | omega | exact hq trivial | exact absurd hq (by decide)))) | refine And.intro ?_ ?_ | refine Fin.mk ?_ | refine CallG.plain rfl ?_ ?_ | refine CallG.mk rfl ?_ ?_ | refine CallG.nwl rfl ?_ ?_ | refine CallG.nw ?_ ?_ | refine CallF.nwl rfl ?_ ?_ | refine CallF.nw ?_ ?_ | refine AppN.mk ?_ | (refine CallS.q ?_; (conv => whnf); first | refine CallG.plain rfl ?_ ?_ | refine CallG.mk rfl ?_ ?_) | (refine CallS.m ?_; (conv => whnf); refine CallM.mk rfl ?_ ?_) | (refine CallS.h ?_; (conv => whnf); refine CallM.mk rfl ?_ ?_) | (refine CallS.b ?_; (conv => whnf); refine CallM.mk rfl ?_ ?_) | (refine CallS.z ?_; (conv => whnf); refine CallM.mk rfl ?_ ?_))
    all_goals (try (conv => whnf))
    all_goals (try (exact Ob.mk (u8_bnd _)))
    all_goals (try (refine Ob.mk ?_; first | exact True.intro | assumption | omega | (try simp only [decide_eq_true_eq, decide_eq_false_iff_not, beq_iff_eq, beq_eq_false_iff_ne, bne_iff_ne, bne_eq_false_iff_eq, ne_eq, Bool.and_eq_true, Bool.or_eq_true, Bool.not_eq_true, Bool.not_eq_false, Bool.not_eq_true', Bool.not_eq_false', Int.toNat_natCast, Int.not_lt, Int.not_le, UInt8.ofNat_toNat, cast_eq] at *; omega)))
    all_goals (try ((show (_:Int) = _); omega))
    all_goals (try (show tupSV _ = _; with_unfolding_all rfl))
    all_goals (try ((show (_ : Nat) ≤ _); (simp <;> omega)))
    all_goals (try ((show (_ : Nat) ≤ _ ∧ (_ : Nat) ≤ _); (simp <;> omega)))
    all_goals (try ((show (_ : Int) ≤ _ ∧ (_ : Int) ≤ _ ∧ (_ : Int) ≤ _ ∧ (_ : Int) ≤ _); (simp <;> omega)))
    refine LoopStop.mk (α := Nat) (fun k => [(8, .int .i64 k), (6, .int .u8 (loW l k)), (7, .int .u8 (hiW l k))]) (fun i => []) 40 (fun k => 1 ≤ k ∧ k ≤ l.length ∧ k ≤ M + 1 ∧ ∀ j, 1 ≤ j → j < k → okW l j) (fun k => l.length - k) 1 ⟨by omega, by omega, by omega, fun j _ _ => by omega⟩ ?_ (fun k hk => ?_)
    · repeat' ((conv => whnf); first | (with_reducible rfl) | exact True.intro | (with_reducible exact absTF) | (with_reducible exact absFT) | intro _ | refine And.intro ?_ ?_ | refine Fin.mk ?_ | refine CallG.plain rfl ?_ ?_ | refine CallG.mk rfl ?_ ?_ | refine CallG.nwl rfl ?_ ?_ | refine CallG.nw ?_ ?_ | refine CallF.nwl rfl ?_ ?_ | refine CallF.nw ?_ ?_ | refine AppN.mk ?_ | (refine CallS.q ?_; (conv => whnf); first | refine CallG.plain rfl ?_ ?_ | refine CallG.mk rfl ?_ ?_) | (refine CallS.m ?_; (conv => whnf); refine CallM.mk rfl ?_ ?_) | (refine CallS.h ?_; (conv => whnf); refine CallM.mk rfl ?_ ?_) | (refine CallS.b ?_; (conv => whnf); refine CallM.mk rfl ?_ ?_) | (refine CallS.z ?_; (conv => whnf); refine CallM.mk rfl ?_ ?_))
      all_goals (try (conv => whnf))
      all_goals (try (exact Ob.mk (u8_bnd _)))
      all_goals (try (refine Ob.mk ?_; first | exact True.intro | assumption | omega | (try simp only [decide_eq_true_eq, decide_eq_false_iff_not, beq_iff_eq, beq_eq_false_iff_ne, bne_iff_ne, bne_eq_false_iff_eq, ne_eq, Bool.and_eq_true, Bool.or_eq_true, Bool.not_eq_true, Bool.not_eq_false, Bool.not_eq_true', Bool.not_eq_false', Int.toNat_natCast, Int.not_lt, Int.not_le, UInt8.ofNat_toNat, cast_eq] at *; omega)))
      all_goals (try ((show (_:Int) = _); omega))
      all_goals (try (show tupSV _ = _; with_unfolding_all rfl))
      all_goals (try ((show (_ : Nat) ≤ _); (simp <;> omega)))
      all_goals (try ((show (_ : Nat) ≤ _ ∧ (_ : Nat) ≤ _); (simp <;> omega)))
      all_goals (try ((show (_ : Int) ≤ _ ∧ (_ : Int) ≤ _ ∧ (_ : Int) ≤ _ ∧ (_ : Int) ≤ _); (simp <;> omega)))
      all_goals rfl
    · obtain ⟨h1, h2, h3, h4⟩ := hk
      have hcut := hC k h1 h2 h3 h4
      unfold okW at hcut
      have hs : k < l.length → loW l k ≤ (l.getD k 0).toNat → (l.getD k 0).toNat ≤ hiW l k → ∀ j, 1 ≤ j → j < k + 1 → okW l j := fun _ a b j hj1 hj2 => by
        rcases Nat.lt_or_ge j k with hh | hh
        · exact h4 j hj1 hh
        · obtain rfl : j = k := by omega
          exact ⟨a, b⟩
      have hck : UInt8.toNat (@List.getD (Ty.T .byte) l (Int.toNat (k : Int)) (Ty.dflt .byte)) = (l.getD k 0).toNat := rfl
      have hck2 : UInt8.toNat (@List.getD (Ty.T .byte) l k (Ty.dflt .byte)) = (l.getD k 0).toNat := rfl
      clear hce hC h4 hS hL hH
      repeat' ((conv => whnf); first | (with_reducible rfl) | exact True.intro | (with_reducible exact absTF) | (with_reducible exact absFT) | (intro hq; (try simp only [decide_eq_true_eq, decide_eq_false_iff_not, beq_iff_eq, beq_eq_false_iff_ne, bne_iff_ne, bne_eq_false_iff_eq, ne_eq, Bool.and_eq_true, Bool.or_eq_true, Bool.and_eq_false_iff, Bool.or_eq_false_iff, Bool.not_eq_true, Bool.not_eq_false, Bool.not_eq_true', Bool.not_eq_false', Int.toNat_natCast, Int.not_lt, Int.not_le, ge_iff_le, gt_iff_lt, UInt8.ofNat_toNat, cast_eq] at hq); (try (exfalso; first | omega | exact hq trivial | exact absurd hq (by decide)))) | refine And.intro ?_ ?_ | refine Fin.mk ?_ | refine CallG.plain rfl ?_ ?_ | refine CallG.mk rfl ?_ ?_ | refine CallG.nwl rfl ?_ ?_ | refine CallG.nw ?_ ?_ | refine CallF.nwl rfl ?_ ?_ | refine CallF.nw ?_ ?_ | refine AppN.mk ?_ | (refine CallS.q ?_; (conv => whnf); first | refine CallG.plain rfl ?_ ?_ | refine CallG.mk rfl ?_ ?_) | (refine CallS.m ?_; (conv => whnf); refine CallM.mk rfl ?_ ?_) | (refine CallS.h ?_; (conv => whnf); refine CallM.mk rfl ?_ ?_) | (refine CallS.b ?_; (conv => whnf); refine CallM.mk rfl ?_ ?_) | (refine CallS.z ?_; (conv => whnf); refine CallM.mk rfl ?_ ?_))
      all_goals (try (conv => whnf))
      all_goals (try (exact Ob.mk (u8_bnd _)))
      all_goals (try (refine Ob.mk ?_; first | exact True.intro | assumption | omega | (try simp only [decide_eq_true_eq, decide_eq_false_iff_not, beq_iff_eq, beq_eq_false_iff_ne, bne_iff_ne, bne_eq_false_iff_eq, ne_eq, Bool.and_eq_true, Bool.or_eq_true, Bool.not_eq_true, Bool.not_eq_false, Bool.not_eq_true', Bool.not_eq_false', Int.toNat_natCast, Int.not_lt, Int.not_le, UInt8.ofNat_toNat, cast_eq] at *; omega)))
      all_goals (try ((show (_:Int) = _); omega))
      all_goals (try (show tupSV _ = _; with_unfolding_all rfl))
      all_goals (try ((show (_ : Nat) ≤ _); (simp <;> omega)))
      all_goals (try ((show (_ : Nat) ≤ _ ∧ (_ : Nat) ≤ _); (simp <;> omega)))
      all_goals (try ((show (_ : Int) ≤ _ ∧ (_ : Int) ≤ _ ∧ (_ : Int) ≤ _ ∧ (_ : Int) ≤ _); (simp <;> omega)))
      all_goals (first
        | (refine Rnd.mk ⟨k + 1, ⟨by omega, by omega, by omega, hs (by omega) (by omega) (by omega)⟩, by omega, ?_⟩
           repeat' ((conv => whnf); first | (with_reducible rfl) | exact True.intro | (with_reducible exact absTF) | (with_reducible exact absFT) | intro _ | refine And.intro ?_ ?_ | refine Fin.mk ?_ | refine CallG.plain rfl ?_ ?_ | refine CallG.mk rfl ?_ ?_ | refine CallG.nwl rfl ?_ ?_ | refine CallG.nw ?_ ?_ | refine CallF.nwl rfl ?_ ?_ | refine CallF.nw ?_ ?_ | refine AppN.mk ?_ | (refine CallS.q ?_; (conv => whnf); first | refine CallG.plain rfl ?_ ?_ | refine CallG.mk rfl ?_ ?_) | (refine CallS.m ?_; (conv => whnf); refine CallM.mk rfl ?_ ?_) | (refine CallS.h ?_; (conv => whnf); refine CallM.mk rfl ?_ ?_) | (refine CallS.b ?_; (conv => whnf); refine CallM.mk rfl ?_ ?_) | (refine CallS.z ?_; (conv => whnf); refine CallM.mk rfl ?_ ?_))
           all_goals (try (conv => whnf))
           all_goals (try (exact Ob.mk (u8_bnd _)))
           all_goals (try (refine Ob.mk ?_; first | exact True.intro | assumption | omega | (try simp only [decide_eq_true_eq, decide_eq_false_iff_not, beq_iff_eq, beq_eq_false_iff_ne, bne_iff_ne, bne_eq_false_iff_eq, ne_eq, Bool.and_eq_true, Bool.or_eq_true, Bool.not_eq_true, Bool.not_eq_false, Bool.not_eq_true', Bool.not_eq_false', Int.toNat_natCast, Int.not_lt, Int.not_le, UInt8.ofNat_toNat, cast_eq] at *; omega)))
           all_goals (try ((show (_:Int) = _); omega))
           all_goals (try (show tupSV _ = _; with_unfolding_all rfl))
           all_goals (try ((show (_ : Nat) ≤ _); (simp <;> omega)))
           all_goals (try ((show (_ : Nat) ≤ _ ∧ (_ : Nat) ≤ _); (simp <;> omega)))
           all_goals (try ((show (_ : Int) ≤ _ ∧ (_ : Int) ≤ _ ∧ (_ : Int) ≤ _ ∧ (_ : Int) ≤ _); (simp <;> omega)))
           all_goals (first | (rw [loW2 _ _ h1]; rfl) | (rw [hiW2 _ _ h1]; rfl) | rfl)
           done)
        | (have := hcut (by omega); clear hcut hs; first | omega | (show true = _; symm; rw [hok]; omega) | (show false = _; symm; rw [Bool.eq_false_iff, ne_eq, hok]; omega)))
  · repeat' ((conv => whnf); first | (with_reducible rfl) | exact True.intro | (with_reducible exact absTF) | (with_reducible exact absFT) | (intro hq; (try simp only [decide_eq_true_eq, decide_eq_false_iff_not, beq_iff_eq, beq_eq_false_iff_ne, bne_iff_ne, bne_eq_false_iff_eq, ne_eq, Bool.and_eq_true, Bool.or_eq_true, Bool.and_eq_false_iff, Bool.or_eq_false_iff, Bool.not_eq_true, Bool.not_eq_false, Bool.not_eq_true', Bool.not_eq_false', Int.toNat_natCast, Int.not_lt, Int.not_le, ge_iff_le, gt_iff_lt, UInt8.ofNat_toNat, cast_eq] at hq); (try (exfalso; first | omega | exact hq trivial | exact absurd hq (by decide)))) | refine And.intro ?_ ?_ | refine Fin.mk ?_ | refine CallG.plain rfl ?_ ?_ | refine CallG.mk rfl ?_ ?_ | refine CallG.nwl rfl ?_ ?_ | refine CallG.nw ?_ ?_ | refine CallF.nwl rfl ?_ ?_ | refine CallF.nw ?_ ?_ | refine AppN.mk ?_ | (refine CallS.q ?_; (conv => whnf); first | refine CallG.plain rfl ?_ ?_ | refine CallG.mk rfl ?_ ?_) | (refine CallS.m ?_; (conv => whnf); refine CallM.mk rfl ?_ ?_) | (refine CallS.h ?_; (conv => whnf); refine CallM.mk rfl ?_ ?_) | (refine CallS.b ?_; (conv => whnf); refine CallM.mk rfl ?_ ?_) | (refine CallS.z ?_; (conv => whnf); refine CallM.mk rfl ?_ ?_))
    all_goals (try (conv => whnf))
    all_goals (try (exact Ob.mk (u8_bnd _)))
    all_goals (try (refine Ob.mk ?_; first | exact True.intro | assumption | omega | (try simp only [decide_eq_true_eq, decide_eq_false_iff_not, beq_iff_eq, beq_eq_false_iff_ne, bne_iff_ne, bne_eq_false_iff_eq, ne_eq, Bool.and_eq_true, Bool.or_eq_true, Bool.not_eq_true, Bool.not_eq_false, Bool.not_eq_true', Bool.not_eq_false', Int.toNat_natCast, Int.not_lt, Int.not_le, UInt8.ofNat_toNat, cast_eq] at *; omega)))
    all_goals (try ((show (_:Int) = _); omega))
    all_goals (try (show tupSV _ = _; with_unfolding_all rfl))
    all_goals (try ((show (_ : Nat) ≤ _); (simp <;> omega)))
    all_goals (try ((show (_ : Nat) ≤ _ ∧ (_ : Nat) ≤ _); (simp <;> omega)))
    all_goals (try ((show (_ : Int) ≤ _ ∧ (_ : Int) ≤ _ ∧ (_ : Int) ≤ _ ∧ (_ : Int) ≤ _); (simp <;> omega)))
    refine LoopStop.mk (α := Nat) (fun k => [(8, .int .i64 k), (6, .int .u8 (loW l k)), (7, .int .u8 (hiW l k))]) (fun i => []) 40 (fun k => 1 ≤ k ∧ k ≤ l.length ∧ k ≤ M + 1 ∧ ∀ j, 1 ≤ j → j < k → okW l j) (fun k => l.length - k) 1 ⟨by omega, by omega, by omega, fun j _ _ => by omega⟩ ?_ (fun k hk => ?_)
    · repeat' ((conv => whnf); first | (with_reducible rfl) | exact True.intro | (with_reducible exact absTF) | (with_reducible exact absFT) | intro _ | refine And.intro ?_ ?_ | refine Fin.mk ?_ | refine CallG.plain rfl ?_ ?_ | refine CallG.mk rfl ?_ ?_ | refine CallG.nwl rfl ?_ ?_ | refine CallG.nw ?_ ?_ | refine CallF.nwl rfl ?_ ?_ | refine CallF.nw ?_ ?_ | refine AppN.mk ?_ | (refine CallS.q ?_; (conv => whnf); first | refine CallG.plain rfl ?_ ?_ | refine CallG.mk rfl ?_ ?_) | (refine CallS.m ?_; (conv => whnf); refine CallM.mk rfl ?_ ?_) | (refine CallS.h ?_; (conv => whnf); refine CallM.mk rfl ?_ ?_) | (refine CallS.b ?_; (conv => whnf); refine CallM.mk rfl ?_ ?_) | (refine CallS.z ?_; (conv => whnf); refine CallM.mk rfl ?_ ?_))
      all_goals (try (conv => whnf))
      all_goals (try (exact Ob.mk (u8_bnd _)))
      all_goals (try (refine Ob.mk ?_; first | exact True.intro | assumption | omega | (try simp only [decide_eq_true_eq, decide_eq_false_iff_not, beq_iff_eq, beq_eq_false_iff_ne, bne_iff_ne, bne_eq_false_iff_eq, ne_eq, Bool.and_eq_true, Bool.or_eq_true, Bool.not_eq_true, Bool.not_eq_false, Bool.not_eq_true', Bool.not_eq_false', Int.toNat_natCast, Int.not_lt, Int.not_le, UInt8.ofNat_toNat, cast_eq] at *; omega)))
      all_goals (try ((show (_:Int) = _); omega))
      all_goals (try (show tupSV _ = _; with_unfolding_all rfl))
      all_goals (try ((show (_ : Nat) ≤ _); (simp <;> omega)))
      all_goals (try ((show (_ : Nat) ≤ _ ∧ (_ : Nat) ≤ _); (simp <;> omega)))
      all_goals (try ((show (_ : Int) ≤ _ ∧ (_ : Int) ≤ _ ∧ (_ : Int) ≤ _ ∧ (_ : Int) ≤ _); (simp <;> omega)))
      all_goals rfl
    · obtain ⟨h1, h2, h3, h4⟩ := hk
      have hcut := hC k h1 h2 h3 h4
      unfold okW at hcut
      have hs : k < l.length → loW l k ≤ (l.getD k 0).toNat → (l.getD k 0).toNat ≤ hiW l k → ∀ j, 1 ≤ j → j < k + 1 → okW l j := fun _ a b j hj1 hj2 => by
        rcases Nat.lt_or_ge j k with hh | hh
        · exact h4 j hj1 hh
        · obtain rfl : j = k := by omega
          exact ⟨a, b⟩
      have hck : UInt8.toNat (@List.getD (Ty.T .byte) l (Int.toNat (k : Int)) (Ty.dflt .byte)) = (l.getD k 0).toNat := rfl
      have hck2 : UInt8.toNat (@List.getD (Ty.T .byte) l k (Ty.dflt .byte)) = (l.getD k 0).toNat := rfl
      clear hce hC h4 hS hL hH
      repeat' ((conv => whnf); first | (with_reducible rfl) | exact True.intro | (with_reducible exact absTF) | (with_reducible exact absFT) | (intro hq; (try simp only [decide_eq_true_eq, decide_eq_false_iff_not, beq_iff_eq, beq_eq_false_iff_ne, bne_iff_ne, bne_eq_false_iff_eq, ne_eq, Bool.and_eq_true, Bool.or_eq_true, Bool.and_eq_false_iff, Bool.or_eq_false_iff, Bool.not_eq_true, Bool.not_eq_false, Bool.not_eq_true', Bool.not_eq_false', Int.toNat_natCast, Int.not_lt, Int.not_le, ge_iff_le, gt_iff_lt, UInt8.ofNat_toNat, cast_eq] at hq); (try (exfalso; first | omega | exact hq trivial | exact absurd hq (by decide)))) | refine And.intro ?_ ?_ | refine Fin.mk ?_ | refine CallG.plain rfl ?_ ?_ | refine CallG.mk rfl ?_ ?_ | refine CallG.nwl rfl ?_ ?_ | refine CallG.nw ?_ ?_ | refine CallF.nwl rfl ?_ ?_ | refine CallF.nw ?_ ?_ | refine AppN.mk ?_ | (refine CallS.q ?_; (conv => whnf); first | refine CallG.plain rfl ?_ ?_ | refine CallG.mk rfl ?_ ?_) | (refine CallS.m ?_; (conv => whnf); refine CallM.mk rfl ?_ ?_) | (refine CallS.h ?_; (conv => whnf); refine CallM.mk rfl ?_ ?_) | (refine CallS.b ?_; (conv => whnf); refine CallM.mk rfl ?_ ?_) | (refine CallS.z ?_; (conv => whnf); refine CallM.mk rfl ?_ ?_))
      all_goals (try (conv => whnf))
      all_goals (try (exact Ob.mk (u8_bnd _)))
      all_goals (try (refine Ob.mk ?_; first | exact True.intro | assumption | omega | (try simp only [decide_eq_true_eq, decide_eq_false_iff_not, beq_iff_eq, beq_eq_false_iff_ne, bne_iff_ne, bne_eq_false_iff_eq, ne_eq, Bool.and_eq_true, Bool.or_eq_true, Bool.not_eq_true, Bool.not_eq_false, Bool.not_eq_true', Bool.not_eq_false', Int.toNat_natCast, Int.not_lt, Int.not_le, UInt8.ofNat_toNat, cast_eq] at *; omega)))
      all_goals (try ((show (_:Int) = _); omega))
      all_goals (try (show tupSV _ = _; with_unfolding_all rfl))
      all_goals (try ((show (_ : Nat) ≤ _); (simp <;> omega)))
      all_goals (try ((show (_ : Nat) ≤ _ ∧ (_ : Nat) ≤ _); (simp <;> omega)))
      all_goals (try ((show (_ : Int) ≤ _ ∧ (_ : Int) ≤ _ ∧ (_ : Int) ≤ _ ∧ (_ : Int) ≤ _); (simp <;> omega)))
      all_goals (first
        | (refine Rnd.mk ⟨k + 1, ⟨by omega, by omega, by omega, hs (by omega) (by omega) (by omega)⟩, by omega, ?_⟩
           repeat' ((conv => whnf); first | (with_reducible rfl) | exact True.intro | (with_reducible exact absTF) | (with_reducible exact absFT) | intro _ | refine And.intro ?_ ?_ | refine Fin.mk ?_ | refine CallG.plain rfl ?_ ?_ | refine CallG.mk rfl ?_ ?_ | refine CallG.nwl rfl ?_ ?_ | refine CallG.nw ?_ ?_ | refine CallF.nwl rfl ?_ ?_ | refine CallF.nw ?_ ?_ | refine AppN.mk ?_ | (refine CallS.q ?_; (conv => whnf); first | refine CallG.plain rfl ?_ ?_ | refine CallG.mk rfl ?_ ?_) | (refine CallS.m ?_; (conv => whnf); refine CallM.mk rfl ?_ ?_) | (refine CallS.h ?_; (conv => whnf); refine CallM.mk rfl ?_ ?_) | (refine CallS.b ?_; (conv => whnf); refine CallM.mk rfl ?_ ?_) | (refine CallS.z ?_; (conv => whnf); refine CallM.mk rfl ?_ ?_))
           all_goals (try (conv => whnf))
           all_goals (try (exact Ob.mk (u8_bnd _)))
           all_goals (try (refine Ob.mk ?_; first | exact True.intro | assumption | omega | (try simp only [decide_eq_true_eq, decide_eq_false_iff_not, beq_iff_eq, beq_eq_false_iff_ne, bne_iff_ne, bne_eq_false_iff_eq, ne_eq, Bool.and_eq_true, Bool.or_eq_true, Bool.not_eq_true, Bool.not_eq_false, Bool.not_eq_true', Bool.not_eq_false', Int.toNat_natCast, Int.not_lt, Int.not_le, UInt8.ofNat_toNat, cast_eq] at *; omega)))
           all_goals (try ((show (_:Int) = _); omega))
           all_goals (try (show tupSV _ = _; with_unfolding_all rfl))
           all_goals (try ((show (_ : Nat) ≤ _); (simp <;> omega)))
           all_goals (try ((show (_ : Nat) ≤ _ ∧ (_ : Nat) ≤ _); (simp <;> omega)))
           all_goals (try ((show (_ : Int) ≤ _ ∧ (_ : Int) ≤ _ ∧ (_ : Int) ≤ _ ∧ (_ : Int) ≤ _); (simp <;> omega)))
           all_goals (first | (rw [loW2 _ _ h1]; rfl) | (rw [hiW2 _ _ h1]; rfl) | rfl)
           done)
        | (have := hcut (by omega); clear hcut hs; first | omega | (show true = _; symm; rw [hok]; omega) | (show false = _; symm; rw [Bool.eq_false_iff, ne_eq, hok]; omega)))
  · repeat' ((conv => whnf); first | (with_reducible rfl) | exact True.intro | (with_reducible exact absTF) | (with_reducible exact absFT) | (intro hq; (try simp only [decide_eq_true_eq, decide_eq_false_iff_not, beq_iff_eq, beq_eq_false_iff_ne, bne_iff_ne, bne_eq_false_iff_eq, ne_eq, Bool.and_eq_true, Bool.or_eq_true, Bool.and_eq_false_iff, Bool.or_eq_false_iff, Bool.not_eq_true, Bool.not_eq_false, Bool.not_eq_true', Bool.not_eq_false', Int.toNat_natCast, Int.not_lt, Int.not_le, ge_iff_le, gt_iff_lt, UInt8.ofNat_toNat, cast_eq] at hq); (try (exfalso; first | omega | exact hq trivial | exact absurd hq (by decide)))) | refine And.intro ?_ ?_ | refine Fin.mk ?_ | refine CallG.plain rfl ?_ ?_ | refine CallG.mk rfl ?_ ?_ | refine CallG.nwl rfl ?_ ?_ | refine CallG.nw ?_ ?_ | refine CallF.nwl rfl ?_ ?_ | refine CallF.nw ?_ ?_ | refine AppN.mk ?_ | (refine CallS.q ?_; (conv => whnf); first | refine CallG.plain rfl ?_ ?_ | refine CallG.mk rfl ?_ ?_) | (refine CallS.m ?_; (conv => whnf); refine CallM.mk rfl ?_ ?_) | (refine CallS.h ?_; (conv => whnf); refine CallM.mk rfl ?_ ?_) | (refine CallS.b ?_; (conv => whnf); refine CallM.mk rfl ?_ ?_) | (refine CallS.z ?_; (conv => whnf); refine CallM.mk rfl ?_ ?_))
    all_goals (try (conv => whnf))
    all_goals (try (exact Ob.mk (u8_bnd _)))
    all_goals (try (refine Ob.mk ?_; first | exact True.intro | assumption | omega | (try simp only [decide_eq_true_eq, decide_eq_false_iff_not, beq_iff_eq, beq_eq_false_iff_ne, bne_iff_ne, bne_eq_false_iff_eq, ne_eq, Bool.and_eq_true, Bool.or_eq_true, Bool.not_eq_true, Bool.not_eq_false, Bool.not_eq_true', Bool.not_eq_false', Int.toNat_natCast, Int.not_lt, Int.not_le, UInt8.ofNat_toNat, cast_eq] at *; omega)))
    all_goals (try ((show (_:Int) = _); omega))
    all_goals (try (show tupSV _ = _; with_unfolding_all rfl))
    all_goals (try ((show (_ : Nat) ≤ _); (simp <;> omega)))
    all_goals (try ((show (_ : Nat) ≤ _ ∧ (_ : Nat) ≤ _); (simp <;> omega)))
    all_goals (try ((show (_ : Int) ≤ _ ∧ (_ : Int) ≤ _ ∧ (_ : Int) ≤ _ ∧ (_ : Int) ≤ _); (simp <;> omega)))
    refine LoopStop.mk (α := Nat) (fun k => [(8, .int .i64 k), (6, .int .u8 (loW l k)), (7, .int .u8 (hiW l k))]) (fun i => []) 40 (fun k => 1 ≤ k ∧ k ≤ l.length ∧ k ≤ M + 1 ∧ ∀ j, 1 ≤ j → j < k → okW l j) (fun k => l.length - k) 1 ⟨by omega, by omega, by omega, fun j _ _ => by omega⟩ ?_ (fun k hk => ?_)
    · repeat' ((conv => whnf); first | (with_reducible rfl) | exact True.intro | (with_reducible exact absTF) | (with_reducible exact absFT) | intro _ | refine And.intro ?_ ?_ | refine Fin.mk ?_ | refine CallG.plain rfl ?_ ?_ | refine CallG.mk rfl ?_ ?_ | refine CallG.nwl rfl ?_ ?_ | refine CallG.nw ?_ ?_ | refine CallF.nwl rfl ?_ ?_ | refine CallF.nw ?_ ?_ | refine AppN.mk ?_ | (refine CallS.q ?_; (conv => whnf); first | refine CallG.plain rfl ?_ ?_ | refine CallG.mk rfl ?_ ?_) | (refine CallS.m ?_; (conv => whnf); refine CallM.mk rfl ?_ ?_) | (refine CallS.h ?_; (conv => whnf); refine CallM.mk rfl ?_ ?_) | (refine CallS.b ?_; (conv => whnf); refine CallM.mk rfl ?_ ?_) | (refine CallS.z ?_; (conv => whnf); refine CallM.mk rfl ?_ ?_))
      all_goals (try (conv => whnf))
      all_goals (try (exact Ob.mk (u8_bnd _)))
      all_goals (try (refine Ob.mk ?_; first | exact True.intro | assumption | omega | (try simp only [decide_eq_true_eq, decide_eq_false_iff_not, beq_iff_eq, beq_eq_false_iff_ne, bne_iff_ne, bne_eq_false_iff_eq, ne_eq, Bool.and_eq_true, Bool.or_eq_true, Bool.not_eq_true, Bool.not_eq_false, Bool.not_eq_true', Bool.not_eq_false', Int.toNat_natCast, Int.not_lt, Int.not_le, UInt8.ofNat_toNat, cast_eq] at *; omega)))
      all_goals (try ((show (_:Int) = _); omega))
      all_goals (try (show tupSV _ = _; with_unfolding_all rfl))
      all_goals (try ((show (_ : Nat) ≤ _); (simp <;> omega)))
      all_goals (try ((show (_ : Nat) ≤ _ ∧ (_ : Nat) ≤ _); (simp <;> omega)))
      all_goals (try ((show (_ : Int) ≤ _ ∧ (_ : Int) ≤ _ ∧ (_ : Int) ≤ _ ∧ (_ : Int) ≤ _); (simp <;> omega)))
      all_goals rfl
    · obtain ⟨h1, h2, h3, h4⟩ := hk
      have hcut := hC k h1 h2 h3 h4
      unfold okW at hcut
      have hs : k < l.length → loW l k ≤ (l.getD k 0).toNat → (l.getD k 0).toNat ≤ hiW l k → ∀ j, 1 ≤ j → j < k + 1 → okW l j := fun _ a b j hj1 hj2 => by
        rcases Nat.lt_or_ge j k with hh | hh
        · exact h4 j hj1 hh
        · obtain rfl : j = k := by omega
          exact ⟨a, b⟩
      have hck : UInt8.toNat (@List.getD (Ty.T .byte) l (Int.toNat (k : Int)) (Ty.dflt .byte)) = (l.getD k 0).toNat := rfl
      have hck2 : UInt8.toNat (@List.getD (Ty.T .byte) l k (Ty.dflt .byte)) = (l.getD k 0).toNat := rfl
      clear hce hC h4 hS hL hH
      repeat' ((conv => whnf); first | (with_reducible rfl) | exact True.intro | (with_reducible exact absTF) | (with_reducible exact absFT) | (intro hq; (try simp only [decide_eq_true_eq, decide_eq_false_iff_not, beq_iff_eq, beq_eq_false_iff_ne, bne_iff_ne, bne_eq_false_iff_eq, ne_eq, Bool.and_eq_true, Bool.or_eq_true, Bool.and_eq_false_iff, Bool.or_eq_false_iff, Bool.not_eq_true, Bool.not_eq_false, Bool.not_eq_true', Bool.not_eq_false', Int.toNat_natCast, Int.not_lt, Int.not_le, ge_iff_le, gt_iff_lt, UInt8.ofNat_toNat, cast_eq] at hq); (try (exfalso; first | omega | exact hq trivial | exact absurd hq (by decide)))) | refine And.intro ?_ ?_ | refine Fin.mk ?_ | refine CallG.plain rfl ?_ ?_ | refine CallG.mk rfl ?_ ?_ | refine CallG.nwl rfl ?_ ?_ | refine CallG.nw ?_ ?_ | refine CallF.nwl rfl ?_ ?_ | refine CallF.nw ?_ ?_ | refine AppN.mk ?_ | (refine CallS.q ?_; (conv => whnf); first | refine CallG.plain rfl ?_ ?_ | refine CallG.mk rfl ?_ ?_) | (refine CallS.m ?_; (conv => whnf); refine CallM.mk rfl ?_ ?_) | (refine CallS.h ?_; (conv => whnf); refine CallM.mk rfl ?_ ?_) | (refine CallS.b ?_; (conv => whnf); refine CallM.mk rfl ?_ ?_) | (refine CallS.z ?_; (conv => whnf); refine CallM.mk rfl ?_ ?_))
      all_goals (try (conv => whnf))
      all_goals (try (exact Ob.mk (u8_bnd _)))
      all_goals (try (refine Ob.mk ?_; first | exact True.intro | assumption | omega | (try simp only [decide_eq_true_eq, decide_eq_false_iff_not, beq_iff_eq, beq_eq_false_iff_ne, bne_iff_ne, bne_eq_false_iff_eq, ne_eq, Bool.and_eq_true, Bool.or_eq_true, Bool.not_eq_true, Bool.not_eq_false, Bool.not_eq_true', Bool.not_eq_false', Int.toNat_natCast, Int.not_lt, Int.not_le, UInt8.ofNat_toNat, cast_eq] at *; omega)))
      all_goals (try ((show (_:Int) = _); omega))
      all_goals (try (show tupSV _ = _; with_unfolding_all rfl))
      all_goals (try ((show (_ : Nat) ≤ _); (simp <;> omega)))
      all_goals (try ((show (_ : Nat) ≤ _ ∧ (_ : Nat) ≤ _); (simp <;> omega)))
      all_goals (try ((show (_ : Int) ≤ _ ∧ (_ : Int) ≤ _ ∧ (_ : Int) ≤ _ ∧ (_ : Int) ≤ _); (simp <;> omega)))
      all_goals (first
        | (refine Rnd.mk ⟨k + 1, ⟨by omega, by omega, by omega, hs (by omega) (by omega) (by omega)⟩, by omega, ?_⟩
           repeat' ((conv => whnf); first | (with_reducible rfl) | exact True.intro | (with_reducible exact absTF) | (with_reducible exact absFT) | intro _ | refine And.intro ?_ ?_ | refine Fin.mk ?_ | refine CallG.plain rfl ?_ ?_ | refine CallG.mk rfl ?_ ?_ | refine CallG.nwl rfl ?_ ?_ | refine CallG.nw ?_ ?_ | refine CallF.nwl rfl ?_ ?_ | refine CallF.nw ?_ ?_ | refine AppN.mk ?_ | (refine CallS.q ?_; (conv => whnf); first | refine CallG.plain rfl ?_ ?_ | refine CallG.mk rfl ?_ ?_) | (refine CallS.m ?_; (conv => whnf); refine CallM.mk rfl ?_ ?_) | (refine CallS.h ?_; (conv => whnf); refine CallM.mk rfl ?_ ?_) | (refine CallS.b ?_; (conv => whnf); refine CallM.mk rfl ?_ ?_) | (refine CallS.z ?_; (conv => whnf); refine CallM.mk rfl ?_ ?_))
           all_goals (try (conv => whnf))
           all_goals (try (exact Ob.mk (u8_bnd _)))
           all_goals (try (refine Ob.mk ?_; first | exact True.intro | assumption | omega | (try simp only [decide_eq_true_eq, decide_eq_false_iff_not, beq_iff_eq, beq_eq_false_iff_ne, bne_iff_ne, bne_eq_false_iff_eq, ne_eq, Bool.and_eq_true, Bool.or_eq_true, Bool.not_eq_true, Bool.not_eq_false, Bool.not_eq_true', Bool.not_eq_false', Int.toNat_natCast, Int.not_lt, Int.not_le, UInt8.ofNat_toNat, cast_eq] at *; omega)))
           all_goals (try ((show (_:Int) = _); omega))
           all_goals (try (show tupSV _ = _; with_unfolding_all rfl))
           all_goals (try ((show (_ : Nat) ≤ _); (simp <;> omega)))
           all_goals (try ((show (_ : Nat) ≤ _ ∧ (_ : Nat) ≤ _); (simp <;> omega)))
           all_goals (try ((show (_ : Int) ≤ _ ∧ (_ : Int) ≤ _ ∧ (_ : Int) ≤ _ ∧ (_ : Int) ≤ _); (simp <;> omega)))
           all_goals (first | (rw [loW2 _ _ h1]; rfl) | (rw [hiW2 _ _ h1]; rfl) | rfl)
           done)
        | (have := hcut (by omega); clear hcut hs; first | omega | (show true = _; symm; rw [hok]; omega) | (show false = _; symm; rw [Bool.eq_false_iff, ne_eq, hok]; omega)))
  · repeat' ((conv => whnf); first | (with_reducible rfl) | exact True.intro | (with_reducible exact absTF) | (with_reducible exact absFT) | (intro hq; (try simp only [decide_eq_true_eq, decide_eq_false_iff_not, beq_iff_eq, beq_eq_false_iff_ne, bne_iff_ne, bne_eq_false_iff_eq, ne_eq, Bool.and_eq_true, Bool.or_eq_true, Bool.and_eq_false_iff, Bool.or_eq_false_iff, Bool.not_eq_true, Bool.not_eq_false, Bool.not_eq_true', Bool.not_eq_false', Int.toNat_natCast, Int.not_lt, Int.not_le, ge_iff_le, gt_iff_lt, UInt8.ofNat_toNat, cast_eq] at hq); (try (exfalso; first | omega | exact hq trivial | exact absurd hq (by decide)))) | refine And.intro ?_ ?_ | refine Fin.mk ?_ | refine CallG.plain rfl ?_ ?_ | refine CallG.mk rfl ?_ ?_ | refine CallG.nwl rfl ?_ ?_ | refine CallG.nw ?_ ?_ | refine CallF.nwl rfl ?_ ?_ | refine CallF.nw ?_ ?_ | refine AppN.mk ?_ | (refine CallS.q ?_; (conv => whnf); first | refine CallG.plain rfl ?_ ?_ | refine CallG.mk rfl ?_ ?_) | (refine CallS.m ?_; (conv => whnf); refine CallM.mk rfl ?_ ?_) | (refine CallS.h ?_; (conv => whnf); refine CallM.mk rfl ?_ ?_) | (refine CallS.b ?_; (conv => whnf); refine CallM.mk rfl ?_ ?_) | (refine CallS.z ?_; (conv => whnf); refine CallM.mk rfl ?_ ?_))
    all_goals (try (conv => whnf))
    all_goals (try (exact Ob.mk (u8_bnd _)))
    all_goals (try (refine Ob.mk ?_; first | exact True.intro | assumption | omega | (try simp only [decide_eq_true_eq, decide_eq_false_iff_not, beq_iff_eq, beq_eq_false_iff_ne, bne_iff_ne, bne_eq_false_iff_eq, ne_eq, Bool.and_eq_true, Bool.or_eq_true, Bool.not_eq_true, Bool.not_eq_false, Bool.not_eq_true', Bool.not_eq_false', Int.toNat_natCast, Int.not_lt, Int.not_le, UInt8.ofNat_toNat, cast_eq] at *; omega)))
    all_goals (try ((show (_:Int) = _); omega))
    all_goals (try (show tupSV _ = _; with_unfolding_all rfl))
    all_goals (try ((show (_ : Nat) ≤ _); (simp <;> omega)))
    all_goals (try ((show (_ : Nat) ≤ _ ∧ (_ : Nat) ≤ _); (simp <;> omega)))
    all_goals (try ((show (_ : Int) ≤ _ ∧ (_ : Int) ≤ _ ∧ (_ : Int) ≤ _ ∧ (_ : Int) ≤ _); (simp <;> omega)))
    refine LoopStop.mk (α := Nat) (fun k => [(8, .int .i64 k), (6, .int .u8 (loW l k)), (7, .int .u8 (hiW l k))]) (fun i => []) 40 (fun k => 1 ≤ k ∧ k ≤ l.length ∧ k ≤ M + 1 ∧ ∀ j, 1 ≤ j → j < k → okW l j) (fun k => l.length - k) 1 ⟨by omega, by omega, by omega, fun j _ _ => by omega⟩ ?_ (fun k hk => ?_)
    · repeat' ((conv => whnf); first | (with_reducible rfl) | exact True.intro | (with_reducible exact absTF) | (with_reducible exact absFT) | intro _ | refine And.intro ?_ ?_ | refine Fin.mk ?_ | refine CallG.plain rfl ?_ ?_ | refine CallG.mk rfl ?_ ?_ | refine CallG.nwl rfl ?_ ?_ | refine CallG.nw ?_ ?_ | refine CallF.nwl rfl ?_ ?_ | refine CallF.nw ?_ ?_ | refine AppN.mk ?_ | (refine CallS.q ?_; (conv => whnf); first | refine CallG.plain rfl ?_ ?_ | refine CallG.mk rfl ?_ ?_) | (refine CallS.m ?_; (conv => whnf); refine CallM.mk rfl ?_ ?_) | (refine CallS.h ?_; (conv => whnf); refine CallM.mk rfl ?_ ?_) | (refine CallS.b ?_; (conv => whnf); refine CallM.mk rfl ?_ ?_) | (refine CallS.z ?_; (conv => whnf); refine CallM.mk rfl ?_ ?_))
      all_goals (try (conv => whnf))
      all_goals (try (exact Ob.mk (u8_bnd _)))
      all_goals (try (refine Ob.mk ?_; first | exact True.intro | assumption | omega | (try simp only [decide_eq_true_eq, decide_eq_false_iff_not, beq_iff_eq, beq_eq_false_iff_ne, bne_iff_ne, bne_eq_false_iff_eq, ne_eq, Bool.and_eq_true, Bool.or_eq_true, Bool.not_eq_true, Bool.not_eq_false, Bool.not_eq_true', Bool.not_eq_false', Int.toNat_natCast, Int.not_lt, Int.not_le, UInt8.ofNat_toNat, cast_eq] at *; omega)))
      all_goals (try ((show (_:Int) = _); omega))
      all_goals (try (show tupSV _ = _; with_unfolding_all rfl))
      all_goals (try ((show (_ : Nat) ≤ _); (simp <;> omega)))
      all_goals (try ((show (_ : Nat) ≤ _ ∧ (_ : Nat) ≤ _); (simp <;> omega)))
      all_goals (try ((show (_ : Int) ≤ _ ∧ (_ : Int) ≤ _ ∧ (_ : Int) ≤ _ ∧ (_ : Int) ≤ _); (simp <;> omega)))
      all_goals rfl
    · obtain ⟨h1, h2, h3, h4⟩ := hk
      have hcut := hC k h1 h2 h3 h4
      unfold okW at hcut
      have hs : k < l.length → loW l k ≤ (l.getD k 0).toNat → (l.getD k 0).toNat ≤ hiW l k → ∀ j, 1 ≤ j → j < k + 1 → okW l j := fun _ a b j hj1 hj2 => by
        rcases Nat.lt_or_ge j k with hh | hh
        · exact h4 j hj1 hh
        · obtain rfl : j = k := by omega
          exact ⟨a, b⟩
      have hck : UInt8.toNat (@List.getD (Ty.T .byte) l (Int.toNat (k : Int)) (Ty.dflt .byte)) = (l.getD k 0).toNat := rfl
      have hck2 : UInt8.toNat (@List.getD (Ty.T .byte) l k (Ty.dflt .byte)) = (l.getD k 0).toNat := rfl
      clear hce hC h4 hS hL hH
      repeat' ((conv => whnf); first | (with_reducible rfl) | exact True.intro | (with_reducible exact absTF) | (with_reducible exact absFT) | (intro hq; (try simp only [decide_eq_true_eq, decide_eq_false_iff_not, beq_iff_eq, beq_eq_false_iff_ne, bne_iff_ne, bne_eq_false_iff_eq, ne_eq, Bool.and_eq_true, Bool.or_eq_true, Bool.and_eq_false_iff, Bool.or_eq_false_iff, Bool.not_eq_true, Bool.not_eq_false, Bool.not_eq_true', Bool.not_eq_false', Int.toNat_natCast, Int.not_lt, Int.not_le, ge_iff_le, gt_iff_lt, UInt8.ofNat_toNat, cast_eq] at hq); (try (exfalso; first | omega | exact hq trivial | exact absurd hq (by decide)))) | refine And.intro ?_ ?_ | refine Fin.mk ?_ | refine CallG.plain rfl ?_ ?_ | refine CallG.mk rfl ?_ ?_ | refine CallG.nwl rfl ?_ ?_ | refine CallG.nw ?_ ?_ | refine CallF.nwl rfl ?_ ?_ | refine CallF.nw ?_ ?_ | refine AppN.mk ?_ | (refine CallS.q ?_; (conv => whnf); first | refine CallG.plain rfl ?_ ?_ | refine CallG.mk rfl ?_ ?_) | (refine CallS.m ?_; (conv => whnf); refine CallM.mk rfl ?_ ?_) | (refine CallS.h ?_; (conv => whnf); refine CallM.mk rfl ?_ ?_) | (refine CallS.b ?_; (conv => whnf); refine CallM.mk rfl ?_ ?_) | (refine CallS.z ?_; (conv => whnf); refine CallM.mk rfl ?_ ?_))
      all_goals (try (conv => whnf))
      all_goals (try (exact Ob.mk (u8_bnd _)))
      all_goals (try (refine Ob.mk ?_; first | exact True.intro | assumption | omega | (try simp only [decide_eq_true_eq, decide_eq_false_iff_not, beq_iff_eq, beq_eq_false_iff_ne, bne_iff_ne, bne_eq_false_iff_eq, ne_eq, Bool.and_eq_true, Bool.or_eq_true, Bool.not_eq_true, Bool.not_eq_false, Bool.not_eq_true', Bool.not_eq_false', Int.toNat_natCast, Int.not_lt, Int.not_le, UInt8.ofNat_toNat, cast_eq] at *; omega)))
      all_goals (try ((show (_:Int) = _); omega))
      all_goals (try (show tupSV _ = _; with_unfolding_all rfl))
      all_goals (try ((show (_ : Nat) ≤ _); (simp <;> omega)))
      all_goals (try ((show (_ : Nat) ≤ _ ∧ (_ : Nat) ≤ _); (simp <;> omega)))
      all_goals (try ((show (_ : Int) ≤ _ ∧ (_ : Int) ≤ _ ∧ (_ : Int) ≤ _ ∧ (_ : Int) ≤ _); (simp <;> omega)))
      all_goals (first
        | (refine Rnd.mk ⟨k + 1, ⟨by omega, by omega, by omega, hs (by omega) (by omega) (by omega)⟩, by omega, ?_⟩
           repeat' ((conv => whnf); first | (with_reducible rfl) | exact True.intro | (with_reducible exact absTF) | (with_reducible exact absFT) | intro _ | refine And.intro ?_ ?_ | refine Fin.mk ?_ | refine CallG.plain rfl ?_ ?_ | refine CallG.mk rfl ?_ ?_ | refine CallG.nwl rfl ?_ ?_ | refine CallG.nw ?_ ?_ | refine CallF.nwl rfl ?_ ?_ | refine CallF.nw ?_ ?_ | refine AppN.mk ?_ | (refine CallS.q ?_; (conv => whnf); first | refine CallG.plain rfl ?_ ?_ | refine CallG.mk rfl ?_ ?_) | (refine CallS.m ?_; (conv => whnf); refine CallM.mk rfl ?_ ?_) | (refine CallS.h ?_; (conv => whnf); refine CallM.mk rfl ?_ ?_) | (refine CallS.b ?_; (conv => whnf); refine CallM.mk rfl ?_ ?_) | (refine CallS.z ?_; (conv => whnf); refine CallM.mk rfl ?_ ?_))
           all_goals (try (conv => whnf))
           all_goals (try (exact Ob.mk (u8_bnd _)))
           all_goals (try (refine Ob.mk ?_; first | exact True.intro | assumption | omega | (try simp only [decide_eq_true_eq, decide_eq_false_iff_not, beq_iff_eq, beq_eq_false_iff_ne, bne_iff_ne, bne_eq_false_iff_eq, ne_eq, Bool.and_eq_true, Bool.or_eq_true, Bool.not_eq_true, Bool.not_eq_false, Bool.not_eq_true', Bool.not_eq_false', Int.toNat_natCast, Int.not_lt, Int.not_le, UInt8.ofNat_toNat, cast_eq] at *; omega)))
           all_goals (try ((show (_:Int) = _); omega))
           all_goals (try (show tupSV _ = _; with_unfolding_all rfl))
           all_goals (try ((show (_ : Nat) ≤ _); (simp <;> omega)))
           all_goals (try ((show (_ : Nat) ≤ _ ∧ (_ : Nat) ≤ _); (simp <;> omega)))
           all_goals (try ((show (_ : Int) ≤ _ ∧ (_ : Int) ≤ _ ∧ (_ : Int) ≤ _ ∧ (_ : Int) ≤ _); (simp <;> omega)))
           all_goals (first | (rw [loW2 _ _ h1]; rfl) | (rw [hiW2 _ _ h1]; rfl) | rfl)
           done)
        | (have := hcut (by omega); clear hcut hs; first | omega | (show true = _; symm; rw [hok]; omega) | (show false = _; symm; rw [Bool.eq_false_iff, ne_eq, hok]; omega)))
  · repeat' ((conv => whnf); first | (with_reducible rfl) | exact True.intro | (with_reducible exact absTF) | (with_reducible exact absFT) | (intro hq; (try simp only [decide_eq_true_eq, decide_eq_false_iff_not, beq_iff_eq, beq_eq_false_iff_ne, bne_iff_ne, bne_eq_false_iff_eq, ne_eq, Bool.and_eq_true, Bool.or_eq_true, Bool.and_eq_false_iff, Bool.or_eq_false_iff, Bool.not_eq_true, Bool.not_eq_false, Bool.not_eq_true', Bool.not_eq_false', Int.toNat_natCast, Int.not_lt, Int.not_le, ge_iff_le, gt_iff_lt, UInt8.ofNat_toNat, cast_eq] at hq); (try (exfalso; first | omega | exact hq trivial | exact absurd hq (by decide)))) | refine And.intro ?_ ?_ | refine Fin.mk ?_ | refine CallG.plain rfl ?_ ?_ | refine CallG.mk rfl ?_ ?_ | refine CallG.nwl rfl ?_ ?_ | refine CallG.nw ?_ ?_ | refine CallF.nwl rfl ?_ ?_ | refine CallF.nw ?_ ?_ | refine AppN.mk ?_ | (refine CallS.q ?_; (conv => whnf); first | refine CallG.plain rfl ?_ ?_ | refine CallG.mk rfl ?_ ?_) | (refine CallS.m ?_; (conv => whnf); refine CallM.mk rfl ?_ ?_) | (refine CallS.h ?_; (conv => whnf); refine CallM.mk rfl ?_ ?_) | (refine CallS.b ?_; (conv => whnf); refine CallM.mk rfl ?_ ?_) | (refine CallS.z ?_; (conv => whnf); refine CallM.mk rfl ?_ ?_))
    all_goals (try (conv => whnf))
    all_goals (try (exact Ob.mk (u8_bnd _)))
    all_goals (try (refine Ob.mk ?_; first | exact True.intro | assumption | omega | (try simp only [decide_eq_true_eq, decide_eq_false_iff_not, beq_iff_eq, beq_eq_false_iff_ne, bne_iff_ne, bne_eq_false_iff_eq, ne_eq, Bool.and_eq_true, Bool.or_eq_true, Bool.not_eq_true, Bool.not_eq_false, Bool.not_eq_true', Bool.not_eq_false', Int.toNat_natCast, Int.not_lt, Int.not_le, UInt8.ofNat_toNat, cast_eq] at *; omega)))
    all_goals (try ((show (_:Int) = _); omega))
    all_goals (try (show tupSV _ = _; with_unfolding_all rfl))
    all_goals (try ((show (_ : Nat) ≤ _); (simp <;> omega)))
    all_goals (try ((show (_ : Nat) ≤ _ ∧ (_ : Nat) ≤ _); (simp <;> omega)))
    all_goals (try ((show (_ : Int) ≤ _ ∧ (_ : Int) ≤ _ ∧ (_ : Int) ≤ _ ∧ (_ : Int) ≤ _); (simp <;> omega)))
    refine LoopStop.mk (α := Nat) (fun k => [(8, .int .i64 k), (6, .int .u8 (loW l k)), (7, .int .u8 (hiW l k))]) (fun i => []) 40 (fun k => 1 ≤ k ∧ k ≤ l.length ∧ k ≤ M + 1 ∧ ∀ j, 1 ≤ j → j < k → okW l j) (fun k => l.length - k) 1 ⟨by omega, by omega, by omega, fun j _ _ => by omega⟩ ?_ (fun k hk => ?_)
    · repeat' ((conv => whnf); first | (with_reducible rfl) | exact True.intro | (with_reducible exact absTF) | (with_reducible exact absFT) | intro _ | refine And.intro ?_ ?_ | refine Fin.mk ?_ | refine CallG.plain rfl ?_ ?_ | refine CallG.mk rfl ?_ ?_ | refine CallG.nwl rfl ?_ ?_ | refine CallG.nw ?_ ?_ | refine CallF.nwl rfl ?_ ?_ | refine CallF.nw ?_ ?_ | refine AppN.mk ?_ | (refine CallS.q ?_; (conv => whnf); first | refine CallG.plain rfl ?_ ?_ | refine CallG.mk rfl ?_ ?_) | (refine CallS.m ?_; (conv => whnf); refine CallM.mk rfl ?_ ?_) | (refine CallS.h ?_; (conv => whnf); refine CallM.mk rfl ?_ ?_) | (refine CallS.b ?_; (conv => whnf); refine CallM.mk rfl ?_ ?_) | (refine CallS.z ?_; (conv => whnf); refine CallM.mk rfl ?_ ?_))
      all_goals (try (conv => whnf))
      all_goals (try (exact Ob.mk (u8_bnd _)))
      all_goals (try (refine Ob.mk ?_; first | exact True.intro | assumption | omega | (try simp only [decide_eq_true_eq, decide_eq_false_iff_not, beq_iff_eq, beq_eq_false_iff_ne, bne_iff_ne, bne_eq_false_iff_eq, ne_eq, Bool.and_eq_true, Bool.or_eq_true, Bool.not_eq_true, Bool.not_eq_false, Bool.not_eq_true', Bool.not_eq_false', Int.toNat_natCast, Int.not_lt, Int.not_le, UInt8.ofNat_toNat, cast_eq] at *; omega)))
      all_goals (try ((show (_:Int) = _); omega))
      all_goals (try (show tupSV _ = _; with_unfolding_all rfl))
      all_goals (try ((show (_ : Nat) ≤ _); (simp <;> omega)))
      all_goals (try ((show (_ : Nat) ≤ _ ∧ (_ : Nat) ≤ _); (simp <;> omega)))
      all_goals (try ((show (_ : Int) ≤ _ ∧ (_ : Int) ≤ _ ∧ (_ : Int) ≤ _ ∧ (_ : Int) ≤ _); (simp <;> omega)))
      all_goals rfl
    · obtain ⟨h1, h2, h3, h4⟩ := hk
      have hcut := hC k h1 h2 h3 h4
      unfold okW at hcut
      have hs : k < l.length → loW l k ≤ (l.getD k 0).toNat → (l.getD k 0).toNat ≤ hiW l k → ∀ j, 1 ≤ j → j < k + 1 → okW l j := fun _ a b j hj1 hj2 => by
        rcases Nat.lt_or_ge j k with hh | hh
        · exact h4 j hj1 hh
        · obtain rfl : j = k := by omega
          exact ⟨a, b⟩
      have hck : UInt8.toNat (@List.getD (Ty.T .byte) l (Int.toNat (k : Int)) (Ty.dflt .byte)) = (l.getD k 0).toNat := rfl
      have hck2 : UInt8.toNat (@List.getD (Ty.T .byte) l k (Ty.dflt .byte)) = (l.getD k 0).toNat := rfl
      clear hce hC h4 hS hL hH
      repeat' ((conv => whnf); first | (with_reducible rfl) | exact True.intro | (with_reducible exact absTF) | (with_reducible exact absFT) | (intro hq; (try simp only [decide_eq_true_eq, decide_eq_false_iff_not, beq_iff_eq, beq_eq_false_iff_ne, bne_iff_ne, bne_eq_false_iff_eq, ne_eq, Bool.and_eq_true, Bool.or_eq_true, Bool.and_eq_false_iff, Bool.or_eq_false_iff, Bool.not_eq_true, Bool.not_eq_false, Bool.not_eq_true', Bool.not_eq_false', Int.toNat_natCast, Int.not_lt, Int.not_le, ge_iff_le, gt_iff_lt, UInt8.ofNat_toNat, cast_eq] at hq); (try (exfalso; first | omega | exact hq trivial | exact absurd hq (by decide)))) | refine And.intro ?_ ?_ | refine Fin.mk ?_ | refine CallG.plain rfl ?_ ?_ | refine CallG.mk rfl ?_ ?_ | refine CallG.nwl rfl ?_ ?_ | refine CallG.nw ?_ ?_ | refine CallF.nwl rfl ?_ ?_ | refine CallF.nw ?_ ?_ | refine AppN.mk ?_ | (refine CallS.q ?_; (conv => whnf); first | refine CallG.plain rfl ?_ ?_ | refine CallG.mk rfl ?_ ?_) | (refine CallS.m ?_; (conv => whnf); refine CallM.mk rfl ?_ ?_) | (refine CallS.h ?_; (conv => whnf); refine CallM.mk rfl ?_ ?_) | (refine CallS.b ?_; (conv => whnf); refine CallM.mk rfl ?_ ?_) | (refine CallS.z ?_; (conv => whnf); refine CallM.mk rfl ?_ ?_))
      all_goals (try (conv => whnf))
      all_goals (try (exact Ob.mk (u8_bnd _)))
      all_goals (try (refine Ob.mk ?_; first | exact True.intro | assumption | omega | (try simp only [decide_eq_true_eq, decide_eq_false_iff_not, beq_iff_eq, beq_eq_false_iff_ne, bne_iff_ne, bne_eq_false_iff_eq, ne_eq, Bool.and_eq_true, Bool.or_eq_true, Bool.not_eq_true, Bool.not_eq_false, Bool.not_eq_true', Bool.not_eq_false', Int.toNat_natCast, Int.not_lt, Int.not_le, UInt8.ofNat_toNat, cast_eq] at *; omega)))
      all_goals (try ((show (_:Int) = _); omega))
      all_goals (try (show tupSV _ = _; with_unfolding_all rfl))
      all_goals (try ((show (_ : Nat) ≤ _); (simp <;> omega)))
      all_goals (try ((show (_ : Nat) ≤ _ ∧ (_ : Nat) ≤ _); (simp <;> omega)))
      all_goals (try ((show (_ : Int) ≤ _ ∧ (_ : Int) ≤ _ ∧ (_ : Int) ≤ _ ∧ (_ : Int) ≤ _); (simp <;> omega)))
      all_goals (first
        | (refine Rnd.mk ⟨k + 1, ⟨by omega, by omega, by omega, hs (by omega) (by omega) (by omega)⟩, by omega, ?_⟩
           repeat' ((conv => whnf); first | (with_reducible rfl) | exact True.intro | (with_reducible exact absTF) | (with_reducible exact absFT) | intro _ | refine And.intro ?_ ?_ | refine Fin.mk ?_ | refine CallG.plain rfl ?_ ?_ | refine CallG.mk rfl ?_ ?_ | refine CallG.nwl rfl ?_ ?_ | refine CallG.nw ?_ ?_ | refine CallF.nwl rfl ?_ ?_ | refine CallF.nw ?_ ?_ | refine AppN.mk ?_ | (refine CallS.q ?_; (conv => whnf); first | refine CallG.plain rfl ?_ ?_ | refine CallG.mk rfl ?_ ?_) | (refine CallS.m ?_; (conv => whnf); refine CallM.mk rfl ?_ ?_) | (refine CallS.h ?_; (conv => whnf); refine CallM.mk rfl ?_ ?_) | (refine CallS.b ?_; (conv => whnf); refine CallM.mk rfl ?_ ?_) | (refine CallS.z ?_; (conv => whnf); refine CallM.mk rfl ?_ ?_))
           all_goals (try (conv => whnf))
           all_goals (try (exact Ob.mk (u8_bnd _)))
           all_goals (try (refine Ob.mk ?_; first | exact True.intro | assumption | omega | (try simp only [decide_eq_true_eq, decide_eq_false_iff_not, beq_iff_eq, beq_eq_false_iff_ne, bne_iff_ne, bne_eq_false_iff_eq, ne_eq, Bool.and_eq_true, Bool.or_eq_true, Bool.not_eq_true, Bool.not_eq_false, Bool.not_eq_true', Bool.not_eq_false', Int.toNat_natCast, Int.not_lt, Int.not_le, UInt8.ofNat_toNat, cast_eq] at *; omega)))
           all_goals (try ((show (_:Int) = _); omega))
           all_goals (try (show tupSV _ = _; with_unfolding_all rfl))
           all_goals (try ((show (_ : Nat) ≤ _); (simp <;> omega)))
           all_goals (try ((show (_ : Nat) ≤ _ ∧ (_ : Nat) ≤ _); (simp <;> omega)))
           all_goals (try ((show (_ : Int) ≤ _ ∧ (_ : Int) ≤ _ ∧ (_ : Int) ≤ _ ∧ (_ : Int) ≤ _); (simp <;> omega)))
           all_goals (first | (rw [loW2 _ _ h1]; rfl) | (rw [hiW2 _ _ h1]; rfl) | rfl)
           done)
        | (have := hcut (by omega); clear hcut hs; first | omega | (show true = _; symm; rw [hok]; omega) | (show false = _; symm; rw [Bool.eq_false_iff, ne_eq, hok]; omega)))
  · repeat' ((conv => whnf); first | (with_reducible rfl) | exact True.intro | (with_reducible exact absTF) | (with_reducible exact absFT) | (intro hq; (try simp only [decide_eq_true_eq, decide_eq_false_iff_not, beq_iff_eq, beq_eq_false_iff_ne, bne_iff_ne, bne_eq_false_iff_eq, ne_eq, Bool.and_eq_true, Bool.or_eq_true, Bool.and_eq_false_iff, Bool.or_eq_false_iff, Bool.not_eq_true, Bool.not_eq_false, Bool.not_eq_true', Bool.not_eq_false', Int.toNat_natCast, Int.not_lt, Int.not_le, ge_iff_le, gt_iff_lt, UInt8.ofNat_toNat, cast_eq] at hq); (try (exfalso; first | omega | exact hq trivial | exact absurd hq (by decide)))) | refine And.intro ?_ ?_ | refine Fin.mk ?_ | refine CallG.plain rfl ?_ ?_ | refine CallG.mk rfl ?_ ?_ | refine CallG.nwl rfl ?_ ?_ | refine CallG.nw ?_ ?_ | refine CallF.nwl rfl ?_ ?_ | refine CallF.nw ?_ ?_ | refine AppN.mk ?_ | (refine CallS.q ?_; (conv => whnf); first | refine CallG.plain rfl ?_ ?_ | refine CallG.mk rfl ?_ ?_) | (refine CallS.m ?_; (conv => whnf); refine CallM.mk rfl ?_ ?_) | (refine CallS.h ?_; (conv => whnf); refine CallM.mk rfl ?_ ?_) | (refine CallS.b ?_; (conv => whnf); refine CallM.mk rfl ?_ ?_) | (refine CallS.z ?_; (conv => whnf); refine CallM.mk rfl ?_ ?_))
    all_goals (try (conv => whnf))
    all_goals (try (exact Ob.mk (u8_bnd _)))
    all_goals (try (refine Ob.mk ?_; first | exact True.intro | assumption | omega | (try simp only [decide_eq_true_eq, decide_eq_false_iff_not, beq_iff_eq, beq_eq_false_iff_ne, bne_iff_ne, bne_eq_false_iff_eq, ne_eq, Bool.and_eq_true, Bool.or_eq_true, Bool.not_eq_true, Bool.not_eq_false, Bool.not_eq_true', Bool.not_eq_false', Int.toNat_natCast, Int.not_lt, Int.not_le, UInt8.ofNat_toNat, cast_eq] at *; omega)))
    all_goals (try ((show (_:Int) = _); omega))
    all_goals (try (show tupSV _ = _; with_unfolding_all rfl))
    all_goals (try ((show (_ : Nat) ≤ _); (simp <;> omega)))
    all_goals (try ((show (_ : Nat) ≤ _ ∧ (_ : Nat) ≤ _); (simp <;> omega)))
    all_goals (try ((show (_ : Int) ≤ _ ∧ (_ : Int) ≤ _ ∧ (_ : Int) ≤ _ ∧ (_ : Int) ≤ _); (simp <;> omega)))
    refine LoopStop.mk (α := Nat) (fun k => [(8, .int .i64 k), (6, .int .u8 (loW l k)), (7, .int .u8 (hiW l k))]) (fun i => []) 40 (fun k => 1 ≤ k ∧ k ≤ l.length ∧ k ≤ M + 1 ∧ ∀ j, 1 ≤ j → j < k → okW l j) (fun k => l.length - k) 1 ⟨by omega, by omega, by omega, fun j _ _ => by omega⟩ ?_ (fun k hk => ?_)
    · repeat' ((conv => whnf); first | (with_reducible rfl) | exact True.intro | (with_reducible exact absTF) | (with_reducible exact absFT) | intro _ | refine And.intro ?_ ?_ | refine Fin.mk ?_ | refine CallG.plain rfl ?_ ?_ | refine CallG.mk rfl ?_ ?_ | refine CallG.nwl rfl ?_ ?_ | refine CallG.nw ?_ ?_ | refine CallF.nwl rfl ?_ ?_ | refine CallF.nw ?_ ?_ | refine AppN.mk ?_ | (refine CallS.q ?_; (conv => whnf); first | refine CallG.plain rfl ?_ ?_ | refine CallG.mk rfl ?_ ?_) | (refine CallS.m ?_; (conv => whnf); refine CallM.mk rfl ?_ ?_) | (refine CallS.h ?_; (conv => whnf); refine CallM.mk rfl ?_ ?_) | (refine CallS.b ?_; (conv => whnf); refine CallM.mk rfl ?_ ?_) | (refine CallS.z ?_; (conv => whnf); refine CallM.mk rfl ?_ ?_))
      all_goals (try (conv => whnf))
      all_goals (try (exact Ob.mk (u8_bnd _)))
      all_goals (try (refine Ob.mk ?_; first | exact True.intro | assumption | omega | (try simp only [decide_eq_true_eq, decide_eq_false_iff_not, beq_iff_eq, beq_eq_false_iff_ne, bne_iff_ne, bne_eq_false_iff_eq, ne_eq, Bool.and_eq_true, Bool.or_eq_true, Bool.not_eq_true, Bool.not_eq_false, Bool.not_eq_true', Bool.not_eq_false', Int.toNat_natCast, Int.not_lt, Int.not_le, UInt8.ofNat_toNat, cast_eq] at *; omega)))
      all_goals (try ((show (_:Int) = _); omega))
      all_goals (try (show tupSV _ = _; with_unfolding_all rfl))
      all_goals (try ((show (_ : Nat) ≤ _); (simp <;> omega)))
      all_goals (try ((show (_ : Nat) ≤ _ ∧ (_ : Nat) ≤ _); (simp <;> omega)))
      all_goals (try ((show (_ : Int) ≤ _ ∧ (_ : Int) ≤ _ ∧ (_ : Int) ≤ _ ∧ (_ : Int) ≤ _); (simp <;> omega)))
      all_goals rfl
    · obtain ⟨h1, h2, h3, h4⟩ := hk
      have hcut := hC k h1 h2 h3 h4
      unfold okW at hcut
      have hs : k < l.length → loW l k ≤ (l.getD k 0).toNat → (l.getD k 0).toNat ≤ hiW l k → ∀ j, 1 ≤ j → j < k + 1 → okW l j := fun _ a b j hj1 hj2 => by
        rcases Nat.lt_or_ge j k with hh | hh
        · exact h4 j hj1 hh
        · obtain rfl : j = k := by omega
          exact ⟨a, b⟩
      have hck : UInt8.toNat (@List.getD (Ty.T .byte) l (Int.toNat (k : Int)) (Ty.dflt .byte)) = (l.getD k 0).toNat := rfl
      have hck2 : UInt8.toNat (@List.getD (Ty.T .byte) l k (Ty.dflt .byte)) = (l.getD k 0).toNat := rfl
      clear hce hC h4 hS hL hH
      repeat' ((conv => whnf); first | (with_reducible rfl) | exact True.intro | (with_reducible exact absTF) | (with_reducible exact absFT) | (intro hq; (try simp only [decide_eq_true_eq, decide_eq_false_iff_not, beq_iff_eq, beq_eq_false_iff_ne, bne_iff_ne, bne_eq_false_iff_eq, ne_eq, Bool.and_eq_true, Bool.or_eq_true, Bool.and_eq_false_iff, Bool.or_eq_false_iff, Bool.not_eq_true, Bool.not_eq_false, Bool.not_eq_true', Bool.not_eq_false', Int.toNat_natCast, Int.not_lt, Int.not_le, ge_iff_le, gt_iff_lt, UInt8.ofNat_toNat, cast_eq] at hq); (try (exfalso; first | omega | exact hq trivial | exact absurd hq (by decide)))) | refine And.intro ?_ ?_ | refine Fin.mk ?_ | refine CallG.plain rfl ?_ ?_ | refine CallG.mk rfl ?_ ?_ | refine CallG.nwl rfl ?_ ?_ | refine CallG.nw ?_ ?_ | refine CallF.nwl rfl ?_ ?_ | refine CallF.nw ?_ ?_ | refine AppN.mk ?_ | (refine CallS.q ?_; (conv => whnf); first | refine CallG.plain rfl ?_ ?_ | refine CallG.mk rfl ?_ ?_) | (refine CallS.m ?_; (conv => whnf); refine CallM.mk rfl ?_ ?_) | (refine CallS.h ?_; (conv => whnf); refine CallM.mk rfl ?_ ?_) | (refine CallS.b ?_; (conv => whnf); refine CallM.mk rfl ?_ ?_) | (refine CallS.z ?_; (conv => whnf); refine CallM.mk rfl ?_ ?_))
      all_goals (try (conv => whnf))
      all_goals (try (exact Ob.mk (u8_bnd _)))
      all_goals (try (refine Ob.mk ?_; first | exact True.intro | assumption | omega | (try simp only [decide_eq_true_eq, decide_eq_false_iff_not, beq_iff_eq, beq_eq_false_iff_ne, bne_iff_ne, bne_eq_false_iff_eq, ne_eq, Bool.and_eq_true, Bool.or_eq_true, Bool.not_eq_true, Bool.not_eq_false, Bool.not_eq_true', Bool.not_eq_false', Int.toNat_natCast, Int.not_lt, Int.not_le, UInt8.ofNat_toNat, cast_eq] at *; omega)))
      all_goals (try ((show (_:Int) = _); omega))
      all_goals (try (show tupSV _ = _; with_unfolding_all rfl))
      all_goals (try ((show (_ : Nat) ≤ _); (simp <;> omega)))
      all_goals (try ((show (_ : Nat) ≤ _ ∧ (_ : Nat) ≤ _); (simp <;> omega)))
      all_goals (try ((show (_ : Int) ≤ _ ∧ (_ : Int) ≤ _ ∧ (_ : Int) ≤ _ ∧ (_ : Int) ≤ _); (simp <;> omega)))
      all_goals (first
        | (refine Rnd.mk ⟨k + 1, ⟨by omega, by omega, by omega, hs (by omega) (by omega) (by omega)⟩, by omega, ?_⟩
           repeat' ((conv => whnf); first | (with_reducible rfl) | exact True.intro | (with_reducible exact absTF) | (with_reducible exact absFT) | intro _ | refine And.intro ?_ ?_ | refine Fin.mk ?_ | refine CallG.plain rfl ?_ ?_ | refine CallG.mk rfl ?_ ?_ | refine CallG.nwl rfl ?_ ?_ | refine CallG.nw ?_ ?_ | refine CallF.nwl rfl ?_ ?_ | refine CallF.nw ?_ ?_ | refine AppN.mk ?_ | (refine CallS.q ?_; (conv => whnf); first | refine CallG.plain rfl ?_ ?_ | refine CallG.mk rfl ?_ ?_) | (refine CallS.m ?_; (conv => whnf); refine CallM.mk rfl ?_ ?_) | (refine CallS.h ?_; (conv => whnf); refine CallM.mk rfl ?_ ?_) | (refine CallS.b ?_; (conv => whnf); refine CallM.mk rfl ?_ ?_) | (refine CallS.z ?_; (conv => whnf); refine CallM.mk rfl ?_ ?_))
           all_goals (try (conv => whnf))
           all_goals (try (exact Ob.mk (u8_bnd _)))
           all_goals (try (refine Ob.mk ?_; first | exact True.intro | assumption | omega | (try simp only [decide_eq_true_eq, decide_eq_false_iff_not, beq_iff_eq, beq_eq_false_iff_ne, bne_iff_ne, bne_eq_false_iff_eq, ne_eq, Bool.and_eq_true, Bool.or_eq_true, Bool.not_eq_true, Bool.not_eq_false, Bool.not_eq_true', Bool.not_eq_false', Int.toNat_natCast, Int.not_lt, Int.not_le, UInt8.ofNat_toNat, cast_eq] at *; omega)))
           all_goals (try ((show (_:Int) = _); omega))
           all_goals (try (show tupSV _ = _; with_unfolding_all rfl))
           all_goals (try ((show (_ : Nat) ≤ _); (simp <;> omega)))
           all_goals (try ((show (_ : Nat) ≤ _ ∧ (_ : Nat) ≤ _); (simp <;> omega)))
           all_goals (try ((show (_ : Int) ≤ _ ∧ (_ : Int) ≤ _ ∧ (_ : Int) ≤ _ ∧ (_ : Int) ≤ _); (simp <;> omega)))
           all_goals (first | (rw [loW2 _ _ h1]; rfl) | (rw [hiW2 _ _ h1]; rfl) | rfl)
           done)
        | (have := hcut (by omega); clear hcut hs; first | omega | (show true = _; symm; rw [hok]; omega) | (show false = _; symm; rw [Bool.eq_false_iff, ne_eq, hok]; omega)))
end Go.Vc

namespace Go.Vc
open Go.Proofs
set_option linter.unusedVariables false


set_option maxRecDepth 10000
set_option maxHeartbeats 2000000
set_option linter.unusedSimpArgs false
theorem u8_beq (c k : UInt8) : ((c.toNat : Int) == (k.toNat : Int)) = (c == k) := by
  rw [Bool.eq_iff_iff, beq_iff_eq, beq_iff_eq]
  constructor
  · intro h; exact UInt8.toNat_inj.1 (by omega)
  · rintro rfl; rfl
theorem u8_59 (c : UInt8) : ((c.toNat : Int) == 59) = (c == 59) := u8_beq c 59
theorem u8_38 (c : UInt8) : ((c.toNat : Int) == 38) = (c == 38) := u8_beq c 38
theorem u8_35 (c : UInt8) : ((c.toNat : Int) == 35) = (c == 35) := u8_beq c 35
theorem u8_61 (c : UInt8) : ((c.toNat : Int) == 61) = (c == 61) := u8_beq c 61
theorem u8_120 (c : UInt8) : ((c.toNat : Int) == 120) = (c == 120) := u8_beq c 120
theorem u8_88 (c : UInt8) : ((c.toNat : Int) == 88) = (c == 88) := u8_beq c 88
theorem or32 (c : Int) (h : 0 ≤ c ∧ c ≤ 255) : (decide (97 ≤ bitsI .or .u8 c 32) && decide (bitsI .or .u8 c 32 ≤ 122)) = alI c := by
  have key : ∀ k : _root_.Fin 256, (decide (97 ≤ bitsI .or .u8 (k.val : Int) 32) && decide (bitsI .or .u8 (k.val : Int) 32 ≤ 122)) = alI (k.val : Int) := by decide +kernel
  have := key ⟨c.toNat, by omega⟩
  have e : ((c.toNat : Nat) : Int) = c := by omega
  simp only [e] at this
  exact this
theorem wrap8 (n : Int) (h : 0 ≤ n ∧ n ≤ 255) : IntKind.u8.wrap n = n := wrap_kIn (k := .u8) h
theorem wrap32 (n : Int) (h : -2147483648 ≤ n ∧ n ≤ 2147483647) : IntKind.i32.wrap n = n := wrap_kIn (k := .i32) h
instance fLet (c : Int) : Fn BB 54 [.int .u8 c] (0 ≤ c ∧ c ≤ 255) (.bool (alI c)) := by
  refine Fn.intro (N := 11) [0, 2] [] Tryd.call54 Tryd.func54 rfl rfl (by kernel_rfl) (fun hpre => ?_)
  repeat' ((conv => whnf); first | (with_reducible rfl) | exact True.intro | (with_reducible exact absTF) | (with_reducible exact absFT) | intro _ | refine And.intro ?_ ?_ | refine Fin.mk ?_ | refine CallG.plain rfl ?_ ?_ | refine CallG.mk rfl ?_ ?_ | refine CallG.nwl rfl ?_ ?_ | refine CallG.nw ?_ ?_ | refine CallF.nwl rfl ?_ ?_ | refine CallF.nw ?_ ?_ | refine AppN.mk ?_ | (refine CallS.q ?_; (conv => whnf); first | refine CallG.plain rfl ?_ ?_ | refine CallG.mk rfl ?_ ?_) | (refine CallS.m ?_; (conv => whnf); refine CallM.mk rfl ?_ ?_) | (refine CallS.h ?_; (conv => whnf); refine CallM.mk rfl ?_ ?_) | (refine CallS.b ?_; (conv => whnf); refine CallM.mk rfl ?_ ?_) | (refine CallS.z ?_; (conv => whnf); refine CallM.mk rfl ?_ ?_))
  all_goals (try (conv => whnf))
  rw [or32 c hpre]
instance fRLet (c : Int) : Fn BB 58 [.int .u8 c] True (.bool (alI c)) := by
  refine Fn.intro (N := 17) [0, 2] [] Tryd.call58 Tryd.func58 rfl rfl (by kernel_rfl) (fun hpre => ?_)
  repeat' ((conv => whnf); first | (with_reducible rfl) | exact True.intro | (with_reducible exact absTF) | (with_reducible exact absFT) | intro _ | refine And.intro ?_ ?_ | refine Fin.mk ?_ | refine CallG.plain rfl ?_ ?_ | refine CallG.mk rfl ?_ ?_ | refine CallG.nwl rfl ?_ ?_ | refine CallG.nw ?_ ?_ | refine CallF.nwl rfl ?_ ?_ | refine CallF.nw ?_ ?_ | refine AppN.mk ?_ | (refine CallS.q ?_; (conv => whnf); first | refine CallG.plain rfl ?_ ?_ | refine CallG.mk rfl ?_ ?_) | (refine CallS.m ?_; (conv => whnf); refine CallM.mk rfl ?_ ?_) | (refine CallS.h ?_; (conv => whnf); refine CallM.mk rfl ?_ ?_) | (refine CallS.b ?_; (conv => whnf); refine CallM.mk rfl ?_ ?_) | (refine CallS.z ?_; (conv => whnf); refine CallM.mk rfl ?_ ?_))
  all_goals (try (conv => whnf))
  rfl
def okR (n : Int) : Bool := decide ((0 ≤ n ∧ n < 55296) ∨ (57343 < n ∧ n ≤ 1114111))
instance fVR (n : Int) : Fn BB 74 [.int .i32 n] True (.bool (okR n)) := by
  refine Fn.intro (N := 17) [0, 2, 3, 10] [] Tryd.call74 Tryd.func74 rfl rfl (by kernel_rfl) (fun hpre => ?_)
  repeat' ((conv => whnf); first | (with_reducible rfl) | exact True.intro | (with_reducible exact absTF) | (with_reducible exact absFT) | intro _ | refine And.intro ?_ ?_ | refine Fin.mk ?_ | refine CallG.plain rfl ?_ ?_ | refine CallG.mk rfl ?_ ?_ | refine CallG.nwl rfl ?_ ?_ | refine CallG.nw ?_ ?_ | refine CallF.nwl rfl ?_ ?_ | refine CallF.nw ?_ ?_ | refine AppN.mk ?_ | (refine CallS.q ?_; (conv => whnf); first | refine CallG.plain rfl ?_ ?_ | refine CallG.mk rfl ?_ ?_) | (refine CallS.m ?_; (conv => whnf); refine CallM.mk rfl ?_ ?_) | (refine CallS.h ?_; (conv => whnf); refine CallM.mk rfl ?_ ?_) | (refine CallS.b ?_; (conv => whnf); refine CallM.mk rfl ?_ ?_) | (refine CallS.z ?_; (conv => whnf); refine CallM.mk rfl ?_ ?_))
  all_goals (try (conv => whnf))
  all_goals (simp_all [okR]; try omega)
theorem enc_bad : ([239, 191, 189] : List UInt8) = (Utf8.encode 65533).data.toList := by decide
theorem enc_bad2 : (Utf8.encode (IntKind.i32.wrap 65533)).data.toList = (Utf8.encode 65533).data.toList := by decide
instance fEnc (n : Int) : Fn BB 31 [.int .i64 n] True (.str (encN n)) := by
  refine Fn.intro (N := 18) [0, 2, 14] [] Tryd.call31 Tryd.func31 rfl rfl (by kernel_rfl) (fun hpre => ?_)
  repeat' ((conv => whnf); first | (with_reducible rfl) | exact True.intro | (with_reducible exact absTF) | (with_reducible exact absFT) | intro _ | refine And.intro ?_ ?_ | refine Fin.mk ?_ | refine CallG.plain rfl ?_ ?_ | refine CallG.mk rfl ?_ ?_ | refine CallG.nwl rfl ?_ ?_ | refine CallG.nw ?_ ?_ | refine CallF.nwl rfl ?_ ?_ | refine CallF.nw ?_ ?_ | refine AppN.mk ?_ | (refine CallS.q ?_; (conv => whnf); first | refine CallG.plain rfl ?_ ?_ | refine CallG.mk rfl ?_ ?_) | (refine CallS.m ?_; (conv => whnf); refine CallM.mk rfl ?_ ?_) | (refine CallS.h ?_; (conv => whnf); refine CallM.mk rfl ?_ ?_) | (refine CallS.b ?_; (conv => whnf); refine CallM.mk rfl ?_ ?_) | (refine CallS.z ?_; (conv => whnf); refine CallM.mk rfl ?_ ?_))
  all_goals (try (conv => whnf))
  all_goals (try (exact Ob.mk (u8_bnd _)))
  all_goals (try (refine Ob.mk ?_; first | exact True.intro | assumption | omega | (try simp only [decide_eq_true_eq, decide_eq_false_iff_not, beq_iff_eq, beq_eq_false_iff_ne, bne_iff_ne, bne_eq_false_iff_eq, ne_eq, Bool.and_eq_true, Bool.or_eq_true, Bool.not_eq_true, Bool.not_eq_false, Bool.not_eq_true', Bool.not_eq_false', Int.toNat_natCast, Int.not_lt, Int.not_le, UInt8.ofNat_toNat, cast_eq] at *; omega)))
  all_goals (try ((show (_:Int) = _); omega))
  all_goals (try (show tupSV _ = _; with_unfolding_all rfl))
  all_goals (try ((show (_ : Nat) ≤ _); (simp <;> omega)))
  all_goals (try ((show (_ : Nat) ≤ _ ∧ (_ : Nat) ≤ _); (simp <;> omega)))
  all_goals (try ((show (_ : Int) ≤ _ ∧ (_ : Int) ≤ _ ∧ (_ : Int) ≤ _ ∧ (_ : Int) ≤ _); (simp <;> omega)))
  all_goals (try simp only [decide_eq_true_eq, decide_eq_false_iff_not, beq_iff_eq, beq_eq_false_iff_ne, bne_iff_ne, bne_eq_false_iff_eq, ne_eq, Bool.and_eq_true, Bool.or_eq_true, Bool.and_eq_false_iff, Bool.or_eq_false_iff, Bool.not_eq_true, Bool.not_eq_false, Bool.not_eq_true', Bool.not_eq_false', Int.toNat_natCast, Int.not_lt, Int.not_le, ge_iff_le, gt_iff_lt, UInt8.ofNat_toNat, cast_eq] at *)
  · rename_i h
    have : n < 0 ∨ n > 1114111 ∨ (55296 ≤ n ∧ n ≤ 57343) := by
      rcases h with (h | h) | h
      · exact .inl h
      · exact .inr (.inl h)
      · by_cases h1 : n < 0 ∨ n > 1114111
        · omega
        · rw [wrap32 n (by omega)] at h
          simp only [okR, decide_eq_false_iff_not] at h
          omega
    unfold encN
    rw [if_pos this, enc_bad]
  · rename_i h
    obtain ⟨⟨h1, h2⟩, h3⟩ := h
    rw [wrap32 n (by omega)] at h3 ⊢
    simp only [okR, decide_eq_true_eq] at h3
    unfold encN
    rw [if_neg (by omega)]
instance fREnc (n : Int) : Fn BB 32 [.int .i64 n] True (.str (encN n)) := by
  refine Fn.intro (N := 20) [0, 2, 16] [] Tryd.call32 Tryd.func32 rfl rfl (by kernel_rfl) (fun hpre => ?_)
  repeat' ((conv => whnf); first | (with_reducible rfl) | exact True.intro | (with_reducible exact absTF) | (with_reducible exact absFT) | intro _ | refine And.intro ?_ ?_ | refine Fin.mk ?_ | refine CallG.plain rfl ?_ ?_ | refine CallG.mk rfl ?_ ?_ | refine CallG.nwl rfl ?_ ?_ | refine CallG.nw ?_ ?_ | refine CallF.nwl rfl ?_ ?_ | refine CallF.nw ?_ ?_ | refine AppN.mk ?_ | (refine CallS.q ?_; (conv => whnf); first | refine CallG.plain rfl ?_ ?_ | refine CallG.mk rfl ?_ ?_) | (refine CallS.m ?_; (conv => whnf); refine CallM.mk rfl ?_ ?_) | (refine CallS.h ?_; (conv => whnf); refine CallM.mk rfl ?_ ?_) | (refine CallS.b ?_; (conv => whnf); refine CallM.mk rfl ?_ ?_) | (refine CallS.z ?_; (conv => whnf); refine CallM.mk rfl ?_ ?_))
  all_goals (try (conv => whnf))
  all_goals (try (exact Ob.mk (u8_bnd _)))
  all_goals (try (refine Ob.mk ?_; first | exact True.intro | assumption | omega | (try simp only [decide_eq_true_eq, decide_eq_false_iff_not, beq_iff_eq, beq_eq_false_iff_ne, bne_iff_ne, bne_eq_false_iff_eq, ne_eq, Bool.and_eq_true, Bool.or_eq_true, Bool.not_eq_true, Bool.not_eq_false, Bool.not_eq_true', Bool.not_eq_false', Int.toNat_natCast, Int.not_lt, Int.not_le, UInt8.ofNat_toNat, cast_eq] at *; omega)))
  all_goals (try ((show (_:Int) = _); omega))
  all_goals (try (show tupSV _ = _; with_unfolding_all rfl))
  all_goals (try ((show (_ : Nat) ≤ _); (simp <;> omega)))
  all_goals (try ((show (_ : Nat) ≤ _ ∧ (_ : Nat) ≤ _); (simp <;> omega)))
  all_goals (try ((show (_ : Int) ≤ _ ∧ (_ : Int) ≤ _ ∧ (_ : Int) ≤ _ ∧ (_ : Int) ≤ _); (simp <;> omega)))
  all_goals (try simp only [decide_eq_true_eq, decide_eq_false_iff_not, beq_iff_eq, beq_eq_false_iff_ne, bne_iff_ne, bne_eq_false_iff_eq, ne_eq, Bool.and_eq_true, Bool.or_eq_true, Bool.and_eq_false_iff, Bool.or_eq_false_iff, Bool.not_eq_true, Bool.not_eq_false, Bool.not_eq_true', Bool.not_eq_false', Int.toNat_natCast, Int.not_lt, Int.not_le, ge_iff_le, gt_iff_lt, UInt8.ofNat_toNat, cast_eq] at *)
  · unfold encN
    rw [if_pos (by omega), enc_bad2]
  · unfold encN
    rw [if_neg (by omega), wrap32 n (by omega)]
instance fShort (s : List UInt8) : Fn BB 109 [.str s] True (.int .i64 (lookT shortTab s)) := by
  refine Fn.intro (N := 50) [0, 2, 3, 4, 7, 10, 13, 16, 18, 20, 22, 24, 26, 28, 30, 32, 34, 36, 38, 40, 42, 44, 46, 48] [] Tryd.call109 Tryd.func109 rfl rfl (by kernel_rfl) (fun hpre => ?_)
  repeat' ((conv => whnf); first | (with_reducible rfl) | exact True.intro | (with_reducible exact absTF) | (with_reducible exact absFT) | intro _ | refine And.intro ?_ ?_ | refine Fin.mk ?_ | refine CallG.plain rfl ?_ ?_ | refine CallG.mk rfl ?_ ?_ | refine CallG.nwl rfl ?_ ?_ | refine CallG.nw ?_ ?_ | refine CallF.nwl rfl ?_ ?_ | refine CallF.nw ?_ ?_ | refine AppN.mk ?_ | (refine CallS.q ?_; (conv => whnf); first | refine CallG.plain rfl ?_ ?_ | refine CallG.mk rfl ?_ ?_) | (refine CallS.m ?_; (conv => whnf); refine CallM.mk rfl ?_ ?_) | (refine CallS.h ?_; (conv => whnf); refine CallM.mk rfl ?_ ?_) | (refine CallS.b ?_; (conv => whnf); refine CallM.mk rfl ?_ ?_) | (refine CallS.z ?_; (conv => whnf); refine CallM.mk rfl ?_ ?_))
  all_goals (try (conv => whnf))
  all_goals (simp only [lookT, shortTab, List.find?_cons, List.find?_nil, Bool.or_eq_true, Bool.or_eq_false_iff, *])
  all_goals (exfalso; simp_all; done)
instance fLong (s : List UInt8) : Fn BB 110 [.str s] True (.int .i64 (lookT longTab s)) := by
  refine Fn.intro (N := 76) [0, 2, 3, 4, 6, 8, 10, 12, 14, 16, 18, 20, 22, 24, 26, 28, 30, 32, 34, 36, 38, 40, 42, 44, 46, 48, 50, 52, 54, 56, 58, 60, 62, 64, 66, 68, 70, 72, 74] [] Tryd.call110 Tryd.func110 rfl rfl (by kernel_rfl) (fun hpre => ?_)
  repeat' ((conv => whnf); first | (with_reducible rfl) | exact True.intro | (with_reducible exact absTF) | (with_reducible exact absFT) | intro _ | refine And.intro ?_ ?_ | refine Fin.mk ?_ | refine CallG.plain rfl ?_ ?_ | refine CallG.mk rfl ?_ ?_ | refine CallG.nwl rfl ?_ ?_ | refine CallG.nw ?_ ?_ | refine CallF.nwl rfl ?_ ?_ | refine CallF.nw ?_ ?_ | refine AppN.mk ?_ | (refine CallS.q ?_; (conv => whnf); first | refine CallG.plain rfl ?_ ?_ | refine CallG.mk rfl ?_ ?_) | (refine CallS.m ?_; (conv => whnf); refine CallM.mk rfl ?_ ?_) | (refine CallS.h ?_; (conv => whnf); refine CallM.mk rfl ?_ ?_) | (refine CallS.b ?_; (conv => whnf); refine CallM.mk rfl ?_ ?_) | (refine CallS.z ?_; (conv => whnf); refine CallM.mk rfl ?_ ?_))
  all_goals (try (conv => whnf))
  all_goals (simp only [lookT, longTab, List.find?_cons, List.find?_nil, *])
end Go.Vc

namespace Go.Vc
open Go.Proofs
set_option linter.unusedVariables false
set_option maxRecDepth 10000
set_option linter.unusedSimpArgs false
set_option maxHeartbeats 8000000
theorem drop_getD (l : List UInt8) (i k : Nat) : (l.drop i).getD k 0 = l.getD (i + k) 0 := by simp [List.getD]
theorem enc_odd : encN 65533 = oddU := by decide
structure RI (l : List UInt8) (i : Nat) (b : List UInt8) : Prop where
  hi : i ≤ l.length
  eq : b ++ decU (l.drop i) = decU l
  bnd : b.length ≤ 3 * i
theorem RI.step {l i b} (h : RI l i b) (hl : i < l.length) {c : List UInt8} {k : Nat} (hc : chrU (l.drop i) = c) (hk : stepU (l.drop i) = k) : RI l (i + k) (b ++ c) := by
  subst hc; subst hk
  obtain ⟨hi, eq, bnd⟩ := h
  have hd : l.drop i ≠ [] := by intro h; have := congrArg List.length h; rw [List.length_drop] at this; simp at this; omega
  have hs := stepU_bnd _ hd
  have hc := chrU_len _ hd
  have hld : (l.drop i).length = l.length - i := List.length_drop
  refine ⟨by omega, ?_, by rw [List.length_append]; omega⟩
  rw [← eq, decU_eq _ hd, List.drop_drop, List.append_assoc]
instance fRDecode (l : List UInt8) : Fn BB 26 [.rd .byte l] (l.length ≤ 100000) (.str (decU l)) := by
  refine Fn.intro (N := 64) [0, 2, 3, 4, 5, 6, 10, 26, 34, 50] [] Tryd.call26 Tryd.func26 rfl rfl (by kernel_rfl) (fun hpre => ?_)
  repeat' ((conv => whnf); first | (with_reducible rfl) | exact True.intro | (with_reducible exact absTF) | (with_reducible exact absFT) | intro _ | refine And.intro ?_ ?_ | refine Fin.mk ?_ | refine CallG.plain rfl ?_ ?_ | refine CallG.mk rfl ?_ ?_ | refine CallG.nwl rfl ?_ ?_ | refine CallG.nw ?_ ?_ | refine CallF.nwl rfl ?_ ?_ | refine CallF.nw ?_ ?_ | refine AppN.mk ?_ | (refine CallS.q ?_; (conv => whnf); first | refine CallG.plain rfl ?_ ?_ | refine CallG.mk rfl ?_ ?_) | (refine CallS.m ?_; (conv => whnf); refine CallM.mk rfl ?_ ?_) | (refine CallS.h ?_; (conv => whnf); refine CallM.mk rfl ?_ ?_) | (refine CallS.b ?_; (conv => whnf); refine CallM.mk rfl ?_ ?_) | (refine CallS.z ?_; (conv => whnf); refine CallM.mk rfl ?_ ?_))
  all_goals (try (conv => whnf))
  all_goals (try (exact Ob.mk (u8_bnd _)))
  all_goals (try (refine Ob.mk ?_; first | exact True.intro | assumption | omega | (try simp only [decide_eq_true_eq, decide_eq_false_iff_not, beq_iff_eq, beq_eq_false_iff_ne, bne_iff_ne, bne_eq_false_iff_eq, ne_eq, Bool.and_eq_true, Bool.or_eq_true, Bool.not_eq_true, Bool.not_eq_false, Bool.not_eq_true', Bool.not_eq_false', Int.toNat_natCast, Int.not_lt, Int.not_le, UInt8.ofNat_toNat, cast_eq] at *; omega)))
  all_goals (try ((show (_:Int) = _); omega))
  all_goals (try (show tupSV _ = _; with_unfolding_all rfl))
  all_goals (try ((show (_ : Nat) ≤ _); (simp <;> omega)))
  all_goals (try ((show (_ : Nat) ≤ _ ∧ (_ : Nat) ≤ _); (simp <;> omega)))
  all_goals (try ((show (_ : Int) ≤ _ ∧ (_ : Int) ≤ _ ∧ (_ : Int) ≤ _ ∧ (_ : Int) ≤ _); (simp <;> omega)))
  refine LoopStop.mk (α := Nat × List UInt8) (fun a => [(4, .int .i64 a.1), (3, .own 0)]) (fun a => [(0, .own .byte a.2)]) 20 (fun a => RI l a.1 a.2) (fun a => l.length - a.1) (0, []) ⟨by simp, by simp, by simp⟩ ?_ (fun a ha => ?_)
  · repeat' ((conv => whnf); first | (with_reducible rfl) | exact True.intro | (with_reducible exact absTF) | (with_reducible exact absFT) | intro _ | refine And.intro ?_ ?_ | refine Fin.mk ?_ | refine CallG.plain rfl ?_ ?_ | refine CallG.mk rfl ?_ ?_ | refine CallG.nwl rfl ?_ ?_ | refine CallG.nw ?_ ?_ | refine CallF.nwl rfl ?_ ?_ | refine CallF.nw ?_ ?_ | refine AppN.mk ?_ | (refine CallS.q ?_; (conv => whnf); first | refine CallG.plain rfl ?_ ?_ | refine CallG.mk rfl ?_ ?_) | (refine CallS.m ?_; (conv => whnf); refine CallM.mk rfl ?_ ?_) | (refine CallS.h ?_; (conv => whnf); refine CallM.mk rfl ?_ ?_) | (refine CallS.b ?_; (conv => whnf); refine CallM.mk rfl ?_ ?_) | (refine CallS.z ?_; (conv => whnf); refine CallM.mk rfl ?_ ?_))
    all_goals (try (conv => whnf))
    all_goals (try (exact Ob.mk (u8_bnd _)))
    all_goals (try (refine Ob.mk ?_; first | exact True.intro | assumption | omega | (try simp only [decide_eq_true_eq, decide_eq_false_iff_not, beq_iff_eq, beq_eq_false_iff_ne, bne_iff_ne, bne_eq_false_iff_eq, ne_eq, Bool.and_eq_true, Bool.or_eq_true, Bool.not_eq_true, Bool.not_eq_false, Bool.not_eq_true', Bool.not_eq_false', Int.toNat_natCast, Int.not_lt, Int.not_le, UInt8.ofNat_toNat, cast_eq] at *; omega)))
    all_goals (try ((show (_:Int) = _); omega))
    all_goals (try (show tupSV _ = _; with_unfolding_all rfl))
    all_goals (try ((show (_ : Nat) ≤ _); (simp <;> omega)))
    all_goals (try ((show (_ : Nat) ≤ _ ∧ (_ : Nat) ≤ _); (simp <;> omega)))
    all_goals (try ((show (_ : Int) ≤ _ ∧ (_ : Int) ≤ _ ∧ (_ : Int) ≤ _ ∧ (_ : Int) ≤ _); (simp <;> omega)))
    all_goals rfl
  · obtain ⟨i, b⟩ := a
    have hi : i ≤ l.length := ha.hi
    have hbn : b.length ≤ 3 * i := ha.bnd
    replace ha : RI l i b := ha
    have hld : (l.drop i).length = l.length - i := List.length_drop
    rcases Nat.lt_or_ge i l.length with hl | hl
    · have hd : l.drop i ≠ [] := by intro h; have := congrArg List.length h; rw [hld] at this; simp at this; omega
      have hcb := cutU_bnd _ hd
      have hel := encN_len 65533
      have ei : ((i : Int) + 1).toNat = i + 1 := by omega
      repeat' ((conv => whnf); first | (with_reducible rfl) | exact True.intro | (with_reducible exact absTF) | (with_reducible exact absFT) | intro _ | refine And.intro ?_ ?_ | refine Fin.mk ?_ | refine CallG.plain rfl ?_ ?_ | refine CallG.mk rfl ?_ ?_ | refine CallG.nwl rfl ?_ ?_ | refine CallG.nw ?_ ?_ | refine CallF.nwl rfl ?_ ?_ | refine CallF.nw ?_ ?_ | refine AppN.mk ?_ | (refine CallS.q ?_; (conv => whnf); first | refine CallG.plain rfl ?_ ?_ | refine CallG.mk rfl ?_ ?_) | (refine CallS.m ?_; (conv => whnf); refine CallM.mk rfl ?_ ?_) | (refine CallS.h ?_; (conv => whnf); refine CallM.mk rfl ?_ ?_) | (refine CallS.b ?_; (conv => whnf); refine CallM.mk rfl ?_ ?_) | (refine CallS.z ?_; (conv => whnf); refine CallM.mk rfl ?_ ?_))
      all_goals (try (conv => whnf))
      all_goals (try (exact Ob.mk (u8_bnd _)))
      all_goals (try (refine Ob.mk ?_; first | exact True.intro | assumption | omega | (try simp only [decide_eq_true_eq, decide_eq_false_iff_not, beq_iff_eq, beq_eq_false_iff_ne, bne_iff_ne, bne_eq_false_iff_eq, ne_eq, Bool.and_eq_true, Bool.or_eq_true, Bool.not_eq_true, Bool.not_eq_false, Bool.not_eq_true', Bool.not_eq_false', Int.toNat_natCast, Int.not_lt, Int.not_le, UInt8.ofNat_toNat, cast_eq] at *; omega)))
      all_goals (try ((show (_:Int) = _); omega))
      all_goals (try (show tupSV _ = _; with_unfolding_all rfl))
      all_goals (try ((show (_ : Nat) ≤ _); (simp <;> omega)))
      all_goals (try ((show (_ : Nat) ≤ _ ∧ (_ : Nat) ≤ _); (simp <;> omega)))
      all_goals (try ((show (_ : Int) ≤ _ ∧ (_ : Int) ≤ _ ∧ (_ : Int) ≤ _ ∧ (_ : Int) ≤ _); (simp <;> omega)))
      all_goals (try simp only [Int.toNat_natCast] at *)
      all_goals (try (first | exact ⟨hd, by omega⟩ | (exfalso; have := of_decide_eq_false ‹decide ((i : Int) < (l.length : Int)) = false›; omega)))
      all_goals (try (first | omega | (constructor <;> omega)))
      all_goals (try simp only [enc_odd] at *)
      all_goals (have e0 : (UInt8.toNat (@List.getD (Ty.T .byte) l i (Ty.dflt .byte))) = ((l.drop i).getD 0 0).toNat := by rw [drop_getD]; rfl)
      all_goals (have e1 : (UInt8.toNat (@List.getD (Ty.T .byte) l ((i : Int) + 1).toNat (Ty.dflt .byte))) = ((l.drop i).getD 1 0).toNat := by rw [drop_getD, ei]; rfl)
      · rename_i q
        have hc : chrU (l.drop i) = oddU ∧ stepU (l.drop i) = cutU (l.drop i) := by
          cases ho : okU (l.drop i) with
          | false => exact ⟨(st_bad ho).2, (st_bad ho).1⟩
          | true =>
            rw [ho] at q
            have h0 : ((l.drop i).getD 0 0).toNat = 0 := by
              have := beq_iff_eq.1 (show (_ == (0 : Int)) = true from q)
              omega
            exact ⟨(st_nul ho h0).2, (st_nul ho h0).1⟩
        refine Rnd.mk ⟨(i + cutU (l.drop i), b ++ oddU), ha.step hl hc.1 hc.2, by simp only []; omega, ?_⟩
        repeat' ((conv => whnf); first | (with_reducible rfl) | exact True.intro | (with_reducible exact absTF) | (with_reducible exact absFT) | intro _ | refine And.intro ?_ ?_ | refine Fin.mk ?_ | refine CallG.plain rfl ?_ ?_ | refine CallG.mk rfl ?_ ?_ | refine CallG.nwl rfl ?_ ?_ | refine CallG.nw ?_ ?_ | refine CallF.nwl rfl ?_ ?_ | refine CallF.nw ?_ ?_ | refine AppN.mk ?_ | (refine CallS.q ?_; (conv => whnf); first | refine CallG.plain rfl ?_ ?_ | refine CallG.mk rfl ?_ ?_) | (refine CallS.m ?_; (conv => whnf); refine CallM.mk rfl ?_ ?_) | (refine CallS.h ?_; (conv => whnf); refine CallM.mk rfl ?_ ?_) | (refine CallS.b ?_; (conv => whnf); refine CallM.mk rfl ?_ ?_) | (refine CallS.z ?_; (conv => whnf); refine CallM.mk rfl ?_ ?_))
        all_goals (try (conv => whnf))
        all_goals (try (exact Ob.mk (u8_bnd _)))
        all_goals (try (refine Ob.mk ?_; first | exact True.intro | assumption | omega | (try simp only [decide_eq_true_eq, decide_eq_false_iff_not, beq_iff_eq, beq_eq_false_iff_ne, bne_iff_ne, bne_eq_false_iff_eq, ne_eq, Bool.and_eq_true, Bool.or_eq_true, Bool.not_eq_true, Bool.not_eq_false, Bool.not_eq_true', Bool.not_eq_false', Int.toNat_natCast, Int.not_lt, Int.not_le, UInt8.ofNat_toNat, cast_eq] at *; omega)))
        all_goals (try ((show (_:Int) = _); omega))
        all_goals (try (show tupSV _ = _; with_unfolding_all rfl))
        all_goals (try ((show (_ : Nat) ≤ _); (simp <;> omega)))
        all_goals (try ((show (_ : Nat) ≤ _ ∧ (_ : Nat) ≤ _); (simp <;> omega)))
        all_goals (try ((show (_ : Int) ≤ _ ∧ (_ : Int) ≤ _ ∧ (_ : Int) ≤ _ ∧ (_ : Int) ≤ _); (simp <;> omega)))
        all_goals (first | rfl | (congr 1; omega) | skip)
      · rename_i q1 q2 _ q3
        have ho : okU (l.drop i) = true := by cases ho : okU (l.drop i) with | true => rfl | false => rw [ho] at q1; cases q1
        have h0 : ((l.drop i).getD 0 0).toNat = 13 := by have := beq_iff_eq.1 q2; omega
        simp only [Bool.and_eq_true, decide_eq_true_eq, beq_iff_eq] at q3
        have q4 : 1 < (l.drop i).length ∧ ((l.drop i).getD 1 0).toNat = 10 := by omega
        refine Rnd.mk ⟨(i + 2, b ++ [10]), ha.step hl (st_cr ho h0).2 ((st_cr ho h0).1.trans (if_pos q4)), by simp only []; omega, ?_⟩
        repeat' ((conv => whnf); first | (with_reducible rfl) | exact True.intro | (with_reducible exact absTF) | (with_reducible exact absFT) | intro _ | refine And.intro ?_ ?_ | refine Fin.mk ?_ | refine CallG.plain rfl ?_ ?_ | refine CallG.mk rfl ?_ ?_ | refine CallG.nwl rfl ?_ ?_ | refine CallG.nw ?_ ?_ | refine CallF.nwl rfl ?_ ?_ | refine CallF.nw ?_ ?_ | refine AppN.mk ?_ | (refine CallS.q ?_; (conv => whnf); first | refine CallG.plain rfl ?_ ?_ | refine CallG.mk rfl ?_ ?_) | (refine CallS.m ?_; (conv => whnf); refine CallM.mk rfl ?_ ?_) | (refine CallS.h ?_; (conv => whnf); refine CallM.mk rfl ?_ ?_) | (refine CallS.b ?_; (conv => whnf); refine CallM.mk rfl ?_ ?_) | (refine CallS.z ?_; (conv => whnf); refine CallM.mk rfl ?_ ?_))
        all_goals (try (conv => whnf))
        all_goals (try (exact Ob.mk (u8_bnd _)))
        all_goals (try (refine Ob.mk ?_; first | exact True.intro | assumption | omega | (try simp only [decide_eq_true_eq, decide_eq_false_iff_not, beq_iff_eq, beq_eq_false_iff_ne, bne_iff_ne, bne_eq_false_iff_eq, ne_eq, Bool.and_eq_true, Bool.or_eq_true, Bool.not_eq_true, Bool.not_eq_false, Bool.not_eq_true', Bool.not_eq_false', Int.toNat_natCast, Int.not_lt, Int.not_le, UInt8.ofNat_toNat, cast_eq] at *; omega)))
        all_goals (try ((show (_:Int) = _); omega))
        all_goals (try (show tupSV _ = _; with_unfolding_all rfl))
        all_goals (try ((show (_ : Nat) ≤ _); (simp <;> omega)))
        all_goals (try ((show (_ : Nat) ≤ _ ∧ (_ : Nat) ≤ _); (simp <;> omega)))
        all_goals (try ((show (_ : Int) ≤ _ ∧ (_ : Int) ≤ _ ∧ (_ : Int) ≤ _ ∧ (_ : Int) ≤ _); (simp <;> omega)))
        all_goals (first | rfl | (congr 1; omega) | skip)
      · rename_i q1 q2 _ q3
        have ho : okU (l.drop i) = true := by cases ho : okU (l.drop i) with | true => rfl | false => rw [ho] at q1; cases q1
        have h0 : ((l.drop i).getD 0 0).toNat = 13 := by have := beq_iff_eq.1 q2; omega
        simp only [Bool.and_eq_false_iff, decide_eq_false_iff_not, beq_eq_false_iff_ne, ne_eq] at q3
        have q4 : ¬ (1 < (l.drop i).length ∧ ((l.drop i).getD 1 0).toNat = 10) := by omega
        refine Rnd.mk ⟨(i + cutU (l.drop i), b ++ [10]), ha.step hl (st_cr ho h0).2 ((st_cr ho h0).1.trans (if_neg q4)), by simp only []; omega, ?_⟩
        repeat' ((conv => whnf); first | (with_reducible rfl) | exact True.intro | (with_reducible exact absTF) | (with_reducible exact absFT) | intro _ | refine And.intro ?_ ?_ | refine Fin.mk ?_ | refine CallG.plain rfl ?_ ?_ | refine CallG.mk rfl ?_ ?_ | refine CallG.nwl rfl ?_ ?_ | refine CallG.nw ?_ ?_ | refine CallF.nwl rfl ?_ ?_ | refine CallF.nw ?_ ?_ | refine AppN.mk ?_ | (refine CallS.q ?_; (conv => whnf); first | refine CallG.plain rfl ?_ ?_ | refine CallG.mk rfl ?_ ?_) | (refine CallS.m ?_; (conv => whnf); refine CallM.mk rfl ?_ ?_) | (refine CallS.h ?_; (conv => whnf); refine CallM.mk rfl ?_ ?_) | (refine CallS.b ?_; (conv => whnf); refine CallM.mk rfl ?_ ?_) | (refine CallS.z ?_; (conv => whnf); refine CallM.mk rfl ?_ ?_))
        all_goals (try (conv => whnf))
        all_goals (try (exact Ob.mk (u8_bnd _)))
        all_goals (try (refine Ob.mk ?_; first | exact True.intro | assumption | omega | (try simp only [decide_eq_true_eq, decide_eq_false_iff_not, beq_iff_eq, beq_eq_false_iff_ne, bne_iff_ne, bne_eq_false_iff_eq, ne_eq, Bool.and_eq_true, Bool.or_eq_true, Bool.not_eq_true, Bool.not_eq_false, Bool.not_eq_true', Bool.not_eq_false', Int.toNat_natCast, Int.not_lt, Int.not_le, UInt8.ofNat_toNat, cast_eq] at *; omega)))
        all_goals (try ((show (_:Int) = _); omega))
        all_goals (try (show tupSV _ = _; with_unfolding_all rfl))
        all_goals (try ((show (_ : Nat) ≤ _); (simp <;> omega)))
        all_goals (try ((show (_ : Nat) ≤ _ ∧ (_ : Nat) ≤ _); (simp <;> omega)))
        all_goals (try ((show (_ : Int) ≤ _ ∧ (_ : Int) ≤ _ ∧ (_ : Int) ≤ _ ∧ (_ : Int) ≤ _); (simp <;> omega)))
        all_goals (first | rfl | (congr 1; omega) | skip)
      · rename_i q1 q2
        have ho : okU (l.drop i) = true := by cases ho : okU (l.drop i) with | true => rfl | false => rw [ho] at q1; cases q1
        have h0 : ((l.drop i).getD 0 0).toNat ≠ 13 := by have := beq_eq_false_iff_ne.1 q2; omega
        have h1 : ((l.drop i).getD 0 0).toNat ≠ 0 := by
          rw [ho] at q1
          have := beq_eq_false_iff_ne.1 (show (_ == (0 : Int)) = false from q1)
          omega
        have et : List.drop i (List.take ((i : Int) + (cutU (l.drop i) : Int)).toNat l) = (l.drop i).take (cutU (l.drop i)) := by
          rw [show ((i : Int) + (cutU (l.drop i) : Int)).toNat = i + cutU (l.drop i) by omega, List.take_drop]
        refine Rnd.mk ⟨(i + cutU (l.drop i), b ++ (l.drop i).take (cutU (l.drop i))), ha.step hl (st_any ho h1 h0).2 (st_any ho h1 h0).1, by simp only []; omega, ?_⟩
        repeat' ((conv => whnf); first | (with_reducible rfl) | exact True.intro | (with_reducible exact absTF) | (with_reducible exact absFT) | intro _ | refine And.intro ?_ ?_ | refine Fin.mk ?_ | refine CallG.plain rfl ?_ ?_ | refine CallG.mk rfl ?_ ?_ | refine CallG.nwl rfl ?_ ?_ | refine CallG.nw ?_ ?_ | refine CallF.nwl rfl ?_ ?_ | refine CallF.nw ?_ ?_ | refine AppN.mk ?_ | (refine CallS.q ?_; (conv => whnf); first | refine CallG.plain rfl ?_ ?_ | refine CallG.mk rfl ?_ ?_) | (refine CallS.m ?_; (conv => whnf); refine CallM.mk rfl ?_ ?_) | (refine CallS.h ?_; (conv => whnf); refine CallM.mk rfl ?_ ?_) | (refine CallS.b ?_; (conv => whnf); refine CallM.mk rfl ?_ ?_) | (refine CallS.z ?_; (conv => whnf); refine CallM.mk rfl ?_ ?_))
        all_goals (try (conv => whnf))
        all_goals (try (exact Ob.mk (u8_bnd _)))
        all_goals (try (refine Ob.mk ?_; first | exact True.intro | assumption | omega | (try simp only [decide_eq_true_eq, decide_eq_false_iff_not, beq_iff_eq, beq_eq_false_iff_ne, bne_iff_ne, bne_eq_false_iff_eq, ne_eq, Bool.and_eq_true, Bool.or_eq_true, Bool.not_eq_true, Bool.not_eq_false, Bool.not_eq_true', Bool.not_eq_false', Int.toNat_natCast, Int.not_lt, Int.not_le, UInt8.ofNat_toNat, cast_eq] at *; omega)))
        all_goals (try ((show (_:Int) = _); omega))
        all_goals (try (show tupSV _ = _; with_unfolding_all rfl))
        all_goals (try ((show (_ : Nat) ≤ _); (simp <;> omega)))
        all_goals (try ((show (_ : Nat) ≤ _ ∧ (_ : Nat) ≤ _); (simp <;> omega)))
        all_goals (try ((show (_ : Int) ≤ _ ∧ (_ : Int) ≤ _ ∧ (_ : Int) ≤ _ ∧ (_ : Int) ≤ _); (simp <;> omega)))
        all_goals (first | rfl | (rw [et]; done) | (congr 1; omega) | skip)
    · repeat' ((conv => whnf); first | (with_reducible rfl) | exact True.intro | (with_reducible exact absTF) | (with_reducible exact absFT) | intro _ | refine And.intro ?_ ?_ | refine Fin.mk ?_ | refine CallG.plain rfl ?_ ?_ | refine CallG.mk rfl ?_ ?_ | refine CallG.nwl rfl ?_ ?_ | refine CallG.nw ?_ ?_ | refine CallF.nwl rfl ?_ ?_ | refine CallF.nw ?_ ?_ | refine AppN.mk ?_ | (refine CallS.q ?_; (conv => whnf); first | refine CallG.plain rfl ?_ ?_ | refine CallG.mk rfl ?_ ?_) | (refine CallS.m ?_; (conv => whnf); refine CallM.mk rfl ?_ ?_) | (refine CallS.h ?_; (conv => whnf); refine CallM.mk rfl ?_ ?_) | (refine CallS.b ?_; (conv => whnf); refine CallM.mk rfl ?_ ?_) | (refine CallS.z ?_; (conv => whnf); refine CallM.mk rfl ?_ ?_))
      all_goals (try (conv => whnf))
      all_goals (try (exact Ob.mk (u8_bnd _)))
      all_goals (try (refine Ob.mk ?_; first | exact True.intro | assumption | omega | (try simp only [decide_eq_true_eq, decide_eq_false_iff_not, beq_iff_eq, beq_eq_false_iff_ne, bne_iff_ne, bne_eq_false_iff_eq, ne_eq, Bool.and_eq_true, Bool.or_eq_true, Bool.not_eq_true, Bool.not_eq_false, Bool.not_eq_true', Bool.not_eq_false', Int.toNat_natCast, Int.not_lt, Int.not_le, UInt8.ofNat_toNat, cast_eq] at *; omega)))
      all_goals (try ((show (_:Int) = _); omega))
      all_goals (try (show tupSV _ = _; with_unfolding_all rfl))
      all_goals (try ((show (_ : Nat) ≤ _); (simp <;> omega)))
      all_goals (try ((show (_ : Nat) ≤ _ ∧ (_ : Nat) ≤ _); (simp <;> omega)))
      all_goals (try ((show (_ : Int) ≤ _ ∧ (_ : Int) ≤ _ ∧ (_ : Int) ≤ _ ∧ (_ : Int) ≤ _); (simp <;> omega)))
      all_goals (try (exfalso; have := of_decide_eq_true ‹decide ((i : Int) < (l.length : Int)) = true›; omega))
      all_goals (
        have hd : l.drop i = [] := List.drop_eq_nil_of_le (by omega)
        have heq := ha.eq
        rw [hd, decU_nil, List.append_nil] at heq)
      all_goals (try (rw [← heq]))
end Go.Vc
