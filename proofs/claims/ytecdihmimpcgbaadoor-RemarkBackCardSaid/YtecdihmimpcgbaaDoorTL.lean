/- A part of the proof: lemmas and walks that the last text of the claim joins; no condition. -/
import Derived.Test.YtecdihmimpcgbaaDoorTK
import Derived.Test.YtecdihmimpcgbaaDoorTI
import Derived.Lib.LaidU8T
import Derived.PinnedBridge
import Derived.Test.YtecdihmimpcgbaaDoorRows
set_option linter.unusedVariables false
set_option linter.unusedSimpArgs false
namespace Go.Vc
open Go.Proofs
set_option linter.unusedVariables false
set_option maxRecDepth 10000
set_option linter.unusedSimpArgs false
set_option maxHeartbeats 4000000
def c4 (x : Rk) : Rk := (x.1, x.2.1, x.2.2.1, x.2.2.2.1 + 4, true)
/-- the two ends are never at one place -/
theorem ab_ne (s : List UInt8) (i : Nat) (hA : occ s mA i) (hB : occ s mB i) : False := by
  have h1 := hA.2 2 (by decide)
  have h2 := hB.2 2 (by decide)
  rw [h1] at h2
  exact absurd h2 (by decide)
instance rRCom (s : List UInt8) : Fn BB 34 [.str s] (s.length ≤ 900000) (rkSV (c4 (comP s))) := by
  refine Fn.intro (N := 51) [0, 2, 3, 4, 5, 6, 7, 10, 13, 28, 44] [] Tryd.call34 Tryd.func34 rfl rfl (by kernel_rfl) (fun hpre => ?_)
  have lA := fnd_le s mA
  have lB := fnd_le s mB
  have fA := fd_spec s mA (by decide)
  have fB := fd_spec s mB (by decide)
  have oA := fnd_cases s mA (by decide)
  have oB := fnd_cases s mB (by decide)
  have zA : mA.length = 3 := rfl
  have zB : mB.length = 4 := rfl
  have d0 : s.drop (Int.toNat 0) = s := rfl
  have eA : ((Int.toNat 0 + fnd (s.drop (Int.toNat 0)) mA : Nat) : Int) = (fnd s mA : Int) := by rw [d0]; simp
  have eB : ((Int.toNat 0 + fnd (s.drop (Int.toNat 0)) mB : Nat) : Int) = (fnd s mB : Int) := by rw [d0]; simp
  have gg : 0 ≤ (s.length : Int) := by omega
  cases h1 : begP s [62]
  · cases h2 : begP s [45, 62]
    · by_cases h3 : fdB s mA = false ∧ fdB s mB = false
      · have e := com3 h1 h2 h3.1 h3.2
        have qA := (fA.2 h3.1).1
        have qB := (fB.2 h3.2).1
        repeat' ((conv => whnf); first | (with_reducible rfl) | exact True.intro | (with_reducible exact absTF) | (with_reducible exact absFT) | intro _ | refine And.intro ?_ ?_ | refine Fin.mk ?_ | refine CallG.plain rfl ?_ ?_ | refine CallG.mk rfl ?_ ?_ | refine CallG.nwl rfl ?_ ?_ | refine CallG.nw ?_ ?_ | refine CallF.nwl rfl ?_ ?_ | refine CallF.nw ?_ ?_ | refine AppN.mk ?_ | (refine CallS.q ?_; (conv => whnf); first | refine CallG.plain rfl ?_ ?_ | refine CallG.mk rfl ?_ ?_) | (refine CallS.m ?_; (conv => whnf); refine CallM.mk rfl ?_ ?_) | (refine CallS.h ?_; (conv => whnf); refine CallM.mk rfl ?_ ?_) | (refine CallS.b ?_; (conv => whnf); refine CallM.mk rfl ?_ ?_) | (refine CallS.z ?_; (conv => whnf); refine CallM.mk rfl ?_ ?_))
        all_goals (try (conv => whnf))
        all_goals (try (exact Ob.mk (u8_bnd _)))
        all_goals (try (refine Ob.mk ?_; first | exact True.intro | assumption | omega | (try simp only [decide_eq_true_eq, decide_eq_false_iff_not, beq_iff_eq, beq_eq_false_iff_ne, bne_iff_ne, bne_eq_false_iff_eq, ne_eq, Bool.and_eq_true, Bool.or_eq_true, Bool.not_eq_true, Bool.not_eq_false, Bool.not_eq_true', Bool.not_eq_false', Int.toNat_natCast, Int.not_lt, Int.not_le, UInt8.ofNat_toNat, cast_eq] at *; omega)))
        all_goals (try ((show (_:Int) = _); omega))
        all_goals (try (show tupSV _ = _; with_unfolding_all rfl))
        all_goals (try ((show (_ : Nat) ≤ _); (simp <;> omega)))
        all_goals (try ((show (_ : Nat) ≤ _ ∧ (_ : Nat) ≤ _); (simp <;> omega)))
        all_goals (try ((show (_ : Int) ≤ _ ∧ (_ : Int) ≤ _ ∧ (_ : Int) ≤ _ ∧ (_ : Int) ≤ _); (simp <;> omega)))
        all_goals (try simp only [eA, eB] at *)
        all_goals (try (exfalso; have h : begP s [62] = true := ‹_›; rw [h1] at h; cases h; done))
        all_goals (try (exfalso; have h : begP s [45, 62] = true := ‹_›; rw [h2] at h; cases h; done))
        all_goals (try (exfalso; have h : ((fnd s mA : Int) == (s.length : Int) && (fnd s mB : Int) == (s.length : Int)) = false := ‹_›; rw [qA, qB] at h; simp at h; done))
        all_goals (first | (rw [e]; done) | (rw [e]; rfl) | exact ⟨by omega, by omega, by decide, by decide, by omega⟩ | omega | (rw [e]; simp only [c4, cond_false]; omega) | (constructor <;> omega) | (simp only [cond_false]; constructor <;> omega) | (rw [e]; simp only [c4, cond_false]; congr 1; omega) | trace_state)
      · have hor : fdB s mA = true ∨ fdB s mB = true := by
          cases q1 : fdB s mA <;> cases q2 : fdB s mB <;> simp_all
        have hn : ¬ (fnd s mA = s.length ∧ fnd s mB = s.length) := by
          rintro ⟨x, y⟩
          rcases hor with q | q
          · have := fA.1 q; omega
          · have := fB.1 q; omega
        by_cases hl : fnd s mB < fnd s mA
        · have e := com4 h1 h2 hor hl
          repeat' ((conv => whnf); first | (with_reducible rfl) | exact True.intro | (with_reducible exact absTF) | (with_reducible exact absFT) | intro _ | refine And.intro ?_ ?_ | refine Fin.mk ?_ | refine CallG.plain rfl ?_ ?_ | refine CallG.mk rfl ?_ ?_ | refine CallG.nwl rfl ?_ ?_ | refine CallG.nw ?_ ?_ | refine CallF.nwl rfl ?_ ?_ | refine CallF.nw ?_ ?_ | refine AppN.mk ?_ | (refine CallS.q ?_; (conv => whnf); first | refine CallG.plain rfl ?_ ?_ | refine CallG.mk rfl ?_ ?_) | (refine CallS.m ?_; (conv => whnf); refine CallM.mk rfl ?_ ?_) | (refine CallS.h ?_; (conv => whnf); refine CallM.mk rfl ?_ ?_) | (refine CallS.b ?_; (conv => whnf); refine CallM.mk rfl ?_ ?_) | (refine CallS.z ?_; (conv => whnf); refine CallM.mk rfl ?_ ?_))
          all_goals (try (conv => whnf))
          all_goals (try (exact Ob.mk (u8_bnd _)))
          all_goals (try (refine Ob.mk ?_; first | exact True.intro | assumption | omega | (try simp only [decide_eq_true_eq, decide_eq_false_iff_not, beq_iff_eq, beq_eq_false_iff_ne, bne_iff_ne, bne_eq_false_iff_eq, ne_eq, Bool.and_eq_true, Bool.or_eq_true, Bool.not_eq_true, Bool.not_eq_false, Bool.not_eq_true', Bool.not_eq_false', Int.toNat_natCast, Int.not_lt, Int.not_le, UInt8.ofNat_toNat, cast_eq] at *; omega)))
          all_goals (try ((show (_:Int) = _); omega))
          all_goals (try (show tupSV _ = _; with_unfolding_all rfl))
          all_goals (try ((show (_ : Nat) ≤ _); (simp <;> omega)))
          all_goals (try ((show (_ : Nat) ≤ _ ∧ (_ : Nat) ≤ _); (simp <;> omega)))
          all_goals (try ((show (_ : Int) ≤ _ ∧ (_ : Int) ≤ _ ∧ (_ : Int) ≤ _ ∧ (_ : Int) ≤ _); (simp <;> omega)))
          all_goals (try simp only [eA, eB] at *)
          all_goals (try (exfalso; have h : begP s [62] = true := ‹_›; rw [h1] at h; cases h; done))
          all_goals (try (exfalso; have h : begP s [45, 62] = true := ‹_›; rw [h2] at h; cases h; done))
          all_goals (try (exfalso; have h : ((fnd s mA : Int) == (s.length : Int) && (fnd s mB : Int) == (s.length : Int)) = true := ‹_›; simp only [Bool.and_eq_true, beq_iff_eq] at h; omega))
          all_goals (try (exfalso; have h := of_decide_eq_true ‹decide ((fnd s mA : Int) < (fnd s mB : Int)) = true›; omega))
          all_goals (first | (rw [e]; done) | (rw [e]; rfl) | exact ⟨by omega, by omega, by decide, by decide, by omega⟩ | omega | (rw [e]; simp only [c4, cond_false]; omega) | (constructor <;> omega) | (simp only [cond_false]; constructor <;> omega) | (rw [e]; simp only [c4, cond_false]; congr 1; omega) | trace_state)
        · have e := com5 h1 h2 hor hl
          have hlt : fnd s mA < fnd s mB := by
            rcases Nat.lt_or_ge (fnd s mA) (fnd s mB) with q | q
            · exact q
            · exfalso
              have hq : fnd s mA = fnd s mB := by omega
              rcases oA with ⟨oa, _⟩ | ⟨oa, _⟩
              · rcases oB with ⟨ob, _⟩ | ⟨ob, _⟩
                · rw [hq] at oa; exact ab_ne s _ oa ob
                · have := oa.1; omega
              · rcases oB with ⟨ob, _⟩ | ⟨ob, _⟩
                · have := ob.1; omega
                · exact hn ⟨oa, ob⟩
          repeat' ((conv => whnf); first | (with_reducible rfl) | exact True.intro | (with_reducible exact absTF) | (with_reducible exact absFT) | intro _ | refine And.intro ?_ ?_ | refine Fin.mk ?_ | refine CallG.plain rfl ?_ ?_ | refine CallG.mk rfl ?_ ?_ | refine CallG.nwl rfl ?_ ?_ | refine CallG.nw ?_ ?_ | refine CallF.nwl rfl ?_ ?_ | refine CallF.nw ?_ ?_ | refine AppN.mk ?_ | (refine CallS.q ?_; (conv => whnf); first | refine CallG.plain rfl ?_ ?_ | refine CallG.mk rfl ?_ ?_) | (refine CallS.m ?_; (conv => whnf); refine CallM.mk rfl ?_ ?_) | (refine CallS.h ?_; (conv => whnf); refine CallM.mk rfl ?_ ?_) | (refine CallS.b ?_; (conv => whnf); refine CallM.mk rfl ?_ ?_) | (refine CallS.z ?_; (conv => whnf); refine CallM.mk rfl ?_ ?_))
          all_goals (try (conv => whnf))
          all_goals (try (exact Ob.mk (u8_bnd _)))
          all_goals (try (refine Ob.mk ?_; first | exact True.intro | assumption | omega | (try simp only [decide_eq_true_eq, decide_eq_false_iff_not, beq_iff_eq, beq_eq_false_iff_ne, bne_iff_ne, bne_eq_false_iff_eq, ne_eq, Bool.and_eq_true, Bool.or_eq_true, Bool.not_eq_true, Bool.not_eq_false, Bool.not_eq_true', Bool.not_eq_false', Int.toNat_natCast, Int.not_lt, Int.not_le, UInt8.ofNat_toNat, cast_eq] at *; omega)))
          all_goals (try ((show (_:Int) = _); omega))
          all_goals (try (show tupSV _ = _; with_unfolding_all rfl))
          all_goals (try ((show (_ : Nat) ≤ _); (simp <;> omega)))
          all_goals (try ((show (_ : Nat) ≤ _ ∧ (_ : Nat) ≤ _); (simp <;> omega)))
          all_goals (try ((show (_ : Int) ≤ _ ∧ (_ : Int) ≤ _ ∧ (_ : Int) ≤ _ ∧ (_ : Int) ≤ _); (simp <;> omega)))
          all_goals (try simp only [eA, eB] at *)
          all_goals (try (exfalso; have h : begP s [62] = true := ‹_›; rw [h1] at h; cases h; done))
          all_goals (try (exfalso; have h : begP s [45, 62] = true := ‹_›; rw [h2] at h; cases h; done))
          all_goals (try (exfalso; have h : ((fnd s mA : Int) == (s.length : Int) && (fnd s mB : Int) == (s.length : Int)) = true := ‹_›; simp only [Bool.and_eq_true, beq_iff_eq] at h; omega))
          all_goals (try (exfalso; have h := of_decide_eq_false ‹decide ((fnd s mA : Int) < (fnd s mB : Int)) = false›; omega))
          all_goals (first | (rw [e]; done) | (rw [e]; rfl) | exact ⟨by omega, by omega, by decide, by decide, by omega⟩ | omega | (rw [e]; simp only [c4, cond_false]; omega) | (constructor <;> omega) | (simp only [cond_false]; constructor <;> omega) | (rw [e]; simp only [c4, cond_false]; congr 1; omega) | trace_state)
    · have e := com2 h1 h2
      repeat' ((conv => whnf); first | (with_reducible rfl) | exact True.intro | (with_reducible exact absTF) | (with_reducible exact absFT) | intro _ | refine And.intro ?_ ?_ | refine Fin.mk ?_ | refine CallG.plain rfl ?_ ?_ | refine CallG.mk rfl ?_ ?_ | refine CallG.nwl rfl ?_ ?_ | refine CallG.nw ?_ ?_ | refine CallF.nwl rfl ?_ ?_ | refine CallF.nw ?_ ?_ | refine AppN.mk ?_ | (refine CallS.q ?_; (conv => whnf); first | refine CallG.plain rfl ?_ ?_ | refine CallG.mk rfl ?_ ?_) | (refine CallS.m ?_; (conv => whnf); refine CallM.mk rfl ?_ ?_) | (refine CallS.h ?_; (conv => whnf); refine CallM.mk rfl ?_ ?_) | (refine CallS.b ?_; (conv => whnf); refine CallM.mk rfl ?_ ?_) | (refine CallS.z ?_; (conv => whnf); refine CallM.mk rfl ?_ ?_))
      all_goals (try (conv => whnf))
      all_goals (try (exact Ob.mk (u8_bnd _)))
      all_goals (try (refine Ob.mk ?_; first | exact True.intro | assumption | omega | (try simp only [decide_eq_true_eq, decide_eq_false_iff_not, beq_iff_eq, beq_eq_false_iff_ne, bne_iff_ne, bne_eq_false_iff_eq, ne_eq, Bool.and_eq_true, Bool.or_eq_true, Bool.not_eq_true, Bool.not_eq_false, Bool.not_eq_true', Bool.not_eq_false', Int.toNat_natCast, Int.not_lt, Int.not_le, UInt8.ofNat_toNat, cast_eq] at *; omega)))
      all_goals (try ((show (_:Int) = _); omega))
      all_goals (try (show tupSV _ = _; with_unfolding_all rfl))
      all_goals (try ((show (_ : Nat) ≤ _); (simp <;> omega)))
      all_goals (try ((show (_ : Nat) ≤ _ ∧ (_ : Nat) ≤ _); (simp <;> omega)))
      all_goals (try ((show (_ : Int) ≤ _ ∧ (_ : Int) ≤ _ ∧ (_ : Int) ≤ _ ∧ (_ : Int) ≤ _); (simp <;> omega)))
      all_goals (try (exfalso; have h : begP s [62] = true := ‹_›; rw [h1] at h; cases h; done))
      all_goals (try (exfalso; have h : begP s [45, 62] = false := ‹_›; rw [h2] at h; cases h; done))
      all_goals (first | (rw [e]; done) | (rw [e]; rfl) | exact ⟨by omega, by omega, by decide, by decide, by omega⟩ | omega | (rw [e]; simp only [c4, cond_false]; omega) | (constructor <;> omega) | (simp only [cond_false]; constructor <;> omega) | (rw [e]; simp only [c4, cond_false]; congr 1; omega) | trace_state)
  · have e := com1 h1
    repeat' ((conv => whnf); first | (with_reducible rfl) | exact True.intro | (with_reducible exact absTF) | (with_reducible exact absFT) | intro _ | refine And.intro ?_ ?_ | refine Fin.mk ?_ | refine CallG.plain rfl ?_ ?_ | refine CallG.mk rfl ?_ ?_ | refine CallG.nwl rfl ?_ ?_ | refine CallG.nw ?_ ?_ | refine CallF.nwl rfl ?_ ?_ | refine CallF.nw ?_ ?_ | refine AppN.mk ?_ | (refine CallS.q ?_; (conv => whnf); first | refine CallG.plain rfl ?_ ?_ | refine CallG.mk rfl ?_ ?_) | (refine CallS.m ?_; (conv => whnf); refine CallM.mk rfl ?_ ?_) | (refine CallS.h ?_; (conv => whnf); refine CallM.mk rfl ?_ ?_) | (refine CallS.b ?_; (conv => whnf); refine CallM.mk rfl ?_ ?_) | (refine CallS.z ?_; (conv => whnf); refine CallM.mk rfl ?_ ?_))
    all_goals (try (conv => whnf))
    all_goals (try (exact Ob.mk (u8_bnd _)))
    all_goals (try (refine Ob.mk ?_; first | exact True.intro | assumption | omega | (try simp only [decide_eq_true_eq, decide_eq_false_iff_not, beq_iff_eq, beq_eq_false_iff_ne, bne_iff_ne, bne_eq_false_iff_eq, ne_eq, Bool.and_eq_true, Bool.or_eq_true, Bool.not_eq_true, Bool.not_eq_false, Bool.not_eq_true', Bool.not_eq_false', Int.toNat_natCast, Int.not_lt, Int.not_le, UInt8.ofNat_toNat, cast_eq] at *; omega)))
    all_goals (try ((show (_:Int) = _); omega))
    all_goals (try (show tupSV _ = _; with_unfolding_all rfl))
    all_goals (try ((show (_ : Nat) ≤ _); (simp <;> omega)))
    all_goals (try ((show (_ : Nat) ≤ _ ∧ (_ : Nat) ≤ _); (simp <;> omega)))
    all_goals (try ((show (_ : Int) ≤ _ ∧ (_ : Int) ≤ _ ∧ (_ : Int) ≤ _ ∧ (_ : Int) ≤ _); (simp <;> omega)))
    all_goals (try (exfalso; have h : begP s [62] = false := ‹_›; rw [h1] at h; cases h; done))
    all_goals (first | (rw [e]; done) | (rw [e]; rfl) | exact ⟨by omega, by omega, by decide, by decide, by omega⟩ | omega | (rw [e]; simp only [c4, cond_false]; omega) | (constructor <;> omega) | (simp only [cond_false]; constructor <;> omega) | (rw [e]; simp only [c4, cond_false]; congr 1; omega) | trace_state)
instance rRDoc (s : List UInt8) : Fn BB 35 [.str s] (9 ≤ s.length ∧ s.length ≤ 900000) (rkSV (docP s)) := by
  refine Fn.intro (N := 46) [0, 2, 3, 4, 5, 6, 7, 20, 33] [] Tryd.call35 Tryd.func35 rfl rfl (by kernel_rfl) (fun hpre => ?_)
  obtain ⟨p1, p2⟩ := hpre
  have h1 := uN_one (s.drop 9) 62
  have hle := fnd_le (s.drop 9) [62]
  rw [List.length_drop] at h1 hle
  have e9 : (9 : Int).toNat = 9 := rfl
  have eU : (docP s).2.2.2.1 = ((9 + uN (s.drop 9) [62] : Nat) : Int) := rfl
  have eN : (docP s).2.1 = lowL ((((s.drop 9).take (fnd (s.drop 9) [62])).dropWhile spB).takeWhile fun c => !spB c) := rfl
  have eS : (s.take (9 + fnd (s.drop 9) [62])).drop 9 = (s.drop 9).take (fnd (s.drop 9) [62]) := by rw [List.drop_take]; congr 1; omega
  have lS : ((s.drop 9).take (fnd (s.drop 9) [62])).length ≤ s.length := by simp; omega
  repeat' ((conv => whnf); first | (with_reducible rfl) | exact True.intro | (with_reducible exact absTF) | (with_reducible exact absFT) | intro _ | refine And.intro ?_ ?_ | refine Fin.mk ?_ | refine CallG.plain rfl ?_ ?_ | refine CallG.mk rfl ?_ ?_ | refine CallG.nwl rfl ?_ ?_ | refine CallG.nw ?_ ?_ | refine CallF.nwl rfl ?_ ?_ | refine CallF.nw ?_ ?_ | refine AppN.mk ?_ | (refine CallS.q ?_; (conv => whnf); first | refine CallG.plain rfl ?_ ?_ | refine CallG.mk rfl ?_ ?_) | (refine CallS.m ?_; (conv => whnf); refine CallM.mk rfl ?_ ?_) | (refine CallS.h ?_; (conv => whnf); refine CallM.mk rfl ?_ ?_) | (refine CallS.b ?_; (conv => whnf); refine CallM.mk rfl ?_ ?_) | (refine CallS.z ?_; (conv => whnf); refine CallM.mk rfl ?_ ?_))
  all_goals (try (conv => whnf))
  all_goals (try (exact Ob.mk (u8_bnd _)))
  all_goals (try (refine Ob.mk ?_; first | exact True.intro | assumption | omega | (try simp only [decide_eq_true_eq, decide_eq_false_iff_not, beq_iff_eq, beq_eq_false_iff_ne, bne_iff_ne, bne_eq_false_iff_eq, ne_eq, Bool.and_eq_true, Bool.or_eq_true, Bool.not_eq_true, Bool.not_eq_false, Bool.not_eq_true', Bool.not_eq_false', Int.toNat_natCast, Int.not_lt, Int.not_le, UInt8.ofNat_toNat, cast_eq] at *; omega)))
  all_goals (try ((show (_:Int) = _); omega))
  all_goals (try (show tupSV _ = _; with_unfolding_all rfl))
  all_goals (try ((show (_ : Nat) ≤ _); (simp <;> omega)))
  all_goals (try ((show (_ : Nat) ≤ _ ∧ (_ : Nat) ≤ _); (simp <;> omega)))
  all_goals (try ((show (_ : Int) ≤ _ ∧ (_ : Int) ≤ _ ∧ (_ : Int) ≤ _ ∧ (_ : Int) ≤ _); (simp <;> omega)))
  all_goals (try simp only [e9, Int.toNat_natCast, eS] at *)
  · exact ⟨by omega, by omega, by decide, by decide, p2⟩
  · omega
  · generalize (s.drop 9).take (fnd (s.drop 9) [62]) = Q at *
    refine LoopStop.mk (α := List UInt8) (fun a => [(6, .str a)]) (fun a => []) 20 (fun a => a.length ≤ s.length ∧ a.dropWhile spB = Q.dropWhile spB) (fun a => a.length) Q ⟨by omega, rfl⟩ ?_ (fun a ha => ?_)
    · repeat' ((conv => whnf); first | (with_reducible rfl) | exact True.intro | (with_reducible exact absTF) | (with_reducible exact absFT) | intro _ | refine And.intro ?_ ?_ | refine Fin.mk ?_ | refine CallG.plain rfl ?_ ?_ | refine CallG.mk rfl ?_ ?_ | refine CallG.nwl rfl ?_ ?_ | refine CallG.nw ?_ ?_ | refine CallF.nwl rfl ?_ ?_ | refine CallF.nw ?_ ?_ | refine AppN.mk ?_ | (refine CallS.q ?_; (conv => whnf); first | refine CallG.plain rfl ?_ ?_ | refine CallG.mk rfl ?_ ?_) | (refine CallS.m ?_; (conv => whnf); refine CallM.mk rfl ?_ ?_) | (refine CallS.h ?_; (conv => whnf); refine CallM.mk rfl ?_ ?_) | (refine CallS.b ?_; (conv => whnf); refine CallM.mk rfl ?_ ?_) | (refine CallS.z ?_; (conv => whnf); refine CallM.mk rfl ?_ ?_))
      all_goals (try (conv => whnf))
      all_goals (try (exact Ob.mk (u8_bnd _)))
      all_goals (try (refine Ob.mk ?_; first | exact True.intro | assumption | omega | (try simp only [decide_eq_true_eq, decide_eq_false_iff_not, beq_iff_eq, beq_eq_false_iff_ne, bne_iff_ne, bne_eq_false_iff_eq, ne_eq, Bool.and_eq_true, Bool.or_eq_true, Bool.not_eq_true, Bool.not_eq_false, Bool.not_eq_true', Bool.not_eq_false', Int.toNat_natCast, Int.not_lt, Int.not_le, UInt8.ofNat_toNat, cast_eq] at *; omega)))
      all_goals (try ((show (_:Int) = _); omega))
      all_goals (try (show tupSV _ = _; with_unfolding_all rfl))
      all_goals (try ((show (_ : Nat) ≤ _); (simp <;> omega)))
      all_goals (try ((show (_ : Nat) ≤ _ ∧ (_ : Nat) ≤ _); (simp <;> omega)))
      all_goals (try ((show (_ : Int) ≤ _ ∧ (_ : Int) ≤ _ ∧ (_ : Int) ≤ _ ∧ (_ : Int) ≤ _); (simp <;> omega)))
    · repeat' ((conv => whnf); first | (with_reducible rfl) | exact True.intro | (with_reducible exact absTF) | (with_reducible exact absFT) | intro _ | refine And.intro ?_ ?_ | refine Fin.mk ?_ | refine CallG.plain rfl ?_ ?_ | refine CallG.mk rfl ?_ ?_ | refine CallG.nwl rfl ?_ ?_ | refine CallG.nw ?_ ?_ | refine CallF.nwl rfl ?_ ?_ | refine CallF.nw ?_ ?_ | refine AppN.mk ?_ | (refine CallS.q ?_; (conv => whnf); first | refine CallG.plain rfl ?_ ?_ | refine CallG.mk rfl ?_ ?_) | (refine CallS.m ?_; (conv => whnf); refine CallM.mk rfl ?_ ?_) | (refine CallS.h ?_; (conv => whnf); refine CallM.mk rfl ?_ ?_) | (refine CallS.b ?_; (conv => whnf); refine CallM.mk rfl ?_ ?_) | (refine CallS.z ?_; (conv => whnf); refine CallM.mk rfl ?_ ?_))
      all_goals (try (conv => whnf))
      all_goals (try (exact Ob.mk (u8_bnd _)))
      all_goals (try (refine Ob.mk ?_; first | exact True.intro | assumption | omega | (try simp only [decide_eq_true_eq, decide_eq_false_iff_not, beq_iff_eq, beq_eq_false_iff_ne, bne_iff_ne, bne_eq_false_iff_eq, ne_eq, Bool.and_eq_true, Bool.or_eq_true, Bool.not_eq_true, Bool.not_eq_false, Bool.not_eq_true', Bool.not_eq_false', Int.toNat_natCast, Int.not_lt, Int.not_le, UInt8.ofNat_toNat, cast_eq] at *; omega)))
      all_goals (try ((show (_:Int) = _); omega))
      all_goals (try (show tupSV _ = _; with_unfolding_all rfl))
      all_goals (try ((show (_ : Nat) ≤ _); (simp <;> omega)))
      all_goals (try ((show (_ : Nat) ≤ _ ∧ (_ : Nat) ≤ _); (simp <;> omega)))
      all_goals (try ((show (_ : Int) ≤ _ ∧ (_ : Int) ≤ _ ∧ (_ : Int) ≤ _ ∧ (_ : Int) ≤ _); (simp <;> omega)))
      · rename_i h0 h
        have h' : decide ((a.length : Int) > 0) = true ∧ W.isSp ((a.getD 0 0).toNat : Int) = true := by simpa using h
        have hl : 0 < a.length := by have := of_decide_eq_true h'.1; omega
        refine Rnd.mk ⟨a.drop 1, ⟨by rw [List.length_drop]; omega, (dw_step hl h'.2).trans ha.2⟩, by rw [List.length_drop]; omega, ?_⟩
        repeat' ((conv => whnf); first | (with_reducible rfl) | exact True.intro | (with_reducible exact absTF) | (with_reducible exact absFT) | intro _ | refine And.intro ?_ ?_ | refine Fin.mk ?_ | refine CallG.plain rfl ?_ ?_ | refine CallG.mk rfl ?_ ?_ | refine CallG.nwl rfl ?_ ?_ | refine CallG.nw ?_ ?_ | refine CallF.nwl rfl ?_ ?_ | refine CallF.nw ?_ ?_ | refine AppN.mk ?_ | (refine CallS.q ?_; (conv => whnf); first | refine CallG.plain rfl ?_ ?_ | refine CallG.mk rfl ?_ ?_) | (refine CallS.m ?_; (conv => whnf); refine CallM.mk rfl ?_ ?_) | (refine CallS.h ?_; (conv => whnf); refine CallM.mk rfl ?_ ?_) | (refine CallS.b ?_; (conv => whnf); refine CallM.mk rfl ?_ ?_) | (refine CallS.z ?_; (conv => whnf); refine CallM.mk rfl ?_ ?_))
        all_goals (try (conv => whnf))
        all_goals (try (exact Ob.mk (u8_bnd _)))
        all_goals (try (refine Ob.mk ?_; first | exact True.intro | assumption | omega | (try simp only [decide_eq_true_eq, decide_eq_false_iff_not, beq_iff_eq, beq_eq_false_iff_ne, bne_iff_ne, bne_eq_false_iff_eq, ne_eq, Bool.and_eq_true, Bool.or_eq_true, Bool.not_eq_true, Bool.not_eq_false, Bool.not_eq_true', Bool.not_eq_false', Int.toNat_natCast, Int.not_lt, Int.not_le, UInt8.ofNat_toNat, cast_eq] at *; omega)))
        all_goals (try ((show (_:Int) = _); omega))
        all_goals (try (show tupSV _ = _; with_unfolding_all rfl))
        all_goals (try ((show (_ : Nat) ≤ _); (simp <;> omega)))
        all_goals (try ((show (_ : Nat) ≤ _ ∧ (_ : Nat) ≤ _); (simp <;> omega)))
        all_goals (try ((show (_ : Int) ≤ _ ∧ (_ : Int) ≤ _ ∧ (_ : Int) ≤ _ ∧ (_ : Int) ≤ _); (simp <;> omega)))
        all_goals rfl
      · rename_i h0 h
        have hA : a.dropWhile spB = a := dw_stop fun hl => by
          have hl' : decide ((a.length : Int) > 0) = true := decide_eq_true (by omega)
          rw [hl', Bool.true_and] at h
          exact h
        have hB : a = Q.dropWhile spB := hA.symm.trans ha.2
        rw [← hB] at eN
        refine LoopStop.mk (α := Nat) (fun k => [(7, .int .i64 k)]) (fun b => []) 40 (fun k => k ≤ a.length ∧ a.takeWhile (fun c => !spB c) = a.take k ++ (a.drop k).takeWhile (fun c => !spB c)) (fun k => a.length - k) 0 ⟨by omega, by simp⟩ ?_ (fun k hk => ?_)
        · repeat' ((conv => whnf); first | (with_reducible rfl) | exact True.intro | (with_reducible exact absTF) | (with_reducible exact absFT) | intro _ | refine And.intro ?_ ?_ | refine Fin.mk ?_ | refine CallG.plain rfl ?_ ?_ | refine CallG.mk rfl ?_ ?_ | refine CallG.nwl rfl ?_ ?_ | refine CallG.nw ?_ ?_ | refine CallF.nwl rfl ?_ ?_ | refine CallF.nw ?_ ?_ | refine AppN.mk ?_ | (refine CallS.q ?_; (conv => whnf); first | refine CallG.plain rfl ?_ ?_ | refine CallG.mk rfl ?_ ?_) | (refine CallS.m ?_; (conv => whnf); refine CallM.mk rfl ?_ ?_) | (refine CallS.h ?_; (conv => whnf); refine CallM.mk rfl ?_ ?_) | (refine CallS.b ?_; (conv => whnf); refine CallM.mk rfl ?_ ?_) | (refine CallS.z ?_; (conv => whnf); refine CallM.mk rfl ?_ ?_))
          all_goals (try (conv => whnf))
          all_goals (try (exact Ob.mk (u8_bnd _)))
          all_goals (try (refine Ob.mk ?_; first | exact True.intro | assumption | omega | (try simp only [decide_eq_true_eq, decide_eq_false_iff_not, beq_iff_eq, beq_eq_false_iff_ne, bne_iff_ne, bne_eq_false_iff_eq, ne_eq, Bool.and_eq_true, Bool.or_eq_true, Bool.not_eq_true, Bool.not_eq_false, Bool.not_eq_true', Bool.not_eq_false', Int.toNat_natCast, Int.not_lt, Int.not_le, UInt8.ofNat_toNat, cast_eq] at *; omega)))
          all_goals (try ((show (_:Int) = _); omega))
          all_goals (try (show tupSV _ = _; with_unfolding_all rfl))
          all_goals (try ((show (_ : Nat) ≤ _); (simp <;> omega)))
          all_goals (try ((show (_ : Nat) ≤ _ ∧ (_ : Nat) ≤ _); (simp <;> omega)))
          all_goals (try ((show (_ : Int) ≤ _ ∧ (_ : Int) ≤ _ ∧ (_ : Int) ≤ _ ∧ (_ : Int) ≤ _); (simp <;> omega)))
          all_goals rfl
        · obtain ⟨k1, k2⟩ := hk
          repeat' ((conv => whnf); first | (with_reducible rfl) | exact True.intro | (with_reducible exact absTF) | (with_reducible exact absFT) | intro _ | refine And.intro ?_ ?_ | refine Fin.mk ?_ | refine CallG.plain rfl ?_ ?_ | refine CallG.mk rfl ?_ ?_ | refine CallG.nwl rfl ?_ ?_ | refine CallG.nw ?_ ?_ | refine CallF.nwl rfl ?_ ?_ | refine CallF.nw ?_ ?_ | refine AppN.mk ?_ | (refine CallS.q ?_; (conv => whnf); first | refine CallG.plain rfl ?_ ?_ | refine CallG.mk rfl ?_ ?_) | (refine CallS.m ?_; (conv => whnf); refine CallM.mk rfl ?_ ?_) | (refine CallS.h ?_; (conv => whnf); refine CallM.mk rfl ?_ ?_) | (refine CallS.b ?_; (conv => whnf); refine CallM.mk rfl ?_ ?_) | (refine CallS.z ?_; (conv => whnf); refine CallM.mk rfl ?_ ?_))
          all_goals (try (conv => whnf))
          all_goals (try (exact Ob.mk (u8_bnd _)))
          all_goals (try (refine Ob.mk ?_; first | exact True.intro | assumption | omega | (try simp only [decide_eq_true_eq, decide_eq_false_iff_not, beq_iff_eq, beq_eq_false_iff_ne, bne_iff_ne, bne_eq_false_iff_eq, ne_eq, Bool.and_eq_true, Bool.or_eq_true, Bool.not_eq_true, Bool.not_eq_false, Bool.not_eq_true', Bool.not_eq_false', Int.toNat_natCast, Int.not_lt, Int.not_le, UInt8.ofNat_toNat, cast_eq] at *; omega)))
          all_goals (try ((show (_:Int) = _); omega))
          all_goals (try (show tupSV _ = _; with_unfolding_all rfl))
          all_goals (try ((show (_ : Nat) ≤ _); (simp <;> omega)))
          all_goals (try ((show (_ : Nat) ≤ _ ∧ (_ : Nat) ≤ _); (simp <;> omega)))
          all_goals (try ((show (_ : Int) ≤ _ ∧ (_ : Int) ≤ _ ∧ (_ : Int) ≤ _ ∧ (_ : Int) ≤ _); (simp <;> omega)))
          all_goals (try simp only [Int.toNat_natCast] at *)
          · rename_i h2 h3
            have h' : decide ((k : Int) < (a.length : Int)) = true ∧ (!W.isSp ((a.getD k 0).toNat : Int)) = true := by simpa only [Bool.and_eq_true] using h3
            have hl : k < a.length := by have := of_decide_eq_true h'.1; omega
            refine Rnd.mk ⟨k + 1, ⟨by omega, ?_⟩, by omega, ?_⟩
            · have hs : (!spB a[k]) = true := by
                have e : a.getD k 0 = a[k] := by simp [List.getD, List.getElem?_eq_getElem hl]
                have := h'.2
                rw [e] at this; exact this
              rw [k2, drop_at a k hl, List.takeWhile_cons, if_pos hs, List.take_succ_eq_append_getElem hl, List.append_assoc, List.singleton_append]
            · repeat' ((conv => whnf); first | (with_reducible rfl) | exact True.intro | (with_reducible exact absTF) | (with_reducible exact absFT) | intro _ | refine And.intro ?_ ?_ | refine Fin.mk ?_ | refine CallG.plain rfl ?_ ?_ | refine CallG.mk rfl ?_ ?_ | refine CallG.nwl rfl ?_ ?_ | refine CallG.nw ?_ ?_ | refine CallF.nwl rfl ?_ ?_ | refine CallF.nw ?_ ?_ | refine AppN.mk ?_ | (refine CallS.q ?_; (conv => whnf); first | refine CallG.plain rfl ?_ ?_ | refine CallG.mk rfl ?_ ?_) | (refine CallS.m ?_; (conv => whnf); refine CallM.mk rfl ?_ ?_) | (refine CallS.h ?_; (conv => whnf); refine CallM.mk rfl ?_ ?_) | (refine CallS.b ?_; (conv => whnf); refine CallM.mk rfl ?_ ?_) | (refine CallS.z ?_; (conv => whnf); refine CallM.mk rfl ?_ ?_))
              all_goals (try (conv => whnf))
              all_goals (try (exact Ob.mk (u8_bnd _)))
              all_goals (try (refine Ob.mk ?_; first | exact True.intro | assumption | omega | (try simp only [decide_eq_true_eq, decide_eq_false_iff_not, beq_iff_eq, beq_eq_false_iff_ne, bne_iff_ne, bne_eq_false_iff_eq, ne_eq, Bool.and_eq_true, Bool.or_eq_true, Bool.not_eq_true, Bool.not_eq_false, Bool.not_eq_true', Bool.not_eq_false', Int.toNat_natCast, Int.not_lt, Int.not_le, UInt8.ofNat_toNat, cast_eq] at *; omega)))
              all_goals (try ((show (_:Int) = _); omega))
              all_goals (try (show tupSV _ = _; with_unfolding_all rfl))
              all_goals (try ((show (_ : Nat) ≤ _); (simp <;> omega)))
              all_goals (try ((show (_ : Nat) ≤ _ ∧ (_ : Nat) ≤ _); (simp <;> omega)))
              all_goals (try ((show (_ : Int) ≤ _ ∧ (_ : Int) ≤ _ ∧ (_ : Int) ≤ _ ∧ (_ : Int) ≤ _); (simp <;> omega)))
              all_goals rfl
          all_goals (
            have hT : a.takeWhile (fun c => !spB c) = a.take k := by
              have h3 : (decide ((k : Int) < (a.length : Int)) && !W.isSp ((a.getD k 0).toNat : Int)) = false := ‹_›
              rw [k2]
              have : (a.drop k).takeWhile (fun c => !spB c) = [] := by
                rcases Nat.lt_or_ge k a.length with hl | hl
                · have hl' : decide ((k : Int) < (a.length : Int)) = true := decide_eq_true (by omega)
                  rw [hl', Bool.true_and] at h3
                  have e : a.getD k 0 = a[k] := by simp [List.getD, List.getElem?_eq_getElem hl]
                  rw [e] at h3
                  rw [drop_at a k hl, List.takeWhile_cons, if_neg (by show ¬ (!W.isSp (a[k].toNat : Int)) = true; rw [h3]; decide)]
                · rw [List.drop_eq_nil_of_le hl]; rfl
              rw [this, List.append_nil])
          all_goals (first | rfl | (rw [eN, hT]; done) | omega | (constructor <;> omega) | (rw [eU]; simp only [cond_false]; omega) | trace_state)
theorem begP_get {s p : List UInt8} : begP s p = true ↔ occ s p 0 := by
  unfold begP
  rw [Bool.and_eq_true, ← pre_iff, List.isPrefixOf_iff_prefix, List.prefix_iff_eq_take, beq_iff_eq]
  constructor
  · rintro ⟨_, h⟩; exact h.symm
  · intro h
    refine ⟨?_, h.symm⟩
    have := congrArg List.length h
    simp at this
    simp; omega
end Go.Vc

namespace Go.Vc
open Go.Proofs
set_option linter.unusedVariables false
set_option maxRecDepth 10000
set_option linter.unusedSimpArgs false
set_option maxHeartbeats 4000000
theorem beg2 (s : List UInt8) (a b : UInt8) : begP s [a, b] = true ↔ 2 ≤ s.length ∧ s.getD 0 0 = a ∧ s.getD 1 0 = b := by
  rw [begP_get]
  constructor
  · rintro ⟨h1, h2⟩
    have e0 := h2 0 (by simp)
    have e1 := h2 1 (by simp)
    exact ⟨by simpa using h1, by simpa using e0, by simpa using e1⟩
  · rintro ⟨h1, h2, h3⟩
    refine ⟨by simpa using h1, fun j hj => ?_⟩
    have : j = 0 ∨ j = 1 := by simp at hj; omega
    rcases this with rfl | rfl
    · simpa using h2
    · simpa using h3
theorem beg3 (s : List UInt8) (a b c : UInt8) : begP s [a, b, c] = true ↔ begP s [a, b] = true ∧ 3 ≤ s.length ∧ s.getD 2 0 = c := by
  rw [beg2, begP_get]
  constructor
  · rintro ⟨h1, h2⟩
    have e0 := h2 0 (by simp)
    have e1 := h2 1 (by simp)
    have e2 := h2 2 (by simp)
    simp at h1
    exact ⟨⟨by omega, by simpa using e0, by simpa using e1⟩, by omega, by simpa using e2⟩
  · rintro ⟨⟨h0, h2, h3⟩, h1, h4⟩
    refine ⟨by simpa using h1, fun j hj => ?_⟩
    have : j = 0 ∨ j = 1 ∨ j = 2 := by simp at hj; omega
    rcases this with rfl | rfl | rfl
    · simpa using h2
    · simpa using h3
    · simpa using h4
theorem beg_more {s p q : List UInt8} (h : begP s (p ++ q) = true) : begP s p = true := by
  rw [begP_get] at h ⊢
  refine ⟨by have := h.1; simp at this; omega, fun j hj => ?_⟩
  have := h.2 j (by simp; omega)
  rw [this]
  simp only [List.getD]
  rw [List.getElem?_append_left hj]
theorem b_iff (c k : UInt8) : ((c.toNat : Int) == (k.toNat : Int)) = (c == k) := by
  rw [Bool.eq_iff_iff, beq_iff_eq, beq_iff_eq]
  constructor
  · intro h; exact UInt8.toNat_inj.1 (by omega)
  · rintro rfl; rfl
theorem r0_iff (s : List UInt8) : r0 s = false ↔ 2 ≤ s.length ∧ s.getD 0 0 = 60 := by
  unfold r0
  have e : (((s.getD 0 0).toNat : Int) == 60) = (s.getD 0 0 == 60) := b_iff (s.getD 0 0) 60
  rw [Bool.or_eq_false_iff, bne, e, Bool.not_eq_false', beq_iff_eq, decide_eq_false_iff_not]
  constructor <;> (rintro ⟨a, b⟩; exact ⟨by omega, b⟩)
theorem rk33 (s : List UInt8) : rk s 33 = true ↔ s.getD 1 0 = 33 := by
  unfold rk; rw [show (((s.getD 1 0).toNat : Int) == 33) = (s.getD 1 0 == 33) from b_iff _ 33, beq_iff_eq]
theorem rk63 (s : List UInt8) : rk s 63 = true ↔ s.getD 1 0 = 63 := by
  unfold rk; rw [show (((s.getD 1 0).toNat : Int) == 63) = (s.getD 1 0 == 63) from b_iff _ 63, beq_iff_eq]
theorem rk47 (s : List UInt8) : rk s 47 = true ↔ s.getD 1 0 = 47 := by
  unfold rk; rw [show (((s.getD 1 0).toNat : Int) == 47) = (s.getD 1 0 == 47) from b_iff _ 47, beq_iff_eq]
theorem readP_bang {s : List UInt8} (f : Bool) (h : begP s [60, 33] = true) : readP s f = declP s f := by
  obtain ⟨h1, h2, h3⟩ := (beg2 s 60 33).1 h
  unfold readP
  rw [if_neg (by rw [(r0_iff s).2 ⟨h1, h2⟩]; decide), if_pos ((rk33 s).2 h3)]
theorem readP_ques {s : List UInt8} (f : Bool) (h : begP s [60, 63] = true) : readP s f = bogusP s 1 := by
  obtain ⟨h1, h2, h3⟩ := (beg2 s 60 63).1 h
  unfold readP
  rw [if_neg (by rw [(r0_iff s).2 ⟨h1, h2⟩]; decide), if_neg (by intro q; have := (rk33 s).1 q; rw [h3] at this; exact absurd this (by decide)), if_pos ((rk63 s).2 h3)]
theorem readP_slash {s : List UInt8} (f : Bool) (h : begP s [60, 47] = true) : readP s f = if r62 s = true then (0, [], [], 3, false) else if rAl s = true then bogusP s 2 else (0, [], [], 0, false) := by
  obtain ⟨h1, h2, h3⟩ := (beg2 s 60 47).1 h
  unfold readP
  rw [if_neg (by rw [(r0_iff s).2 ⟨h1, h2⟩]; decide), if_neg (by intro q; have := (rk33 s).1 q; rw [h3] at this; exact absurd this (by decide)), if_neg (by intro q; have := (rk63 s).1 q; rw [h3] at this; exact absurd this (by decide)), if_pos ((rk47 s).2 h3)]
theorem r62_iff {s : List UInt8} (h : begP s [60, 47] = true) : r62 s = begP s [60, 47, 62] := by
  rw [Bool.eq_iff_iff, beg3]
  unfold r62
  rw [Bool.and_eq_true, show (((s.getD 2 0).toNat : Int) == 62) = (s.getD 2 0 == 62) from b_iff _ 62]
  simp [h]
  omega
theorem readP_none {s : List UInt8} (f : Bool) (h1 : begP s [60, 33] = false) (h2 : begP s [60, 63] = false) (h3 : begP s [60, 47] = false) : readP s f = (0, [], [], 0, false) := by
  unfold readP
  by_cases h : r0 s = true
  · rw [if_pos h]
  · rw [if_neg h]
    have h0 := (r0_iff s).1 (by simpa using h)
    rw [if_neg, if_neg, if_neg]
    · intro q; have := (rk47 s).1 q; rw [(beg2 s 60 47).2 ⟨h0.1, h0.2, this⟩] at h3; cases h3
    · intro q; have := (rk63 s).1 q; rw [(beg2 s 60 63).2 ⟨h0.1, h0.2, this⟩] at h2; cases h2
    · intro q; have := (rk33 s).1 q; rw [(beg2 s 60 33).2 ⟨h0.1, h0.2, this⟩] at h1; cases h1
theorem take2_beg (s : List UInt8) (a b : UInt8) (h : 2 ≤ s.length) : (s.take 2 == [a, b]) = begP s [a, b] := by
  unfold begP
  rw [decide_eq_true (by simp; omega), Bool.true_and]; rfl
instance rRRead (s : List UInt8) (f : Bool) : Fn BB 25 [.str s, .bool f] (s.length ≤ 900000) (rkSV (readP s f)) := by
  refine Fn.intro (N := 92) [0, 1, 4, 5, 6, 7, 9, 28, 38, 42, 57, 64, 71, 85] [] Tryd.call25 Tryd.func25 rfl rfl (by kernel_rfl) (fun hpre => ?_)
  have e2 : (2 : Int).toNat = 2 := rfl
  have e4 : (4 : Int).toNat = 4 := rfl
  have e9 : (9 : Int).toNat = 9 := rfl
  have l4 : (s.drop 4).length ≤ s.length := by simp
  have eI : lowL [100, 111, 99, 116, 121, 112, 101] = [100, 111, 99, 116, 121, 112, 101] := by decide
  have t1 : begP s [60, 33, 45, 45] = true → begP s [60, 33] = true ∧ 4 ≤ s.length := fun h => ⟨beg_more (q := [45, 45]) h, by have := (begP_get.1 h).1; simpa using this⟩
  have t2 : begP s cdM = true → begP s [60, 33] = true ∧ 9 ≤ s.length := fun h => ⟨beg_more (q := [91, 67, 68, 65, 84, 65, 91]) h, by have := (begP_get.1 h).1; simpa using this⟩
  have t3 : begP s [60, 33] = true → 2 ≤ s.length := fun h => ((beg2 s _ _).1 h).1
  have t4 : begP s [60, 63] = true → 2 ≤ s.length := fun h => ((beg2 s _ _).1 h).1
  have v1 : begP s [60, 33, 45, 45] = true → readP s f = cm4 s := fun h => by
    rw [readP_bang f (t1 h).1]; unfold declP; rw [if_pos h]
  have hdoc : isDoc s = true → 9 ≤ s.length := fun h => by unfold isDoc at h; rw [Bool.and_eq_true] at h; have := of_decide_eq_true h.1; omega
  have cD : (decide ((s.length : Int) ≥ 9) && List.take (Int.toNat 2) s == [60, 33] && lowL (List.drop (Int.toNat 2) (List.take (Int.toNat 9) s)) == lowL [100, 111, 99, 116, 121, 112, 101]) = (begP s [60, 33] && isDoc s) := by
    rw [eI]
    unfold isDoc
    by_cases h : 9 ≤ s.length
    · have hd : decide ((s.length : Int) ≥ 9) = true := decide_eq_true (by omega)
      rw [hd, e2, e9, take2_beg s _ _ (by omega), Bool.true_and, Bool.true_and]
    · have hd : decide ((s.length : Int) ≥ 9) = false := decide_eq_false (by omega)
      rw [hd]; simp
  have v2 : begP s [60, 33, 45, 45] = false → (begP s [60, 33] && isDoc s) = true → readP s f = docP s ∧ 9 ≤ s.length := fun h h2 => by
    rw [Bool.and_eq_true] at h2
    refine ⟨?_, hdoc h2.2⟩
    rw [readP_bang f h2.1]; unfold declP; rw [if_neg (by rw [h]; decide), if_pos h2.2]
  have v3 : begP s [60, 33, 45, 45] = false → (begP s [60, 33] && isDoc s) = false → (f && begP s cdM) = true → readP s f = secP s ∧ 9 ≤ s.length := fun h h2 h3 => by
    have h4 : begP s cdM = true := by cases f <;> simp_all
    rw [(t2 h4).1, Bool.true_and] at h2
    refine ⟨?_, (t2 h4).2⟩
    rw [readP_bang f (t2 h4).1]; unfold declP; rw [if_neg (by rw [h]; decide), if_neg (by rw [h2]; decide), if_pos h3]
  have v4 : begP s [60, 33, 45, 45] = false → (begP s [60, 33] && isDoc s) = false → (f && begP s cdM) = false → begP s [60, 33] = true → readP s f = bogusP s 2 := fun h h2 h3 h4 => by
    rw [h4, Bool.true_and] at h2
    rw [readP_bang f h4]; unfold declP; rw [if_neg (by rw [h]; decide), if_neg (by rw [h2]; decide), if_neg (by rw [h3]; decide)]
  have v5 : begP s [60, 63] = true → readP s f = bogusP s 1 := readP_ques f
  have v6 : begP s [60, 47, 62] = true → readP s f = (0, [], [], 3, false) := fun h => by
    have h' := ((beg3 s _ _ _).1 h).1
    rw [readP_slash f h', if_pos (by rw [r62_iff h']; exact h)]
  have v7 : begP s [60, 47, 62] = false → (decide ((s.length : Int) > 2) && begP s [60, 47] && !alI ((s.getD (Int.toNat 2) 0).toNat : Int)) = true → readP s f = bogusP s 2 ∧ 2 ≤ s.length := fun h h2 => by
    simp only [Bool.and_eq_true] at h2
    obtain ⟨⟨a, b⟩, c⟩ := h2
    have a' := of_decide_eq_true a
    refine ⟨?_, by omega⟩
    rw [readP_slash f b, if_neg (by rw [r62_iff b, h]; decide), if_pos (by unfold rAl; rw [a, Bool.true_and]; exact c)]
  have v8 : begP s [60, 33] = false → begP s [60, 63] = false → begP s [60, 47, 62] = false → (decide ((s.length : Int) > 2) && begP s [60, 47] && !alI ((s.getD (Int.toNat 2) 0).toNat : Int)) = false → readP s f = (0, [], [], 0, false) := fun h1 h2 h3 h4 => by
    by_cases b : begP s [60, 47] = true
    · rw [readP_slash f b, if_neg (by rw [r62_iff b, h3]; decide), if_neg]
      intro q
      unfold rAl at q
      rw [Bool.and_eq_true] at q
      rw [q.1, b, Bool.true_and, Bool.true_and] at h4
      have := q.2
      rw [show (2 : Int).toNat = 2 from rfl] at h4
      rw [h4] at this; cases this
    · exact readP_none f h1 h2 (by simpa using b)
  have lF := fnd_le (s.drop 9) mC
  rw [List.length_drop] at lF
  have lF' : fnd (s.drop 9) [93, 93, 62] ≤ s.length - 9 := lF
  have sF := fd_spec (s.drop 9) mC (by decide)
  have uF : 9 ≤ s.length → uN (s.drop 9) mC = min (fnd (s.drop 9) mC + 3) (s.length - 9) := fun h => by
    rw [List.length_drop] at sF
    have z : mC.length = 3 := rfl
    cases q : fdB (s.drop 9) mC
    · have := sF.2 q; omega
    · have := sF.1 q; omega
  have w0 : (((9 + fnd (s.drop 9) mC : Nat) : Int) == 9) = decide (fnd (s.drop 9) mC = 0) := by
    rw [Bool.eq_iff_iff, beq_iff_eq, decide_eq_true_eq]; omega
  have w1 : 9 ≤ s.length → decide (fnd (s.drop 9) mC = 0) = true → secP s = (0, [], [], min 12 (s.length : Int), false) := fun h h2 => by
    have h2 := of_decide_eq_true h2
    have e : secD s = [] := by unfold secD; rw [h2]; rfl
    unfold secP
    rw [if_pos e, uF h, h2]
    congr 4
    omega
  have w2 : 9 ≤ s.length → decide (fnd (s.drop 9) mC = 0) = false → secP s = (3, [], (s.take (9 + fnd (s.drop 9) mC)).drop 9, min (((9 + fnd (s.drop 9) mC : Nat) : Int) + 3) (s.length : Int), true) := fun h h2 => by
    have h2 := of_decide_eq_false h2
    have e : secD s ≠ [] := by
      unfold secD
      intro q
      have := congrArg List.length q
      rw [List.length_take, List.length_drop] at this
      simp at this
      omega
    have e3 : (s.take (9 + fnd (s.drop 9) mC)).drop 9 = secD s := by unfold secD; rw [List.drop_take]; congr 1; omega
    unfold secP
    rw [if_neg e, uF h, e3]
    congr 4
    omega
  repeat' ((conv => whnf); first | (with_reducible rfl) | exact True.intro | (with_reducible exact absTF) | (with_reducible exact absFT) | intro _ | refine And.intro ?_ ?_ | refine Fin.mk ?_ | refine CallG.plain rfl ?_ ?_ | refine CallG.mk rfl ?_ ?_ | refine CallG.nwl rfl ?_ ?_ | refine CallG.nw ?_ ?_ | refine CallF.nwl rfl ?_ ?_ | refine CallF.nw ?_ ?_ | refine AppN.mk ?_ | (refine CallS.q ?_; (conv => whnf); first | refine CallG.plain rfl ?_ ?_ | refine CallG.mk rfl ?_ ?_) | (refine CallS.m ?_; (conv => whnf); refine CallM.mk rfl ?_ ?_) | (refine CallS.h ?_; (conv => whnf); refine CallM.mk rfl ?_ ?_) | (refine CallS.b ?_; (conv => whnf); refine CallM.mk rfl ?_ ?_) | (refine CallS.z ?_; (conv => whnf); refine CallM.mk rfl ?_ ?_))
  all_goals (try (conv => whnf))
  all_goals (try (exact Ob.mk (u8_bnd _)))
  all_goals (try (refine Ob.mk ?_; first | exact True.intro | assumption | omega | (try simp only [decide_eq_true_eq, decide_eq_false_iff_not, beq_iff_eq, beq_eq_false_iff_ne, bne_iff_ne, bne_eq_false_iff_eq, ne_eq, Bool.and_eq_true, Bool.or_eq_true, Bool.not_eq_true, Bool.not_eq_false, Bool.not_eq_true', Bool.not_eq_false', Int.toNat_natCast, Int.not_lt, Int.not_le, UInt8.ofNat_toNat, cast_eq] at *; omega)))
  all_goals (try ((show (_:Int) = _); omega))
  all_goals (try (show tupSV _ = _; with_unfolding_all rfl))
  all_goals (try ((show (_ : Nat) ≤ _); (simp <;> omega)))
  all_goals (try ((show (_ : Nat) ≤ _ ∧ (_ : Nat) ≤ _); (simp <;> omega)))
  all_goals (try ((show (_ : Int) ≤ _ ∧ (_ : Int) ≤ _ ∧ (_ : Int) ≤ _ ∧ (_ : Int) ≤ _); (simp <;> omega)))
  all_goals (try simp only [cD] at *)
  all_goals (try simp only [e9, Int.toNat_natCast, w0] at *)
  all_goals (try (have y := v1 ‹begP s [60, 33, 45, 45] = true›; have y4 := (t1 ‹begP s [60, 33, 45, 45] = true›).2))
  all_goals (try (have yz := v2 ‹_› ‹_›; have y := yz.1; have z := yz.2))
  all_goals (try (have yz := v3 ‹_› ‹_› ‹_›; have y0 := yz.1; have z := yz.2))
  all_goals (try (have y := y0.trans (w1 z ‹_›)))
  all_goals (try (have y := y0.trans (w2 z ‹_›)))
  all_goals (try (have y := v4 ‹_› ‹_› ‹_› ‹_›; have z := t3 ‹_›))
  all_goals (try (have y := v5 ‹_›; have z := t4 ‹_›))
  all_goals (try (have y := v6 ‹_›))
  all_goals (try (have yz := v7 ‹_› ‹_›; have y := yz.1; have z := yz.2))
  all_goals (try (have y := v8 ‹_› ‹_› ‹_› ‹_›))
  all_goals (first | omega | (rw [y]; done) | (rw [y]; rfl) | exact ⟨by omega, by omega, by decide, by decide, by omega⟩ | exact ⟨by omega, by omega⟩ | (constructor <;> omega) | exact ⟨by omega, by omega, by omega⟩ | exact u8_bnd _ | trace_state)
end Go.Vc

namespace Go.Vc
open Go.Proofs
set_option linter.unusedVariables false
set_option maxRecDepth 10000
set_option linter.unusedSimpArgs false
set_option maxHeartbeats 4000000
instance rS7 : Fn BB 38 [.nils, .nils] True (.bool true) := by
  refine Fn.intro (N := 26) [0, 1, 4, 5, 10, 14, 25] [(6, [0, 0, 1, 1, 0, 0, 1, 1, 3])] Tryd.call38 Tryd.func38 rfl rfl (by kernel_rfl) (fun hpre => ?_)
  repeat' ((conv => whnf); first | (with_reducible rfl) | exact True.intro | (with_reducible exact absTF) | (with_reducible exact absFT) | intro _ | refine And.intro ?_ ?_ | refine Fin.mk ?_ | refine CallG.plain rfl ?_ ?_ | refine CallG.mk rfl ?_ ?_ | refine CallG.nwl rfl ?_ ?_ | refine CallG.nw ?_ ?_ | refine CallF.nwl rfl ?_ ?_ | refine CallF.nw ?_ ?_ | refine AppN.mk ?_ | (refine CallS.q ?_; (conv => whnf); first | refine CallG.plain rfl ?_ ?_ | refine CallG.mk rfl ?_ ?_) | (refine CallS.m ?_; (conv => whnf); refine CallM.mk rfl ?_ ?_) | (refine CallS.h ?_; (conv => whnf); refine CallM.mk rfl ?_ ?_) | (refine CallS.b ?_; (conv => whnf); refine CallM.mk rfl ?_ ?_) | (refine CallS.z ?_; (conv => whnf); refine CallM.mk rfl ?_ ?_))
  all_goals (try (conv => whnf))
  all_goals (try (exact Ob.mk (u8_bnd _)))
  all_goals (try (refine Ob.mk ?_; first | exact True.intro | assumption | omega | (try simp only [decide_eq_true_eq, decide_eq_false_iff_not, beq_iff_eq, beq_eq_false_iff_ne, bne_iff_ne, bne_eq_false_iff_eq, ne_eq, Bool.and_eq_true, Bool.or_eq_true, Bool.not_eq_true, Bool.not_eq_false, Bool.not_eq_true', Bool.not_eq_false', Int.toNat_natCast, Int.not_lt, Int.not_le, UInt8.ofNat_toNat, cast_eq] at *; omega)))
  all_goals (try ((show (_:Int) = _); omega))
  all_goals (try (show tupSV _ = _; with_unfolding_all rfl))
  all_goals (try ((show (_ : Nat) ≤ _); (simp <;> omega)))
  all_goals (try ((show (_ : Nat) ≤ _ ∧ (_ : Nat) ≤ _); (simp <;> omega)))
  all_goals (try ((show (_ : Int) ≤ _ ∧ (_ : Int) ≤ _ ∧ (_ : Int) ≤ _ ∧ (_ : Int) ≤ _); (simp <;> omega)))
  · exact absurd ‹((0 : Int) != 0) = true› (by decide)
  · refine LoopStop.mk (α := Unit) (fun i => [(5, .int .i64 0)]) (fun i => []) 20 (fun i => True) (fun i => 0) () True.intro ?_ (fun i hi => ?_)
    · repeat' ((conv => whnf); first | (with_reducible rfl) | exact True.intro | (with_reducible exact absTF) | (with_reducible exact absFT) | intro _ | refine And.intro ?_ ?_ | refine Fin.mk ?_ | refine CallG.plain rfl ?_ ?_ | refine CallG.mk rfl ?_ ?_ | refine CallG.nwl rfl ?_ ?_ | refine CallG.nw ?_ ?_ | refine CallF.nwl rfl ?_ ?_ | refine CallF.nw ?_ ?_ | refine AppN.mk ?_ | (refine CallS.q ?_; (conv => whnf); first | refine CallG.plain rfl ?_ ?_ | refine CallG.mk rfl ?_ ?_) | (refine CallS.m ?_; (conv => whnf); refine CallM.mk rfl ?_ ?_) | (refine CallS.h ?_; (conv => whnf); refine CallM.mk rfl ?_ ?_) | (refine CallS.b ?_; (conv => whnf); refine CallM.mk rfl ?_ ?_) | (refine CallS.z ?_; (conv => whnf); refine CallM.mk rfl ?_ ?_))
      all_goals (try (conv => whnf))
      all_goals (try (exact Ob.mk (u8_bnd _)))
      all_goals (try (refine Ob.mk ?_; first | exact True.intro | assumption | omega | (try simp only [decide_eq_true_eq, decide_eq_false_iff_not, beq_iff_eq, beq_eq_false_iff_ne, bne_iff_ne, bne_eq_false_iff_eq, ne_eq, Bool.and_eq_true, Bool.or_eq_true, Bool.not_eq_true, Bool.not_eq_false, Bool.not_eq_true', Bool.not_eq_false', Int.toNat_natCast, Int.not_lt, Int.not_le, UInt8.ofNat_toNat, cast_eq] at *; omega)))
      all_goals (try ((show (_:Int) = _); omega))
      all_goals (try (show tupSV _ = _; with_unfolding_all rfl))
      all_goals (try ((show (_ : Nat) ≤ _); (simp <;> omega)))
      all_goals (try ((show (_ : Nat) ≤ _ ∧ (_ : Nat) ≤ _); (simp <;> omega)))
      all_goals (try ((show (_ : Int) ≤ _ ∧ (_ : Int) ≤ _ ∧ (_ : Int) ≤ _ ∧ (_ : Int) ≤ _); (simp <;> omega)))
      all_goals rfl
    · repeat' ((conv => whnf); first | (with_reducible rfl) | exact True.intro | (with_reducible exact absTF) | (with_reducible exact absFT) | intro _ | refine And.intro ?_ ?_ | refine Fin.mk ?_ | refine CallG.plain rfl ?_ ?_ | refine CallG.mk rfl ?_ ?_ | refine CallG.nwl rfl ?_ ?_ | refine CallG.nw ?_ ?_ | refine CallF.nwl rfl ?_ ?_ | refine CallF.nw ?_ ?_ | refine AppN.mk ?_ | (refine CallS.q ?_; (conv => whnf); first | refine CallG.plain rfl ?_ ?_ | refine CallG.mk rfl ?_ ?_) | (refine CallS.m ?_; (conv => whnf); refine CallM.mk rfl ?_ ?_) | (refine CallS.h ?_; (conv => whnf); refine CallM.mk rfl ?_ ?_) | (refine CallS.b ?_; (conv => whnf); refine CallM.mk rfl ?_ ?_) | (refine CallS.z ?_; (conv => whnf); refine CallM.mk rfl ?_ ?_))
      all_goals (try (conv => whnf))
      all_goals (try (exact Ob.mk (u8_bnd _)))
      all_goals (try (refine Ob.mk ?_; first | exact True.intro | assumption | omega | (try simp only [decide_eq_true_eq, decide_eq_false_iff_not, beq_iff_eq, beq_eq_false_iff_ne, bne_iff_ne, bne_eq_false_iff_eq, ne_eq, Bool.and_eq_true, Bool.or_eq_true, Bool.not_eq_true, Bool.not_eq_false, Bool.not_eq_true', Bool.not_eq_false', Int.toNat_natCast, Int.not_lt, Int.not_le, UInt8.ofNat_toNat, cast_eq] at *; omega)))
      all_goals (try ((show (_:Int) = _); omega))
      all_goals (try (show tupSV _ = _; with_unfolding_all rfl))
      all_goals (try ((show (_ : Nat) ≤ _); (simp <;> omega)))
      all_goals (try ((show (_ : Nat) ≤ _ ∧ (_ : Nat) ≤ _); (simp <;> omega)))
      all_goals (try ((show (_ : Int) ≤ _ ∧ (_ : Int) ≤ _ ∧ (_ : Int) ≤ _ ∧ (_ : Int) ≤ _); (simp <;> omega)))
      all_goals (first | (exfalso; exact absurd ‹decide ((0 : Int) < 0) = true› (by decide)) | rfl | trace_state)
instance rS8 (k k' : Int) (n n' d d' : List UInt8) : Fn BB 26 [.agg [.int .i64 k, .str n, .nils, .bool false, .str d], .agg [.int .i64 k', .str n', .nils, .bool false, .str d']] True (.bool (k == k' && n == n' && d == d')) := by
  refine Fn.intro (N := 38) [0, 1, 2, 3, 4] [] Tryd.call26 Tryd.func26 rfl rfl (by kernel_rfl) (fun hpre => ?_)
  repeat' ((conv => whnf); first | (with_reducible rfl) | exact True.intro | (with_reducible exact absTF) | (with_reducible exact absFT) | intro _ | refine And.intro ?_ ?_ | refine Fin.mk ?_ | refine CallG.plain rfl ?_ ?_ | refine CallG.mk rfl ?_ ?_ | refine CallG.nwl rfl ?_ ?_ | refine CallG.nw ?_ ?_ | refine CallF.nwl rfl ?_ ?_ | refine CallF.nw ?_ ?_ | refine AppN.mk ?_ | (refine CallS.q ?_; (conv => whnf); first | refine CallG.plain rfl ?_ ?_ | refine CallG.mk rfl ?_ ?_) | (refine CallS.m ?_; (conv => whnf); refine CallM.mk rfl ?_ ?_) | (refine CallS.h ?_; (conv => whnf); refine CallM.mk rfl ?_ ?_) | (refine CallS.b ?_; (conv => whnf); refine CallM.mk rfl ?_ ?_) | (refine CallS.z ?_; (conv => whnf); refine CallM.mk rfl ?_ ?_))
  all_goals (try (conv => whnf))
  all_goals (try (exact Ob.mk (u8_bnd _)))
  all_goals (try (refine Ob.mk ?_; first | exact True.intro | assumption | omega | (try simp only [decide_eq_true_eq, decide_eq_false_iff_not, beq_iff_eq, beq_eq_false_iff_ne, bne_iff_ne, bne_eq_false_iff_eq, ne_eq, Bool.and_eq_true, Bool.or_eq_true, Bool.not_eq_true, Bool.not_eq_false, Bool.not_eq_true', Bool.not_eq_false', Int.toNat_natCast, Int.not_lt, Int.not_le, UInt8.ofNat_toNat, cast_eq] at *; omega)))
  all_goals (try ((show (_:Int) = _); omega))
  all_goals (try (show tupSV _ = _; with_unfolding_all rfl))
  all_goals (try ((show (_ : Nat) ≤ _); (simp <;> omega)))
  all_goals (try ((show (_ : Nat) ≤ _ ∧ (_ : Nat) ≤ _); (simp <;> omega)))
  all_goals (try ((show (_ : Int) ≤ _ ∧ (_ : Int) ≤ _ ∧ (_ : Int) ≤ _ ∧ (_ : Int) ≤ _); (simp <;> omega)))
  all_goals (rw [Bool.and_true]; rw [show (false == false) = true from rfl, Bool.and_true])
instance rAwake : Fn BB 23 [] True (.bool true) := by
  refine Fn.intro (N := 64) [0, 1, 2, 3, 4, 5, 6, 7, 8, 9] [] Tryd.call23 Tryd.func23 rfl rfl (by kernel_rfl) (fun hpre => ?_)
  repeat' ((conv => whnf); first | (with_reducible rfl) | exact True.intro | (with_reducible exact absTF) | (with_reducible exact absFT) | intro _ | refine And.intro ?_ ?_ | refine Fin.mk ?_ | refine CallG.plain rfl ?_ ?_ | refine CallG.mk rfl ?_ ?_ | refine CallG.nwl rfl ?_ ?_ | refine CallG.nw ?_ ?_ | refine CallF.nwl rfl ?_ ?_ | refine CallF.nw ?_ ?_ | refine AppN.mk ?_ | (refine CallS.q ?_; (conv => whnf); first | refine CallG.plain rfl ?_ ?_ | refine CallG.mk rfl ?_ ?_) | (refine CallS.m ?_; (conv => whnf); refine CallM.mk rfl ?_ ?_) | (refine CallS.h ?_; (conv => whnf); refine CallM.mk rfl ?_ ?_) | (refine CallS.b ?_; (conv => whnf); refine CallM.mk rfl ?_ ?_) | (refine CallS.z ?_; (conv => whnf); refine CallM.mk rfl ?_ ?_))
  all_goals (try (conv => whnf))
  all_goals (try (exact Ob.mk (u8_bnd _)))
  all_goals (try (refine Ob.mk ?_; first | exact True.intro | assumption | omega | (try simp only [decide_eq_true_eq, decide_eq_false_iff_not, beq_iff_eq, beq_eq_false_iff_ne, bne_iff_ne, bne_eq_false_iff_eq, ne_eq, Bool.and_eq_true, Bool.or_eq_true, Bool.not_eq_true, Bool.not_eq_false, Bool.not_eq_true', Bool.not_eq_false', Int.toNat_natCast, Int.not_lt, Int.not_le, UInt8.ofNat_toNat, cast_eq] at *; omega)))
  all_goals (try ((show (_:Int) = _); omega))
  all_goals (try (show tupSV _ = _; with_unfolding_all rfl))
  all_goals (try ((show (_ : Nat) ≤ _); (simp <;> omega)))
  all_goals (try ((show (_ : Nat) ≤ _ ∧ (_ : Nat) ≤ _); (simp <;> omega)))
  all_goals (try ((show (_ : Int) ≤ _ ∧ (_ : Int) ≤ _ ∧ (_ : Int) ≤ _ ∧ (_ : Int) ≤ _); (simp <;> omega)))
  all_goals (first | decide +kernel | trace_state)
instance rReads (s : List UInt8) (f : Bool) : Fn BB 5 [.str s, .bool f] True (.bool true) := by
  refine Fn.intro (N := 45) [0, 1, 4, 5, 6, 7, 8, 9, 10, 13] [] Tryd.call5 Tryd.func5 rfl rfl (by kernel_rfl) (fun hpre => ?_)
  repeat' ((conv => whnf); first | (with_reducible rfl) | exact True.intro | (with_reducible exact absTF) | (with_reducible exact absFT) | intro _ | refine And.intro ?_ ?_ | refine Fin.mk ?_ | refine CallG.plain rfl ?_ ?_ | refine CallG.mk rfl ?_ ?_ | refine CallG.nwl rfl ?_ ?_ | refine CallG.nw ?_ ?_ | refine CallF.nwl rfl ?_ ?_ | refine CallF.nw ?_ ?_ | refine AppN.mk ?_ | (refine CallS.q ?_; (conv => whnf); first | refine CallG.plain rfl ?_ ?_ | refine CallG.mk rfl ?_ ?_) | (refine CallS.m ?_; (conv => whnf); refine CallM.mk rfl ?_ ?_) | (refine CallS.h ?_; (conv => whnf); refine CallM.mk rfl ?_ ?_) | (refine CallS.b ?_; (conv => whnf); refine CallM.mk rfl ?_ ?_) | (refine CallS.z ?_; (conv => whnf); refine CallM.mk rfl ?_ ?_))
  all_goals (try (conv => whnf))
  all_goals (try (exact Ob.mk (u8_bnd _)))
  all_goals (try (refine Ob.mk ?_; first | exact True.intro | assumption | omega | (try simp only [decide_eq_true_eq, decide_eq_false_iff_not, beq_iff_eq, beq_eq_false_iff_ne, bne_iff_ne, bne_eq_false_iff_eq, ne_eq, Bool.and_eq_true, Bool.or_eq_true, Bool.not_eq_true, Bool.not_eq_false, Bool.not_eq_true', Bool.not_eq_false', Int.toNat_natCast, Int.not_lt, Int.not_le, UInt8.ofNat_toNat, cast_eq] at *; omega)))
  all_goals (try ((show (_:Int) = _); omega))
  all_goals (try (show tupSV _ = _; with_unfolding_all rfl))
  all_goals (try ((show (_ : Nat) ≤ _); (simp <;> omega)))
  all_goals (try ((show (_ : Nat) ≤ _ ∧ (_ : Nat) ≤ _); (simp <;> omega)))
  all_goals (try ((show (_ : Int) ≤ _ ∧ (_ : Int) ≤ _ ∧ (_ : Int) ≤ _ ∧ (_ : Int) ≤ _); (simp <;> omega)))
  all_goals simp
end Go.Vc

namespace Go.Vc
open Go.Proofs
set_option linter.unusedVariables false
set_option maxRecDepth 10000
set_option linter.unusedSimpArgs false
set_option maxHeartbeats 4000000
theorem cut_get {s : List UInt8} {n j : Nat} (more : List UInt8) (h : j < n) (hn : n ≤ s.length) : (s.take n ++ more).getD j 0 = s.getD j 0 := by
  simp only [List.getD]
  rw [List.getElem?_append_left (by rw [List.length_take]; omega), List.getElem?_take_of_lt h]
theorem cut_drop {s : List UInt8} {n k : Nat} (more : List UInt8) (h : k ≤ n) (hn : n ≤ s.length) : (s.take n ++ more).drop k = (s.drop k).take (n - k) ++ more := by
  rw [List.drop_append_of_le_length (by rw [List.length_take]; omega), List.drop_take]
theorem cut_take {s : List UInt8} {n k : Nat} (more : List UInt8) (h : k ≤ n) (hn : n ≤ s.length) : (s.take n ++ more).take k = s.take k := by
  rw [List.take_append_of_le_length (by rw [List.length_take]; omega), List.take_take, Nat.min_eq_left h]
theorem cut_len {s : List UInt8} {n : Nat} (more : List UInt8) (hn : n ≤ s.length) : (s.take n ++ more).length = n + more.length := by
  rw [List.length_append, List.length_take]; omega
theorem cut_beg {s p : List UInt8} {n : Nat} (more : List UInt8) (h : p.length ≤ n) (hn : n ≤ s.length) : begP (s.take n ++ more) p = begP s p := by
  rw [Bool.eq_iff_iff, begP_get, begP_get, occ_take hn rfl more (by omega)]
/-- what needs more bytes than there are up to a > -/
theorem beg_no {s p : List UInt8} {n : Nat} (h1 : 1 ≤ n) (h : n < p.length) (hs : s.getD (n - 1) 0 = 62) (hp : ∀ j, j + 1 < p.length → p.getD j 0 ≠ 62) : begP s p = false := by
  rw [Bool.eq_false_iff]
  intro q
  have := (begP_get.1 q).2 (n - 1) (by omega)
  rw [Nat.zero_add, hs] at this
  exact hp (n - 1) (by omega) this.symm
theorem found_one {l : List UInt8} (j : Nat) (hj : j < l.length) (h : l.getD j 0 = 62) : fnd l [62] + 1 ≤ l.length := by
  have ho : occ l [62] j := ⟨by simp; omega, fun k hk => by
    have : k = 0 := by simp at hk; omega
    subst this; simpa using h⟩
  have := fnd_of_occ l [62] j ho
  omega
theorem fnd_one {l : List UInt8} (h : fnd l [62] + 1 ≤ l.length) : l.getD (fnd l [62]) 0 = 62 := by
  have := (fnd_occ l [62] (by omega)).2 0 (by simp)
  simpa using this
theorem uN_found {l p : List UInt8} (h : fnd l p + p.length ≤ l.length) : uN l p = fnd l p + p.length := by unfold uN; rw [if_pos h]
theorem bogus_cut {s : List UInt8} {k : Nat} (more : List UInt8) (hk : k ≤ s.length) (hf : fnd (s.drop k) [62] + 1 ≤ (s.drop k).length) : bogusP (s.take (k + fnd (s.drop k) [62] + 1) ++ more) k = bogusP s k := by
  rw [List.length_drop] at hf
  have e : (s.take (k + fnd (s.drop k) [62] + 1) ++ more).drop k = (s.drop k).take (fnd (s.drop k) [62] + 1) ++ more := by
    rw [cut_drop more (by omega) (by omega)]; congr 2; omega
  have hl : fnd (s.drop k) [62] + 1 ≤ (s.drop k).length := by rw [List.length_drop]; omega
  have e2 := fnd_take (s.drop k) [62] (fnd (s.drop k) [62] + 1) hl more (by simp) (by simp)
  unfold bogusP
  rw [e, e2, cut_take more (by omega) hl]
  congr 4
  unfold uN
  rw [e2, if_pos (by rw [cut_len more hl]; simp), if_pos (by simpa using hl)]
theorem bogus_n {s : List UInt8} {k : Nat} (hf : fnd (s.drop k) [62] + 1 ≤ (s.drop k).length) : (bogusP s k).2.2.2.1 = ((k + fnd (s.drop k) [62] + 1 : Nat) : Int) := by
  unfold bogusP uN
  simp only
  rw [if_pos (by simpa using hf)]; simp; omega
/-- a comment, cut behind its end -/
theorem com_cut (r more : List UInt8) : (∃ n : Nat, (comP r).2.2.2.1 = n ∧ n ≤ r.length ∧ 1 ≤ n ∧ r.getD (n - 1) 0 = 62 ∧ comP (r.take n ++ more) = comP r) ∨ ((comP r).2.2.2.1 = r.length ∧ (1 ≤ r.length → r.getD (r.length - 1) 0 = 62 → (r.length : Int) ≤ (comP (r ++ more)).2.2.2.1)) := by
  have lA := fnd_le r mA
  have lB := fnd_le r mB
  have fA := fd_spec r mA (by decide)
  have fB := fd_spec r mB (by decide)
  have zA : mA.length = 3 := rfl
  have zB : mB.length = 4 := rfl
  cases h1 : begP r [62]
  · cases h2 : begP r [45, 62]
    · by_cases h3 : fdB r mA = false ∧ fdB r mB = false
      · right
        have e := com3 h1 h2 h3.1 h3.2
        rw [e]
        refine ⟨rfl, fun hl hlast => ?_⟩
        have er : r.take r.length ++ more = r ++ more := by rw [List.take_length]
        have hl2 : 2 ≤ r.length := by
          rcases Nat.lt_or_ge 1 r.length with q | q
          · exact q
          · exfalso
            have hr1 : r.length = 1 := by omega
            rw [hr1] at hlast
            have : begP r [62] = true := begP_get.2 ⟨by simp; omega, fun j hj => by
              have : j = 0 := by simp at hj; omega
              subst this; simpa using hlast⟩
            rw [h1] at this; cases this
        have b1 : begP (r ++ more) [62] = false := by rw [← er, cut_beg more (by simp; omega) (Nat.le_refl _), h1]
        have b2 : begP (r ++ more) [45, 62] = false := by rw [← er, cut_beg more (by simp; omega) (Nat.le_refl _), h2]
        have nA : ¬ fnd r mA + mA.length ≤ r.length := of_decide_eq_false h3.1
        have nB : ¬ fnd r mB + mB.length ≤ r.length := of_decide_eq_false h3.2
        have mA' := fnd_more r mA more nA (by decide)
        have mB' := fnd_more r mB more nB (by decide)
        by_cases h4 : fdB (r ++ more) mA = false ∧ fdB (r ++ more) mB = false
        · rw [com3 b1 b2 h4.1 h4.2]; simp only [List.length_append]; omega
        · have hor : fdB (r ++ more) mA = true ∨ fdB (r ++ more) mB = true := by
            cases q1 : fdB (r ++ more) mA <;> cases q2 : fdB (r ++ more) mB <;> simp_all
          by_cases h5 : fnd (r ++ more) mB < fnd (r ++ more) mA
          · rw [com4 b1 b2 hor h5]; simp only; omega
          · rw [com5 b1 b2 hor h5]; simp only; omega
      · left
        have hor : fdB r mA = true ∨ fdB r mB = true := by
          cases q1 : fdB r mA <;> cases q2 : fdB r mB <;> simp_all
        by_cases hl : fnd r mB < fnd r mA
        · have hB : fdB r mB = true := by
            cases q : fdB r mB with
            | true => rfl
            | false => have := (fB.2 q).1; omega
          have hB' := (fB.1 hB).2
          have e := com4 h1 h2 hor hl
          have oB := fnd_occ r mB (by omega)
          have tk : fnd (r.take (fnd r mB + 4) ++ more) mB = fnd r mB := fnd_take r mB _ (by omega) more (by decide) (by omega)
          have hB2 : fdB (r.take (fnd r mB + 4) ++ more) mB = true := by
            unfold fdB; rw [tk, cut_len more (by omega)]; exact decide_eq_true (by omega)
          have tA : fnd r mB < fnd (r.take (fnd r mB + 4) ++ more) mA := by
            rcases Nat.lt_or_ge (fnd r mB) (fnd (r.take (fnd r mB + 4) ++ more) mA) with q | q
            · exact q
            · exfalso
              have ho := fnd_occ (r.take (fnd r mB + 4) ++ more) mA (by rw [cut_len more (by omega)]; omega)
              have := (occ_take (l := r) (n := fnd r mB + 4) (by omega) rfl more (by omega)).1 ho
              have := fnd_of_occ r mA _ this
              omega
          refine ⟨fnd r mB + 4, by rw [e], by omega, by omega, ?_, ?_⟩
          · have := oB.2 3 (by decide)
            rw [show fnd r mB + 4 - 1 = fnd r mB + 3 by omega, this]; rfl
          · rw [com4 (by rw [cut_beg more (by simp) (by omega), h1]) (by rw [cut_beg more (by simp) (by omega), h2]) (.inr hB2) (by rw [tk]; exact tA), e, tk, cut_take more (by omega) (by omega)]
        · have hA : fdB r mA = true := by
            cases q : fdB r mA with
            | true => rfl
            | false =>
              have := (fA.2 q).1
              rcases hor with h | h
              · rw [q] at h; cases h
              · have := (fB.1 h).2; omega
          have hA' := (fA.1 hA).2
          have e := com5 h1 h2 hor hl
          have oA := fnd_occ r mA (by omega)
          have tk : fnd (r.take (fnd r mA + 3) ++ more) mA = fnd r mA := fnd_take r mA _ (by omega) more (by decide) (by omega)
          have hA2 : fdB (r.take (fnd r mA + 3) ++ more) mA = true := by
            unfold fdB; rw [tk, cut_len more (by omega)]; exact decide_eq_true (by omega)
          have tB : ¬ fnd (r.take (fnd r mA + 3) ++ more) mB < fnd r mA := by
            intro q
            have ho := fnd_occ (r.take (fnd r mA + 3) ++ more) mB (by rw [cut_len more (by omega)]; omega)
            have := (occ_take (l := r) (n := fnd r mA + 3) (by omega) rfl more (by omega)).1 ho
            have := fnd_of_occ r mB _ this
            omega
          refine ⟨fnd r mA + 3, by rw [e], by omega, by omega, ?_, ?_⟩
          · have := oA.2 2 (by decide)
            rw [show fnd r mA + 3 - 1 = fnd r mA + 2 by omega, this]; rfl
          · rw [com5 (by rw [cut_beg more (by simp) (by omega), h1]) (by rw [cut_beg more (by simp) (by omega), h2]) (.inl hA2) (by rw [tk]; exact tB), e, tk, cut_take more (by omega) (by omega)]
    · left
      have ho := begP_get.1 h2
      have hl : 2 ≤ r.length := by simpa using ho.1
      have h62 := ho.2 1 (by decide)
      refine ⟨2, by rw [com2 h1 h2]; rfl, hl, by omega, by simpa using h62, ?_⟩
      rw [com2 h1 h2, com2 (by rw [cut_beg more (by simp) hl, h1]) (by rw [cut_beg more (by simp) hl, h2])]
  · left
    have ho := begP_get.1 h1
    have hl : 1 ≤ r.length := by simpa using ho.1
    have h62 := ho.2 0 (by decide)
    refine ⟨1, by rw [com1 h1]; rfl, hl, by omega, by simpa using h62, ?_⟩
    rw [com1 h1, com1 (by rw [cut_beg more (by simp) hl, h1])]
/-- what is read, cut behind its end -/
def CutOk (s more : List UInt8) (f : Bool) : Prop :=
  ((readP s f).2.2.2.1 = 0 ∧ (readP s f).2.2.2.2 = false) ∨
  ∃ n : Nat, (readP s f).2.2.2.1 = n ∧ 1 ≤ n ∧ n ≤ s.length ∧ (n < s.length → s.getD (n - 1) 0 = 62) ∧ (s.getD (n - 1) 0 = 62 → (readP (s.take n ++ more) f = readP s f ∨ (n = s.length ∧ (n : Int) ≤ (readP (s.take n ++ more) f).2.2.2.1)))
theorem last_of {s : List UInt8} {k : Nat} (h : k + uN (s.drop k) [62] < s.length) : s.getD (k + uN (s.drop k) [62] - 1) 0 = 62 := by
  have sp := fd_spec (s.drop k) [62] (by simp)
  rw [List.length_drop] at sp
  have hf : fdB (s.drop k) [62] = true := by
    cases q : fdB (s.drop k) [62] with
    | true => rfl
    | false => have := (sp.2 q).2; omega
  have h1 := (sp.1 hf)
  have h2 := fnd_one (l := s.drop k) (by rw [List.length_drop]; simpa using h1.2)
  have h3 : uN (s.drop k) [62] = fnd (s.drop k) [62] + 1 := h1.1
  refine Eq.trans ?_ h2
  simp only [List.getD, List.getElem?_drop]
  congr 2; omega
theorem last_ofC {s : List UInt8} (h : 9 + uN (s.drop 9) mC < s.length) : s.getD (9 + uN (s.drop 9) mC - 1) 0 = 62 := by
  have sp := fd_spec (s.drop 9) mC (by decide)
  rw [List.length_drop] at sp
  have hf : fdB (s.drop 9) mC = true := by
    cases q : fdB (s.drop 9) mC with
    | true => rfl
    | false => have := (sp.2 q).2; omega
  have h1 := (sp.1 hf)
  have h3 : uN (s.drop 9) mC = fnd (s.drop 9) mC + 3 := h1.1
  have h4 : fnd (s.drop 9) mC + 3 ≤ s.length - 9 := h1.2
  have h2 := (fnd_occ (s.drop 9) mC (by rw [List.length_drop]; omega)).2 2 (by decide)
  refine Eq.trans ?_ (h2.trans rfl)
  simp only [List.getD, List.getElem?_drop]
  congr 2; omega
theorem bogus_case {s : List UInt8} {k : Nat} {f : Bool} (more : List UInt8) (hk : 1 ≤ k) (hkl : k ≤ s.length) (he : readP s f = bogusP s k) (hx : s.getD (k - 1) 0 ≠ 62)
    (hd : ∀ n, k < n → n ≤ s.length → s.getD (n - 1) 0 = 62 → readP (s.take n ++ more) f = bogusP (s.take n ++ more) k) : CutOk s more f := by
  right
  have hle := uN_le (s.drop k) [62]
  rw [List.length_drop] at hle
  rw [he]
  refine ⟨k + uN (s.drop k) [62], rfl, by omega, by omega, fun h => last_of h, fun hlast => .inl ?_⟩
  have hpos : 0 < uN (s.drop k) [62] := by
    rcases Nat.eq_zero_or_pos (uN (s.drop k) [62]) with q | q
    · rw [q] at hlast; exact absurd hlast hx
    · exact q
  have hf : fnd (s.drop k) [62] + 1 ≤ (s.drop k).length := by
    refine found_one (uN (s.drop k) [62] - 1) (by rw [List.length_drop]; omega) ?_
    refine Eq.trans ?_ hlast
    simp only [List.getD, List.getElem?_drop]
    congr 2; omega
  have hu : uN (s.drop k) [62] = fnd (s.drop k) [62] + 1 := by unfold uN; rw [if_pos (by simpa using hf)]; rfl
  have e := bogus_cut more hkl hf
  rw [hd _ (by omega) (by omega) hlast, hu]
  exact e
theorem doc_no {s : List UInt8} {n : Nat} (h2 : 2 < n) (h9 : n < 9) (hs : s.getD (n - 1) 0 = 62) : isDoc s = false := by
  rw [Bool.eq_false_iff]
  intro h
  unfold isDoc at h
  rw [Bool.and_eq_true, beq_iff_eq] at h
  have hl := of_decide_eq_true h.1
  have hg : (lowL ((s.take 9).drop 2)).getD (n - 3) 0 = 62 := by
    have e : ((s.take 9).drop 2)[n - 3]? = some 62 := by
      rw [List.getElem?_drop, List.getElem?_take_of_lt (by omega)]
      have : s[n - 1]? = some (s.getD (n - 1) 0) := by simp [List.getD, List.getElem?_eq_getElem (show n - 1 < s.length by omega)]
      rw [show 2 + (n - 3) = n - 1 by omega, this, hs]
    unfold lowL
    simp only [List.getD, List.getElem?_map, e]
    rfl
  rw [h.2] at hg
  have : n - 3 = 0 ∨ n - 3 = 1 ∨ n - 3 = 2 ∨ n - 3 = 3 ∨ n - 3 = 4 ∨ n - 3 = 5 := by omega
  rcases this with q | q | q | q | q | q <;> rw [q] at hg <;> exact absurd hg (by decide)
theorem doc_cut {s : List UInt8} {n : Nat} (more : List UInt8) (h : 9 ≤ n) (hn : n ≤ s.length) : isDoc (s.take n ++ more) = isDoc s := by
  unfold isDoc
  rw [cut_take more h hn, cut_len more hn]
  have e1 : decide (((n + more.length : Nat) : Int) ≥ 9) = true := decide_eq_true (by omega)
  have e2 : decide ((s.length : Int) ≥ 9) = true := decide_eq_true (by omega)
  rw [e1, e2]
theorem cut_ok (s more : List UInt8) (f : Bool) : CutOk s more f := by
  cases hb : begP s [60, 33]
  · cases hq : begP s [60, 63]
    · cases hs : begP s [60, 47]
      · left; rw [readP_none f hb hq hs]; exact ⟨rfl, rfl⟩
      · have e := readP_slash f hs
        obtain ⟨g1, g2, g3⟩ := (beg2 s _ _).1 hs
        cases h6 : r62 s
        · cases ha : rAl s
          · left; rw [e, h6, ha]; exact ⟨rfl, rfl⟩
          · have e' : readP s f = bogusP s 2 := by rw [e, h6, ha]; rfl
            refine bogus_case more (by omega) g1 e' (by rw [g3]; decide) fun n h1 h2 h3 => ?_
            have hs' : begP (s.take n ++ more) [60, 47] = true := by rw [cut_beg more (by simp; omega) h2]; exact hs
            have hget := cut_get (s := s) (n := n) (j := 2) more (by omega) h2
            have hlen := cut_len (s := s) (n := n) more h2
            rw [readP_slash f hs', if_neg, if_pos]
            · unfold rAl at ha ⊢
              rw [Bool.and_eq_true] at ha ⊢
              rw [hget]
              exact ⟨decide_eq_true (by omega), ha.2⟩
            · intro q
              unfold rAl at ha
              rw [Bool.and_eq_true] at ha
              have hl := of_decide_eq_true ha.1
              unfold r62 at h6 q
              rw [hget] at q
              rw [Bool.and_eq_true] at q
              rw [decide_eq_true hl, Bool.true_and] at h6
              rw [h6] at q
              exact absurd q.2 (by decide)
        · right
          have h6' : begP s [60, 47, 62] = true := by rw [← r62_iff hs]; exact h6
          have h3 := ((beg3 s _ _ _).1 h6').2
          have e' : readP s f = (0, [], [], 3, false) := by rw [e, h6]; rfl
          refine ⟨3, by rw [e']; rfl, by omega, h3.1, fun _ => h3.2, fun _ => .inl ?_⟩
          have hs' : begP (s.take 3 ++ more) [60, 47] = true := by rw [cut_beg more (by simp) h3.1]; exact hs
          rw [readP_slash f hs', if_pos (by rw [r62_iff hs', cut_beg more (by simp) h3.1]; exact h6'), e']
    · obtain ⟨g1, g2, g3⟩ := (beg2 s _ _).1 hq
      refine bogus_case more (by omega) (by omega) (readP_ques f hq) (by rw [show 1 - 1 = 0 from rfl, g2]; decide) fun n h1 h2 h3 => ?_
      exact readP_ques f (by rw [cut_beg more (by simp; omega) h2]; exact hq)
  · obtain ⟨g1, g2, g3⟩ := (beg2 s _ _).1 hb
    have e := readP_bang f hb
    cases h1 : begP s [60, 33, 45, 45]
    · cases h2 : isDoc s
      · cases h3 : (f && begP s cdM)
        · have e' : readP s f = bogusP s 2 := by rw [e]; unfold declP; rw [if_neg (by rw [h1]; decide), if_neg (by rw [h2]; decide), if_neg (by rw [h3]; decide)]
          refine bogus_case more (by omega) g1 e' (by rw [g3]; decide) fun n k1 k2 k3 => ?_
          have hget := cut_get (s := s) (n := n) (j := n - 1) more (by omega) k2
          have hb' : begP (s.take n ++ more) [60, 33] = true := by rw [cut_beg more (by simp; omega) k2]; exact hb
          have h1' : begP (s.take n ++ more) [60, 33, 45, 45] = false := by
            rcases Nat.lt_or_ge n 4 with q | q
            · exact beg_no (n := n) (by omega) (by simpa using q) (by rw [hget]; exact k3) (fun j hj => by
                have : j = 0 ∨ j = 1 ∨ j = 2 := by simp at hj; omega
                rcases this with rfl | rfl | rfl <;> decide)
            · rw [cut_beg more (by simpa using q) k2]; exact h1
          have h2' : isDoc (s.take n ++ more) = false := by
            rcases Nat.lt_or_ge n 9 with q | q
            · exact doc_no (by omega) q (by rw [hget]; exact k3)
            · rw [doc_cut more q k2]; exact h2
          have h3' : (f && begP (s.take n ++ more) cdM) = false := by
            rcases Nat.lt_or_ge n 9 with q | q
            · rw [beg_no (p := cdM) (n := n) (by omega) (by simpa using q) (by rw [hget]; exact k3) (fun j hj => by
                have : j = 0 ∨ j = 1 ∨ j = 2 ∨ j = 3 ∨ j = 4 ∨ j = 5 ∨ j = 6 ∨ j = 7 := by simp at hj; omega
                rcases this with rfl | rfl | rfl | rfl | rfl | rfl | rfl | rfl <;> decide), Bool.and_false]
            · rw [cut_beg more (by simpa using q) k2]; exact h3
          rw [readP_bang f hb']; unfold declP; rw [if_neg (by rw [h1']; decide), if_neg (by rw [h2']; decide), if_neg (by rw [h3']; decide)]
        · have e' : readP s f = secP s := by rw [e]; unfold declP; rw [if_neg (by rw [h1]; decide), if_neg (by rw [h2]; decide), if_pos h3]
          have hcd : begP s cdM = true := by cases f <;> simp_all
          have hl9 : 9 ≤ s.length := by have := (begP_get.1 hcd).1; simpa using this
          right
          have hn : (secP s).2.2.2.1 = ((9 + uN (s.drop 9) mC : Nat) : Int) := by unfold secP; split <;> rfl
          have hle := uN_le (s.drop 9) mC
          rw [List.length_drop] at hle
          rw [e']
          refine ⟨9 + uN (s.drop 9) mC, hn, by omega, by omega, fun h => last_ofC h, fun hlast => ?_⟩
          have hn9 : 9 ≤ 9 + uN (s.drop 9) mC := by omega
          have hns : 9 + uN (s.drop 9) mC ≤ s.length := by omega
          have et : readP (s.take (9 + uN (s.drop 9) mC) ++ more) f = secP (s.take (9 + uN (s.drop 9) mC) ++ more) := by
            have a1 : begP (s.take (9 + uN (s.drop 9) mC) ++ more) [60, 33] = true := by rw [cut_beg more (by simp; omega) hns]; exact hb
            rw [readP_bang f a1]; unfold declP
            rw [if_neg (by rw [cut_beg more (by simp; omega) hns, h1]; decide), if_neg (by rw [doc_cut more hn9 hns, h2]; decide), if_pos (by rw [cut_beg more (by simp) hns]; exact h3)]
          have ed : (s.take (9 + uN (s.drop 9) mC) ++ more).drop 9 = (s.drop 9).take (uN (s.drop 9) mC) ++ more := by
            rw [cut_drop more hn9 hns]; congr 2; omega
          have hu : uN (s.drop 9) mC ≤ (s.drop 9).length := by rw [List.length_drop]; omega
          have sp := fd_spec (s.drop 9) mC (by decide)
          have zC : mC.length = 3 := rfl
          rw [et]
          cases hf : fdB (s.drop 9) mC
          · right
            have := (sp.2 hf).2
            rw [List.length_drop] at this
            refine ⟨by omega, ?_⟩
            have hn2 : (secP (s.take (9 + uN (s.drop 9) mC) ++ more)).2.2.2.1 = ((9 + uN ((s.take (9 + uN (s.drop 9) mC) ++ more).drop 9) mC : Nat) : Int) := by unfold secP; split <;> rfl
            rw [hn2, ed]
            have ha : (s.drop 9).take (uN (s.drop 9) mC) ++ more = s.drop 9 ++ more := by rw [List.take_of_length_le (by rw [List.length_drop]; omega)]
            rw [ha]
            have hm := fnd_more (s.drop 9) mC more (of_decide_eq_false hf) (by decide)
            have sp2 := fd_spec (s.drop 9 ++ more) mC (by decide)
            rw [List.length_drop] at hm
            have hl2 : (s.drop 9 ++ more).length = s.length - 9 + more.length := by rw [List.length_append, List.length_drop]
            cases hf2 : fdB (s.drop 9 ++ more) mC
            · have := (sp2.2 hf2).2; omega
            · have := (sp2.1 hf2).1; omega
          · left
            have hq := sp.1 hf
            have e2 := fnd_take (s.drop 9) mC (uN (s.drop 9) mC) hu more (by decide) (by omega)
            have e3 : secD (s.take (9 + uN (s.drop 9) mC) ++ more) = secD s := by
              unfold secD; rw [ed, e2, cut_take more (by omega) hu]
            have e4 : uN ((s.take (9 + uN (s.drop 9) mC) ++ more).drop 9) mC = uN (s.drop 9) mC := by
              rw [ed]
              have : uN ((s.drop 9).take (uN (s.drop 9) mC) ++ more) mC = fnd (s.drop 9) mC + 3 := by
                rw [uN_found (by rw [e2, cut_len more hu]; omega), e2, zC]
              rw [this, hq.1, zC]
            unfold secP
            rw [e3, e4]
      · have hl9 : 9 ≤ s.length := by unfold isDoc at h2; rw [Bool.and_eq_true] at h2; have := of_decide_eq_true h2.1; omega
        have e' : readP s f = docP s := by rw [e]; unfold declP; rw [if_neg (by rw [h1]; decide), if_pos h2]
        right
        have hle := uN_le (s.drop 9) [62]
        rw [List.length_drop] at hle
        rw [e']
        refine ⟨9 + uN (s.drop 9) [62], rfl, by omega, by omega, fun h => last_of h, fun hlast => .inl ?_⟩
        have hpos : 0 < uN (s.drop 9) [62] := by
          rcases Nat.eq_zero_or_pos (uN (s.drop 9) [62]) with q | q
          · exfalso
            rw [q] at hlast
            have h2' := h2
            unfold isDoc at h2'
            rw [Bool.and_eq_true, beq_iff_eq] at h2'
            have hg : (lowL ((s.take 9).drop 2)).getD 6 0 = 62 := by
              have e : ((s.take 9).drop 2)[6]? = some 62 := by
                rw [List.getElem?_drop, List.getElem?_take_of_lt (by omega)]
                have : s[8]? = some (s.getD 8 0) := by simp [List.getD, List.getElem?_eq_getElem (show 8 < s.length by omega)]
                rw [show 2 + 6 = 8 from rfl, this]
                exact congrArg some hlast
              unfold lowL
              simp only [List.getD, List.getElem?_map, e]
              rfl
            rw [h2'.2] at hg
            exact absurd hg (by decide)
          · exact q
        have hf : fnd (s.drop 9) [62] + 1 ≤ (s.drop 9).length := by
          refine found_one (uN (s.drop 9) [62] - 1) (by rw [List.length_drop]; omega) ?_
          refine Eq.trans ?_ hlast
          simp only [List.getD, List.getElem?_drop]
          congr 2; omega
        have hu : uN (s.drop 9) [62] = fnd (s.drop 9) [62] + 1 := by unfold uN; rw [if_pos (by simpa using hf)]; rfl
        have hns : 9 + uN (s.drop 9) [62] ≤ s.length := by omega
        have hul : uN (s.drop 9) [62] ≤ (s.drop 9).length := by rw [List.length_drop]; omega
        have ed : (s.take (9 + uN (s.drop 9) [62]) ++ more).drop 9 = (s.drop 9).take (uN (s.drop 9) [62]) ++ more := by
          rw [cut_drop more (by omega) hns]; congr 2; omega
        have e2 := fnd_take (s.drop 9) [62] (uN (s.drop 9) [62]) hul more (by simp) (by simp; omega)
        have a1 : begP (s.take (9 + uN (s.drop 9) [62]) ++ more) [60, 33] = true := by rw [cut_beg more (by simp; omega) hns]; exact hb
        rw [readP_bang f a1]; unfold declP
        rw [if_neg (by rw [cut_beg more (by simp; omega) hns, h1]; decide), if_pos (by rw [doc_cut more (by omega) hns]; exact h2)]
        have e4 : uN ((s.take (9 + uN (s.drop 9) [62]) ++ more).drop 9) [62] = uN (s.drop 9) [62] := by
          rw [ed]
          have : uN ((s.drop 9).take (uN (s.drop 9) [62]) ++ more) [62] = fnd (s.drop 9) [62] + 1 := by
            rw [uN_found (by rw [e2, cut_len more hul]; simp; omega), e2]; rfl
          rw [this, hu]
        unfold docP docN
        rw [e4, ed, e2, cut_take more (by omega) hul]
    · have e' : readP s f = cm4 s := by rw [e]; unfold declP; rw [if_pos h1]
      have hl4 : 4 ≤ s.length := by have := (begP_get.1 h1).1; simpa using this
      have h45 : s.getD 3 0 = 45 := by have := (begP_get.1 h1).2 3 (by simp); simpa using this
      have hcut : ∀ n, 4 ≤ n → n ≤ s.length → readP (s.take n ++ more) f = cm4 (s.take n ++ more) := fun n k1 k2 => by
        rw [readP_bang f (by rw [cut_beg more (by simp; omega) k2]; exact hb)]
        unfold declP; rw [if_pos (by rw [cut_beg more (by simpa using k1) k2]; exact h1)]
      right
      rw [e']
      rcases com_cut (s.drop 4) more with ⟨n, c1, c2, c3, c4, c5⟩ | ⟨c1, c2⟩
      · rw [List.length_drop] at c2
        refine ⟨4 + n, by unfold cm4; simp only; rw [c1]; omega, by omega, by omega, fun _ => Eq.trans (by simp only [List.getD, List.getElem?_drop]; congr 2; omega) c4, fun _ => .inl ?_⟩
        rw [hcut _ (by omega) (by omega)]
        have ed : (s.take (4 + n) ++ more).drop 4 = (s.drop 4).take n ++ more := by
          rw [cut_drop more (by omega) (by omega)]; congr 2; omega
        unfold cm4
        rw [ed, c5]
      · rw [List.length_drop] at c1 c2
        refine ⟨s.length, by unfold cm4; simp only; rw [c1]; omega, by omega, Nat.le_refl _, fun h => absurd h (Nat.lt_irrefl _), fun hlast => .inr ⟨rfl, ?_⟩⟩
        rw [hcut _ hl4 (Nat.le_refl _)]
        have ed : (s.take s.length ++ more).drop 4 = s.drop 4 ++ more := by
          rw [List.take_length, List.drop_append_of_le_length hl4]
        unfold cm4
        rw [ed]
        simp only
        have hl5 : 5 ≤ s.length := by
          rcases Nat.lt_or_ge 4 s.length with q | q
          · exact q
          · exfalso
            rw [show s.length - 1 = 3 by omega, h45] at hlast
            exact absurd hlast (by decide)
        have := c2 (by omega) (by
          simp only [List.getD, List.getElem?_drop] at hlast ⊢
          rw [← hlast]; congr 2; omega)
        omega
end Go.Vc

namespace Go.Vc
open Go.Proofs
set_option linter.unusedVariables false
set_option maxRecDepth 10000
set_option linter.unusedSimpArgs false
set_option maxHeartbeats 4000000
instance rStops (s more : List UInt8) (f : Bool) : Fn BB 6 [.str s, .str more, .bool f] True (.bool true) := by
  refine Fn.intro (N := 95) [0, 1, 2, 6, 7, 8, 9, 10, 11, 12, 20, 36, 56, 72] [] Tryd.call6 Tryd.func6 rfl rfl (by kernel_rfl) (fun hpre => ?_)
  have hc := cut_ok s more f
  have hL : (decide ((s.length : Int) > 400) || decide ((more.length : Int) > 200)) = false → s.length ≤ 400 ∧ more.length ≤ 200 := fun h => by
    rw [Bool.or_eq_false_iff] at h
    have h1 := of_decide_eq_false h.1
    have h2 := of_decide_eq_false h.2
    omega
  rcases hc with ⟨h1, h2⟩ | ⟨n, h1, h2, h3, h5, h4⟩
  · repeat' ((conv => whnf); first | (with_reducible rfl) | exact True.intro | (with_reducible exact absTF) | (with_reducible exact absFT) | intro _ | refine And.intro ?_ ?_ | refine Fin.mk ?_ | refine CallG.plain rfl ?_ ?_ | refine CallG.mk rfl ?_ ?_ | refine CallG.nwl rfl ?_ ?_ | refine CallG.nw ?_ ?_ | refine CallF.nwl rfl ?_ ?_ | refine CallF.nw ?_ ?_ | refine AppN.mk ?_ | (refine CallS.q ?_; (conv => whnf); first | refine CallG.plain rfl ?_ ?_ | refine CallG.mk rfl ?_ ?_) | (refine CallS.m ?_; (conv => whnf); refine CallM.mk rfl ?_ ?_) | (refine CallS.h ?_; (conv => whnf); refine CallM.mk rfl ?_ ?_) | (refine CallS.b ?_; (conv => whnf); refine CallM.mk rfl ?_ ?_) | (refine CallS.z ?_; (conv => whnf); refine CallM.mk rfl ?_ ?_))
    all_goals (try (conv => whnf))
    all_goals (try (exact Ob.mk (u8_bnd _)))
    all_goals (try (refine Ob.mk ?_; first | exact True.intro | assumption | omega | (try simp only [decide_eq_true_eq, decide_eq_false_iff_not, beq_iff_eq, beq_eq_false_iff_ne, bne_iff_ne, bne_eq_false_iff_eq, ne_eq, Bool.and_eq_true, Bool.or_eq_true, Bool.not_eq_true, Bool.not_eq_false, Bool.not_eq_true', Bool.not_eq_false', Int.toNat_natCast, Int.not_lt, Int.not_le, UInt8.ofNat_toNat, cast_eq] at *; omega)))
    all_goals (try ((show (_:Int) = _); omega))
    all_goals (try (show tupSV _ = _; with_unfolding_all rfl))
    all_goals (try ((show (_ : Nat) ≤ _); (simp <;> omega)))
    all_goals (try ((show (_ : Nat) ≤ _ ∧ (_ : Nat) ≤ _); (simp <;> omega)))
    all_goals (try ((show (_ : Int) ≤ _ ∧ (_ : Int) ≤ _ ∧ (_ : Int) ≤ _ ∧ (_ : Int) ≤ _); (simp <;> omega)))
    all_goals (have hL' := hL ‹_›)
    all_goals (simp only [h1, h2] at *)
    all_goals (first | omega | rfl | (exfalso; have h : (decide ((0 : Int) < 1) || decide ((0 : Int) > (s.length : Int))) = false := ‹_›; simp at h; done) | trace_state)
  · have en : ((n : Int)).toNat = n := Int.toNat_natCast n
    have en1 : ((n : Int) - 1).toNat = n - 1 := by omega
    have kz : ∀ c : UInt8, ((c.toNat : Int) != 62) = !(c == 62) := fun c => by rw [show ((c.toNat : Int) != 62) = !((c.toNat : Int) == ((62 : UInt8).toNat : Int)) from rfl, b_iff]
    have hcl := cut_len more h3
    have hc0 : (decide ((n : Int) < 1) || decide ((n : Int) > (s.length : Int))) = false := by
      rw [Bool.or_eq_false_iff]; exact ⟨decide_eq_false (by omega), decide_eq_false (by omega)⟩
    have hlast : ((n : Int) == (s.length : Int) && !(s.getD (n - 1) 0 == 62)) = false → s.getD (n - 1) 0 = 62 := fun h => by
      rcases Nat.lt_or_ge n s.length with q | q
      · exact h5 q
      · have : ((n : Int) == (s.length : Int)) = true := by rw [beq_iff_eq]; omega
        rw [this, Bool.true_and] at h
        simpa using h
    have g1 : s.getD (n - 1) 0 = 62 → decide ((readP (s.take n ++ more) f).2.2.2.1 ≥ (n : Int)) = true := fun h => by
      refine decide_eq_true ?_
      rcases h4 h with q | q
      · rw [q, h1]; exact Int.le_refl _
      · exact q.2
    have g2 : s.getD (n - 1) 0 = 62 → ((n : Int) == (s.length : Int)) = false → (n : Int) = (readP (s.take n ++ more) f).2.2.2.1 ∧ readP (s.take n ++ more) f = readP s f := fun h h' => by
      rcases h4 h with q | q
      · exact ⟨by rw [q, h1], q⟩
      · rw [beq_eq_false_iff_ne] at h'; exact absurd (by rw [q.1]) h'
    repeat' ((conv => whnf); first | (with_reducible rfl) | exact True.intro | (with_reducible exact absTF) | (with_reducible exact absFT) | intro _ | refine And.intro ?_ ?_ | refine Fin.mk ?_ | refine CallG.plain rfl ?_ ?_ | refine CallG.mk rfl ?_ ?_ | refine CallG.nwl rfl ?_ ?_ | refine CallG.nw ?_ ?_ | refine CallF.nwl rfl ?_ ?_ | refine CallF.nw ?_ ?_ | refine AppN.mk ?_ | (refine CallS.q ?_; (conv => whnf); first | refine CallG.plain rfl ?_ ?_ | refine CallG.mk rfl ?_ ?_) | (refine CallS.m ?_; (conv => whnf); refine CallM.mk rfl ?_ ?_) | (refine CallS.h ?_; (conv => whnf); refine CallM.mk rfl ?_ ?_) | (refine CallS.b ?_; (conv => whnf); refine CallM.mk rfl ?_ ?_) | (refine CallS.z ?_; (conv => whnf); refine CallM.mk rfl ?_ ?_))
    all_goals (try (conv => whnf))
    all_goals (try (exact Ob.mk (u8_bnd _)))
    all_goals (try (refine Ob.mk ?_; first | exact True.intro | assumption | omega | (try simp only [decide_eq_true_eq, decide_eq_false_iff_not, beq_iff_eq, beq_eq_false_iff_ne, bne_iff_ne, bne_eq_false_iff_eq, ne_eq, Bool.and_eq_true, Bool.or_eq_true, Bool.not_eq_true, Bool.not_eq_false, Bool.not_eq_true', Bool.not_eq_false', Int.toNat_natCast, Int.not_lt, Int.not_le, UInt8.ofNat_toNat, cast_eq] at *; omega)))
    all_goals (try ((show (_:Int) = _); omega))
    all_goals (try (show tupSV _ = _; with_unfolding_all rfl))
    all_goals (try ((show (_ : Nat) ≤ _); (simp <;> omega)))
    all_goals (try ((show (_ : Nat) ≤ _ ∧ (_ : Nat) ≤ _); (simp <;> omega)))
    all_goals (try ((show (_ : Int) ≤ _ ∧ (_ : Int) ≤ _ ∧ (_ : Int) ≤ _ ∧ (_ : Int) ≤ _); (simp <;> omega)))
    all_goals (have hL' := hL ‹_›)
    all_goals (simp only [h1, en, en1, kz] at *)
    all_goals (first | omega | (exfalso; have h : (decide ((n : Int) < 1) || decide ((n : Int) > (s.length : Int))) = true := ‹_›; rw [hc0] at h; cases h; done) | (rw [List.length_take]; omega) | skip)
    · rw [g1 (hlast ‹_›)]; rfl
    · obtain ⟨y1, y2⟩ := g2 (hlast ‹_›) ‹_›
      rw [← y1, y2]; simp
theorem begP_app {s t p : List UInt8} (h : p.length ≤ s.length) : begP (s ++ t) p = begP s p := by
  have := cut_beg (s := s) (p := p) (n := s.length) t h (Nat.le_refl _)
  rwa [List.take_length] at this
end Go.Vc

namespace Go.Vc
open Go.Proofs
set_option linter.unusedVariables false
set_option maxRecDepth 10000
set_option linter.unusedSimpArgs false
set_option maxHeartbeats 4000000
theorem app_get (s t : List UInt8) (j : Nat) : (s ++ t).getD j 0 = if j < s.length then s.getD j 0 else t.getD (j - s.length) 0 := by
  simp only [List.getD]
  split
  · rw [List.getElem?_append_left ‹_›]
  · rw [List.getElem?_append_right (by omega)]
theorem mk_occ3 {l : List UInt8} {i : Nat} (h : i + 3 ≤ l.length) (h0 : l.getD i 0 = 45) (h1 : l.getD (i + 1) 0 = 45) (h2 : l.getD (i + 2) 0 = 62) : occ l mA i := by
  refine ⟨h, fun j hj => ?_⟩
  have : j = 0 ∨ j = 1 ∨ j = 2 := by simp at hj; omega
  rcases this with rfl | rfl | rfl
  · exact h0
  · exact h1
  · exact h2
/-- a comment that is written is read as it was -/
theorem com_back (s behind : List UInt8) (h1 : begP s [62] = false) (h2 : begP s [45, 62] = false) (h3 : fdB s mA = false) (h4 : fdB s mB = false) :
    comP (s ++ mA ++ behind) = (4, [], s, ((s.length + 3 : Nat) : Int), true) := by
  have hr : ∀ j, (s ++ mA ++ behind).getD j 0 = if j < s.length then s.getD j 0 else (mA ++ behind).getD (j - s.length) 0 := fun j => by rw [List.append_assoc, app_get]
  have hlen : (s ++ mA ++ behind).length = s.length + 3 + behind.length := by simp; omega
  have nA := (fnd_cases s mA (by decide)).resolve_left fun q => absurd q.2 (of_decide_eq_false h3)
  have nB := (fnd_cases s mB (by decide)).resolve_left fun q => absurd q.2 (of_decide_eq_false h4)
  have r0 : (s ++ mA ++ behind).getD s.length 0 = 45 := by rw [hr, if_neg (by omega), Nat.sub_self]; rfl
  have r1 : (s ++ mA ++ behind).getD (s.length + 1) 0 = 45 := by rw [hr, if_neg (by omega), show s.length + 1 - s.length = 1 by omega]; rfl
  have r2 : (s ++ mA ++ behind).getD (s.length + 2) 0 = 62 := by rw [hr, if_neg (by omega), show s.length + 2 - s.length = 2 by omega]; rfl
  have rs : ∀ j, j < s.length → (s ++ mA ++ behind).getD j 0 = s.getD j 0 := fun j hj => by rw [hr, if_pos hj]
  generalize hR : s ++ mA ++ behind = R at *
  have occA : ∀ i < s.length, ¬ occ R mA i := fun i hi ho => by
    have o0 := ho.2 0 (by decide)
    have o1 := ho.2 1 (by decide)
    have o2 := ho.2 2 (by decide)
    rcases (by omega : i + 2 < s.length ∨ i + 2 = s.length ∨ i + 1 = s.length) with q | q | q
    · refine nA.2 i (mk_occ3 (by omega) ?_ ?_ ?_)
      · rw [← rs i hi]; exact o0
      · rw [← rs _ (by omega)]; exact o1
      · rw [← rs _ (by omega)]; exact o2
    · rw [q, r0] at o2; exact absurd o2 (by decide)
    · rw [show i + 2 = s.length + 1 by omega, r1] at o2; exact absurd o2 (by decide)
  have occB : ∀ i < s.length, ¬ occ R mB i := fun i hi ho => by
    have o0 := ho.2 0 (by decide)
    have o1 := ho.2 1 (by decide)
    have o2 := ho.2 2 (by decide)
    have o3 := ho.2 3 (by decide)
    rcases (by omega : i + 3 < s.length ∨ i + 3 = s.length ∨ i + 2 = s.length ∨ i + 1 = s.length) with q | q | q | q
    · refine nB.2 i ⟨by simp; omega, fun j hj => ?_⟩
      rw [← rs _ (by simp at hj; omega)]; exact ho.2 j hj
    · rw [q, r0] at o3; exact absurd o3 (by decide)
    · rw [q, r0] at o2; exact absurd o2 (by decide)
    · rw [show i + 2 = s.length + 1 by omega, r1] at o2; exact absurd o2 (by decide)
  have fA : fnd R mA = s.length := fnd_eq _ _ _ (mk_occ3 (by omega) r0 r1 r2) occA
  have fB : ¬ fnd R mB < fnd R mA := by
    rw [fA]
    intro q
    exact occB _ q (fnd_occ R mB (by omega))
  have dA : fdB R mA = true := by unfold fdB; rw [fA]; exact decide_eq_true (by show s.length + 3 ≤ _; omega)
  have b1 : begP R [62] = false := by
    rw [Bool.eq_false_iff]
    intro q
    have := (begP_get.1 q).2 0 (by decide)
    rcases Nat.eq_zero_or_pos s.length with z | z
    · rw [Nat.zero_add, ← z, r0] at this; rw [z] at this; exact absurd this (by decide)
    · rw [rs _ (by omega)] at this
      have hz := this
      have hb : begP s [62] = true := begP_get.2 ⟨by simp; omega, fun j hj => by
        have : j = 0 := by simp at hj; omega
        subst this; exact hz⟩
      rw [h1] at hb; cases hb
  have b2 : begP R [45, 62] = false := by
    rw [Bool.eq_false_iff]
    intro q
    have y0 := (begP_get.1 q).2 0 (by decide)
    have y1 := (begP_get.1 q).2 1 (by decide)
    rcases (by omega : s.length = 0 ∨ s.length = 1 ∨ 2 ≤ s.length) with z | z | z
    · rw [show 0 + 1 = s.length + 1 by omega, r1] at y1; exact absurd y1 (by decide)
    · rw [show 0 + 1 = s.length by omega, r0] at y1; exact absurd y1 (by decide)
    · rw [rs _ (by omega)] at y0 y1
      have hb : begP s [45, 62] = true := begP_get.2 ⟨by simpa using z, fun j hj => by
        have : j = 0 ∨ j = 1 := by simp at hj; omega
        rcases this with rfl | rfl
        · exact y0
        · exact y1⟩
      rw [h2] at hb; cases hb
  rw [com5 b1 b2 (.inl dA) fB, fA]
  congr 3
  rw [← hR, List.append_assoc, List.take_left]
instance rBack (s behind : List UInt8) : Fn BB 7 [.str s, .str behind] True (.bool true) := by
  refine Fn.intro (N := 60) [0, 1, 4, 5, 6, 7, 31] [] Tryd.call7 Tryd.func7 rfl rfl (by kernel_rfl) (fun hpre => ?_)
  have hL : (decide ((s.length : Int) > 200) || decide ((behind.length : Int) > 100) || begP s [62] || begP s [45, 62]) = false → s.length ≤ 200 ∧ behind.length ≤ 100 ∧ begP s [62] = false ∧ begP s [45, 62] = false := fun h => by
    simp only [Bool.or_eq_false_iff] at h
    have h1 := of_decide_eq_false h.1.1.1
    have h2 := of_decide_eq_false h.1.1.2
    exact ⟨by omega, by omega, h.1.2, h.2⟩
  have hL1 : (decide ((s.length : Int) > 200) || decide ((behind.length : Int) > 100) || begP s [62] || begP s [45, 62] || fdB s mA) = false → s.length ≤ 200 ∧ behind.length ≤ 100 := fun h => by
    rw [Bool.or_eq_false_iff] at h
    exact ⟨(hL h.1).1, (hL h.1).2.1⟩
  have hL2 : (decide ((s.length : Int) > 200) || decide ((behind.length : Int) > 100) || begP s [62] || begP s [45, 62] || fdB s mA || fdB s mB) = false → (s.length ≤ 200 ∧ behind.length ≤ 100) ∧ readP ([60, 33, 45, 45] ++ s ++ mA ++ behind) false = (4, [], s, ((s.length + 7 : Nat) : Int), true) := fun h => by
    rw [Bool.or_eq_false_iff, Bool.or_eq_false_iff] at h
    obtain ⟨a, b, c, d⟩ := hL h.1.1
    refine ⟨⟨a, b⟩, ?_⟩
    have e := com_back s behind c d h.1.2 h.2
    have hT : [60, 33, 45, 45] ++ s ++ mA ++ behind = [60, 33, 45, 45] ++ (s ++ mA ++ behind) := by simp
    have hb : begP ([60, 33, 45, 45] ++ s ++ mA ++ behind) [60, 33, 45, 45] = true := by
      rw [hT, begP_app (by simp)]; decide
    rw [readP_bang false (beg_more (p := [60, 33]) (q := [45, 45]) hb)]
    unfold declP cm4
    rw [if_pos hb]
    have hd : ([60, 33, 45, 45] ++ s ++ mA ++ behind).drop 4 = s ++ mA ++ behind := by rw [hT]; rfl
    rw [hd, e]
    congr 4
  repeat' ((conv => whnf); first | (with_reducible rfl) | exact True.intro | (with_reducible exact absTF) | (with_reducible exact absFT) | intro _ | refine And.intro ?_ ?_ | refine Fin.mk ?_ | refine CallG.plain rfl ?_ ?_ | refine CallG.mk rfl ?_ ?_ | refine CallG.nwl rfl ?_ ?_ | refine CallG.nw ?_ ?_ | refine CallF.nwl rfl ?_ ?_ | refine CallF.nw ?_ ?_ | refine AppN.mk ?_ | (refine CallS.q ?_; (conv => whnf); first | refine CallG.plain rfl ?_ ?_ | refine CallG.mk rfl ?_ ?_) | (refine CallS.m ?_; (conv => whnf); refine CallM.mk rfl ?_ ?_) | (refine CallS.h ?_; (conv => whnf); refine CallM.mk rfl ?_ ?_) | (refine CallS.b ?_; (conv => whnf); refine CallM.mk rfl ?_ ?_) | (refine CallS.z ?_; (conv => whnf); refine CallM.mk rfl ?_ ?_))
  all_goals (try (conv => whnf))
  all_goals (try (exact Ob.mk (u8_bnd _)))
  all_goals (try (refine Ob.mk ?_; first | exact True.intro | assumption | omega | (try simp only [decide_eq_true_eq, decide_eq_false_iff_not, beq_iff_eq, beq_eq_false_iff_ne, bne_iff_ne, bne_eq_false_iff_eq, ne_eq, Bool.and_eq_true, Bool.or_eq_true, Bool.not_eq_true, Bool.not_eq_false, Bool.not_eq_true', Bool.not_eq_false', Int.toNat_natCast, Int.not_lt, Int.not_le, UInt8.ofNat_toNat, cast_eq] at *; omega)))
  all_goals (try ((show (_:Int) = _); omega))
  all_goals (try (show tupSV _ = _; with_unfolding_all rfl))
  all_goals (try ((show (_ : Nat) ≤ _); (simp <;> omega)))
  all_goals (try ((show (_ : Nat) ≤ _ ∧ (_ : Nat) ≤ _); (simp <;> omega)))
  all_goals (try ((show (_ : Int) ≤ _ ∧ (_ : Int) ≤ _ ∧ (_ : Int) ≤ _ ∧ (_ : Int) ≤ _); (simp <;> omega)))
  all_goals (try (have hl := hL ‹_›))
  all_goals (try (have hl := hL1 ‹_›))
  all_goals (try (have hl' := hL2 ‹_›; have hl := hl'.1; have hr := hl'.2))
  all_goals (first | exact ⟨by decide, by omega⟩ | (constructor <;> omega) | (simp only [List.length_append, List.length_cons, List.length_nil]; omega) | skip)
  all_goals (first | (rw [hr]; simp; done) | (rw [hr]; simp; omega) | trace_state)
end Go.Vc

namespace Go.Vc
open Go.Proofs
set_option maxRecDepth 100000
abbrev laidD : List (String × DataW Unit) := [("unicode/utf8.acceptRanges", YtecdihmimpcgbaaDoor.Rows.laid_unicode_utf8_acceptRanges), ("unicode/utf8.first", YtecdihmimpcgbaaDoor.Rows.laid_unicode_utf8_first)]
theorem acc_eq : (YtecdihmimpcgbaaDoor.Rows.laid_unicode_utf8_acceptRanges : DataW Unit) = Lib.acceptData := by kernel_rfl
theorem cellR_of (W : World) (b o : Nat) (v : Value) (h : W.cell? ⟨b, o, none⟩ = some v) : cellR (fun b => W.heap[b]?) b o = some v := by
  unfold cellR
  simp only [World.cell?] at h
  cases hb : W.heap[b]? with
  | none => rw [hb] at h; cases h
  | some x =>
    rw [hb] at h
    simp only [hb]
    cases x <;> first | exact h | (cases h)
theorem base_ok (W : World) (hL : laidMetH Tryd.prog laidD W) (hsh : W.ShapedOpen Tryd.prog) : BB.G fun b => W.heap[b]? := by
  have h3 := Lib.laidMet.reads hL (.tail _ (.head _))
  have h4 := Lib.laidMet.reads hL (.head _)
  have h3' : Lib.VarReads Tryd.prog W "unicode/utf8.first" Lib.firstData := by
    have e : (YtecdihmimpcgbaaDoor.Rows.laid_unicode_utf8_first : DataW Unit) = Lib.firstData := Pinned.utf8First_eq
    rw [← e]; exact h3
  have h4' : Lib.VarReads Tryd.prog W "unicode/utf8.acceptRanges" Lib.acceptData := by rw [← acc_eq]; exact h4
  have ht : Lib.Utf8Tabs 1 2 W := utf8Tabs_of_readsT (ρ := Tryd.lays260_ren) (U8Types.of260 Tryd.lays260) ⟨by kernel_rfl, by kernel_rfl, by kernel_rfl, by kernel_rfl, by kernel_rfl, by kernel_rfl, by kernel_rfl⟩ h3' h4'
  obtain ⟨m, hm⟩ := Tryd.laysM143.s1_3 W hsh
  exact ⟨fun c hc => cellR_of W _ _ _ (ht.1 c hc), fun i hi => ⟨cellR_of W _ _ _ (ht.2 i hi).1, cellR_of W _ _ _ (ht.2 i hi).2⟩, ⟨m, cellR_of W _ _ _ hm⟩⟩
end Go.Vc
