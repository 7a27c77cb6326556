/- A part of the proof: lemmas and walks that the last text of the claim joins; no condition. -/
import Derived.Test.YtecdihmimpcgbaaDoorTK
import Derived.Test.YtecdihmimpcgbaaDoorTI
import Derived.Lib.LaidU8T
import Derived.PinnedBridge
import Derived.Test.YtecdihmimpcgbaaDoorRows
set_option linter.unusedVariables false
set_option linter.unusedSimpArgs false
namespace Go.Vc
open Go.Proofs
set_option linter.unusedVariables false
set_option maxRecDepth 10000
set_option linter.unusedSimpArgs false
set_option maxHeartbeats 4000000
def c4 (x : Rk) : Rk := (x.1, x.2.1, x.2.2.1, x.2.2.2.1 + 4, true)
/-- the two ends are never at one place -/
theorem ab_ne (s : List UInt8) (i : Nat) (hA : occ s mA i) (hB : occ s mB i) : False := by
  have h1 := hA.2 2 (by decide)
  have h2 := hB.2 2 (by decide)
  rw [h1] at h2
  exact absurd h2 (by decide)
instance rRCom (s : List UInt8) : Fn BB 34 [.str s] (s.length ≤ 900000) (rkSV (c4 (comP s))) := by
  refine Fn.intro (N := 51) [0, 2, 3, 4, 5, 6, 7, 10, 13, 28, 44] [] Tryd.call34 Tryd.func34 rfl rfl (by kernel_rfl) (fun hpre => ?_)
  have lA := fnd_le s mA
  have lB := fnd_le s mB
  have fA := fd_spec s mA (by decide)
  have fB := fd_spec s mB (by decide)
  have oA := fnd_cases s mA (by decide)
  have oB := fnd_cases s mB (by decide)
  have zA : mA.length = 3 := rfl
  have zB : mB.length = 4 := rfl
  have d0 : s.drop (Int.toNat 0) = s := rfl
  have eA : ((Int.toNat 0 + fnd (s.drop (Int.toNat 0)) mA : Nat) : Int) = (fnd s mA : Int) := by rw [d0]; simp
  have eB : ((Int.toNat 0 + fnd (s.drop (Int.toNat 0)) mB : Nat) : Int) = (fnd s mB : Int) := by rw [d0]; simp
  have gg : 0 ≤ (s.length : Int) := by omega
  cases h1 : begP s [62]
  · cases h2 : begP s [45, 62]
    · by_cases h3 : fdB s mA = false ∧ fdB s mB = false
      · have e := com3 h1 h2 h3.1 h3.2
        have qA := (fA.2 h3.1).1
        have qB := (fB.2 h3.2).1
        repeat' ((conv => whnf); first | (with_reducible rfl) | exact True.intro | (with_reducible exact absTF) | (with_reducible exact absFT) | intro _ | refine And.intro ?_ ?_ | refine Fin.mk ?_ | refine CallG.plain rfl ?_ ?_ | refine CallG.mk rfl ?_ ?_ | refine CallG.nwl rfl ?_ ?_ | refine CallG.nw ?_ ?_ | refine CallF.nwl rfl ?_ ?_ | refine CallF.nw ?_ ?_ | refine AppN.mk ?_ | (refine CallS.q ?_; (conv => whnf); first | refine CallG.plain rfl ?_ ?_ | refine CallG.mk rfl ?_ ?_) | (refine CallS.m ?_; (conv => whnf); refine CallM.mk rfl ?_ ?_) | (refine CallS.h ?_; (conv => whnf); refine CallM.mk rfl ?_ ?_) | (refine CallS.b ?_; (conv => whnf); refine CallM.mk rfl ?_ ?_) | (refine CallS.z ?_; (conv => whnf); refine CallM.mk rfl ?_ ?_))
        all_goals (try (conv => whnf))
        all_goals (try (exact Ob.mk (u8_bnd _)))
        all_goals (try (refine Ob.mk ?_; first | exact True.intro | assumption | omega | (try simp only [decide_eq_true_eq, decide_eq_false_iff_not, beq_iff_eq, beq_eq_false_iff_ne, bne_iff_ne, bne_eq_false_iff_eq, ne_eq, Bool.and_eq_true, Bool.or_eq_true, Bool.not_eq_true, Bool.not_eq_false, Bool.not_eq_true', Bool.not_eq_false', Int.toNat_natCast, Int.not_lt, Int.not_le, UInt8.ofNat_toNat, cast_eq] at *; omega)))
        all_goals (try ((show (_:Int) = _); omega))
        all_goals (try (show tupSV _ = _; with_unfolding_all rfl))
        all_goals (try ((show (_ : Nat) ≤ _); (simp <;> omega)))
        all_goals (try ((show (_ : Nat) ≤ _ ∧ (_ : Nat) ≤ _); (simp <;> omega)))
        all_goals (try ((show (_ : Int) ≤ _ ∧ (_ : Int) ≤ _ ∧ (_ : Int) ≤ _ ∧ (_ : Int) ≤ _); (simp <;> omega)))
        all_goals (try simp only [eA, eB] at *)
        all_goals (try (exfalso; have h : begP s [62] = true := ‹_›; rw [h1] at h; cases h; done))
        all_goals (try (exfalso; have h : begP s [45, 62] = true := ‹_›; rw [h2] at h; cases h; done))
        all_goals (try (exfalso; have h : ((fnd s mA : Int) == (s.length : Int) && (fnd s mB : Int) == (s.length : Int)) = false := ‹_›; rw [qA, qB] at h; simp at h; done))
        all_goals (first | (rw [e]; done) | (rw [e]; rfl) | exact ⟨by omega, by omega, by decide, by decide, by omega⟩ | omega | (rw [e]; simp only [c4, cond_false]; omega) | (constructor <;> omega) | (simp only [cond_false]; constructor <;> omega) | (rw [e]; simp only [c4, cond_false]; congr 1; omega) | trace_state)
      · have hor : fdB s mA = true ∨ fdB s mB = true := by
          cases q1 : fdB s mA <;> cases q2 : fdB s mB <;> simp_all
        have hn : ¬ (fnd s mA = s.length ∧ fnd s mB = s.length) := by
          rintro ⟨x, y⟩
          rcases hor with q | q
          · have := fA.1 q; omega
          · have := fB.1 q; omega
        by_cases hl : fnd s mB < fnd s mA
        · have e := com4 h1 h2 hor hl
          repeat' ((conv => whnf); first | (with_reducible rfl) | exact True.intro | (with_reducible exact absTF) | (with_reducible exact absFT) | intro _ | refine And.intro ?_ ?_ | refine Fin.mk ?_ | refine CallG.plain rfl ?_ ?_ | refine CallG.mk rfl ?_ ?_ | refine CallG.nwl rfl ?_ ?_ | refine CallG.nw ?_ ?_ | refine CallF.nwl rfl ?_ ?_ | refine CallF.nw ?_ ?_ | refine AppN.mk ?_ | (refine CallS.q ?_; (conv => whnf); first | refine CallG.plain rfl ?_ ?_ | refine CallG.mk rfl ?_ ?_) | (refine CallS.m ?_; (conv => whnf); refine CallM.mk rfl ?_ ?_) | (refine CallS.h ?_; (conv => whnf); refine CallM.mk rfl ?_ ?_) | (refine CallS.b ?_; (conv => whnf); refine CallM.mk rfl ?_ ?_) | (refine CallS.z ?_; (conv => whnf); refine CallM.mk rfl ?_ ?_))
          all_goals (try (conv => whnf))
          all_goals (try (exact Ob.mk (u8_bnd _)))
          all_goals (try (refine Ob.mk ?_; first | exact True.intro | assumption | omega | (try simp only [decide_eq_true_eq, decide_eq_false_iff_not, beq_iff_eq, beq_eq_false_iff_ne, bne_iff_ne, bne_eq_false_iff_eq, ne_eq, Bool.and_eq_true, Bool.or_eq_true, Bool.not_eq_true, Bool.not_eq_false, Bool.not_eq_true', Bool.not_eq_false', Int.toNat_natCast, Int.not_lt, Int.not_le, UInt8.ofNat_toNat, cast_eq] at *; omega)))
          all_goals (try ((show (_:Int) = _); omega))
          all_goals (try (show tupSV _ = _; with_unfolding_all rfl))
          all_goals (try ((show (_ : Nat) ≤ _); (simp <;> omega)))
          all_goals (try ((show (_ : Nat) ≤ _ ∧ (_ : Nat) ≤ _); (simp <;> omega)))
          all_goals (try ((show (_ : Int) ≤ _ ∧ (_ : Int) ≤ _ ∧ (_ : Int) ≤ _ ∧ (_ : Int) ≤ _); (simp <;> omega)))
          all_goals (try simp only [eA, eB] at *)
          all_goals (try (exfalso; have h : begP s [62] = true := ‹_›; rw [h1] at h; cases h; done))
          all_goals (try (exfalso; have h : begP s [45, 62] = true := ‹_›; rw [h2] at h; cases h; done))
          all_goals (try (exfalso; have h : ((fnd s mA : Int) == (s.length : Int) && (fnd s mB : Int) == (s.length : Int)) = true := ‹_›; simp only [Bool.and_eq_true, beq_iff_eq] at h; omega))
          all_goals (try (exfalso; have h := of_decide_eq_true ‹decide ((fnd s mA : Int) < (fnd s mB : Int)) = true›; omega))
          all_goals (first | (rw [e]; done) | (rw [e]; rfl) | exact ⟨by omega, by omega, by decide, by decide, by omega⟩ | omega | (rw [e]; simp only [c4, cond_false]; omega) | (constructor <;> omega) | (simp only [cond_false]; constructor <;> omega) | (rw [e]; simp only [c4, cond_false]; congr 1; omega) | trace_state)
        · have e := com5 h1 h2 hor hl
          have hlt : fnd s mA < fnd s mB := by
            rcases Nat.lt_or_ge (fnd s mA) (fnd s mB) with q | q
            · exact q
            · exfalso
              have hq : fnd s mA = fnd s mB := by omega
              rcases oA with ⟨oa, _⟩ | ⟨oa, _⟩
              · rcases oB with ⟨ob, _⟩ | ⟨ob, _⟩
                · rw [hq] at oa; exact ab_ne s _ oa ob
                · have := oa.1; omega
              · rcases oB with ⟨ob, _⟩ | ⟨ob, _⟩
                · have := ob.1; omega
                · exact hn ⟨oa, ob⟩
          repeat' ((conv => whnf); first | (with_reducible rfl) | exact True.intro | (with_reducible exact absTF) | (with_reducible exact absFT) | intro _ | refine And.intro ?_ ?_ | refine Fin.mk ?_ | refine CallG.plain rfl ?_ ?_ | refine CallG.mk rfl ?_ ?_ | refine CallG.nwl rfl ?_ ?_ | refine CallG.nw ?_ ?_ | refine CallF.nwl rfl ?_ ?_ | refine CallF.nw ?_ ?_ | refine AppN.mk ?_ | (refine CallS.q ?_; (conv => whnf); first | refine CallG.plain rfl ?_ ?_ | refine CallG.mk rfl ?_ ?_) | (refine CallS.m ?_; (conv => whnf); refine CallM.mk rfl ?_ ?_) | (refine CallS.h ?_; (conv => whnf); refine CallM.mk rfl ?_ ?_) | (refine CallS.b ?_; (conv => whnf); refine CallM.mk rfl ?_ ?_) | (refine CallS.z ?_; (conv => whnf); refine CallM.mk rfl ?_ ?_))
          all_goals (try (conv => whnf))
          all_goals (try (exact Ob.mk (u8_bnd _)))
          all_goals (try (refine Ob.mk ?_; first | exact True.intro | assumption | omega | (try simp only [decide_eq_true_eq, decide_eq_false_iff_not, beq_iff_eq, beq_eq_false_iff_ne, bne_iff_ne, bne_eq_false_iff_eq, ne_eq, Bool.and_eq_true, Bool.or_eq_true, Bool.not_eq_true, Bool.not_eq_false, Bool.not_eq_true', Bool.not_eq_false', Int.toNat_natCast, Int.not_lt, Int.not_le, UInt8.ofNat_toNat, cast_eq] at *; omega)))
          all_goals (try ((show (_:Int) = _); omega))
          all_goals (try (show tupSV _ = _; with_unfolding_all rfl))
          all_goals (try ((show (_ : Nat) ≤ _); (simp <;> omega)))
          all_goals (try ((show (_ : Nat) ≤ _ ∧ (_ : Nat) ≤ _); (simp <;> omega)))
          all_goals (try ((show (_ : Int) ≤ _ ∧ (_ : Int) ≤ _ ∧ (_ : Int) ≤ _ ∧ (_ : Int) ≤ _); (simp <;> omega)))
          all_goals (try simp only [eA, eB] at *)
          all_goals (try (exfalso; have h : begP s [62] = true := ‹_›; rw [h1] at h; cases h; done))
          all_goals (try (exfalso; have h : begP s [45, 62] = true := ‹_›; rw [h2] at h; cases h; done))
          all_goals (try (exfalso; have h : ((fnd s mA : Int) == (s.length : Int) && (fnd s mB : Int) == (s.length : Int)) = true := ‹_›; simp only [Bool.and_eq_true, beq_iff_eq] at h; omega))
          all_goals (try (exfalso; have h := of_decide_eq_false ‹decide ((fnd s mA : Int) < (fnd s mB : Int)) = false›; omega))
          all_goals (first | (rw [e]; done) | (rw [e]; rfl) | exact ⟨by omega, by omega, by decide, by decide, by omega⟩ | omega | (rw [e]; simp only [c4, cond_false]; omega) | (constructor <;> omega) | (simp only [cond_false]; constructor <;> omega) | (rw [e]; simp only [c4, cond_false]; congr 1; omega) | trace_state)
    · have e := com2 h1 h2
      repeat' ((conv => whnf); first | (with_reducible rfl) | exact True.intro | (with_reducible exact absTF) | (with_reducible exact absFT) | intro _ | refine And.intro ?_ ?_ | refine Fin.mk ?_ | refine CallG.plain rfl ?_ ?_ | refine CallG.mk rfl ?_ ?_ | refine CallG.nwl rfl ?_ ?_ | refine CallG.nw ?_ ?_ | refine CallF.nwl rfl ?_ ?_ | refine CallF.nw ?_ ?_ | refine AppN.mk ?_ | (refine CallS.q ?_; (conv => whnf); first | refine CallG.plain rfl ?_ ?_ | refine CallG.mk rfl ?_ ?_) | (refine CallS.m ?_; (conv => whnf); refine CallM.mk rfl ?_ ?_) | (refine CallS.h ?_; (conv => whnf); refine CallM.mk rfl ?_ ?_) | (refine CallS.b ?_; (conv => whnf); refine CallM.mk rfl ?_ ?_) | (refine CallS.z ?_; (conv => whnf); refine CallM.mk rfl ?_ ?_))
      all_goals (try (conv => whnf))
      all_goals (try (exact Ob.mk (u8_bnd _)))
      all_goals (try (refine Ob.mk ?_; first | exact True.intro | assumption | omega | (try simp only [decide_eq_true_eq, decide_eq_false_iff_not, beq_iff_eq, beq_eq_false_iff_ne, bne_iff_ne, bne_eq_false_iff_eq, ne_eq, Bool.and_eq_true, Bool.or_eq_true, Bool.not_eq_true, Bool.not_eq_false, Bool.not_eq_true', Bool.not_eq_false', Int.toNat_natCast, Int.not_lt, Int.not_le, UInt8.ofNat_toNat, cast_eq] at *; omega)))
      all_goals (try ((show (_:Int) = _); omega))
      all_goals (try (show tupSV _ = _; with_unfolding_all rfl))
      all_goals (try ((show (_ : Nat) ≤ _); (simp <;> omega)))
      all_goals (try ((show (_ : Nat) ≤ _ ∧ (_ : Nat) ≤ _); (simp <;> omega)))
      all_goals (try ((show (_ : Int) ≤ _ ∧ (_ : Int) ≤ _ ∧ (_ : Int) ≤ _ ∧ (_ : Int) ≤ _); (simp <;> omega)))
      all_goals (try (exfalso; have h : begP s [62] = true := ‹_›; rw [h1] at h; cases h; done))
      all_goals (try (exfalso; have h : begP s [45, 62] = false := ‹_›; rw [h2] at h; cases h; done))
      all_goals (first | (rw [e]; done) | (rw [e]; rfl) | exact ⟨by omega, by omega, by decide, by decide, by omega⟩ | omega | (rw [e]; simp only [c4, cond_false]; omega) | (constructor <;> omega) | (simp only [cond_false]; constructor <;> omega) | (rw [e]; simp only [c4, cond_false]; congr 1; omega) | trace_state)
  · have e := com1 h1
    repeat' ((conv => whnf); first | (with_reducible rfl) | exact True.intro | (with_reducible exact absTF) | (with_reducible exact absFT) | intro _ | refine And.intro ?_ ?_ | refine Fin.mk ?_ | refine CallG.plain rfl ?_ ?_ | refine CallG.mk rfl ?_ ?_ | refine CallG.nwl rfl ?_ ?_ | refine CallG.nw ?_ ?_ | refine CallF.nwl rfl ?_ ?_ | refine CallF.nw ?_ ?_ | refine AppN.mk ?_ | (refine CallS.q ?_; (conv => whnf); first | refine CallG.plain rfl ?_ ?_ | refine CallG.mk rfl ?_ ?_) | (refine CallS.m ?_; (conv => whnf); refine CallM.mk rfl ?_ ?_) | (refine CallS.h ?_; (conv => whnf); refine CallM.mk rfl ?_ ?_) | (refine CallS.b ?_; (conv => whnf); refine CallM.mk rfl ?_ ?_) | (refine CallS.z ?_; (conv => whnf); refine CallM.mk rfl ?_ ?_))
    all_goals (try (conv => whnf))
    all_goals (try (exact Ob.mk (u8_bnd _)))
    all_goals (try (refine Ob.mk ?_; first | exact True.intro | assumption | omega | (try simp only [decide_eq_true_eq, decide_eq_false_iff_not, beq_iff_eq, beq_eq_false_iff_ne, bne_iff_ne, bne_eq_false_iff_eq, ne_eq, Bool.and_eq_true, Bool.or_eq_true, Bool.not_eq_true, Bool.not_eq_false, Bool.not_eq_true', Bool.not_eq_false', Int.toNat_natCast, Int.not_lt, Int.not_le, UInt8.ofNat_toNat, cast_eq] at *; omega)))
    all_goals (try ((show (_:Int) = _); omega))
    all_goals (try (show tupSV _ = _; with_unfolding_all rfl))
    all_goals (try ((show (_ : Nat) ≤ _); (simp <;> omega)))
    all_goals (try ((show (_ : Nat) ≤ _ ∧ (_ : Nat) ≤ _); (simp <;> omega)))
    all_goals (try ((show (_ : Int) ≤ _ ∧ (_ : Int) ≤ _ ∧ (_ : Int) ≤ _ ∧ (_ : Int) ≤ _); (simp <;> omega)))
    all_goals (try (exfalso; have h : begP s [62] = false := ‹_›; rw [h1] at h; cases h; done))
    all_goals (first | (rw [e]; done) | (rw [e]; rfl) | exact ⟨by omega, by omega, by decide, by decide, by omega⟩ | omega | (rw [e]; simp only [c4, cond_false]; omega) | (constructor <;> omega) | (simp only [cond_false]; constructor <;> omega) | (rw [e]; simp only [c4, cond_false]; congr 1; omega) | trace_state)
instance rRDoc (s : List UInt8) : Fn BB 35 [.str s] (9 ≤ s.length ∧ s.length ≤ 900000) (rkSV (docP s)) := by
  refine Fn.intro (N := 46) [0, 2, 3, 4, 5, 6, 7, 20, 33] [] Tryd.call35 Tryd.func35 rfl rfl (by kernel_rfl) (fun hpre => ?_)
  obtain ⟨p1, p2⟩ := hpre
  have h1 := uN_one (s.drop 9) 62
  have hle := fnd_le (s.drop 9) [62]
  rw [List.length_drop] at h1 hle
  have e9 : (9 : Int).toNat = 9 := rfl
  have eU : (docP s).2.2.2.1 = ((9 + uN (s.drop 9) [62] : Nat) : Int) := rfl
  have eN : (docP s).2.1 = lowL ((((s.drop 9).take (fnd (s.drop 9) [62])).dropWhile spB).takeWhile fun c => !spB c) := rfl
  have eS : (s.take (9 + fnd (s.drop 9) [62])).drop 9 = (s.drop 9).take (fnd (s.drop 9) [62]) := by rw [List.drop_take]; congr 1; omega
  have lS : ((s.drop 9).take (fnd (s.drop 9) [62])).length ≤ s.length := by simp; omega
  repeat' ((conv => whnf); first | (with_reducible rfl) | exact True.intro | (with_reducible exact absTF) | (with_reducible exact absFT) | intro _ | refine And.intro ?_ ?_ | refine Fin.mk ?_ | refine CallG.plain rfl ?_ ?_ | refine CallG.mk rfl ?_ ?_ | refine CallG.nwl rfl ?_ ?_ | refine CallG.nw ?_ ?_ | refine CallF.nwl rfl ?_ ?_ | refine CallF.nw ?_ ?_ | refine AppN.mk ?_ | (refine CallS.q ?_; (conv => whnf); first | refine CallG.plain rfl ?_ ?_ | refine CallG.mk rfl ?_ ?_) | (refine CallS.m ?_; (conv => whnf); refine CallM.mk rfl ?_ ?_) | (refine CallS.h ?_; (conv => whnf); refine CallM.mk rfl ?_ ?_) | (refine CallS.b ?_; (conv => whnf); refine CallM.mk rfl ?_ ?_) | (refine CallS.z ?_; (conv => whnf); refine CallM.mk rfl ?_ ?_))
  all_goals (try (conv => whnf))
  all_goals (try (exact Ob.mk (u8_bnd _)))
  all_goals (try (refine Ob.mk ?_; first | exact True.intro | assumption | omega | (try simp only [decide_eq_true_eq, decide_eq_false_iff_not, beq_iff_eq, beq_eq_false_iff_ne, bne_iff_ne, bne_eq_false_iff_eq, ne_eq, Bool.and_eq_true, Bool.or_eq_true, Bool.not_eq_true, Bool.not_eq_false, Bool.not_eq_true', Bool.not_eq_false', Int.toNat_natCast, Int.not_lt, Int.not_le, UInt8.ofNat_toNat, cast_eq] at *; omega)))
  all_goals (try ((show (_:Int) = _); omega))
  all_goals (try (show tupSV _ = _; with_unfolding_all rfl))
  all_goals (try ((show (_ : Nat) ≤ _); (simp <;> omega)))
  all_goals (try ((show (_ : Nat) ≤ _ ∧ (_ : Nat) ≤ _); (simp <;> omega)))
  all_goals (try ((show (_ : Int) ≤ _ ∧ (_ : Int) ≤ _ ∧ (_ : Int) ≤ _ ∧ (_ : Int) ≤ _); (simp <;> omega)))
  all_goals (try simp only [e9, Int.toNat_natCast, eS] at *)
  · exact ⟨by omega, by omega, by decide, by decide, p2⟩
  · omega
  · generalize (s.drop 9).take (fnd (s.drop 9) [62]) = Q at *
    refine LoopStop.mk (α := List UInt8) (fun a => [(6, .str a)]) (fun a => []) 20 (fun a => a.length ≤ s.length ∧ a.dropWhile spB = Q.dropWhile spB) (fun a => a.length) Q ⟨by omega, rfl⟩ ?_ (fun a ha => ?_)
    · repeat' ((conv => whnf); first | (with_reducible rfl) | exact True.intro | (with_reducible exact absTF) | (with_reducible exact absFT) | intro _ | refine And.intro ?_ ?_ | refine Fin.mk ?_ | refine CallG.plain rfl ?_ ?_ | refine CallG.mk rfl ?_ ?_ | refine CallG.nwl rfl ?_ ?_ | refine CallG.nw ?_ ?_ | refine CallF.nwl rfl ?_ ?_ | refine CallF.nw ?_ ?_ | refine AppN.mk ?_ | (refine CallS.q ?_; (conv => whnf); first | refine CallG.plain rfl ?_ ?_ | refine CallG.mk rfl ?_ ?_) | (refine CallS.m ?_; (conv => whnf); refine CallM.mk rfl ?_ ?_) | (refine CallS.h ?_; (conv => whnf); refine CallM.mk rfl ?_ ?_) | (refine CallS.b ?_; (conv => whnf); refine CallM.mk rfl ?_ ?_) | (refine CallS.z ?_; (conv => whnf); refine CallM.mk rfl ?_ ?_))
      all_goals (try (conv => whnf))
      all_goals (try (exact Ob.mk (u8_bnd _)))
      all_goals (try (refine Ob.mk ?_; first | exact True.intro | assumption | omega | (try simp only [decide_eq_true_eq, decide_eq_false_iff_not, beq_iff_eq, beq_eq_false_iff_ne, bne_iff_ne, bne_eq_false_iff_eq, ne_eq, Bool.and_eq_true, Bool.or_eq_true, Bool.not_eq_true, Bool.not_eq_false, Bool.not_eq_true', Bool.not_eq_false', Int.toNat_natCast, Int.not_lt, Int.not_le, UInt8.ofNat_toNat, cast_eq] at *; omega)))
      all_goals (try ((show (_:Int) = _); omega))
      all_goals (try (show tupSV _ = _; with_unfolding_all rfl))
      all_goals (try ((show (_ : Nat) ≤ _); (simp <;> omega)))
      all_goals (try ((show (_ : Nat) ≤ _ ∧ (_ : Nat) ≤ _); (simp <;> omega)))
      all_goals (try ((show (_ : Int) ≤ _ ∧ (_ : Int) ≤ _ ∧ (_ : Int) ≤ _ ∧ (_ : Int) ≤ _); (simp <;> omega)))
    · repeat' ((conv => whnf); first | (with_reducible rfl) | exact True.intro | (with_reducible exact absTF) | (with_reducible exact absFT) | intro _ | refine And.intro ?_ ?_ | refine Fin.mk ?_ | refine CallG.plain rfl ?_ ?_ | refine CallG.mk rfl ?_ ?_ | refine CallG.nwl rfl ?_ ?_ | refine CallG.nw ?_ ?_ | refine CallF.nwl rfl ?_ ?_ | refine CallF.nw ?_ ?_ | refine AppN.mk ?_ | (refine CallS.q ?_; (conv => whnf); first | refine CallG.plain rfl ?_ ?_ | refine CallG.mk rfl ?_ ?_) | (refine CallS.m ?_; (conv => whnf); refine CallM.mk rfl ?_ ?_) | (refine CallS.h ?_; (conv => whnf); refine CallM.mk rfl ?_ ?_) | (refine CallS.b ?_; (conv => whnf); refine CallM.mk rfl ?_ ?_) | (refine CallS.z ?_; (conv => whnf); refine CallM.mk rfl ?_ ?_))
      all_goals (try (conv => whnf))
      all_goals (try (exact Ob.mk (u8_bnd _)))
      all_goals (try (refine Ob.mk ?_; first | exact True.intro | assumption | omega | (try simp only [decide_eq_true_eq, decide_eq_false_iff_not, beq_iff_eq, beq_eq_false_iff_ne, bne_iff_ne, bne_eq_false_iff_eq, ne_eq, Bool.and_eq_true, Bool.or_eq_true, Bool.not_eq_true, Bool.not_eq_false, Bool.not_eq_true', Bool.not_eq_false', Int.toNat_natCast, Int.not_lt, Int.not_le, UInt8.ofNat_toNat, cast_eq] at *; omega)))
      all_goals (try ((show (_:Int) = _); omega))
      all_goals (try (show tupSV _ = _; with_unfolding_all rfl))
      all_goals (try ((show (_ : Nat) ≤ _); (simp <;> omega)))
      all_goals (try ((show (_ : Nat) ≤ _ ∧ (_ : Nat) ≤ _); (simp <;> omega)))
      all_goals (try ((show (_ : Int) ≤ _ ∧ (_ : Int) ≤ _ ∧ (_ : Int) ≤ _ ∧ (_ : Int) ≤ _); (simp <;> omega)))
      · rename_i h0 h
        have h' : decide ((a.length : Int) > 0) = true ∧ W.isSp ((a.getD 0 0).toNat : Int) = true := by simpa using h
        have hl : 0 < a.length := by have := of_decide_eq_true h'.1; omega
        refine Rnd.mk ⟨a.drop 1, ⟨by rw [List.length_drop]; omega, (dw_step hl h'.2).trans ha.2⟩, by rw [List.length_drop]; omega, ?_⟩
        repeat' ((conv => whnf); first | (with_reducible rfl) | exact True.intro | (with_reducible exact absTF) | (with_reducible exact absFT) | intro _ | refine And.intro ?_ ?_ | refine Fin.mk ?_ | refine CallG.plain rfl ?_ ?_ | refine CallG.mk rfl ?_ ?_ | refine CallG.nwl rfl ?_ ?_ | refine CallG.nw ?_ ?_ | refine CallF.nwl rfl ?_ ?_ | refine CallF.nw ?_ ?_ | refine AppN.mk ?_ | (refine CallS.q ?_; (conv => whnf); first | refine CallG.plain rfl ?_ ?_ | refine CallG.mk rfl ?_ ?_) | (refine CallS.m ?_; (conv => whnf); refine CallM.mk rfl ?_ ?_) | (refine CallS.h ?_; (conv => whnf); refine CallM.mk rfl ?_ ?_) | (refine CallS.b ?_; (conv => whnf); refine CallM.mk rfl ?_ ?_) | (refine CallS.z ?_; (conv => whnf); refine CallM.mk rfl ?_ ?_))
        all_goals (try (conv => whnf))
        all_goals (try (exact Ob.mk (u8_bnd _)))
        all_goals (try (refine Ob.mk ?_; first | exact True.intro | assumption | omega | (try simp only [decide_eq_true_eq, decide_eq_false_iff_not, beq_iff_eq, beq_eq_false_iff_ne, bne_iff_ne, bne_eq_false_iff_eq, ne_eq, Bool.and_eq_true, Bool.or_eq_true, Bool.not_eq_true, Bool.not_eq_false, Bool.not_eq_true', Bool.not_eq_false', Int.toNat_natCast, Int.not_lt, Int.not_le, UInt8.ofNat_toNat, cast_eq] at *; omega)))
        all_goals (try ((show (_:Int) = _); omega))
        all_goals (try (show tupSV _ = _; with_unfolding_all rfl))
        all_goals (try ((show (_ : Nat) ≤ _); (simp <;> omega)))
        all_goals (try ((show (_ : Nat) ≤ _ ∧ (_ : Nat) ≤ _); (simp <;> omega)))
        all_goals (try ((show (_ : Int) ≤ _ ∧ (_ : Int) ≤ _ ∧ (_ : Int) ≤ _ ∧ (_ : Int) ≤ _); (simp <;> omega)))
        all_goals rfl
      · rename_i h0 h
        have hA : a.dropWhile spB = a := dw_stop fun hl => by
          have hl' : decide ((a.length : Int) > 0) = true := decide_eq_true (by omega)
          rw [hl', Bool.true_and] at h
          exact h
        have hB : a = Q.dropWhile spB := hA.symm.trans ha.2
        rw [← hB] at eN
        refine LoopStop.mk (α := Nat) (fun k => [(7, .int .i64 k)]) (fun b => []) 40 (fun k => k ≤ a.length ∧ a.takeWhile (fun c => !spB c) = a.take k ++ (a.drop k).takeWhile (fun c => !spB c)) (fun k => a.length - k) 0 ⟨by omega, by simp⟩ ?_ (fun k hk => ?_)
        · repeat' ((conv => whnf); first | (with_reducible rfl) | exact True.intro | (with_reducible exact absTF) | (with_reducible exact absFT) | intro _ | refine And.intro ?_ ?_ | refine Fin.mk ?_ | refine CallG.plain rfl ?_ ?_ | refine CallG.mk rfl ?_ ?_ | refine CallG.nwl rfl ?_ ?_ | refine CallG.nw ?_ ?_ | refine CallF.nwl rfl ?_ ?_ | refine CallF.nw ?_ ?_ | refine AppN.mk ?_ | (refine CallS.q ?_; (conv => whnf); first | refine CallG.plain rfl ?_ ?_ | refine CallG.mk rfl ?_ ?_) | (refine CallS.m ?_; (conv => whnf); refine CallM.mk rfl ?_ ?_) | (refine CallS.h ?_; (conv => whnf); refine CallM.mk rfl ?_ ?_) | (refine CallS.b ?_; (conv => whnf); refine CallM.mk rfl ?_ ?_) | (refine CallS.z ?_; (conv => whnf); refine CallM.mk rfl ?_ ?_))
          all_goals (try (conv => whnf))
          all_goals (try (exact Ob.mk (u8_bnd _)))
          all_goals (try (refine Ob.mk ?_; first | exact True.intro | assumption | omega | (try simp only [decide_eq_true_eq, decide_eq_false_iff_not, beq_iff_eq, beq_eq_false_iff_ne, bne_iff_ne, bne_eq_false_iff_eq, ne_eq, Bool.and_eq_true, Bool.or_eq_true, Bool.not_eq_true, Bool.not_eq_false, Bool.not_eq_true', Bool.not_eq_false', Int.toNat_natCast, Int.not_lt, Int.not_le, UInt8.ofNat_toNat, cast_eq] at *; omega)))
          all_goals (try ((show (_:Int) = _); omega))
          all_goals (try (show tupSV _ = _; with_unfolding_all rfl))
          all_goals (try ((show (_ : Nat) ≤ _); (simp <;> omega)))
          all_goals (try ((show (_ : Nat) ≤ _ ∧ (_ : Nat) ≤ _); (simp <;> omega)))
          all_goals (try ((show (_ : Int) ≤ _ ∧ (_ : Int) ≤ _ ∧ (_ : Int) ≤ _ ∧ (_ : Int) ≤ _); (simp <;> omega)))
          all_goals rfl
        · obtain ⟨k1, k2⟩ := hk
          repeat' ((conv => whnf); first | (with_reducible rfl) | exact True.intro | (with_reducible exact absTF) | (with_reducible exact absFT) | intro _ | refine And.intro ?_ ?_ | refine Fin.mk ?_ | refine CallG.plain rfl ?_ ?_ | refine CallG.mk rfl ?_ ?_ | refine CallG.nwl rfl ?_ ?_ | refine CallG.nw ?_ ?_ | refine CallF.nwl rfl ?_ ?_ | refine CallF.nw ?_ ?_ | refine AppN.mk ?_ | (refine CallS.q ?_; (conv => whnf); first | refine CallG.plain rfl ?_ ?_ | refine CallG.mk rfl ?_ ?_) | (refine CallS.m ?_; (conv => whnf); refine CallM.mk rfl ?_ ?_) | (refine CallS.h ?_; (conv => whnf); refine CallM.mk rfl ?_ ?_) | (refine CallS.b ?_; (conv => whnf); refine CallM.mk rfl ?_ ?_) | (refine CallS.z ?_; (conv => whnf); refine CallM.mk rfl ?_ ?_))
          all_goals (try (conv => whnf))
          all_goals (try (exact Ob.mk (u8_bnd _)))
          all_goals (try (refine Ob.mk ?_; first | exact True.intro | assumption | omega | (try simp only [decide_eq_true_eq, decide_eq_false_iff_not, beq_iff_eq, beq_eq_false_iff_ne, bne_iff_ne, bne_eq_false_iff_eq, ne_eq, Bool.and_eq_true, Bool.or_eq_true, Bool.not_eq_true, Bool.not_eq_false, Bool.not_eq_true', Bool.not_eq_false', Int.toNat_natCast, Int.not_lt, Int.not_le, UInt8.ofNat_toNat, cast_eq] at *; omega)))
          all_goals (try ((show (_:Int) = _); omega))
          all_goals (try (show tupSV _ = _; with_unfolding_all rfl))
          all_goals (try ((show (_ : Nat) ≤ _); (simp <;> omega)))
          all_goals (try ((show (_ : Nat) ≤ _ ∧ (_ : Nat) ≤ _); (simp <;> omega)))
          all_goals (try ((show (_ : Int) ≤ _ ∧ (_ : Int) ≤ _ ∧ (_ : Int) ≤ _ ∧ (_ : Int) ≤ _); (simp <;> omega)))
          all_goals (try simp only [Int.toNat_natCast] at *)
          · rename_i h2 h3
            have h' : decide ((k : Int) < (a.length : Int)) = true ∧ (!W.isSp ((a.getD k 0).toNat : Int)) = true := by simpa only [Bool.and_eq_true] using h3
            have hl : k < a.length := by have := of_decide_eq_true h'.1; omega
            refine Rnd.mk ⟨k + 1, ⟨by omega, ?_⟩, by omega, ?_⟩
            · have hs : (!spB a[k]) = true := by
                have e : a.getD k 0 = a[k] := by simp [List.getD, List.getElem?_eq_getElem hl]
                have := h'.2
                rw [e] at this; exact this
              rw [k2, drop_at a k hl, List.takeWhile_cons, if_pos hs, List.take_succ_eq_append_getElem hl, List.append_assoc, List.singleton_append]
            · repeat' ((conv => whnf); first | (with_reducible rfl) | exact True.intro | (with_reducible exact absTF) | (with_reducible exact absFT) | intro _ | refine And.intro ?_ ?_ | refine Fin.mk ?_ | refine CallG.plain rfl ?_ ?_ | refine CallG.mk rfl ?_ ?_ | refine CallG.nwl rfl ?_ ?_ | refine CallG.nw ?_ ?_ | refine CallF.nwl rfl ?_ ?_ | refine CallF.nw ?_ ?_ | refine AppN.mk ?_ | (refine CallS.q ?_; (conv => whnf); first | refine CallG.plain rfl ?_ ?_ | refine CallG.mk rfl ?_ ?_) | (refine CallS.m ?_; (conv => whnf); refine CallM.mk rfl ?_ ?_) | (refine CallS.h ?_; (conv => whnf); refine CallM.mk rfl ?_ ?_) | (refine CallS.b ?_; (conv => whnf); refine CallM.mk rfl ?_ ?_) | (refine CallS.z ?_; (conv => whnf); refine CallM.mk rfl ?_ ?_))
              all_goals (try (conv => whnf))
              all_goals (try (exact Ob.mk (u8_bnd _)))
              all_goals (try (refine Ob.mk ?_; first | exact True.intro | assumption | omega | (try simp only [decide_eq_true_eq, decide_eq_false_iff_not, beq_iff_eq, beq_eq_false_iff_ne, bne_iff_ne, bne_eq_false_iff_eq, ne_eq, Bool.and_eq_true, Bool.or_eq_true, Bool.not_eq_true, Bool.not_eq_false, Bool.not_eq_true', Bool.not_eq_false', Int.toNat_natCast, Int.not_lt, Int.not_le, UInt8.ofNat_toNat, cast_eq] at *; omega)))
              all_goals (try ((show (_:Int) = _); omega))
              all_goals (try (show tupSV _ = _; with_unfolding_all rfl))
              all_goals (try ((show (_ : Nat) ≤ _); (simp <;> omega)))
              all_goals (try ((show (_ : Nat) ≤ _ ∧ (_ : Nat) ≤ _); (simp <;> omega)))
              all_goals (try ((show (_ : Int) ≤ _ ∧ (_ : Int) ≤ _ ∧ (_ : Int) ≤ _ ∧ (_ : Int) ≤ _); (simp <;> omega)))
              all_goals rfl
          all_goals (
            have hT : a.takeWhile (fun c => !spB c) = a.take k := by
              have h3 : (decide ((k : Int) < (a.length : Int)) && !W.isSp ((a.getD k 0).toNat : Int)) = false := ‹_›
              rw [k2]
              have : (a.drop k).takeWhile (fun c => !spB c) = [] := by
                rcases Nat.lt_or_ge k a.length with hl | hl
                · have hl' : decide ((k : Int) < (a.length : Int)) = true := decide_eq_true (by omega)
                  rw [hl', Bool.true_and] at h3
                  have e : a.getD k 0 = a[k] := by simp [List.getD, List.getElem?_eq_getElem hl]
                  rw [e] at h3
                  rw [drop_at a k hl, List.takeWhile_cons, if_neg (by show ¬ (!W.isSp (a[k].toNat : Int)) = true; rw [h3]; decide)]
                · rw [List.drop_eq_nil_of_le hl]; rfl
              rw [this, List.append_nil])
          all_goals (first | rfl | (rw [eN, hT]; done) | omega | (constructor <;> omega) | (rw [eU]; simp only [cond_false]; omega) | trace_state)
theorem begP_get {s p : List UInt8} : begP s p = true ↔ occ s p 0 := by
  unfold begP
  rw [Bool.and_eq_true, ← pre_iff, List.isPrefixOf_iff_prefix, List.prefix_iff_eq_take, beq_iff_eq]
  constructor
  · rintro ⟨_, h⟩; exact h.symm
  · intro h
    refine ⟨?_, h.symm⟩
    have := congrArg List.length h
    simp at this
    simp; omega
end Go.Vc

namespace Go.Vc
open Go.Proofs
set_option linter.unusedVariables false
set_option maxRecDepth 10000
set_option linter.unusedSimpArgs false
set_option maxHeartbeats 4000000
theorem beg2 (s : List UInt8) (a b : UInt8) : begP s [a, b] = true ↔ 2 ≤ s.length ∧ s.getD 0 0 = a ∧ s.getD 1 0 = b := by
  rw [begP_get]
  constructor
  · rintro ⟨h1, h2⟩
    have e0 := h2 0 (by simp)
    have e1 := h2 1 (by simp)
    exact ⟨by simpa using h1, by simpa using e0, by simpa using e1⟩
  · rintro ⟨h1, h2, h3⟩
    refine ⟨by simpa using h1, fun j hj => ?_⟩
    have : j = 0 ∨ j = 1 := by simp at hj; omega
    rcases this with rfl | rfl
    · simpa using h2
    · simpa using h3
theorem beg3 (s : List UInt8) (a b c : UInt8) : begP s [a, b, c] = true ↔ begP s [a, b] = true ∧ 3 ≤ s.length ∧ s.getD 2 0 = c := by
  rw [beg2, begP_get]
  constructor
  · rintro ⟨h1, h2⟩
    have e0 := h2 0 (by simp)
    have e1 := h2 1 (by simp)
    have e2 := h2 2 (by simp)
    simp at h1
    exact ⟨⟨by omega, by simpa using e0, by simpa using e1⟩, by omega, by simpa using e2⟩
  · rintro ⟨⟨h0, h2, h3⟩, h1, h4⟩
    refine ⟨by simpa using h1, fun j hj => ?_⟩
    have : j = 0 ∨ j = 1 ∨ j = 2 := by simp at hj; omega
    rcases this with rfl | rfl | rfl
    · simpa using h2
    · simpa using h3
    · simpa using h4
theorem beg_more {s p q : List UInt8} (h : begP s (p ++ q) = true) : begP s p = true := by
  rw [begP_get] at h ⊢
  refine ⟨by have := h.1; simp at this; omega, fun j hj => ?_⟩
  have := h.2 j (by simp; omega)
  rw [this]
  simp only [List.getD]
  rw [List.getElem?_append_left hj]
theorem b_iff (c k : UInt8) : ((c.toNat : Int) == (k.toNat : Int)) = (c == k) := by
  rw [Bool.eq_iff_iff, beq_iff_eq, beq_iff_eq]
  constructor
  · intro h; exact UInt8.toNat_inj.1 (by omega)
  · rintro rfl; rfl
theorem r0_iff (s : List UInt8) : r0 s = false ↔ 2 ≤ s.length ∧ s.getD 0 0 = 60 := by
  unfold r0
  have e : (((s.getD 0 0).toNat : Int) == 60) = (s.getD 0 0 == 60) := b_iff (s.getD 0 0) 60
  rw [Bool.or_eq_false_iff, bne, e, Bool.not_eq_false', beq_iff_eq, decide_eq_false_iff_not]
  constructor <;> (rintro ⟨a, b⟩; exact ⟨by omega, b⟩)
theorem rk33 (s : List UInt8) : rk s 33 = true ↔ s.getD 1 0 = 33 := by
  unfold rk; rw [show (((s.getD 1 0).toNat : Int) == 33) = (s.getD 1 0 == 33) from b_iff _ 33, beq_iff_eq]
theorem rk63 (s : List UInt8) : rk s 63 = true ↔ s.getD 1 0 = 63 := by
  unfold rk; rw [show (((s.getD 1 0).toNat : Int) == 63) = (s.getD 1 0 == 63) from b_iff _ 63, beq_iff_eq]
theorem rk47 (s : List UInt8) : rk s 47 = true ↔ s.getD 1 0 = 47 := by
  unfold rk; rw [show (((s.getD 1 0).toNat : Int) == 47) = (s.getD 1 0 == 47) from b_iff _ 47, beq_iff_eq]
theorem readP_bang {s : List UInt8} (f : Bool) (h : begP s [60, 33] = true) : readP s f = declP s f := by
  obtain ⟨h1, h2, h3⟩ := (beg2 s 60 33).1 h
  unfold readP
  rw [if_neg (by rw [(r0_iff s).2 ⟨h1, h2⟩]; decide), if_pos ((rk33 s).2 h3)]
theorem readP_ques {s : List UInt8} (f : Bool) (h : begP s [60, 63] = true) : readP s f = bogusP s 1 := by
  obtain ⟨h1, h2, h3⟩ := (beg2 s 60 63).1 h
  unfold readP
  rw [if_neg (by rw [(r0_iff s).2 ⟨h1, h2⟩]; decide), if_neg (by intro q; have := (rk33 s).1 q; rw [h3] at this; exact absurd this (by decide)), if_pos ((rk63 s).2 h3)]
theorem readP_slash {s : List UInt8} (f : Bool) (h : begP s [60, 47] = true) : readP s f = if r62 s = true then (0, [], [], 3, false) else if rAl s = true then bogusP s 2 else (0, [], [], 0, false) := by
  obtain ⟨h1, h2, h3⟩ := (beg2 s 60 47).1 h
  unfold readP
  rw [if_neg (by rw [(r0_iff s).2 ⟨h1, h2⟩]; decide), if_neg (by intro q; have := (rk33 s).1 q; rw [h3] at this; exact absurd this (by decide)), if_neg (by intro q; have := (rk63 s).1 q; rw [h3] at this; exact absurd this (by decide)), if_pos ((rk47 s).2 h3)]
theorem r62_iff {s : List UInt8} (h : begP s [60, 47] = true) : r62 s = begP s [60, 47, 62] := by
  rw [Bool.eq_iff_iff, beg3]
  unfold r62
  rw [Bool.and_eq_true, show (((s.getD 2 0).toNat : Int) == 62) = (s.getD 2 0 == 62) from b_iff _ 62]
  simp [h]
  omega
theorem readP_none {s : List UInt8} (f : Bool) (h1 : begP s [60, 33] = false) (h2 : begP s [60, 63] = false) (h3 : begP s [60, 47] = false) : readP s f = (0, [], [], 0, false) := by
  unfold readP
  by_cases h : r0 s = true
  · rw [if_pos h]
  · rw [if_neg h]
    have h0 := (r0_iff s).1 (by simpa using h)
    rw [if_neg, if_neg, if_neg]
    · intro q; have := (rk47 s).1 q; rw [(beg2 s 60 47).2 ⟨h0.1, h0.2, this⟩] at h3; cases h3
    · intro q; have := (rk63 s).1 q; rw [(beg2 s 60 63).2 ⟨h0.1, h0.2, this⟩] at h2; cases h2
    · intro q; have := (rk33 s).1 q; rw [(beg2 s 60 33).2 ⟨h0.1, h0.2, this⟩] at h1; cases h1
theorem take2_beg (s : List UInt8) (a b : UInt8) (h : 2 ≤ s.length) : (s.take 2 == [a, b]) = begP s [a, b] := by
  unfold begP
  rw [decide_eq_true (by simp; omega), Bool.true_and]; rfl
instance rRRead (s : List UInt8) (f : Bool) : Fn BB 25 [.str s, .bool f] (s.length ≤ 900000) (rkSV (readP s f)) := by
  refine Fn.intro (N := 92) [0, 1, 4, 5, 6, 7, 9, 28, 38, 42, 57, 64, 71, 85] [] Tryd.call25 Tryd.func25 rfl rfl (by kernel_rfl) (fun hpre => ?_)
  have e2 : (2 : Int).toNat = 2 := rfl
  have e4 : (4 : Int).toNat = 4 := rfl
  have e9 : (9 : Int).toNat = 9 := rfl
  have l4 : (s.drop 4).length ≤ s.length := by simp
  have eI : lowL [100, 111, 99, 116, 121, 112, 101] = [100, 111, 99, 116, 121, 112, 101] := by decide
  have t1 : begP s [60, 33, 45, 45] = true → begP s [60, 33] = true ∧ 4 ≤ s.length := fun h => ⟨beg_more (q := [45, 45]) h, by have := (begP_get.1 h).1; simpa using this⟩
  have t2 : begP s cdM = true → begP s [60, 33] = true ∧ 9 ≤ s.length := fun h => ⟨beg_more (q := [91, 67, 68, 65, 84, 65, 91]) h, by have := (begP_get.1 h).1; simpa using this⟩
  have t3 : begP s [60, 33] = true → 2 ≤ s.length := fun h => ((beg2 s _ _).1 h).1
  have t4 : begP s [60, 63] = true → 2 ≤ s.length := fun h => ((beg2 s _ _).1 h).1
  have v1 : begP s [60, 33, 45, 45] = true → readP s f = cm4 s := fun h => by
    rw [readP_bang f (t1 h).1]; unfold declP; rw [if_pos h]
  have hdoc : isDoc s = true → 9 ≤ s.length := fun h => by unfold isDoc at h; rw [Bool.and_eq_true] at h; have := of_decide_eq_true h.1; omega
  have cD : (decide ((s.length : Int) ≥ 9) && List.take (Int.toNat 2) s == [60, 33] && lowL (List.drop (Int.toNat 2) (List.take (Int.toNat 9) s)) == lowL [100, 111, 99, 116, 121, 112, 101]) = (begP s [60, 33] && isDoc s) := by
    rw [eI]
    unfold isDoc
    by_cases h : 9 ≤ s.length
    · have hd : decide ((s.length : Int) ≥ 9) = true := decide_eq_true (by omega)
      rw [hd, e2, e9, take2_beg s _ _ (by omega), Bool.true_and, Bool.true_and]
    · have hd : decide ((s.length : Int) ≥ 9) = false := decide_eq_false (by omega)
      rw [hd]; simp
  have v2 : begP s [60, 33, 45, 45] = false → (begP s [60, 33] && isDoc s) = true → readP s f = docP s ∧ 9 ≤ s.length := fun h h2 => by
    rw [Bool.and_eq_true] at h2
    refine ⟨?_, hdoc h2.2⟩
    rw [readP_bang f h2.1]; unfold declP; rw [if_neg (by rw [h]; decide), if_pos h2.2]
  have v3 : begP s [60, 33, 45, 45] = false → (begP s [60, 33] && isDoc s) = false → (f && begP s cdM) = true → readP s f = secP s ∧ 9 ≤ s.length := fun h h2 h3 => by
    have h4 : begP s cdM = true := by cases f <;> simp_all
    rw [(t2 h4).1, Bool.true_and] at h2
    refine ⟨?_, (t2 h4).2⟩
    rw [readP_bang f (t2 h4).1]; unfold declP; rw [if_neg (by rw [h]; decide), if_neg (by rw [h2]; decide), if_pos h3]
  have v4 : begP s [60, 33, 45, 45] = false → (begP s [60, 33] && isDoc s) = false → (f && begP s cdM) = false → begP s [60, 33] = true → readP s f = bogusP s 2 := fun h h2 h3 h4 => by
    rw [h4, Bool.true_and] at h2
    rw [readP_bang f h4]; unfold declP; rw [if_neg (by rw [h]; decide), if_neg (by rw [h2]; decide), if_neg (by rw [h3]; decide)]
  have v5 : begP s [60, 63] = true → readP s f = bogusP s 1 := readP_ques f
  have v6 : begP s [60, 47, 62] = true → readP s f = (0, [], [], 3, false) := fun h => by
    have h' := ((beg3 s _ _ _).1 h).1
    rw [readP_slash f h', if_pos (by rw [r62_iff h']; exact h)]
  have v7 : begP s [60, 47, 62] = false → (decide ((s.length : Int) > 2) && begP s [60, 47] && !alI ((s.getD (Int.toNat 2) 0).toNat : Int)) = true → readP s f = bogusP s 2 ∧ 2 ≤ s.length := fun h h2 => by
    simp only [Bool.and_eq_true] at h2
    obtain ⟨⟨a, b⟩, c⟩ := h2
    have a' := of_decide_eq_true a
    refine ⟨?_, by omega⟩
    rw [readP_slash f b, if_neg (by rw [r62_iff b, h]; decide), if_pos (by unfold rAl; rw [a, Bool.true_and]; exact c)]
  have v8 : begP s [60, 33] = false → begP s [60, 63] = false → begP s [60, 47, 62] = false → (decide ((s.length : Int) > 2) && begP s [60, 47] && !alI ((s.getD (Int.toNat 2) 0).toNat : Int)) = false → readP s f = (0, [], [], 0, false) := fun h1 h2 h3 h4 => by
    by_cases b : begP s [60, 47] = true
    · rw [readP_slash f b, if_neg (by rw [r62_iff b, h3]; decide), if_neg]
      intro q
      unfold rAl at q
      rw [Bool.and_eq_true] at q
      rw [q.1, b, Bool.true_and, Bool.true_and] at h4
      have := q.2
      rw [show (2 : Int).toNat = 2 from rfl] at h4
      rw [h4] at this; cases this
    · exact readP_none f h1 h2 (by simpa using b)
  have lF := fnd_le (s.drop 9) mC
  rw [List.length_drop] at lF
  have lF' : fnd (s.drop 9) [93, 93, 62] ≤ s.length - 9 := lF
  have sF := fd_spec (s.drop 9) mC (by decide)
  have uF : 9 ≤ s.length → uN (s.drop 9) mC = min (fnd (s.drop 9) mC + 3) (s.length - 9) := fun h => by
    rw [List.length_drop] at sF
    have z : mC.length = 3 := rfl
    cases q : fdB (s.drop 9) mC
    · have := sF.2 q; omega
    · have := sF.1 q; omega
  have w0 : (((9 + fnd (s.drop 9) mC : Nat) : Int) == 9) = decide (fnd (s.drop 9) mC = 0) := by
    rw [Bool.eq_iff_iff, beq_iff_eq, decide_eq_true_eq]; omega
  have w1 : 9 ≤ s.length → decide (fnd (s.drop 9) mC = 0) = true → secP s = (0, [], [], min 12 (s.length : Int), false) := fun h h2 => by
    have h2 := of_decide_eq_true h2
    have e : secD s = [] := by unfold secD; rw [h2]; rfl
    unfold secP
    rw [if_pos e, uF h, h2]
    congr 4
    omega
  have w2 : 9 ≤ s.length → decide (fnd (s.drop 9) mC = 0) = false → secP s = (3, [], (s.take (9 + fnd (s.drop 9) mC)).drop 9, min (((9 + fnd (s.drop 9) mC : Nat) : Int) + 3) (s.length : Int), true) := fun h h2 => by
    have h2 := of_decide_eq_false h2
    have e : secD s ≠ [] := by
      unfold secD
      intro q
      have := congrArg List.length q
      rw [List.length_take, List.length_drop] at this
      simp at this
      omega
    have e3 : (s.take (9 + fnd (s.drop 9) mC)).drop 9 = secD s := by unfold secD; rw [List.drop_take]; congr 1; omega
    unfold secP
    rw [if_neg e, uF h, e3]
    congr 4
    omega
  repeat' ((conv => whnf); first | (with_reducible rfl) | exact True.intro | (with_reducible exact absTF) | (with_reducible exact absFT) | intro _ | refine And.intro ?_ ?_ | refine Fin.mk ?_ | refine CallG.plain rfl ?_ ?_ | refine CallG.mk rfl ?_ ?_ | refine CallG.nwl rfl ?_ ?_ | refine CallG.nw ?_ ?_ | refine CallF.nwl rfl ?_ ?_ | refine CallF.nw ?_ ?_ | refine AppN.mk ?_ | (refine CallS.q ?_; (conv => whnf); first | refine CallG.plain rfl ?_ ?_ | refine CallG.mk rfl ?_ ?_) | (refine CallS.m ?_; (conv => whnf); refine CallM.mk rfl ?_ ?_) | (refine CallS.h ?_; (conv => whnf); refine CallM.mk rfl ?_ ?_) | (refine CallS.b ?_; (conv => whnf); refine CallM.mk rfl ?_ ?_) | (refine CallS.z ?_; (conv => whnf); refine CallM.mk rfl ?_ ?_))
  all_goals (try (conv => whnf))
  all_goals (try (exact Ob.mk (u8_bnd _)))
  all_goals (try (refine Ob.mk ?_; first | exact True.intro | assumption | omega | (try simp only [decide_eq_true_eq, decide_eq_false_iff_not, beq_iff_eq, beq_eq_false_iff_ne, bne_iff_ne, bne_eq_false_iff_eq, ne_eq, Bool.and_eq_true, Bool.or_eq_true, Bool.not_eq_true, Bool.not_eq_false, Bool.not_eq_true', Bool.not_eq_false', Int.toNat_natCast, Int.not_lt, Int.not_le, UInt8.ofNat_toNat, cast_eq] at *; omega)))
  all_goals (try ((show (_:Int) = _); omega))
  all_goals (try (show tupSV _ = _; with_unfolding_all rfl))
  all_goals (try ((show (_ : Nat) ≤ _); (simp <;> omega)))
  all_goals (try ((show (_ : Nat) ≤ _ ∧ (_ : Nat) ≤ _); (simp <;> omega)))
  all_goals (try ((show (_ : Int) ≤ _ ∧ (_ : Int) ≤ _ ∧ (_ : Int) ≤ _ ∧ (_ : Int) ≤ _); (simp <;> omega)))
  all_goals (try simp only [cD] at *)
  all_goals (try simp only [e9, Int.toNat_natCast, w0] at *)
  all_goals (try (have y := v1 ‹begP s [60, 33, 45, 45] = true›; have y4 := (t1 ‹begP s [60, 33, 45, 45] = true›).2))
  all_goals (try (have yz := v2 ‹_› ‹_›; have y := yz.1; have z := yz.2))
  all_goals (try (have yz := v3 ‹_› ‹_› ‹_›; have y0 := yz.1; have z := yz.2))
  all_goals (try (have y := y0.trans (w1 z ‹_›)))
  all_goals (try (have y := y0.trans (w2 z ‹_›)))
  all_goals (try (have y := v4 ‹_› ‹_› ‹_› ‹_›; have z := t3 ‹_›))
  all_goals (try (have y := v5 ‹_›; have z := t4 ‹_›))
  all_goals (try (have y := v6 ‹_›))
  all_goals (try (have yz := v7 ‹_› ‹_›; have y := yz.1; have z := yz.2))
  all_goals (try (have y := v8 ‹_› ‹_› ‹_› ‹_›))
  all_goals (first | omega | (rw [y]; done) | (rw [y]; rfl) | exact ⟨by omega, by omega, by decide, by decide, by omega⟩ | exact ⟨by omega, by omega⟩ | (constructor <;> omega) | exact ⟨by omega, by omega, by omega⟩ | exact u8_bnd _ | trace_state)
end Go.Vc

namespace Go.Vc
open Go.Proofs
set_option linter.unusedVariables false
set_option maxRecDepth 10000
set_option linter.unusedSimpArgs false
set_option maxHeartbeats 4000000
instance rS7 : Fn BB 38 [.nils, .nils] True (.bool true) := by
  refine Fn.intro (N := 26) [0, 1, 4, 5, 10, 14, 25] [(6, [0, 0, 1, 1, 0, 0, 1, 1, 3])] Tryd.call38 Tryd.func38 rfl rfl (by kernel_rfl) (fun hpre => ?_)
  repeat' ((conv => whnf); first | (with_reducible rfl) | exact True.intro | (with_reducible exact absTF) | (with_reducible exact absFT) | intro _ | refine And.intro ?_ ?_ | refine Fin.mk ?_ | refine CallG.plain rfl ?_ ?_ | refine CallG.mk rfl ?_ ?_ | refine CallG.nwl rfl ?_ ?_ | refine CallG.nw ?_ ?_ | refine CallF.nwl rfl ?_ ?_ | refine CallF.nw ?_ ?_ | refine AppN.mk ?_ | (refine CallS.q ?_; (conv => whnf); first | refine CallG.plain rfl ?_ ?_ | refine CallG.mk rfl ?_ ?_) | (refine CallS.m ?_; (conv => whnf); refine CallM.mk rfl ?_ ?_) | (refine CallS.h ?_; (conv => whnf); refine CallM.mk rfl ?_ ?_) | (refine CallS.b ?_; (conv => whnf); refine CallM.mk rfl ?_ ?_) | (refine CallS.z ?_; (conv => whnf); refine CallM.mk rfl ?_ ?_))
  all_goals (try (conv => whnf))
  all_goals (try (exact Ob.mk (u8_bnd _)))
  all_goals (try (refine Ob.mk ?_; first | exact True.intro | assumption | omega | (try simp only [decide_eq_true_eq, decide_eq_false_iff_not, beq_iff_eq, beq_eq_false_iff_ne, bne_iff_ne, bne_eq_false_iff_eq, ne_eq, Bool.and_eq_true, Bool.or_eq_true, Bool.not_eq_true, Bool.not_eq_false, Bool.not_eq_true', Bool.not_eq_false', Int.toNat_natCast, Int.not_lt, Int.not_le, UInt8.ofNat_toNat, cast_eq] at *; omega)))
  all_goals (try ((show (_:Int) = _); omega))
  all_goals (try (show tupSV _ = _; with_unfolding_all rfl))
  all_goals (try ((show (_ : Nat) ≤ _); (simp <;> omega)))
  all_goals (try ((show (_ : Nat) ≤ _ ∧ (_ : Nat) ≤ _); (simp <;> omega)))
  all_goals (try ((show (_ : Int) ≤ _ ∧ (_ : Int) ≤ _ ∧ (_ : Int) ≤ _ ∧ (_ : Int) ≤ _); (simp <;> omega)))
  · exact absurd ‹((0 : Int) != 0) = true› (by decide)
  · refine LoopStop.mk (α := Unit) (fun i => [(5, .int .i64 0)]) (fun i => []) 20 (fun i => True) (fun i => 0) () True.intro ?_ (fun i hi => ?_)
    · repeat' ((conv => whnf); first | (with_reducible rfl) | exact True.intro | (with_reducible exact absTF) | (with_reducible exact absFT) | intro _ | refine And.intro ?_ ?_ | refine Fin.mk ?_ | refine CallG.plain rfl ?_ ?_ | refine CallG.mk rfl ?_ ?_ | refine CallG.nwl rfl ?_ ?_ | refine CallG.nw ?_ ?_ | refine CallF.nwl rfl ?_ ?_ | refine CallF.nw ?_ ?_ | refine AppN.mk ?_ | (refine CallS.q ?_; (conv => whnf); first | refine CallG.plain rfl ?_ ?_ | refine CallG.mk rfl ?_ ?_) | (refine CallS.m ?_; (conv => whnf); refine CallM.mk rfl ?_ ?_) | (refine CallS.h ?_; (conv => whnf); refine CallM.mk rfl ?_ ?_) | (refine CallS.b ?_; (conv => whnf); refine CallM.mk rfl ?_ ?_) | (refine CallS.z ?_; (conv => whnf); refine CallM.mk rfl ?_ ?_))
      all_goals (try (conv => whnf))
      all_goals (try (exact Ob.mk (u8_bnd _)))
      all_goals (try (refine Ob.mk ?_; first | exact True.intro | assumption | omega | (try simp only [decide_eq_true_eq, decide_eq_false_iff_not, beq_iff_eq, beq_eq_false_iff_ne, bne_iff_ne, bne_eq_false_iff_eq, ne_eq, Bool.and_eq_true, Bool.or_eq_true, Bool.not_eq_true, Bool.not_eq_false, Bool.not_eq_true', Bool.not_eq_false', Int.toNat_natCast, Int.not_lt, Int.not_le, UInt8.ofNat_toNat, cast_eq] at *; omega)))
      all_goals (try ((show (_:Int) = _); omega))
      all_goals (try (show tupSV _ = _; with_unfolding_all rfl))
      all_goals (try ((show (_ : Nat) ≤ _); (simp <;> omega)))
      all_goals (try ((show (_ : Nat) ≤ _ ∧ (_ : Nat) ≤ _); (simp <;> omega)))
      all_goals (try ((show (_ : Int) ≤ _ ∧ (_ : Int) ≤ _ ∧ (_ : Int) ≤ _ ∧ (_ : Int) ≤ _); (simp <;> omega)))
      all_goals rfl
    · repeat' ((conv => whnf); first | (with_reducible rfl) | exact True.intro | (with_reducible exact absTF) | (with_reducible exact absFT) | intro _ | refine And.intro ?_ ?_ | refine Fin.mk ?_ | refine CallG.plain rfl ?_ ?_ | refine CallG.mk rfl ?_ ?_ | refine CallG.nwl rfl ?_ ?_ | refine CallG.nw ?_ ?_ | refine CallF.nwl rfl ?_ ?_ | refine CallF.nw ?_ ?_ | refine AppN.mk ?_ | (refine CallS.q ?_; (conv => whnf); first | refine CallG.plain rfl ?_ ?_ | refine CallG.mk rfl ?_ ?_) | (refine CallS.m ?_; (conv => whnf); refine CallM.mk rfl ?_ ?_) | (refine CallS.h ?_; (conv => whnf); refine CallM.mk rfl ?_ ?_) | (refine CallS.b ?_; (conv => whnf); refine CallM.mk rfl ?_ ?_) | (refine CallS.z ?_; (conv => whnf); refine CallM.mk rfl ?_ ?_))
      all_goals (try (conv => whnf))
      all_goals (try (exact Ob.mk (u8_bnd _)))
      all_goals (try (refine Ob.mk ?_; first | exact True.intro | assumption | omega | (try simp only [decide_eq_true_eq, decide_eq_false_iff_not, beq_iff_eq, beq_eq_false_iff_ne, bne_iff_ne, bne_eq_false_iff_eq, ne_eq, Bool.and_eq_true, Bool.or_eq_true, Bool.not_eq_true, Bool.not_eq_false, Bool.not_eq_true', Bool.not_eq_false', Int.toNat_natCast, Int.not_lt, Int.not_le, UInt8.ofNat_toNat, cast_eq] at *; omega)))
      all_goals (try ((show (_:Int) = _); omega))
      all_goals (try (show tupSV _ = _; with_unfolding_all rfl))
      all_goals (try ((show (_ : Nat) ≤ _); (simp <;> omega)))
      all_goals (try ((show (_ : Nat) ≤ _ ∧ (_ : Nat) ≤ _); (simp <;> omega)))
      all_goals (try ((show (_ : Int) ≤ _ ∧ (_ : Int) ≤ _ ∧ (_ : Int) ≤ _ ∧ (_ : Int) ≤ _); (simp <;> omega)))
      all_goals (first | (exfalso; exact absurd ‹decide ((0 : Int) < 0) = true› (by decide)) | rfl | trace_state)
instance rS8 (k k' : Int) (n n' d d' : List UInt8) : Fn BB 26 [.agg [.int .i64 k, .str n, .nils, .bool false, .str d], .agg [.int .i64 k', .str n', .nils, .bool false, .str d']] True (.bool (k == k' && n == n' && d == d')) := by
  refine Fn.intro (N := 38) [0, 1, 2, 3, 4] [] Tryd.call26 Tryd.func26 rfl rfl (by kernel_rfl) (fun hpre => ?_)
  repeat' ((conv => whnf); first | (with_reducible rfl) | exact True.intro | (with_reducible exact absTF) | (with_reducible exact absFT) | intro _ | refine And.intro ?_ ?_ | refine Fin.mk ?_ | refine CallG.plain rfl ?_ ?_ | refine CallG.mk rfl ?_ ?_ | refine CallG.nwl rfl ?_ ?_ | refine CallG.nw ?_ ?_ | refine CallF.nwl rfl ?_ ?_ | refine CallF.nw ?_ ?_ | refine AppN.mk ?_ | (refine CallS.q ?_; (conv => whnf); first | refine CallG.plain rfl ?_ ?_ | refine CallG.mk rfl ?_ ?_) | (refine CallS.m ?_; (conv => whnf); refine CallM.mk rfl ?_ ?_) | (refine CallS.h ?_; (conv => whnf); refine CallM.mk rfl ?_ ?_) | (refine CallS.b ?_; (conv => whnf); refine CallM.mk rfl ?_ ?_) | (refine CallS.z ?_; (conv => whnf); refine CallM.mk rfl ?_ ?_))
  all_goals (try (conv => whnf))
  all_goals (try (exact Ob.mk (u8_bnd _)))
  all_goals (try (refine Ob.mk ?_; first | exact True.intro | assumption | omega | (try simp only [decide_eq_true_eq, decide_eq_false_iff_not, beq_iff_eq, beq_eq_false_iff_ne, bne_iff_ne, bne_eq_false_iff_eq, ne_eq, Bool.and_eq_true, Bool.or_eq_true, Bool.not_eq_true, Bool.not_eq_false, Bool.not_eq_true', Bool.not_eq_false', Int.toNat_natCast, Int.not_lt, Int.not_le, UInt8.ofNat_toNat, cast_eq] at *; omega)))
  all_goals (try ((show (_:Int) = _); omega))
  all_goals (try (show tupSV _ = _; with_unfolding_all rfl))
  all_goals (try ((show (_ : Nat) ≤ _); (simp <;> omega)))
  all_goals (try ((show (_ : Nat) ≤ _ ∧ (_ : Nat) ≤ _); (simp <;> omega)))
  all_goals (try ((show (_ : Int) ≤ _ ∧ (_ : Int) ≤ _ ∧ (_ : Int) ≤ _ ∧ (_ : Int) ≤ _); (simp <;> omega)))
  all_goals (rw [Bool.and_true]; rw [show (false == false) = true from rfl, Bool.and_true])
instance rAwake : Fn BB 23 [] True (.bool true) := by
  refine Fn.intro (N := 64) [0, 1, 2, 3, 4, 5, 6, 7, 8, 9] [] Tryd.call23 Tryd.func23 rfl rfl (by kernel_rfl) (fun hpre => ?_)
  repeat' ((conv => whnf); first | (with_reducible rfl) | exact True.intro | (with_reducible exact absTF) | (with_reducible exact absFT) | intro _ | refine And.intro ?_ ?_ | refine Fin.mk ?_ | refine CallG.plain rfl ?_ ?_ | refine CallG.mk rfl ?_ ?_ | refine CallG.nwl rfl ?_ ?_ | refine CallG.nw ?_ ?_ | refine CallF.nwl rfl ?_ ?_ | refine CallF.nw ?_ ?_ | refine AppN.mk ?_ | (refine CallS.q ?_; (conv => whnf); first | refine CallG.plain rfl ?_ ?_ | refine CallG.mk rfl ?_ ?_) | (refine CallS.m ?_; (conv => whnf); refine CallM.mk rfl ?_ ?_) | (refine CallS.h ?_; (conv => whnf); refine CallM.mk rfl ?_ ?_) | (refine CallS.b ?_; (conv => whnf); refine CallM.mk rfl ?_ ?_) | (refine CallS.z ?_; (conv => whnf); refine CallM.mk rfl ?_ ?_))
  all_goals (try (conv => whnf))
  all_goals (try (exact Ob.mk (u8_bnd _)))
  all_goals (try (refine Ob.mk ?_; first | exact True.intro | assumption | omega | (try simp only [decide_eq_true_eq, decide_eq_false_iff_not, beq_iff_eq, beq_eq_false_iff_ne, bne_iff_ne, bne_eq_false_iff_eq, ne_eq, Bool.and_eq_true, Bool.or_eq_true, Bool.not_eq_true, Bool.not_eq_false, Bool.not_eq_true', Bool.not_eq_false', Int.toNat_natCast, Int.not_lt, Int.not_le, UInt8.ofNat_toNat, cast_eq] at *; omega)))
  all_goals (try ((show (_:Int) = _); omega))
  all_goals (try (show tupSV _ = _; with_unfolding_all rfl))
  all_goals (try ((show (_ : Nat) ≤ _); (simp <;> omega)))
  all_goals (try ((show (_ : Nat) ≤ _ ∧ (_ : Nat) ≤ _); (simp <;> omega)))
  all_goals (try ((show (_ : Int) ≤ _ ∧ (_ : Int) ≤ _ ∧ (_ : Int) ≤ _ ∧ (_ : Int) ≤ _); (simp <;> omega)))
  all_goals (first | decide +kernel | trace_state)
instance rReads (s : List UInt8) (f : Bool) : Fn BB 5 [.str s, .bool f] True (.bool true) := by
  refine Fn.intro (N := 45) [0, 1, 4, 5, 6, 7, 8, 9, 10, 13] [] Tryd.call5 Tryd.func5 rfl rfl (by kernel_rfl) (fun hpre => ?_)
  repeat' ((conv => whnf); first | (with_reducible rfl) | exact True.intro | (with_reducible exact absTF) | (with_reducible exact absFT) | intro _ | refine And.intro ?_ ?_ | refine Fin.mk ?_ | refine CallG.plain rfl ?_ ?_ | refine CallG.mk rfl ?_ ?_ | refine CallG.nwl rfl ?_ ?_ | refine CallG.nw ?_ ?_ | refine CallF.nwl rfl ?_ ?_ | refine CallF.nw ?_ ?_ | refine AppN.mk ?_ | (refine CallS.q ?_; (conv => whnf); first | refine CallG.plain rfl ?_ ?_ | refine CallG.mk rfl ?_ ?_) | (refine CallS.m ?_; (conv => whnf); refine CallM.mk rfl ?_ ?_) | (refine CallS.h ?_; (conv => whnf); refine CallM.mk rfl ?_ ?_) | (refine CallS.b ?_; (conv => whnf); refine CallM.mk rfl ?_ ?_) | (refine CallS.z ?_; (conv => whnf); refine CallM.mk rfl ?_ ?_))
  all_goals (try (conv => whnf))
  all_goals (try (exact Ob.mk (u8_bnd _)))
  all_goals (try (refine Ob.mk ?_; first | exact True.intro | assumption | omega | (try simp only [decide_eq_true_eq, decide_eq_false_iff_not, beq_iff_eq, beq_eq_false_iff_ne, bne_iff_ne, bne_eq_false_iff_eq, ne_eq, Bool.and_eq_true, Bool.or_eq_true, Bool.not_eq_true, Bool.not_eq_false, Bool.not_eq_true', Bool.not_eq_false', Int.toNat_natCast, Int.not_lt, Int.not_le, UInt8.ofNat_toNat, cast_eq] at *; omega)))
  all_goals (try ((show (_:Int) = _); omega))
  all_goals (try (show tupSV _ = _; with_unfolding_all rfl))
  all_goals (try ((show (_ : Nat) ≤ _); (simp <;> omega)))
  all_goals (try ((show (_ : Nat) ≤ _ ∧ (_ : Nat) ≤ _); (simp <;> omega)))
  all_goals (try ((show (_ : Int) ≤ _ ∧ (_ : Int) ≤ _ ∧ (_ : Int) ≤ _ ∧ (_ : Int) ≤ _); (simp <;> omega)))
  all_goals simp
end Go.Vc

namespace Go.Vc
open Go.Proofs
set_option maxRecDepth 100000
abbrev laidD : List (String × DataW Unit) := [("unicode/utf8.acceptRanges", YtecdihmimpcgbaaDoor.Rows.laid_unicode_utf8_acceptRanges), ("unicode/utf8.first", YtecdihmimpcgbaaDoor.Rows.laid_unicode_utf8_first)]
theorem acc_eq : (YtecdihmimpcgbaaDoor.Rows.laid_unicode_utf8_acceptRanges : DataW Unit) = Lib.acceptData := by kernel_rfl
theorem cellR_of (W : World) (b o : Nat) (v : Value) (h : W.cell? ⟨b, o, none⟩ = some v) : cellR (fun b => W.heap[b]?) b o = some v := by
  unfold cellR
  simp only [World.cell?] at h
  cases hb : W.heap[b]? with
  | none => rw [hb] at h; cases h
  | some x =>
    rw [hb] at h
    simp only [hb]
    cases x <;> first | exact h | (cases h)
theorem base_ok (W : World) (hL : laidMetH Tryd.prog laidD W) (hsh : W.ShapedOpen Tryd.prog) : BB.G fun b => W.heap[b]? := by
  have h3 := Lib.laidMet.reads hL (.tail _ (.head _))
  have h4 := Lib.laidMet.reads hL (.head _)
  have h3' : Lib.VarReads Tryd.prog W "unicode/utf8.first" Lib.firstData := by
    have e : (YtecdihmimpcgbaaDoor.Rows.laid_unicode_utf8_first : DataW Unit) = Lib.firstData := Pinned.utf8First_eq
    rw [← e]; exact h3
  have h4' : Lib.VarReads Tryd.prog W "unicode/utf8.acceptRanges" Lib.acceptData := by rw [← acc_eq]; exact h4
  have ht : Lib.Utf8Tabs 1 2 W := utf8Tabs_of_readsT (ρ := Tryd.lays260_ren) (U8Types.of260 Tryd.lays260) ⟨by kernel_rfl, by kernel_rfl, by kernel_rfl, by kernel_rfl, by kernel_rfl, by kernel_rfl, by kernel_rfl⟩ h3' h4'
  obtain ⟨m, hm⟩ := Tryd.laysM143.s1_3 W hsh
  exact ⟨fun c hc => cellR_of W _ _ _ (ht.1 c hc), fun i hi => ⟨cellR_of W _ _ _ (ht.2 i hi).1, cellR_of W _ _ _ (ht.2 i hi).2⟩, ⟨m, cellR_of W _ _ _ hm⟩⟩
end Go.Vc
