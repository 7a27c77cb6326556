/- A part of the proof: lemmas and walks that the last text of the claim joins; no condition. -/
import Derived.Test.YtfbkhpkneioecaaTL
import Derived.Test.YtfbkhpkneioecaaTJ
set_option linter.unusedVariables false
set_option linter.unusedSimpArgs false
namespace Go.Vc.W
open Go.Proofs
set_option linter.unusedVariables false
set_option maxRecDepth 10000
set_option linter.unusedSimpArgs false
theorem bits_not (x : Int) (h : -100001 ≤ x ∧ x ≤ 100000) : bitsI BinOp.xor IntKind.i64 (if IntKind.i64.signed = true then -1 else IntKind.i64.max) x = -x - 1 := by
  have e : (if IntKind.i64.signed = true then (-1:Int) else IntKind.i64.max) = -1 := rfl
  rw [e]
  show IntKind.wrap .i64 ((BitVec.ofInt 64 (-1) ^^^ BitVec.ofInt 64 x).toNat : Int) = _
  have e2 : BitVec.ofInt 64 (-1) = BitVec.allOnes 64 := by decide
  rw [e2, BitVec.allOnes_xor, BitVec.toNat_not, BitVec.toNat_ofInt]
  simp [IntKind.wrap, IntKind.signed, IntKind.bits]
  omega
def fin2 (s : List UInt8) (sp : List (Int × Int)) (i : Nat) : List (List UInt8) := (sp.take i).map (cut s) ++ List.replicate (sp.length - i) []
theorem fin2_len (s : List UInt8) (sp : List (Int × Int)) (i : Nat) (h : i ≤ sp.length) : (fin2 s sp i).length = sp.length := by
  simp [fin2]; omega
theorem fin2_set (s : List UInt8) (sp : List (Int × Int)) (i : Nat) (h : i < sp.length) : (fin2 s sp i).set i (cut s (sp.getD i (0,0))) = fin2 s sp (i+1) := by
  unfold fin2
  rw [take_snoc sp i (0,0) h]
  have e : sp.length - i = (sp.length - (i+1)) + 1 := by omega
  rw [e, List.replicate_succ, List.set_append_right _ _ (by simp; omega)]
  simp
  have : i - min i sp.length = 0 := by omega
  rw [this]; simp
theorem fin2_end (s : List UInt8) (sp : List (Int × Int)) (i : Nat) (h : sp.length ≤ i) : fin2 s sp i = sp.map (cut s) := by
  unfold fin2; rw [List.take_of_length_le h]; simp; omega
theorem getD_mem' {α : Type} {l : List α} {i : Nat} {d : α} (h : i < l.length) : l.getD i d ∈ l := by
  simp [List.getD, List.getElem?_eq_getElem h]
instance f38 (s : List UInt8) : Fn BB 166 [.str s, .fn 167 []] (s.length ≤ 100000) (.rd .str (spl s)) := by
  refine Fn.intro (N := 65) [0, 1, 4, 5, 6, 7, 8, 9, 10, 11, 14, 15, 16, 21, 23, 33, 36, 47, 48, 49, 50] [] Try.call166 Try.func166 rfl rfl (by kernel_rfl) (fun hpre => ?_)
  repeat' ((conv => whnf); first | (with_reducible rfl) | exact True.intro | (with_reducible exact absTF) | (with_reducible exact absFT) | intro _ | refine And.intro ?_ ?_ | refine Fin.mk ?_ | refine CallG.plain rfl ?_ ?_ | refine CallG.mk rfl ?_ ?_ | refine CallG.nwl rfl ?_ ?_ | refine CallG.nw ?_ ?_ | refine CallF.nwl rfl ?_ ?_ | refine CallF.nw ?_ ?_ | (refine CallS.q ?_; (conv => whnf); first | refine CallG.plain rfl ?_ ?_ | refine CallG.mk rfl ?_ ?_) | (refine CallS.m ?_; (conv => whnf); refine CallM.mk rfl ?_ ?_) | (refine CallS.h ?_; (conv => whnf); refine CallM.mk rfl ?_ ?_) | (refine CallS.b ?_; (conv => whnf); refine CallM.mk rfl ?_ ?_) | (refine CallS.z ?_; (conv => whnf); refine CallM.mk rfl ?_ ?_))
  all_goals (try (conv => whnf))
  all_goals (try (exact Ob.mk (u8_bnd _)))
  all_goals (try (refine Ob.mk ?_; first | exact True.intro | assumption | omega | (try simp only [decide_eq_true_eq, decide_eq_false_iff_not, beq_iff_eq, beq_eq_false_iff_ne, bne_iff_ne, bne_eq_false_iff_eq, ne_eq, Bool.and_eq_true, Bool.or_eq_true, Bool.not_eq_true, Bool.not_eq_false, Bool.not_eq_true', Bool.not_eq_false', Int.toNat_natCast, Int.not_lt, Int.not_le, UInt8.ofNat_toNat, cast_eq] at *; omega)))
  all_goals (try ((show (_:Int) = _); omega))
  all_goals (try (show tupSV _ = _; with_unfolding_all rfl))
  all_goals (try ((show (_ : Nat) ≤ _); (simp <;> omega)))
  all_goals (try ((show (_ : Nat) ≤ _ ∧ (_ : Nat) ≤ _); (simp <;> omega)))
  all_goals (try ((show (_ : Int) ≤ _ ∧ (_ : Int) ≤ _ ∧ (_ : Int) ≤ _ ∧ (_ : Int) ≤ _); (simp <;> omega)))
  repeat' ((conv => whnf); first | (with_reducible rfl) | exact True.intro | (with_reducible exact absTF) | (with_reducible exact absFT) | intro _ | refine And.intro ?_ ?_ | refine Fin.mk ?_ | refine CallG.plain rfl ?_ ?_ | refine CallG.mk rfl ?_ ?_ | refine CallG.nwl rfl ?_ ?_ | refine CallG.nw ?_ ?_ | refine CallF.nwl rfl ?_ ?_ | refine CallF.nw ?_ ?_ | (refine CallS.q ?_; (conv => whnf); first | refine CallG.plain rfl ?_ ?_ | refine CallG.mk rfl ?_ ?_) | (refine CallS.m ?_; (conv => whnf); refine CallM.mk rfl ?_ ?_) | (refine CallS.h ?_; (conv => whnf); refine CallM.mk rfl ?_ ?_) | (refine CallS.b ?_; (conv => whnf); refine CallM.mk rfl ?_ ?_) | (refine CallS.z ?_; (conv => whnf); refine CallM.mk rfl ?_ ?_))
  all_goals (try (conv => whnf))
  refine LoopStop.mk (α := FS) (fun a => [(5, .own 0), (6, .int .i64 a.start)]) (fun a => [(0, .own spTy a.spans), (1, .iter s a.pos)]) 2 (FSok s) (fun a => s.length - a.pos) ⟨0, [], -1⟩ ⟨by simp, by simp [spAt], by simp, by simp; omega, by simp [spAt]⟩ ?_ (fun a ha => ?_)
  · repeat' ((conv => whnf); first | (with_reducible rfl) | exact True.intro | (with_reducible exact absTF) | (with_reducible exact absFT) | intro _ | refine And.intro ?_ ?_ | refine Fin.mk ?_ | refine CallG.plain rfl ?_ ?_ | refine CallG.mk rfl ?_ ?_ | refine CallG.nwl rfl ?_ ?_ | refine CallG.nw ?_ ?_ | refine CallF.nwl rfl ?_ ?_ | refine CallF.nw ?_ ?_ | (refine CallS.q ?_; (conv => whnf); first | refine CallG.plain rfl ?_ ?_ | refine CallG.mk rfl ?_ ?_) | (refine CallS.m ?_; (conv => whnf); refine CallM.mk rfl ?_ ?_) | (refine CallS.h ?_; (conv => whnf); refine CallM.mk rfl ?_ ?_) | (refine CallS.b ?_; (conv => whnf); refine CallM.mk rfl ?_ ?_) | (refine CallS.z ?_; (conv => whnf); refine CallM.mk rfl ?_ ?_))
    all_goals (try (conv => whnf))
    all_goals (try rfl)
    all_goals trace_state
  · have hl := ha.len
    have h1 := ha.hp
    have h2 := ha.hb
    repeat' ((conv => whnf); first | (with_reducible rfl) | exact True.intro | (with_reducible exact absTF) | (with_reducible exact absFT) | intro _ | refine And.intro ?_ ?_ | refine Fin.mk ?_ | refine CallG.plain rfl ?_ ?_ | refine CallG.mk rfl ?_ ?_ | refine CallG.nwl rfl ?_ ?_ | refine CallG.nw ?_ ?_ | refine CallF.nwl rfl ?_ ?_ | refine CallF.nw ?_ ?_ | (refine CallS.q ?_; (conv => whnf); first | refine CallG.plain rfl ?_ ?_ | refine CallG.mk rfl ?_ ?_) | (refine CallS.m ?_; (conv => whnf); refine CallM.mk rfl ?_ ?_) | (refine CallS.h ?_; (conv => whnf); refine CallM.mk rfl ?_ ?_) | (refine CallS.b ?_; (conv => whnf); refine CallM.mk rfl ?_ ?_) | (refine CallS.z ?_; (conv => whnf); refine CallM.mk rfl ?_ ?_))
    all_goals (try (conv => whnf))
    all_goals (try (exact Ob.mk (u8_bnd _)))
    all_goals (try (refine Ob.mk ?_; first | exact True.intro | assumption | omega | (try simp only [decide_eq_true_eq, decide_eq_false_iff_not, beq_iff_eq, beq_eq_false_iff_ne, bne_iff_ne, bne_eq_false_iff_eq, ne_eq, Bool.and_eq_true, Bool.or_eq_true, Bool.not_eq_true, Bool.not_eq_false, Bool.not_eq_true', Bool.not_eq_false', Int.toNat_natCast, Int.not_lt, Int.not_le, UInt8.ofNat_toNat, cast_eq] at *; omega)))
    all_goals (try ((show (_:Int) = _); omega))
    all_goals (try (show tupSV _ = _; with_unfolding_all rfl))
    all_goals (try ((show (_ : Nat) ≤ _); (simp <;> omega)))
    all_goals (try ((show (_ : Nat) ≤ _ ∧ (_ : Nat) ≤ _); (simp <;> omega)))
    all_goals (try ((show (_ : Int) ≤ _ ∧ (_ : Int) ≤ _ ∧ (_ : Int) ≤ _ ∧ (_ : Int) ≤ _); (simp <;> omega)))
    all_goals (try simp only [decide_eq_true_eq, decide_eq_false_iff_not, beq_iff_eq, beq_eq_false_iff_ne, bne_iff_ne, bne_eq_false_iff_eq, ne_eq, Bool.and_eq_true, Bool.or_eq_true, Bool.not_eq_true, Bool.not_eq_false, Bool.not_eq_true', Bool.not_eq_false', Int.toNat_natCast, Int.not_lt, Int.not_le, UInt8.ofNat_toNat, cast_eq] at *)
    · skip
      repeat' ((conv => whnf); first | (with_reducible rfl) | exact True.intro | (with_reducible exact absTF) | (with_reducible exact absFT) | intro _ | refine And.intro ?_ ?_ | refine Fin.mk ?_ | refine CallG.plain rfl ?_ ?_ | refine CallG.mk rfl ?_ ?_ | refine CallG.nwl rfl ?_ ?_ | refine CallG.nw ?_ ?_ | refine CallF.nwl rfl ?_ ?_ | refine CallF.nw ?_ ?_ | (refine CallS.q ?_; (conv => whnf); first | refine CallG.plain rfl ?_ ?_ | refine CallG.mk rfl ?_ ?_) | (refine CallS.m ?_; (conv => whnf); refine CallM.mk rfl ?_ ?_) | (refine CallS.h ?_; (conv => whnf); refine CallM.mk rfl ?_ ?_) | (refine CallS.b ?_; (conv => whnf); refine CallM.mk rfl ?_ ?_) | (refine CallS.z ?_; (conv => whnf); refine CallM.mk rfl ?_ ?_))
      all_goals (try (conv => whnf))
      all_goals (try (exact Ob.mk (u8_bnd _)))
      all_goals (try (refine Ob.mk ?_; first | exact True.intro | assumption | omega | (try simp only [decide_eq_true_eq, decide_eq_false_iff_not, beq_iff_eq, beq_eq_false_iff_ne, bne_iff_ne, bne_eq_false_iff_eq, ne_eq, Bool.and_eq_true, Bool.or_eq_true, Bool.not_eq_true, Bool.not_eq_false, Bool.not_eq_true', Bool.not_eq_false', Int.toNat_natCast, Int.not_lt, Int.not_le, UInt8.ofNat_toNat, cast_eq] at *; omega)))
      all_goals (try ((show (_:Int) = _); omega))
      all_goals (try (show tupSV _ = _; with_unfolding_all rfl))
      all_goals (try ((show (_ : Nat) ≤ _); (simp <;> omega)))
      all_goals (try ((show (_ : Nat) ≤ _ ∧ (_ : Nat) ≤ _); (simp <;> omega)))
      all_goals (try ((show (_ : Int) ≤ _ ∧ (_ : Int) ≤ _ ∧ (_ : Int) ≤ _ ∧ (_ : Int) ≤ _); (simp <;> omega)))
      refine Rnd.mk ⟨⟨a.pos + (decL s a.pos).2, a.spans ++ [(a.start, (a.pos:Int))], -a.start - 1⟩, ?_, ?_, ?_⟩
      · exact fs_sp1 ha ‹_› ‹_› (by omega)
      · have := (decL_pos s a.pos ‹_›).1; simp; omega
      · repeat' ((conv => whnf); first | (with_reducible rfl) | exact True.intro | (with_reducible exact absTF) | (with_reducible exact absFT) | intro _ | refine And.intro ?_ ?_ | refine Fin.mk ?_ | refine CallG.plain rfl ?_ ?_ | refine CallG.mk rfl ?_ ?_ | refine CallG.nwl rfl ?_ ?_ | refine CallG.nw ?_ ?_ | refine CallF.nwl rfl ?_ ?_ | refine CallF.nw ?_ ?_ | (refine CallS.q ?_; (conv => whnf); first | refine CallG.plain rfl ?_ ?_ | refine CallG.mk rfl ?_ ?_) | (refine CallS.m ?_; (conv => whnf); refine CallM.mk rfl ?_ ?_) | (refine CallS.h ?_; (conv => whnf); refine CallM.mk rfl ?_ ?_) | (refine CallS.b ?_; (conv => whnf); refine CallM.mk rfl ?_ ?_) | (refine CallS.z ?_; (conv => whnf); refine CallM.mk rfl ?_ ?_))
        all_goals (try (conv => whnf))
        all_goals (try (exact Ob.mk (u8_bnd _)))
        all_goals (try (refine Ob.mk ?_; first | exact True.intro | assumption | omega | (try simp only [decide_eq_true_eq, decide_eq_false_iff_not, beq_iff_eq, beq_eq_false_iff_ne, bne_iff_ne, bne_eq_false_iff_eq, ne_eq, Bool.and_eq_true, Bool.or_eq_true, Bool.not_eq_true, Bool.not_eq_false, Bool.not_eq_true', Bool.not_eq_false', Int.toNat_natCast, Int.not_lt, Int.not_le, UInt8.ofNat_toNat, cast_eq] at *; omega)))
        all_goals (try ((show (_:Int) = _); omega))
        all_goals (try (show tupSV _ = _; with_unfolding_all rfl))
        all_goals (try ((show (_ : Nat) ≤ _); (simp <;> omega)))
        all_goals (try ((show (_ : Nat) ≤ _ ∧ (_ : Nat) ≤ _); (simp <;> omega)))
        all_goals (try ((show (_ : Int) ≤ _ ∧ (_ : Int) ≤ _ ∧ (_ : Int) ≤ _ ∧ (_ : Int) ≤ _); (simp <;> omega)))
        all_goals (first | (rw [bits_not _ (by omega)]; done) | skip)
        all_goals trace_state
    · have := (decL_pos s a.pos ‹_›).1
      refine Rnd.mk ⟨⟨a.pos + (decL s a.pos).2, a.spans, a.start⟩, ?_, ?_, ?_⟩
      · exact fs_sp0 ha ‹_› ‹_› (by omega)
      · simp; omega
      · repeat' ((conv => whnf); first | (with_reducible rfl) | exact True.intro | (with_reducible exact absTF) | (with_reducible exact absFT) | intro _ | refine And.intro ?_ ?_ | refine Fin.mk ?_ | refine CallG.plain rfl ?_ ?_ | refine CallG.mk rfl ?_ ?_ | refine CallG.nwl rfl ?_ ?_ | refine CallG.nw ?_ ?_ | refine CallF.nwl rfl ?_ ?_ | refine CallF.nw ?_ ?_ | (refine CallS.q ?_; (conv => whnf); first | refine CallG.plain rfl ?_ ?_ | refine CallG.mk rfl ?_ ?_) | (refine CallS.m ?_; (conv => whnf); refine CallM.mk rfl ?_ ?_) | (refine CallS.h ?_; (conv => whnf); refine CallM.mk rfl ?_ ?_) | (refine CallS.b ?_; (conv => whnf); refine CallM.mk rfl ?_ ?_) | (refine CallS.z ?_; (conv => whnf); refine CallM.mk rfl ?_ ?_))
        all_goals (try (conv => whnf))
        all_goals (try (exact Ob.mk (u8_bnd _)))
        all_goals (try (refine Ob.mk ?_; first | exact True.intro | assumption | omega | (try simp only [decide_eq_true_eq, decide_eq_false_iff_not, beq_iff_eq, beq_eq_false_iff_ne, bne_iff_ne, bne_eq_false_iff_eq, ne_eq, Bool.and_eq_true, Bool.or_eq_true, Bool.not_eq_true, Bool.not_eq_false, Bool.not_eq_true', Bool.not_eq_false', Int.toNat_natCast, Int.not_lt, Int.not_le, UInt8.ofNat_toNat, cast_eq] at *; omega)))
        all_goals (try ((show (_:Int) = _); omega))
        all_goals (try (show tupSV _ = _; with_unfolding_all rfl))
        all_goals (try ((show (_ : Nat) ≤ _); (simp <;> omega)))
        all_goals (try ((show (_ : Nat) ≤ _ ∧ (_ : Nat) ≤ _); (simp <;> omega)))
        all_goals (try ((show (_ : Int) ≤ _ ∧ (_ : Int) ≤ _ ∧ (_ : Int) ≤ _ ∧ (_ : Int) ≤ _); (simp <;> omega)))
        all_goals trace_state
    · have := (decL_pos s a.pos ‹_›).1
      refine Rnd.mk ⟨⟨a.pos + (decL s a.pos).2, a.spans, a.pos⟩, ?_, ?_, ?_⟩
      · exact fs_no0 ha ‹_› ‹_› (by omega)
      · simp; omega
      · repeat' ((conv => whnf); first | (with_reducible rfl) | exact True.intro | (with_reducible exact absTF) | (with_reducible exact absFT) | intro _ | refine And.intro ?_ ?_ | refine Fin.mk ?_ | refine CallG.plain rfl ?_ ?_ | refine CallG.mk rfl ?_ ?_ | refine CallG.nwl rfl ?_ ?_ | refine CallG.nw ?_ ?_ | refine CallF.nwl rfl ?_ ?_ | refine CallF.nw ?_ ?_ | (refine CallS.q ?_; (conv => whnf); first | refine CallG.plain rfl ?_ ?_ | refine CallG.mk rfl ?_ ?_) | (refine CallS.m ?_; (conv => whnf); refine CallM.mk rfl ?_ ?_) | (refine CallS.h ?_; (conv => whnf); refine CallM.mk rfl ?_ ?_) | (refine CallS.b ?_; (conv => whnf); refine CallM.mk rfl ?_ ?_) | (refine CallS.z ?_; (conv => whnf); refine CallM.mk rfl ?_ ?_))
        all_goals (try (conv => whnf))
        all_goals (try (exact Ob.mk (u8_bnd _)))
        all_goals (try (refine Ob.mk ?_; first | exact True.intro | assumption | omega | (try simp only [decide_eq_true_eq, decide_eq_false_iff_not, beq_iff_eq, beq_eq_false_iff_ne, bne_iff_ne, bne_eq_false_iff_eq, ne_eq, Bool.and_eq_true, Bool.or_eq_true, Bool.not_eq_true, Bool.not_eq_false, Bool.not_eq_true', Bool.not_eq_false', Int.toNat_natCast, Int.not_lt, Int.not_le, UInt8.ofNat_toNat, cast_eq] at *; omega)))
        all_goals (try ((show (_:Int) = _); omega))
        all_goals (try (show tupSV _ = _; with_unfolding_all rfl))
        all_goals (try ((show (_ : Nat) ≤ _); (simp <;> omega)))
        all_goals (try ((show (_ : Nat) ≤ _ ∧ (_ : Nat) ≤ _); (simp <;> omega)))
        all_goals (try ((show (_ : Int) ≤ _ ∧ (_ : Int) ≤ _ ∧ (_ : Int) ≤ _ ∧ (_ : Int) ≤ _); (simp <;> omega)))
        all_goals trace_state
    · have := (decL_pos s a.pos ‹_›).1
      refine Rnd.mk ⟨⟨a.pos + (decL s a.pos).2, a.spans, a.start⟩, ?_, ?_, ?_⟩
      · exact fs_no1 ha ‹_› ‹_› (by omega)
      · simp; omega
      · repeat' ((conv => whnf); first | (with_reducible rfl) | exact True.intro | (with_reducible exact absTF) | (with_reducible exact absFT) | intro _ | refine And.intro ?_ ?_ | refine Fin.mk ?_ | refine CallG.plain rfl ?_ ?_ | refine CallG.mk rfl ?_ ?_ | refine CallG.nwl rfl ?_ ?_ | refine CallG.nw ?_ ?_ | refine CallF.nwl rfl ?_ ?_ | refine CallF.nw ?_ ?_ | (refine CallS.q ?_; (conv => whnf); first | refine CallG.plain rfl ?_ ?_ | refine CallG.mk rfl ?_ ?_) | (refine CallS.m ?_; (conv => whnf); refine CallM.mk rfl ?_ ?_) | (refine CallS.h ?_; (conv => whnf); refine CallM.mk rfl ?_ ?_) | (refine CallS.b ?_; (conv => whnf); refine CallM.mk rfl ?_ ?_) | (refine CallS.z ?_; (conv => whnf); refine CallM.mk rfl ?_ ?_))
        all_goals (try (conv => whnf))
        all_goals (try (exact Ob.mk (u8_bnd _)))
        all_goals (try (refine Ob.mk ?_; first | exact True.intro | assumption | omega | (try simp only [decide_eq_true_eq, decide_eq_false_iff_not, beq_iff_eq, beq_eq_false_iff_ne, bne_iff_ne, bne_eq_false_iff_eq, ne_eq, Bool.and_eq_true, Bool.or_eq_true, Bool.not_eq_true, Bool.not_eq_false, Bool.not_eq_true', Bool.not_eq_false', Int.toNat_natCast, Int.not_lt, Int.not_le, UInt8.ofNat_toNat, cast_eq] at *; omega)))
        all_goals (try ((show (_:Int) = _); omega))
        all_goals (try (show tupSV _ = _; with_unfolding_all rfl))
        all_goals (try ((show (_ : Nat) ≤ _); (simp <;> omega)))
        all_goals (try ((show (_ : Nat) ≤ _ ∧ (_ : Nat) ≤ _); (simp <;> omega)))
        all_goals (try ((show (_ : Int) ≤ _ ∧ (_ : Int) ≤ _ ∧ (_ : Int) ≤ _ ∧ (_ : Int) ≤ _); (simp <;> omega)))
        all_goals trace_state
    · skip
      have hh := fs_end1 ha ‹_› (by omega)
      have hlen : (a.spans ++ [(a.start, (s.length:Int))]).length ≤ s.length + 1 := by simp; omega
      revert hh hlen
      generalize a.spans ++ [(a.start, (s.length:Int))] = sp
      intro hh hlen
      repeat' ((conv => whnf); first | (with_reducible rfl) | exact True.intro | (with_reducible exact absTF) | (with_reducible exact absFT) | intro _ | refine And.intro ?_ ?_ | refine Fin.mk ?_ | refine CallG.plain rfl ?_ ?_ | refine CallG.mk rfl ?_ ?_ | refine CallG.nwl rfl ?_ ?_ | refine CallG.nw ?_ ?_ | refine CallF.nwl rfl ?_ ?_ | refine CallF.nw ?_ ?_ | (refine CallS.q ?_; (conv => whnf); first | refine CallG.plain rfl ?_ ?_ | refine CallG.mk rfl ?_ ?_) | (refine CallS.m ?_; (conv => whnf); refine CallM.mk rfl ?_ ?_) | (refine CallS.h ?_; (conv => whnf); refine CallM.mk rfl ?_ ?_) | (refine CallS.b ?_; (conv => whnf); refine CallM.mk rfl ?_ ?_) | (refine CallS.z ?_; (conv => whnf); refine CallM.mk rfl ?_ ?_))
      all_goals (try (conv => whnf))
      all_goals (try (exact Ob.mk (u8_bnd _)))
      all_goals (try (refine Ob.mk ?_; first | exact True.intro | assumption | omega | (try simp only [decide_eq_true_eq, decide_eq_false_iff_not, beq_iff_eq, beq_eq_false_iff_ne, bne_iff_ne, bne_eq_false_iff_eq, ne_eq, Bool.and_eq_true, Bool.or_eq_true, Bool.not_eq_true, Bool.not_eq_false, Bool.not_eq_true', Bool.not_eq_false', Int.toNat_natCast, Int.not_lt, Int.not_le, UInt8.ofNat_toNat, cast_eq] at *; omega)))
      all_goals (try ((show (_:Int) = _); omega))
      all_goals (try (show tupSV _ = _; with_unfolding_all rfl))
      all_goals (try ((show (_ : Nat) ≤ _); (simp <;> omega)))
      all_goals (try ((show (_ : Nat) ≤ _ ∧ (_ : Nat) ≤ _); (simp <;> omega)))
      all_goals (try ((show (_ : Int) ≤ _ ∧ (_ : Int) ≤ _ ∧ (_ : Int) ≤ _ ∧ (_ : Int) ≤ _); (simp <;> omega)))
      repeat' ((conv => whnf); first | (with_reducible rfl) | exact True.intro | (with_reducible exact absTF) | (with_reducible exact absFT) | intro _ | refine And.intro ?_ ?_ | refine Fin.mk ?_ | refine CallG.plain rfl ?_ ?_ | refine CallG.mk rfl ?_ ?_ | refine CallG.nwl rfl ?_ ?_ | refine CallG.nw ?_ ?_ | refine CallF.nwl rfl ?_ ?_ | refine CallF.nw ?_ ?_ | (refine CallS.q ?_; (conv => whnf); first | refine CallG.plain rfl ?_ ?_ | refine CallG.mk rfl ?_ ?_) | (refine CallS.m ?_; (conv => whnf); refine CallM.mk rfl ?_ ?_) | (refine CallS.h ?_; (conv => whnf); refine CallM.mk rfl ?_ ?_) | (refine CallS.b ?_; (conv => whnf); refine CallM.mk rfl ?_ ?_) | (refine CallS.z ?_; (conv => whnf); refine CallM.mk rfl ?_ ?_))
      all_goals (try (conv => whnf))
      refine LoopStop.mk (α := Nat) (fun i => [(49, .int .i64 i)]) (fun i => [(3, .own .str (fin2 s sp i))]) 20 (fun i => i ≤ sp.length) (fun i => sp.length - i) 0 (by simp) ?_ (fun i hi => ?_)
      · repeat' ((conv => whnf); first | (with_reducible rfl) | exact True.intro | (with_reducible exact absTF) | (with_reducible exact absFT) | intro _ | refine And.intro ?_ ?_ | refine Fin.mk ?_ | refine CallG.plain rfl ?_ ?_ | refine CallG.mk rfl ?_ ?_ | refine CallG.nwl rfl ?_ ?_ | refine CallG.nw ?_ ?_ | refine CallF.nwl rfl ?_ ?_ | refine CallF.nw ?_ ?_ | (refine CallS.q ?_; (conv => whnf); first | refine CallG.plain rfl ?_ ?_ | refine CallG.mk rfl ?_ ?_) | (refine CallS.m ?_; (conv => whnf); refine CallM.mk rfl ?_ ?_) | (refine CallS.h ?_; (conv => whnf); refine CallM.mk rfl ?_ ?_) | (refine CallS.b ?_; (conv => whnf); refine CallM.mk rfl ?_ ?_) | (refine CallS.z ?_; (conv => whnf); refine CallM.mk rfl ?_ ?_))
        all_goals (try (conv => whnf))
        all_goals (try rfl)
        all_goals trace_state
      · repeat' ((conv => whnf); first | (with_reducible rfl) | exact True.intro | (with_reducible exact absTF) | (with_reducible exact absFT) | intro _ | refine And.intro ?_ ?_ | refine Fin.mk ?_ | refine CallG.plain rfl ?_ ?_ | refine CallG.mk rfl ?_ ?_ | refine CallG.nwl rfl ?_ ?_ | refine CallG.nw ?_ ?_ | refine CallF.nwl rfl ?_ ?_ | refine CallF.nw ?_ ?_ | (refine CallS.q ?_; (conv => whnf); first | refine CallG.plain rfl ?_ ?_ | refine CallG.mk rfl ?_ ?_) | (refine CallS.m ?_; (conv => whnf); refine CallM.mk rfl ?_ ?_) | (refine CallS.h ?_; (conv => whnf); refine CallM.mk rfl ?_ ?_) | (refine CallS.b ?_; (conv => whnf); refine CallM.mk rfl ?_ ?_) | (refine CallS.z ?_; (conv => whnf); refine CallM.mk rfl ?_ ?_))
        all_goals (try (conv => whnf))
        all_goals (try (exact Ob.mk (u8_bnd _)))
        all_goals (try (refine Ob.mk ?_; first | exact True.intro | assumption | omega | (try simp only [decide_eq_true_eq, decide_eq_false_iff_not, beq_iff_eq, beq_eq_false_iff_ne, bne_iff_ne, bne_eq_false_iff_eq, ne_eq, Bool.and_eq_true, Bool.or_eq_true, Bool.not_eq_true, Bool.not_eq_false, Bool.not_eq_true', Bool.not_eq_false', Int.toNat_natCast, Int.not_lt, Int.not_le, UInt8.ofNat_toNat, cast_eq] at *; omega)))
        all_goals (try ((show (_:Int) = _); omega))
        all_goals (try (show tupSV _ = _; with_unfolding_all rfl))
        all_goals (try ((show (_ : Nat) ≤ _); (simp <;> omega)))
        all_goals (try ((show (_ : Nat) ≤ _ ∧ (_ : Nat) ≤ _); (simp <;> omega)))
        all_goals (try ((show (_ : Int) ≤ _ ∧ (_ : Int) ≤ _ ∧ (_ : Int) ≤ _ ∧ (_ : Int) ≤ _); (simp <;> omega)))
        all_goals (try simp only [decide_eq_true_eq, decide_eq_false_iff_not, beq_iff_eq, beq_eq_false_iff_ne, bne_iff_ne, bne_eq_false_iff_eq, ne_eq, Bool.and_eq_true, Bool.or_eq_true, Bool.not_eq_true, Bool.not_eq_false, Bool.not_eq_true', Bool.not_eq_false', Int.toNat_natCast, Int.not_lt, Int.not_le, UInt8.ofNat_toNat, cast_eq] at *)
        · exact hh.2 _ (getD_mem' (by omega))
        · rw [fin2_len s sp i hi]; omega
        · rw [fin2_len s sp i hi]; omega
        · skip
          have e := fin2_set s sp i (by omega)
          repeat' ((conv => whnf); first | (with_reducible rfl) | exact True.intro | (with_reducible exact absTF) | (with_reducible exact absFT) | intro _ | refine And.intro ?_ ?_ | refine Fin.mk ?_ | refine CallG.plain rfl ?_ ?_ | refine CallG.mk rfl ?_ ?_ | refine CallG.nwl rfl ?_ ?_ | refine CallG.nw ?_ ?_ | refine CallF.nwl rfl ?_ ?_ | refine CallF.nw ?_ ?_ | (refine CallS.q ?_; (conv => whnf); first | refine CallG.plain rfl ?_ ?_ | refine CallG.mk rfl ?_ ?_) | (refine CallS.m ?_; (conv => whnf); refine CallM.mk rfl ?_ ?_) | (refine CallS.h ?_; (conv => whnf); refine CallM.mk rfl ?_ ?_) | (refine CallS.b ?_; (conv => whnf); refine CallM.mk rfl ?_ ?_) | (refine CallS.z ?_; (conv => whnf); refine CallM.mk rfl ?_ ?_))
          all_goals (try (conv => whnf))
          all_goals (try (exact Ob.mk (u8_bnd _)))
          all_goals (try (refine Ob.mk ?_; first | exact True.intro | assumption | omega | (try simp only [decide_eq_true_eq, decide_eq_false_iff_not, beq_iff_eq, beq_eq_false_iff_ne, bne_iff_ne, bne_eq_false_iff_eq, ne_eq, Bool.and_eq_true, Bool.or_eq_true, Bool.not_eq_true, Bool.not_eq_false, Bool.not_eq_true', Bool.not_eq_false', Int.toNat_natCast, Int.not_lt, Int.not_le, UInt8.ofNat_toNat, cast_eq] at *; omega)))
          all_goals (try ((show (_:Int) = _); omega))
          all_goals (try (show tupSV _ = _; with_unfolding_all rfl))
          all_goals (try ((show (_ : Nat) ≤ _); (simp <;> omega)))
          all_goals (try ((show (_ : Nat) ≤ _ ∧ (_ : Nat) ≤ _); (simp <;> omega)))
          all_goals (try ((show (_ : Int) ≤ _ ∧ (_ : Int) ≤ _ ∧ (_ : Int) ≤ _ ∧ (_ : Int) ≤ _); (simp <;> omega)))
          refine Rnd.mk ⟨i + 1, ?_, ?_, ?_⟩
          · omega
          · omega
          · repeat' ((conv => whnf); first | (with_reducible rfl) | exact True.intro | (with_reducible exact absTF) | (with_reducible exact absFT) | intro _ | refine And.intro ?_ ?_ | refine Fin.mk ?_ | refine CallG.plain rfl ?_ ?_ | refine CallG.mk rfl ?_ ?_ | refine CallG.nwl rfl ?_ ?_ | refine CallG.nw ?_ ?_ | refine CallF.nwl rfl ?_ ?_ | refine CallF.nw ?_ ?_ | (refine CallS.q ?_; (conv => whnf); first | refine CallG.plain rfl ?_ ?_ | refine CallG.mk rfl ?_ ?_) | (refine CallS.m ?_; (conv => whnf); refine CallM.mk rfl ?_ ?_) | (refine CallS.h ?_; (conv => whnf); refine CallM.mk rfl ?_ ?_) | (refine CallS.b ?_; (conv => whnf); refine CallM.mk rfl ?_ ?_) | (refine CallS.z ?_; (conv => whnf); refine CallM.mk rfl ?_ ?_))
            all_goals (try (conv => whnf))
            all_goals (try (exact Ob.mk (u8_bnd _)))
            all_goals (try (refine Ob.mk ?_; first | exact True.intro | assumption | omega | (try simp only [decide_eq_true_eq, decide_eq_false_iff_not, beq_iff_eq, beq_eq_false_iff_ne, bne_iff_ne, bne_eq_false_iff_eq, ne_eq, Bool.and_eq_true, Bool.or_eq_true, Bool.not_eq_true, Bool.not_eq_false, Bool.not_eq_true', Bool.not_eq_false', Int.toNat_natCast, Int.not_lt, Int.not_le, UInt8.ofNat_toNat, cast_eq] at *; omega)))
            all_goals (try ((show (_:Int) = _); omega))
            all_goals (try (show tupSV _ = _; with_unfolding_all rfl))
            all_goals (try ((show (_ : Nat) ≤ _); (simp <;> omega)))
            all_goals (try ((show (_ : Nat) ≤ _ ∧ (_ : Nat) ≤ _); (simp <;> omega)))
            all_goals (try ((show (_ : Int) ≤ _ ∧ (_ : Int) ≤ _ ∧ (_ : Int) ≤ _ ∧ (_ : Int) ≤ _); (simp <;> omega)))
            all_goals (rw [← e]; rfl)
        · rw [fin2_end s sp i (by omega), hh.1]
    · have hh := fs_end0 ha ‹_› (by omega)
      have hlen : a.spans.length ≤ s.length + 1 := by omega
      revert hh hlen
      generalize a.spans = sp
      intro hh hlen
      repeat' ((conv => whnf); first | (with_reducible rfl) | exact True.intro | (with_reducible exact absTF) | (with_reducible exact absFT) | intro _ | refine And.intro ?_ ?_ | refine Fin.mk ?_ | refine CallG.plain rfl ?_ ?_ | refine CallG.mk rfl ?_ ?_ | refine CallG.nwl rfl ?_ ?_ | refine CallG.nw ?_ ?_ | refine CallF.nwl rfl ?_ ?_ | refine CallF.nw ?_ ?_ | (refine CallS.q ?_; (conv => whnf); first | refine CallG.plain rfl ?_ ?_ | refine CallG.mk rfl ?_ ?_) | (refine CallS.m ?_; (conv => whnf); refine CallM.mk rfl ?_ ?_) | (refine CallS.h ?_; (conv => whnf); refine CallM.mk rfl ?_ ?_) | (refine CallS.b ?_; (conv => whnf); refine CallM.mk rfl ?_ ?_) | (refine CallS.z ?_; (conv => whnf); refine CallM.mk rfl ?_ ?_))
      all_goals (try (conv => whnf))
      refine LoopStop.mk (α := Nat) (fun i => [(49, .int .i64 i)]) (fun i => [(2, .own .str (fin2 s sp i))]) 3 (fun i => i ≤ sp.length) (fun i => sp.length - i) 0 (by simp) ?_ (fun i hi => ?_)
      · repeat' ((conv => whnf); first | (with_reducible rfl) | exact True.intro | (with_reducible exact absTF) | (with_reducible exact absFT) | intro _ | refine And.intro ?_ ?_ | refine Fin.mk ?_ | refine CallG.plain rfl ?_ ?_ | refine CallG.mk rfl ?_ ?_ | refine CallG.nwl rfl ?_ ?_ | refine CallG.nw ?_ ?_ | refine CallF.nwl rfl ?_ ?_ | refine CallF.nw ?_ ?_ | (refine CallS.q ?_; (conv => whnf); first | refine CallG.plain rfl ?_ ?_ | refine CallG.mk rfl ?_ ?_) | (refine CallS.m ?_; (conv => whnf); refine CallM.mk rfl ?_ ?_) | (refine CallS.h ?_; (conv => whnf); refine CallM.mk rfl ?_ ?_) | (refine CallS.b ?_; (conv => whnf); refine CallM.mk rfl ?_ ?_) | (refine CallS.z ?_; (conv => whnf); refine CallM.mk rfl ?_ ?_))
        all_goals (try (conv => whnf))
        all_goals (try rfl)
        all_goals trace_state
      · repeat' ((conv => whnf); first | (with_reducible rfl) | exact True.intro | (with_reducible exact absTF) | (with_reducible exact absFT) | intro _ | refine And.intro ?_ ?_ | refine Fin.mk ?_ | refine CallG.plain rfl ?_ ?_ | refine CallG.mk rfl ?_ ?_ | refine CallG.nwl rfl ?_ ?_ | refine CallG.nw ?_ ?_ | refine CallF.nwl rfl ?_ ?_ | refine CallF.nw ?_ ?_ | (refine CallS.q ?_; (conv => whnf); first | refine CallG.plain rfl ?_ ?_ | refine CallG.mk rfl ?_ ?_) | (refine CallS.m ?_; (conv => whnf); refine CallM.mk rfl ?_ ?_) | (refine CallS.h ?_; (conv => whnf); refine CallM.mk rfl ?_ ?_) | (refine CallS.b ?_; (conv => whnf); refine CallM.mk rfl ?_ ?_) | (refine CallS.z ?_; (conv => whnf); refine CallM.mk rfl ?_ ?_))
        all_goals (try (conv => whnf))
        all_goals (try (exact Ob.mk (u8_bnd _)))
        all_goals (try (refine Ob.mk ?_; first | exact True.intro | assumption | omega | (try simp only [decide_eq_true_eq, decide_eq_false_iff_not, beq_iff_eq, beq_eq_false_iff_ne, bne_iff_ne, bne_eq_false_iff_eq, ne_eq, Bool.and_eq_true, Bool.or_eq_true, Bool.not_eq_true, Bool.not_eq_false, Bool.not_eq_true', Bool.not_eq_false', Int.toNat_natCast, Int.not_lt, Int.not_le, UInt8.ofNat_toNat, cast_eq] at *; omega)))
        all_goals (try ((show (_:Int) = _); omega))
        all_goals (try (show tupSV _ = _; with_unfolding_all rfl))
        all_goals (try ((show (_ : Nat) ≤ _); (simp <;> omega)))
        all_goals (try ((show (_ : Nat) ≤ _ ∧ (_ : Nat) ≤ _); (simp <;> omega)))
        all_goals (try ((show (_ : Int) ≤ _ ∧ (_ : Int) ≤ _ ∧ (_ : Int) ≤ _ ∧ (_ : Int) ≤ _); (simp <;> omega)))
        all_goals (try simp only [decide_eq_true_eq, decide_eq_false_iff_not, beq_iff_eq, beq_eq_false_iff_ne, bne_iff_ne, bne_eq_false_iff_eq, ne_eq, Bool.and_eq_true, Bool.or_eq_true, Bool.not_eq_true, Bool.not_eq_false, Bool.not_eq_true', Bool.not_eq_false', Int.toNat_natCast, Int.not_lt, Int.not_le, UInt8.ofNat_toNat, cast_eq] at *)
        · exact hh.2 _ (getD_mem' (by omega))
        · rw [fin2_len s sp i hi]; omega
        · rw [fin2_len s sp i hi]; omega
        · skip
          have e := fin2_set s sp i (by omega)
          repeat' ((conv => whnf); first | (with_reducible rfl) | exact True.intro | (with_reducible exact absTF) | (with_reducible exact absFT) | intro _ | refine And.intro ?_ ?_ | refine Fin.mk ?_ | refine CallG.plain rfl ?_ ?_ | refine CallG.mk rfl ?_ ?_ | refine CallG.nwl rfl ?_ ?_ | refine CallG.nw ?_ ?_ | refine CallF.nwl rfl ?_ ?_ | refine CallF.nw ?_ ?_ | (refine CallS.q ?_; (conv => whnf); first | refine CallG.plain rfl ?_ ?_ | refine CallG.mk rfl ?_ ?_) | (refine CallS.m ?_; (conv => whnf); refine CallM.mk rfl ?_ ?_) | (refine CallS.h ?_; (conv => whnf); refine CallM.mk rfl ?_ ?_) | (refine CallS.b ?_; (conv => whnf); refine CallM.mk rfl ?_ ?_) | (refine CallS.z ?_; (conv => whnf); refine CallM.mk rfl ?_ ?_))
          all_goals (try (conv => whnf))
          all_goals (try (exact Ob.mk (u8_bnd _)))
          all_goals (try (refine Ob.mk ?_; first | exact True.intro | assumption | omega | (try simp only [decide_eq_true_eq, decide_eq_false_iff_not, beq_iff_eq, beq_eq_false_iff_ne, bne_iff_ne, bne_eq_false_iff_eq, ne_eq, Bool.and_eq_true, Bool.or_eq_true, Bool.not_eq_true, Bool.not_eq_false, Bool.not_eq_true', Bool.not_eq_false', Int.toNat_natCast, Int.not_lt, Int.not_le, UInt8.ofNat_toNat, cast_eq] at *; omega)))
          all_goals (try ((show (_:Int) = _); omega))
          all_goals (try (show tupSV _ = _; with_unfolding_all rfl))
          all_goals (try ((show (_ : Nat) ≤ _); (simp <;> omega)))
          all_goals (try ((show (_ : Nat) ≤ _ ∧ (_ : Nat) ≤ _); (simp <;> omega)))
          all_goals (try ((show (_ : Int) ≤ _ ∧ (_ : Int) ≤ _ ∧ (_ : Int) ≤ _ ∧ (_ : Int) ≤ _); (simp <;> omega)))
          refine Rnd.mk ⟨i + 1, ?_, ?_, ?_⟩
          · omega
          · omega
          · repeat' ((conv => whnf); first | (with_reducible rfl) | exact True.intro | (with_reducible exact absTF) | (with_reducible exact absFT) | intro _ | refine And.intro ?_ ?_ | refine Fin.mk ?_ | refine CallG.plain rfl ?_ ?_ | refine CallG.mk rfl ?_ ?_ | refine CallG.nwl rfl ?_ ?_ | refine CallG.nw ?_ ?_ | refine CallF.nwl rfl ?_ ?_ | refine CallF.nw ?_ ?_ | (refine CallS.q ?_; (conv => whnf); first | refine CallG.plain rfl ?_ ?_ | refine CallG.mk rfl ?_ ?_) | (refine CallS.m ?_; (conv => whnf); refine CallM.mk rfl ?_ ?_) | (refine CallS.h ?_; (conv => whnf); refine CallM.mk rfl ?_ ?_) | (refine CallS.b ?_; (conv => whnf); refine CallM.mk rfl ?_ ?_) | (refine CallS.z ?_; (conv => whnf); refine CallM.mk rfl ?_ ?_))
            all_goals (try (conv => whnf))
            all_goals (try (exact Ob.mk (u8_bnd _)))
            all_goals (try (refine Ob.mk ?_; first | exact True.intro | assumption | omega | (try simp only [decide_eq_true_eq, decide_eq_false_iff_not, beq_iff_eq, beq_eq_false_iff_ne, bne_iff_ne, bne_eq_false_iff_eq, ne_eq, Bool.and_eq_true, Bool.or_eq_true, Bool.not_eq_true, Bool.not_eq_false, Bool.not_eq_true', Bool.not_eq_false', Int.toNat_natCast, Int.not_lt, Int.not_le, UInt8.ofNat_toNat, cast_eq] at *; omega)))
            all_goals (try ((show (_:Int) = _); omega))
            all_goals (try (show tupSV _ = _; with_unfolding_all rfl))
            all_goals (try ((show (_ : Nat) ≤ _); (simp <;> omega)))
            all_goals (try ((show (_ : Nat) ≤ _ ∧ (_ : Nat) ≤ _); (simp <;> omega)))
            all_goals (try ((show (_ : Int) ≤ _ ∧ (_ : Int) ≤ _ ∧ (_ : Int) ≤ _ ∧ (_ : Int) ≤ _); (simp <;> omega)))
            all_goals (rw [← e]; rfl)
        · rw [fin2_end s sp i (by omega), hh.1]
end Go.Vc.W

namespace Go.Vc.W
open Go.Proofs
set_option linter.unusedVariables false
set_option maxRecDepth 10000
set_option linter.unusedSimpArgs false
instance f33 (s : List UInt8) : Fn BB 142 [.str s] (s.length ≤ 100000) (.rd .str (spl s)) := by
  refine Fn.intro (N := 5) [0, 2] [] Try.call142 Try.func142 rfl rfl (by kernel_rfl) (fun hpre => ?_)
  repeat' ((conv => whnf); first | (with_reducible rfl) | exact True.intro | (with_reducible exact absTF) | (with_reducible exact absFT) | intro _ | refine And.intro ?_ ?_ | refine Fin.mk ?_ | refine CallG.plain rfl ?_ ?_ | refine CallG.mk rfl ?_ ?_ | refine CallG.nwl rfl ?_ ?_ | refine CallG.nw ?_ ?_ | refine CallF.nwl rfl ?_ ?_ | refine CallF.nw ?_ ?_ | (refine CallS.q ?_; (conv => whnf); first | refine CallG.plain rfl ?_ ?_ | refine CallG.mk rfl ?_ ?_) | (refine CallS.m ?_; (conv => whnf); refine CallM.mk rfl ?_ ?_) | (refine CallS.h ?_; (conv => whnf); refine CallM.mk rfl ?_ ?_) | (refine CallS.b ?_; (conv => whnf); refine CallM.mk rfl ?_ ?_) | (refine CallS.z ?_; (conv => whnf); refine CallM.mk rfl ?_ ?_))
  all_goals (try (conv => whnf))
  all_goals (try (exact Ob.mk (u8_bnd _)))
  all_goals (try (refine Ob.mk ?_; first | exact True.intro | assumption | omega | (try simp only [decide_eq_true_eq, decide_eq_false_iff_not, beq_iff_eq, beq_eq_false_iff_ne, bne_iff_ne, bne_eq_false_iff_eq, ne_eq, Bool.and_eq_true, Bool.or_eq_true, Bool.not_eq_true, Bool.not_eq_false, Bool.not_eq_true', Bool.not_eq_false', Int.toNat_natCast, Int.not_lt, Int.not_le, UInt8.ofNat_toNat, cast_eq] at *; omega)))
  all_goals (try ((show (_:Int) = _); omega))
  all_goals (try (show tupSV _ = _; with_unfolding_all rfl))
  all_goals (try ((show (_ : Nat) ≤ _); (simp <;> omega)))
  all_goals (try ((show (_ : Nat) ≤ _ ∧ (_ : Nat) ≤ _); (simp <;> omega)))
  all_goals (try ((show (_ : Int) ≤ _ ∧ (_ : Int) ≤ _ ∧ (_ : Int) ≤ _ ∧ (_ : Int) ≤ _); (simp <;> omega)))
instance f30 (s t : List UInt8) : Fn BB 124 [.str s, .str t] (s.length ≤ 4294967280) (.int .i64 (Lib.index s t)) := by
  refine Fn.lift Try.call124 fun hp r β w vs hG m hl => ?_
  obtain ⟨rfl, h1, h2⟩ := hl.str2
  obtain ⟨c, T, fr, mm, e1, e2⟩ := hG
  have e3 := m.vis 0 _ e1
  exact ⟨_, Try.strings_Index ⟨s.toArray⟩ ⟨t.toArray⟩ mm w (by show s.toArray.size < _; simp; omega) (by simp [World.cell?, e3, e2]), .int⟩
end Go.Vc.W

namespace Go.Vc.W
open Go.Proofs
set_option linter.unusedVariables false
set_option maxRecDepth 10000
set_option linter.unusedSimpArgs false
def BOcc (s w : List UInt8) (j : Nat) : Prop := Lib.occAt s w j = true ∧ (j = 0 ∨ isSp (s.getD (j-1) 0).toNat = true) ∧ (j + w.length = s.length ∨ isSp (s.getD (j + w.length) 0).toNat = true)
/-- no word begins ahead of it -/
def NoB (s w : List UInt8) (a : Nat) : Prop := ∀ j, j < a → ¬ BOcc s w j
theorem occ_cut (s : List UInt8) (j i : Nat) (h : j ≤ i) (h2 : i ≤ s.length) : Lib.occAt s (cut s (j, i)) j = true := by
  unfold Lib.occAt cut
  rw [List.isPrefixOf_iff_prefix]
  simp only [Int.toNat_natCast]
  rw [List.drop_take]
  exact List.take_prefix _ _
theorem cut_len (s : List UInt8) (j i : Nat) (h : j ≤ i) (h2 : i ≤ s.length) : (cut s (j, i)).length = i - j := by
  simp [cut]; omega
theorem spAt_words (s : List UInt8) (i : Nat) (h : i ≤ s.length) :
    (∀ x ∈ (spAt s i).1, ¬ x = [] ∧ ∃ j, BOcc s x j) ∧ ∃ j, j ≤ i ∧ (spAt s i).2 = cut s ((j:Nat), (i:Nat)) ∧ (j = 0 ∨ isSp (s.getD (j-1) 0).toNat = true) := by
  induction i with
  | zero => exact ⟨by simp [spAt], 0, by simp, by simp [spAt, cut], Or.inl rfl⟩
  | succ i ih =>
    obtain ⟨ih1, j, hj, e, hb⟩ := ih (by omega)
    have es := spAt_succ s i (by omega)
    cases hc : isSp (s.getD i 0).toNat with
    | false =>
      rw [spStep_no hc] at es
      rw [es]
      exact ⟨ih1, j, by omega, by rw [cut_more s j i hj (by omega), ← e], hb⟩
    | true =>
      by_cases h2 : (spAt s i).2 = []
      · rw [spStep_sp hc h2] at es
        rw [es]
        exact ⟨ih1, i + 1, by omega, by simp [cut], Or.inr (by simpa using hc)⟩
      · rw [spStep_spw hc h2] at es
        rw [es]
        refine ⟨fun x hx => ?_, i + 1, by omega, by simp [cut], Or.inr (by simpa using hc)⟩
        rcases List.mem_append.mp hx with hx | hx
        · exact ih1 x hx
        · simp only [List.mem_singleton] at hx
          subst hx
          refine ⟨h2, j, ?_⟩
          rw [e]
          refine ⟨occ_cut s j i hj (by omega), hb, Or.inr ?_⟩
          rw [cut_len s j i hj (by omega)]
          have : j + (i - j) = i := by omega
          rw [this]; exact hc
theorem spl_words (s x : List UInt8) (h : (spl s).contains x = true) : ¬ x = [] ∧ ∃ j, BOcc s x j := by
  have hx : x ∈ spl s := by simpa using h
  obtain ⟨h1, j, hj, e, hb⟩ := spAt_words s s.length (Nat.le_refl _)
  by_cases h2 : (spAt s s.length).2 = []
  · rw [spl_e (Nat.le_refl _) h2] at hx; exact h1 x hx
  · rw [spl_w (Nat.le_refl _) h2] at hx
    rcases List.mem_append.mp hx with hx | hx
    · exact h1 x hx
    · simp only [List.mem_singleton] at hx
      subst hx
      refine ⟨h2, j, ?_⟩
      rw [e]
      refine ⟨occ_cut s j _ hj (Nat.le_refl _), hb, Or.inl ?_⟩
      rw [cut_len s j _ hj (Nat.le_refl _)]; omega
theorem spl_empty (s x : List UInt8) (h : x = []) : (spl s).contains x = false := by
  cases e : (spl s).contains x with
  | false => rfl
  | true => exact absurd h (spl_words s x e).1
theorem spl_noB (s x : List UInt8) (n : Nat) (hn : s.length ≤ n) (h0 : ¬ x = []) (h : NoB s x n) : (spl s).contains x = false := by
  cases e : (spl s).contains x with
  | false => rfl
  | true =>
    obtain ⟨j, hj⟩ := (spl_words s x e).2
    rcases Lib.occAt_room hj.1 with k | k
    · have : 0 < x.length := List.length_pos_iff.mpr h0
      exact absurd hj (h j (by omega))
    · exact absurd k h0
theorem least (f : Nat → Bool) (n : Nat) (h : f n = true) : ∃ m, f m = true ∧ ∀ j, j < m → f j = false := by
  induction n using Nat.strongRecOn with
  | _ n ih =>
    by_cases hh : ∃ j, j < n ∧ f j = true
    · obtain ⟨j, h1, h2⟩ := hh
      exact ih j h1 h2
    · refine ⟨n, h, fun j hj => ?_⟩
      cases e : f j with
      | false => rfl
      | true => exact absurd ⟨j, hj, e⟩ hh
theorem ixs (s w : List UInt8) (i : Nat) (hi : i ≤ s.length) (h0 : ¬ w = []) :
    (Lib.index (s.drop i) w = -1 ∧ ∀ j, i ≤ j → Lib.occAt s w j = false) ∨
    ∃ p : Nat, Lib.index (s.drop i) w = p ∧ i + p + w.length ≤ s.length ∧ Lib.occAt s w (i + p) = true ∧ ∀ j, i ≤ j → j < i + p → Lib.occAt s w j = false := by
  have sh : ∀ q, Lib.occAt (s.drop i) w q = Lib.occAt s w (i + q) := fun q => by simp [Lib.occAt, List.drop_drop]
  by_cases hh : ∃ q, Lib.occAt (s.drop i) w q = true
  · right
    obtain ⟨q, hq⟩ := hh
    obtain ⟨p, hd, hm⟩ := least _ q hq
    refine ⟨p, ?_⟩
    have hr : i + p + w.length ≤ s.length := by
      rcases Lib.occAt_room hd with k | k
      · have : 0 < w.length := List.length_pos_iff.mpr h0
        simp at k; omega
      · exact absurd k h0
    refine ⟨Lib.index_first (by simp; omega) hd hm, hr, by rw [← sh]; exact hd, fun j h1 h2 => ?_⟩
    have := hm (j - i) (by omega)
    rw [sh] at this
    have e : i + (j - i) = j := by omega
    rwa [e] at this
  · left
    have hm : ∀ q, Lib.occAt (s.drop i) w q = false := fun q => by
      cases e : Lib.occAt (s.drop i) w q with
      | false => rfl
      | true => exact absurd ⟨q, e⟩ hh
    refine ⟨Lib.index_none fun j _ => hm j, fun j h1 => ?_⟩
    have := hm (j - i)
    rw [sh] at this
    have e : i + (j - i) = j := by omega
    rwa [e] at this
end Go.Vc.W

namespace Go.Vc.W
open Go.Proofs
set_option linter.unusedVariables false
set_option maxRecDepth 10000
set_option linter.unusedSimpArgs false
theorem ixOf_has (l : List (List UInt8)) (w : List UInt8) : decide (ixOf l w ≥ 0) = l.contains w := by
  unfold ixOf
  cases h : l.contains w <;> simp
theorem nob_step {s w : List UInt8} {i p : Nat} (h : NoB s w i) (hp : ∀ j, i ≤ j → j < i + p → Lib.occAt s w j = false) (hb : ¬ BOcc s w (i + p)) : NoB s w (i + p + 1) := by
  intro j hj
  by_cases h1 : j < i
  · exact h j h1
  · by_cases h2 : j < i + p
    · intro e; have := hp j (by omega) h2; rw [e.1] at this; cases this
    · have : j = i + p := by omega
      subst this; exact hb
theorem nob_end {s w : List UInt8} {i : Nat} (h : NoB s w i) (hp : ∀ j, i ≤ j → Lib.occAt s w j = false) (n : Nat) : NoB s w n := by
  intro j hj
  by_cases h1 : j < i
  · exact h j h1
  · intro e; have := hp j (by omega); rw [e.1] at this; cases this
instance f26 (s w : List UInt8) : Fn BB 102 [.str s, .str w] (s.length ≤ 100000 ∧ w.length ≤ 100000) (.bool ((spl s).contains w)) := by
  refine Fn.intro (N := 52) [0, 1, 4, 5, 6, 7, 8, 10, 17, 45] [] Try.call102 Try.func102 rfl rfl (by kernel_rfl) (fun hpre => ?_)
  repeat' ((conv => whnf); first | (with_reducible rfl) | exact True.intro | (with_reducible exact absTF) | (with_reducible exact absFT) | intro _ | refine And.intro ?_ ?_ | refine Fin.mk ?_ | refine CallG.plain rfl ?_ ?_ | refine CallG.mk rfl ?_ ?_ | refine CallG.nwl rfl ?_ ?_ | refine CallG.nw ?_ ?_ | refine CallF.nwl rfl ?_ ?_ | refine CallF.nw ?_ ?_ | (refine CallS.q ?_; (conv => whnf); first | refine CallG.plain rfl ?_ ?_ | refine CallG.mk rfl ?_ ?_) | (refine CallS.m ?_; (conv => whnf); refine CallM.mk rfl ?_ ?_) | (refine CallS.h ?_; (conv => whnf); refine CallM.mk rfl ?_ ?_) | (refine CallS.b ?_; (conv => whnf); refine CallM.mk rfl ?_ ?_) | (refine CallS.z ?_; (conv => whnf); refine CallM.mk rfl ?_ ?_))
  all_goals (try (conv => whnf))
  all_goals (try (exact Ob.mk (u8_bnd _)))
  all_goals (try (refine Ob.mk ?_; first | exact True.intro | assumption | omega | (try simp only [decide_eq_true_eq, decide_eq_false_iff_not, beq_iff_eq, beq_eq_false_iff_ne, bne_iff_ne, bne_eq_false_iff_eq, ne_eq, Bool.and_eq_true, Bool.or_eq_true, Bool.not_eq_true, Bool.not_eq_false, Bool.not_eq_true', Bool.not_eq_false', Int.toNat_natCast, Int.not_lt, Int.not_le, UInt8.ofNat_toNat, cast_eq] at *; omega)))
  all_goals (try ((show (_:Int) = _); omega))
  all_goals (try (show tupSV _ = _; with_unfolding_all rfl))
  all_goals (try ((show (_ : Nat) ≤ _); (simp <;> omega)))
  all_goals (try ((show (_ : Nat) ≤ _ ∧ (_ : Nat) ≤ _); (simp <;> omega)))
  all_goals (try ((show (_ : Int) ≤ _ ∧ (_ : Int) ≤ _ ∧ (_ : Int) ≤ _ ∧ (_ : Int) ≤ _); (simp <;> omega)))
  · rw [spl_empty s w (by simpa using ‹(w == []) = true›)]
  · have h0 : ¬ w = [] := by simpa using ‹(w == []) = false›
    refine LoopStop.mk (α := Nat) (fun i => [(5, .int .i64 i)]) (fun i => []) 0 (fun i => i ≤ s.length ∧ NoB s w i) (fun i => s.length + 1 - i) 0 ⟨by omega, fun j hj => absurd hj (by omega)⟩ ?_ (fun i hi => ?_)
    · repeat' ((conv => whnf); first | (with_reducible rfl) | exact True.intro | (with_reducible exact absTF) | (with_reducible exact absFT) | intro _ | refine And.intro ?_ ?_ | refine Fin.mk ?_ | refine CallG.plain rfl ?_ ?_ | refine CallG.mk rfl ?_ ?_ | refine CallG.nwl rfl ?_ ?_ | refine CallG.nw ?_ ?_ | refine CallF.nwl rfl ?_ ?_ | refine CallF.nw ?_ ?_ | (refine CallS.q ?_; (conv => whnf); first | refine CallG.plain rfl ?_ ?_ | refine CallG.mk rfl ?_ ?_) | (refine CallS.m ?_; (conv => whnf); refine CallM.mk rfl ?_ ?_) | (refine CallS.h ?_; (conv => whnf); refine CallM.mk rfl ?_ ?_) | (refine CallS.b ?_; (conv => whnf); refine CallM.mk rfl ?_ ?_) | (refine CallS.z ?_; (conv => whnf); refine CallM.mk rfl ?_ ?_))
      all_goals (try (conv => whnf))
      all_goals (try rfl)
    · have hx := ixs s w i hi.1 h0
      have hl0 : 0 < w.length := List.length_pos_iff.mpr h0
      repeat' ((conv => whnf); first | (with_reducible rfl) | exact True.intro | (with_reducible exact absTF) | (with_reducible exact absFT) | intro _ | refine And.intro ?_ ?_ | refine Fin.mk ?_ | refine CallG.plain rfl ?_ ?_ | refine CallG.mk rfl ?_ ?_ | refine CallG.nwl rfl ?_ ?_ | refine CallG.nw ?_ ?_ | refine CallF.nwl rfl ?_ ?_ | refine CallF.nw ?_ ?_ | (refine CallS.q ?_; (conv => whnf); first | refine CallG.plain rfl ?_ ?_ | refine CallG.mk rfl ?_ ?_) | (refine CallS.m ?_; (conv => whnf); refine CallM.mk rfl ?_ ?_) | (refine CallS.h ?_; (conv => whnf); refine CallM.mk rfl ?_ ?_) | (refine CallS.b ?_; (conv => whnf); refine CallM.mk rfl ?_ ?_) | (refine CallS.z ?_; (conv => whnf); refine CallM.mk rfl ?_ ?_))
      all_goals (try (conv => whnf))
      all_goals (try simp only [decide_eq_true_eq, decide_eq_false_iff_not, beq_iff_eq, beq_eq_false_iff_ne, bne_iff_ne, bne_eq_false_iff_eq, ne_eq, Bool.and_eq_true, Bool.or_eq_true, Bool.not_eq_true, Bool.not_eq_false, Bool.not_eq_true', Bool.not_eq_false', Int.toNat_natCast, Int.not_lt, Int.not_le, UInt8.ofNat_toNat, cast_eq] at *)
      all_goals (rcases hx with ⟨hx, hx2⟩ | ⟨p, hx, hx1, hx2, hx3⟩)
      all_goals (try (exfalso; omega))
      all_goals (try (exact Ob.mk (u8_bnd _)))
      all_goals (try (refine Ob.mk ?_; first | exact True.intro | assumption | omega | (try simp only [decide_eq_true_eq, decide_eq_false_iff_not, beq_iff_eq, beq_eq_false_iff_ne, bne_iff_ne, bne_eq_false_iff_eq, ne_eq, Bool.and_eq_true, Bool.or_eq_true, Bool.not_eq_true, Bool.not_eq_false, Bool.not_eq_true', Bool.not_eq_false', Int.toNat_natCast, Int.not_lt, Int.not_le, UInt8.ofNat_toNat, cast_eq] at *; omega)))
      all_goals (try ((show (_:Int) = _); omega))
      all_goals (try (show tupSV _ = _; with_unfolding_all rfl))
      all_goals (try ((show (_ : Nat) ≤ _); (simp <;> omega)))
      all_goals (try ((show (_ : Nat) ≤ _ ∧ (_ : Nat) ≤ _); (simp <;> omega)))
      all_goals (try ((show (_ : Int) ≤ _ ∧ (_ : Int) ≤ _ ∧ (_ : Int) ≤ _ ∧ (_ : Int) ≤ _); (simp <;> omega)))
      · rw [spl_noB s w s.length (Nat.le_refl _) h0 (nob_end hi.2 hx2 _)]
      · rw [ixOf_has]
      · have hb : ¬ BOcc s w (i + p) := by
          rintro ⟨b1, b2, b3⟩
          have e1 : ((i:Int) + (p:Int) - 1).toNat = i + p - 1 := by omega
          have e2 : ((i:Int) + (p:Int) + (w.length:Int)).toNat = i + p + w.length := by omega
          rename_i hc _ _
          rw [hx, e1, e2] at hc
          simp only [Bool.and_eq_false_iff, Bool.or_eq_false_iff, beq_eq_false_iff_ne] at hc
          rcases hc with ⟨c1, c2⟩ | ⟨c1, c2⟩
          · rcases b2 with b2 | b2
            · omega
            · rw [b2] at c2; cases c2
          · rcases b3 with b3 | b3
            · omega
            · rw [b3] at c2; cases c2
        refine Rnd.mk ⟨i + p + 1, ?_, ?_, ?_⟩
        · exact ⟨by omega, nob_step hi.2 hx3 hb⟩
        · omega
        · repeat' ((conv => whnf); first | (with_reducible rfl) | exact True.intro | (with_reducible exact absTF) | (with_reducible exact absFT) | intro _ | refine And.intro ?_ ?_ | refine Fin.mk ?_ | refine CallG.plain rfl ?_ ?_ | refine CallG.mk rfl ?_ ?_ | refine CallG.nwl rfl ?_ ?_ | refine CallG.nw ?_ ?_ | refine CallF.nwl rfl ?_ ?_ | refine CallF.nw ?_ ?_ | (refine CallS.q ?_; (conv => whnf); first | refine CallG.plain rfl ?_ ?_ | refine CallG.mk rfl ?_ ?_) | (refine CallS.m ?_; (conv => whnf); refine CallM.mk rfl ?_ ?_) | (refine CallS.h ?_; (conv => whnf); refine CallM.mk rfl ?_ ?_) | (refine CallS.b ?_; (conv => whnf); refine CallM.mk rfl ?_ ?_) | (refine CallS.z ?_; (conv => whnf); refine CallM.mk rfl ?_ ?_))
          all_goals (try (conv => whnf))
          all_goals (try (exact Ob.mk (u8_bnd _)))
          all_goals (try (refine Ob.mk ?_; first | exact True.intro | assumption | omega | (try simp only [decide_eq_true_eq, decide_eq_false_iff_not, beq_iff_eq, beq_eq_false_iff_ne, bne_iff_ne, bne_eq_false_iff_eq, ne_eq, Bool.and_eq_true, Bool.or_eq_true, Bool.not_eq_true, Bool.not_eq_false, Bool.not_eq_true', Bool.not_eq_false', Int.toNat_natCast, Int.not_lt, Int.not_le, UInt8.ofNat_toNat, cast_eq] at *; omega)))
          all_goals (try ((show (_:Int) = _); omega))
          all_goals (try (show tupSV _ = _; with_unfolding_all rfl))
          all_goals (try ((show (_ : Nat) ≤ _); (simp <;> omega)))
          all_goals (try ((show (_ : Nat) ≤ _ ∧ (_ : Nat) ≤ _); (simp <;> omega)))
          all_goals (try ((show (_ : Int) ≤ _ ∧ (_ : Int) ≤ _ ∧ (_ : Int) ≤ _ ∧ (_ : Int) ≤ _); (simp <;> omega)))
end Go.Vc.W

namespace Go.Vc.W
open Go.Proofs
set_option linter.unusedVariables false
set_option maxRecDepth 10000
set_option linter.unusedSimpArgs false
def cForeign : List UInt8 := [100, 101, 115, 99, 32, 102, 111, 114, 101, 105, 103, 110, 79, 98, 106, 101, 99, 116, 32, 116, 105, 116, 108, 101]
def cPoints : List UInt8 := [109, 105, 32, 109, 110, 32, 109, 111, 32, 109, 115, 32, 109, 116, 101, 120, 116]
def cMath : List UInt8 := [97, 110, 110, 111, 116, 97, 116, 105, 111, 110, 45, 120, 109, 108, 32, 109, 105, 32, 109, 110, 32, 109, 111, 32, 109, 115, 32, 109, 116, 101, 120, 116]
def cAxml : List UInt8 := [97, 110, 110, 111, 116, 97, 116, 105, 111, 110, 45, 120, 109, 108]
def cSpecial : List UInt8 := [97, 100, 100, 114, 101, 115, 115, 32, 97, 112, 112, 108, 101, 116, 32, 97, 114, 101, 97, 32, 97, 114, 116, 105, 99, 108, 101, 32, 97, 115, 105, 100, 101, 32, 98, 97, 115, 101, 32, 98, 97, 115, 101, 102, 111, 110, 116, 32, 98, 103, 115, 111, 117, 110, 100, 32, 98, 108, 111, 99, 107, 113, 117, 111, 116, 101, 32, 98, 111, 100, 121, 32, 98, 114, 32, 98, 117, 116, 116, 111, 110, 32, 99, 97, 112, 116, 105, 111, 110, 32, 99, 101, 110, 116, 101, 114, 32, 99, 111, 108, 32, 99, 111, 108, 103, 114, 111, 117, 112, 32, 100, 100, 32, 100, 101, 116, 97, 105, 108, 115, 32, 100, 105, 114, 32, 100, 105, 118, 32, 100, 108, 32, 100, 116, 32, 101, 109, 98, 101, 100, 32, 102, 105, 101, 108, 100, 115, 101, 116, 32, 102, 105, 103, 99, 97, 112, 116, 105, 111, 110, 32, 102, 105, 103, 117, 114, 101, 32, 102, 111, 111, 116, 101, 114, 32, 102, 111, 114, 109, 32, 102, 114, 97, 109, 101, 32, 102, 114, 97, 109, 101, 115, 101, 116, 32, 104, 49, 32, 104, 50, 32, 104, 51, 32, 104, 52, 32, 104, 53, 32, 104, 54, 32, 104, 101, 97, 100, 32, 104, 101, 97, 100, 101, 114, 32, 104, 103, 114, 111, 117, 112, 32, 104, 114, 32, 104, 116, 109, 108, 32, 105, 102, 114, 97, 109, 101, 32, 105, 109, 103, 32, 105, 110, 112, 117, 116, 32, 107, 101, 121, 103, 101, 110, 32, 108, 105, 32, 108, 105, 110, 107, 32, 108, 105, 115, 116, 105, 110, 103, 32, 109, 97, 105, 110, 32, 109, 97, 114, 113, 117, 101, 101, 32, 109, 101, 110, 117, 32, 109, 101, 116, 97, 32, 110, 97, 118, 32, 110, 111, 101, 109, 98, 101, 100, 32, 110, 111, 102, 114, 97, 109, 101, 115, 32, 110, 111, 115, 99, 114, 105, 112, 116, 32, 111, 98, 106, 101, 99, 116, 32, 111, 108, 32, 111, 112, 116, 103, 114, 111, 117, 112, 32, 111, 112, 116, 105, 111, 110, 32, 112, 32, 112, 97, 114, 97, 109, 32, 112, 108, 97, 105, 110, 116, 101, 120, 116, 32, 112, 114, 101, 32, 115, 99, 114, 105, 112, 116, 32, 115, 101, 97, 114, 99, 104, 32, 115, 101, 99, 116, 105, 111, 110, 32, 115, 101, 108, 101, 99, 116, 32, 115, 111, 117, 114, 99, 101, 32, 115, 116, 121, 108, 101, 32, 115, 117, 109, 109, 97, 114, 121, 32, 116, 97, 98, 108, 101, 32, 116, 98, 111, 100, 121, 32, 116, 100, 32, 116, 101, 109, 112, 108, 97, 116, 101, 32, 116, 101, 120, 116, 97, 114, 101, 97, 32, 116, 102, 111, 111, 116, 32, 116, 104, 32, 116, 104, 101, 97, 100, 32, 116, 105, 116, 108, 101, 32, 116, 114, 32, 116, 114, 97, 99, 107, 32, 117, 108, 32, 119, 98, 114, 32, 120, 109, 112]
def cFormat : List UInt8 := [97, 32, 98, 32, 98, 105, 103, 32, 99, 111, 100, 101, 32, 101, 109, 32, 102, 111, 110, 116, 32, 105, 32, 110, 111, 98, 114, 32, 115, 32, 115, 109, 97, 108, 108, 32, 115, 116, 114, 105, 107, 101, 32, 115, 116, 114, 111, 110, 103, 32, 116, 116, 32, 117]
def cVoid : List UInt8 := [97, 114, 101, 97, 32, 98, 97, 115, 101, 32, 98, 97, 115, 101, 102, 111, 110, 116, 32, 98, 103, 115, 111, 117, 110, 100, 32, 98, 114, 32, 99, 111, 108, 32, 101, 109, 98, 101, 100, 32, 102, 114, 97, 109, 101, 32, 104, 114, 32, 105, 109, 103, 32, 105, 110, 112, 117, 116, 32, 107, 101, 121, 103, 101, 110, 32, 108, 105, 110, 107, 32, 109, 101, 116, 97, 32, 112, 97, 114, 97, 109, 32, 115, 111, 117, 114, 99, 101, 32, 116, 114, 97, 99, 107, 32, 119, 98, 114]
def cHead : List UInt8 := [104, 49, 32, 104, 50, 32, 104, 51, 32, 104, 52, 32, 104, 53, 32, 104, 54]
def cImpl : List UInt8 := [100, 100, 32, 100, 116, 32, 108, 105, 32, 111, 112, 116, 103, 114, 111, 117, 112, 32, 111, 112, 116, 105, 111, 110, 32, 112, 32, 114, 98, 32, 114, 112, 32, 114, 116, 32, 114, 116, 99]
def cMark : List UInt8 := [97, 112, 112, 108, 101, 116, 32, 99, 97, 112, 116, 105, 111, 110, 32, 109, 97, 114, 113, 117, 101, 101, 32, 111, 98, 106, 101, 99, 116, 32, 116, 100, 32, 116, 104]
def cEnds : List UInt8 := [97, 112, 112, 108, 101, 116, 32, 99, 97, 112, 116, 105, 111, 110, 32, 104, 116, 109, 108, 32, 109, 97, 114, 113, 117, 101, 101, 32, 111, 98, 106, 101, 99, 116, 32, 116, 97, 98, 108, 101, 32, 116, 100, 32, 116, 101, 109, 112, 108, 97, 116, 101, 32, 116, 104]
def cOlUl : List UInt8 := [111, 108, 32, 117, 108]
def cButton : List UInt8 := [98, 117, 116, 116, 111, 110]
def cTable : List UInt8 := [104, 116, 109, 108, 32, 116, 97, 98, 108, 101, 32, 116, 101, 109, 112, 108, 97, 116, 101]
def cOpt : List UInt8 := [111, 112, 116, 103, 114, 111, 117, 112, 32, 111, 112, 116, 105, 111, 110]
def cBlock : List UInt8 := [97, 100, 100, 114, 101, 115, 115, 32, 97, 114, 116, 105, 99, 108, 101, 32, 97, 115, 105, 100, 101, 32, 98, 108, 111, 99, 107, 113, 117, 111, 116, 101, 32, 99, 101, 110, 116, 101, 114, 32, 100, 101, 116, 97, 105, 108, 115, 32, 100, 105, 97, 108, 111, 103, 32, 100, 105, 114, 32, 100, 105, 118, 32, 100, 108, 32, 102, 105, 101, 108, 100, 115, 101, 116, 32, 102, 105, 103, 99, 97, 112, 116, 105, 111, 110, 32, 102, 105, 103, 117, 114, 101, 32, 102, 111, 111, 116, 101, 114, 32, 104, 101, 97, 100, 101, 114, 32, 104, 103, 114, 111, 117, 112, 32, 108, 105, 115, 116, 105, 110, 103, 32, 109, 97, 105, 110, 32, 109, 101, 110, 117, 32, 110, 97, 118, 32, 111, 108, 32, 112, 32, 112, 114, 101, 32, 115, 101, 97, 114, 99, 104, 32, 115, 101, 99, 116, 105, 111, 110, 32, 115, 117, 109, 109, 97, 114, 121, 32, 117, 108]
def cBreak : List UInt8 := [98, 32, 98, 105, 103, 32, 98, 108, 111, 99, 107, 113, 117, 111, 116, 101, 32, 98, 111, 100, 121, 32, 98, 114, 32, 99, 101, 110, 116, 101, 114, 32, 99, 111, 100, 101, 32, 100, 100, 32, 100, 105, 118, 32, 100, 108, 32, 100, 116, 32, 101, 109, 32, 101, 109, 98, 101, 100, 32, 104, 49, 32, 104, 50, 32, 104, 51, 32, 104, 52, 32, 104, 53, 32, 104, 54, 32, 104, 101, 97, 100, 32, 104, 114, 32, 105, 32, 105, 109, 103, 32, 108, 105, 32, 108, 105, 115, 116, 105, 110, 103, 32, 109, 101, 110, 117, 32, 109, 101, 116, 97, 32, 110, 111, 98, 114, 32, 111, 108, 32, 112, 32, 112, 114, 101, 32, 114, 117, 98, 121, 32, 115, 32, 115, 109, 97, 108, 108, 32, 115, 112, 97, 110, 32, 115, 116, 114, 111, 110, 103, 32, 115, 116, 114, 105, 107, 101, 32, 115, 117, 98, 32, 115, 117, 112, 32, 116, 97, 98, 108, 101, 32, 116, 116, 32, 117, 32, 117, 108, 32, 118, 97, 114]
def cRc : List UInt8 := [116, 101, 120, 116, 97, 114, 101, 97, 32, 116, 105, 116, 108, 101]
def cRaw : List UInt8 := [105, 102, 114, 97, 109, 101, 32, 110, 111, 101, 109, 98, 101, 100, 32, 110, 111, 102, 114, 97, 109, 101, 115, 32, 115, 116, 121, 108, 101, 32, 120, 109, 112]
def cScript : List UInt8 := [115, 99, 114, 105, 112, 116]
def cPlain : List UInt8 := [112, 108, 97, 105, 110, 116, 101, 120, 116]
def w_dd : List UInt8 := [100, 100]
def w_dt : List UInt8 := [100, 116]
def w_li : List UInt8 := [108, 105]
def w_optgroup : List UInt8 := [111, 112, 116, 103, 114, 111, 117, 112]
def w_option : List UInt8 := [111, 112, 116, 105, 111, 110]
def w_p : List UInt8 := [112]
def w_rb : List UInt8 := [114, 98]
def w_rp : List UInt8 := [114, 112]
def w_rt : List UInt8 := [114, 116]
def w_rtc : List UInt8 := [114, 116, 99]
def w_ol : List UInt8 := [111, 108]
def w_ul : List UInt8 := [117, 108]
def w_button : List UInt8 := [98, 117, 116, 116, 111, 110]
def w_textarea : List UInt8 := [116, 101, 120, 116, 97, 114, 101, 97]
def w_title : List UInt8 := [116, 105, 116, 108, 101]
def w_iframe : List UInt8 := [105, 102, 114, 97, 109, 101]
def w_noembed : List UInt8 := [110, 111, 101, 109, 98, 101, 100]
def w_noframes : List UInt8 := [110, 111, 102, 114, 97, 109, 101, 115]
def w_style : List UInt8 := [115, 116, 121, 108, 101]
def w_xmp : List UInt8 := [120, 109, 112]
def w_script : List UInt8 := [115, 99, 114, 105, 112, 116]
def w_plaintext : List UInt8 := [112, 108, 97, 105, 110, 116, 101, 120, 116]
def w_h1 : List UInt8 := [104, 49]
def w_h2 : List UInt8 := [104, 50]
def w_h3 : List UInt8 := [104, 51]
def w_h4 : List UInt8 := [104, 52]
def w_h5 : List UInt8 := [104, 53]
def w_h6 : List UInt8 := [104, 54]

def has (c nm : List UInt8) : Bool := (spl c).contains nm
def kForeign (sp : Int) (nm : List UInt8) : Bool := (sp == 2 && has cMath nm) || (sp == 1 && has cForeign nm)
def kHtml (sp : Int) (nm c : List UInt8) : Bool := sp == 0 && has c nm
def kSpecial (sp : Int) (nm : List UInt8) : Bool := kForeign sp nm || kHtml sp nm cSpecial
def kStops (sc sp : Int) (nm : List UInt8) : Bool :=
  let few := kForeign sp nm || kHtml sp nm cEnds
  if sc = 0 then few else if sc = 1 then few || kHtml sp nm cOlUl else if sc = 2 then few || kHtml sp nm cButton
  else if sc = 3 then kHtml sp nm cTable else !(sc == 4) || !kHtml sp nm cOpt
def kLexed (nm : List UInt8) : Int := if has cRc nm then 1 else if has cRaw nm then 2 else if nm = cScript then 3 else if nm = cPlain then 4 else 0
theorem spl_cMath : spl cMath = [cAxml] ++ spl cPoints := by decide +kernel
theorem spl_cHead : spl cHead = [w_h1, w_h2, w_h3, w_h4, w_h5, w_h6] := by decide +kernel
theorem spl_cImpl : spl cImpl = [w_dd, w_dt, w_li, w_optgroup, w_option, w_p, w_rb, w_rp, w_rt, w_rtc] := by decide +kernel
theorem spl_cOlUl : spl cOlUl = [w_ol, w_ul] := by decide +kernel
theorem spl_cButton : spl cButton = [w_button] := by decide +kernel
theorem spl_cOpt : spl cOpt = [w_optgroup, w_option] := by decide +kernel
theorem spl_cRc : spl cRc = [w_textarea, w_title] := by decide +kernel
theorem spl_cRaw : spl cRaw = [w_iframe, w_noembed, w_noframes, w_style, w_xmp] := by decide +kernel
instance f28 (sp : Int) (nm c : List UInt8) : Fn BB 148 [.int .i64 sp, .str nm, .str c] (nm.length ≤ 60 ∧ c.length ≤ 100000) (.bool (kHtml sp nm c)) := by
  refine Fn.intro (N := 14) [0, 1, 2, 6] [] Try.call148 Try.func148 rfl rfl (by kernel_rfl) (fun hpre => ?_)
  repeat' ((conv => whnf); first | (with_reducible rfl) | exact True.intro | (with_reducible exact absTF) | (with_reducible exact absFT) | intro _ | refine And.intro ?_ ?_ | refine Fin.mk ?_ | refine CallG.plain rfl ?_ ?_ | refine CallG.mk rfl ?_ ?_ | refine CallG.nwl rfl ?_ ?_ | refine CallG.nw ?_ ?_ | refine CallF.nwl rfl ?_ ?_ | refine CallF.nw ?_ ?_ | (refine CallS.q ?_; (conv => whnf); first | refine CallG.plain rfl ?_ ?_ | refine CallG.mk rfl ?_ ?_) | (refine CallS.m ?_; (conv => whnf); refine CallM.mk rfl ?_ ?_) | (refine CallS.h ?_; (conv => whnf); refine CallM.mk rfl ?_ ?_) | (refine CallS.b ?_; (conv => whnf); refine CallM.mk rfl ?_ ?_) | (refine CallS.z ?_; (conv => whnf); refine CallM.mk rfl ?_ ?_))
  all_goals (try (conv => whnf))
  all_goals (try (exact Ob.mk (u8_bnd _)))
  all_goals (try (refine Ob.mk ?_; first | exact True.intro | assumption | omega | (try simp only [decide_eq_true_eq, decide_eq_false_iff_not, beq_iff_eq, beq_eq_false_iff_ne, bne_iff_ne, bne_eq_false_iff_eq, ne_eq, Bool.and_eq_true, Bool.or_eq_true, Bool.not_eq_true, Bool.not_eq_false, Bool.not_eq_true', Bool.not_eq_false', Int.toNat_natCast, Int.not_lt, Int.not_le, UInt8.ofNat_toNat, cast_eq] at *; omega)))
  all_goals (try ((show (_:Int) = _); omega))
  all_goals (try (show tupSV _ = _; with_unfolding_all rfl))
  all_goals (try ((show (_ : Nat) ≤ _); (simp <;> omega)))
  all_goals (try ((show (_ : Nat) ≤ _ ∧ (_ : Nat) ≤ _); (simp <;> omega)))
  all_goals (try ((show (_ : Int) ≤ _ ∧ (_ : Int) ≤ _ ∧ (_ : Int) ≤ _ ∧ (_ : Int) ≤ _); (simp <;> omega)))
  all_goals rfl
instance f27 (sp : Int) (nm : List UInt8) : Fn BB 147 [.int .i64 sp, .str nm] (nm.length ≤ 60) (.bool (kForeign sp nm)) := by
  refine Fn.intro (N := 19) [0, 1, 4] [] Try.call147 Try.func147 rfl rfl (by kernel_rfl) (fun hpre => ?_)
  repeat' ((conv => whnf); first | (with_reducible rfl) | exact True.intro | (with_reducible exact absTF) | (with_reducible exact absFT) | intro _ | refine And.intro ?_ ?_ | refine Fin.mk ?_ | refine CallG.plain rfl ?_ ?_ | refine CallG.mk rfl ?_ ?_ | refine CallG.nwl rfl ?_ ?_ | refine CallG.nw ?_ ?_ | refine CallF.nwl rfl ?_ ?_ | refine CallF.nw ?_ ?_ | (refine CallS.q ?_; (conv => whnf); first | refine CallG.plain rfl ?_ ?_ | refine CallG.mk rfl ?_ ?_) | (refine CallS.m ?_; (conv => whnf); refine CallM.mk rfl ?_ ?_) | (refine CallS.h ?_; (conv => whnf); refine CallM.mk rfl ?_ ?_) | (refine CallS.b ?_; (conv => whnf); refine CallM.mk rfl ?_ ?_) | (refine CallS.z ?_; (conv => whnf); refine CallM.mk rfl ?_ ?_))
  all_goals (try (conv => whnf))
  all_goals (try (exact Ob.mk (u8_bnd _)))
  all_goals (try (refine Ob.mk ?_; first | exact True.intro | assumption | omega | (try simp only [decide_eq_true_eq, decide_eq_false_iff_not, beq_iff_eq, beq_eq_false_iff_ne, bne_iff_ne, bne_eq_false_iff_eq, ne_eq, Bool.and_eq_true, Bool.or_eq_true, Bool.not_eq_true, Bool.not_eq_false, Bool.not_eq_true', Bool.not_eq_false', Int.toNat_natCast, Int.not_lt, Int.not_le, UInt8.ofNat_toNat, cast_eq] at *; omega)))
  all_goals (try ((show (_:Int) = _); omega))
  all_goals (try (show tupSV _ = _; with_unfolding_all rfl))
  all_goals (try ((show (_ : Nat) ≤ _); (simp <;> omega)))
  all_goals (try ((show (_ : Nat) ≤ _ ∧ (_ : Nat) ≤ _); (simp <;> omega)))
  all_goals (try ((show (_ : Int) ≤ _ ∧ (_ : Int) ≤ _ ∧ (_ : Int) ≤ _ ∧ (_ : Int) ≤ _); (simp <;> omega)))
  all_goals rfl
end Go.Vc.W

namespace Go.Vc.W
open Go.Proofs
set_option linter.unusedVariables false
set_option maxRecDepth 10000
set_option linter.unusedSimpArgs false
theorem k_svg (nm : List UInt8) : kSpecial 1 nm = has cForeign nm := by simp [kSpecial, kForeign, kHtml]
theorem has_math (nm : List UInt8) : has cMath nm = (nm == cAxml || has cPoints nm) := by
  unfold has; rw [spl_cMath]; simp only [List.contains_eq_any_beq, List.any_append, List.any_cons, List.any_nil, Bool.or_false]
theorem k_math (nm : List UInt8) : kSpecial 2 nm = (nm == cAxml || has cPoints nm) := by
  simp [kSpecial, kForeign, kHtml, has_math]
theorem k_else (sp : Int) (nm : List UInt8) (h1 : (sp == 1) = false) (h2 : (sp == 2) = false) : kSpecial sp nm = (sp == 0 && has cSpecial nm) := by
  simp [kSpecial, kForeign, kHtml, h1, h2]
theorem u8_eq (b : UInt8) (n : Nat) (h : n < 256) : (b = UInt8.ofNat n) = (b.toNat = n) := by
  rw [← UInt8.toNat_inj, UInt8.toNat_ofNat_of_lt' h]
theorem k_head (nm : List UInt8) : ((((nm.length : Int) == 2 && ((nm.getD 0 0).toNat : Int) == 104 && decide ((49 : Int) ≤ (nm.getD 1 0).toNat)) && decide (((nm.getD 1 0).toNat : Int) ≤ 54))) = has cHead nm := by
  unfold has
  rw [spl_cHead]
  match nm with
  | [] => rfl
  | [a] => simp [w_h1, w_h2, w_h3, w_h4, w_h5, w_h6]
  | [a, b] =>
    have e1 : (a = 104) = (a.toNat = 104) := u8_eq a 104 (by decide)
    have f1 : (b = 49) = (b.toNat = 49) := u8_eq b 49 (by decide)
    have f2 : (b = 50) = (b.toNat = 50) := u8_eq b 50 (by decide)
    have f3 : (b = 51) = (b.toNat = 51) := u8_eq b 51 (by decide)
    have f4 : (b = 52) = (b.toNat = 52) := u8_eq b 52 (by decide)
    have f5 : (b = 53) = (b.toNat = 53) := u8_eq b 53 (by decide)
    have f6 : (b = 54) = (b.toNat = 54) := u8_eq b 54 (by decide)
    rw [Bool.eq_iff_iff]
    simp [w_h1, w_h2, w_h3, w_h4, w_h5, w_h6, e1, f1, f2, f3, f4, f5, f6]
    omega
  | a :: b :: c :: r => simp [w_h1, w_h2, w_h3, w_h4, w_h5, w_h6]; omega
theorem lit_ends : spl [97, 112, 112, 108, 101, 116, 32, 99, 97, 112, 116, 105, 111, 110, 32, 104, 116, 109, 108, 32, 109, 97, 114, 113, 117, 101, 101, 32, 111, 98, 106, 101, 99, 116, 32, 116, 97, 98, 108, 101, 32, 116, 100, 32, 116, 101, 109, 112, 108, 97, 116, 101, 32, 116, 104] = [[97, 112, 112, 108, 101, 116], [99, 97, 112, 116, 105, 111, 110], [104, 116, 109, 108], [109, 97, 114, 113, 117, 101, 101], [111, 98, 106, 101, 99, 116], [116, 97, 98, 108, 101], [116, 100], [116, 101, 109, 112, 108, 97, 116, 101], [116, 104]] := by decide +kernel
theorem lit_olul : spl [111, 108, 32, 117, 108] = [[111, 108], [117, 108]] := by decide +kernel
theorem lit_button : spl [98, 117, 116, 116, 111, 110] = [[98, 117, 116, 116, 111, 110]] := by decide +kernel
theorem lit_opt : spl [111, 112, 116, 103, 114, 111, 117, 112, 32, 111, 112, 116, 105, 111, 110] = [[111, 112, 116, 103, 114, 111, 117, 112], [111, 112, 116, 105, 111, 110]] := by decide +kernel
instance f6 (sp : Int) (nm : List UInt8) : Fn BB 146 [.int .i64 sp, .str nm] (nm.length ≤ 60) (.bool (kSpecial sp nm)) := by
  refine Fn.intro (N := 24) [0, 1, 4, 5, 6, 10] [] Try.call146 Try.func146 rfl rfl (by kernel_rfl) (fun hpre => ?_)
  repeat' ((conv => whnf); first | (with_reducible rfl) | exact True.intro | (with_reducible exact absTF) | (with_reducible exact absFT) | intro _ | refine And.intro ?_ ?_ | refine Fin.mk ?_ | refine CallG.plain rfl ?_ ?_ | refine CallG.mk rfl ?_ ?_ | refine CallG.nwl rfl ?_ ?_ | refine CallG.nw ?_ ?_ | refine CallF.nwl rfl ?_ ?_ | refine CallF.nw ?_ ?_ | (refine CallS.q ?_; (conv => whnf); first | refine CallG.plain rfl ?_ ?_ | refine CallG.mk rfl ?_ ?_) | (refine CallS.m ?_; (conv => whnf); refine CallM.mk rfl ?_ ?_) | (refine CallS.h ?_; (conv => whnf); refine CallM.mk rfl ?_ ?_) | (refine CallS.b ?_; (conv => whnf); refine CallM.mk rfl ?_ ?_) | (refine CallS.z ?_; (conv => whnf); refine CallM.mk rfl ?_ ?_))
  all_goals (try (conv => whnf))
  all_goals (try (exact Ob.mk (u8_bnd _)))
  all_goals (try (refine Ob.mk ?_; first | exact True.intro | assumption | omega | (try simp only [decide_eq_true_eq, decide_eq_false_iff_not, beq_iff_eq, beq_eq_false_iff_ne, bne_iff_ne, bne_eq_false_iff_eq, ne_eq, Bool.and_eq_true, Bool.or_eq_true, Bool.not_eq_true, Bool.not_eq_false, Bool.not_eq_true', Bool.not_eq_false', Int.toNat_natCast, Int.not_lt, Int.not_le, UInt8.ofNat_toNat, cast_eq] at *; omega)))
  all_goals (try ((show (_:Int) = _); omega))
  all_goals (try (show tupSV _ = _; with_unfolding_all rfl))
  all_goals (try ((show (_ : Nat) ≤ _); (simp <;> omega)))
  all_goals (try ((show (_ : Nat) ≤ _ ∧ (_ : Nat) ≤ _); (simp <;> omega)))
  all_goals (try ((show (_ : Int) ≤ _ ∧ (_ : Int) ≤ _ ∧ (_ : Int) ≤ _ ∧ (_ : Int) ≤ _); (simp <;> omega)))
  · have : sp = 1 := by simpa using ‹(sp == 1) = true›
    subst this; rw [k_svg]; rfl
  · have : sp = 2 := by simpa using ‹(sp == 2) = true›
    subst this; rw [k_math]; rfl
  · rw [k_else sp nm ‹_› ‹_›]; rfl
instance f15 (sp : Int) (nm : List UInt8) : Fn BB 112 [.int .i64 sp, .str nm] (nm.length ≤ 60) (.bool (kHtml sp nm cImpl)) := by
  refine Fn.intro (N := 8) [0, 1, 4] [] Try.call112 Try.func112 rfl rfl (by kernel_rfl) (fun hpre => ?_)
  repeat' ((conv => whnf); first | (with_reducible rfl) | exact True.intro | (with_reducible exact absTF) | (with_reducible exact absFT) | intro _ | refine And.intro ?_ ?_ | refine Fin.mk ?_ | refine CallG.plain rfl ?_ ?_ | refine CallG.mk rfl ?_ ?_ | refine CallG.nwl rfl ?_ ?_ | refine CallG.nw ?_ ?_ | refine CallF.nwl rfl ?_ ?_ | refine CallF.nw ?_ ?_ | (refine CallS.q ?_; (conv => whnf); first | refine CallG.plain rfl ?_ ?_ | refine CallG.mk rfl ?_ ?_) | (refine CallS.m ?_; (conv => whnf); refine CallM.mk rfl ?_ ?_) | (refine CallS.h ?_; (conv => whnf); refine CallM.mk rfl ?_ ?_) | (refine CallS.b ?_; (conv => whnf); refine CallM.mk rfl ?_ ?_) | (refine CallS.z ?_; (conv => whnf); refine CallM.mk rfl ?_ ?_))
  all_goals (try (conv => whnf))
  all_goals (try (exact Ob.mk (u8_bnd _)))
  all_goals (try (refine Ob.mk ?_; first | exact True.intro | assumption | omega | (try simp only [decide_eq_true_eq, decide_eq_false_iff_not, beq_iff_eq, beq_eq_false_iff_ne, bne_iff_ne, bne_eq_false_iff_eq, ne_eq, Bool.and_eq_true, Bool.or_eq_true, Bool.not_eq_true, Bool.not_eq_false, Bool.not_eq_true', Bool.not_eq_false', Int.toNat_natCast, Int.not_lt, Int.not_le, UInt8.ofNat_toNat, cast_eq] at *; omega)))
  all_goals (try ((show (_:Int) = _); omega))
  all_goals (try (show tupSV _ = _; with_unfolding_all rfl))
  all_goals (try ((show (_ : Nat) ≤ _); (simp <;> omega)))
  all_goals (try ((show (_ : Nat) ≤ _ ∧ (_ : Nat) ≤ _); (simp <;> omega)))
  all_goals (try ((show (_ : Int) ≤ _ ∧ (_ : Int) ≤ _ ∧ (_ : Int) ≤ _ ∧ (_ : Int) ≤ _); (simp <;> omega)))
  all_goals rfl
instance f14 (sp : Int) (nm : List UInt8) : Fn BB 111 [.int .i64 sp, .str nm] (nm.length ≤ 60) (.bool (kHtml sp nm cImpl)) := by
  refine Fn.intro (N := 19) [0, 1, 4, 5, 6] [] Try.call111 Try.func111 rfl rfl (by kernel_rfl) (fun hpre => ?_)
  repeat' ((conv => whnf); first | (with_reducible rfl) | exact True.intro | (with_reducible exact absTF) | (with_reducible exact absFT) | intro _ | refine And.intro ?_ ?_ | refine Fin.mk ?_ | refine CallG.plain rfl ?_ ?_ | refine CallG.mk rfl ?_ ?_ | refine CallG.nwl rfl ?_ ?_ | refine CallG.nw ?_ ?_ | refine CallF.nwl rfl ?_ ?_ | refine CallF.nw ?_ ?_ | (refine CallS.q ?_; (conv => whnf); first | refine CallG.plain rfl ?_ ?_ | refine CallG.mk rfl ?_ ?_) | (refine CallS.m ?_; (conv => whnf); refine CallM.mk rfl ?_ ?_) | (refine CallS.h ?_; (conv => whnf); refine CallM.mk rfl ?_ ?_) | (refine CallS.b ?_; (conv => whnf); refine CallM.mk rfl ?_ ?_) | (refine CallS.z ?_; (conv => whnf); refine CallM.mk rfl ?_ ?_))
  all_goals (try (conv => whnf))
  all_goals (try (exact Ob.mk (u8_bnd _)))
  all_goals (try (refine Ob.mk ?_; first | exact True.intro | assumption | omega | (try simp only [decide_eq_true_eq, decide_eq_false_iff_not, beq_iff_eq, beq_eq_false_iff_ne, bne_iff_ne, bne_eq_false_iff_eq, ne_eq, Bool.and_eq_true, Bool.or_eq_true, Bool.not_eq_true, Bool.not_eq_false, Bool.not_eq_true', Bool.not_eq_false', Int.toNat_natCast, Int.not_lt, Int.not_le, UInt8.ofNat_toNat, cast_eq] at *; omega)))
  all_goals (try ((show (_:Int) = _); omega))
  all_goals (try (show tupSV _ = _; with_unfolding_all rfl))
  all_goals (try ((show (_ : Nat) ≤ _); (simp <;> omega)))
  all_goals (try ((show (_ : Nat) ≤ _ ∧ (_ : Nat) ≤ _); (simp <;> omega)))
  all_goals (try ((show (_ : Int) ≤ _ ∧ (_ : Int) ≤ _ ∧ (_ : Int) ≤ _ ∧ (_ : Int) ≤ _); (simp <;> omega)))
  all_goals (simp_all [kHtml, has, spl_cImpl, w_dd, w_dt, w_li, w_optgroup, w_option, w_p, w_rb, w_rp, w_rt, w_rtc]; done)
instance f25 (nm : List UInt8) : Fn BB 98 [.str nm] (nm.length ≤ 60) (.int .i64 (kLexed nm)) := by
  refine Fn.intro (N := 11) [0, 2, 4, 6, 8, 10] [] Try.call98 Try.func98 rfl rfl (by kernel_rfl) (fun hpre => ?_)
  repeat' ((conv => whnf); first | (with_reducible rfl) | exact True.intro | (with_reducible exact absTF) | (with_reducible exact absFT) | intro _ | refine And.intro ?_ ?_ | refine Fin.mk ?_ | refine CallG.plain rfl ?_ ?_ | refine CallG.mk rfl ?_ ?_ | refine CallG.nwl rfl ?_ ?_ | refine CallG.nw ?_ ?_ | refine CallF.nwl rfl ?_ ?_ | refine CallF.nw ?_ ?_ | (refine CallS.q ?_; (conv => whnf); first | refine CallG.plain rfl ?_ ?_ | refine CallG.mk rfl ?_ ?_) | (refine CallS.m ?_; (conv => whnf); refine CallM.mk rfl ?_ ?_) | (refine CallS.h ?_; (conv => whnf); refine CallM.mk rfl ?_ ?_) | (refine CallS.b ?_; (conv => whnf); refine CallM.mk rfl ?_ ?_) | (refine CallS.z ?_; (conv => whnf); refine CallM.mk rfl ?_ ?_))
  all_goals (try (conv => whnf))
  all_goals (try (exact Ob.mk (u8_bnd _)))
  all_goals (try (refine Ob.mk ?_; first | exact True.intro | assumption | omega | (try simp only [decide_eq_true_eq, decide_eq_false_iff_not, beq_iff_eq, beq_eq_false_iff_ne, bne_iff_ne, bne_eq_false_iff_eq, ne_eq, Bool.and_eq_true, Bool.or_eq_true, Bool.not_eq_true, Bool.not_eq_false, Bool.not_eq_true', Bool.not_eq_false', Int.toNat_natCast, Int.not_lt, Int.not_le, UInt8.ofNat_toNat, cast_eq] at *; omega)))
  all_goals (try ((show (_:Int) = _); omega))
  all_goals (try (show tupSV _ = _; with_unfolding_all rfl))
  all_goals (try ((show (_ : Nat) ≤ _); (simp <;> omega)))
  all_goals (try ((show (_ : Nat) ≤ _ ∧ (_ : Nat) ≤ _); (simp <;> omega)))
  all_goals (try ((show (_ : Int) ≤ _ ∧ (_ : Int) ≤ _ ∧ (_ : Int) ≤ _ ∧ (_ : Int) ≤ _); (simp <;> omega)))
  all_goals (unfold kLexed has cRc cRaw; simp_all [cScript, cPlain]; done)
instance f24 (nm : List UInt8) : Fn BB 96 [.str nm] (nm.length ≤ 60) (.int .i64 (kLexed nm)) := by
  refine Fn.intro (N := 17) [0, 2, 3, 4, 7, 13, 15] [] Try.call96 Try.func96 rfl rfl (by kernel_rfl) (fun hpre => ?_)
  repeat' ((conv => whnf); first | (with_reducible rfl) | exact True.intro | (with_reducible exact absTF) | (with_reducible exact absFT) | intro _ | refine And.intro ?_ ?_ | refine Fin.mk ?_ | refine CallG.plain rfl ?_ ?_ | refine CallG.mk rfl ?_ ?_ | refine CallG.nwl rfl ?_ ?_ | refine CallG.nw ?_ ?_ | refine CallF.nwl rfl ?_ ?_ | refine CallF.nw ?_ ?_ | (refine CallS.q ?_; (conv => whnf); first | refine CallG.plain rfl ?_ ?_ | refine CallG.mk rfl ?_ ?_) | (refine CallS.m ?_; (conv => whnf); refine CallM.mk rfl ?_ ?_) | (refine CallS.h ?_; (conv => whnf); refine CallM.mk rfl ?_ ?_) | (refine CallS.b ?_; (conv => whnf); refine CallM.mk rfl ?_ ?_) | (refine CallS.z ?_; (conv => whnf); refine CallM.mk rfl ?_ ?_))
  all_goals (try (conv => whnf))
  all_goals (try (exact Ob.mk (u8_bnd _)))
  all_goals (try (refine Ob.mk ?_; first | exact True.intro | assumption | omega | (try simp only [decide_eq_true_eq, decide_eq_false_iff_not, beq_iff_eq, beq_eq_false_iff_ne, bne_iff_ne, bne_eq_false_iff_eq, ne_eq, Bool.and_eq_true, Bool.or_eq_true, Bool.not_eq_true, Bool.not_eq_false, Bool.not_eq_true', Bool.not_eq_false', Int.toNat_natCast, Int.not_lt, Int.not_le, UInt8.ofNat_toNat, cast_eq] at *; omega)))
  all_goals (try ((show (_:Int) = _); omega))
  all_goals (try (show tupSV _ = _; with_unfolding_all rfl))
  all_goals (try ((show (_ : Nat) ≤ _); (simp <;> omega)))
  all_goals (try ((show (_ : Nat) ≤ _ ∧ (_ : Nat) ≤ _); (simp <;> omega)))
  all_goals (try ((show (_ : Int) ≤ _ ∧ (_ : Int) ≤ _ ∧ (_ : Int) ≤ _ ∧ (_ : Int) ≤ _); (simp <;> omega)))
  all_goals (unfold kLexed has; rw [spl_cRc, spl_cRaw]; simp_all [cScript, cPlain, w_textarea, w_title, w_iframe, w_noembed, w_noframes, w_style, w_xmp]; done)
instance f21 (sc : Int) (sp : Int) (nm : List UInt8) : Fn BB 107 [.int .i64 sc, .int .i64 sp, .str nm] (nm.length ≤ 60) (.bool (kStops sc sp nm)) := by
  refine Fn.intro (N := 48) [0, 1, 2, 6, 7, 17, 20, 28, 36] [] Try.call107 Try.func107 rfl rfl (by kernel_rfl) (fun hpre => ?_)
  repeat' ((conv => whnf); first | (with_reducible rfl) | exact True.intro | (with_reducible exact absTF) | (with_reducible exact absFT) | intro _ | refine And.intro ?_ ?_ | refine Fin.mk ?_ | refine CallG.plain rfl ?_ ?_ | refine CallG.mk rfl ?_ ?_ | refine CallG.nwl rfl ?_ ?_ | refine CallG.nw ?_ ?_ | refine CallF.nwl rfl ?_ ?_ | refine CallF.nw ?_ ?_ | (refine CallS.q ?_; (conv => whnf); first | refine CallG.plain rfl ?_ ?_ | refine CallG.mk rfl ?_ ?_) | (refine CallS.m ?_; (conv => whnf); refine CallM.mk rfl ?_ ?_) | (refine CallS.h ?_; (conv => whnf); refine CallM.mk rfl ?_ ?_) | (refine CallS.b ?_; (conv => whnf); refine CallM.mk rfl ?_ ?_) | (refine CallS.z ?_; (conv => whnf); refine CallM.mk rfl ?_ ?_))
  all_goals (try (conv => whnf))
  all_goals (try (exact Ob.mk (u8_bnd _)))
  all_goals (try (refine Ob.mk ?_; first | exact True.intro | assumption | omega | (try simp only [decide_eq_true_eq, decide_eq_false_iff_not, beq_iff_eq, beq_eq_false_iff_ne, bne_iff_ne, bne_eq_false_iff_eq, ne_eq, Bool.and_eq_true, Bool.or_eq_true, Bool.not_eq_true, Bool.not_eq_false, Bool.not_eq_true', Bool.not_eq_false', Int.toNat_natCast, Int.not_lt, Int.not_le, UInt8.ofNat_toNat, cast_eq] at *; omega)))
  all_goals (try ((show (_:Int) = _); omega))
  all_goals (try (show tupSV _ = _; with_unfolding_all rfl))
  all_goals (try ((show (_ : Nat) ≤ _); (simp <;> omega)))
  all_goals (try ((show (_ : Nat) ≤ _ ∧ (_ : Nat) ≤ _); (simp <;> omega)))
  all_goals (try ((show (_ : Int) ≤ _ ∧ (_ : Int) ≤ _ ∧ (_ : Int) ≤ _ ∧ (_ : Int) ≤ _); (simp <;> omega)))
  all_goals (unfold kStops cEnds cOlUl cButton cTable cOpt; simp_all [bne, Bool.beq_eq_decide_eq]; done)
instance f20 (sc : Int) (sp : Int) (nm : List UInt8) : Fn BB 106 [.int .i64 sc, .int .i64 sp, .str nm] (nm.length ≤ 60) (.bool (kStops sc sp nm)) := by
  refine Fn.intro (N := 53) [0, 1, 2, 6, 7, 10, 25, 32, 37, 41, 42, 47] [] Try.call106 Try.func106 rfl rfl (by kernel_rfl) (fun hpre => ?_)
  repeat' ((conv => whnf); first | (with_reducible rfl) | exact True.intro | (with_reducible exact absTF) | (with_reducible exact absFT) | intro _ | refine And.intro ?_ ?_ | refine Fin.mk ?_ | refine CallG.plain rfl ?_ ?_ | refine CallG.mk rfl ?_ ?_ | refine CallG.nwl rfl ?_ ?_ | refine CallG.nw ?_ ?_ | refine CallF.nwl rfl ?_ ?_ | refine CallF.nw ?_ ?_ | (refine CallS.q ?_; (conv => whnf); first | refine CallG.plain rfl ?_ ?_ | refine CallG.mk rfl ?_ ?_) | (refine CallS.m ?_; (conv => whnf); refine CallM.mk rfl ?_ ?_) | (refine CallS.h ?_; (conv => whnf); refine CallM.mk rfl ?_ ?_) | (refine CallS.b ?_; (conv => whnf); refine CallM.mk rfl ?_ ?_) | (refine CallS.z ?_; (conv => whnf); refine CallM.mk rfl ?_ ?_))
  all_goals (try (conv => whnf))
  all_goals (try (exact Ob.mk (u8_bnd _)))
  all_goals (try (refine Ob.mk ?_; first | exact True.intro | assumption | omega | (try simp only [decide_eq_true_eq, decide_eq_false_iff_not, beq_iff_eq, beq_eq_false_iff_ne, bne_iff_ne, bne_eq_false_iff_eq, ne_eq, Bool.and_eq_true, Bool.or_eq_true, Bool.not_eq_true, Bool.not_eq_false, Bool.not_eq_true', Bool.not_eq_false', Int.toNat_natCast, Int.not_lt, Int.not_le, UInt8.ofNat_toNat, cast_eq] at *; omega)))
  all_goals (try ((show (_:Int) = _); omega))
  all_goals (try (show tupSV _ = _; with_unfolding_all rfl))
  all_goals (try ((show (_ : Nat) ≤ _); (simp <;> omega)))
  all_goals (try ((show (_ : Nat) ≤ _ ∧ (_ : Nat) ≤ _); (simp <;> omega)))
  all_goals (try ((show (_ : Int) ≤ _ ∧ (_ : Int) ≤ _ ∧ (_ : Int) ≤ _ ∧ (_ : Int) ≤ _); (simp <;> omega)))
  all_goals (simp_all [kStops, kHtml, kForeign, kSpecial, has, cEnds, cOlUl, cButton, cTable, cOpt, lit_ends, lit_olul, lit_button, lit_opt, bne, Bool.beq_eq_decide_eq, Bool.or_assoc]; done)
end Go.Vc.W

namespace Go.Vc
open Go.Proofs
set_option linter.unusedVariables false
set_option maxRecDepth 10000
set_option linter.unusedSimpArgs false
/-- a node; an element of no name, where there is none -/
def noneE : NodeD := ((1 : Int), (0 : Int), ([] : List UInt8), ([] : List AttrD), ([] : List UInt8), (0 : Int), ([] : List Int))
def nodeE (l : List NodeD) (i : Int) : NodeD := bif isT l i then l.getD i.toNat nodeTy.dflt else noneE
theorem nodeE_in {l : List NodeD} {i : Int} (h : isT l i = true) : nodeE l i = l.getD i.toNat nodeTy.dflt := by rw [nodeE, h]; rfl
theorem nodeE_out {l : List NodeD} {i : Int} (h : isT l i = false) : nodeE l i = noneE := by rw [nodeE, h]; rfl
instance s101 (l : List NodeD) (i : Int) : Fn BB 101 [.agg [.rd nodeTy l], .int .i64 i] True (.agg (nodeTy.enc (nodeE l i))) := by
  cases h : isT l i with
  | true =>
    rw [nodeE_in h]
    refine Fn.intro (N := 20) [0, 1, 2, 4, 13] [] Try.call101 Try.func101 rfl rfl (by kernel_rfl) (fun hpre => ?_)
    repeat' ((conv => whnf); first | (with_reducible rfl) | exact True.intro | (with_reducible exact absTF) | (with_reducible exact absFT) | intro _ | refine And.intro ?_ ?_ | refine Fin.mk ?_ | refine CallG.plain rfl ?_ ?_ | refine CallG.mk rfl ?_ ?_ | refine CallG.nwl rfl ?_ ?_ | refine CallG.nw ?_ ?_ | refine CallF.nwl rfl ?_ ?_ | refine CallF.nw ?_ ?_ | (refine CallS.q ?_; (conv => whnf); first | refine CallG.plain rfl ?_ ?_ | refine CallG.mk rfl ?_ ?_) | (refine CallS.m ?_; (conv => whnf); refine CallM.mk rfl ?_ ?_) | (refine CallS.h ?_; (conv => whnf); refine CallM.mk rfl ?_ ?_) | (refine CallS.b ?_; (conv => whnf); refine CallM.mk rfl ?_ ?_) | (refine CallS.z ?_; (conv => whnf); refine CallM.mk rfl ?_ ?_))
    all_goals (try (conv => whnf))
    all_goals (try (exact Ob.mk (u8_bnd _)))
    all_goals (try (refine Ob.mk ?_; first | exact True.intro | assumption | omega | (try simp only [decide_eq_true_eq, decide_eq_false_iff_not, beq_iff_eq, beq_eq_false_iff_ne, bne_iff_ne, bne_eq_false_iff_eq, ne_eq, Bool.and_eq_true, Bool.or_eq_true, Bool.not_eq_true, Bool.not_eq_false, Bool.not_eq_true', Bool.not_eq_false', Int.toNat_natCast, Int.not_lt, Int.not_le, UInt8.ofNat_toNat, cast_eq] at *; omega)))
    all_goals (try ((show (_:Int) = _); omega))
    all_goals (try (show tupSV _ = _; with_unfolding_all rfl))
    all_goals (try ((show (_ : Nat) ≤ _); (simp <;> omega)))
    all_goals (try ((show (_ : Nat) ≤ _ ∧ (_ : Nat) ≤ _); (simp <;> omega)))
    all_goals (try ((show (_ : Int) ≤ _ ∧ (_ : Int) ≤ _ ∧ (_ : Int) ≤ _ ∧ (_ : Int) ≤ _); (simp <;> omega)))
    all_goals (try (first | (exact rfl) | (rename_i hx; exact absFT hx) | (rename_i hx; exact absTF hx)))
    all_goals (first | (simp_all [isT]; done) | (exfalso; simp_all [isT]; omega))
  | false =>
    rw [nodeE_out h]
    refine Fn.intro (N := 20) [0, 1, 2, 4, 13] [] Try.call101 Try.func101 rfl rfl (by kernel_rfl) (fun hpre => ?_)
    repeat' ((conv => whnf); first | (with_reducible rfl) | exact True.intro | (with_reducible exact absTF) | (with_reducible exact absFT) | intro _ | refine And.intro ?_ ?_ | refine Fin.mk ?_ | refine CallG.plain rfl ?_ ?_ | refine CallG.mk rfl ?_ ?_ | refine CallG.nwl rfl ?_ ?_ | refine CallG.nw ?_ ?_ | refine CallF.nwl rfl ?_ ?_ | refine CallF.nw ?_ ?_ | (refine CallS.q ?_; (conv => whnf); first | refine CallG.plain rfl ?_ ?_ | refine CallG.mk rfl ?_ ?_) | (refine CallS.m ?_; (conv => whnf); refine CallM.mk rfl ?_ ?_) | (refine CallS.h ?_; (conv => whnf); refine CallM.mk rfl ?_ ?_) | (refine CallS.b ?_; (conv => whnf); refine CallM.mk rfl ?_ ?_) | (refine CallS.z ?_; (conv => whnf); refine CallM.mk rfl ?_ ?_))
    all_goals (try (conv => whnf))
    all_goals (try (exact Ob.mk (u8_bnd _)))
    all_goals (try (refine Ob.mk ?_; first | exact True.intro | assumption | omega | (try simp only [decide_eq_true_eq, decide_eq_false_iff_not, beq_iff_eq, beq_eq_false_iff_ne, bne_iff_ne, bne_eq_false_iff_eq, ne_eq, Bool.and_eq_true, Bool.or_eq_true, Bool.not_eq_true, Bool.not_eq_false, Bool.not_eq_true', Bool.not_eq_false', Int.toNat_natCast, Int.not_lt, Int.not_le, UInt8.ofNat_toNat, cast_eq] at *; omega)))
    all_goals (try ((show (_:Int) = _); omega))
    all_goals (try (show tupSV _ = _; with_unfolding_all rfl))
    all_goals (try ((show (_ : Nat) ≤ _); (simp <;> omega)))
    all_goals (try ((show (_ : Nat) ≤ _ ∧ (_ : Nat) ≤ _); (simp <;> omega)))
    all_goals (try ((show (_ : Int) ≤ _ ∧ (_ : Int) ≤ _ ∧ (_ : Int) ≤ _ ∧ (_ : Int) ≤ _); (simp <;> omega)))
    all_goals (try (first | (exact rfl) | (rename_i hx; exact absFT hx) | (rename_i hx; exact absTF hx)))
    all_goals (exfalso; rename_i hx; simp only [isT] at h; (try simp only [decide_eq_true_eq, decide_eq_false_iff_not, beq_iff_eq, beq_eq_false_iff_ne, bne_iff_ne, bne_eq_false_iff_eq, ne_eq, Bool.and_eq_true, Bool.or_eq_true, Bool.and_eq_false_iff, Bool.or_eq_false_iff, Bool.not_eq_true, Bool.not_eq_false, Bool.not_eq_true', Bool.not_eq_false', Int.toNat_natCast, Int.not_lt, Int.not_le, ge_iff_le, gt_iff_lt, UInt8.ofNat_toNat, cast_eq] at *); omega)
instance s103 (l : List NodeD) (i : Int) : Fn BB 103 [.agg [.rd nodeTy l], .int .i64 i] True (.agg (nodeTy.enc (nodeE l i))) := by
  cases h : isT l i with
  | true =>
    rw [nodeE_in h]
    refine Fn.intro (N := 20) [0, 1, 2, 4, 13] [] Try.call103 Try.func103 rfl rfl (by kernel_rfl) (fun hpre => ?_)
    repeat' ((conv => whnf); first | (with_reducible rfl) | exact True.intro | (with_reducible exact absTF) | (with_reducible exact absFT) | intro _ | refine And.intro ?_ ?_ | refine Fin.mk ?_ | refine CallG.plain rfl ?_ ?_ | refine CallG.mk rfl ?_ ?_ | refine CallG.nwl rfl ?_ ?_ | refine CallG.nw ?_ ?_ | refine CallF.nwl rfl ?_ ?_ | refine CallF.nw ?_ ?_ | (refine CallS.q ?_; (conv => whnf); first | refine CallG.plain rfl ?_ ?_ | refine CallG.mk rfl ?_ ?_) | (refine CallS.m ?_; (conv => whnf); refine CallM.mk rfl ?_ ?_) | (refine CallS.h ?_; (conv => whnf); refine CallM.mk rfl ?_ ?_) | (refine CallS.b ?_; (conv => whnf); refine CallM.mk rfl ?_ ?_) | (refine CallS.z ?_; (conv => whnf); refine CallM.mk rfl ?_ ?_))
    all_goals (try (conv => whnf))
    all_goals (try (exact Ob.mk (u8_bnd _)))
    all_goals (try (refine Ob.mk ?_; first | exact True.intro | assumption | omega | (try simp only [decide_eq_true_eq, decide_eq_false_iff_not, beq_iff_eq, beq_eq_false_iff_ne, bne_iff_ne, bne_eq_false_iff_eq, ne_eq, Bool.and_eq_true, Bool.or_eq_true, Bool.not_eq_true, Bool.not_eq_false, Bool.not_eq_true', Bool.not_eq_false', Int.toNat_natCast, Int.not_lt, Int.not_le, UInt8.ofNat_toNat, cast_eq] at *; omega)))
    all_goals (try ((show (_:Int) = _); omega))
    all_goals (try (show tupSV _ = _; with_unfolding_all rfl))
    all_goals (try ((show (_ : Nat) ≤ _); (simp <;> omega)))
    all_goals (try ((show (_ : Nat) ≤ _ ∧ (_ : Nat) ≤ _); (simp <;> omega)))
    all_goals (try ((show (_ : Int) ≤ _ ∧ (_ : Int) ≤ _ ∧ (_ : Int) ≤ _ ∧ (_ : Int) ≤ _); (simp <;> omega)))
    all_goals (try (first | (exact rfl) | (rename_i hx; exact absFT hx) | (rename_i hx; exact absTF hx)))
    all_goals (first | (simp_all [isT]; done) | (exfalso; simp_all [isT]; omega))
  | false =>
    rw [nodeE_out h]
    refine Fn.intro (N := 20) [0, 1, 2, 4, 13] [] Try.call103 Try.func103 rfl rfl (by kernel_rfl) (fun hpre => ?_)
    repeat' ((conv => whnf); first | (with_reducible rfl) | exact True.intro | (with_reducible exact absTF) | (with_reducible exact absFT) | intro _ | refine And.intro ?_ ?_ | refine Fin.mk ?_ | refine CallG.plain rfl ?_ ?_ | refine CallG.mk rfl ?_ ?_ | refine CallG.nwl rfl ?_ ?_ | refine CallG.nw ?_ ?_ | refine CallF.nwl rfl ?_ ?_ | refine CallF.nw ?_ ?_ | (refine CallS.q ?_; (conv => whnf); first | refine CallG.plain rfl ?_ ?_ | refine CallG.mk rfl ?_ ?_) | (refine CallS.m ?_; (conv => whnf); refine CallM.mk rfl ?_ ?_) | (refine CallS.h ?_; (conv => whnf); refine CallM.mk rfl ?_ ?_) | (refine CallS.b ?_; (conv => whnf); refine CallM.mk rfl ?_ ?_) | (refine CallS.z ?_; (conv => whnf); refine CallM.mk rfl ?_ ?_))
    all_goals (try (conv => whnf))
    all_goals (try (exact Ob.mk (u8_bnd _)))
    all_goals (try (refine Ob.mk ?_; first | exact True.intro | assumption | omega | (try simp only [decide_eq_true_eq, decide_eq_false_iff_not, beq_iff_eq, beq_eq_false_iff_ne, bne_iff_ne, bne_eq_false_iff_eq, ne_eq, Bool.and_eq_true, Bool.or_eq_true, Bool.not_eq_true, Bool.not_eq_false, Bool.not_eq_true', Bool.not_eq_false', Int.toNat_natCast, Int.not_lt, Int.not_le, UInt8.ofNat_toNat, cast_eq] at *; omega)))
    all_goals (try ((show (_:Int) = _); omega))
    all_goals (try (show tupSV _ = _; with_unfolding_all rfl))
    all_goals (try ((show (_ : Nat) ≤ _); (simp <;> omega)))
    all_goals (try ((show (_ : Nat) ≤ _ ∧ (_ : Nat) ≤ _); (simp <;> omega)))
    all_goals (try ((show (_ : Int) ≤ _ ∧ (_ : Int) ≤ _ ∧ (_ : Int) ≤ _ ∧ (_ : Int) ≤ _); (simp <;> omega)))
    all_goals (try (first | (exact rfl) | (rename_i hx; exact absFT hx) | (rename_i hx; exact absTF hx)))
    all_goals (exfalso; rename_i hx; simp only [isT] at h; (try simp only [decide_eq_true_eq, decide_eq_false_iff_not, beq_iff_eq, beq_eq_false_iff_ne, bne_iff_ne, bne_eq_false_iff_eq, ne_eq, Bool.and_eq_true, Bool.or_eq_true, Bool.and_eq_false_iff, Bool.or_eq_false_iff, Bool.not_eq_true, Bool.not_eq_false, Bool.not_eq_true', Bool.not_eq_false', Int.toNat_natCast, Int.not_lt, Int.not_le, ge_iff_le, gt_iff_lt, UInt8.ofNat_toNat, cast_eq] at *); omega)
/-- all names are short -/
def shortN (l : List NodeD) : Prop := ∀ i : Int, (nodeE l i).2.2.1.length ≤ 60
def isE (l : List NodeD) (i : Int) (nm : List UInt8) : Bool := isT l i && ((nodeE l i).1 == 1 && ((nodeE l i).2.1 == 0 && (W.spl nm).contains (nodeE l i).2.2.1))
theorem spl_nil (s : List UInt8) : (W.spl s).contains [] = false := W.spl_empty s [] rfl
theorem isE_eq (l : List NodeD) (i : Int) (nm : List UInt8) : (!(nodeE l i).2.2.1 == [] && (nodeE l i).1 == 1 && (nodeE l i).2.1 == 0 && (W.spl nm).contains (nodeE l i).2.2.1) = isE l i nm := by
  unfold isE
  cases h : isT l i with
  | false => rw [nodeE_out h]; rfl
  | true =>
    cases hn : (nodeE l i).2.2.1 == [] with
    | true =>
      have hn : (nodeE l i).2.2.1 = [] := by simpa using hn
      rw [hn, spl_nil]; simp
    | false => simp only [Bool.not_false, Bool.true_and, Bool.and_assoc]
instance s48 (l : List NodeD) (i : Int) (nm : List UInt8) : Fn BB 48 [.agg [.rd nodeTy l], .int .i64 i, .str nm] (shortN l ∧ nm.length ≤ 100000) (.bool (isE l i nm)) := by
  refine Fn.intro (N := 30) [0, 1, 2, 3, 6, 7] [] Try.call48 Try.func48 rfl rfl (by kernel_rfl) (fun hpre => ?_)
  obtain ⟨h1, h2⟩ := hpre
  have h3 := h1 i
  repeat' ((conv => whnf); first | (with_reducible rfl) | exact True.intro | (with_reducible exact absTF) | (with_reducible exact absFT) | intro _ | refine And.intro ?_ ?_ | refine Fin.mk ?_ | refine CallG.plain rfl ?_ ?_ | refine CallG.mk rfl ?_ ?_ | refine CallG.nwl rfl ?_ ?_ | refine CallG.nw ?_ ?_ | refine CallF.nwl rfl ?_ ?_ | refine CallF.nw ?_ ?_ | (refine CallS.q ?_; (conv => whnf); first | refine CallG.plain rfl ?_ ?_ | refine CallG.mk rfl ?_ ?_) | (refine CallS.m ?_; (conv => whnf); refine CallM.mk rfl ?_ ?_) | (refine CallS.h ?_; (conv => whnf); refine CallM.mk rfl ?_ ?_) | (refine CallS.b ?_; (conv => whnf); refine CallM.mk rfl ?_ ?_) | (refine CallS.z ?_; (conv => whnf); refine CallM.mk rfl ?_ ?_))
  all_goals (try (conv => whnf))
  all_goals (try (exact Ob.mk (u8_bnd _)))
  all_goals (try (refine Ob.mk ?_; first | exact True.intro | assumption | omega | (try simp only [decide_eq_true_eq, decide_eq_false_iff_not, beq_iff_eq, beq_eq_false_iff_ne, bne_iff_ne, bne_eq_false_iff_eq, ne_eq, Bool.and_eq_true, Bool.or_eq_true, Bool.not_eq_true, Bool.not_eq_false, Bool.not_eq_true', Bool.not_eq_false', Int.toNat_natCast, Int.not_lt, Int.not_le, UInt8.ofNat_toNat, cast_eq] at *; omega)))
  all_goals (try ((show (_:Int) = _); omega))
  all_goals (try (show tupSV _ = _; with_unfolding_all rfl))
  all_goals (try ((show (_ : Nat) ≤ _); (simp <;> omega)))
  all_goals (try ((show (_ : Nat) ≤ _ ∧ (_ : Nat) ≤ _); (simp <;> omega)))
  all_goals (try ((show (_ : Int) ≤ _ ∧ (_ : Int) ≤ _ ∧ (_ : Int) ≤ _ ∧ (_ : Int) ≤ _); (simp <;> omega)))
  all_goals (exact isE_eq l i nm)
instance s49 (l : List NodeD) (i : Int) (nm : List UInt8) : Fn BB 49 [.agg [.rd nodeTy l], .int .i64 i, .str nm] (nm.length ≤ 100000) (.bool (isE l i nm)) := by
  refine Fn.intro (N := 36) [0, 1, 2, 3, 6, 7] [] Try.call49 Try.func49 rfl rfl (by kernel_rfl) (fun hpre => ?_)
  repeat' ((conv => whnf); first | (with_reducible rfl) | exact True.intro | (with_reducible exact absTF) | (with_reducible exact absFT) | intro _ | refine And.intro ?_ ?_ | refine Fin.mk ?_ | refine CallG.plain rfl ?_ ?_ | refine CallG.mk rfl ?_ ?_ | refine CallG.nwl rfl ?_ ?_ | refine CallG.nw ?_ ?_ | refine CallF.nwl rfl ?_ ?_ | refine CallF.nw ?_ ?_ | (refine CallS.q ?_; (conv => whnf); first | refine CallG.plain rfl ?_ ?_ | refine CallG.mk rfl ?_ ?_) | (refine CallS.m ?_; (conv => whnf); refine CallM.mk rfl ?_ ?_) | (refine CallS.h ?_; (conv => whnf); refine CallM.mk rfl ?_ ?_) | (refine CallS.b ?_; (conv => whnf); refine CallM.mk rfl ?_ ?_) | (refine CallS.z ?_; (conv => whnf); refine CallM.mk rfl ?_ ?_))
  all_goals (try (conv => whnf))
  all_goals (try (exact Ob.mk (u8_bnd _)))
  all_goals (try (refine Ob.mk ?_; first | exact True.intro | assumption | omega | (try simp only [decide_eq_true_eq, decide_eq_false_iff_not, beq_iff_eq, beq_eq_false_iff_ne, bne_iff_ne, bne_eq_false_iff_eq, ne_eq, Bool.and_eq_true, Bool.or_eq_true, Bool.not_eq_true, Bool.not_eq_false, Bool.not_eq_true', Bool.not_eq_false', Int.toNat_natCast, Int.not_lt, Int.not_le, UInt8.ofNat_toNat, cast_eq] at *; omega)))
  all_goals (try ((show (_:Int) = _); omega))
  all_goals (try (show tupSV _ = _; with_unfolding_all rfl))
  all_goals (try ((show (_ : Nat) ≤ _); (simp <;> omega)))
  all_goals (try ((show (_ : Nat) ≤ _ ∧ (_ : Nat) ≤ _); (simp <;> omega)))
  all_goals (try ((show (_ : Int) ≤ _ ∧ (_ : Int) ≤ _ ∧ (_ : Int) ≤ _ ∧ (_ : Int) ≤ _); (simp <;> omega)))
  all_goals (simp only [isE, isT, ge_iff_le, Bool.and_assoc])
end Go.Vc
