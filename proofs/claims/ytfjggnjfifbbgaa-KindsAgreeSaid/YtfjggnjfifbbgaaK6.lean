/- A part of the proof: lemmas and walks that the last text of the claim joins; no condition. -/
import Derived.Test.YtfjggnjfifbbgaaK5
namespace Go.Vc
open Go.Proofs
set_option linter.unusedVariables false
set_option maxRecDepth 10000
set_option linter.unusedSimpArgs false
theorem bits_not (x : Int) (h : -100001 ≤ x ∧ x ≤ 100000) : bitsI BinOp.xor IntKind.i64 (if IntKind.i64.signed = true then -1 else IntKind.i64.max) x = -x - 1 := by
  have e : (if IntKind.i64.signed = true then (-1:Int) else IntKind.i64.max) = -1 := rfl
  rw [e]
  show IntKind.wrap .i64 ((BitVec.ofInt 64 (-1) ^^^ BitVec.ofInt 64 x).toNat : Int) = _
  have e2 : BitVec.ofInt 64 (-1) = BitVec.allOnes 64 := by decide
  rw [e2, BitVec.allOnes_xor, BitVec.toNat_not, BitVec.toNat_ofInt]
  simp [IntKind.wrap, IntKind.signed, IntKind.bits]
  omega
def fin2 (s : List UInt8) (sp : List (Int × Int)) (i : Nat) : List (List UInt8) := (sp.take i).map (cut s) ++ List.replicate (sp.length - i) []
theorem fin2_len (s : List UInt8) (sp : List (Int × Int)) (i : Nat) (h : i ≤ sp.length) : (fin2 s sp i).length = sp.length := by
  simp [fin2]; omega
theorem fin2_set (s : List UInt8) (sp : List (Int × Int)) (i : Nat) (h : i < sp.length) : (fin2 s sp i).set i (cut s (sp.getD i (0,0))) = fin2 s sp (i+1) := by
  unfold fin2
  rw [take_snoc sp i (0,0) h]
  have e : sp.length - i = (sp.length - (i+1)) + 1 := by omega
  rw [e, List.replicate_succ, List.set_append_right _ _ (by simp; omega)]
  simp
  have : i - min i sp.length = 0 := by omega
  rw [this]; simp
theorem fin2_end (s : List UInt8) (sp : List (Int × Int)) (i : Nat) (h : sp.length ≤ i) : fin2 s sp i = sp.map (cut s) := by
  unfold fin2; rw [List.take_of_length_le h]; simp; omega
theorem getD_mem' {α : Type} {l : List α} {i : Nat} {d : α} (h : i < l.length) : l.getD i d ∈ l := by
  simp [List.getD, List.getElem?_eq_getElem h]
instance f38 (s : List UInt8) : Fn BB 38 [.str s, .fn 39 []] (s.length ≤ 100000) (.rd 1 [] encS (spl s)) := by
  refine Fn.intro (N := 65) [0,1,4,5,6,7,8,9,10,11,14,15,16,21,23,33,36,47,48,49,50] Try.call38 Try.func38 rfl rfl (by kernel_rfl) (fun hpre => ?_)
  repeat' ((conv => whnf); first | (with_reducible rfl) | exact True.intro | (with_reducible exact absTF) | (with_reducible exact absFT) | intro _ | refine And.intro ?_ ?_ | refine Fin.mk ?_ | refine CallQ.mk rfl ?_ ?_ | refine CallG.plain rfl ?_ ?_ | refine CallG.mk rfl ?_ ?_)
  all_goals (try (conv => whnf))
  all_goals (try (refine Ob.mk ?_; first | exact True.intro | assumption | omega | (try simp only [decide_eq_true_eq, decide_eq_false_iff_not, beq_iff_eq, beq_eq_false_iff_ne, bne_iff_ne, ne_eq, Bool.and_eq_true, Bool.or_eq_true, Bool.not_eq_true, Bool.not_eq_false, Bool.not_eq_true', Bool.not_eq_false', Int.toNat_natCast, Int.not_lt, Int.not_le] at *; omega)))
  all_goals (try ((show (_:Int) = _); omega))
  all_goals (try ((show (_ : Nat) ≤ _); (simp <;> omega)))
  all_goals (try ((show (_ : Nat) ≤ _ ∧ (_ : Nat) ≤ _); (simp <;> omega)))
  all_goals (try ((show (_ : Int) ≤ _ ∧ (_ : Int) ≤ _ ∧ (_ : Int) ≤ _ ∧ (_ : Int) ≤ _); (simp <;> omega)))
  refine ⟨Int × Int, (0,0), encP, rfl, ?_⟩
  repeat' ((conv => whnf); first | (with_reducible rfl) | exact True.intro | (with_reducible exact absTF) | (with_reducible exact absFT) | intro _ | refine And.intro ?_ ?_ | refine Fin.mk ?_ | refine CallQ.mk rfl ?_ ?_ | refine CallG.plain rfl ?_ ?_ | refine CallG.mk rfl ?_ ?_)
  all_goals (try (conv => whnf))
  refine LoopStop.mk (α := FS) (fun a => [(5, .own 0), (6, .int .i64 a.start)]) (fun a => [(0, .own 2 (0,0) encP a.spans), (1, .iter s a.pos)]) 2 (FSok s) (fun a => s.length - a.pos) ⟨0, [], -1⟩ ⟨by simp, by simp [spAt], by simp, by simp; omega, by simp [spAt]⟩ ?_ (fun a ha => ?_)
  · repeat' ((conv => whnf); first | (with_reducible rfl) | exact True.intro | (with_reducible exact absTF) | (with_reducible exact absFT) | intro _ | refine And.intro ?_ ?_ | refine Fin.mk ?_ | refine CallQ.mk rfl ?_ ?_ | refine CallG.plain rfl ?_ ?_ | refine CallG.mk rfl ?_ ?_)
    all_goals (try (conv => whnf))
    all_goals (try rfl)
    all_goals trace_state
  · have hl := ha.len
    have h1 := ha.hp
    have h2 := ha.hb
    repeat' ((conv => whnf); first | (with_reducible rfl) | exact True.intro | (with_reducible exact absTF) | (with_reducible exact absFT) | intro _ | refine And.intro ?_ ?_ | refine Fin.mk ?_ | refine CallQ.mk rfl ?_ ?_ | refine CallG.plain rfl ?_ ?_ | refine CallG.mk rfl ?_ ?_)
    all_goals (try (conv => whnf))
    all_goals (try (refine Ob.mk ?_; first | exact True.intro | assumption | omega | (try simp only [decide_eq_true_eq, decide_eq_false_iff_not, beq_iff_eq, beq_eq_false_iff_ne, bne_iff_ne, ne_eq, Bool.and_eq_true, Bool.or_eq_true, Bool.not_eq_true, Bool.not_eq_false, Bool.not_eq_true', Bool.not_eq_false', Int.toNat_natCast, Int.not_lt, Int.not_le] at *; omega)))
    all_goals (try ((show (_:Int) = _); omega))
    all_goals (try ((show (_ : Nat) ≤ _); (simp <;> omega)))
    all_goals (try ((show (_ : Nat) ≤ _ ∧ (_ : Nat) ≤ _); (simp <;> omega)))
    all_goals (try ((show (_ : Int) ≤ _ ∧ (_ : Int) ≤ _ ∧ (_ : Int) ≤ _ ∧ (_ : Int) ≤ _); (simp <;> omega)))
    all_goals (try simp only [decide_eq_true_eq, decide_eq_false_iff_not, beq_iff_eq, beq_eq_false_iff_ne, bne_iff_ne, ne_eq, Bool.and_eq_true, Bool.or_eq_true, Bool.not_eq_true, Bool.not_eq_false, Bool.not_eq_true', Bool.not_eq_false', Int.toNat_natCast, Int.not_lt, Int.not_le] at *)
    · refine ⟨[(_, _)], rfl, ?_⟩
      repeat' ((conv => whnf); first | (with_reducible rfl) | exact True.intro | (with_reducible exact absTF) | (with_reducible exact absFT) | intro _ | refine And.intro ?_ ?_ | refine Fin.mk ?_ | refine CallQ.mk rfl ?_ ?_ | refine CallG.plain rfl ?_ ?_ | refine CallG.mk rfl ?_ ?_)
      all_goals (try (conv => whnf))
      all_goals (try (refine Ob.mk ?_; first | exact True.intro | assumption | omega | (try simp only [decide_eq_true_eq, decide_eq_false_iff_not, beq_iff_eq, beq_eq_false_iff_ne, bne_iff_ne, ne_eq, Bool.and_eq_true, Bool.or_eq_true, Bool.not_eq_true, Bool.not_eq_false, Bool.not_eq_true', Bool.not_eq_false', Int.toNat_natCast, Int.not_lt, Int.not_le] at *; omega)))
      all_goals (try ((show (_:Int) = _); omega))
      all_goals (try ((show (_ : Nat) ≤ _); (simp <;> omega)))
      all_goals (try ((show (_ : Nat) ≤ _ ∧ (_ : Nat) ≤ _); (simp <;> omega)))
      all_goals (try ((show (_ : Int) ≤ _ ∧ (_ : Int) ≤ _ ∧ (_ : Int) ≤ _ ∧ (_ : Int) ≤ _); (simp <;> omega)))
      refine Rnd.mk ⟨⟨a.pos + (decL s a.pos).2, a.spans ++ [(a.start, (a.pos:Int))], -a.start - 1⟩, ?_, ?_, ?_⟩
      · exact fs_sp1 ha ‹_› ‹_› (by omega)
      · have := (decL_pos s a.pos ‹_›).1; simp; omega
      · repeat' ((conv => whnf); first | (with_reducible rfl) | exact True.intro | (with_reducible exact absTF) | (with_reducible exact absFT) | intro _ | refine And.intro ?_ ?_ | refine Fin.mk ?_ | refine CallQ.mk rfl ?_ ?_ | refine CallG.plain rfl ?_ ?_ | refine CallG.mk rfl ?_ ?_)
        all_goals (try (conv => whnf))
        all_goals (try (refine Ob.mk ?_; first | exact True.intro | assumption | omega | (try simp only [decide_eq_true_eq, decide_eq_false_iff_not, beq_iff_eq, beq_eq_false_iff_ne, bne_iff_ne, ne_eq, Bool.and_eq_true, Bool.or_eq_true, Bool.not_eq_true, Bool.not_eq_false, Bool.not_eq_true', Bool.not_eq_false', Int.toNat_natCast, Int.not_lt, Int.not_le] at *; omega)))
        all_goals (try ((show (_:Int) = _); omega))
        all_goals (try ((show (_ : Nat) ≤ _); (simp <;> omega)))
        all_goals (try ((show (_ : Nat) ≤ _ ∧ (_ : Nat) ≤ _); (simp <;> omega)))
        all_goals (try ((show (_ : Int) ≤ _ ∧ (_ : Int) ≤ _ ∧ (_ : Int) ≤ _ ∧ (_ : Int) ≤ _); (simp <;> omega)))
        all_goals (first | (rw [bits_not _ (by omega)]; done) | skip)
        all_goals trace_state
    · have := (decL_pos s a.pos ‹_›).1
      refine Rnd.mk ⟨⟨a.pos + (decL s a.pos).2, a.spans, a.start⟩, ?_, ?_, ?_⟩
      · exact fs_sp0 ha ‹_› ‹_› (by omega)
      · simp; omega
      · repeat' ((conv => whnf); first | (with_reducible rfl) | exact True.intro | (with_reducible exact absTF) | (with_reducible exact absFT) | intro _ | refine And.intro ?_ ?_ | refine Fin.mk ?_ | refine CallQ.mk rfl ?_ ?_ | refine CallG.plain rfl ?_ ?_ | refine CallG.mk rfl ?_ ?_)
        all_goals (try (conv => whnf))
        all_goals (try (refine Ob.mk ?_; first | exact True.intro | assumption | omega | (try simp only [decide_eq_true_eq, decide_eq_false_iff_not, beq_iff_eq, beq_eq_false_iff_ne, bne_iff_ne, ne_eq, Bool.and_eq_true, Bool.or_eq_true, Bool.not_eq_true, Bool.not_eq_false, Bool.not_eq_true', Bool.not_eq_false', Int.toNat_natCast, Int.not_lt, Int.not_le] at *; omega)))
        all_goals (try ((show (_:Int) = _); omega))
        all_goals (try ((show (_ : Nat) ≤ _); (simp <;> omega)))
        all_goals (try ((show (_ : Nat) ≤ _ ∧ (_ : Nat) ≤ _); (simp <;> omega)))
        all_goals (try ((show (_ : Int) ≤ _ ∧ (_ : Int) ≤ _ ∧ (_ : Int) ≤ _ ∧ (_ : Int) ≤ _); (simp <;> omega)))
        all_goals trace_state
    · have := (decL_pos s a.pos ‹_›).1
      refine Rnd.mk ⟨⟨a.pos + (decL s a.pos).2, a.spans, a.pos⟩, ?_, ?_, ?_⟩
      · exact fs_no0 ha ‹_› ‹_› (by omega)
      · simp; omega
      · repeat' ((conv => whnf); first | (with_reducible rfl) | exact True.intro | (with_reducible exact absTF) | (with_reducible exact absFT) | intro _ | refine And.intro ?_ ?_ | refine Fin.mk ?_ | refine CallQ.mk rfl ?_ ?_ | refine CallG.plain rfl ?_ ?_ | refine CallG.mk rfl ?_ ?_)
        all_goals (try (conv => whnf))
        all_goals (try (refine Ob.mk ?_; first | exact True.intro | assumption | omega | (try simp only [decide_eq_true_eq, decide_eq_false_iff_not, beq_iff_eq, beq_eq_false_iff_ne, bne_iff_ne, ne_eq, Bool.and_eq_true, Bool.or_eq_true, Bool.not_eq_true, Bool.not_eq_false, Bool.not_eq_true', Bool.not_eq_false', Int.toNat_natCast, Int.not_lt, Int.not_le] at *; omega)))
        all_goals (try ((show (_:Int) = _); omega))
        all_goals (try ((show (_ : Nat) ≤ _); (simp <;> omega)))
        all_goals (try ((show (_ : Nat) ≤ _ ∧ (_ : Nat) ≤ _); (simp <;> omega)))
        all_goals (try ((show (_ : Int) ≤ _ ∧ (_ : Int) ≤ _ ∧ (_ : Int) ≤ _ ∧ (_ : Int) ≤ _); (simp <;> omega)))
        all_goals trace_state
    · have := (decL_pos s a.pos ‹_›).1
      refine Rnd.mk ⟨⟨a.pos + (decL s a.pos).2, a.spans, a.start⟩, ?_, ?_, ?_⟩
      · exact fs_no1 ha ‹_› ‹_› (by omega)
      · simp; omega
      · repeat' ((conv => whnf); first | (with_reducible rfl) | exact True.intro | (with_reducible exact absTF) | (with_reducible exact absFT) | intro _ | refine And.intro ?_ ?_ | refine Fin.mk ?_ | refine CallQ.mk rfl ?_ ?_ | refine CallG.plain rfl ?_ ?_ | refine CallG.mk rfl ?_ ?_)
        all_goals (try (conv => whnf))
        all_goals (try (refine Ob.mk ?_; first | exact True.intro | assumption | omega | (try simp only [decide_eq_true_eq, decide_eq_false_iff_not, beq_iff_eq, beq_eq_false_iff_ne, bne_iff_ne, ne_eq, Bool.and_eq_true, Bool.or_eq_true, Bool.not_eq_true, Bool.not_eq_false, Bool.not_eq_true', Bool.not_eq_false', Int.toNat_natCast, Int.not_lt, Int.not_le] at *; omega)))
        all_goals (try ((show (_:Int) = _); omega))
        all_goals (try ((show (_ : Nat) ≤ _); (simp <;> omega)))
        all_goals (try ((show (_ : Nat) ≤ _ ∧ (_ : Nat) ≤ _); (simp <;> omega)))
        all_goals (try ((show (_ : Int) ≤ _ ∧ (_ : Int) ≤ _ ∧ (_ : Int) ≤ _ ∧ (_ : Int) ≤ _); (simp <;> omega)))
        all_goals trace_state
    · refine ⟨[(_, _)], rfl, ?_⟩
      have hh := fs_end1 ha ‹_› (by omega)
      have hlen : (a.spans ++ [(a.start, (s.length:Int))]).length ≤ s.length + 1 := by simp; omega
      revert hh hlen
      generalize a.spans ++ [(a.start, (s.length:Int))] = sp
      intro hh hlen
      repeat' ((conv => whnf); first | (with_reducible rfl) | exact True.intro | (with_reducible exact absTF) | (with_reducible exact absFT) | intro _ | refine And.intro ?_ ?_ | refine Fin.mk ?_ | refine CallQ.mk rfl ?_ ?_ | refine CallG.plain rfl ?_ ?_ | refine CallG.mk rfl ?_ ?_)
      all_goals (try (conv => whnf))
      all_goals (try (refine Ob.mk ?_; first | exact True.intro | assumption | omega | (try simp only [decide_eq_true_eq, decide_eq_false_iff_not, beq_iff_eq, beq_eq_false_iff_ne, bne_iff_ne, ne_eq, Bool.and_eq_true, Bool.or_eq_true, Bool.not_eq_true, Bool.not_eq_false, Bool.not_eq_true', Bool.not_eq_false', Int.toNat_natCast, Int.not_lt, Int.not_le] at *; omega)))
      all_goals (try ((show (_:Int) = _); omega))
      all_goals (try ((show (_ : Nat) ≤ _); (simp <;> omega)))
      all_goals (try ((show (_ : Nat) ≤ _ ∧ (_ : Nat) ≤ _); (simp <;> omega)))
      all_goals (try ((show (_ : Int) ≤ _ ∧ (_ : Int) ≤ _ ∧ (_ : Int) ≤ _ ∧ (_ : Int) ≤ _); (simp <;> omega)))
      refine ⟨List UInt8, [], encS, rfl, ?_⟩
      repeat' ((conv => whnf); first | (with_reducible rfl) | exact True.intro | (with_reducible exact absTF) | (with_reducible exact absFT) | intro _ | refine And.intro ?_ ?_ | refine Fin.mk ?_ | refine CallQ.mk rfl ?_ ?_ | refine CallG.plain rfl ?_ ?_ | refine CallG.mk rfl ?_ ?_)
      all_goals (try (conv => whnf))
      refine LoopStop.mk (α := Nat) (fun i => [(49, .int .i64 i)]) (fun i => [(2, .own 1 [] encS (fin2 s sp i))]) 3 (fun i => i ≤ sp.length) (fun i => sp.length - i) 0 (by simp) ?_ (fun i hi => ?_)
      · repeat' ((conv => whnf); first | (with_reducible rfl) | exact True.intro | (with_reducible exact absTF) | (with_reducible exact absFT) | intro _ | refine And.intro ?_ ?_ | refine Fin.mk ?_ | refine CallQ.mk rfl ?_ ?_ | refine CallG.plain rfl ?_ ?_ | refine CallG.mk rfl ?_ ?_)
        all_goals (try (conv => whnf))
        all_goals (try rfl)
        all_goals trace_state
      · repeat' ((conv => whnf); first | (with_reducible rfl) | exact True.intro | (with_reducible exact absTF) | (with_reducible exact absFT) | intro _ | refine And.intro ?_ ?_ | refine Fin.mk ?_ | refine CallQ.mk rfl ?_ ?_ | refine CallG.plain rfl ?_ ?_ | refine CallG.mk rfl ?_ ?_)
        all_goals (try (conv => whnf))
        all_goals (try (refine Ob.mk ?_; first | exact True.intro | assumption | omega | (try simp only [decide_eq_true_eq, decide_eq_false_iff_not, beq_iff_eq, beq_eq_false_iff_ne, bne_iff_ne, ne_eq, Bool.and_eq_true, Bool.or_eq_true, Bool.not_eq_true, Bool.not_eq_false, Bool.not_eq_true', Bool.not_eq_false', Int.toNat_natCast, Int.not_lt, Int.not_le] at *; omega)))
        all_goals (try ((show (_:Int) = _); omega))
        all_goals (try ((show (_ : Nat) ≤ _); (simp <;> omega)))
        all_goals (try ((show (_ : Nat) ≤ _ ∧ (_ : Nat) ≤ _); (simp <;> omega)))
        all_goals (try ((show (_ : Int) ≤ _ ∧ (_ : Int) ≤ _ ∧ (_ : Int) ≤ _ ∧ (_ : Int) ≤ _); (simp <;> omega)))
        all_goals (try simp only [decide_eq_true_eq, decide_eq_false_iff_not, beq_iff_eq, beq_eq_false_iff_ne, bne_iff_ne, ne_eq, Bool.and_eq_true, Bool.or_eq_true, Bool.not_eq_true, Bool.not_eq_false, Bool.not_eq_true', Bool.not_eq_false', Int.toNat_natCast, Int.not_lt, Int.not_le] at *)
        · exact hh.2 _ (getD_mem' (by omega))
        · rw [fin2_len s sp i hi]; omega
        · rw [fin2_len s sp i hi]; omega
        · refine ⟨_, rfl, ?_⟩
          have e := fin2_set s sp i (by omega)
          repeat' ((conv => whnf); first | (with_reducible rfl) | exact True.intro | (with_reducible exact absTF) | (with_reducible exact absFT) | intro _ | refine And.intro ?_ ?_ | refine Fin.mk ?_ | refine CallQ.mk rfl ?_ ?_ | refine CallG.plain rfl ?_ ?_ | refine CallG.mk rfl ?_ ?_)
          all_goals (try (conv => whnf))
          all_goals (try (refine Ob.mk ?_; first | exact True.intro | assumption | omega | (try simp only [decide_eq_true_eq, decide_eq_false_iff_not, beq_iff_eq, beq_eq_false_iff_ne, bne_iff_ne, ne_eq, Bool.and_eq_true, Bool.or_eq_true, Bool.not_eq_true, Bool.not_eq_false, Bool.not_eq_true', Bool.not_eq_false', Int.toNat_natCast, Int.not_lt, Int.not_le] at *; omega)))
          all_goals (try ((show (_:Int) = _); omega))
          all_goals (try ((show (_ : Nat) ≤ _); (simp <;> omega)))
          all_goals (try ((show (_ : Nat) ≤ _ ∧ (_ : Nat) ≤ _); (simp <;> omega)))
          all_goals (try ((show (_ : Int) ≤ _ ∧ (_ : Int) ≤ _ ∧ (_ : Int) ≤ _ ∧ (_ : Int) ≤ _); (simp <;> omega)))
          refine Rnd.mk ⟨i + 1, ?_, ?_, ?_⟩
          · omega
          · omega
          · repeat' ((conv => whnf); first | (with_reducible rfl) | exact True.intro | (with_reducible exact absTF) | (with_reducible exact absFT) | intro _ | refine And.intro ?_ ?_ | refine Fin.mk ?_ | refine CallQ.mk rfl ?_ ?_ | refine CallG.plain rfl ?_ ?_ | refine CallG.mk rfl ?_ ?_)
            all_goals (try (conv => whnf))
            all_goals (try (refine Ob.mk ?_; first | exact True.intro | assumption | omega | (try simp only [decide_eq_true_eq, decide_eq_false_iff_not, beq_iff_eq, beq_eq_false_iff_ne, bne_iff_ne, ne_eq, Bool.and_eq_true, Bool.or_eq_true, Bool.not_eq_true, Bool.not_eq_false, Bool.not_eq_true', Bool.not_eq_false', Int.toNat_natCast, Int.not_lt, Int.not_le] at *; omega)))
            all_goals (try ((show (_:Int) = _); omega))
            all_goals (try ((show (_ : Nat) ≤ _); (simp <;> omega)))
            all_goals (try ((show (_ : Nat) ≤ _ ∧ (_ : Nat) ≤ _); (simp <;> omega)))
            all_goals (try ((show (_ : Int) ≤ _ ∧ (_ : Int) ≤ _ ∧ (_ : Int) ≤ _ ∧ (_ : Int) ≤ _); (simp <;> omega)))
            all_goals (rw [← e]; rfl)
        · rw [fin2_end s sp i (by omega), hh.1]
    · have hh := fs_end0 ha ‹_› (by omega)
      have hlen : a.spans.length ≤ s.length + 1 := by omega
      revert hh hlen
      generalize a.spans = sp
      intro hh hlen
      refine ⟨List UInt8, [], encS, rfl, ?_⟩
      repeat' ((conv => whnf); first | (with_reducible rfl) | exact True.intro | (with_reducible exact absTF) | (with_reducible exact absFT) | intro _ | refine And.intro ?_ ?_ | refine Fin.mk ?_ | refine CallQ.mk rfl ?_ ?_ | refine CallG.plain rfl ?_ ?_ | refine CallG.mk rfl ?_ ?_)
      all_goals (try (conv => whnf))
      refine LoopStop.mk (α := Nat) (fun i => [(49, .int .i64 i)]) (fun i => [(2, .own 1 [] encS (fin2 s sp i))]) 3 (fun i => i ≤ sp.length) (fun i => sp.length - i) 0 (by simp) ?_ (fun i hi => ?_)
      · repeat' ((conv => whnf); first | (with_reducible rfl) | exact True.intro | (with_reducible exact absTF) | (with_reducible exact absFT) | intro _ | refine And.intro ?_ ?_ | refine Fin.mk ?_ | refine CallQ.mk rfl ?_ ?_ | refine CallG.plain rfl ?_ ?_ | refine CallG.mk rfl ?_ ?_)
        all_goals (try (conv => whnf))
        all_goals (try rfl)
        all_goals trace_state
      · repeat' ((conv => whnf); first | (with_reducible rfl) | exact True.intro | (with_reducible exact absTF) | (with_reducible exact absFT) | intro _ | refine And.intro ?_ ?_ | refine Fin.mk ?_ | refine CallQ.mk rfl ?_ ?_ | refine CallG.plain rfl ?_ ?_ | refine CallG.mk rfl ?_ ?_)
        all_goals (try (conv => whnf))
        all_goals (try (refine Ob.mk ?_; first | exact True.intro | assumption | omega | (try simp only [decide_eq_true_eq, decide_eq_false_iff_not, beq_iff_eq, beq_eq_false_iff_ne, bne_iff_ne, ne_eq, Bool.and_eq_true, Bool.or_eq_true, Bool.not_eq_true, Bool.not_eq_false, Bool.not_eq_true', Bool.not_eq_false', Int.toNat_natCast, Int.not_lt, Int.not_le] at *; omega)))
        all_goals (try ((show (_:Int) = _); omega))
        all_goals (try ((show (_ : Nat) ≤ _); (simp <;> omega)))
        all_goals (try ((show (_ : Nat) ≤ _ ∧ (_ : Nat) ≤ _); (simp <;> omega)))
        all_goals (try ((show (_ : Int) ≤ _ ∧ (_ : Int) ≤ _ ∧ (_ : Int) ≤ _ ∧ (_ : Int) ≤ _); (simp <;> omega)))
        all_goals (try simp only [decide_eq_true_eq, decide_eq_false_iff_not, beq_iff_eq, beq_eq_false_iff_ne, bne_iff_ne, ne_eq, Bool.and_eq_true, Bool.or_eq_true, Bool.not_eq_true, Bool.not_eq_false, Bool.not_eq_true', Bool.not_eq_false', Int.toNat_natCast, Int.not_lt, Int.not_le] at *)
        · exact hh.2 _ (getD_mem' (by omega))
        · rw [fin2_len s sp i hi]; omega
        · rw [fin2_len s sp i hi]; omega
        · refine ⟨_, rfl, ?_⟩
          have e := fin2_set s sp i (by omega)
          repeat' ((conv => whnf); first | (with_reducible rfl) | exact True.intro | (with_reducible exact absTF) | (with_reducible exact absFT) | intro _ | refine And.intro ?_ ?_ | refine Fin.mk ?_ | refine CallQ.mk rfl ?_ ?_ | refine CallG.plain rfl ?_ ?_ | refine CallG.mk rfl ?_ ?_)
          all_goals (try (conv => whnf))
          all_goals (try (refine Ob.mk ?_; first | exact True.intro | assumption | omega | (try simp only [decide_eq_true_eq, decide_eq_false_iff_not, beq_iff_eq, beq_eq_false_iff_ne, bne_iff_ne, ne_eq, Bool.and_eq_true, Bool.or_eq_true, Bool.not_eq_true, Bool.not_eq_false, Bool.not_eq_true', Bool.not_eq_false', Int.toNat_natCast, Int.not_lt, Int.not_le] at *; omega)))
          all_goals (try ((show (_:Int) = _); omega))
          all_goals (try ((show (_ : Nat) ≤ _); (simp <;> omega)))
          all_goals (try ((show (_ : Nat) ≤ _ ∧ (_ : Nat) ≤ _); (simp <;> omega)))
          all_goals (try ((show (_ : Int) ≤ _ ∧ (_ : Int) ≤ _ ∧ (_ : Int) ≤ _ ∧ (_ : Int) ≤ _); (simp <;> omega)))
          refine Rnd.mk ⟨i + 1, ?_, ?_, ?_⟩
          · omega
          · omega
          · repeat' ((conv => whnf); first | (with_reducible rfl) | exact True.intro | (with_reducible exact absTF) | (with_reducible exact absFT) | intro _ | refine And.intro ?_ ?_ | refine Fin.mk ?_ | refine CallQ.mk rfl ?_ ?_ | refine CallG.plain rfl ?_ ?_ | refine CallG.mk rfl ?_ ?_)
            all_goals (try (conv => whnf))
            all_goals (try (refine Ob.mk ?_; first | exact True.intro | assumption | omega | (try simp only [decide_eq_true_eq, decide_eq_false_iff_not, beq_iff_eq, beq_eq_false_iff_ne, bne_iff_ne, ne_eq, Bool.and_eq_true, Bool.or_eq_true, Bool.not_eq_true, Bool.not_eq_false, Bool.not_eq_true', Bool.not_eq_false', Int.toNat_natCast, Int.not_lt, Int.not_le] at *; omega)))
            all_goals (try ((show (_:Int) = _); omega))
            all_goals (try ((show (_ : Nat) ≤ _); (simp <;> omega)))
            all_goals (try ((show (_ : Nat) ≤ _ ∧ (_ : Nat) ≤ _); (simp <;> omega)))
            all_goals (try ((show (_ : Int) ≤ _ ∧ (_ : Int) ≤ _ ∧ (_ : Int) ≤ _ ∧ (_ : Int) ≤ _); (simp <;> omega)))
            all_goals (rw [← e]; rfl)
        · rw [fin2_end s sp i (by omega), hh.1]
end Go.Vc
