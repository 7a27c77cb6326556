/- A part of the proof: lemmas and walks that the last text of the claim joins; no condition. -/
import Derived.Test.YtfjggnjfifbbgaaK4
namespace Go.Vc
open Go.Proofs
set_option linter.unusedVariables false
set_option maxRecDepth 10000
set_option linter.unusedSimpArgs false
structure FS where
  pos : Nat
  spans : List (Int × Int)
  start : Int
abbrev encP (p : Int × Int) : List SV := [.int .i64 p.1, .int .i64 p.2]
structure FSok (s : List UInt8) (a : FS) : Prop where
  hp : a.pos ≤ s.length
  hs : a.spans.map (cut s) = (spAt s a.pos).1
  hr : ∀ p ∈ a.spans, 0 ≤ p.1 ∧ p.1 ≤ p.2 ∧ p.2 ≤ s.length
  hb : -(s.length : Int) - 1 ≤ a.start ∧ a.start ≤ s.length
  hw : if a.start < 0 then (spAt s a.pos).2 = [] else a.start < a.pos ∧ (spAt s a.pos).2 = cut s (a.start, a.pos)
theorem FSok.len {s : List UInt8} {a : FS} (h : FSok s a) : a.spans.length ≤ a.pos := by
  have := spAt_len s a.pos
  rw [← h.hs, List.length_map] at this; omega
theorem cut_ne {s : List UInt8} {i : Int} {j : Nat} (h0 : 0 ≤ i) (h : i < j) (h2 : j ≤ s.length) : ¬ cut s (i, j) = [] := by
  intro e
  have := congrArg List.length e
  simp [cut] at this
  omega
theorem spR_eq {s : List UInt8} {pos : Nat} (h : pos < s.length) :
    (spR (decL s pos).1 = true → (decL s pos).2 = 1 ∧ isSp (s.getD pos 0).toNat = true) ∧
    (spR (decL s pos).1 = false → pos < pos + (decL s pos).2 ∧ pos + (decL s pos).2 ≤ s.length ∧ ∀ j, pos ≤ j → j < pos + (decL s pos).2 → isSp (s.getD j 0).toNat = false) := by
  have ⟨d1, d2, d3⟩ := decL_pos s pos h
  have hw : (decL s pos).1 < 128 → IntKind.u8.wrap ((decL s pos).1 : Int) = (decL s pos).1 := fun hh => by
    simp [IntKind.wrap, IntKind.signed, IntKind.bits]; omega
  by_cases hh : (decL s pos).1 < 128
  · rw [if_pos hh] at d3
    have e : spR (decL s pos).1 = isSp (s.getD pos 0).toNat := by
      unfold spR; rw [hw hh, decide_eq_true (by omega), Bool.true_and, d3.2]
    rw [e]
    refine ⟨fun k => ⟨d3.1, k⟩, fun k => ⟨by omega, d2, fun j h1 h2 => ?_⟩⟩
    have : j = pos := by omega
    subst this; exact k
  · rw [if_neg hh] at d3
    have e : spR (decL s pos).1 = false := by unfold spR; simp; intro k; omega
    rw [e]
    refine ⟨fun k => (nomatch k), fun _ => ⟨by omega, d2, fun j h1 h2 => isSp_high (d3 j h1 h2)⟩⟩
theorem fs_sp1 {s : List UInt8} {a : FS} (h : FSok s a) (h1 : a.pos < s.length) (h2 : spR (decL s a.pos).1 = true) (h3 : 0 ≤ a.start) :
    FSok s ⟨a.pos + (decL s a.pos).2, a.spans ++ [(a.start, (a.pos:Int))], -a.start - 1⟩ := by
  have ⟨e1, e2⟩ := (spR_eq h1).1 h2
  have hw := h.hw; rw [if_neg (by omega)] at hw
  have hb := h.hb
  have e := spAt_succ s a.pos h1
  rw [spStep_spw e2 (by rw [hw.2]; exact cut_ne h3 hw.1 h.hp)] at e
  constructor
  · simp only [e1]; omega
  · simp only [e1, e, List.map_append, h.hs, hw.2]; rfl
  · intro p hp
    rcases List.mem_append.mp hp with hp | hp
    · exact h.hr p hp
    · simp at hp; subst hp; simp; omega
  · simp; omega
  · rw [if_pos (by simp; omega)]; simp only [e1, e]
theorem fs_sp0 {s : List UInt8} {a : FS} (h : FSok s a) (h1 : a.pos < s.length) (h2 : spR (decL s a.pos).1 = true) (h3 : a.start < 0) :
    FSok s ⟨a.pos + (decL s a.pos).2, a.spans, a.start⟩ := by
  have ⟨e1, e2⟩ := (spR_eq h1).1 h2
  have hw := h.hw; rw [if_pos (by omega)] at hw
  have e := spAt_succ s a.pos h1
  rw [spStep_sp e2 hw] at e
  constructor
  · simp only [e1]; omega
  · simp only [e1, e, h.hs]
  · exact h.hr
  · exact h.hb
  · rw [if_pos (by simpa using h3)]; simp only [e1, e]
theorem fs_no1 {s : List UInt8} {a : FS} (h : FSok s a) (h1 : a.pos < s.length) (h2 : spR (decL s a.pos).1 = false) (h3 : 0 ≤ a.start) :
    FSok s ⟨a.pos + (decL s a.pos).2, a.spans, a.start⟩ := by
  have ⟨e0, e1, e2⟩ := (spR_eq h1).2 h2
  have hw := h.hw; rw [if_neg (by omega)] at hw
  have e := spAt_run s a.pos _ e1 e2
  constructor
  · exact e1
  · simp only [e, h.hs]
  · exact h.hr
  · exact h.hb
  · rw [if_neg (by simp; omega)]; simp only [e]
    refine ⟨by omega, ?_⟩
    rw [hw.2]
    obtain ⟨i, hi⟩ : ∃ i : Nat, a.start = i := ⟨a.start.toNat, by omega⟩
    rw [hi, cut_cat s i a.pos _ (by omega) (by omega) e1]
theorem fs_no0 {s : List UInt8} {a : FS} (h : FSok s a) (h1 : a.pos < s.length) (h2 : spR (decL s a.pos).1 = false) (h3 : a.start < 0) :
    FSok s ⟨a.pos + (decL s a.pos).2, a.spans, (a.pos : Int)⟩ := by
  have ⟨e0, e1, e2⟩ := (spR_eq h1).2 h2
  have hw := h.hw; rw [if_pos (by omega)] at hw
  have e := spAt_run s a.pos _ e1 e2
  constructor
  · exact e1
  · simp only [e, h.hs]
  · exact h.hr
  · simp; omega
  · rw [if_neg (by simp)]; simp only [e]
    refine ⟨by omega, ?_⟩
    rw [hw]; rfl
theorem fs_end1 {s : List UInt8} {a : FS} (h : FSok s a) (h1 : ¬ a.pos < s.length) (h3 : 0 ≤ a.start) :
    (a.spans ++ [(a.start, (s.length:Int))]).map (cut s) = spl s ∧ ∀ p ∈ (a.spans ++ [(a.start, (s.length:Int))]), 0 ≤ p.1 ∧ p.1 ≤ p.2 ∧ p.2 ≤ s.length := by
  have hp := h.hp
  have e : a.pos = s.length := by omega
  have hw := h.hw; rw [if_neg (by omega)] at hw
  have hb := h.hb
  refine ⟨?_, ?_⟩
  · rw [spl_w (i := a.pos) (by omega) (by rw [hw.2]; exact cut_ne h3 hw.1 h.hp), hw.2, ← h.hs, e, List.map_append]; rfl
  · intro p hp
    rcases List.mem_append.mp hp with hp | hp
    · exact h.hr p hp
    · simp at hp; subst hp; simp; omega
theorem fs_end0 {s : List UInt8} {a : FS} (h : FSok s a) (h1 : ¬ a.pos < s.length) (h3 : a.start < 0) :
    a.spans.map (cut s) = spl s ∧ ∀ p ∈ a.spans, 0 ≤ p.1 ∧ p.1 ≤ p.2 ∧ p.2 ≤ s.length := by
  have hp := h.hp
  have e : a.pos = s.length := by omega
  have hw := h.hw; rw [if_pos (by omega)] at hw
  exact ⟨by rw [spl_e (i := a.pos) (by omega) hw, h.hs], h.hr⟩
@[simp] theorem bt42 : bytesT Try.prog 42 = 16 := rfl
@[simp] theorem bt42b : bytesT BB.P 42 = 16 := rfl
@[simp] theorem bt9b : bytesT BB.P 9 = 16 := rfl
end Go.Vc
