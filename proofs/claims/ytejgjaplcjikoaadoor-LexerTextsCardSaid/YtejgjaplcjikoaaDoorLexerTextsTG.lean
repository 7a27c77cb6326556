/- A part of the proof: lemmas and walks that the last text of the claim joins; no condition. -/
import Derived.Test.YtejgjaplcjikoaaDoorLexerTextsTF
import Derived.Test.YtejgjaplcjikoaaDoorLexerTextsTE
import Derived.Lib.LaidU8T
import Derived.PinnedBridge
import Derived.Test.YtejgjaplcjikoaaDoorRows
set_option linter.unusedVariables false
set_option linter.unusedSimpArgs false
set_option maxHeartbeats 8000000
namespace Go.Vc
open Go.Proofs
set_option maxRecDepth 10000
set_option maxHeartbeats 8000000
theorem esc_lt (s : List UInt8) (i : Nat) : (escL false s).getD i 0 ≠ 60 := by
  intro h
  have hf := esc_free false [60] (fun c hc => by simp at hc; exact .inl hc) s
  rcases Nat.lt_or_ge i (escL false s).length with q | q
  · have hm : (escL false s).getD i 0 ∈ escL false s := by
      rw [List.getD_eq_getElem?_getD, List.getElem?_eq_getElem q]; exact List.getElem_mem q
    have := hf _ hm
    rw [h] at this
    revert this; decide
  · rw [List.getD_eq_getElem?_getD, List.getElem?_eq_none q] at h; revert h; decide
theorem pos_esc (s : List UInt8) : ∀ k i, posF (escL false s) k i = []
  | 0, _ => rfl
  | k + 1, i => by
    unfold posF
    rw [if_neg (esc_lt s i)]
    exact pos_esc s k (i + 1)
theorem all_esc (s : List UInt8) (h : s ≠ []) : allP (escL false s) = [(3, [], [], false, s), (0, [], [], false, [])] := by
  have hn := escL_ne false s h
  have hx : txN (escL false s) false = (escL false s).length := by rw [txN_sg]; unfold sgn; rw [pos_esc]; rfl
  have hd : datP false (escL false s) = ((3, [], [], false, s), []) := by
    rw [datP_txt false _ hn (mkN_no _ _ (esc_lt s 0)), txtD, hx, List.take_length, List.drop_length, dec_esc]
  have hl : 0 < (escL false s).length := List.length_pos_iff.mpr hn
  unfold allP
  rw [allF_step _ _ (by rw [hd]; show (3 : Int) ≠ 0; decide), hd]
  obtain ⟨k, hk⟩ : ∃ k, (escL false s).length = k + 1 := ⟨(escL false s).length - 1, by omega⟩
  rw [hk, allF_end _ _ (by rw [datP_nil]; rfl), datP_nil]
  rfl
theorem all_nil : allP [] = [(0, [], [], false, [])] := by kernel_rfl
instance sSame7 (l : List AttrD) : Fn BB 12 [.rd attrTy l, .nils] True (.bool ((l.length : Int) == 0)) := by
  refine Fn.intro (N := 26) [0, 1, 4, 5, 10, 14, 25] [(6, [0, 0, 1, 1, 0, 0, 1, 1, 3])] Tryd.call12 Tryd.func12 rfl rfl (by kernel_rfl) (fun hpre => ?_)
  cases l with
  | nil =>
    repeat' ((conv => whnf);first|(with_reducible first|rfl|exact absTF|exact absFT)|exact True.intro|intro _|refine And.intro ?_ ?_|refine Fin.mk ?_|refine W1 rfl ?_ ?_|refine W2 rfl ?_ ?_|refine W3 rfl ?_ ?_|refine W4 ?_ ?_|refine W5 rfl ?_ ?_|refine W6 ?_ ?_|refine AppN.mk ?_|refine X1 (W1 rfl ?_ ?_)|refine X1 (W2 rfl ?_ ?_)|refine X2 (W7 rfl ?_ ?_)|refine X3 (W7 rfl ?_ ?_)|refine X4 (W7 rfl ?_ ?_)|refine X5 (W7 rfl ?_ ?_))
    all_goals (try (conv => whnf))
    all_goals (try first|exact Ob.mk (u8_bnd _)|(refine Ob.mk ?_;first|exact True.intro|assumption|omega|(try simp only [ZA,ZB,ZC,ZD,ZE,ZF,ZG,ZH,ZI,ZJ,ZK,ZL,ZM,ZN,ZO,Int.toNat_natCast,UInt8.ofNat_toNat,cast_eq] at *;omega)))
    all_goals (try first|(show (_:Int) = _;omega)|(show tupSV _ = _;with_unfolding_all rfl)|((first|show (_:Nat) ≤ _|show (_:Nat) ≤ _ ∧ (_:Nat) ≤ _|show (_:Int) ≤ _ ∧ (_:Int) ≤ _ ∧ (_:Int) ≤ _ ∧ (_:Int) ≤ _);(simp <;> omega)))
    all_goals (try (exfalso; revert ‹_ = true›; decide))
    refine LoopStop.unroll 1 ?_
    repeat' ((conv => whnf);first|(with_reducible first|rfl|exact absTF|exact absFT)|exact True.intro|intro _|refine And.intro ?_ ?_|refine Fin.mk ?_|refine W1 rfl ?_ ?_|refine W2 rfl ?_ ?_|refine W3 rfl ?_ ?_|refine W4 ?_ ?_|refine W5 rfl ?_ ?_|refine W6 ?_ ?_|refine AppN.mk ?_|refine X1 (W1 rfl ?_ ?_)|refine X1 (W2 rfl ?_ ?_)|refine X2 (W7 rfl ?_ ?_)|refine X3 (W7 rfl ?_ ?_)|refine X4 (W7 rfl ?_ ?_)|refine X5 (W7 rfl ?_ ?_))
    all_goals (try (conv => whnf))
    all_goals (try first|exact Ob.mk (u8_bnd _)|(refine Ob.mk ?_;first|exact True.intro|assumption|omega|(try simp only [ZA,ZB,ZC,ZD,ZE,ZF,ZG,ZH,ZI,ZJ,ZK,ZL,ZM,ZN,ZO,Int.toNat_natCast,UInt8.ofNat_toNat,cast_eq] at *;omega)))
    all_goals (try first|(show (_:Int) = _;omega)|(show tupSV _ = _;with_unfolding_all rfl)|((first|show (_:Nat) ≤ _|show (_:Nat) ≤ _ ∧ (_:Nat) ≤ _|show (_:Int) ≤ _ ∧ (_:Int) ≤ _ ∧ (_:Int) ≤ _ ∧ (_:Int) ≤ _);(simp <;> omega)))
    all_goals (first | rfl | exact absurd ‹decide ((0 : Int) < _) = true› (by decide) | trace_state)
  | cons x l =>
    have e : (((x :: l).length : Int) != 0) = true := by simp only [List.length_cons, bne_iff_ne]; omega
    have e2 : (((x :: l).length : Int) == 0) = false := by simp only [List.length_cons, beq_eq_false_iff_ne]; omega
    repeat' ((conv => whnf);first|(with_reducible first|rfl|exact absTF|exact absFT)|exact True.intro|intro _|refine And.intro ?_ ?_|refine Fin.mk ?_|refine W1 rfl ?_ ?_|refine W2 rfl ?_ ?_|refine W3 rfl ?_ ?_|refine W4 ?_ ?_|refine W5 rfl ?_ ?_|refine W6 ?_ ?_|refine AppN.mk ?_|refine X1 (W1 rfl ?_ ?_)|refine X1 (W2 rfl ?_ ?_)|refine X2 (W7 rfl ?_ ?_)|refine X3 (W7 rfl ?_ ?_)|refine X4 (W7 rfl ?_ ?_)|refine X5 (W7 rfl ?_ ?_))
    all_goals (try (conv => whnf))
    all_goals (try first|exact Ob.mk (u8_bnd _)|(refine Ob.mk ?_;first|exact True.intro|assumption|omega|(try simp only [ZA,ZB,ZC,ZD,ZE,ZF,ZG,ZH,ZI,ZJ,ZK,ZL,ZM,ZN,ZO,Int.toNat_natCast,UInt8.ofNat_toNat,cast_eq] at *;omega)))
    all_goals (try first|(show (_:Int) = _;omega)|(show tupSV _ = _;with_unfolding_all rfl)|((first|show (_:Nat) ≤ _|show (_:Nat) ≤ _ ∧ (_:Nat) ≤ _|show (_:Int) ≤ _ ∧ (_:Int) ≤ _ ∧ (_:Int) ≤ _ ∧ (_:Int) ≤ _);(simp <;> omega)))
    · exact e2.symm
    · exact absurd (e.symm.trans ‹_›) (by decide)
instance sSame8 (k k' : Int) (n n' d d' : List UInt8) (b b' : Bool) (l : List AttrD) : Fn BB 7 [.agg [.int .i64 k, .str n, .rd attrTy l, .bool b, .str d], .agg [.int .i64 k', .str n', .nils, .bool b', .str d']] True (.bool (k == k' && n == n' && b == b' && d == d' && (l.length : Int) == 0)) := by
  refine Fn.intro (N := 38) [0, 1, 2, 3, 4] [] Tryd.call7 Tryd.func7 rfl rfl (by kernel_rfl) (fun hpre => ?_)
  repeat' ((conv => whnf);first|(with_reducible first|rfl|exact absTF|exact absFT)|exact True.intro|intro _|refine And.intro ?_ ?_|refine Fin.mk ?_|refine W1 rfl ?_ ?_|refine W2 rfl ?_ ?_|refine W3 rfl ?_ ?_|refine W4 ?_ ?_|refine W5 rfl ?_ ?_|refine W6 ?_ ?_|refine AppN.mk ?_|refine X1 (W1 rfl ?_ ?_)|refine X1 (W2 rfl ?_ ?_)|refine X2 (W7 rfl ?_ ?_)|refine X3 (W7 rfl ?_ ?_)|refine X4 (W7 rfl ?_ ?_)|refine X5 (W7 rfl ?_ ?_))
  all_goals (try (conv => whnf))
  all_goals (try first|exact Ob.mk (u8_bnd _)|(refine Ob.mk ?_;first|exact True.intro|assumption|omega|(try simp only [ZA,ZB,ZC,ZD,ZE,ZF,ZG,ZH,ZI,ZJ,ZK,ZL,ZM,ZN,ZO,Int.toNat_natCast,UInt8.ofNat_toNat,cast_eq] at *;omega)))
  all_goals (try first|(show (_:Int) = _;omega)|(show tupSV _ = _;with_unfolding_all rfl)|((first|show (_:Nat) ≤ _|show (_:Nat) ≤ _ ∧ (_:Nat) ≤ _|show (_:Int) ≤ _ ∧ (_:Int) ≤ _ ∧ (_:Int) ≤ _ ∧ (_:Int) ≤ _);(simp <;> omega)))
  all_goals (first | rfl | trace_state)
instance sLexerTexts (s : List UInt8) : Fn BB 3 [.str s] True (.bool true) := by
  refine Fn.intro (N := 41) [0, 2, 3, 10] [] Tryd.call3 Tryd.func3 rfl rfl (by kernel_rfl) (fun hpre => ?_)
  have hl := escL_len false s
  have hb : (decide ((s.length : Int) > 300) || s == []) = false → s.length ≤ 300 ∧ s ≠ [] := fun h => by
    rw [Bool.or_eq_false_iff] at h
    have h1 := of_decide_eq_false h.1
    exact ⟨by omega, by simpa using h.2⟩
  repeat' ((conv => whnf);first|(with_reducible first|rfl|exact absTF|exact absFT)|exact True.intro|intro _|refine And.intro ?_ ?_|refine Fin.mk ?_|refine W1 rfl ?_ ?_|refine W2 rfl ?_ ?_|refine W3 rfl ?_ ?_|refine W4 ?_ ?_|refine W5 rfl ?_ ?_|refine W6 ?_ ?_|refine AppN.mk ?_|refine X1 (W1 rfl ?_ ?_)|refine X1 (W2 rfl ?_ ?_)|refine X2 (W7 rfl ?_ ?_)|refine X3 (W7 rfl ?_ ?_)|refine X4 (W7 rfl ?_ ?_)|refine X5 (W7 rfl ?_ ?_))
  all_goals (try (conv => whnf))
  all_goals (try first|exact Ob.mk (u8_bnd _)|(refine Ob.mk ?_;first|exact True.intro|assumption|omega|(try simp only [ZA,ZB,ZC,ZD,ZE,ZF,ZG,ZH,ZI,ZJ,ZK,ZL,ZM,ZN,ZO,Int.toNat_natCast,UInt8.ofNat_toNat,cast_eq] at *;omega)))
  all_goals (try first|(show (_:Int) = _;omega)|(show tupSV _ = _;with_unfolding_all rfl)|((first|show (_:Nat) ≤ _|show (_:Nat) ≤ _ ∧ (_:Nat) ≤ _|show (_:Int) ≤ _ ∧ (_:Int) ≤ _ ∧ (_:Int) ≤ _ ∧ (_:Int) ≤ _);(simp <;> omega)))
  · rw [all_nil]; rfl
  · have := hb ‹_›; omega
  · have := hb ‹_›; omega
  · rw [all_esc s (hb ‹_›).2]
    show ((2 : Int) == 2 && ((3 : Int) == 3 && ([] : List UInt8) == [] && false == false && s == s && (0 : Int) == 0) && (0 : Int) == 0 && true) = true
    simp
end Go.Vc

namespace Go.Vc
open Go.Proofs
set_option maxRecDepth 100000
abbrev laidD : List (String × DataW Unit) := [("unicode/utf8.acceptRanges", YtejgjaplcjikoaaDoor.Rows.laid_unicode_utf8_acceptRanges), ("unicode/utf8.first", YtejgjaplcjikoaaDoor.Rows.laid_unicode_utf8_first)]
theorem acc_eq : (YtejgjaplcjikoaaDoor.Rows.laid_unicode_utf8_acceptRanges : DataW Unit) = Lib.acceptData := by kernel_rfl
theorem cellR_of (W : World) (b o : Nat) (v : Value) (h : W.cell? ⟨b, o, none⟩ = some v) : cellR (fun b => W.heap[b]?) b o = some v := by
  unfold cellR
  simp only [World.cell?] at h
  cases hb : W.heap[b]? with
  | none => rw [hb] at h; cases h
  | some x =>
    rw [hb] at h
    simp only [hb]
    cases x <;> first | exact h | (cases h)
theorem base_ok (W : World) (hL : laidMetH Tryd.prog laidD W) (hsh : W.ShapedOpen Tryd.prog) : BB.G fun b => W.heap[b]? := by
  have h3 := Lib.laidMet.reads hL (.tail _ (.head _))
  have h4 := Lib.laidMet.reads hL (.head _)
  have h3' : Lib.VarReads Tryd.prog W "unicode/utf8.first" Lib.firstData := by
    have e : (YtejgjaplcjikoaaDoor.Rows.laid_unicode_utf8_first : DataW Unit) = Lib.firstData := Pinned.utf8First_eq
    rw [← e]; exact h3
  have h4' : Lib.VarReads Tryd.prog W "unicode/utf8.acceptRanges" Lib.acceptData := by rw [← acc_eq]; exact h4
  have ht : Lib.Utf8Tabs 1 2 W := utf8Tabs_of_readsT (ρ := Tryd.lays260_ren) (U8Types.of260 Tryd.lays260) ⟨by kernel_rfl, by kernel_rfl, by kernel_rfl, by kernel_rfl, by kernel_rfl, by kernel_rfl, by kernel_rfl⟩ h3' h4'
  obtain ⟨m, hm⟩ := Tryd.laysM143.s1_3 W hsh
  exact ⟨fun c hc => cellR_of W _ _ _ (ht.1 c hc), fun i hi => ⟨cellR_of W _ _ _ (ht.2 i hi).1, cellR_of W _ _ _ (ht.2 i hi).2⟩, ⟨m, cellR_of W _ _ _ hm⟩⟩
end Go.Vc
