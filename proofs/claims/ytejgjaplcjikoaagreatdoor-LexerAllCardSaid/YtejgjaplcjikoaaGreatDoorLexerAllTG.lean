/- A part of the proof: lemmas and walks that the last text of the claim joins; no condition. -/
import Derived.Test.YtejgjaplcjikoaaGreatDoorLexerAllTF
import Derived.Lib.IndexLaws
import Derived.Test.YtejgjaplcjikoaaGreatDoorLexerAllTE
import Derived.Lib.LaidU8T
import Derived.PinnedBridge
import Derived.Test.YtejgjaplcjikoaaGreatDoorRows
set_option linter.unusedVariables false
set_option linter.unusedSimpArgs false
set_option maxHeartbeats 8000000
namespace Go.Vc
open Go.Proofs
set_option maxRecDepth 10000
set_option maxHeartbeats 8000000
abbrev cloB (s : List UInt8) : Bool := decide ((s.length : Int) > 1) && ((s.getD (Int.toNat 1) 0).toNat : Int) == 47
section
variable {s : List UInt8} {c : Bool} {n : Nat} {k : Int}
theorem r60 (s : List UInt8) : (((s.getD (Int.toNat 0) 0).toNat : Int) != 60) = !(s.getD 0 0 == 60) := by
  rw [bne, show (((s.getD (Int.toNat 0) 0).toNat : Int) == 60) = (s.getD 0 0 == 60) from b_iff _ 60]
theorem rOk (hk : k = n) (h : (decide ((s.length : Int) ≤ k) || ((s.getD (Int.toNat 0) 0).toNat : Int) != 60 || !alI ((s.getD k.toNat 0).toNat : Int)) = false) : ¬ (s = [] ∨ s.getD 0 0 ≠ 60 ∨ s.length ≤ n ∨ alB (s.getD n 0) = false) := by
  subst hk
  rw [r60, Bool.or_eq_false_iff, Bool.or_eq_false_iff, decide_eq_false_iff_not, Int.toNat_natCast, Bool.not_eq_false', Bool.not_eq_false', beq_iff_eq] at h
  rintro (q | q | q | q)
  · subst q; exact h.1.1 (by simp)
  · exact q h.1.2
  · exact h.1.1 (by omega)
  · unfold alB at q; rw [h.2] at q; cases q
theorem rZ (hk : k = n) (h : (decide ((s.length : Int) ≤ k) || ((s.getD (Int.toNat 0) 0).toNat : Int) != 60 || !alI ((s.getD k.toNat 0).toNat : Int)) = true) : tagAt s c n = (0, [], [], false, 0, false) := by
  subst hk
  rw [r60, Bool.or_eq_true, Bool.or_eq_true, decide_eq_true_eq, Int.toNat_natCast, Bool.not_eq_true', Bool.not_eq_true', beq_eq_false_iff_ne] at h
  unfold tagAt
  rw [if_pos]
  rcases h with (h | h) | h
  · exact .inr (.inr (.inl (by omega)))
  · exact .inr (.inl h)
  · exact .inr (.inr (.inr h))
theorem clo_iff (s : List UInt8) : cloB s = true ↔ 1 < s.length ∧ s.getD 1 0 = 47 := by
  unfold cloB
  rw [Bool.and_eq_true, decide_eq_true_eq, show (((s.getD (Int.toNat 1) 0).toNat : Int) == 47) = (s.getD 1 0 == 47) from b_iff _ 47, beq_iff_eq]
  constructor <;> (rintro ⟨a, b⟩; exact ⟨by omega, b⟩)
theorem beg47 (s : List UInt8) : begP s [60, 47] = true ↔ 1 < s.length ∧ s.getD 0 0 = 60 ∧ s.getD 1 0 = 47 := by
  unfold begP
  rw [Bool.and_eq_true, decide_eq_true_eq, beq_iff_eq]
  match s with
  | [] => simp
  | [a] => simp
  | a :: b :: r => simp; intros; omega
theorem rP1 (h : cloB s = true) : tagP s = tagAt s true 2 := by
  obtain ⟨h1, h2⟩ := (clo_iff s).1 h
  unfold tagP
  by_cases h0 : s.getD 0 0 = 60
  · rw [if_pos ((beg47 s).2 ⟨h1, h0, h2⟩)]
  · rw [if_neg (fun q => h0 ((beg47 s).1 q).2.1)]
    unfold tagAt; rw [if_pos (.inr (.inl h0)), if_pos (.inr (.inl h0))]
theorem rP0 (h : cloB s = false) : tagP s = tagAt s false 1 := by
  have h' : ¬ (1 < s.length ∧ s.getD 1 0 = 47) := fun q => by rw [(clo_iff s).2 q] at h; cases h
  unfold tagP
  rw [if_neg (fun q => h' ⟨((beg47 s).1 q).1, ((beg47 s).1 q).2.2⟩)]
theorem rV (hk : k = n) (h : (decide ((s.length : Int) ≤ k) || ((s.getD (Int.toNat 0) 0).toNat : Int) != 60 || !alI ((s.getD k.toNat 0).toNat : Int)) = false) : tagAt s c n = if (rnG s n).1 = false then (0, [], [], false, (s.length : Int), false) else if c = true then (2, nmG s n, [], false, ((rnG s n).2.1 : Int), true) else (1, nmG s n, (rnG s n).2.2.1, (rnG s n).2.2.2.1, ((rnG s n).2.1 : Int), true) := by
  have := rOk hk h
  unfold tagAt; rw [if_neg this]
theorem st2_eq (c : UInt8) : ((c.toNat : Int) != 47 && (c.toNat : Int) != 62 && !W.isSp (c.toNat : Int)) = stP [47, 62] c := by
  rw [bne, bne, show ((c.toNat : Int) == 47) = (c == 47) from b_iff _ 47, show ((c.toNat : Int) == 62) = (c == 62) from b_iff _ 62]
  unfold stP blB
  have hc : ([47, 62] : List UInt8).contains c = (c == 47 || c == 62) := by rw [List.contains_cons, List.contains_cons]; simp only [List.contains_nil, Bool.or_false]
  rw [hc]
  cases c == 47 <;> cases c == 62 <;> cases W.isSp (c.toNat : Int) <;> rfl
end
theorem c62_iff (c : UInt8) : ((c.toNat : Int) == 62) = (c == 62) := b_iff c 62
theorem c47_iff (c : UInt8) : ((c.toNat : Int) == 47) = (c == 47) := b_iff c 47
section
variable {s : List UInt8} {f i : Nat} {l : List AttrD} {x : List UInt8}
abbrev c2B (s : List UInt8) (j : Nat) : Bool := ((s.getD j 0).toNat : Int) == 62 || ((s.getD j 0).toNat : Int) == 47 && decide ((j : Int) + 1 < (s.length : Int)) && ((s.getD (j + 1) 0).toNat : Int) == 62
theorem is62 {j : Nat} (hl : j < s.length) : cIs s j 62 = (s.getD j 0 == 62) := by unfold cIs; rw [decide_eq_true (show (j : Int) < (s.length : Int) by omega), Bool.true_and]; exact b_iff _ 62
theorem is47 {j : Nat} (hl : j < s.length) : cIs s j 47 = (s.getD j 0 == 47) := by unfold cIs; rw [decide_eq_true (show (j : Int) < (s.length : Int) by omega), Bool.true_and]; exact b_iff _ 47
theorem is62' (j : Nat) : (decide ((j : Int) + 1 < (s.length : Int)) && ((s.getD (j + 1) 0).toNat : Int) == 62) = cIs s (j + 1) 62 := by unfold cIs; rfl
theorem u2 (h1 : cOv s (upTo blB s i) = false) (h2 : c2B s (upTo blB s i) = true) (h3 : (((s.getD (upTo blB s i) 0).toNat : Int) == 47) = true) : runT s (f + 1) i l x = (true, upTo blB s i + 2, l, true, x) := by
  have hl := (cOv_not _ _).1 h1
  rw [c47_iff, beq_iff_eq] at h3
  have a : cIs s (upTo blB s i) 62 = false := by rw [is62 hl, h3]; decide
  have b : cIs s (upTo blB s i) 47 = true := by rw [is47 hl, h3]; decide
  unfold c2B at h2
  rw [Bool.and_assoc, is62', c62_iff, c47_iff, h3] at h2
  refine st3 h1 a b (by simpa using h2)
theorem u3 (h1 : cOv s (upTo blB s i) = false) (h2 : c2B s (upTo blB s i) = true) (h3 : (((s.getD (upTo blB s i) 0).toNat : Int) == 47) = false) : runT s (f + 1) i l x = (true, upTo blB s i + 1, l, false, x) := by
  have hl := (cOv_not _ _).1 h1
  unfold c2B at h2
  rw [h3, Bool.false_and, Bool.false_and, Bool.or_false, c62_iff] at h2
  exact st2 h1 (by rw [is62 hl]; exact h2)
theorem u4 (h1 : cOv s (upTo blB s i) = false) (h2 : c2B s (upTo blB s i) = false) (h3 : (((s.getD (upTo blB s i) 0).toNat : Int) == 47) = true) : runT s (f + 1) i l x = runT s f (upTo blB s i + 1) l x := by
  have hl := (cOv_not _ _).1 h1
  unfold c2B at h2
  rw [Bool.and_assoc, is62', h3, Bool.or_eq_false_iff, Bool.true_and, c62_iff] at h2
  exact st4 h1 (by rw [is62 hl]; exact h2.1) (by rw [is47 hl, ← c47_iff]; exact h3) h2.2
theorem atC (s : List UInt8) (i : Nat) : (decide ((jA s (upTo blB s i) : Int) ≥ (s.length : Int)) || ((s.getD (jA s (upTo blB s i)) 0).toNat : Int) != 61) = !cIs s (iJ s i) 61 := by
  show (decide ((iJ s i : Int) ≥ (s.length : Int)) || ((s.getD (iJ s i) 0).toNat : Int) != 61) = _
  unfold cIs
  by_cases h : iJ s i < s.length
  · rw [decide_eq_true (show (iJ s i : Int) < (s.length : Int) by omega), decide_eq_false (show ¬ (iJ s i : Int) ≥ (s.length : Int) by omega)]; rfl
  · rw [decide_eq_false (show ¬ (iJ s i : Int) < (s.length : Int) by omega), decide_eq_true (show (iJ s i : Int) ≥ (s.length : Int) by omega)]; rfl
theorem u5 (h1 : cOv s (upTo blB s i) = false) (h2 : c2B s (upTo blB s i) = false) (h3 : (((s.getD (upTo blB s i) 0).toNat : Int) == 47) = false) (h5 : (!(attrR s (upTo blB s i)).2.2.2) = true) : (runT s (f + 1) i l x).1 = false := by
  have hl := (cOv_not _ _).1 h1
  unfold c2B at h2
  rw [h3, Bool.false_and, Bool.false_and, Bool.or_false, c62_iff] at h2
  have a : cIs s (upTo blB s i) 62 = false := by rw [is62 hl]; exact h2
  have b : cIs s (upTo blB s i) 47 = false := by rw [is47 hl, ← c47_iff]; exact h3
  unfold attrR at h5
  rw [atC] at h5
  cases h6 : (!cIs s (iJ s i) 61) with
  | true => rw [h6] at h5; exact absurd h5 (by simp)
  | false =>
    rw [h6, if_neg (by decide)] at h5
    have h5' : (valR s (iV s i)).2.2 = false := by have h := h5; rw [Bool.not_eq_true'] at h; exact h
    cases h7 : cOv s (iV s i) with
    | true => rw [st6 h1 a b h6 h7]
    | false =>
      have := (cOv_not _ _).1 h7
      unfold valR at h5'
      rw [if_neg (by omega)] at h5'
      rw [st7 h1 a b h6 h7 (by rw [h5']; rfl)]
theorem u6 (h1 : cOv s (upTo blB s i) = false) (h2 : c2B s (upTo blB s i) = false) (h3 : (((s.getD (upTo blB s i) 0).toNat : Int) == 47) = false) (h5 : (!(attrR s (upTo blB s i)).2.2.2) = false) : runT s (f + 1) i l x = runT s f (attrR s (upTo blB s i)).2.2.1 (addL l ((attrR s (upTo blB s i)).1, (attrR s (upTo blB s i)).2.1)) (nmT s i) := by
  have hl := (cOv_not _ _).1 h1
  unfold c2B at h2
  rw [h3, Bool.false_and, Bool.false_and, Bool.or_false, c62_iff] at h2
  have a : cIs s (upTo blB s i) 62 = false := by rw [is62 hl]; exact h2
  have b : cIs s (upTo blB s i) 47 = false := by rw [is47 hl, ← c47_iff]; exact h3
  unfold attrR at h5 ⊢
  rw [atC] at h5 ⊢
  cases h6 : (!cIs s (iJ s i) 61) with
  | true => rw [if_pos rfl, st5 h1 a b h6]; rfl
  | false =>
    rw [h6, if_neg (by decide)] at h5
    have h5' : (valR s (iV s i)).2.2 = true := by have h := h5; rw [Bool.not_eq_false'] at h; exact h
    rw [if_neg (by decide)]
    cases h7 : cOv s (iV s i) with
    | true =>
      have := (cOv_iff _ _).1 h7
      unfold valR at h5'
      rw [if_pos this] at h5'; cases h5'
    | false =>
      have hlt := (cOv_not _ _).1 h7
      have e : valR s (iV s i) = valS s (iV s i) := by unfold valR; rw [if_neg (by omega)]
      rw [e] at h5'
      rw [st8 h1 a b h6 h7 (by rw [h5']; rfl)]
      show runT s f (valS s (iV s i)).2.1 _ _ = runT s f (valR s (iV s i)).2.1 (addL l (nmT s i, decF (valR s (iV s i)).1 true)) (nmT s i)
      rw [e]
theorem attrR_le (s : List UInt8) (i : Nat) (h : i < s.length) : i < (attrR s i).2.2.1 ∧ (attrR s i).2.2.1 ≤ s.length := by
  have hJ := upTo_le (stP [47, 62, 61]) s (i + 1) (by omega)
  have hJ2 : upTo (stP [47, 62, 61]) s (i + 1) ≤ jA s i ∧ jA s i ≤ s.length := upTo_le blB s _ hJ.2
  unfold attrR
  split
  · simp only; omega
  · rename_i h6
    have h6 : (decide ((jA s i : Int) ≥ (s.length : Int)) || ((s.getD (jA s i) 0).toNat : Int) != 61) = false := by simpa only [Bool.not_eq_true] using h6
    rw [Bool.or_eq_false_iff] at h6
    have := of_decide_eq_false h6.1
    have hK : jA s i + 1 ≤ upTo blB s (jA s i + 1) ∧ upTo blB s (jA s i + 1) ≤ s.length := upTo_le blB s (jA s i + 1) (by omega)
    have hV := valR_le s (upTo blB s (jA s i + 1)) hK.2
    have hV2 : upTo blB s (jA s i + 1) ≤ (valR s (upTo blB s (jA s i + 1))).2.1 := by
      unfold valR; split
      · exact Nat.le_refl _
      · exact (valS_le s _ (by omega)).1
    simp only; omega
end
instance gRead (s : List UInt8) : FnM BB 34 [.str s] [] (s.length ≤ 50000) (.tup [.agg [.int .i64 (tagP s).1, .str (tagP s).2.1, .own 0, .bool (tagP s).2.2.2.1, .str []], .int .i64 (tagP s).2.2.2.2.1, .bool (tagP s).2.2.2.2.2]) [(0, .own attrTy (tagP s).2.2.1)] := by
  refine FnM.intro (N := 151) [0, 2, 3, 4, 5, 6, 7, 8, 9, 10, 19, 36, 61, 76, 103, 117, 122, 130, 141] [] 0 Tryz.call34 Tryz.func34 rfl rfl (by kernel_rfl) (fun hpre => ?_)
  have n2 : (2 : Int).toNat = 2 := rfl
  have n1 : (1 : Int).toNat = 1 := rfl
  have l0 : ∀ k : Int, (decide ((s.length : Int) ≤ k) || ((s.getD (Int.toNat 0) 0).toNat : Int) != 60) = false → ¬ (s.length : Int) ≤ k := fun k h => by rw [Bool.or_eq_false_iff] at h; exact of_decide_eq_false h.1
  have l1 : ∀ k : Int, (decide ((s.length : Int) ≤ k) || ((s.getD (Int.toNat 0) 0).toNat : Int) != 60 || !alI ((s.getD k.toNat 0).toNat : Int)) = false → ¬ (s.length : Int) ≤ k := fun k h => by rw [Bool.or_eq_false_iff, Bool.or_eq_false_iff] at h; exact of_decide_eq_false h.1.1
  repeat' ((conv => whnf);first|(with_reducible first|rfl|exact absTF|exact absFT)|exact True.intro|intro _|refine And.intro ?_ ?_|refine Fin.mk ?_|refine W1 rfl ?_ ?_|refine W2 rfl ?_ ?_|refine W3 rfl ?_ ?_|refine W4 ?_ ?_|refine W5 rfl ?_ ?_|refine W6 ?_ ?_|refine AppN.mk ?_|refine X1 (W1 rfl ?_ ?_)|refine X1 (W2 rfl ?_ ?_)|refine X2 (W7 rfl ?_ ?_)|refine X3 (W7 rfl ?_ ?_)|refine X4 (W7 rfl ?_ ?_)|refine X5 (W7 rfl ?_ ?_))
  all_goals (try (conv => whnf))
  all_goals (try first|exact Ob.mk (u8_bnd _)|(refine Ob.mk ?_;first|exact True.intro|assumption|omega|(try simp only [ZA,ZB,ZC,ZD,ZE,ZF,ZG,ZH,ZI,ZJ,ZK,ZL,ZM,ZN,ZO,Int.toNat_natCast,UInt8.ofNat_toNat,cast_eq] at *;omega)))
  all_goals (try first|(show (_:Int) = _;omega)|(show tupSV _ = _;with_unfolding_all rfl)|((first|show (_:Nat) ≤ _|show (_:Nat) ≤ _ ∧ (_:Nat) ≤ _|show (_:Int) ≤ _ ∧ (_:Int) ≤ _ ∧ (_:Int) ≤ _ ∧ (_:Int) ≤ _);(simp <;> omega)))
  all_goals (try (have q := (rP1 ‹cloB s = true›).trans (rZ (k := 2) rfl ‹_›); first | (rw [q]; done) | (rw [q]; rfl)))
  all_goals (try (have q := (rP0 ‹cloB s = false›).trans (rZ (k := 1) rfl ‹_›); first | (rw [q]; done) | (rw [q]; rfl)))
  all_goals (try (have b := l0 2 ‹_›))
  all_goals (try (have b := l0 1 ‹_›))
  all_goals (try (have b := l1 2 ‹_›))
  all_goals (try (have b := l1 1 ‹_›))
  all_goals (try (exact ⟨by omega, by omega⟩))
  · have hT := (rP1 ‹_›).trans (rV (c := true) (k := 2) rfl ‹_›)
    generalize tagP s = T at *
    have nm : nmG s 2 = lowL ((s.take (upTo (stP [47, 62]) s 2)).drop 2) := rfl
    have hJ := upTo_le (stP [47, 62]) s 2 (by omega)
    refine LoopStop.mk (α := Nat) (fun j => [(6, .int .i64 j)]) (fun j => []) 40 (fun j => 2 ≤ j ∧ j ≤ s.length ∧ upTo (stP [47, 62]) s j = upTo (stP [47, 62]) s 2) (fun j => s.length - j) 2 ⟨by omega, by omega, rfl⟩ ?_ (fun j hj => ?_)
    · repeat' ((conv => whnf);first|(with_reducible first|rfl|exact absTF|exact absFT)|exact True.intro|intro _|refine And.intro ?_ ?_|refine Fin.mk ?_|refine W1 rfl ?_ ?_|refine W2 rfl ?_ ?_|refine W3 rfl ?_ ?_|refine W4 ?_ ?_|refine W5 rfl ?_ ?_|refine W6 ?_ ?_|refine AppN.mk ?_|refine X1 (W1 rfl ?_ ?_)|refine X1 (W2 rfl ?_ ?_)|refine X2 (W7 rfl ?_ ?_)|refine X3 (W7 rfl ?_ ?_)|refine X4 (W7 rfl ?_ ?_)|refine X5 (W7 rfl ?_ ?_))
      all_goals (try (conv => whnf))
      all_goals (try first|exact Ob.mk (u8_bnd _)|(refine Ob.mk ?_;first|exact True.intro|assumption|omega|(try simp only [ZA,ZB,ZC,ZD,ZE,ZF,ZG,ZH,ZI,ZJ,ZK,ZL,ZM,ZN,ZO,Int.toNat_natCast,UInt8.ofNat_toNat,cast_eq] at *;omega)))
      all_goals (try first|(show (_:Int) = _;omega)|(show tupSV _ = _;with_unfolding_all rfl)|((first|show (_:Nat) ≤ _|show (_:Nat) ≤ _ ∧ (_:Nat) ≤ _|show (_:Int) ≤ _ ∧ (_:Int) ≤ _ ∧ (_:Int) ≤ _ ∧ (_:Int) ≤ _);(simp <;> omega)))
      all_goals rfl
    · obtain ⟨q0, q1, q2⟩ := hj
      have cc : (decide ((j : Int) < (s.length : Int)) && ((s.getD ((j : Int)).toNat 0).toNat : Int) != 47 && ((s.getD ((j : Int)).toNat 0).toNat : Int) != 62 && !W.isSp ((s.getD ((j : Int)).toNat 0).toNat : Int)) = (decide (j < s.length) && stP [47, 62] (s.getD j 0)) := by
        rw [Int.toNat_natCast, dlt, ← st2_eq]
        cases decide (j < s.length) <;> simp
      repeat' ((conv => whnf);first|(with_reducible first|rfl|exact absTF|exact absFT)|exact True.intro|intro _|refine And.intro ?_ ?_|refine Fin.mk ?_|refine W1 rfl ?_ ?_|refine W2 rfl ?_ ?_|refine W3 rfl ?_ ?_|refine W4 ?_ ?_|refine W5 rfl ?_ ?_|refine W6 ?_ ?_|refine AppN.mk ?_|refine X1 (W1 rfl ?_ ?_)|refine X1 (W2 rfl ?_ ?_)|refine X2 (W7 rfl ?_ ?_)|refine X3 (W7 rfl ?_ ?_)|refine X4 (W7 rfl ?_ ?_)|refine X5 (W7 rfl ?_ ?_))
      all_goals (try (conv => whnf))
      all_goals (try first|exact Ob.mk (u8_bnd _)|(refine Ob.mk ?_;first|exact True.intro|assumption|omega|(try simp only [ZA,ZB,ZC,ZD,ZE,ZF,ZG,ZH,ZI,ZJ,ZK,ZL,ZM,ZN,ZO,Int.toNat_natCast,UInt8.ofNat_toNat,cast_eq] at *;omega)))
      all_goals (try first|(show (_:Int) = _;omega)|(show tupSV _ = _;with_unfolding_all rfl)|((first|show (_:Nat) ≤ _|show (_:Nat) ≤ _ ∧ (_:Nat) ≤ _|show (_:Int) ≤ _ ∧ (_:Int) ≤ _ ∧ (_:Int) ≤ _ ∧ (_:Int) ≤ _);(simp <;> omega)))
      all_goals (try simp only [cc] at *)
      all_goals (try simp only [Int.toNat_natCast, n1, n2] at *)
      · obtain ⟨h1, h2⟩ := (loop_up q2 true ‹_› q1).1 rfl
        refine Rnd.mk ⟨j + 1, ⟨by omega, by omega, h2⟩, by omega, ?_⟩
        repeat' ((conv => whnf);first|(with_reducible first|rfl|exact absTF|exact absFT)|exact True.intro|intro _|refine And.intro ?_ ?_|refine Fin.mk ?_|refine W1 rfl ?_ ?_|refine W2 rfl ?_ ?_|refine W3 rfl ?_ ?_|refine W4 ?_ ?_|refine W5 rfl ?_ ?_|refine W6 ?_ ?_|refine AppN.mk ?_|refine X1 (W1 rfl ?_ ?_)|refine X1 (W2 rfl ?_ ?_)|refine X2 (W7 rfl ?_ ?_)|refine X3 (W7 rfl ?_ ?_)|refine X4 (W7 rfl ?_ ?_)|refine X5 (W7 rfl ?_ ?_))
        all_goals (try (conv => whnf))
        all_goals (try first|exact Ob.mk (u8_bnd _)|(refine Ob.mk ?_;first|exact True.intro|assumption|omega|(try simp only [ZA,ZB,ZC,ZD,ZE,ZF,ZG,ZH,ZI,ZJ,ZK,ZL,ZM,ZN,ZO,Int.toNat_natCast,UInt8.ofNat_toNat,cast_eq] at *;omega)))
        all_goals (try first|(show (_:Int) = _;omega)|(show tupSV _ = _;with_unfolding_all rfl)|((first|show (_:Nat) ≤ _|show (_:Nat) ≤ _ ∧ (_:Nat) ≤ _|show (_:Int) ≤ _ ∧ (_:Int) ≤ _ ∧ (_:Int) ≤ _ ∧ (_:Int) ≤ _);(simp <;> omega)))
        all_goals rfl
      all_goals (have hj := (loop_up q2 false ‹_› q1).2 rfl)
      all_goals (subst hj)
      · rw [← nm]
        have hG : rnG s 2 = runT s (s.length + 1) (upTo (stP [47, 62]) s 2) [] [] := rfl
        generalize rnG s 2 = R at *
        refine LoopStop.mk (α := Nat × Nat × List AttrD × List UInt8) (fun a => [(6, .int .i64 (a.2.1 : Nat))]) (fun a => [(1, .box [.int .i64 2, .str (nmG s 2), .own 2, .bool false, .str []]), (2, .own attrTy a.2.2.1)]) 60
          (fun a => a.2.1 ≤ s.length ∧ a.2.2.1.length ≤ a.2.1 ∧ s.length - a.2.1 < a.1 ∧ runT s a.1 a.2.1 a.2.2.1 a.2.2.2 = R) (fun a => a.1) (s.length + 1, upTo (stP [47, 62]) s 2, [], []) ⟨by simp only; omega, by simp, by simp only; omega, hG.symm⟩ ?_ (fun a ha => ?_)
        · repeat' ((conv => whnf);first|(with_reducible first|rfl|exact absTF|exact absFT)|exact True.intro|intro _|refine And.intro ?_ ?_|refine Fin.mk ?_|refine W1 rfl ?_ ?_|refine W2 rfl ?_ ?_|refine W3 rfl ?_ ?_|refine W4 ?_ ?_|refine W5 rfl ?_ ?_|refine W6 ?_ ?_|refine AppN.mk ?_|refine X1 (W1 rfl ?_ ?_)|refine X1 (W2 rfl ?_ ?_)|refine X2 (W7 rfl ?_ ?_)|refine X3 (W7 rfl ?_ ?_)|refine X4 (W7 rfl ?_ ?_)|refine X5 (W7 rfl ?_ ?_))
          all_goals (try (conv => whnf))
          all_goals (try first|exact Ob.mk (u8_bnd _)|(refine Ob.mk ?_;first|exact True.intro|assumption|omega|(try simp only [ZA,ZB,ZC,ZD,ZE,ZF,ZG,ZH,ZI,ZJ,ZK,ZL,ZM,ZN,ZO,Int.toNat_natCast,UInt8.ofNat_toNat,cast_eq] at *;omega)))
          all_goals (try first|(show (_:Int) = _;omega)|(show tupSV _ = _;with_unfolding_all rfl)|((first|show (_:Nat) ≤ _|show (_:Nat) ≤ _ ∧ (_:Nat) ≤ _|show (_:Int) ≤ _ ∧ (_:Int) ≤ _ ∧ (_:Int) ≤ _ ∧ (_:Int) ≤ _);(simp <;> omega)))
          all_goals trace_state
        · obtain ⟨f, i, l, x⟩ := a
          obtain ⟨p1, p3, p4, hR⟩ := ha
          dsimp only at p1 p3 p4 hR
          obtain ⟨f', rfl⟩ : ∃ f', f = f' + 1 := ⟨f - 1, by omega⟩
          have hI := upTo_le blB s i p1
          have tn1 : ∀ n : Nat, ((n : Int) + 1).toNat = n + 1 := fun n => by omega
          have w1 : cOv s (upTo blB s i) = true → T = (0, [], [], false, (s.length : Int), false) := fun h => by rw [hT, ← hR, st1 h]; rfl
          have w5 : cOv s (upTo blB s i) = false → c2B s (upTo blB s i) = false → (((s.getD (upTo blB s i) 0).toNat : Int) == 47) = false → (!(attrR s (upTo blB s i)).2.2.2) = true → T = (0, [], [], false, (s.length : Int), false) := fun a b c d => by rw [hT, ← hR, if_pos (u5 a b c d)]
          have w2 : cOv s (upTo blB s i) = false → c2B s (upTo blB s i) = true → (((s.getD (upTo blB s i) 0).toNat : Int) == 47) = true → T = (2, nmG s 2, [], false, ((upTo blB s i + 2 : Nat) : Int), true) := fun a b c => by rw [hT, ← hR, u2 a b c]; rfl
          have w3 : cOv s (upTo blB s i) = false → c2B s (upTo blB s i) = true → (((s.getD (upTo blB s i) 0).toNat : Int) == 47) = false → T = (2, nmG s 2, [], false, ((upTo blB s i + 1 : Nat) : Int), true) := fun a b c => by rw [hT, ← hR, u3 a b c]; rfl
          repeat' ((conv => whnf);first|(with_reducible first|rfl|exact absTF|exact absFT)|exact True.intro|intro _|refine And.intro ?_ ?_|refine Fin.mk ?_|refine W1 rfl ?_ ?_|refine W2 rfl ?_ ?_|refine W3 rfl ?_ ?_|refine W4 ?_ ?_|refine W5 rfl ?_ ?_|refine W6 ?_ ?_|refine AppN.mk ?_|refine X1 (W1 rfl ?_ ?_)|refine X1 (W2 rfl ?_ ?_)|refine X2 (W7 rfl ?_ ?_)|refine X3 (W7 rfl ?_ ?_)|refine X4 (W7 rfl ?_ ?_)|refine X5 (W7 rfl ?_ ?_))
          all_goals (try (conv => whnf))
          all_goals (try first|exact Ob.mk (u8_bnd _)|(refine Ob.mk ?_;first|exact True.intro|assumption|omega|(try simp only [ZA,ZB,ZC,ZD,ZE,ZF,ZG,ZH,ZI,ZJ,ZK,ZL,ZM,ZN,ZO,Int.toNat_natCast,UInt8.ofNat_toNat,cast_eq] at *;omega)))
          all_goals (try first|(show (_:Int) = _;omega)|(show tupSV _ = _;with_unfolding_all rfl)|((first|show (_:Nat) ≤ _|show (_:Nat) ≤ _ ∧ (_:Nat) ≤ _|show (_:Int) ≤ _ ∧ (_:Int) ≤ _ ∧ (_:Int) ≤ _ ∧ (_:Int) ≤ _);(simp <;> omega)))
          all_goals (try simp only [Int.toNat_natCast, tn1] at *)
          all_goals (try (have q := w1 ‹_›; first | (rw [q]; done) | (rw [q]; rfl)))
          all_goals (try (have hl : upTo blB s i < s.length := (cOv_not s (upTo blB s i)).1 ‹_›; have hN := attrR_le s (upTo blB s i) hl))
          all_goals (try (have q := w5 ‹_› ‹_› ‹_› ‹_›; first | (rw [q]; done) | (rw [q]; rfl)))
          all_goals (try (exfalso; exact absurd ‹((2 : Int) == 2) = false› (by decide)))
          all_goals (try (exfalso; exact absurd ‹((1 : Int) == 2) = true› (by decide)))
          all_goals (try (have q := w2 ‹_› ‹_› ‹_›; first | (rw [q]; done) | (rw [q]; rfl) | (rw [q, ‹(((s.getD (upTo blB s i) 0).toNat : Int) == 47) = true›]; rfl) | (rw [q]; simp only; omega)))
          all_goals (try (have q := w3 ‹_› ‹_› ‹_›; first | (rw [q]; done) | (rw [q]; rfl) | (rw [q, ‹(((s.getD (upTo blB s i) 0).toNat : Int) == 47) = false›]; rfl) | (rw [q]; simp only; omega)))
          all_goals (first | omega | exact ⟨by omega, by omega⟩ | exact ⟨by omega, by omega, by omega⟩ | skip)
          · have q := hR.symm.trans (u4 (f := f') (l := l) (x := x) ‹_› ‹_› ‹_›)
            refine Rnd.mk ⟨(f', upTo blB s i + 1, l, x), ⟨by simp only; omega, by simp only; omega, by simp only; omega, q.symm⟩, by simp only; omega, ?_⟩
            repeat' ((conv => whnf);first|(with_reducible first|rfl|exact absTF|exact absFT)|exact True.intro|intro _|refine And.intro ?_ ?_|refine Fin.mk ?_|refine W1 rfl ?_ ?_|refine W2 rfl ?_ ?_|refine W3 rfl ?_ ?_|refine W4 ?_ ?_|refine W5 rfl ?_ ?_|refine W6 ?_ ?_|refine AppN.mk ?_|refine X1 (W1 rfl ?_ ?_)|refine X1 (W2 rfl ?_ ?_)|refine X2 (W7 rfl ?_ ?_)|refine X3 (W7 rfl ?_ ?_)|refine X4 (W7 rfl ?_ ?_)|refine X5 (W7 rfl ?_ ?_))
            all_goals (try (conv => whnf))
            all_goals (try first|exact Ob.mk (u8_bnd _)|(refine Ob.mk ?_;first|exact True.intro|assumption|omega|(try simp only [ZA,ZB,ZC,ZD,ZE,ZF,ZG,ZH,ZI,ZJ,ZK,ZL,ZM,ZN,ZO,Int.toNat_natCast,UInt8.ofNat_toNat,cast_eq] at *;omega)))
            all_goals (try first|(show (_:Int) = _;omega)|(show tupSV _ = _;with_unfolding_all rfl)|((first|show (_:Nat) ≤ _|show (_:Nat) ≤ _ ∧ (_:Nat) ≤ _|show (_:Int) ≤ _ ∧ (_:Int) ≤ _ ∧ (_:Int) ≤ _ ∧ (_:Int) ≤ _);(simp <;> omega)))
            all_goals (first | rfl | omega | trace_state)
          · have q := hR.symm.trans (u6 (f := f') (l := l) (x := x) ‹_› ‹_› ‹_› ‹_›)
            have hA := addL_len l ((attrR s (upTo blB s i)).1, (attrR s (upTo blB s i)).2.1)
            refine Rnd.mk ⟨(f', (attrR s (upTo blB s i)).2.2.1, addL l ((attrR s (upTo blB s i)).1, (attrR s (upTo blB s i)).2.1), nmT s i), ⟨by simp only; omega, by simp only; omega, by simp only; omega, q.symm⟩, by simp only; omega, ?_⟩
            repeat' ((conv => whnf);first|(with_reducible first|rfl|exact absTF|exact absFT)|exact True.intro|intro _|refine And.intro ?_ ?_|refine Fin.mk ?_|refine W1 rfl ?_ ?_|refine W2 rfl ?_ ?_|refine W3 rfl ?_ ?_|refine W4 ?_ ?_|refine W5 rfl ?_ ?_|refine W6 ?_ ?_|refine AppN.mk ?_|refine X1 (W1 rfl ?_ ?_)|refine X1 (W2 rfl ?_ ?_)|refine X2 (W7 rfl ?_ ?_)|refine X3 (W7 rfl ?_ ?_)|refine X4 (W7 rfl ?_ ?_)|refine X5 (W7 rfl ?_ ?_))
            all_goals (try (conv => whnf))
            all_goals (try first|exact Ob.mk (u8_bnd _)|(refine Ob.mk ?_;first|exact True.intro|assumption|omega|(try simp only [ZA,ZB,ZC,ZD,ZE,ZF,ZG,ZH,ZI,ZJ,ZK,ZL,ZM,ZN,ZO,Int.toNat_natCast,UInt8.ofNat_toNat,cast_eq] at *;omega)))
            all_goals (try first|(show (_:Int) = _;omega)|(show tupSV _ = _;with_unfolding_all rfl)|((first|show (_:Nat) ≤ _|show (_:Nat) ≤ _ ∧ (_:Nat) ≤ _|show (_:Int) ≤ _ ∧ (_:Int) ≤ _ ∧ (_:Int) ≤ _ ∧ (_:Int) ≤ _);(simp <;> omega)))
            all_goals (first | rfl | omega | trace_state)
  · have hT := (rP0 ‹_›).trans (rV (c := false) (k := 1) rfl ‹_›)
    generalize tagP s = T at *
    have nm : nmG s 1 = lowL ((s.take (upTo (stP [47, 62]) s 1)).drop 1) := rfl
    have hJ := upTo_le (stP [47, 62]) s 1 (by omega)
    refine LoopStop.mk (α := Nat) (fun j => [(6, .int .i64 j)]) (fun j => []) 40 (fun j => 1 ≤ j ∧ j ≤ s.length ∧ upTo (stP [47, 62]) s j = upTo (stP [47, 62]) s 1) (fun j => s.length - j) 1 ⟨by omega, by omega, rfl⟩ ?_ (fun j hj => ?_)
    · repeat' ((conv => whnf);first|(with_reducible first|rfl|exact absTF|exact absFT)|exact True.intro|intro _|refine And.intro ?_ ?_|refine Fin.mk ?_|refine W1 rfl ?_ ?_|refine W2 rfl ?_ ?_|refine W3 rfl ?_ ?_|refine W4 ?_ ?_|refine W5 rfl ?_ ?_|refine W6 ?_ ?_|refine AppN.mk ?_|refine X1 (W1 rfl ?_ ?_)|refine X1 (W2 rfl ?_ ?_)|refine X2 (W7 rfl ?_ ?_)|refine X3 (W7 rfl ?_ ?_)|refine X4 (W7 rfl ?_ ?_)|refine X5 (W7 rfl ?_ ?_))
      all_goals (try (conv => whnf))
      all_goals (try first|exact Ob.mk (u8_bnd _)|(refine Ob.mk ?_;first|exact True.intro|assumption|omega|(try simp only [ZA,ZB,ZC,ZD,ZE,ZF,ZG,ZH,ZI,ZJ,ZK,ZL,ZM,ZN,ZO,Int.toNat_natCast,UInt8.ofNat_toNat,cast_eq] at *;omega)))
      all_goals (try first|(show (_:Int) = _;omega)|(show tupSV _ = _;with_unfolding_all rfl)|((first|show (_:Nat) ≤ _|show (_:Nat) ≤ _ ∧ (_:Nat) ≤ _|show (_:Int) ≤ _ ∧ (_:Int) ≤ _ ∧ (_:Int) ≤ _ ∧ (_:Int) ≤ _);(simp <;> omega)))
      all_goals rfl
    · obtain ⟨q0, q1, q2⟩ := hj
      have cc : (decide ((j : Int) < (s.length : Int)) && ((s.getD ((j : Int)).toNat 0).toNat : Int) != 47 && ((s.getD ((j : Int)).toNat 0).toNat : Int) != 62 && !W.isSp ((s.getD ((j : Int)).toNat 0).toNat : Int)) = (decide (j < s.length) && stP [47, 62] (s.getD j 0)) := by
        rw [Int.toNat_natCast, dlt, ← st2_eq]
        cases decide (j < s.length) <;> simp
      repeat' ((conv => whnf);first|(with_reducible first|rfl|exact absTF|exact absFT)|exact True.intro|intro _|refine And.intro ?_ ?_|refine Fin.mk ?_|refine W1 rfl ?_ ?_|refine W2 rfl ?_ ?_|refine W3 rfl ?_ ?_|refine W4 ?_ ?_|refine W5 rfl ?_ ?_|refine W6 ?_ ?_|refine AppN.mk ?_|refine X1 (W1 rfl ?_ ?_)|refine X1 (W2 rfl ?_ ?_)|refine X2 (W7 rfl ?_ ?_)|refine X3 (W7 rfl ?_ ?_)|refine X4 (W7 rfl ?_ ?_)|refine X5 (W7 rfl ?_ ?_))
      all_goals (try (conv => whnf))
      all_goals (try first|exact Ob.mk (u8_bnd _)|(refine Ob.mk ?_;first|exact True.intro|assumption|omega|(try simp only [ZA,ZB,ZC,ZD,ZE,ZF,ZG,ZH,ZI,ZJ,ZK,ZL,ZM,ZN,ZO,Int.toNat_natCast,UInt8.ofNat_toNat,cast_eq] at *;omega)))
      all_goals (try first|(show (_:Int) = _;omega)|(show tupSV _ = _;with_unfolding_all rfl)|((first|show (_:Nat) ≤ _|show (_:Nat) ≤ _ ∧ (_:Nat) ≤ _|show (_:Int) ≤ _ ∧ (_:Int) ≤ _ ∧ (_:Int) ≤ _ ∧ (_:Int) ≤ _);(simp <;> omega)))
      all_goals (try simp only [cc] at *)
      all_goals (try simp only [Int.toNat_natCast, n1, n2] at *)
      · obtain ⟨h1, h2⟩ := (loop_up q2 true ‹_› q1).1 rfl
        refine Rnd.mk ⟨j + 1, ⟨by omega, by omega, h2⟩, by omega, ?_⟩
        repeat' ((conv => whnf);first|(with_reducible first|rfl|exact absTF|exact absFT)|exact True.intro|intro _|refine And.intro ?_ ?_|refine Fin.mk ?_|refine W1 rfl ?_ ?_|refine W2 rfl ?_ ?_|refine W3 rfl ?_ ?_|refine W4 ?_ ?_|refine W5 rfl ?_ ?_|refine W6 ?_ ?_|refine AppN.mk ?_|refine X1 (W1 rfl ?_ ?_)|refine X1 (W2 rfl ?_ ?_)|refine X2 (W7 rfl ?_ ?_)|refine X3 (W7 rfl ?_ ?_)|refine X4 (W7 rfl ?_ ?_)|refine X5 (W7 rfl ?_ ?_))
        all_goals (try (conv => whnf))
        all_goals (try first|exact Ob.mk (u8_bnd _)|(refine Ob.mk ?_;first|exact True.intro|assumption|omega|(try simp only [ZA,ZB,ZC,ZD,ZE,ZF,ZG,ZH,ZI,ZJ,ZK,ZL,ZM,ZN,ZO,Int.toNat_natCast,UInt8.ofNat_toNat,cast_eq] at *;omega)))
        all_goals (try first|(show (_:Int) = _;omega)|(show tupSV _ = _;with_unfolding_all rfl)|((first|show (_:Nat) ≤ _|show (_:Nat) ≤ _ ∧ (_:Nat) ≤ _|show (_:Int) ≤ _ ∧ (_:Int) ≤ _ ∧ (_:Int) ≤ _ ∧ (_:Int) ≤ _);(simp <;> omega)))
        all_goals rfl
      all_goals (have hj := (loop_up q2 false ‹_› q1).2 rfl)
      all_goals (subst hj)
      · rw [← nm]
        have hG : rnG s 1 = runT s (s.length + 1) (upTo (stP [47, 62]) s 1) [] [] := rfl
        generalize rnG s 1 = R at *
        refine LoopStop.mk (α := Nat × Nat × List AttrD × List UInt8) (fun a => [(6, .int .i64 (a.2.1 : Nat))]) (fun a => [(1, .box [.int .i64 1, .str (nmG s 1), .own 2, .bool false, .str []]), (2, .own attrTy a.2.2.1)]) 60
          (fun a => a.2.1 ≤ s.length ∧ a.2.2.1.length ≤ a.2.1 ∧ s.length - a.2.1 < a.1 ∧ runT s a.1 a.2.1 a.2.2.1 a.2.2.2 = R) (fun a => a.1) (s.length + 1, upTo (stP [47, 62]) s 1, [], []) ⟨by simp only; omega, by simp, by simp only; omega, hG.symm⟩ ?_ (fun a ha => ?_)
        · repeat' ((conv => whnf);first|(with_reducible first|rfl|exact absTF|exact absFT)|exact True.intro|intro _|refine And.intro ?_ ?_|refine Fin.mk ?_|refine W1 rfl ?_ ?_|refine W2 rfl ?_ ?_|refine W3 rfl ?_ ?_|refine W4 ?_ ?_|refine W5 rfl ?_ ?_|refine W6 ?_ ?_|refine AppN.mk ?_|refine X1 (W1 rfl ?_ ?_)|refine X1 (W2 rfl ?_ ?_)|refine X2 (W7 rfl ?_ ?_)|refine X3 (W7 rfl ?_ ?_)|refine X4 (W7 rfl ?_ ?_)|refine X5 (W7 rfl ?_ ?_))
          all_goals (try (conv => whnf))
          all_goals (try first|exact Ob.mk (u8_bnd _)|(refine Ob.mk ?_;first|exact True.intro|assumption|omega|(try simp only [ZA,ZB,ZC,ZD,ZE,ZF,ZG,ZH,ZI,ZJ,ZK,ZL,ZM,ZN,ZO,Int.toNat_natCast,UInt8.ofNat_toNat,cast_eq] at *;omega)))
          all_goals (try first|(show (_:Int) = _;omega)|(show tupSV _ = _;with_unfolding_all rfl)|((first|show (_:Nat) ≤ _|show (_:Nat) ≤ _ ∧ (_:Nat) ≤ _|show (_:Int) ≤ _ ∧ (_:Int) ≤ _ ∧ (_:Int) ≤ _ ∧ (_:Int) ≤ _);(simp <;> omega)))
          all_goals trace_state
        · obtain ⟨f, i, l, x⟩ := a
          obtain ⟨p1, p3, p4, hR⟩ := ha
          dsimp only at p1 p3 p4 hR
          obtain ⟨f', rfl⟩ : ∃ f', f = f' + 1 := ⟨f - 1, by omega⟩
          have hI := upTo_le blB s i p1
          have tn1 : ∀ n : Nat, ((n : Int) + 1).toNat = n + 1 := fun n => by omega
          have w1 : cOv s (upTo blB s i) = true → T = (0, [], [], false, (s.length : Int), false) := fun h => by rw [hT, ← hR, st1 h]; rfl
          have w5 : cOv s (upTo blB s i) = false → c2B s (upTo blB s i) = false → (((s.getD (upTo blB s i) 0).toNat : Int) == 47) = false → (!(attrR s (upTo blB s i)).2.2.2) = true → T = (0, [], [], false, (s.length : Int), false) := fun a b c d => by rw [hT, ← hR, if_pos (u5 a b c d)]
          have w2 : cOv s (upTo blB s i) = false → c2B s (upTo blB s i) = true → (((s.getD (upTo blB s i) 0).toNat : Int) == 47) = true → T = (1, nmG s 1, l, true, ((upTo blB s i + 2 : Nat) : Int), true) := fun a b c => by rw [hT, ← hR, u2 a b c]; rfl
          have w3 : cOv s (upTo blB s i) = false → c2B s (upTo blB s i) = true → (((s.getD (upTo blB s i) 0).toNat : Int) == 47) = false → T = (1, nmG s 1, l, false, ((upTo blB s i + 1 : Nat) : Int), true) := fun a b c => by rw [hT, ← hR, u3 a b c]; rfl
          repeat' ((conv => whnf);first|(with_reducible first|rfl|exact absTF|exact absFT)|exact True.intro|intro _|refine And.intro ?_ ?_|refine Fin.mk ?_|refine W1 rfl ?_ ?_|refine W2 rfl ?_ ?_|refine W3 rfl ?_ ?_|refine W4 ?_ ?_|refine W5 rfl ?_ ?_|refine W6 ?_ ?_|refine AppN.mk ?_|refine X1 (W1 rfl ?_ ?_)|refine X1 (W2 rfl ?_ ?_)|refine X2 (W7 rfl ?_ ?_)|refine X3 (W7 rfl ?_ ?_)|refine X4 (W7 rfl ?_ ?_)|refine X5 (W7 rfl ?_ ?_))
          all_goals (try (conv => whnf))
          all_goals (try first|exact Ob.mk (u8_bnd _)|(refine Ob.mk ?_;first|exact True.intro|assumption|omega|(try simp only [ZA,ZB,ZC,ZD,ZE,ZF,ZG,ZH,ZI,ZJ,ZK,ZL,ZM,ZN,ZO,Int.toNat_natCast,UInt8.ofNat_toNat,cast_eq] at *;omega)))
          all_goals (try first|(show (_:Int) = _;omega)|(show tupSV _ = _;with_unfolding_all rfl)|((first|show (_:Nat) ≤ _|show (_:Nat) ≤ _ ∧ (_:Nat) ≤ _|show (_:Int) ≤ _ ∧ (_:Int) ≤ _ ∧ (_:Int) ≤ _ ∧ (_:Int) ≤ _);(simp <;> omega)))
          all_goals (try simp only [Int.toNat_natCast, tn1] at *)
          all_goals (try (have q := w1 ‹_›; first | (rw [q]; done) | (rw [q]; rfl)))
          all_goals (try (have hl : upTo blB s i < s.length := (cOv_not s (upTo blB s i)).1 ‹_›; have hN := attrR_le s (upTo blB s i) hl))
          all_goals (try (have q := w5 ‹_› ‹_› ‹_› ‹_›; first | (rw [q]; done) | (rw [q]; rfl)))
          all_goals (try (exfalso; exact absurd ‹((2 : Int) == 2) = false› (by decide)))
          all_goals (try (exfalso; exact absurd ‹((1 : Int) == 2) = true› (by decide)))
          all_goals (try (have q := w2 ‹_› ‹_› ‹_›; first | (rw [q]; done) | (rw [q]; rfl) | (rw [q, ‹(((s.getD (upTo blB s i) 0).toNat : Int) == 47) = true›]; rfl) | (rw [q]; simp only; omega)))
          all_goals (try (have q := w3 ‹_› ‹_› ‹_›; first | (rw [q]; done) | (rw [q]; rfl) | (rw [q, ‹(((s.getD (upTo blB s i) 0).toNat : Int) == 47) = false›]; rfl) | (rw [q]; simp only; omega)))
          all_goals (first | omega | exact ⟨by omega, by omega⟩ | exact ⟨by omega, by omega, by omega⟩ | skip)
          · have q := hR.symm.trans (u4 (f := f') (l := l) (x := x) ‹_› ‹_› ‹_›)
            refine Rnd.mk ⟨(f', upTo blB s i + 1, l, x), ⟨by simp only; omega, by simp only; omega, by simp only; omega, q.symm⟩, by simp only; omega, ?_⟩
            repeat' ((conv => whnf);first|(with_reducible first|rfl|exact absTF|exact absFT)|exact True.intro|intro _|refine And.intro ?_ ?_|refine Fin.mk ?_|refine W1 rfl ?_ ?_|refine W2 rfl ?_ ?_|refine W3 rfl ?_ ?_|refine W4 ?_ ?_|refine W5 rfl ?_ ?_|refine W6 ?_ ?_|refine AppN.mk ?_|refine X1 (W1 rfl ?_ ?_)|refine X1 (W2 rfl ?_ ?_)|refine X2 (W7 rfl ?_ ?_)|refine X3 (W7 rfl ?_ ?_)|refine X4 (W7 rfl ?_ ?_)|refine X5 (W7 rfl ?_ ?_))
            all_goals (try (conv => whnf))
            all_goals (try first|exact Ob.mk (u8_bnd _)|(refine Ob.mk ?_;first|exact True.intro|assumption|omega|(try simp only [ZA,ZB,ZC,ZD,ZE,ZF,ZG,ZH,ZI,ZJ,ZK,ZL,ZM,ZN,ZO,Int.toNat_natCast,UInt8.ofNat_toNat,cast_eq] at *;omega)))
            all_goals (try first|(show (_:Int) = _;omega)|(show tupSV _ = _;with_unfolding_all rfl)|((first|show (_:Nat) ≤ _|show (_:Nat) ≤ _ ∧ (_:Nat) ≤ _|show (_:Int) ≤ _ ∧ (_:Int) ≤ _ ∧ (_:Int) ≤ _ ∧ (_:Int) ≤ _);(simp <;> omega)))
            all_goals (first | rfl | omega | trace_state)
          · have q := hR.symm.trans (u6 (f := f') (l := l) (x := x) ‹_› ‹_› ‹_› ‹_›)
            have hA := addL_len l ((attrR s (upTo blB s i)).1, (attrR s (upTo blB s i)).2.1)
            refine Rnd.mk ⟨(f', (attrR s (upTo blB s i)).2.2.1, addL l ((attrR s (upTo blB s i)).1, (attrR s (upTo blB s i)).2.1), nmT s i), ⟨by simp only; omega, by simp only; omega, by simp only; omega, q.symm⟩, by simp only; omega, ?_⟩
            repeat' ((conv => whnf);first|(with_reducible first|rfl|exact absTF|exact absFT)|exact True.intro|intro _|refine And.intro ?_ ?_|refine Fin.mk ?_|refine W1 rfl ?_ ?_|refine W2 rfl ?_ ?_|refine W3 rfl ?_ ?_|refine W4 ?_ ?_|refine W5 rfl ?_ ?_|refine W6 ?_ ?_|refine AppN.mk ?_|refine X1 (W1 rfl ?_ ?_)|refine X1 (W2 rfl ?_ ?_)|refine X2 (W7 rfl ?_ ?_)|refine X3 (W7 rfl ?_ ?_)|refine X4 (W7 rfl ?_ ?_)|refine X5 (W7 rfl ?_ ?_))
            all_goals (try (conv => whnf))
            all_goals (try first|exact Ob.mk (u8_bnd _)|(refine Ob.mk ?_;first|exact True.intro|assumption|omega|(try simp only [ZA,ZB,ZC,ZD,ZE,ZF,ZG,ZH,ZI,ZJ,ZK,ZL,ZM,ZN,ZO,Int.toNat_natCast,UInt8.ofNat_toNat,cast_eq] at *;omega)))
            all_goals (try first|(show (_:Int) = _;omega)|(show tupSV _ = _;with_unfolding_all rfl)|((first|show (_:Nat) ≤ _|show (_:Nat) ≤ _ ∧ (_:Nat) ≤ _|show (_:Int) ≤ _ ∧ (_:Int) ≤ _ ∧ (_:Int) ≤ _ ∧ (_:Int) ≤ _);(simp <;> omega)))
            all_goals (first | rfl | omega | trace_state)
end Go.Vc

namespace Go.Vc
open Go.Proofs
set_option maxRecDepth 10000
set_option maxHeartbeats 8000000
theorem sameBad (x : AttrD) : (!(x.1 == x.1 && (x.2 == x.2 && true))) = false := by
  simp
instance gSame7 (l : List AttrD) : Fn BB 18 [.rd attrTy l, .rd attrTy l] (l.length ≤ 100000) (.bool true) := by
  refine Fn.intro (N := 26) [0, 1, 4, 5, 10, 14, 25] [(6, [0, 0, 1, 1, 0, 0, 1, 1, 3])] Tryz.call18 Tryz.func18 rfl rfl (by kernel_rfl) (fun hpre => ?_)
  repeat' ((conv => whnf);first|(with_reducible first|rfl|exact absTF|exact absFT)|exact True.intro|intro _|refine And.intro ?_ ?_|refine Fin.mk ?_|refine W1 rfl ?_ ?_|refine W2 rfl ?_ ?_|refine W3 rfl ?_ ?_|refine W4 ?_ ?_|refine W5 rfl ?_ ?_|refine W6 ?_ ?_|refine AppN.mk ?_|refine X1 (W1 rfl ?_ ?_)|refine X1 (W2 rfl ?_ ?_)|refine X2 (W7 rfl ?_ ?_)|refine X3 (W7 rfl ?_ ?_)|refine X4 (W7 rfl ?_ ?_)|refine X5 (W7 rfl ?_ ?_))
  all_goals (try (conv => whnf))
  all_goals (try first|exact Ob.mk (u8_bnd _)|(refine Ob.mk ?_;first|exact True.intro|assumption|omega|(try simp only [ZA,ZB,ZC,ZD,ZE,ZF,ZG,ZH,ZI,ZJ,ZK,ZL,ZM,ZN,ZO,Int.toNat_natCast,UInt8.ofNat_toNat,cast_eq] at *;omega)))
  all_goals (try first|(show (_:Int) = _;omega)|(show tupSV _ = _;with_unfolding_all rfl)|((first|show (_:Nat) ≤ _|show (_:Nat) ≤ _ ∧ (_:Nat) ≤ _|show (_:Int) ≤ _ ∧ (_:Int) ≤ _ ∧ (_:Int) ≤ _ ∧ (_:Int) ≤ _);(simp <;> omega)))
  all_goals (try simp_all; done)
  refine LoopStop.mk (α := Nat) (fun k => [(5, .int .i64 k)]) (fun _ => []) 20 (fun k => k ≤ l.length) (fun k => l.length - k) 0 (by simp) ?_ (fun k hk => ?_)
  · repeat' ((conv => whnf);first|(with_reducible first|rfl|exact absTF|exact absFT)|exact True.intro|intro _|refine And.intro ?_ ?_|refine Fin.mk ?_|refine W1 rfl ?_ ?_|refine W2 rfl ?_ ?_|refine W3 rfl ?_ ?_|refine W4 ?_ ?_|refine W5 rfl ?_ ?_|refine W6 ?_ ?_|refine AppN.mk ?_|refine X1 (W1 rfl ?_ ?_)|refine X1 (W2 rfl ?_ ?_)|refine X2 (W7 rfl ?_ ?_)|refine X3 (W7 rfl ?_ ?_)|refine X4 (W7 rfl ?_ ?_)|refine X5 (W7 rfl ?_ ?_))
    all_goals (try (conv => whnf))
    all_goals (try first|exact Ob.mk (u8_bnd _)|(refine Ob.mk ?_;first|exact True.intro|assumption|omega|(try simp only [ZA,ZB,ZC,ZD,ZE,ZF,ZG,ZH,ZI,ZJ,ZK,ZL,ZM,ZN,ZO,Int.toNat_natCast,UInt8.ofNat_toNat,cast_eq] at *;omega)))
    all_goals (try first|(show (_:Int) = _;omega)|(show tupSV _ = _;with_unfolding_all rfl)|((first|show (_:Nat) ≤ _|show (_:Nat) ≤ _ ∧ (_:Nat) ≤ _|show (_:Int) ≤ _ ∧ (_:Int) ≤ _ ∧ (_:Int) ≤ _ ∧ (_:Int) ≤ _);(simp <;> omega)))
    all_goals (try rfl)
  · repeat' ((conv => whnf);first|(with_reducible first|rfl|exact absTF|exact absFT)|exact True.intro|intro _|refine And.intro ?_ ?_|refine Fin.mk ?_|refine W1 rfl ?_ ?_|refine W2 rfl ?_ ?_|refine W3 rfl ?_ ?_|refine W4 ?_ ?_|refine W5 rfl ?_ ?_|refine W6 ?_ ?_|refine AppN.mk ?_|refine X1 (W1 rfl ?_ ?_)|refine X1 (W2 rfl ?_ ?_)|refine X2 (W7 rfl ?_ ?_)|refine X3 (W7 rfl ?_ ?_)|refine X4 (W7 rfl ?_ ?_)|refine X5 (W7 rfl ?_ ?_))
    all_goals (try (conv => whnf))
    all_goals (try first|exact Ob.mk (u8_bnd _)|(refine Ob.mk ?_;first|exact True.intro|assumption|omega|(try simp only [ZA,ZB,ZC,ZD,ZE,ZF,ZG,ZH,ZI,ZJ,ZK,ZL,ZM,ZN,ZO,Int.toNat_natCast,UInt8.ofNat_toNat,cast_eq] at *;omega)))
    all_goals (try first|(show (_:Int) = _;omega)|(show tupSV _ = _;with_unfolding_all rfl)|((first|show (_:Nat) ≤ _|show (_:Nat) ≤ _ ∧ (_:Nat) ≤ _|show (_:Int) ≤ _ ∧ (_:Int) ≤ _ ∧ (_:Int) ≤ _ ∧ (_:Int) ≤ _);(simp <;> omega)))
    all_goals (try simp only [Int.toNat_natCast] at *)
    all_goals (try (have hp : k < l.length := by have h := of_decide_eq_true ‹decide ((k : Int) < (l.length : Int)) = true›; omega))
    all_goals (try (exact absurd ((sameBad _).symm.trans ‹_›) (by decide)))
    refine Rnd.mk ⟨k + 1, ⟨by omega, by omega, ?_⟩⟩
    repeat' ((conv => whnf);first|(with_reducible first|rfl|exact absTF|exact absFT)|exact True.intro|intro _|refine And.intro ?_ ?_|refine Fin.mk ?_|refine W1 rfl ?_ ?_|refine W2 rfl ?_ ?_|refine W3 rfl ?_ ?_|refine W4 ?_ ?_|refine W5 rfl ?_ ?_|refine W6 ?_ ?_|refine AppN.mk ?_|refine X1 (W1 rfl ?_ ?_)|refine X1 (W2 rfl ?_ ?_)|refine X2 (W7 rfl ?_ ?_)|refine X3 (W7 rfl ?_ ?_)|refine X4 (W7 rfl ?_ ?_)|refine X5 (W7 rfl ?_ ?_))
    all_goals (try (conv => whnf))
    all_goals (try first|exact Ob.mk (u8_bnd _)|(refine Ob.mk ?_;first|exact True.intro|assumption|omega|(try simp only [ZA,ZB,ZC,ZD,ZE,ZF,ZG,ZH,ZI,ZJ,ZK,ZL,ZM,ZN,ZO,Int.toNat_natCast,UInt8.ofNat_toNat,cast_eq] at *;omega)))
    all_goals (try first|(show (_:Int) = _;omega)|(show tupSV _ = _;with_unfolding_all rfl)|((first|show (_:Nat) ≤ _|show (_:Nat) ≤ _ ∧ (_:Nat) ≤ _|show (_:Int) ≤ _ ∧ (_:Int) ≤ _ ∧ (_:Int) ≤ _ ∧ (_:Int) ≤ _);(simp <;> omega)))
    all_goals rfl
end Go.Vc

namespace Go.Vc
open Go.Proofs
set_option maxRecDepth 10000
set_option maxHeartbeats 8000000
def clC (s nm : List UInt8) : Bool := nm == [] || decide ((s.length : Int) ≤ (nm.length : Int) + 2) || !begP s [60, 47] || !(lowL ((s.take (nm.length + 2)).drop 2) == lowL nm)
def clS (s nm : List UInt8) : Bool :=
  if clC s nm then false
  else W.isSp ((s.getD (nm.length + 2) 0).toNat : Int) || ((s.getD (nm.length + 2) 0).toNat : Int) == 47 || ((s.getD (nm.length + 2) 0).toNat : Int) == 62
theorem clSn {s nm : List UInt8} (h : clC s nm = false) : clS s nm = (W.isSp ((s.getD (nm.length + 2) 0).toNat : Int) || ((s.getD (nm.length + 2) 0).toNat : Int) == 47 || ((s.getD (nm.length + 2) 0).toNat : Int) == 62) := by
  unfold clS
  rw [if_neg (by rw [h]; exact Bool.false_ne_true)]
theorem nm2 (nm : List UInt8) : ((nm.length : Int) + 2).toNat = nm.length + 2 := by omega
instance gClo (s nm : List UInt8) : Fn BB 40 [.str s, .str nm] (s.length ≤ 100000 ∧ nm.length ≤ 100000) (.bool (clS s nm)) := by
  refine Fn.intro (N := 46) [0, 1, 4, 5, 29] [] Tryz.call40 Tryz.func40 rfl rfl (by kernel_rfl) (fun hpre => ?_)
  repeat' ((conv => whnf);first|(with_reducible first|rfl|exact absTF|exact absFT)|exact True.intro|intro _|refine And.intro ?_ ?_|refine Fin.mk ?_|refine W1 rfl ?_ ?_|refine W2 rfl ?_ ?_|refine W3 rfl ?_ ?_|refine W4 ?_ ?_|refine W5 rfl ?_ ?_|refine W6 ?_ ?_|refine AppN.mk ?_|refine X1 (W1 rfl ?_ ?_)|refine X1 (W2 rfl ?_ ?_)|refine X2 (W7 rfl ?_ ?_)|refine X3 (W7 rfl ?_ ?_)|refine X4 (W7 rfl ?_ ?_)|refine X5 (W7 rfl ?_ ?_))
  all_goals (try (conv => whnf))
  all_goals (try first|exact Ob.mk (u8_bnd _)|(refine Ob.mk ?_;first|exact True.intro|assumption|omega|(try simp only [ZA,ZB,ZC,ZD,ZE,ZF,ZG,ZH,ZI,ZJ,ZK,ZL,ZM,ZN,ZO,Int.toNat_natCast,UInt8.ofNat_toNat,cast_eq] at *;omega)))
  all_goals (try first|(show (_:Int) = _;omega)|(show tupSV _ = _;with_unfolding_all rfl)|((first|show (_:Nat) ≤ _|show (_:Nat) ≤ _ ∧ (_:Nat) ≤ _|show (_:Int) ≤ _ ∧ (_:Int) ≤ _ ∧ (_:Int) ≤ _ ∧ (_:Int) ≤ _);(simp <;> omega)))
  all_goals (try (simp only [nm2, show Int.toNat 2 = 2 from rfl] at *))
  all_goals (try ((have hh : clC s nm = true := by unfold clC; assumption); unfold clS; rw [hh]; rfl; done))
  all_goals (try (refine (clSn ?_).symm; unfold clC; assumption))
  all_goals (try (simp only [Bool.or_eq_false_iff, decide_eq_false_iff_not] at *; omega))
end Go.Vc

namespace Go.Vc
open Go.Proofs
set_option maxRecDepth 10000
set_option maxHeartbeats 8000000
theorem upTo_ge (p : UInt8 → Bool) (s : List UInt8) (i : Nat) : i ≤ upTo p s i := by unfold upTo; omega
theorem valS_ge (s : List UInt8) (i : Nat) : i ≤ (valS s i).2.1 := by
  unfold valS
  split
  · split
    · exact Nat.le_refl _
    · show i ≤ i + _ + 2; omega
  · exact upTo_ge _ _ _
theorem runT_ge (s : List UInt8) : ∀ (f i : Nat) (l : List AttrD) (x : List UInt8), (runT s f i l x).1 = true → i < (runT s f i l x).2.1 := by
  intro f
  induction f with
  | zero => intro i l x h; cases h
  | succ f ih =>
    intro i l x
    have h0 := upTo_ge blB s i
    unfold runT
    split
    · intro h; cases h
    split
    · intro _; show i < upTo blB s i + 1; omega
    split
    · split
      · intro _; show i < upTo blB s i + 2; omega
      · intro h; refine Nat.lt_of_le_of_lt ?_ (ih _ _ _ h); omega
    · have h1 := upTo_ge (stP [47, 62, 61]) s (upTo blB s i + 1)
      have h2 := upTo_ge blB s (upTo (stP [47, 62, 61]) s (upTo blB s i + 1))
      have h3 := upTo_ge blB s (upTo blB s (upTo (stP [47, 62, 61]) s (upTo blB s i + 1)) + 1)
      have h4 := valS_ge s (upTo blB s (upTo blB s (upTo (stP [47, 62, 61]) s (upTo blB s i + 1)) + 1))
      unfold runT.atT
      split
      · intro h; refine Nat.lt_of_le_of_lt ?_ (ih _ _ _ h); omega
      split
      · intro h; cases h
      split
      · intro h; cases h
      · intro h; refine Nat.lt_of_le_of_lt ?_ (ih _ _ _ h); omega
end Go.Vc

namespace Go.Vc
open Go.Proofs
set_option maxRecDepth 10000
set_option maxHeartbeats 8000000
theorem runT_le (s : List UInt8) : ∀ (f i : Nat) (l : List AttrD) (x : List UInt8), i ≤ s.length → (runT s f i l x).1 = true → (runT s f i l x).2.1 ≤ s.length := by
  intro f
  induction f with
  | zero => intro i l x _ h; cases h
  | succ f ih =>
    intro i l x hi
    have h0 := upTo_le blB s i hi
    unfold runT
    split
    · intro h; cases h
    split
    · intro _; show upTo blB s i + 1 ≤ s.length; omega
    split
    · split
      · rename_i h; intro _; show upTo blB s i + 2 ≤ s.length; omega
      · intro h; exact ih _ _ _ (by omega) h
    · have h1 := upTo_le (stP [47, 62, 61]) s (upTo blB s i + 1) (by omega)
      have h2 := upTo_le blB s (upTo (stP [47, 62, 61]) s (upTo blB s i + 1)) (by omega)
      unfold runT.atT
      split
      · intro h; exact ih _ _ _ (by omega) h
      split
      · intro h; cases h
      split
      · intro h; cases h
      · intro h; exact ih _ _ _ (valS_le s _ (by omega)).2.1 h
theorem tagAt_bnd (s : List UInt8) (c : Bool) (a : Nat) (ho : (tagAt s c a).2.2.2.2.2 = true) : ∃ n : Nat, (tagAt s c a).2.2.2.2.1 = (n : Int) ∧ 1 ≤ n ∧ n ≤ s.length := by
  unfold tagAt at ho ⊢
  by_cases c1 : s = [] ∨ s.getD 0 0 ≠ 60 ∨ s.length ≤ a ∨ alB (s.getD a 0) = false
  · rw [if_pos c1] at ho; cases ho
  rw [if_neg c1] at ho ⊢
  by_cases c2 : (rnG s a).1 = false
  · rw [if_pos c2] at ho; cases ho
  rw [if_neg c2]
  have hr : (rnG s a).1 = true := by cases h : (rnG s a).1 with | true => rfl | false => exact absurd h c2
  have hgt : upTo (stP [47, 62]) s a < (rnG s a).2.1 := runT_ge s _ _ _ _ hr
  have hal : a ≤ s.length := by
    rcases Nat.lt_or_ge s.length a with q | q
    · exact absurd (.inr (.inr (.inl (by omega)))) c1
    · exact q
  have hle : (rnG s a).2.1 ≤ s.length := runT_le s _ _ _ _ (upTo_le _ _ _ hal).2 hr
  refine ⟨(rnG s a).2.1, ?_, by omega, hle⟩
  by_cases c3 : c = true
  · rw [if_pos c3]
  · rw [if_neg c3]
end Go.Vc

namespace Go.Vc
open Go.Proofs
set_option maxRecDepth 10000
set_option maxHeartbeats 2000000
abbrev TokD := Int × List UInt8 × List AttrD × Bool × List UInt8
def mkN (s : List UInt8) (f : Bool) : Int := if (tagP s).2.2.2.2.1 = 0 then (readP s f).2.2.2.1 else (tagP s).2.2.2.2.1
def mkO (s : List UInt8) (f : Bool) : Bool := if (tagP s).2.2.2.2.1 = 0 then (readP s f).2.2.2.2 else (tagP s).2.2.2.2.2
def mkT (s : List UInt8) (f : Bool) : TokD := if (tagP s).2.2.2.2.1 = 0 then ((readP s f).1, (readP s f).2.1, [], false, (readP s f).2.2.1) else ((tagP s).1, (tagP s).2.1, (tagP s).2.2.1, (tagP s).2.2.2.1, [])
theorem tagAt_all (s : List UInt8) (c : Bool) (a : Nat) : 0 ≤ (tagAt s c a).2.2.2.2.1 ∧ (tagAt s c a).2.2.2.2.1 ≤ s.length := by
  cases ho : (tagAt s c a).2.2.2.2.2
  · unfold tagAt at ho ⊢
    split at ho
    · rename_i h; rw [if_pos h]; exact ⟨by simp, by simp⟩
    rename_i h
    rw [if_neg h]
    split at ho
    · rename_i h2; rw [if_pos h2]; exact ⟨by simp, by simp⟩
    · split at ho <;> cases ho
  · obtain ⟨n, e, h1, h2⟩ := tagAt_bnd s c a ho
    rw [e]; exact ⟨by omega, by omega⟩
theorem tagP_all (s : List UInt8) : 0 ≤ (tagP s).2.2.2.2.1 ∧ (tagP s).2.2.2.2.1 ≤ s.length := by
  unfold tagP
  split <;> exact tagAt_all _ _ _
theorem bogusP_all (s : List UInt8) (k : Nat) (h : k ≤ s.length) : 0 ≤ (bogusP s k).2.2.2.1 ∧ (bogusP s k).2.2.2.1 ≤ s.length := by
  have h1 := uN_le (s.drop k) [62]
  rw [List.length_drop] at h1
  unfold bogusP
  exact ⟨by simp only; omega, by simp only; omega⟩
theorem begP_le {s p : List UInt8} (h : begP s p = true) : p.length ≤ s.length := by
  unfold begP at h
  rw [Bool.and_eq_true] at h
  have := of_decide_eq_true h.1
  omega
theorem comP_all (s : List UInt8) : 0 ≤ (comP s).2.2.2.1 ∧ (comP s).2.2.2.1 ≤ s.length := by
  unfold comP
  split
  · rename_i h; have := begP_le h; exact ⟨by simp, by simp only [List.length_cons, List.length_nil] at this; dsimp only; omega⟩
  split
  · rename_i h; have := begP_le h; exact ⟨by simp, by simp only [List.length_cons, List.length_nil] at this; dsimp only; omega⟩
  split
  · exact ⟨by simp, by simp⟩
  rename_i hn
  have hA := fnd_cases s mA (by decide)
  have hB := fnd_cases s mB (by decide)
  have lA : mA.length = 3 := rfl
  have lB : mB.length = 4 := rfl
  have la := fnd_le s mA
  rw [lA] at hA
  rw [lB] at hB
  split
  · rename_i hlt
    refine ⟨by simp only; omega, ?_⟩
    show ((fnd s mB + 4 : Nat) : Int) ≤ s.length
    rcases hB with h | h <;> omega
  · rename_i hlt
    refine ⟨by simp only; omega, ?_⟩
    show ((fnd s mA + 3 : Nat) : Int) ≤ s.length
    rcases hA with h | h
    · omega
    · rcases hB with h' | h'
      · omega
      · exact absurd ⟨by unfold fdB; rw [lA]; exact decide_eq_false (by omega), by unfold fdB; rw [lB]; exact decide_eq_false (by omega)⟩ hn
theorem readP_all (s : List UInt8) (f : Bool) : 0 ≤ (readP s f).2.2.2.1 ∧ (readP s f).2.2.2.1 ≤ s.length := by
  unfold readP
  split
  · exact ⟨by simp, by simp⟩
  rename_i h0
  have h2 : 2 ≤ s.length := by
    unfold r0 at h0
    rw [Bool.or_eq_true, not_or] at h0
    have := h0.1
    rw [decide_eq_true_eq] at this; omega
  have h9 : 9 ≤ s.length → ∀ m : List UInt8, (0 : Int) ≤ ((9 + uN (s.drop 9) m : Nat) : Int) ∧ ((9 + uN (s.drop 9) m : Nat) : Int) ≤ s.length := fun h m => by
    have h1 := uN_le (s.drop 9) m
    rw [List.length_drop] at h1
    exact ⟨by omega, by omega⟩
  split
  · unfold declP
    split
    · rename_i h
      have h4 := begP_le h
      have h4 : 4 ≤ s.length := by simpa using h4
      have := comP_all (s.drop 4)
      rw [List.length_drop] at this
      unfold cm4
      exact ⟨by simp only; omega, by simp only; omega⟩
    split
    · rename_i h
      have h := h9 (by unfold isDoc at h; rw [Bool.and_eq_true] at h; have := of_decide_eq_true h.1; omega) [62]
      exact h
    split
    · rename_i h
      rw [Bool.and_eq_true] at h
      have h := h9 (by have := begP_le h.2; simpa [cdM] using this) mC
      unfold secP
      split <;> exact h
    · exact bogusP_all s 2 h2
  split
  · exact bogusP_all s 1 (by omega)
  split
  · split
    · rename_i h
      refine ⟨by simp, ?_⟩
      unfold r62 at h
      rw [Bool.and_eq_true] at h
      have := of_decide_eq_true h.1
      show (3 : Int) ≤ _
      omega
    split
    · exact bogusP_all s 2 h2
    · exact ⟨by simp, by simp⟩
  · exact ⟨by simp, by simp⟩
theorem mkN_all (s : List UInt8) (f : Bool) : 0 ≤ mkN s f ∧ mkN s f ≤ s.length := by
  unfold mkN
  split
  · exact readP_all s f
  · exact tagP_all s
theorem mkN_no (s : List UInt8) (f : Bool) (h : s.getD 0 0 ≠ 60) : mkN s f = 0 := by
  have e : (tagP s).2.2.2.2.1 = 0 := by
    unfold tagP
    split <;> (unfold tagAt; rw [if_pos (.inr (.inl h))])
  unfold mkN
  rw [if_pos e]
  unfold readP
  rw [if_pos]
  unfold r0
  rw [Bool.or_eq_true]
  right
  have : ((s.getD 0 0).toNat : Int) ≠ 60 := fun q => h (by
    have q : (s.getD 0 0).toNat = 60 := by omega
    exact UInt8.toNat_inj.1 q)
  simpa using this
def nxT (s : List UInt8) (f : Bool) : Nat → Nat → Nat
  | 0, _ => s.length
  | k + 1, i => if 0 < mkN (s.drop i) f then i else nxT s f k (i + 1)
def txN (s : List UInt8) (f : Bool) : Nat := nxT s f (s.length - 1) 1
def posF (s : List UInt8) : Nat → Nat → List Nat
  | 0, _ => []
  | k + 1, i => if s.getD i 0 = 60 then i :: posF s k (i + 1) else posF s k (i + 1)
def fstP (s : List UInt8) (f : Bool) : List Nat → Nat
  | [] => s.length
  | i :: l => if 0 < mkN (s.drop i) f then i else fstP s f l
theorem getD_drop0 (s : List UInt8) (i : Nat) : (s.drop i).getD 0 0 = s.getD i 0 := by
  simp [List.getD]
theorem nx_pos (s : List UInt8) (f : Bool) : ∀ k i, nxT s f k i = fstP s f (posF s k i)
  | 0, _ => rfl
  | k + 1, i => by
    unfold nxT posF
    by_cases h : s.getD i 0 = 60
    · rw [if_pos h, fstP, nx_pos s f k (i + 1)]
    · rw [if_neg h, mkN_no (s.drop i) f (by rw [getD_drop0]; exact h), if_neg (by omega), nx_pos s f k (i + 1)]
theorem nxT_le (s : List UInt8) (f : Bool) : ∀ k i, i + k = s.length → i ≤ nxT s f k i ∧ nxT s f k i ≤ s.length
  | 0, i, h => by unfold nxT; omega
  | k + 1, i, h => by
    unfold nxT
    split
    · omega
    · have := nxT_le s f k (i + 1) (by omega); omega
theorem txN_le (s : List UInt8) (f : Bool) (h : s ≠ []) : 1 ≤ txN s f ∧ txN s f ≤ s.length := by
  have : 0 < s.length := List.length_pos_iff.mpr h
  exact nxT_le s f _ _ (by omega)
def txtD (s : List UInt8) (f : Bool) : TokD := (3, [], [], false, decF (s.take (txN s f)) false)
def tok0 : TokD := (0, [], [], false, [])
def datF (f : Bool) : Nat → List UInt8 → TokD × List UInt8
  | 0, s => (tok0, s)
  | k + 1, s => if s = [] then (tok0, []) else if mkN s f = 0 then (txtD s f, s.drop (txN s f)) else if mkO s f = true then (mkT s f, s.drop (mkN s f).toNat) else datF f k (s.drop (mkN s f).toNat)
theorem datF_more (f : Bool) : ∀ (k m : Nat) (s : List UInt8), s.length < k → s.length < m → datF f k s = datF f m s
  | 0, _, _, h, _ => by omega
  | _, 0, _, _, h => by omega
  | k + 1, m + 1, s, hk, hm => by
    unfold datF
    split
    · rfl
    split
    · rfl
    split
    · rfl
    · rename_i h0 h1 h2
      have hb := mkN_all s f
      have hp : 0 < s.length := List.length_pos_iff.mpr h0
      exact datF_more f k m _ (by rw [List.length_drop]; omega) (by rw [List.length_drop]; omega)
def datP (f : Bool) (s : List UInt8) : TokD × List UInt8 := datF f (s.length + 1) s
theorem datP_step (f : Bool) (s : List UInt8) (h0 : s ≠ []) (h1 : mkN s f ≠ 0) (h2 : mkO s f = false) : datP f s = datP f (s.drop (mkN s f).toNat) := by
  unfold datP
  rw [datF, if_neg h0, if_neg h1, if_neg (by rw [h2]; decide)]
  have hb := mkN_all s f
  have hp : 0 < s.length := List.length_pos_iff.mpr h0
  exact datF_more f _ _ _ (by rw [List.length_drop]; omega) (by omega)
theorem datP_txt (f : Bool) (s : List UInt8) (h0 : s ≠ []) (h1 : mkN s f = 0) : datP f s = (txtD s f, s.drop (txN s f)) := by
  unfold datP
  rw [datF, if_neg h0, if_pos h1]
theorem datP_ok (f : Bool) (s : List UInt8) (h0 : s ≠ []) (h1 : mkN s f ≠ 0) (h2 : mkO s f = true) : datP f s = (mkT s f, s.drop (mkN s f).toNat) := by
  unfold datP
  rw [datF, if_neg h0, if_neg h1, if_pos h2]
theorem datF_len (f : Bool) : ∀ (k : Nat) (s : List UInt8), s.length < k → s ≠ [] → (datF f k s).2.length < s.length
  | 0, _, h, _ => by omega
  | k + 1, s, hk, h0 => by
    have hp : 0 < s.length := List.length_pos_iff.mpr h0
    have hb := mkN_all s f
    unfold datF
    rw [if_neg h0]
    split
    · have := txN_le s f h0
      show (s.drop (txN s f)).length < _
      rw [List.length_drop]; omega
    split
    · show (s.drop (mkN s f).toNat).length < _
      rw [List.length_drop]; omega
    · rename_i h1 h2
      have hl : (s.drop (mkN s f).toNat).length < s.length := by rw [List.length_drop]; omega
      by_cases h3 : s.drop (mkN s f).toNat = []
      · rw [h3]
        have hk1 : 0 < k := by omega
        obtain ⟨k', rfl⟩ : ∃ k', k = k' + 1 := ⟨k - 1, by omega⟩
        rw [datF, if_pos rfl]; exact hp
      · have := datF_len f k _ (by omega) h3
        omega
theorem datP_len (f : Bool) (s : List UInt8) (h : s ≠ []) : (datP f s).2.length < s.length := datF_len f _ _ (by omega) h
def allF : Nat → List UInt8 → List TokD
  | 0, _ => []
  | k + 1, s => (datP false s).1 :: (if (datP false s).1.1 = 0 then [] else allF k (datP false s).2)
def allP (s : List UInt8) : List TokD := allF (s.length + 1) s
theorem allF_step (k : Nat) (s : List UInt8) (h : (datP false s).1.1 ≠ 0) : allF (k + 1) s = (datP false s).1 :: allF k (datP false s).2 := by
  rw [allF, if_neg h]
theorem allF_end (k : Nat) (s : List UInt8) (h : (datP false s).1.1 = 0) : allF (k + 1) s = [(datP false s).1] := by
  rw [allF, if_pos h]
theorem allF_len : ∀ (k : Nat) (s : List UInt8), (allF k s).length ≤ k
  | 0, _ => by simp [allF]
  | k + 1, s => by
    rw [allF]
    split
    · simp
    · have := allF_len k (datP false s).2
      simp only [List.length_cons]; omega
theorem pos_none (s : List UInt8) : ∀ (k i : Nat), (∀ j, s[i + j]? ≠ some 60) → i + k ≤ s.length → posF s k i = []
  | 0, _, _, _ => rfl
  | k + 1, i, h, hl => by
    have h0 := h 0
    unfold posF
    rw [if_neg]
    · exact pos_none s k (i + 1) (fun j => by have := h (1 + j); rwa [← Nat.add_assoc] at this) (by omega)
    · intro q
      have hi : i < s.length := by omega
      rw [Nat.add_zero, List.getElem?_eq_getElem hi] at h0
      apply h0
      simp [List.getD, List.getElem?_eq_getElem hi] at q
      rw [q]
theorem pos_some (s : List UInt8) : ∀ (o k i : Nat), s[i + o]? = some 60 → (∀ j, j < o → s[i + j]? ≠ some 60) → i + k = s.length → posF s k i = (i + o) :: posF s (k - (o + 1)) (i + o + 1)
  | 0, k, i, h, _, hl => by
    have hi : i < s.length := (List.getElem?_eq_some_iff.1 h).1
    obtain ⟨k, rfl⟩ : ∃ k', k = k' + 1 := ⟨k - 1, by omega⟩
    have e : posF s (k + 1) i = if s.getD i 0 = 60 then i :: posF s k (i + 1) else posF s k (i + 1) := rfl
    rw [e, if_pos (by rw [Nat.add_zero] at h; simp [List.getD, h])]
    rfl
  | o + 1, k, i, h, hn, hl => by
    have hi : i + (o + 1) < s.length := (List.getElem?_eq_some_iff.1 h).1
    obtain ⟨k, rfl⟩ : ∃ k', k = k' + 1 := ⟨k - 1, by omega⟩
    have h0 := hn 0 (by omega)
    have e : posF s (k + 1) i = if s.getD i 0 = 60 then i :: posF s k (i + 1) else posF s k (i + 1) := rfl
    rw [e, if_neg, pos_some s o k (i + 1) (by rw [← h]; congr 1; omega) (fun j hj => by have := hn (j + 1) (by omega); rwa [show i + 1 + j = i + (j + 1) by omega]) (by omega)]
    · rw [show i + 1 + o = i + (o + 1) by omega, show k - (o + 1) = k + 1 - (o + 1 + 1) by omega]
    · intro q
      have hi : i < s.length := by omega
      rw [Nat.add_zero, List.getElem?_eq_getElem hi] at h0
      apply h0
      simp [List.getD, List.getElem?_eq_getElem hi] at q
      rw [q]
theorem sg_none {s : List UInt8} {i : Nat} (h : Lib.indexByte (s.drop i) 60 < 0) (hi : i ≤ s.length) : posF s (s.length - i) i = [] := by
  have hg := Lib.indexByte_ge (s.drop i) 60
  have := Lib.indexByte_none (show Lib.indexByte (s.drop i) 60 = -1 by omega)
  exact pos_none s _ _ (fun j => by have := this j; rwa [List.getElem?_drop] at this) (by omega)
theorem sg_some {s : List UInt8} {i : Nat} (h : ¬ Lib.indexByte (s.drop i) 60 < 0) (hi : i ≤ s.length) :
    i + (Lib.indexByte (s.drop i) 60).toNat < s.length ∧ posF s (s.length - i) i = (i + (Lib.indexByte (s.drop i) 60).toNat) :: posF s (s.length - (i + (Lib.indexByte (s.drop i) 60).toNat + 1)) (i + (Lib.indexByte (s.drop i) 60).toNat + 1) := by
  obtain ⟨o, ho⟩ : ∃ o : Nat, Lib.indexByte (s.drop i) 60 = o := ⟨(Lib.indexByte (s.drop i) 60).toNat, by omega⟩
  obtain ⟨h1, h2⟩ := Lib.indexByte_some ho
  rw [List.getElem?_drop] at h1
  have hl : i + o < s.length := (List.getElem?_eq_some_iff.1 h1).1
  rw [ho, Int.toNat_natCast]
  refine ⟨hl, ?_⟩
  rw [pos_some s o (s.length - i) i h1 (fun j hj => by have := h2 j hj; rwa [List.getElem?_drop] at this) (by omega)]
  rw [show s.length - i - (o + 1) = s.length - (i + o + 1) by omega]
def sgn (s : List UInt8) : List Nat := posF s (s.length - 1) 1
theorem txN_sg (s : List UInt8) (f : Bool) : txN s f = fstP s f (sgn s) := nx_pos s f _ _
theorem pos_mem (s : List UInt8) : ∀ (k i x : Nat), x ∈ posF s k i → i ≤ x ∧ x < i + k
  | 0, _, x, h => by cases h
  | k + 1, i, x, h => by
    unfold posF at h
    split at h
    · rcases List.mem_cons.1 h with rfl | h
      · omega
      · have := pos_mem s k (i + 1) x h; omega
    · have := pos_mem s k (i + 1) x h; omega
theorem sgn_bnd (s : List UInt8) {i : Nat} (h : i < (sgn s).length) : 1 ≤ (sgn s).getD i 0 ∧ (sgn s).getD i 0 < s.length := by
  have hm : (sgn s).getD i 0 ∈ sgn s := by
    rw [List.getD_eq_getElem?_getD, List.getElem?_eq_getElem h]; exact List.getElem_mem h
  have := pos_mem s _ _ _ hm
  omega
end Go.Vc

namespace Go.Vc
open Go.Proofs
set_option maxRecDepth 10000
set_option maxHeartbeats 4000000
instance lMark (s : List UInt8) (f : Bool) : FnM BB 22 [.str s, .bool f] [] (s.length ≤ 50000) (.tup [.agg [.int .i64 (mkT s f).1, .str (mkT s f).2.1, .own 0, .bool (mkT s f).2.2.2.1, .str (mkT s f).2.2.2.2], .int .i64 (mkN s f), .bool (mkO s f)]) [(0, .own attrTy (mkT s f).2.2.1)] := by
  refine FnM.intro (N := 28) [0, 1, 4, 5, 6, 7, 8, 9, 17] [] 0 Tryz.call22 Tryz.func22 rfl rfl (by kernel_rfl) (fun hpre => ?_)
  by_cases hz : (tagP s).2.2.2.2.1 = 0
  · have eN : mkN s f = (readP s f).2.2.2.1 := if_pos hz
    have eO : mkO s f = (readP s f).2.2.2.2 := if_pos hz
    have eT : mkT s f = ((readP s f).1, (readP s f).2.1, [], false, (readP s f).2.2.1) := if_pos hz
    repeat' ((conv => whnf);first|(with_reducible first|rfl|exact absTF|exact absFT)|exact True.intro|intro _|refine And.intro ?_ ?_|refine Fin.mk ?_|refine W1 rfl ?_ ?_|refine W2 rfl ?_ ?_|refine W3 rfl ?_ ?_|refine W4 ?_ ?_|refine W5 rfl ?_ ?_|refine W6 ?_ ?_|refine AppN.mk ?_|refine X1 (W1 rfl ?_ ?_)|refine X1 (W2 rfl ?_ ?_)|refine X2 (W7 rfl ?_ ?_)|refine X3 (W7 rfl ?_ ?_)|refine X4 (W7 rfl ?_ ?_)|refine X5 (W7 rfl ?_ ?_))
    all_goals (try (conv => whnf))
    all_goals (try first|exact Ob.mk (u8_bnd _)|(refine Ob.mk ?_;first|exact True.intro|assumption|omega|(try simp only [ZA,ZB,ZC,ZD,ZE,ZF,ZG,ZH,ZI,ZJ,ZK,ZL,ZM,ZN,ZO,Int.toNat_natCast,UInt8.ofNat_toNat,cast_eq] at *;omega)))
    all_goals (try first|(show (_:Int) = _;omega)|(show tupSV _ = _;with_unfolding_all rfl)|((first|show (_:Nat) ≤ _|show (_:Nat) ≤ _ ∧ (_:Nat) ≤ _|show (_:Int) ≤ _ ∧ (_:Int) ≤ _ ∧ (_:Int) ≤ _ ∧ (_:Int) ≤ _);(simp <;> omega)))
    all_goals (try (exfalso; have h : ((tagP s).2.2.2.2.1 == 0) = false := ‹_›; rw [hz] at h; exact absurd h (by decide)))
    all_goals (first | (rw [eT]; done) | (rw [eT]; rfl) | (rw [eN]; done) | (rw [eN]; rfl) | (rw [eO]; done) | (rw [eO]; rfl) | omega | trace_state)
  · have eN : mkN s f = (tagP s).2.2.2.2.1 := if_neg hz
    have eO : mkO s f = (tagP s).2.2.2.2.2 := if_neg hz
    have eT : mkT s f = ((tagP s).1, (tagP s).2.1, (tagP s).2.2.1, (tagP s).2.2.2.1, []) := if_neg hz
    repeat' ((conv => whnf);first|(with_reducible first|rfl|exact absTF|exact absFT)|exact True.intro|intro _|refine And.intro ?_ ?_|refine Fin.mk ?_|refine W1 rfl ?_ ?_|refine W2 rfl ?_ ?_|refine W3 rfl ?_ ?_|refine W4 ?_ ?_|refine W5 rfl ?_ ?_|refine W6 ?_ ?_|refine AppN.mk ?_|refine X1 (W1 rfl ?_ ?_)|refine X1 (W2 rfl ?_ ?_)|refine X2 (W7 rfl ?_ ?_)|refine X3 (W7 rfl ?_ ?_)|refine X4 (W7 rfl ?_ ?_)|refine X5 (W7 rfl ?_ ?_))
    all_goals (try (conv => whnf))
    all_goals (try first|exact Ob.mk (u8_bnd _)|(refine Ob.mk ?_;first|exact True.intro|assumption|omega|(try simp only [ZA,ZB,ZC,ZD,ZE,ZF,ZG,ZH,ZI,ZJ,ZK,ZL,ZM,ZN,ZO,Int.toNat_natCast,UInt8.ofNat_toNat,cast_eq] at *;omega)))
    all_goals (try first|(show (_:Int) = _;omega)|(show tupSV _ = _;with_unfolding_all rfl)|((first|show (_:Nat) ≤ _|show (_:Nat) ≤ _ ∧ (_:Nat) ≤ _|show (_:Int) ≤ _ ∧ (_:Int) ≤ _ ∧ (_:Int) ≤ _ ∧ (_:Int) ≤ _);(simp <;> omega)))
    all_goals (try (exfalso; have h : ((tagP s).2.2.2.2.1 == 0) = true := ‹_›; exact hz (by simpa using h)))
    all_goals (first | (rw [eT]; done) | (rw [eT]; rfl) | (rw [eN]; done) | (rw [eN]; rfl) | (rw [eO]; done) | (rw [eO]; rfl) | omega | trace_state)
instance lTake (s : List UInt8) (k : Int) : FnM BB 15 [.loc 0 0, .int .i64 k] [(0, .box [.str s])] (0 ≤ k ∧ k ≤ s.length) (.str (s.take k.toNat)) [(0, .box [.str (s.drop k.toNat)])] := by
  refine FnM.intro (N := 22) [0, 1, 4, 5] [] 1 Tryz.call15 Tryz.func15 rfl rfl (by kernel_rfl) (fun hpre => ?_)
  repeat' ((conv => whnf);first|(with_reducible first|rfl|exact absTF|exact absFT)|exact True.intro|intro _|refine And.intro ?_ ?_|refine Fin.mk ?_|refine W1 rfl ?_ ?_|refine W2 rfl ?_ ?_|refine W3 rfl ?_ ?_|refine W4 ?_ ?_|refine W5 rfl ?_ ?_|refine W6 ?_ ?_|refine AppN.mk ?_|refine X1 (W1 rfl ?_ ?_)|refine X1 (W2 rfl ?_ ?_)|refine X2 (W7 rfl ?_ ?_)|refine X3 (W7 rfl ?_ ?_)|refine X4 (W7 rfl ?_ ?_)|refine X5 (W7 rfl ?_ ?_))
  all_goals (try (conv => whnf))
  all_goals (try first|exact Ob.mk (u8_bnd _)|(refine Ob.mk ?_;first|exact True.intro|assumption|omega|(try simp only [ZA,ZB,ZC,ZD,ZE,ZF,ZG,ZH,ZI,ZJ,ZK,ZL,ZM,ZN,ZO,Int.toNat_natCast,UInt8.ofNat_toNat,cast_eq] at *;omega)))
  all_goals (try first|(show (_:Int) = _;omega)|(show tupSV _ = _;with_unfolding_all rfl)|((first|show (_:Nat) ≤ _|show (_:Nat) ≤ _ ∧ (_:Nat) ≤ _|show (_:Int) ≤ _ ∧ (_:Int) ≤ _ ∧ (_:Int) ≤ _ ∧ (_:Int) ≤ _);(simp <;> omega)))
  all_goals (first | rfl | omega | exact ⟨by omega, by omega⟩ | trace_state)
instance lSigns (s : List UInt8) : Fn BB 38 [.str s] True (.fn 71 [.el .str [s] 0 0]) := by
  refine Fn.intro (N := 4) [0, 1, 2] [] Tryz.call38 Tryz.func38 rfl rfl (by kernel_rfl) (fun hpre => ?_)
  repeat' ((conv => whnf);first|(with_reducible first|rfl|exact absTF|exact absFT)|exact True.intro|intro _|refine And.intro ?_ ?_|refine Fin.mk ?_|refine W1 rfl ?_ ?_|refine W2 rfl ?_ ?_|refine W3 rfl ?_ ?_|refine W4 ?_ ?_|refine W5 rfl ?_ ?_|refine W6 ?_ ?_|refine AppN.mk ?_|refine X1 (W1 rfl ?_ ?_)|refine X1 (W2 rfl ?_ ?_)|refine X2 (W7 rfl ?_ ?_)|refine X3 (W7 rfl ?_ ?_)|refine X4 (W7 rfl ?_ ?_)|refine X5 (W7 rfl ?_ ?_))
  all_goals (try (conv => whnf))
  all_goals (try first|exact Ob.mk (u8_bnd _)|(refine Ob.mk ?_;first|exact True.intro|assumption|omega|(try simp only [ZA,ZB,ZC,ZD,ZE,ZF,ZG,ZH,ZI,ZJ,ZK,ZL,ZM,ZN,ZO,Int.toNat_natCast,UInt8.ofNat_toNat,cast_eq] at *;omega)))
  all_goals (try first|(show (_:Int) = _;omega)|(show tupSV _ = _;with_unfolding_all rfl)|((first|show (_:Nat) ≤ _|show (_:Nat) ≤ _ ∧ (_:Nat) ≤ _|show (_:Int) ≤ _ ∧ (_:Int) ≤ _ ∧ (_:Int) ≤ _ ∧ (_:Int) ≤ _);(simp <;> omega)))
  all_goals rfl
theorem drop_facts {l : List Nat} {i a : Nat} {r : List Nat} (h : l.drop i = a :: r) : i < l.length ∧ l.getD i 0 = a ∧ l.drop (i + 1) = r := by
  have hl : i < l.length := by
    rcases Nat.lt_or_ge i l.length with q | q
    · exact q
    · rw [List.drop_eq_nil_of_le q] at h; cases h
  rw [List.drop_eq_getElem_cons hl] at h
  injection h with h1 h2
  exact ⟨hl, by simp [List.getD, List.getElem?_eq_getElem hl, h1], h2⟩
instance lIBy (y : YS) (s : List UInt8) (c : Int) : Fn (BB.withY y) 47 [.str s, .int .u8 c] True (.int .i64 (Lib.indexByte s c.toNat.toUInt8)) := withY_fn
instance lSg (s : List UInt8) : It BB 71 [.el .str [s] 0 0] (s.length ≤ 100000) (sgn s).length (fun i => [.int .i64 (((sgn s).getD i 0 : Nat) : Int)]) := by
  refine It.intro (N := 24) [0, 1, 3, 4, 8, 16, 23] [] 0 Tryz.call71 Tryz.func71 rfl rfl (by kernel_rfl) (fun hpre yl => ?_)
  repeat' ((conv => whnf);first|(with_reducible first|rfl|exact absTF|exact absFT)|exact True.intro|intro _|refine And.intro ?_ ?_|refine Fin.mk ?_|refine W1 rfl ?_ ?_|refine W2 rfl ?_ ?_|refine W3 rfl ?_ ?_|refine W4 ?_ ?_|refine W5 rfl ?_ ?_|refine W6 ?_ ?_|refine AppN.mk ?_|refine X1 (W1 rfl ?_ ?_)|refine X1 (W2 rfl ?_ ?_)|refine X2 (W7 rfl ?_ ?_)|refine X3 (W7 rfl ?_ ?_)|refine X4 (W7 rfl ?_ ?_)|refine X5 (W7 rfl ?_ ?_))
  all_goals (try (conv => whnf))
  all_goals simp only [List.getD_cons_zero] at *
  all_goals (try first|exact Ob.mk (u8_bnd _)|(refine Ob.mk ?_;first|exact True.intro|assumption|omega|(try simp only [ZA,ZB,ZC,ZD,ZE,ZF,ZG,ZH,ZI,ZJ,ZK,ZL,ZM,ZN,ZO,Int.toNat_natCast,UInt8.ofNat_toNat,cast_eq] at *;omega)))
  all_goals (try first|(show (_:Int) = _;omega)|(show tupSV _ = _;with_unfolding_all rfl)|((first|show (_:Nat) ≤ _|show (_:Nat) ≤ _ ∧ (_:Nat) ≤ _|show (_:Int) ≤ _ ∧ (_:Int) ≤ _ ∧ (_:Int) ≤ _ ∧ (_:Int) ≤ _);(simp <;> omega)))
  refine LoopStop.mk (α := Nat × Nat) (fun a => [(3, .int .i64 (a.2 : Nat))]) (fun a => [(GID, .gh (some a.1))]) 20 (fun a => 1 ≤ a.2 ∧ a.2 ≤ s.length + 1 ∧ a.1 ≤ (sgn s).length ∧ posF s (s.length - a.2) a.2 = (sgn s).drop a.1) (fun a => s.length + 1 - a.2) (0, 1) ⟨by simp, by simp, by simp, rfl⟩ ?_ (fun a ha => ?_)
  · repeat' ((conv => whnf);first|(with_reducible first|rfl|exact absTF|exact absFT)|exact True.intro|intro _|refine And.intro ?_ ?_|refine Fin.mk ?_|refine W1 rfl ?_ ?_|refine W2 rfl ?_ ?_|refine W3 rfl ?_ ?_|refine W4 ?_ ?_|refine W5 rfl ?_ ?_|refine W6 ?_ ?_|refine AppN.mk ?_|refine X1 (W1 rfl ?_ ?_)|refine X1 (W2 rfl ?_ ?_)|refine X2 (W7 rfl ?_ ?_)|refine X3 (W7 rfl ?_ ?_)|refine X4 (W7 rfl ?_ ?_)|refine X5 (W7 rfl ?_ ?_))
    all_goals (try (conv => whnf))
    all_goals (try first|exact Ob.mk (u8_bnd _)|(refine Ob.mk ?_;first|exact True.intro|assumption|omega|(try simp only [ZA,ZB,ZC,ZD,ZE,ZF,ZG,ZH,ZI,ZJ,ZK,ZL,ZM,ZN,ZO,Int.toNat_natCast,UInt8.ofNat_toNat,cast_eq] at *;omega)))
    all_goals (try first|(show (_:Int) = _;omega)|(show tupSV _ = _;with_unfolding_all rfl)|((first|show (_:Nat) ≤ _|show (_:Nat) ≤ _ ∧ (_:Nat) ≤ _|show (_:Int) ≤ _ ∧ (_:Int) ≤ _ ∧ (_:Int) ≤ _ ∧ (_:Int) ≤ _);(simp <;> omega)))
    all_goals (try (first | (exact rfl) | (rename_i hx; exact absFT hx) | (rename_i hx; exact absTF hx)))
  · obtain ⟨i, p⟩ := a
    obtain ⟨h1, h2, h3, h4⟩ := ha
    dsimp only at h1 h2 h3 h4
    have e60 : (60 : Int).toNat.toUInt8 = 60 := rfl
    have kn : p ≤ s.length → Lib.indexByte (s.drop p) 60 < 0 → i = (sgn s).length := fun hp hk => by
      rw [sg_none hk hp] at h4
      have := List.drop_eq_nil_iff.1 h4.symm
      omega
    have ks : p ≤ s.length → ¬ Lib.indexByte (s.drop p) 60 < 0 → p + (Lib.indexByte (s.drop p) 60).toNat < s.length ∧ i < (sgn s).length ∧ (sgn s).getD i 0 = p + (Lib.indexByte (s.drop p) 60).toNat ∧ posF s (s.length - (p + (Lib.indexByte (s.drop p) 60).toNat + 1)) (p + (Lib.indexByte (s.drop p) 60).toNat + 1) = (sgn s).drop (i + 1) := fun hp hk => by
      obtain ⟨q1, q2⟩ := sg_some hk hp
      rw [q2] at h4
      obtain ⟨q3, q4, q5⟩ := drop_facts h4.symm
      exact ⟨q1, q3, q4, q5.symm⟩
    have kl : Lib.indexByte (s.drop p) 60 < s.length := by
      rcases Int.lt_or_le (Lib.indexByte (s.drop p) 60) 0 with q | q
      · omega
      · rcases Nat.lt_or_ge s.length p with q' | q'
        · rw [List.drop_eq_nil_of_le (by omega)] at q; exact absurd q (by decide)
        · have := (ks q' (by omega)).1; omega
    have ke : s.length ≤ p → i = (sgn s).length := fun hp => by
      rw [show s.length - p = 0 by omega] at h4
      have := List.drop_eq_nil_iff.1 (show (sgn s).drop i = [] from h4.symm)
      omega
    repeat' ((conv => whnf);first|(with_reducible first|rfl|exact absTF|exact absFT)|exact True.intro|intro _|refine And.intro ?_ ?_|refine Fin.mk ?_|refine W1 rfl ?_ ?_|refine W2 rfl ?_ ?_|refine W3 rfl ?_ ?_|refine W4 ?_ ?_|refine W5 rfl ?_ ?_|refine W6 ?_ ?_|refine AppN.mk ?_|refine X1 (W1 rfl ?_ ?_)|refine X1 (W2 rfl ?_ ?_)|refine X2 (W7 rfl ?_ ?_)|refine X3 (W7 rfl ?_ ?_)|refine X4 (W7 rfl ?_ ?_)|refine X5 (W7 rfl ?_ ?_))
    all_goals (try (conv => whnf))
    all_goals (try simp only [List.getD_cons_zero] at *)
    all_goals (try first|exact Ob.mk (u8_bnd _)|(refine Ob.mk ?_;first|exact True.intro|assumption|omega|(try simp only [ZA,ZB,ZC,ZD,ZE,ZF,ZG,ZH,ZI,ZJ,ZK,ZL,ZM,ZN,ZO,Int.toNat_natCast,UInt8.ofNat_toNat,cast_eq] at *;omega)))
    all_goals (try first|(show (_:Int) = _;omega)|(show tupSV _ = _;with_unfolding_all rfl)|((first|show (_:Nat) ≤ _|show (_:Nat) ≤ _ ∧ (_:Nat) ≤ _|show (_:Int) ≤ _ ∧ (_:Int) ≤ _ ∧ (_:Int) ≤ _ ∧ (_:Int) ≤ _);(simp <;> omega)))
    all_goals (try (first | (exact rfl) | (rename_i hx; exact absFT hx) | (rename_i hx; exact absTF hx)))
    all_goals (try simp only [Int.toNat_natCast, e60] at *)
    all_goals (try (have b1 := of_decide_eq_true ‹decide ((p : Int) < (s.length : Int)) = true›))
    all_goals (try (have b1 := of_decide_eq_false ‹decide ((p : Int) < (s.length : Int)) = false›; exact ke (by omega)))
    all_goals (try (exact kn (by omega) (of_decide_eq_true ‹decide (Lib.indexByte (List.drop p s) 60 < 0) = true›)))
    all_goals (have b2 := of_decide_eq_false ‹decide (Lib.indexByte (List.drop p s) 60 < 0) = false›; obtain ⟨q1, q2, q3, q4⟩ := ks (by omega) b2)
    all_goals (try (exfalso; exact absurd ‹(!true) = true› (by decide)))
    all_goals (try (exfalso; exact absurd ‹(!false) = false› (by decide)))
    all_goals (first | omega | (unfold InI64; omega) | (rw [q3]; omega) | exact ⟨by omega, by omega⟩ | skip)
    refine Rnd.mk ⟨(i + 1, p + (Lib.indexByte (s.drop p) 60).toNat + 1), ⟨by simp only; omega, by simp only; omega, q2, q4⟩, by simp only; omega, ?_⟩
    repeat' ((conv => whnf);first|(with_reducible first|rfl|exact absTF|exact absFT)|exact True.intro|intro _|refine And.intro ?_ ?_|refine Fin.mk ?_|refine W1 rfl ?_ ?_|refine W2 rfl ?_ ?_|refine W3 rfl ?_ ?_|refine W4 ?_ ?_|refine W5 rfl ?_ ?_|refine W6 ?_ ?_|refine AppN.mk ?_|refine X1 (W1 rfl ?_ ?_)|refine X1 (W2 rfl ?_ ?_)|refine X2 (W7 rfl ?_ ?_)|refine X3 (W7 rfl ?_ ?_)|refine X4 (W7 rfl ?_ ?_)|refine X5 (W7 rfl ?_ ?_))
    all_goals (try (conv => whnf))
    all_goals (try first|exact Ob.mk (u8_bnd _)|(refine Ob.mk ?_;first|exact True.intro|assumption|omega|(try simp only [ZA,ZB,ZC,ZD,ZE,ZF,ZG,ZH,ZI,ZJ,ZK,ZL,ZM,ZN,ZO,Int.toNat_natCast,UInt8.ofNat_toNat,cast_eq] at *;omega)))
    all_goals (try first|(show (_:Int) = _;omega)|(show tupSV _ = _;with_unfolding_all rfl)|((first|show (_:Nat) ≤ _|show (_:Nat) ≤ _ ∧ (_:Nat) ≤ _|show (_:Int) ≤ _ ∧ (_:Int) ≤ _ ∧ (_:Int) ≤ _ ∧ (_:Int) ≤ _);(simp <;> omega)))
    all_goals (first | rfl | omega | (unfold InI64; omega) | trace_state)
end Go.Vc

namespace Go.Vc
open Go.Proofs
set_option maxRecDepth 10000
set_option maxHeartbeats 4000000
theorem fst_cons (s : List UInt8) (f : Bool) {i : Nat} (h : i < (sgn s).length) : fstP s f ((sgn s).drop i) = if 0 < mkN (s.drop ((sgn s).getD i 0)) f then (sgn s).getD i 0 else fstP s f ((sgn s).drop (i + 1)) := by
  rw [List.drop_eq_getElem_cons h, fstP]
  simp [List.getD, List.getElem?_eq_getElem h]
instance lText (s : List UInt8) (f : Bool) : FnM BB 23 [.loc 0 0, .bool f] [(0, .box [.str s])] (s ≠ [] ∧ s.length ≤ 50000) (.agg [.int .i64 3, .str [], .nils, .bool false, .str (decF (s.take (txN s f)) false)]) [(0, .box [.str (s.drop (txN s f))])] := by
  refine FnM.intro (N := 41) [0, 1, 2, 3, 4, 5, 6, 8, 19, 20, 34] [(4, [0, 0, 0, 0, 0, 0, 0, 6, 6, 6, 6, 6, 6, 6, 6, 6])] 1 Tryz.call23 Tryz.func23 rfl rfl (by kernel_rfl) (fun hpre => ?_)
  obtain ⟨p1, p2⟩ := hpre
  have hb := txN_le s f p1
  have hs := txN_sg s f
  repeat' ((conv => whnf);first|(with_reducible first|rfl|exact absTF|exact absFT)|exact True.intro|intro _|refine And.intro ?_ ?_|refine Fin.mk ?_|refine W1 rfl ?_ ?_|refine W2 rfl ?_ ?_|refine W3 rfl ?_ ?_|refine W4 ?_ ?_|refine W5 rfl ?_ ?_|refine W6 ?_ ?_|refine AppN.mk ?_|refine X1 (W1 rfl ?_ ?_)|refine X1 (W2 rfl ?_ ?_)|refine X2 (W7 rfl ?_ ?_)|refine X3 (W7 rfl ?_ ?_)|refine X4 (W7 rfl ?_ ?_)|refine X5 (W7 rfl ?_ ?_))
  all_goals (try (conv => whnf))
  all_goals (try first|exact Ob.mk (u8_bnd _)|(refine Ob.mk ?_;first|exact True.intro|assumption|omega|(try simp only [ZA,ZB,ZC,ZD,ZE,ZF,ZG,ZH,ZI,ZJ,ZK,ZL,ZM,ZN,ZO,Int.toNat_natCast,UInt8.ofNat_toNat,cast_eq] at *;omega)))
  all_goals (try first|(show (_:Int) = _;omega)|(show tupSV _ = _;with_unfolding_all rfl)|((first|show (_:Nat) ≤ _|show (_:Nat) ≤ _ ∧ (_:Nat) ≤ _|show (_:Int) ≤ _ ∧ (_:Int) ≤ _ ∧ (_:Int) ≤ _ ∧ (_:Int) ≤ _);(simp <;> omega)))
  refine RangeStop.mk (α := Unit) ⟨by omega⟩ rfl (fun _ => [(0, .box [.str s])]) 40 (fun i _ => txN s f = fstP s f ((sgn s).drop i)) () (by rw [hs]; rfl) ?_ (fun i a hC hi => ?_) (fun a hC => ?_)
  · repeat' ((conv => whnf);first|(with_reducible first|rfl|exact absTF|exact absFT)|exact True.intro|intro _|refine And.intro ?_ ?_|refine Fin.mk ?_|refine W1 rfl ?_ ?_|refine W2 rfl ?_ ?_|refine W3 rfl ?_ ?_|refine W4 ?_ ?_|refine W5 rfl ?_ ?_|refine W6 ?_ ?_|refine AppN.mk ?_|refine X1 (W1 rfl ?_ ?_)|refine X1 (W2 rfl ?_ ?_)|refine X2 (W7 rfl ?_ ?_)|refine X3 (W7 rfl ?_ ?_)|refine X4 (W7 rfl ?_ ?_)|refine X5 (W7 rfl ?_ ?_))
    all_goals (try (conv => whnf))
    all_goals (try first|exact Ob.mk (u8_bnd _)|(refine Ob.mk ?_;first|exact True.intro|assumption|omega|(try simp only [ZA,ZB,ZC,ZD,ZE,ZF,ZG,ZH,ZI,ZJ,ZK,ZL,ZM,ZN,ZO,Int.toNat_natCast,UInt8.ofNat_toNat,cast_eq] at *;omega)))
    all_goals (try first|(show (_:Int) = _;omega)|(show tupSV _ = _;with_unfolding_all rfl)|((first|show (_:Nat) ≤ _|show (_:Nat) ≤ _ ∧ (_:Nat) ≤ _|show (_:Int) ≤ _ ∧ (_:Int) ≤ _ ∧ (_:Int) ≤ _ ∧ (_:Int) ≤ _);(simp <;> omega)))
    all_goals trace_state
  · rw [fst_cons s f hi] at hC
    have hg := sgn_bnd s hi
    repeat' ((conv => whnf);first|(with_reducible first|rfl|exact absTF|exact absFT)|exact True.intro|intro _|refine And.intro ?_ ?_|refine Fin.mk ?_|refine W1 rfl ?_ ?_|refine W2 rfl ?_ ?_|refine W3 rfl ?_ ?_|refine W4 ?_ ?_|refine W5 rfl ?_ ?_|refine W6 ?_ ?_|refine AppN.mk ?_|refine X1 (W1 rfl ?_ ?_)|refine X1 (W2 rfl ?_ ?_)|refine X2 (W7 rfl ?_ ?_)|refine X3 (W7 rfl ?_ ?_)|refine X4 (W7 rfl ?_ ?_)|refine X5 (W7 rfl ?_ ?_))
    all_goals (try (conv => whnf))
    all_goals (try first|exact Ob.mk (u8_bnd _)|(refine Ob.mk ?_;first|exact True.intro|assumption|omega|(try simp only [ZA,ZB,ZC,ZD,ZE,ZF,ZG,ZH,ZI,ZJ,ZK,ZL,ZM,ZN,ZO,Int.toNat_natCast,UInt8.ofNat_toNat,cast_eq] at *;omega)))
    all_goals (try first|(show (_:Int) = _;omega)|(show tupSV _ = _;with_unfolding_all rfl)|((first|show (_:Nat) ≤ _|show (_:Nat) ≤ _ ∧ (_:Nat) ≤ _|show (_:Int) ≤ _ ∧ (_:Int) ≤ _ ∧ (_:Int) ≤ _ ∧ (_:Int) ≤ _);(simp <;> omega)))
    all_goals (try (first | (exact rfl) | (rename_i hx; exact absFT hx) | (rename_i hx; exact absTF hx)))
    all_goals (try simp only [Int.toNat_natCast] at *)
    · rw [hC, if_pos (of_decide_eq_true ‹decide (mkN (List.drop ((sgn s).getD i 0) s) f > 0) = true›)]
    · rw [hC, if_pos (of_decide_eq_true ‹decide (mkN (List.drop ((sgn s).getD i 0) s) f > 0) = true›)]
    · refine Rnd.mk ⟨(), by rw [hC, if_neg (of_decide_eq_false ‹decide (mkN (List.drop ((sgn s).getD i 0) s) f > 0) = false›)], ?_⟩
      repeat' ((conv => whnf);first|(with_reducible first|rfl|exact absTF|exact absFT)|exact True.intro|intro _|refine And.intro ?_ ?_|refine Fin.mk ?_|refine W1 rfl ?_ ?_|refine W2 rfl ?_ ?_|refine W3 rfl ?_ ?_|refine W4 ?_ ?_|refine W5 rfl ?_ ?_|refine W6 ?_ ?_|refine AppN.mk ?_|refine X1 (W1 rfl ?_ ?_)|refine X1 (W2 rfl ?_ ?_)|refine X2 (W7 rfl ?_ ?_)|refine X3 (W7 rfl ?_ ?_)|refine X4 (W7 rfl ?_ ?_)|refine X5 (W7 rfl ?_ ?_))
      all_goals (try (conv => whnf))
      all_goals (try first|exact Ob.mk (u8_bnd _)|(refine Ob.mk ?_;first|exact True.intro|assumption|omega|(try simp only [ZA,ZB,ZC,ZD,ZE,ZF,ZG,ZH,ZI,ZJ,ZK,ZL,ZM,ZN,ZO,Int.toNat_natCast,UInt8.ofNat_toNat,cast_eq] at *;omega)))
      all_goals (try first|(show (_:Int) = _;omega)|(show tupSV _ = _;with_unfolding_all rfl)|((first|show (_:Nat) ≤ _|show (_:Nat) ≤ _ ∧ (_:Nat) ≤ _|show (_:Int) ≤ _ ∧ (_:Int) ≤ _ ∧ (_:Int) ≤ _ ∧ (_:Int) ≤ _);(simp <;> omega)))
      all_goals (first | rfl | omega | trace_state)
  · have hC : txN s f = s.length := by rw [hC, List.drop_length]; rfl
    repeat' ((conv => whnf);first|(with_reducible first|rfl|exact absTF|exact absFT)|exact True.intro|intro _|refine And.intro ?_ ?_|refine Fin.mk ?_|refine W1 rfl ?_ ?_|refine W2 rfl ?_ ?_|refine W3 rfl ?_ ?_|refine W4 ?_ ?_|refine W5 rfl ?_ ?_|refine W6 ?_ ?_|refine AppN.mk ?_|refine X1 (W1 rfl ?_ ?_)|refine X1 (W2 rfl ?_ ?_)|refine X2 (W7 rfl ?_ ?_)|refine X3 (W7 rfl ?_ ?_)|refine X4 (W7 rfl ?_ ?_)|refine X5 (W7 rfl ?_ ?_))
    all_goals (try (conv => whnf))
    all_goals (try first|exact Ob.mk (u8_bnd _)|(refine Ob.mk ?_;first|exact True.intro|assumption|omega|(try simp only [ZA,ZB,ZC,ZD,ZE,ZF,ZG,ZH,ZI,ZJ,ZK,ZL,ZM,ZN,ZO,Int.toNat_natCast,UInt8.ofNat_toNat,cast_eq] at *;omega)))
    all_goals (try first|(show (_:Int) = _;omega)|(show tupSV _ = _;with_unfolding_all rfl)|((first|show (_:Nat) ≤ _|show (_:Nat) ≤ _ ∧ (_:Nat) ≤ _|show (_:Int) ≤ _ ∧ (_:Int) ≤ _ ∧ (_:Int) ≤ _ ∧ (_:Int) ≤ _);(simp <;> omega)))
    all_goals (try rw [hC, Int.toNat_natCast])
    all_goals trace_state
theorem mk_none (s : List UInt8) (f : Bool) (h0 : s ≠ []) (h : (mkN s f == 0) = true) : datP f s = ((3, [], [], false, decF (s.take (txN s f)) false), s.drop (txN s f)) := datP_txt f s h0 (by simpa using h)
instance lData (s : List UInt8) (f : Bool) : FnM BB 13 [.loc 0 0, .bool f] [(0, .box [.str s])] (s.length ≤ 50000) (.agg [.int .i64 (datP f s).1.1, .str (datP f s).1.2.1, .own 1, .bool (datP f s).1.2.2.2.1, .str (datP f s).1.2.2.2.2]) [(0, .box [.str (datP f s).2]), (1, .own attrTy (datP f s).1.2.2.1)] := by
  refine FnM.intro (N := 34) [0, 1, 4, 5, 6, 7, 12, 24, 31] [] 1 Tryz.call13 Tryz.func13 rfl rfl (by kernel_rfl) (fun hpre => ?_)
  repeat' ((conv => whnf);first|(with_reducible first|rfl|exact absTF|exact absFT)|exact True.intro|intro _|refine And.intro ?_ ?_|refine Fin.mk ?_|refine W1 rfl ?_ ?_|refine W2 rfl ?_ ?_|refine W3 rfl ?_ ?_|refine W4 ?_ ?_|refine W5 rfl ?_ ?_|refine W6 ?_ ?_|refine AppN.mk ?_|refine X1 (W1 rfl ?_ ?_)|refine X1 (W2 rfl ?_ ?_)|refine X2 (W7 rfl ?_ ?_)|refine X3 (W7 rfl ?_ ?_)|refine X4 (W7 rfl ?_ ?_)|refine X5 (W7 rfl ?_ ?_))
  all_goals (try (conv => whnf))
  all_goals (try first|exact Ob.mk (u8_bnd _)|(refine Ob.mk ?_;first|exact True.intro|assumption|omega|(try simp only [ZA,ZB,ZC,ZD,ZE,ZF,ZG,ZH,ZI,ZJ,ZK,ZL,ZM,ZN,ZO,Int.toNat_natCast,UInt8.ofNat_toNat,cast_eq] at *;omega)))
  all_goals (try first|(show (_:Int) = _;omega)|(show tupSV _ = _;with_unfolding_all rfl)|((first|show (_:Nat) ≤ _|show (_:Nat) ≤ _ ∧ (_:Nat) ≤ _|show (_:Int) ≤ _ ∧ (_:Int) ≤ _ ∧ (_:Int) ≤ _ ∧ (_:Int) ≤ _);(simp <;> omega)))
  refine LoopStop.mk (α := List UInt8) (fun _ => []) (fun x => [(0, .box [.str x])]) 40 (fun x => x.length ≤ s.length ∧ datP f x = datP f s) (fun x => x.length) s ⟨by omega, rfl⟩ ?_ (fun x hx => ?_)
  · repeat' ((conv => whnf);first|(with_reducible first|rfl|exact absTF|exact absFT)|exact True.intro|intro _|refine And.intro ?_ ?_|refine Fin.mk ?_|refine W1 rfl ?_ ?_|refine W2 rfl ?_ ?_|refine W3 rfl ?_ ?_|refine W4 ?_ ?_|refine W5 rfl ?_ ?_|refine W6 ?_ ?_|refine AppN.mk ?_|refine X1 (W1 rfl ?_ ?_)|refine X1 (W2 rfl ?_ ?_)|refine X2 (W7 rfl ?_ ?_)|refine X3 (W7 rfl ?_ ?_)|refine X4 (W7 rfl ?_ ?_)|refine X5 (W7 rfl ?_ ?_))
    all_goals (try (conv => whnf))
    all_goals (try first|exact Ob.mk (u8_bnd _)|(refine Ob.mk ?_;first|exact True.intro|assumption|omega|(try simp only [ZA,ZB,ZC,ZD,ZE,ZF,ZG,ZH,ZI,ZJ,ZK,ZL,ZM,ZN,ZO,Int.toNat_natCast,UInt8.ofNat_toNat,cast_eq] at *;omega)))
    all_goals (try first|(show (_:Int) = _;omega)|(show tupSV _ = _;with_unfolding_all rfl)|((first|show (_:Nat) ≤ _|show (_:Nat) ≤ _ ∧ (_:Nat) ≤ _|show (_:Int) ≤ _ ∧ (_:Int) ≤ _ ∧ (_:Int) ≤ _ ∧ (_:Int) ≤ _);(simp <;> omega)))
    all_goals (first | rfl | trace_state)
  · obtain ⟨h1, h2⟩ := hx
    have hb := mkN_all x f
    have hn : (x != []) = false → datP f s = (tok0, []) := fun h => by
      have : x = [] := by simpa using h
      rw [← h2, this]; rfl
    have hx0 : (x != []) = true → x ≠ [] := fun h => by simpa using h
    have ht : (x != []) = true → (mkN x f == 0) = true → datP f s = ((3, [], [], false, decF (x.take (txN x f)) false), x.drop (txN x f)) := fun h h' => by
      rw [← h2]; exact mk_none x f (hx0 h) h'
    have ho : (x != []) = true → (mkN x f == 0) = false → mkO x f = true → datP f s = (mkT x f, x.drop (mkN x f).toNat) := fun h h' h'' => by
      rw [← h2]; exact datP_ok f x (hx0 h) (by simpa using h') h''
    have hs : (x != []) = true → (mkN x f == 0) = false → mkO x f = false → datP f x = datP f (x.drop (mkN x f).toNat) := fun h h' h'' => datP_step f x (hx0 h) (by simpa using h') h''
    repeat' ((conv => whnf);first|(with_reducible first|rfl|exact absTF|exact absFT)|exact True.intro|intro _|refine And.intro ?_ ?_|refine Fin.mk ?_|refine W1 rfl ?_ ?_|refine W2 rfl ?_ ?_|refine W3 rfl ?_ ?_|refine W4 ?_ ?_|refine W5 rfl ?_ ?_|refine W6 ?_ ?_|refine AppN.mk ?_|refine X1 (W1 rfl ?_ ?_)|refine X1 (W2 rfl ?_ ?_)|refine X2 (W7 rfl ?_ ?_)|refine X3 (W7 rfl ?_ ?_)|refine X4 (W7 rfl ?_ ?_)|refine X5 (W7 rfl ?_ ?_))
    all_goals (try (conv => whnf))
    all_goals (try first|exact Ob.mk (u8_bnd _)|(refine Ob.mk ?_;first|exact True.intro|assumption|omega|(try simp only [ZA,ZB,ZC,ZD,ZE,ZF,ZG,ZH,ZI,ZJ,ZK,ZL,ZM,ZN,ZO,Int.toNat_natCast,UInt8.ofNat_toNat,cast_eq] at *;omega)))
    all_goals (try first|(show (_:Int) = _;omega)|(show tupSV _ = _;with_unfolding_all rfl)|((first|show (_:Nat) ≤ _|show (_:Nat) ≤ _ ∧ (_:Nat) ≤ _|show (_:Int) ≤ _ ∧ (_:Int) ≤ _ ∧ (_:Int) ≤ _ ∧ (_:Int) ≤ _);(simp <;> omega)))
    all_goals (try (have q := hn ‹_›))
    all_goals (try (have q := ht ‹_› ‹_›))
    all_goals (try (have q := ho ‹_› ‹_› ‹_›))
    all_goals (try (have hnil : x = [] := by simpa using ‹(!x == []) = false›))
    all_goals (first | (rw [q]; done) | (rw [q]; rfl) | omega | exact ⟨by omega, by omega⟩ | exact ⟨hx0 ‹_›, by omega⟩ | exact hx0 ‹_› | (rw [q, hnil]; done) | (rw [q, hnil]; rfl) | skip)
    have h0 : x ≠ [] := hx0 ‹_›
    have hz : mkN x f ≠ 0 := by simpa using ‹(mkN x f == 0) = false›
    have hp := List.length_pos_iff.mpr h0
    refine Rnd.mk ⟨x.drop (mkN x f).toNat, ⟨by rw [List.length_drop]; omega, by rw [← h2]; exact (hs ‹_› ‹_› ‹_›).symm⟩, by rw [List.length_drop]; omega, ?_⟩
    repeat' ((conv => whnf);first|(with_reducible first|rfl|exact absTF|exact absFT)|exact True.intro|intro _|refine And.intro ?_ ?_|refine Fin.mk ?_|refine W1 rfl ?_ ?_|refine W2 rfl ?_ ?_|refine W3 rfl ?_ ?_|refine W4 ?_ ?_|refine W5 rfl ?_ ?_|refine W6 ?_ ?_|refine AppN.mk ?_|refine X1 (W1 rfl ?_ ?_)|refine X1 (W2 rfl ?_ ?_)|refine X2 (W7 rfl ?_ ?_)|refine X3 (W7 rfl ?_ ?_)|refine X4 (W7 rfl ?_ ?_)|refine X5 (W7 rfl ?_ ?_))
    all_goals (try (conv => whnf))
    all_goals (try first|exact Ob.mk (u8_bnd _)|(refine Ob.mk ?_;first|exact True.intro|assumption|omega|(try simp only [ZA,ZB,ZC,ZD,ZE,ZF,ZG,ZH,ZI,ZJ,ZK,ZL,ZM,ZN,ZO,Int.toNat_natCast,UInt8.ofNat_toNat,cast_eq] at *;omega)))
    all_goals (try first|(show (_:Int) = _;omega)|(show tupSV _ = _;with_unfolding_all rfl)|((first|show (_:Nat) ≤ _|show (_:Nat) ≤ _ ∧ (_:Nat) ≤ _|show (_:Int) ≤ _ ∧ (_:Int) ≤ _ ∧ (_:Int) ≤ _ ∧ (_:Int) ≤ _);(simp <;> omega)))
    all_goals (first | rfl | omega | trace_state)
end Go.Vc

namespace Go.Vc
open Go.Proofs
set_option maxRecDepth 10000
set_option maxHeartbeats 4000000
instance lNew (s : List UInt8) : FnM BB 8 [.str s] [] True (.loc 0 0) [(0, .box [.str s])] := by
  refine FnM.intro (N := 6) [0, 2] [] 0 Tryz.call8 Tryz.func8 rfl rfl (by kernel_rfl) (fun hpre => ?_)
  repeat' ((conv => whnf);first|(with_reducible first|rfl|exact absTF|exact absFT)|exact True.intro|intro _|refine And.intro ?_ ?_|refine Fin.mk ?_|refine W1 rfl ?_ ?_|refine W2 rfl ?_ ?_|refine W3 rfl ?_ ?_|refine W4 ?_ ?_|refine W5 rfl ?_ ?_|refine W6 ?_ ?_|refine AppN.mk ?_|refine X1 (W1 rfl ?_ ?_)|refine X1 (W2 rfl ?_ ?_)|refine X2 (W7 rfl ?_ ?_)|refine X3 (W7 rfl ?_ ?_)|refine X4 (W7 rfl ?_ ?_)|refine X5 (W7 rfl ?_ ?_))
  all_goals (try (conv => whnf))
  all_goals (try first|exact Ob.mk (u8_bnd _)|(refine Ob.mk ?_;first|exact True.intro|assumption|omega|(try simp only [ZA,ZB,ZC,ZD,ZE,ZF,ZG,ZH,ZI,ZJ,ZK,ZL,ZM,ZN,ZO,Int.toNat_natCast,UInt8.ofNat_toNat,cast_eq] at *;omega)))
  all_goals (try first|(show (_:Int) = _;omega)|(show tupSV _ = _;with_unfolding_all rfl)|((first|show (_:Nat) ≤ _|show (_:Nat) ≤ _ ∧ (_:Nat) ≤ _|show (_:Int) ≤ _ ∧ (_:Int) ≤ _ ∧ (_:Int) ≤ _ ∧ (_:Int) ≤ _);(simp <;> omega)))
  all_goals (first | rfl | trace_state)
instance lLeft (s : List UInt8) : FnM BB 10 [.loc 0 0] [(0, .box [.str s])] True (.str s) [(0, .box [.str s])] := by
  refine FnM.intro (N := 7) [0, 2] [] 1 Tryz.call10 Tryz.func10 rfl rfl (by kernel_rfl) (fun hpre => ?_)
  repeat' ((conv => whnf);first|(with_reducible first|rfl|exact absTF|exact absFT)|exact True.intro|intro _|refine And.intro ?_ ?_|refine Fin.mk ?_|refine W1 rfl ?_ ?_|refine W2 rfl ?_ ?_|refine W3 rfl ?_ ?_|refine W4 ?_ ?_|refine W5 rfl ?_ ?_|refine W6 ?_ ?_|refine AppN.mk ?_|refine X1 (W1 rfl ?_ ?_)|refine X1 (W2 rfl ?_ ?_)|refine X2 (W7 rfl ?_ ?_)|refine X3 (W7 rfl ?_ ?_)|refine X4 (W7 rfl ?_ ?_)|refine X5 (W7 rfl ?_ ?_))
  all_goals (try (conv => whnf))
  all_goals (try first|exact Ob.mk (u8_bnd _)|(refine Ob.mk ?_;first|exact True.intro|assumption|omega|(try simp only [ZA,ZB,ZC,ZD,ZE,ZF,ZG,ZH,ZI,ZJ,ZK,ZL,ZM,ZN,ZO,Int.toNat_natCast,UInt8.ofNat_toNat,cast_eq] at *;omega)))
  all_goals (try first|(show (_:Int) = _;omega)|(show tupSV _ = _;with_unfolding_all rfl)|((first|show (_:Nat) ≤ _|show (_:Nat) ≤ _ ∧ (_:Nat) ≤ _|show (_:Int) ≤ _ ∧ (_:Int) ≤ _ ∧ (_:Int) ≤ _ ∧ (_:Int) ≤ _);(simp <;> omega)))
  all_goals (first | rfl | trace_state)
instance lNext (s l : List UInt8) (f : Bool) : FnM BB 9 [.loc 0 0, .int .i64 0, .str l, .bool f] [(0, .box [.str s])] (s.length ≤ 50000) (.agg [.int .i64 (datP f s).1.1, .str (datP f s).1.2.1, .own 1, .bool (datP f s).1.2.2.2.1, .str (datP f s).1.2.2.2.2]) [(0, .box [.str (datP f s).2]), (1, .own attrTy (datP f s).1.2.2.1)] := by
  refine FnM.intro (N := 50) [0, 1, 2, 3, 8, 9, 10, 11, 12, 15, 27, 32] [] 1 Tryz.call9 Tryz.func9 rfl rfl (by kernel_rfl) (fun hpre => ?_)
  repeat' ((conv => whnf);first|(with_reducible first|rfl|exact absTF|exact absFT)|exact True.intro|(intro hq; (try simp only [ZA,ZB,ZC,ZD,ZE,ZF,ZG,ZH,ZI,ZJ,ZK,ZL,ZM,ZN,ZO,Bool.and_eq_false_iff,Bool.or_eq_false_iff,ge_iff_le,gt_iff_lt,Int.toNat_natCast,UInt8.ofNat_toNat,cast_eq] at hq); (try (exfalso; first | omega | exact hq trivial | exact absurd hq (by decide))))|refine And.intro ?_ ?_|refine Fin.mk ?_|refine W1 rfl ?_ ?_|refine W2 rfl ?_ ?_|refine W3 rfl ?_ ?_|refine W4 ?_ ?_|refine W5 rfl ?_ ?_|refine W6 ?_ ?_|refine AppN.mk ?_|refine X1 (W1 rfl ?_ ?_)|refine X1 (W2 rfl ?_ ?_)|refine X2 (W7 rfl ?_ ?_)|refine X3 (W7 rfl ?_ ?_)|refine X4 (W7 rfl ?_ ?_)|refine X5 (W7 rfl ?_ ?_))
  all_goals (try (conv => whnf))
  all_goals (try first|exact Ob.mk (u8_bnd _)|(refine Ob.mk ?_;first|exact True.intro|assumption|omega|(try simp only [ZA,ZB,ZC,ZD,ZE,ZF,ZG,ZH,ZI,ZJ,ZK,ZL,ZM,ZN,ZO,Int.toNat_natCast,UInt8.ofNat_toNat,cast_eq] at *;omega)))
  all_goals (try first|(show (_:Int) = _;omega)|(show tupSV _ = _;with_unfolding_all rfl)|((first|show (_:Nat) ≤ _|show (_:Nat) ≤ _ ∧ (_:Nat) ≤ _|show (_:Int) ≤ _ ∧ (_:Int) ≤ _ ∧ (_:Int) ≤ _ ∧ (_:Int) ≤ _);(simp <;> omega)))
  all_goals (first | rfl | (exfalso; exact absurd ‹((0 : Int) == 0) = false› (by decide)) | trace_state)
theorem datP_end (s : List UInt8) (h : (datP false s).1.1 ≠ 0) : s ≠ [] := fun q => by rw [q] at h; exact h rfl
instance lAll (s : List UInt8) : FnM BB 6 [.str s] [] (s.length ≤ 50000) (.own 0) [(0, .own tokTy (allP s))] := by
  refine FnM.intro (N := 18) [0, 2, 3, 4, 5, 16] [] 0 Tryz.call6 Tryz.func6 rfl rfl (by kernel_rfl) (fun hpre => ?_)
  repeat' ((conv => whnf);first|(with_reducible first|rfl|exact absTF|exact absFT)|exact True.intro|intro _|refine And.intro ?_ ?_|refine Fin.mk ?_|refine W1 rfl ?_ ?_|refine W2 rfl ?_ ?_|refine W3 rfl ?_ ?_|refine W4 ?_ ?_|refine W5 rfl ?_ ?_|refine W6 ?_ ?_|refine AppN.mk ?_|refine X1 (W1 rfl ?_ ?_)|refine X1 (W2 rfl ?_ ?_)|refine X2 (W7 rfl ?_ ?_)|refine X3 (W7 rfl ?_ ?_)|refine X4 (W7 rfl ?_ ?_)|refine X5 (W7 rfl ?_ ?_))
  all_goals (try (conv => whnf))
  all_goals (try first|exact Ob.mk (u8_bnd _)|(refine Ob.mk ?_;first|exact True.intro|assumption|omega|(try simp only [ZA,ZB,ZC,ZD,ZE,ZF,ZG,ZH,ZI,ZJ,ZK,ZL,ZM,ZN,ZO,Int.toNat_natCast,UInt8.ofNat_toNat,cast_eq] at *;omega)))
  all_goals (try first|(show (_:Int) = _;omega)|(show tupSV _ = _;with_unfolding_all rfl)|((first|show (_:Nat) ≤ _|show (_:Nat) ≤ _ ∧ (_:Nat) ≤ _|show (_:Int) ≤ _ ∧ (_:Int) ≤ _ ∧ (_:Int) ≤ _ ∧ (_:Int) ≤ _);(simp <;> omega)))
  refine LoopStop.mk (α := Nat × List UInt8 × List TokD) (fun a => [(3, .own 30)]) (fun a => [(0, .box [.str a.2.1]), (30, .own tokTy a.2.2)]) 40 (fun a => a.2.1.length < a.1 ∧ a.2.1.length ≤ s.length ∧ a.2.2.length + a.1 ≤ s.length + 1 ∧ a.2.2 ++ allF a.1 a.2.1 = allP s) (fun a => a.1) (s.length + 1, s, []) ⟨by simp, by simp, by simp, rfl⟩ ?_ (fun a ha => ?_)
  · repeat' ((conv => whnf);first|(with_reducible first|rfl|exact absTF|exact absFT)|exact True.intro|intro _|refine And.intro ?_ ?_|refine Fin.mk ?_|refine W1 rfl ?_ ?_|refine W2 rfl ?_ ?_|refine W3 rfl ?_ ?_|refine W4 ?_ ?_|refine W5 rfl ?_ ?_|refine W6 ?_ ?_|refine AppN.mk ?_|refine X1 (W1 rfl ?_ ?_)|refine X1 (W2 rfl ?_ ?_)|refine X2 (W7 rfl ?_ ?_)|refine X3 (W7 rfl ?_ ?_)|refine X4 (W7 rfl ?_ ?_)|refine X5 (W7 rfl ?_ ?_))
    all_goals (try (conv => whnf))
    all_goals (try first|exact Ob.mk (u8_bnd _)|(refine Ob.mk ?_;first|exact True.intro|assumption|omega|(try simp only [ZA,ZB,ZC,ZD,ZE,ZF,ZG,ZH,ZI,ZJ,ZK,ZL,ZM,ZN,ZO,Int.toNat_natCast,UInt8.ofNat_toNat,cast_eq] at *;omega)))
    all_goals (try first|(show (_:Int) = _;omega)|(show tupSV _ = _;with_unfolding_all rfl)|((first|show (_:Nat) ≤ _|show (_:Nat) ≤ _ ∧ (_:Nat) ≤ _|show (_:Int) ≤ _ ∧ (_:Int) ≤ _ ∧ (_:Int) ≤ _ ∧ (_:Int) ≤ _);(simp <;> omega)))
    all_goals (first | rfl | trace_state)
  · obtain ⟨k, x, l⟩ := a
    obtain ⟨h1, h2, h3, h4⟩ := ha
    dsimp only at h1 h2 h3 h4
    obtain ⟨k, rfl⟩ : ∃ k', k = k' + 1 := ⟨k - 1, by omega⟩
    repeat' ((conv => whnf);first|(with_reducible first|rfl|exact absTF|exact absFT)|exact True.intro|intro _|refine And.intro ?_ ?_|refine Fin.mk ?_|refine W1 rfl ?_ ?_|refine W2 rfl ?_ ?_|refine W3 rfl ?_ ?_|refine W4 ?_ ?_|refine W5 rfl ?_ ?_|refine W6 ?_ ?_|refine AppN.mk ?_|refine X1 (W1 rfl ?_ ?_)|refine X1 (W2 rfl ?_ ?_)|refine X2 (W7 rfl ?_ ?_)|refine X3 (W7 rfl ?_ ?_)|refine X4 (W7 rfl ?_ ?_)|refine X5 (W7 rfl ?_ ?_))
    all_goals (try (conv => whnf))
    all_goals (try first|exact Ob.mk (u8_bnd _)|(refine Ob.mk ?_;first|exact True.intro|assumption|omega|(try simp only [ZA,ZB,ZC,ZD,ZE,ZF,ZG,ZH,ZI,ZJ,ZK,ZL,ZM,ZN,ZO,Int.toNat_natCast,UInt8.ofNat_toNat,cast_eq] at *;omega)))
    all_goals (try first|(show (_:Int) = _;omega)|(show tupSV _ = _;with_unfolding_all rfl)|((first|show (_:Nat) ≤ _|show (_:Nat) ≤ _ ∧ (_:Nat) ≤ _|show (_:Int) ≤ _ ∧ (_:Int) ≤ _ ∧ (_:Int) ≤ _ ∧ (_:Int) ≤ _);(simp <;> omega)))
    · rw [← h4, allF_end k x (by simpa using ‹((datP false (k + 1, x, l).2.1).1.1 == 0) = true›)]
      rfl
    · have hz : (datP false x).1.1 ≠ 0 := by simpa using ‹((datP false (k + 1, x, l).2.1).1.1 == 0) = false›
      have hl := datP_len false x (datP_end x hz)
      refine Rnd.mk ⟨(k, (datP false x).2, l ++ [(datP false x).1]), ⟨by simp only; omega, by simp only; omega, by simp only [List.length_append, List.length_cons, List.length_nil]; omega, by rw [← h4, allF_step k x hz]; simp⟩, by simp only; omega, ?_⟩
      repeat' ((conv => whnf);first|(with_reducible first|rfl|exact absTF|exact absFT)|exact True.intro|intro _|refine And.intro ?_ ?_|refine Fin.mk ?_|refine W1 rfl ?_ ?_|refine W2 rfl ?_ ?_|refine W3 rfl ?_ ?_|refine W4 ?_ ?_|refine W5 rfl ?_ ?_|refine W6 ?_ ?_|refine AppN.mk ?_|refine X1 (W1 rfl ?_ ?_)|refine X1 (W2 rfl ?_ ?_)|refine X2 (W7 rfl ?_ ?_)|refine X3 (W7 rfl ?_ ?_)|refine X4 (W7 rfl ?_ ?_)|refine X5 (W7 rfl ?_ ?_))
      all_goals (try (conv => whnf))
      all_goals (try first|exact Ob.mk (u8_bnd _)|(refine Ob.mk ?_;first|exact True.intro|assumption|omega|(try simp only [ZA,ZB,ZC,ZD,ZE,ZF,ZG,ZH,ZI,ZJ,ZK,ZL,ZM,ZN,ZO,Int.toNat_natCast,UInt8.ofNat_toNat,cast_eq] at *;omega)))
      all_goals (try first|(show (_:Int) = _;omega)|(show tupSV _ = _;with_unfolding_all rfl)|((first|show (_:Nat) ≤ _|show (_:Nat) ≤ _ ∧ (_:Nat) ≤ _|show (_:Int) ≤ _ ∧ (_:Int) ≤ _ ∧ (_:Int) ≤ _ ∧ (_:Int) ≤ _);(simp <;> omega)))
      all_goals (first | rfl | omega | trace_state)
end Go.Vc

namespace Go.Vc
open Go.Proofs
set_option maxRecDepth 10000
set_option maxHeartbeats 4000000
def awS : List UInt8 := [120, 60, 47, 116, 105, 116, 108, 101, 62]
def awN : List UInt8 := [116, 105, 116, 108, 101]
theorem aw_ix : ixI (awS.drop 0) [60, 47] = 1 := by decide +kernel
theorem aw_cl : clS (awS.drop 1) awN = true := by decide +kernel
theorem aw_rc : decF (awS.take 1) false = [120] := by decide +kernel
instance lClosing : Fn BB 24 [.str [120, 60, 47, 116, 105, 116, 108, 101, 62], .str [116, 105, 116, 108, 101]] True (.int .i64 1) := by
  refine Fn.intro (N := 26) [0, 1, 4, 5, 6, 12, 22] [] Tryz.call24 Tryz.func24 rfl rfl (by kernel_rfl) (fun hpre => ?_)
  have e1 : ixI (List.drop (Int.toNat 0) [120, 60, 47, 116, 105, 116, 108, 101, 62]) [60, 47] = 1 := aw_ix
  repeat' ((conv => whnf);first|(with_reducible first|rfl|exact absTF|exact absFT)|exact True.intro|intro _|refine And.intro ?_ ?_|refine Fin.mk ?_|refine W1 rfl ?_ ?_|refine W2 rfl ?_ ?_|refine W3 rfl ?_ ?_|refine W4 ?_ ?_|refine W5 rfl ?_ ?_|refine W6 ?_ ?_|refine AppN.mk ?_|refine X1 (W1 rfl ?_ ?_)|refine X1 (W2 rfl ?_ ?_)|refine X2 (W7 rfl ?_ ?_)|refine X3 (W7 rfl ?_ ?_)|refine X4 (W7 rfl ?_ ?_)|refine X5 (W7 rfl ?_ ?_))
  all_goals (try (conv => whnf))
  all_goals (try first|exact Ob.mk (u8_bnd _)|(refine Ob.mk ?_;first|exact True.intro|assumption|omega|(try simp only [ZA,ZB,ZC,ZD,ZE,ZF,ZG,ZH,ZI,ZJ,ZK,ZL,ZM,ZN,ZO,Int.toNat_natCast,UInt8.ofNat_toNat,cast_eq] at *;omega)))
  all_goals (try first|(show (_:Int) = _;omega)|(show tupSV _ = _;with_unfolding_all rfl)|((first|show (_:Nat) ≤ _|show (_:Nat) ≤ _ ∧ (_:Nat) ≤ _|show (_:Int) ≤ _ ∧ (_:Int) ≤ _ ∧ (_:Int) ≤ _ ∧ (_:Int) ≤ _);(simp <;> omega)))
  refine LoopStop.unroll 1 ?_
  repeat' ((conv => whnf);first|(with_reducible first|rfl|exact absTF|exact absFT)|exact True.intro|intro _|refine And.intro ?_ ?_|refine Fin.mk ?_|refine W1 rfl ?_ ?_|refine W2 rfl ?_ ?_|refine W3 rfl ?_ ?_|refine W4 ?_ ?_|refine W5 rfl ?_ ?_|refine W6 ?_ ?_|refine AppN.mk ?_|refine X1 (W1 rfl ?_ ?_)|refine X1 (W2 rfl ?_ ?_)|refine X2 (W7 rfl ?_ ?_)|refine X3 (W7 rfl ?_ ?_)|refine X4 (W7 rfl ?_ ?_)|refine X5 (W7 rfl ?_ ?_))
  all_goals (try (conv => whnf))
  all_goals (try first|exact Ob.mk (u8_bnd _)|(refine Ob.mk ?_;first|exact True.intro|assumption|omega|(try simp only [ZA,ZB,ZC,ZD,ZE,ZF,ZG,ZH,ZI,ZJ,ZK,ZL,ZM,ZN,ZO,Int.toNat_natCast,UInt8.ofNat_toNat,cast_eq] at *;omega)))
  all_goals (try first|(show (_:Int) = _;omega)|(show tupSV _ = _;with_unfolding_all rfl)|((first|show (_:Nat) ≤ _|show (_:Nat) ≤ _ ∧ (_:Nat) ≤ _|show (_:Int) ≤ _ ∧ (_:Int) ≤ _ ∧ (_:Int) ≤ _ ∧ (_:Int) ≤ _);(simp <;> omega)))
  all_goals (try simp only [e1] at *)
  all_goals (try (exfalso; exact absurd ‹decide ((1 : Int) < 0) = true› (by decide)))
  all_goals (try (exact absurd (show clS (List.drop (Int.toNat (0 + 1)) [120, 60, 47, 116, 105, 116, 108, 101, 62]) [116, 105, 116, 108, 101] = true from aw_cl) (by rw [‹clS _ _ = false›]; decide)))
  all_goals (first | decide | trace_state)
instance lFind1 : Fn BB 14 [.str [120, 60, 47, 116, 105, 116, 108, 101, 62], .str [116, 105, 116, 108, 101], .int .i64 1] True (.int .i64 1) := by
  refine Fn.intro (N := 23) [0, 1, 2, 6, 7, 8, 10, 16] [] Tryz.call14 Tryz.func14 rfl rfl (by kernel_rfl) (fun hpre => ?_)
  repeat' ((conv => whnf);first|(with_reducible first|rfl|exact absTF|exact absFT)|exact True.intro|(intro hq; (try simp only [ZA,ZB,ZC,ZD,ZE,ZF,ZG,ZH,ZI,ZJ,ZK,ZL,ZM,ZN,ZO,Bool.and_eq_false_iff,Bool.or_eq_false_iff,ge_iff_le,gt_iff_lt,Int.toNat_natCast,UInt8.ofNat_toNat,cast_eq] at hq); (try (exfalso; first | omega | exact hq trivial | exact absurd hq (by decide))))|refine And.intro ?_ ?_|refine Fin.mk ?_|refine W1 rfl ?_ ?_|refine W2 rfl ?_ ?_|refine W3 rfl ?_ ?_|refine W4 ?_ ?_|refine W5 rfl ?_ ?_|refine W6 ?_ ?_|refine AppN.mk ?_|refine X1 (W1 rfl ?_ ?_)|refine X1 (W2 rfl ?_ ?_)|refine X2 (W7 rfl ?_ ?_)|refine X3 (W7 rfl ?_ ?_)|refine X4 (W7 rfl ?_ ?_)|refine X5 (W7 rfl ?_ ?_))
  all_goals (try (conv => whnf))
  all_goals (try first|exact Ob.mk (u8_bnd _)|(refine Ob.mk ?_;first|exact True.intro|assumption|omega|(try simp only [ZA,ZB,ZC,ZD,ZE,ZF,ZG,ZH,ZI,ZJ,ZK,ZL,ZM,ZN,ZO,Int.toNat_natCast,UInt8.ofNat_toNat,cast_eq] at *;omega)))
  all_goals (try first|(show (_:Int) = _;omega)|(show tupSV _ = _;with_unfolding_all rfl)|((first|show (_:Nat) ≤ _|show (_:Nat) ≤ _ ∧ (_:Nat) ≤ _|show (_:Int) ≤ _ ∧ (_:Int) ≤ _ ∧ (_:Int) ≤ _ ∧ (_:Int) ≤ _);(simp <;> omega)))
  all_goals trace_state
instance lNextA : FnM BB 9 [.loc 0 0, .int .i64 1, .str [116, 105, 116, 108, 101], .bool false] [(0, .box [.str [120, 60, 47, 116, 105, 116, 108, 101, 62]])] True (.agg [.int .i64 3, .str [], .nils, .bool false, .str [120]]) [(0, .box [.str [60, 47, 116, 105, 116, 108, 101, 62]])] := by
  refine FnM.intro (N := 50) [0, 1, 2, 3, 8, 9, 10, 11, 12, 15, 27, 32] [] 1 Tryz.call9 Tryz.func9 rfl rfl (by kernel_rfl) (fun hpre => ?_)
  repeat' ((conv => whnf);first|(with_reducible first|rfl|exact absTF|exact absFT)|exact True.intro|(intro hq; (try simp only [ZA,ZB,ZC,ZD,ZE,ZF,ZG,ZH,ZI,ZJ,ZK,ZL,ZM,ZN,ZO,Bool.and_eq_false_iff,Bool.or_eq_false_iff,ge_iff_le,gt_iff_lt,Int.toNat_natCast,UInt8.ofNat_toNat,cast_eq] at hq); (try (exfalso; first | omega | exact hq trivial | exact absurd hq (by decide))))|refine And.intro ?_ ?_|refine Fin.mk ?_|refine W1 rfl ?_ ?_|refine W2 rfl ?_ ?_|refine W3 rfl ?_ ?_|refine W4 ?_ ?_|refine W5 rfl ?_ ?_|refine W6 ?_ ?_|refine AppN.mk ?_|refine X1 (W1 rfl ?_ ?_)|refine X1 (W2 rfl ?_ ?_)|refine X2 (W7 rfl ?_ ?_)|refine X3 (W7 rfl ?_ ?_)|refine X4 (W7 rfl ?_ ?_)|refine X5 (W7 rfl ?_ ?_))
  all_goals (try (conv => whnf))
  all_goals (try first|exact Ob.mk (u8_bnd _)|(refine Ob.mk ?_;first|exact True.intro|assumption|omega|(try simp only [ZA,ZB,ZC,ZD,ZE,ZF,ZG,ZH,ZI,ZJ,ZK,ZL,ZM,ZN,ZO,Int.toNat_natCast,UInt8.ofNat_toNat,cast_eq] at *;omega)))
  all_goals (try first|(show (_:Int) = _;omega)|(show tupSV _ = _;with_unfolding_all rfl)|((first|show (_:Nat) ≤ _|show (_:Nat) ≤ _ ∧ (_:Nat) ≤ _|show (_:Int) ≤ _ ∧ (_:Int) ≤ _ ∧ (_:Int) ≤ _ ∧ (_:Int) ≤ _);(simp <;> omega)))
  all_goals (first | decide | exact aw_rc | trace_state)
theorem aw_all : allP [97, 60, 98, 62, 99] = [(3, [], [], false, [97]), (1, [98], [], false, []), (3, [], [], false, [99]), (0, [], [], false, [])] := by kernel_rfl
instance lAwake : Fn BB 4 [] True (.bool true) := by
  refine Fn.intro (N := 42) [0, 1, 2, 3] [] Tryz.call4 Tryz.func4 rfl rfl (by kernel_rfl) (fun hpre => ?_)
  repeat' ((conv => whnf);first|(with_reducible first|rfl|exact absTF|exact absFT)|exact True.intro|intro _|refine And.intro ?_ ?_|refine Fin.mk ?_|refine W1 rfl ?_ ?_|refine W2 rfl ?_ ?_|refine W3 rfl ?_ ?_|refine W4 ?_ ?_|refine W5 rfl ?_ ?_|refine W6 ?_ ?_|refine AppN.mk ?_|refine X1 (W1 rfl ?_ ?_)|refine X1 (W2 rfl ?_ ?_)|refine X2 (W7 rfl ?_ ?_)|refine X3 (W7 rfl ?_ ?_)|refine X4 (W7 rfl ?_ ?_)|refine X5 (W7 rfl ?_ ?_))
  all_goals (try (conv => whnf))
  all_goals (try first|exact Ob.mk (u8_bnd _)|(refine Ob.mk ?_;first|exact True.intro|assumption|omega|(try simp only [ZA,ZB,ZC,ZD,ZE,ZF,ZG,ZH,ZI,ZJ,ZK,ZL,ZM,ZN,ZO,Int.toNat_natCast,UInt8.ofNat_toNat,cast_eq] at *;omega)))
  all_goals (try first|(show (_:Int) = _;omega)|(show tupSV _ = _;with_unfolding_all rfl)|((first|show (_:Nat) ≤ _|show (_:Nat) ≤ _ ∧ (_:Nat) ≤ _|show (_:Int) ≤ _ ∧ (_:Int) ≤ _ ∧ (_:Int) ≤ _ ∧ (_:Int) ≤ _);(simp <;> omega)))
  all_goals (try simp only [aw_all] at *)
  all_goals (first | decide | (exfalso; revert ‹_ = !true›; decide +kernel) | trace_state)
end Go.Vc

namespace Go.Vc
open Go.Proofs
set_option maxRecDepth 10000
set_option maxHeartbeats 4000000
theorem slice_occ (s p : List UInt8) (i : Nat) (h : i + p.length ≤ s.length) : ((s.take (i + p.length)).drop i == p) = p.isPrefixOf (s.drop i) := by
  have e : (s.take (i + p.length)).drop i = (s.drop i).take p.length := by
    rw [List.drop_take]; congr 1; omega
  rw [e, Bool.eq_iff_iff, beq_iff_eq, List.isPrefixOf_iff_prefix, List.prefix_iff_eq_take]
  exact eq_comm
theorem fnd_short (l p : List UInt8) (h : l.length < p.length) : fnd l p = l.length := by
  refine fnd_none l p fun j hj => ?_
  have := hj.1; omega
theorem drop_at (s : List UInt8) (i : Nat) (h : i < s.length) : s.drop i = s[i] :: s.drop (i + 1) := List.drop_eq_getElem_cons h
instance rFind (s p : List UInt8) (k : Int) : Fn BB 64 [.str s, .str p, .int .i64 k] (0 ≤ k ∧ k ≤ s.length ∧ p ≠ [] ∧ p.length ≤ 1000 ∧ s.length ≤ 900000) (.int .i64 ((k.toNat + fnd (s.drop k.toNat) p : Nat) : Int)) := by
  refine Fn.intro (N := 30) [0, 1, 2, 6, 7, 15, 26] [] Tryz.call64 Tryz.func64 rfl rfl (by kernel_rfl) (fun hpre => ?_)
  obtain ⟨p1, p2, p3, p4, p5⟩ := hpre
  have hpos : 0 < p.length := List.length_pos_iff.mpr p3
  obtain ⟨k, rfl⟩ := Int.eq_ofNat_of_zero_le p1
  rw [Int.toNat_natCast]
  have hle := fnd_le (s.drop k) p
  rw [List.length_drop] at hle
  repeat' ((conv => whnf);first|(with_reducible first|rfl|exact absTF|exact absFT)|exact True.intro|intro _|refine And.intro ?_ ?_|refine Fin.mk ?_|refine W1 rfl ?_ ?_|refine W2 rfl ?_ ?_|refine W3 rfl ?_ ?_|refine W4 ?_ ?_|refine W5 rfl ?_ ?_|refine W6 ?_ ?_|refine AppN.mk ?_|refine X1 (W1 rfl ?_ ?_)|refine X1 (W2 rfl ?_ ?_)|refine X2 (W7 rfl ?_ ?_)|refine X3 (W7 rfl ?_ ?_)|refine X4 (W7 rfl ?_ ?_)|refine X5 (W7 rfl ?_ ?_))
  all_goals (try (conv => whnf))
  all_goals (try first|exact Ob.mk (u8_bnd _)|(refine Ob.mk ?_;first|exact True.intro|assumption|omega|(try simp only [ZA,ZB,ZC,ZD,ZE,ZF,ZG,ZH,ZI,ZJ,ZK,ZL,ZM,ZN,ZO,Int.toNat_natCast,UInt8.ofNat_toNat,cast_eq] at *;omega)))
  all_goals (try first|(show (_:Int) = _;omega)|(show tupSV _ = _;with_unfolding_all rfl)|((first|show (_:Nat) ≤ _|show (_:Nat) ≤ _ ∧ (_:Nat) ≤ _|show (_:Int) ≤ _ ∧ (_:Int) ≤ _ ∧ (_:Int) ≤ _ ∧ (_:Int) ≤ _);(simp <;> omega)))
  refine LoopStop.mk (α := Nat) (fun i => [(7, .int .i64 i)]) (fun i => []) 20 (fun i => k ≤ i ∧ i ≤ s.length ∧ k + fnd (s.drop k) p = i + fnd (s.drop i) p) (fun i => s.length - i) k ⟨by omega, by omega, rfl⟩ ?_ (fun i hi => ?_)
  · repeat' ((conv => whnf);first|(with_reducible first|rfl|exact absTF|exact absFT)|exact True.intro|intro _|refine And.intro ?_ ?_|refine Fin.mk ?_|refine W1 rfl ?_ ?_|refine W2 rfl ?_ ?_|refine W3 rfl ?_ ?_|refine W4 ?_ ?_|refine W5 rfl ?_ ?_|refine W6 ?_ ?_|refine AppN.mk ?_|refine X1 (W1 rfl ?_ ?_)|refine X1 (W2 rfl ?_ ?_)|refine X2 (W7 rfl ?_ ?_)|refine X3 (W7 rfl ?_ ?_)|refine X4 (W7 rfl ?_ ?_)|refine X5 (W7 rfl ?_ ?_))
    all_goals (try (conv => whnf))
    all_goals (try first|exact Ob.mk (u8_bnd _)|(refine Ob.mk ?_;first|exact True.intro|assumption|omega|(try simp only [ZA,ZB,ZC,ZD,ZE,ZF,ZG,ZH,ZI,ZJ,ZK,ZL,ZM,ZN,ZO,Int.toNat_natCast,UInt8.ofNat_toNat,cast_eq] at *;omega)))
    all_goals (try first|(show (_:Int) = _;omega)|(show tupSV _ = _;with_unfolding_all rfl)|((first|show (_:Nat) ≤ _|show (_:Nat) ≤ _ ∧ (_:Nat) ≤ _|show (_:Int) ≤ _ ∧ (_:Int) ≤ _ ∧ (_:Int) ≤ _ ∧ (_:Int) ≤ _);(simp <;> omega)))
    all_goals rfl
  · obtain ⟨q1, q2, q3⟩ := hi
    have hso := slice_occ s p i
    have hst : ∀ hl : i < s.length, p.isPrefixOf (s.drop i) = false → fnd (s.drop i) p = fnd (s.drop (i + 1)) p + 1 := fun hl h => by
      rw [drop_at s i hl] at h ⊢
      exact fnd_step _ _ _ (by rw [h]; decide)
    have hh : ∀ hl : i < s.length, p.isPrefixOf (s.drop i) = true → fnd (s.drop i) p = 0 := fun hl h => by
      rw [drop_at s i hl] at h ⊢
      unfold fnd; rw [if_pos h]
    have e1 : ((i : Int) + (p.length : Int)).toNat = i + p.length := by omega
    repeat' ((conv => whnf);first|(with_reducible first|rfl|exact absTF|exact absFT)|exact True.intro|intro _|refine And.intro ?_ ?_|refine Fin.mk ?_|refine W1 rfl ?_ ?_|refine W2 rfl ?_ ?_|refine W3 rfl ?_ ?_|refine W4 ?_ ?_|refine W5 rfl ?_ ?_|refine W6 ?_ ?_|refine AppN.mk ?_|refine X1 (W1 rfl ?_ ?_)|refine X1 (W2 rfl ?_ ?_)|refine X2 (W7 rfl ?_ ?_)|refine X3 (W7 rfl ?_ ?_)|refine X4 (W7 rfl ?_ ?_)|refine X5 (W7 rfl ?_ ?_))
    all_goals (try (conv => whnf))
    all_goals (try first|exact Ob.mk (u8_bnd _)|(refine Ob.mk ?_;first|exact True.intro|assumption|omega|(try simp only [ZA,ZB,ZC,ZD,ZE,ZF,ZG,ZH,ZI,ZJ,ZK,ZL,ZM,ZN,ZO,Int.toNat_natCast,UInt8.ofNat_toNat,cast_eq] at *;omega)))
    all_goals (try first|(show (_:Int) = _;omega)|(show tupSV _ = _;with_unfolding_all rfl)|((first|show (_:Nat) ≤ _|show (_:Nat) ≤ _ ∧ (_:Nat) ≤ _|show (_:Int) ≤ _ ∧ (_:Int) ≤ _ ∧ (_:Int) ≤ _ ∧ (_:Int) ≤ _);(simp <;> omega)))
    all_goals (try simp only [e1, Int.toNat_natCast] at *)
    · rename_i hl h1 h2
      have hl := of_decide_eq_true ‹decide ((i : Int) + (p.length : Int) ≤ (s.length : Int)) = true›
      have h2 : ((s.take (i + p.length)).drop i == p) = true := ‹_›
      rw [hso (by omega)] at h2
      have := hh (by omega) h2
      omega
    · have hl := of_decide_eq_true ‹decide ((i : Int) + (p.length : Int) ≤ (s.length : Int)) = true›
      have h2 : ((s.take (i + p.length)).drop i == p) = false := ‹_›
      rw [hso (by omega)] at h2
      have := hst (by omega) h2
      refine Rnd.mk ⟨i + 1, ⟨by omega, by omega, by omega⟩, by omega, ?_⟩
      repeat' ((conv => whnf);first|(with_reducible first|rfl|exact absTF|exact absFT)|exact True.intro|intro _|refine And.intro ?_ ?_|refine Fin.mk ?_|refine W1 rfl ?_ ?_|refine W2 rfl ?_ ?_|refine W3 rfl ?_ ?_|refine W4 ?_ ?_|refine W5 rfl ?_ ?_|refine W6 ?_ ?_|refine AppN.mk ?_|refine X1 (W1 rfl ?_ ?_)|refine X1 (W2 rfl ?_ ?_)|refine X2 (W7 rfl ?_ ?_)|refine X3 (W7 rfl ?_ ?_)|refine X4 (W7 rfl ?_ ?_)|refine X5 (W7 rfl ?_ ?_))
      all_goals (try (conv => whnf))
      all_goals (try first|exact Ob.mk (u8_bnd _)|(refine Ob.mk ?_;first|exact True.intro|assumption|omega|(try simp only [ZA,ZB,ZC,ZD,ZE,ZF,ZG,ZH,ZI,ZJ,ZK,ZL,ZM,ZN,ZO,Int.toNat_natCast,UInt8.ofNat_toNat,cast_eq] at *;omega)))
      all_goals (try first|(show (_:Int) = _;omega)|(show tupSV _ = _;with_unfolding_all rfl)|((first|show (_:Nat) ≤ _|show (_:Nat) ≤ _ ∧ (_:Nat) ≤ _|show (_:Int) ≤ _ ∧ (_:Int) ≤ _ ∧ (_:Int) ≤ _ ∧ (_:Int) ≤ _);(simp <;> omega)))
      all_goals rfl
    · have hl := of_decide_eq_false ‹decide ((i : Int) + (p.length : Int) ≤ (s.length : Int)) = false›
      have := fnd_short (s.drop i) p (by rw [List.length_drop]; omega)
      rw [List.length_drop] at this
      omega
instance rBegins (s p : List UInt8) : Fn BB 60 [.str s, .str p] True (.bool (begP s p)) := by
  refine Fn.intro (N := 18) [0, 1, 4] [] Tryz.call60 Tryz.func60 rfl rfl (by kernel_rfl) (fun hpre => ?_)
  repeat' ((conv => whnf);first|(with_reducible first|rfl|exact absTF|exact absFT)|exact True.intro|intro _|refine And.intro ?_ ?_|refine Fin.mk ?_|refine W1 rfl ?_ ?_|refine W2 rfl ?_ ?_|refine W3 rfl ?_ ?_|refine W4 ?_ ?_|refine W5 rfl ?_ ?_|refine W6 ?_ ?_|refine AppN.mk ?_|refine X1 (W1 rfl ?_ ?_)|refine X1 (W2 rfl ?_ ?_)|refine X2 (W7 rfl ?_ ?_)|refine X3 (W7 rfl ?_ ?_)|refine X4 (W7 rfl ?_ ?_)|refine X5 (W7 rfl ?_ ?_))
  all_goals (try (conv => whnf))
  all_goals (try first|exact Ob.mk (u8_bnd _)|(refine Ob.mk ?_;first|exact True.intro|assumption|omega|(try simp only [ZA,ZB,ZC,ZD,ZE,ZF,ZG,ZH,ZI,ZJ,ZK,ZL,ZM,ZN,ZO,Int.toNat_natCast,UInt8.ofNat_toNat,cast_eq] at *;omega)))
  all_goals (try first|(show (_:Int) = _;omega)|(show tupSV _ = _;with_unfolding_all rfl)|((first|show (_:Nat) ≤ _|show (_:Nat) ≤ _ ∧ (_:Nat) ≤ _|show (_:Int) ≤ _ ∧ (_:Int) ≤ _ ∧ (_:Int) ≤ _ ∧ (_:Int) ≤ _);(simp <;> omega)))
  all_goals (try simp only [ZA,ZB,ZC,ZD,ZE,ZF,ZG,ZH,ZI,ZJ,ZK,ZL,ZM,ZN,ZO,Int.toNat_natCast,UInt8.ofNat_toNat,cast_eq] at *)
  all_goals rfl
theorem uN_one (l : List UInt8) (m : UInt8) : uN l [m] = min (fnd l [m] + 1) l.length := by
  have := fd_spec l [m] (by simp)
  have hle := fnd_le l [m]
  cases h : fdB l [m]
  · have := this.2 h; omega
  · have := this.1 h
    simp at this; omega
instance rRBogus (s : List UInt8) (k : Int) : Fn BB 65 [.str s, .int .i64 k] (0 ≤ k ∧ k ≤ s.length ∧ s.length ≤ 900000) (rkSV (bogusP s k.toNat)) := by
  refine Fn.intro (N := 21) [0, 1, 4, 5, 6, 7] [] Tryz.call65 Tryz.func65 rfl rfl (by kernel_rfl) (fun hpre => ?_)
  obtain ⟨p1, p2, p3⟩ := hpre
  obtain ⟨k, rfl⟩ := Int.eq_ofNat_of_zero_le p1
  rw [Int.toNat_natCast]
  have h1 := uN_one (s.drop k) 62
  have hle := fnd_le (s.drop k) [62]
  rw [List.length_drop] at h1 hle
  have eU : (bogusP s k).2.2.2.1 = ((k + uN (s.drop k) [62] : Nat) : Int) := rfl
  have eD : (bogusP s k).2.2.1 = (s.drop k).take (fnd (s.drop k) [62]) := rfl
  have eS : (s.take (k + fnd (s.drop k) [62])).drop k = (s.drop k).take (fnd (s.drop k) [62]) := by rw [List.drop_take]; congr 1; omega
  repeat' ((conv => whnf);first|(with_reducible first|rfl|exact absTF|exact absFT)|exact True.intro|intro _|refine And.intro ?_ ?_|refine Fin.mk ?_|refine W1 rfl ?_ ?_|refine W2 rfl ?_ ?_|refine W3 rfl ?_ ?_|refine W4 ?_ ?_|refine W5 rfl ?_ ?_|refine W6 ?_ ?_|refine AppN.mk ?_|refine X1 (W1 rfl ?_ ?_)|refine X1 (W2 rfl ?_ ?_)|refine X2 (W7 rfl ?_ ?_)|refine X3 (W7 rfl ?_ ?_)|refine X4 (W7 rfl ?_ ?_)|refine X5 (W7 rfl ?_ ?_))
  all_goals (try (conv => whnf))
  all_goals (try first|exact Ob.mk (u8_bnd _)|(refine Ob.mk ?_;first|exact True.intro|assumption|omega|(try simp only [ZA,ZB,ZC,ZD,ZE,ZF,ZG,ZH,ZI,ZJ,ZK,ZL,ZM,ZN,ZO,Int.toNat_natCast,UInt8.ofNat_toNat,cast_eq] at *;omega)))
  all_goals (try first|(show (_:Int) = _;omega)|(show tupSV _ = _;with_unfolding_all rfl)|((first|show (_:Nat) ≤ _|show (_:Nat) ≤ _ ∧ (_:Nat) ≤ _|show (_:Int) ≤ _ ∧ (_:Int) ≤ _ ∧ (_:Int) ≤ _ ∧ (_:Int) ≤ _);(simp <;> omega)))
  all_goals (try simp only [Int.toNat_natCast] at *)
  all_goals (first | rfl | exact ⟨by omega, by omega, by decide, by decide, p3⟩ | exact eS | (rw [eU]; simp only [cond_false]; omega) | (constructor <;> omega) | omega | trace_state)
instance rRBare (s : List UInt8) : Fn BB 85 [.str s] True (.str (bareP s)) := by
  refine Fn.intro (N := 52) [0, 2, 13, 29, 45] [] Tryz.call85 Tryz.func85 rfl rfl (by kernel_rfl) (fun hpre => ?_)
  have t3 : ((s.length : Int) - 3).toNat = s.length - 3 := by omega
  have t2 : ((s.length : Int) - 2).toNat = s.length - 2 := by omega
  have t1 : ((s.length : Int) - 1).toNat = s.length - 1 := by omega
  have c3 : (decide ((s.length : Int) ≥ 3) && List.drop (s.length - 3) s == [45, 45, 33]) = endP s [45, 45, 33] := rfl
  have c2 : (decide ((s.length : Int) ≥ 2) && List.drop (s.length - 2) s == [45, 45]) = endP s [45, 45] := rfl
  have c1 : (decide ((s.length : Int) ≥ 1) && List.drop (s.length - 1) s == [45]) = endP s [45] := rfl
  have g3 : endP s [45, 45, 33] = true → 3 ≤ s.length := fun h => by unfold endP at h; rw [Bool.and_eq_true] at h; have := of_decide_eq_true h.1; simp at this; omega
  have g2 : endP s [45, 45] = true → 2 ≤ s.length := fun h => by unfold endP at h; rw [Bool.and_eq_true] at h; have := of_decide_eq_true h.1; simp at this; omega
  have g1 : endP s [45] = true → 1 ≤ s.length := fun h => by unfold endP at h; rw [Bool.and_eq_true] at h; have := of_decide_eq_true h.1; simp at this; omega
  repeat' ((conv => whnf);first|(with_reducible first|rfl|exact absTF|exact absFT)|exact True.intro|intro _|refine And.intro ?_ ?_|refine Fin.mk ?_|refine W1 rfl ?_ ?_|refine W2 rfl ?_ ?_|refine W3 rfl ?_ ?_|refine W4 ?_ ?_|refine W5 rfl ?_ ?_|refine W6 ?_ ?_|refine AppN.mk ?_|refine X1 (W1 rfl ?_ ?_)|refine X1 (W2 rfl ?_ ?_)|refine X2 (W7 rfl ?_ ?_)|refine X3 (W7 rfl ?_ ?_)|refine X4 (W7 rfl ?_ ?_)|refine X5 (W7 rfl ?_ ?_))
  all_goals (try (conv => whnf))
  all_goals (try first|exact Ob.mk (u8_bnd _)|(refine Ob.mk ?_;first|exact True.intro|assumption|omega|(try simp only [ZA,ZB,ZC,ZD,ZE,ZF,ZG,ZH,ZI,ZJ,ZK,ZL,ZM,ZN,ZO,Int.toNat_natCast,UInt8.ofNat_toNat,cast_eq] at *;omega)))
  all_goals (try first|(show (_:Int) = _;omega)|(show tupSV _ = _;with_unfolding_all rfl)|((first|show (_:Nat) ≤ _|show (_:Nat) ≤ _ ∧ (_:Nat) ≤ _|show (_:Int) ≤ _ ∧ (_:Int) ≤ _ ∧ (_:Int) ≤ _ ∧ (_:Int) ≤ _);(simp <;> omega)))
  all_goals (try simp only [t1, t2, t3, c1, c2, c3] at *)
  all_goals (try (have y := g3 ‹_›))
  all_goals (try (have y := g2 ‹_›))
  all_goals (try (have y := g1 ‹_›))
  all_goals (first | omega | exact (bare1 ‹_›).symm | exact (bare2 ‹_› ‹_›).symm | exact (bare3 ‹_› ‹_› ‹_›).symm | exact (bare4 ‹_› ‹_› ‹_›).symm | trace_state)
end Go.Vc

namespace Go.Vc
open Go.Proofs
set_option maxRecDepth 10000
set_option maxHeartbeats 4000000
def c4 (x : Rk) : Rk := (x.1, x.2.1, x.2.2.1, x.2.2.2.1 + 4, true)
theorem ab_ne (s : List UInt8) (i : Nat) (hA : occ s mA i) (hB : occ s mB i) : False := by
  have h1 := hA.2 2 (by decide)
  have h2 := hB.2 2 (by decide)
  rw [h1] at h2
  exact absurd h2 (by decide)
instance rRCom (s : List UInt8) : Fn BB 61 [.str s] (s.length ≤ 900000) (rkSV (c4 (comP s))) := by
  refine Fn.intro (N := 51) [0, 2, 3, 4, 5, 6, 7, 10, 13, 28, 44] [] Tryz.call61 Tryz.func61 rfl rfl (by kernel_rfl) (fun hpre => ?_)
  have lA := fnd_le s mA
  have lB := fnd_le s mB
  have fA := fd_spec s mA (by decide)
  have fB := fd_spec s mB (by decide)
  have oA := fnd_cases s mA (by decide)
  have oB := fnd_cases s mB (by decide)
  have zA : mA.length = 3 := rfl
  have zB : mB.length = 4 := rfl
  have d0 : s.drop (Int.toNat 0) = s := rfl
  have eA : ((Int.toNat 0 + fnd (s.drop (Int.toNat 0)) mA : Nat) : Int) = (fnd s mA : Int) := by rw [d0]; simp
  have eB : ((Int.toNat 0 + fnd (s.drop (Int.toNat 0)) mB : Nat) : Int) = (fnd s mB : Int) := by rw [d0]; simp
  have gg : 0 ≤ (s.length : Int) := by omega
  cases h1 : begP s [62]
  · cases h2 : begP s [45, 62]
    · by_cases h3 : fdB s mA = false ∧ fdB s mB = false
      · have e := com3 h1 h2 h3.1 h3.2
        have qA := (fA.2 h3.1).1
        have qB := (fB.2 h3.2).1
        repeat' ((conv => whnf);first|(with_reducible first|rfl|exact absTF|exact absFT)|exact True.intro|intro _|refine And.intro ?_ ?_|refine Fin.mk ?_|refine W1 rfl ?_ ?_|refine W2 rfl ?_ ?_|refine W3 rfl ?_ ?_|refine W4 ?_ ?_|refine W5 rfl ?_ ?_|refine W6 ?_ ?_|refine AppN.mk ?_|refine X1 (W1 rfl ?_ ?_)|refine X1 (W2 rfl ?_ ?_)|refine X2 (W7 rfl ?_ ?_)|refine X3 (W7 rfl ?_ ?_)|refine X4 (W7 rfl ?_ ?_)|refine X5 (W7 rfl ?_ ?_))
        all_goals (try (conv => whnf))
        all_goals (try first|exact Ob.mk (u8_bnd _)|(refine Ob.mk ?_;first|exact True.intro|assumption|omega|(try simp only [ZA,ZB,ZC,ZD,ZE,ZF,ZG,ZH,ZI,ZJ,ZK,ZL,ZM,ZN,ZO,Int.toNat_natCast,UInt8.ofNat_toNat,cast_eq] at *;omega)))
        all_goals (try first|(show (_:Int) = _;omega)|(show tupSV _ = _;with_unfolding_all rfl)|((first|show (_:Nat) ≤ _|show (_:Nat) ≤ _ ∧ (_:Nat) ≤ _|show (_:Int) ≤ _ ∧ (_:Int) ≤ _ ∧ (_:Int) ≤ _ ∧ (_:Int) ≤ _);(simp <;> omega)))
        all_goals (try simp only [eA, eB] at *)
        all_goals (try (exfalso; have h : begP s [62] = true := ‹_›; rw [h1] at h; cases h; done))
        all_goals (try (exfalso; have h : begP s [45, 62] = true := ‹_›; rw [h2] at h; cases h; done))
        all_goals (try (exfalso; have h : ((fnd s mA : Int) == (s.length : Int) && (fnd s mB : Int) == (s.length : Int)) = false := ‹_›; rw [qA, qB] at h; simp at h; done))
        all_goals (first | (rw [e]; done) | (rw [e]; rfl) | exact ⟨by omega, by omega, by decide, by decide, by omega⟩ | omega | (rw [e]; simp only [c4, cond_false]; omega) | (constructor <;> omega) | (simp only [cond_false]; constructor <;> omega) | (rw [e]; simp only [c4, cond_false]; congr 1; omega) | trace_state)
      · have hor : fdB s mA = true ∨ fdB s mB = true := by
          cases q1 : fdB s mA <;> cases q2 : fdB s mB <;> simp_all
        have hn : ¬ (fnd s mA = s.length ∧ fnd s mB = s.length) := by
          rintro ⟨x, y⟩
          rcases hor with q | q
          · have := fA.1 q; omega
          · have := fB.1 q; omega
        by_cases hl : fnd s mB < fnd s mA
        · have e := com4 h1 h2 hor hl
          repeat' ((conv => whnf);first|(with_reducible first|rfl|exact absTF|exact absFT)|exact True.intro|intro _|refine And.intro ?_ ?_|refine Fin.mk ?_|refine W1 rfl ?_ ?_|refine W2 rfl ?_ ?_|refine W3 rfl ?_ ?_|refine W4 ?_ ?_|refine W5 rfl ?_ ?_|refine W6 ?_ ?_|refine AppN.mk ?_|refine X1 (W1 rfl ?_ ?_)|refine X1 (W2 rfl ?_ ?_)|refine X2 (W7 rfl ?_ ?_)|refine X3 (W7 rfl ?_ ?_)|refine X4 (W7 rfl ?_ ?_)|refine X5 (W7 rfl ?_ ?_))
          all_goals (try (conv => whnf))
          all_goals (try first|exact Ob.mk (u8_bnd _)|(refine Ob.mk ?_;first|exact True.intro|assumption|omega|(try simp only [ZA,ZB,ZC,ZD,ZE,ZF,ZG,ZH,ZI,ZJ,ZK,ZL,ZM,ZN,ZO,Int.toNat_natCast,UInt8.ofNat_toNat,cast_eq] at *;omega)))
          all_goals (try first|(show (_:Int) = _;omega)|(show tupSV _ = _;with_unfolding_all rfl)|((first|show (_:Nat) ≤ _|show (_:Nat) ≤ _ ∧ (_:Nat) ≤ _|show (_:Int) ≤ _ ∧ (_:Int) ≤ _ ∧ (_:Int) ≤ _ ∧ (_:Int) ≤ _);(simp <;> omega)))
          all_goals (try simp only [eA, eB] at *)
          all_goals (try (exfalso; have h : begP s [62] = true := ‹_›; rw [h1] at h; cases h; done))
          all_goals (try (exfalso; have h : begP s [45, 62] = true := ‹_›; rw [h2] at h; cases h; done))
          all_goals (try (exfalso; have h : ((fnd s mA : Int) == (s.length : Int) && (fnd s mB : Int) == (s.length : Int)) = true := ‹_›; simp only [Bool.and_eq_true, beq_iff_eq] at h; omega))
          all_goals (try (exfalso; have h := of_decide_eq_true ‹decide ((fnd s mA : Int) < (fnd s mB : Int)) = true›; omega))
          all_goals (first | (rw [e]; done) | (rw [e]; rfl) | exact ⟨by omega, by omega, by decide, by decide, by omega⟩ | omega | (rw [e]; simp only [c4, cond_false]; omega) | (constructor <;> omega) | (simp only [cond_false]; constructor <;> omega) | (rw [e]; simp only [c4, cond_false]; congr 1; omega) | trace_state)
        · have e := com5 h1 h2 hor hl
          have hlt : fnd s mA < fnd s mB := by
            rcases Nat.lt_or_ge (fnd s mA) (fnd s mB) with q | q
            · exact q
            · exfalso
              have hq : fnd s mA = fnd s mB := by omega
              rcases oA with ⟨oa, _⟩ | ⟨oa, _⟩
              · rcases oB with ⟨ob, _⟩ | ⟨ob, _⟩
                · rw [hq] at oa; exact ab_ne s _ oa ob
                · have := oa.1; omega
              · rcases oB with ⟨ob, _⟩ | ⟨ob, _⟩
                · have := ob.1; omega
                · exact hn ⟨oa, ob⟩
          repeat' ((conv => whnf);first|(with_reducible first|rfl|exact absTF|exact absFT)|exact True.intro|intro _|refine And.intro ?_ ?_|refine Fin.mk ?_|refine W1 rfl ?_ ?_|refine W2 rfl ?_ ?_|refine W3 rfl ?_ ?_|refine W4 ?_ ?_|refine W5 rfl ?_ ?_|refine W6 ?_ ?_|refine AppN.mk ?_|refine X1 (W1 rfl ?_ ?_)|refine X1 (W2 rfl ?_ ?_)|refine X2 (W7 rfl ?_ ?_)|refine X3 (W7 rfl ?_ ?_)|refine X4 (W7 rfl ?_ ?_)|refine X5 (W7 rfl ?_ ?_))
          all_goals (try (conv => whnf))
          all_goals (try first|exact Ob.mk (u8_bnd _)|(refine Ob.mk ?_;first|exact True.intro|assumption|omega|(try simp only [ZA,ZB,ZC,ZD,ZE,ZF,ZG,ZH,ZI,ZJ,ZK,ZL,ZM,ZN,ZO,Int.toNat_natCast,UInt8.ofNat_toNat,cast_eq] at *;omega)))
          all_goals (try first|(show (_:Int) = _;omega)|(show tupSV _ = _;with_unfolding_all rfl)|((first|show (_:Nat) ≤ _|show (_:Nat) ≤ _ ∧ (_:Nat) ≤ _|show (_:Int) ≤ _ ∧ (_:Int) ≤ _ ∧ (_:Int) ≤ _ ∧ (_:Int) ≤ _);(simp <;> omega)))
          all_goals (try simp only [eA, eB] at *)
          all_goals (try (exfalso; have h : begP s [62] = true := ‹_›; rw [h1] at h; cases h; done))
          all_goals (try (exfalso; have h : begP s [45, 62] = true := ‹_›; rw [h2] at h; cases h; done))
          all_goals (try (exfalso; have h : ((fnd s mA : Int) == (s.length : Int) && (fnd s mB : Int) == (s.length : Int)) = true := ‹_›; simp only [Bool.and_eq_true, beq_iff_eq] at h; omega))
          all_goals (try (exfalso; have h := of_decide_eq_false ‹decide ((fnd s mA : Int) < (fnd s mB : Int)) = false›; omega))
          all_goals (first | (rw [e]; done) | (rw [e]; rfl) | exact ⟨by omega, by omega, by decide, by decide, by omega⟩ | omega | (rw [e]; simp only [c4, cond_false]; omega) | (constructor <;> omega) | (simp only [cond_false]; constructor <;> omega) | (rw [e]; simp only [c4, cond_false]; congr 1; omega) | trace_state)
    · have e := com2 h1 h2
      repeat' ((conv => whnf);first|(with_reducible first|rfl|exact absTF|exact absFT)|exact True.intro|intro _|refine And.intro ?_ ?_|refine Fin.mk ?_|refine W1 rfl ?_ ?_|refine W2 rfl ?_ ?_|refine W3 rfl ?_ ?_|refine W4 ?_ ?_|refine W5 rfl ?_ ?_|refine W6 ?_ ?_|refine AppN.mk ?_|refine X1 (W1 rfl ?_ ?_)|refine X1 (W2 rfl ?_ ?_)|refine X2 (W7 rfl ?_ ?_)|refine X3 (W7 rfl ?_ ?_)|refine X4 (W7 rfl ?_ ?_)|refine X5 (W7 rfl ?_ ?_))
      all_goals (try (conv => whnf))
      all_goals (try first|exact Ob.mk (u8_bnd _)|(refine Ob.mk ?_;first|exact True.intro|assumption|omega|(try simp only [ZA,ZB,ZC,ZD,ZE,ZF,ZG,ZH,ZI,ZJ,ZK,ZL,ZM,ZN,ZO,Int.toNat_natCast,UInt8.ofNat_toNat,cast_eq] at *;omega)))
      all_goals (try first|(show (_:Int) = _;omega)|(show tupSV _ = _;with_unfolding_all rfl)|((first|show (_:Nat) ≤ _|show (_:Nat) ≤ _ ∧ (_:Nat) ≤ _|show (_:Int) ≤ _ ∧ (_:Int) ≤ _ ∧ (_:Int) ≤ _ ∧ (_:Int) ≤ _);(simp <;> omega)))
      all_goals (try (exfalso; have h : begP s [62] = true := ‹_›; rw [h1] at h; cases h; done))
      all_goals (try (exfalso; have h : begP s [45, 62] = false := ‹_›; rw [h2] at h; cases h; done))
      all_goals (first | (rw [e]; done) | (rw [e]; rfl) | exact ⟨by omega, by omega, by decide, by decide, by omega⟩ | omega | (rw [e]; simp only [c4, cond_false]; omega) | (constructor <;> omega) | (simp only [cond_false]; constructor <;> omega) | (rw [e]; simp only [c4, cond_false]; congr 1; omega) | trace_state)
  · have e := com1 h1
    repeat' ((conv => whnf);first|(with_reducible first|rfl|exact absTF|exact absFT)|exact True.intro|intro _|refine And.intro ?_ ?_|refine Fin.mk ?_|refine W1 rfl ?_ ?_|refine W2 rfl ?_ ?_|refine W3 rfl ?_ ?_|refine W4 ?_ ?_|refine W5 rfl ?_ ?_|refine W6 ?_ ?_|refine AppN.mk ?_|refine X1 (W1 rfl ?_ ?_)|refine X1 (W2 rfl ?_ ?_)|refine X2 (W7 rfl ?_ ?_)|refine X3 (W7 rfl ?_ ?_)|refine X4 (W7 rfl ?_ ?_)|refine X5 (W7 rfl ?_ ?_))
    all_goals (try (conv => whnf))
    all_goals (try first|exact Ob.mk (u8_bnd _)|(refine Ob.mk ?_;first|exact True.intro|assumption|omega|(try simp only [ZA,ZB,ZC,ZD,ZE,ZF,ZG,ZH,ZI,ZJ,ZK,ZL,ZM,ZN,ZO,Int.toNat_natCast,UInt8.ofNat_toNat,cast_eq] at *;omega)))
    all_goals (try first|(show (_:Int) = _;omega)|(show tupSV _ = _;with_unfolding_all rfl)|((first|show (_:Nat) ≤ _|show (_:Nat) ≤ _ ∧ (_:Nat) ≤ _|show (_:Int) ≤ _ ∧ (_:Int) ≤ _ ∧ (_:Int) ≤ _ ∧ (_:Int) ≤ _);(simp <;> omega)))
    all_goals (try (exfalso; have h : begP s [62] = false := ‹_›; rw [h1] at h; cases h; done))
    all_goals (first | (rw [e]; done) | (rw [e]; rfl) | exact ⟨by omega, by omega, by decide, by decide, by omega⟩ | omega | (rw [e]; simp only [c4, cond_false]; omega) | (constructor <;> omega) | (simp only [cond_false]; constructor <;> omega) | (rw [e]; simp only [c4, cond_false]; congr 1; omega) | trace_state)
instance rRDoc (s : List UInt8) : Fn BB 63 [.str s] (9 ≤ s.length ∧ s.length ≤ 900000) (rkSV (docP s)) := by
  refine Fn.intro (N := 46) [0, 2, 3, 4, 5, 6, 7, 20, 33] [] Tryz.call63 Tryz.func63 rfl rfl (by kernel_rfl) (fun hpre => ?_)
  obtain ⟨p1, p2⟩ := hpre
  have h1 := uN_one (s.drop 9) 62
  have hle := fnd_le (s.drop 9) [62]
  rw [List.length_drop] at h1 hle
  have e9 : (9 : Int).toNat = 9 := rfl
  have eU : (docP s).2.2.2.1 = ((9 + uN (s.drop 9) [62] : Nat) : Int) := rfl
  have eN : (docP s).2.1 = lowL ((((s.drop 9).take (fnd (s.drop 9) [62])).dropWhile spB).takeWhile fun c => !spB c) := rfl
  have eS : (s.take (9 + fnd (s.drop 9) [62])).drop 9 = (s.drop 9).take (fnd (s.drop 9) [62]) := by rw [List.drop_take]; congr 1; omega
  have lS : ((s.drop 9).take (fnd (s.drop 9) [62])).length ≤ s.length := by simp; omega
  repeat' ((conv => whnf);first|(with_reducible first|rfl|exact absTF|exact absFT)|exact True.intro|intro _|refine And.intro ?_ ?_|refine Fin.mk ?_|refine W1 rfl ?_ ?_|refine W2 rfl ?_ ?_|refine W3 rfl ?_ ?_|refine W4 ?_ ?_|refine W5 rfl ?_ ?_|refine W6 ?_ ?_|refine AppN.mk ?_|refine X1 (W1 rfl ?_ ?_)|refine X1 (W2 rfl ?_ ?_)|refine X2 (W7 rfl ?_ ?_)|refine X3 (W7 rfl ?_ ?_)|refine X4 (W7 rfl ?_ ?_)|refine X5 (W7 rfl ?_ ?_))
  all_goals (try (conv => whnf))
  all_goals (try first|exact Ob.mk (u8_bnd _)|(refine Ob.mk ?_;first|exact True.intro|assumption|omega|(try simp only [ZA,ZB,ZC,ZD,ZE,ZF,ZG,ZH,ZI,ZJ,ZK,ZL,ZM,ZN,ZO,Int.toNat_natCast,UInt8.ofNat_toNat,cast_eq] at *;omega)))
  all_goals (try first|(show (_:Int) = _;omega)|(show tupSV _ = _;with_unfolding_all rfl)|((first|show (_:Nat) ≤ _|show (_:Nat) ≤ _ ∧ (_:Nat) ≤ _|show (_:Int) ≤ _ ∧ (_:Int) ≤ _ ∧ (_:Int) ≤ _ ∧ (_:Int) ≤ _);(simp <;> omega)))
  all_goals (try simp only [e9, Int.toNat_natCast, eS] at *)
  · exact ⟨by omega, by omega, by decide, by decide, p2⟩
  · omega
  · generalize (s.drop 9).take (fnd (s.drop 9) [62]) = Q at *
    refine LoopStop.mk (α := List UInt8) (fun a => [(6, .str a)]) (fun a => []) 20 (fun a => a.length ≤ s.length ∧ a.dropWhile spB = Q.dropWhile spB) (fun a => a.length) Q ⟨by omega, rfl⟩ ?_ (fun a ha => ?_)
    · repeat' ((conv => whnf);first|(with_reducible first|rfl|exact absTF|exact absFT)|exact True.intro|intro _|refine And.intro ?_ ?_|refine Fin.mk ?_|refine W1 rfl ?_ ?_|refine W2 rfl ?_ ?_|refine W3 rfl ?_ ?_|refine W4 ?_ ?_|refine W5 rfl ?_ ?_|refine W6 ?_ ?_|refine AppN.mk ?_|refine X1 (W1 rfl ?_ ?_)|refine X1 (W2 rfl ?_ ?_)|refine X2 (W7 rfl ?_ ?_)|refine X3 (W7 rfl ?_ ?_)|refine X4 (W7 rfl ?_ ?_)|refine X5 (W7 rfl ?_ ?_))
      all_goals (try (conv => whnf))
      all_goals (try first|exact Ob.mk (u8_bnd _)|(refine Ob.mk ?_;first|exact True.intro|assumption|omega|(try simp only [ZA,ZB,ZC,ZD,ZE,ZF,ZG,ZH,ZI,ZJ,ZK,ZL,ZM,ZN,ZO,Int.toNat_natCast,UInt8.ofNat_toNat,cast_eq] at *;omega)))
      all_goals (try first|(show (_:Int) = _;omega)|(show tupSV _ = _;with_unfolding_all rfl)|((first|show (_:Nat) ≤ _|show (_:Nat) ≤ _ ∧ (_:Nat) ≤ _|show (_:Int) ≤ _ ∧ (_:Int) ≤ _ ∧ (_:Int) ≤ _ ∧ (_:Int) ≤ _);(simp <;> omega)))
    · repeat' ((conv => whnf);first|(with_reducible first|rfl|exact absTF|exact absFT)|exact True.intro|intro _|refine And.intro ?_ ?_|refine Fin.mk ?_|refine W1 rfl ?_ ?_|refine W2 rfl ?_ ?_|refine W3 rfl ?_ ?_|refine W4 ?_ ?_|refine W5 rfl ?_ ?_|refine W6 ?_ ?_|refine AppN.mk ?_|refine X1 (W1 rfl ?_ ?_)|refine X1 (W2 rfl ?_ ?_)|refine X2 (W7 rfl ?_ ?_)|refine X3 (W7 rfl ?_ ?_)|refine X4 (W7 rfl ?_ ?_)|refine X5 (W7 rfl ?_ ?_))
      all_goals (try (conv => whnf))
      all_goals (try first|exact Ob.mk (u8_bnd _)|(refine Ob.mk ?_;first|exact True.intro|assumption|omega|(try simp only [ZA,ZB,ZC,ZD,ZE,ZF,ZG,ZH,ZI,ZJ,ZK,ZL,ZM,ZN,ZO,Int.toNat_natCast,UInt8.ofNat_toNat,cast_eq] at *;omega)))
      all_goals (try first|(show (_:Int) = _;omega)|(show tupSV _ = _;with_unfolding_all rfl)|((first|show (_:Nat) ≤ _|show (_:Nat) ≤ _ ∧ (_:Nat) ≤ _|show (_:Int) ≤ _ ∧ (_:Int) ≤ _ ∧ (_:Int) ≤ _ ∧ (_:Int) ≤ _);(simp <;> omega)))
      · rename_i h0 h
        have h' : decide ((a.length : Int) > 0) = true ∧ W.isSp ((a.getD 0 0).toNat : Int) = true := by simpa using h
        have hl : 0 < a.length := by have := of_decide_eq_true h'.1; omega
        refine Rnd.mk ⟨a.drop 1, ⟨by rw [List.length_drop]; omega, (dw_step hl h'.2).trans ha.2⟩, by rw [List.length_drop]; omega, ?_⟩
        repeat' ((conv => whnf);first|(with_reducible first|rfl|exact absTF|exact absFT)|exact True.intro|intro _|refine And.intro ?_ ?_|refine Fin.mk ?_|refine W1 rfl ?_ ?_|refine W2 rfl ?_ ?_|refine W3 rfl ?_ ?_|refine W4 ?_ ?_|refine W5 rfl ?_ ?_|refine W6 ?_ ?_|refine AppN.mk ?_|refine X1 (W1 rfl ?_ ?_)|refine X1 (W2 rfl ?_ ?_)|refine X2 (W7 rfl ?_ ?_)|refine X3 (W7 rfl ?_ ?_)|refine X4 (W7 rfl ?_ ?_)|refine X5 (W7 rfl ?_ ?_))
        all_goals (try (conv => whnf))
        all_goals (try first|exact Ob.mk (u8_bnd _)|(refine Ob.mk ?_;first|exact True.intro|assumption|omega|(try simp only [ZA,ZB,ZC,ZD,ZE,ZF,ZG,ZH,ZI,ZJ,ZK,ZL,ZM,ZN,ZO,Int.toNat_natCast,UInt8.ofNat_toNat,cast_eq] at *;omega)))
        all_goals (try first|(show (_:Int) = _;omega)|(show tupSV _ = _;with_unfolding_all rfl)|((first|show (_:Nat) ≤ _|show (_:Nat) ≤ _ ∧ (_:Nat) ≤ _|show (_:Int) ≤ _ ∧ (_:Int) ≤ _ ∧ (_:Int) ≤ _ ∧ (_:Int) ≤ _);(simp <;> omega)))
        all_goals rfl
      · rename_i h0 h
        have hA : a.dropWhile spB = a := dw_stop fun hl => by
          have hl' : decide ((a.length : Int) > 0) = true := decide_eq_true (by omega)
          rw [hl', Bool.true_and] at h
          exact h
        have hB : a = Q.dropWhile spB := hA.symm.trans ha.2
        rw [← hB] at eN
        refine LoopStop.mk (α := Nat) (fun k => [(7, .int .i64 k)]) (fun b => []) 40 (fun k => k ≤ a.length ∧ a.takeWhile (fun c => !spB c) = a.take k ++ (a.drop k).takeWhile (fun c => !spB c)) (fun k => a.length - k) 0 ⟨by omega, by simp⟩ ?_ (fun k hk => ?_)
        · repeat' ((conv => whnf);first|(with_reducible first|rfl|exact absTF|exact absFT)|exact True.intro|intro _|refine And.intro ?_ ?_|refine Fin.mk ?_|refine W1 rfl ?_ ?_|refine W2 rfl ?_ ?_|refine W3 rfl ?_ ?_|refine W4 ?_ ?_|refine W5 rfl ?_ ?_|refine W6 ?_ ?_|refine AppN.mk ?_|refine X1 (W1 rfl ?_ ?_)|refine X1 (W2 rfl ?_ ?_)|refine X2 (W7 rfl ?_ ?_)|refine X3 (W7 rfl ?_ ?_)|refine X4 (W7 rfl ?_ ?_)|refine X5 (W7 rfl ?_ ?_))
          all_goals (try (conv => whnf))
          all_goals (try first|exact Ob.mk (u8_bnd _)|(refine Ob.mk ?_;first|exact True.intro|assumption|omega|(try simp only [ZA,ZB,ZC,ZD,ZE,ZF,ZG,ZH,ZI,ZJ,ZK,ZL,ZM,ZN,ZO,Int.toNat_natCast,UInt8.ofNat_toNat,cast_eq] at *;omega)))
          all_goals (try first|(show (_:Int) = _;omega)|(show tupSV _ = _;with_unfolding_all rfl)|((first|show (_:Nat) ≤ _|show (_:Nat) ≤ _ ∧ (_:Nat) ≤ _|show (_:Int) ≤ _ ∧ (_:Int) ≤ _ ∧ (_:Int) ≤ _ ∧ (_:Int) ≤ _);(simp <;> omega)))
          all_goals rfl
        · obtain ⟨k1, k2⟩ := hk
          repeat' ((conv => whnf);first|(with_reducible first|rfl|exact absTF|exact absFT)|exact True.intro|intro _|refine And.intro ?_ ?_|refine Fin.mk ?_|refine W1 rfl ?_ ?_|refine W2 rfl ?_ ?_|refine W3 rfl ?_ ?_|refine W4 ?_ ?_|refine W5 rfl ?_ ?_|refine W6 ?_ ?_|refine AppN.mk ?_|refine X1 (W1 rfl ?_ ?_)|refine X1 (W2 rfl ?_ ?_)|refine X2 (W7 rfl ?_ ?_)|refine X3 (W7 rfl ?_ ?_)|refine X4 (W7 rfl ?_ ?_)|refine X5 (W7 rfl ?_ ?_))
          all_goals (try (conv => whnf))
          all_goals (try first|exact Ob.mk (u8_bnd _)|(refine Ob.mk ?_;first|exact True.intro|assumption|omega|(try simp only [ZA,ZB,ZC,ZD,ZE,ZF,ZG,ZH,ZI,ZJ,ZK,ZL,ZM,ZN,ZO,Int.toNat_natCast,UInt8.ofNat_toNat,cast_eq] at *;omega)))
          all_goals (try first|(show (_:Int) = _;omega)|(show tupSV _ = _;with_unfolding_all rfl)|((first|show (_:Nat) ≤ _|show (_:Nat) ≤ _ ∧ (_:Nat) ≤ _|show (_:Int) ≤ _ ∧ (_:Int) ≤ _ ∧ (_:Int) ≤ _ ∧ (_:Int) ≤ _);(simp <;> omega)))
          all_goals (try simp only [Int.toNat_natCast] at *)
          · rename_i h2 h3
            have h' : decide ((k : Int) < (a.length : Int)) = true ∧ (!W.isSp ((a.getD k 0).toNat : Int)) = true := by simpa only [Bool.and_eq_true] using h3
            have hl : k < a.length := by have := of_decide_eq_true h'.1; omega
            refine Rnd.mk ⟨k + 1, ⟨by omega, ?_⟩, by omega, ?_⟩
            · have hs : (!spB a[k]) = true := by
                have e : a.getD k 0 = a[k] := by simp [List.getD, List.getElem?_eq_getElem hl]
                have := h'.2
                rw [e] at this; exact this
              rw [k2, drop_at a k hl, List.takeWhile_cons, if_pos hs, List.take_succ_eq_append_getElem hl, List.append_assoc, List.singleton_append]
            · repeat' ((conv => whnf);first|(with_reducible first|rfl|exact absTF|exact absFT)|exact True.intro|intro _|refine And.intro ?_ ?_|refine Fin.mk ?_|refine W1 rfl ?_ ?_|refine W2 rfl ?_ ?_|refine W3 rfl ?_ ?_|refine W4 ?_ ?_|refine W5 rfl ?_ ?_|refine W6 ?_ ?_|refine AppN.mk ?_|refine X1 (W1 rfl ?_ ?_)|refine X1 (W2 rfl ?_ ?_)|refine X2 (W7 rfl ?_ ?_)|refine X3 (W7 rfl ?_ ?_)|refine X4 (W7 rfl ?_ ?_)|refine X5 (W7 rfl ?_ ?_))
              all_goals (try (conv => whnf))
              all_goals (try first|exact Ob.mk (u8_bnd _)|(refine Ob.mk ?_;first|exact True.intro|assumption|omega|(try simp only [ZA,ZB,ZC,ZD,ZE,ZF,ZG,ZH,ZI,ZJ,ZK,ZL,ZM,ZN,ZO,Int.toNat_natCast,UInt8.ofNat_toNat,cast_eq] at *;omega)))
              all_goals (try first|(show (_:Int) = _;omega)|(show tupSV _ = _;with_unfolding_all rfl)|((first|show (_:Nat) ≤ _|show (_:Nat) ≤ _ ∧ (_:Nat) ≤ _|show (_:Int) ≤ _ ∧ (_:Int) ≤ _ ∧ (_:Int) ≤ _ ∧ (_:Int) ≤ _);(simp <;> omega)))
              all_goals rfl
          all_goals (
            have hT : a.takeWhile (fun c => !spB c) = a.take k := by
              have h3 : (decide ((k : Int) < (a.length : Int)) && !W.isSp ((a.getD k 0).toNat : Int)) = false := ‹_›
              rw [k2]
              have : (a.drop k).takeWhile (fun c => !spB c) = [] := by
                rcases Nat.lt_or_ge k a.length with hl | hl
                · have hl' : decide ((k : Int) < (a.length : Int)) = true := decide_eq_true (by omega)
                  rw [hl', Bool.true_and] at h3
                  have e : a.getD k 0 = a[k] := by simp [List.getD, List.getElem?_eq_getElem hl]
                  rw [e] at h3
                  rw [drop_at a k hl, List.takeWhile_cons, if_neg (by show ¬ (!W.isSp (a[k].toNat : Int)) = true; rw [h3]; decide)]
                · rw [List.drop_eq_nil_of_le hl]; rfl
              rw [this, List.append_nil])
          all_goals (first | rfl | (rw [eN, hT]; done) | omega | (constructor <;> omega) | (rw [eU]; simp only [cond_false]; omega) | trace_state)
theorem begP_get {s p : List UInt8} : begP s p = true ↔ occ s p 0 := by
  unfold begP
  rw [Bool.and_eq_true, ← pre_iff, List.isPrefixOf_iff_prefix, List.prefix_iff_eq_take, beq_iff_eq]
  constructor
  · rintro ⟨_, h⟩; exact h.symm
  · intro h
    refine ⟨?_, h.symm⟩
    have := congrArg List.length h
    simp at this
    simp; omega
end Go.Vc

namespace Go.Vc
open Go.Proofs
set_option maxRecDepth 10000
set_option maxHeartbeats 4000000
theorem beg2 (s : List UInt8) (a b : UInt8) : begP s [a, b] = true ↔ 2 ≤ s.length ∧ s.getD 0 0 = a ∧ s.getD 1 0 = b := by
  rw [begP_get]
  constructor
  · rintro ⟨h1, h2⟩
    have e0 := h2 0 (by simp)
    have e1 := h2 1 (by simp)
    exact ⟨by simpa using h1, by simpa using e0, by simpa using e1⟩
  · rintro ⟨h1, h2, h3⟩
    refine ⟨by simpa using h1, fun j hj => ?_⟩
    have : j = 0 ∨ j = 1 := by simp at hj; omega
    rcases this with rfl | rfl
    · simpa using h2
    · simpa using h3
theorem beg3 (s : List UInt8) (a b c : UInt8) : begP s [a, b, c] = true ↔ begP s [a, b] = true ∧ 3 ≤ s.length ∧ s.getD 2 0 = c := by
  rw [beg2, begP_get]
  constructor
  · rintro ⟨h1, h2⟩
    have e0 := h2 0 (by simp)
    have e1 := h2 1 (by simp)
    have e2 := h2 2 (by simp)
    simp at h1
    exact ⟨⟨by omega, by simpa using e0, by simpa using e1⟩, by omega, by simpa using e2⟩
  · rintro ⟨⟨h0, h2, h3⟩, h1, h4⟩
    refine ⟨by simpa using h1, fun j hj => ?_⟩
    have : j = 0 ∨ j = 1 ∨ j = 2 := by simp at hj; omega
    rcases this with rfl | rfl | rfl
    · simpa using h2
    · simpa using h3
    · simpa using h4
theorem beg_more {s p q : List UInt8} (h : begP s (p ++ q) = true) : begP s p = true := by
  rw [begP_get] at h ⊢
  refine ⟨by have := h.1; simp at this; omega, fun j hj => ?_⟩
  have := h.2 j (by simp; omega)
  rw [this]
  simp only [List.getD]
  rw [List.getElem?_append_left hj]
theorem r0_iff (s : List UInt8) : r0 s = false ↔ 2 ≤ s.length ∧ s.getD 0 0 = 60 := by
  unfold r0
  have e : (((s.getD 0 0).toNat : Int) == 60) = (s.getD 0 0 == 60) := b_iff (s.getD 0 0) 60
  rw [Bool.or_eq_false_iff, bne, e, Bool.not_eq_false', beq_iff_eq, decide_eq_false_iff_not]
  constructor <;> (rintro ⟨a, b⟩; exact ⟨by omega, b⟩)
theorem rk33 (s : List UInt8) : rk s 33 = true ↔ s.getD 1 0 = 33 := by
  unfold rk; rw [show (((s.getD 1 0).toNat : Int) == 33) = (s.getD 1 0 == 33) from b_iff _ 33, beq_iff_eq]
theorem rk63 (s : List UInt8) : rk s 63 = true ↔ s.getD 1 0 = 63 := by
  unfold rk; rw [show (((s.getD 1 0).toNat : Int) == 63) = (s.getD 1 0 == 63) from b_iff _ 63, beq_iff_eq]
theorem rk47 (s : List UInt8) : rk s 47 = true ↔ s.getD 1 0 = 47 := by
  unfold rk; rw [show (((s.getD 1 0).toNat : Int) == 47) = (s.getD 1 0 == 47) from b_iff _ 47, beq_iff_eq]
theorem readP_bang {s : List UInt8} (f : Bool) (h : begP s [60, 33] = true) : readP s f = declP s f := by
  obtain ⟨h1, h2, h3⟩ := (beg2 s 60 33).1 h
  unfold readP
  rw [if_neg (by rw [(r0_iff s).2 ⟨h1, h2⟩]; decide), if_pos ((rk33 s).2 h3)]
theorem readP_ques {s : List UInt8} (f : Bool) (h : begP s [60, 63] = true) : readP s f = bogusP s 1 := by
  obtain ⟨h1, h2, h3⟩ := (beg2 s 60 63).1 h
  unfold readP
  rw [if_neg (by rw [(r0_iff s).2 ⟨h1, h2⟩]; decide), if_neg (by intro q; have := (rk33 s).1 q; rw [h3] at this; exact absurd this (by decide)), if_pos ((rk63 s).2 h3)]
theorem readP_slash {s : List UInt8} (f : Bool) (h : begP s [60, 47] = true) : readP s f = if r62 s = true then (0, [], [], 3, false) else if rAl s = true then bogusP s 2 else (0, [], [], 0, false) := by
  obtain ⟨h1, h2, h3⟩ := (beg2 s 60 47).1 h
  unfold readP
  rw [if_neg (by rw [(r0_iff s).2 ⟨h1, h2⟩]; decide), if_neg (by intro q; have := (rk33 s).1 q; rw [h3] at this; exact absurd this (by decide)), if_neg (by intro q; have := (rk63 s).1 q; rw [h3] at this; exact absurd this (by decide)), if_pos ((rk47 s).2 h3)]
theorem r62_iff {s : List UInt8} (h : begP s [60, 47] = true) : r62 s = begP s [60, 47, 62] := by
  rw [Bool.eq_iff_iff, beg3]
  unfold r62
  rw [Bool.and_eq_true, show (((s.getD 2 0).toNat : Int) == 62) = (s.getD 2 0 == 62) from b_iff _ 62]
  simp [h]
  omega
theorem readP_none {s : List UInt8} (f : Bool) (h1 : begP s [60, 33] = false) (h2 : begP s [60, 63] = false) (h3 : begP s [60, 47] = false) : readP s f = (0, [], [], 0, false) := by
  unfold readP
  by_cases h : r0 s = true
  · rw [if_pos h]
  · rw [if_neg h]
    have h0 := (r0_iff s).1 (by simpa using h)
    rw [if_neg, if_neg, if_neg]
    · intro q; have := (rk47 s).1 q; rw [(beg2 s 60 47).2 ⟨h0.1, h0.2, this⟩] at h3; cases h3
    · intro q; have := (rk63 s).1 q; rw [(beg2 s 60 63).2 ⟨h0.1, h0.2, this⟩] at h2; cases h2
    · intro q; have := (rk33 s).1 q; rw [(beg2 s 60 33).2 ⟨h0.1, h0.2, this⟩] at h1; cases h1
theorem take2_beg (s : List UInt8) (a b : UInt8) (h : 2 ≤ s.length) : (s.take 2 == [a, b]) = begP s [a, b] := by
  unfold begP
  rw [decide_eq_true (by simp; omega), Bool.true_and]; rfl
instance rRRead (s : List UInt8) (f : Bool) : Fn BB 35 [.str s, .bool f] (s.length ≤ 900000) (rkSV (readP s f)) := by
  refine Fn.intro (N := 92) [0, 1, 4, 5, 6, 7, 9, 28, 38, 42, 57, 64, 71, 85] [] Tryz.call35 Tryz.func35 rfl rfl (by kernel_rfl) (fun hpre => ?_)
  have e2 : (2 : Int).toNat = 2 := rfl
  have e4 : (4 : Int).toNat = 4 := rfl
  have e9 : (9 : Int).toNat = 9 := rfl
  have l4 : (s.drop 4).length ≤ s.length := by simp
  have eI : lowL [100, 111, 99, 116, 121, 112, 101] = [100, 111, 99, 116, 121, 112, 101] := by decide
  have t1 : begP s [60, 33, 45, 45] = true → begP s [60, 33] = true ∧ 4 ≤ s.length := fun h => ⟨beg_more (q := [45, 45]) h, by have := (begP_get.1 h).1; simpa using this⟩
  have t2 : begP s cdM = true → begP s [60, 33] = true ∧ 9 ≤ s.length := fun h => ⟨beg_more (q := [91, 67, 68, 65, 84, 65, 91]) h, by have := (begP_get.1 h).1; simpa using this⟩
  have t3 : begP s [60, 33] = true → 2 ≤ s.length := fun h => ((beg2 s _ _).1 h).1
  have t4 : begP s [60, 63] = true → 2 ≤ s.length := fun h => ((beg2 s _ _).1 h).1
  have v1 : begP s [60, 33, 45, 45] = true → readP s f = cm4 s := fun h => by
    rw [readP_bang f (t1 h).1]; unfold declP; rw [if_pos h]
  have hdoc : isDoc s = true → 9 ≤ s.length := fun h => by unfold isDoc at h; rw [Bool.and_eq_true] at h; have := of_decide_eq_true h.1; omega
  have cD : (decide ((s.length : Int) ≥ 9) && List.take (Int.toNat 2) s == [60, 33] && lowL (List.drop (Int.toNat 2) (List.take (Int.toNat 9) s)) == lowL [100, 111, 99, 116, 121, 112, 101]) = (begP s [60, 33] && isDoc s) := by
    rw [eI]
    unfold isDoc
    by_cases h : 9 ≤ s.length
    · have hd : decide ((s.length : Int) ≥ 9) = true := decide_eq_true (by omega)
      rw [hd, e2, e9, take2_beg s _ _ (by omega), Bool.true_and, Bool.true_and]
    · have hd : decide ((s.length : Int) ≥ 9) = false := decide_eq_false (by omega)
      rw [hd]; simp
  have v2 : begP s [60, 33, 45, 45] = false → (begP s [60, 33] && isDoc s) = true → readP s f = docP s ∧ 9 ≤ s.length := fun h h2 => by
    rw [Bool.and_eq_true] at h2
    refine ⟨?_, hdoc h2.2⟩
    rw [readP_bang f h2.1]; unfold declP; rw [if_neg (by rw [h]; decide), if_pos h2.2]
  have v3 : begP s [60, 33, 45, 45] = false → (begP s [60, 33] && isDoc s) = false → (f && begP s cdM) = true → readP s f = secP s ∧ 9 ≤ s.length := fun h h2 h3 => by
    have h4 : begP s cdM = true := by cases f <;> simp_all
    rw [(t2 h4).1, Bool.true_and] at h2
    refine ⟨?_, (t2 h4).2⟩
    rw [readP_bang f (t2 h4).1]; unfold declP; rw [if_neg (by rw [h]; decide), if_neg (by rw [h2]; decide), if_pos h3]
  have v4 : begP s [60, 33, 45, 45] = false → (begP s [60, 33] && isDoc s) = false → (f && begP s cdM) = false → begP s [60, 33] = true → readP s f = bogusP s 2 := fun h h2 h3 h4 => by
    rw [h4, Bool.true_and] at h2
    rw [readP_bang f h4]; unfold declP; rw [if_neg (by rw [h]; decide), if_neg (by rw [h2]; decide), if_neg (by rw [h3]; decide)]
  have v5 : begP s [60, 63] = true → readP s f = bogusP s 1 := readP_ques f
  have v6 : begP s [60, 47, 62] = true → readP s f = (0, [], [], 3, false) := fun h => by
    have h' := ((beg3 s _ _ _).1 h).1
    rw [readP_slash f h', if_pos (by rw [r62_iff h']; exact h)]
  have v7 : begP s [60, 47, 62] = false → (decide ((s.length : Int) > 2) && begP s [60, 47] && !alI ((s.getD (Int.toNat 2) 0).toNat : Int)) = true → readP s f = bogusP s 2 ∧ 2 ≤ s.length := fun h h2 => by
    simp only [Bool.and_eq_true] at h2
    obtain ⟨⟨a, b⟩, c⟩ := h2
    have a' := of_decide_eq_true a
    refine ⟨?_, by omega⟩
    rw [readP_slash f b, if_neg (by rw [r62_iff b, h]; decide), if_pos (by unfold rAl; rw [a, Bool.true_and]; exact c)]
  have v8 : begP s [60, 33] = false → begP s [60, 63] = false → begP s [60, 47, 62] = false → (decide ((s.length : Int) > 2) && begP s [60, 47] && !alI ((s.getD (Int.toNat 2) 0).toNat : Int)) = false → readP s f = (0, [], [], 0, false) := fun h1 h2 h3 h4 => by
    by_cases b : begP s [60, 47] = true
    · rw [readP_slash f b, if_neg (by rw [r62_iff b, h3]; decide), if_neg]
      intro q
      unfold rAl at q
      rw [Bool.and_eq_true] at q
      rw [q.1, b, Bool.true_and, Bool.true_and] at h4
      have := q.2
      rw [show (2 : Int).toNat = 2 from rfl] at h4
      rw [h4] at this; cases this
    · exact readP_none f h1 h2 (by simpa using b)
  have lF := fnd_le (s.drop 9) mC
  rw [List.length_drop] at lF
  have lF' : fnd (s.drop 9) [93, 93, 62] ≤ s.length - 9 := lF
  have sF := fd_spec (s.drop 9) mC (by decide)
  have uF : 9 ≤ s.length → uN (s.drop 9) mC = min (fnd (s.drop 9) mC + 3) (s.length - 9) := fun h => by
    rw [List.length_drop] at sF
    have z : mC.length = 3 := rfl
    cases q : fdB (s.drop 9) mC
    · have := sF.2 q; omega
    · have := sF.1 q; omega
  have w0 : (((9 + fnd (s.drop 9) mC : Nat) : Int) == 9) = decide (fnd (s.drop 9) mC = 0) := by
    rw [Bool.eq_iff_iff, beq_iff_eq, decide_eq_true_eq]; omega
  have w1 : 9 ≤ s.length → decide (fnd (s.drop 9) mC = 0) = true → secP s = (0, [], [], min 12 (s.length : Int), false) := fun h h2 => by
    have h2 := of_decide_eq_true h2
    have e : secD s = [] := by unfold secD; rw [h2]; rfl
    unfold secP
    rw [if_pos e, uF h, h2]
    congr 4
    omega
  have w2 : 9 ≤ s.length → decide (fnd (s.drop 9) mC = 0) = false → secP s = (3, [], (s.take (9 + fnd (s.drop 9) mC)).drop 9, min (((9 + fnd (s.drop 9) mC : Nat) : Int) + 3) (s.length : Int), true) := fun h h2 => by
    have h2 := of_decide_eq_false h2
    have e : secD s ≠ [] := by
      unfold secD
      intro q
      have := congrArg List.length q
      rw [List.length_take, List.length_drop] at this
      simp at this
      omega
    have e3 : (s.take (9 + fnd (s.drop 9) mC)).drop 9 = secD s := by unfold secD; rw [List.drop_take]; congr 1; omega
    unfold secP
    rw [if_neg e, uF h, e3]
    congr 4
    omega
  repeat' ((conv => whnf);first|(with_reducible first|rfl|exact absTF|exact absFT)|exact True.intro|intro _|refine And.intro ?_ ?_|refine Fin.mk ?_|refine W1 rfl ?_ ?_|refine W2 rfl ?_ ?_|refine W3 rfl ?_ ?_|refine W4 ?_ ?_|refine W5 rfl ?_ ?_|refine W6 ?_ ?_|refine AppN.mk ?_|refine X1 (W1 rfl ?_ ?_)|refine X1 (W2 rfl ?_ ?_)|refine X2 (W7 rfl ?_ ?_)|refine X3 (W7 rfl ?_ ?_)|refine X4 (W7 rfl ?_ ?_)|refine X5 (W7 rfl ?_ ?_))
  all_goals (try (conv => whnf))
  all_goals (try first|exact Ob.mk (u8_bnd _)|(refine Ob.mk ?_;first|exact True.intro|assumption|omega|(try simp only [ZA,ZB,ZC,ZD,ZE,ZF,ZG,ZH,ZI,ZJ,ZK,ZL,ZM,ZN,ZO,Int.toNat_natCast,UInt8.ofNat_toNat,cast_eq] at *;omega)))
  all_goals (try first|(show (_:Int) = _;omega)|(show tupSV _ = _;with_unfolding_all rfl)|((first|show (_:Nat) ≤ _|show (_:Nat) ≤ _ ∧ (_:Nat) ≤ _|show (_:Int) ≤ _ ∧ (_:Int) ≤ _ ∧ (_:Int) ≤ _ ∧ (_:Int) ≤ _);(simp <;> omega)))
  all_goals (try simp only [cD] at *)
  all_goals (try simp only [e9, Int.toNat_natCast, w0] at *)
  all_goals (try (have y := v1 ‹begP s [60, 33, 45, 45] = true›; have y4 := (t1 ‹begP s [60, 33, 45, 45] = true›).2))
  all_goals (try (have yz := v2 ‹_› ‹_›; have y := yz.1; have z := yz.2))
  all_goals (try (have yz := v3 ‹_› ‹_› ‹_›; have y0 := yz.1; have z := yz.2))
  all_goals (try (have y := y0.trans (w1 z ‹_›)))
  all_goals (try (have y := y0.trans (w2 z ‹_›)))
  all_goals (try (have y := v4 ‹_› ‹_› ‹_› ‹_›; have z := t3 ‹_›))
  all_goals (try (have y := v5 ‹_›; have z := t4 ‹_›))
  all_goals (try (have y := v6 ‹_›))
  all_goals (try (have yz := v7 ‹_› ‹_›; have y := yz.1; have z := yz.2))
  all_goals (try (have y := v8 ‹_› ‹_› ‹_› ‹_›))
  all_goals (first | omega | (rw [y]; done) | (rw [y]; rfl) | exact ⟨by omega, by omega, by decide, by decide, by omega⟩ | exact ⟨by omega, by omega⟩ | (constructor <;> omega) | exact ⟨by omega, by omega, by omega⟩ | exact u8_bnd _ | trace_state)
end Go.Vc

namespace Go.Vc
open Go.Proofs
set_option maxRecDepth 10000
set_option maxHeartbeats 8000000
instance rMark (s : List UInt8) (f : Bool) : FnM BB 20 [.str s, .bool f] [] (s.length ≤ 50000) (.tup [.agg [.int .i64 (mkT s f).1, .str (mkT s f).2.1, .own 0, .bool (mkT s f).2.2.2.1, .str (mkT s f).2.2.2.2], .int .i64 (mkN s f), .bool (mkO s f)]) [(0, .own attrTy (mkT s f).2.2.1)] := by
  refine FnM.intro (N := 27) [0, 1, 4, 5, 6, 7, 8, 9, 17] [] 0 Tryz.call20 Tryz.func20 rfl rfl (by kernel_rfl) (fun hpre => ?_)
  have ha := tagP_all s
  by_cases hz : (tagP s).2.2.2.2.1 = 0
  · have eN : mkN s f = (readP s f).2.2.2.1 := if_pos hz
    have eO : mkO s f = (readP s f).2.2.2.2 := if_pos hz
    have eT : mkT s f = ((readP s f).1, (readP s f).2.1, [], false, (readP s f).2.2.1) := if_pos hz
    repeat' ((conv => whnf);first|(with_reducible first|rfl|exact absTF|exact absFT)|exact True.intro|intro _|refine And.intro ?_ ?_|refine Fin.mk ?_|refine W1 rfl ?_ ?_|refine W2 rfl ?_ ?_|refine W3 rfl ?_ ?_|refine W4 ?_ ?_|refine W5 rfl ?_ ?_|refine W6 ?_ ?_|refine AppN.mk ?_|refine X1 (W1 rfl ?_ ?_)|refine X1 (W2 rfl ?_ ?_)|refine X2 (W7 rfl ?_ ?_)|refine X3 (W7 rfl ?_ ?_)|refine X4 (W7 rfl ?_ ?_)|refine X5 (W7 rfl ?_ ?_))
    all_goals (try (conv => whnf))
    all_goals (try first|exact Ob.mk (u8_bnd _)|(refine Ob.mk ?_;first|exact True.intro|assumption|omega|(try simp only [ZA,ZB,ZC,ZD,ZE,ZF,ZG,ZH,ZI,ZJ,ZK,ZL,ZM,ZN,ZO,Int.toNat_natCast,UInt8.ofNat_toNat,cast_eq] at *;omega)))
    all_goals (try first|(show (_:Int) = _;omega)|(show tupSV _ = _;with_unfolding_all rfl)|((first|show (_:Nat) ≤ _|show (_:Nat) ≤ _ ∧ (_:Nat) ≤ _|show (_:Int) ≤ _ ∧ (_:Int) ≤ _ ∧ (_:Int) ≤ _ ∧ (_:Int) ≤ _);(simp <;> omega)))
    all_goals (try (exfalso; have h := of_decide_eq_true ‹decide ((tagP s).2.2.2.2.1 > 0) = true›; omega))
    all_goals (first | (rw [eT]; done) | (rw [eT]; rfl) | (rw [eN]; done) | (rw [eN]; rfl) | (rw [eO]; done) | (rw [eO]; rfl) | omega | trace_state)
  · have eN : mkN s f = (tagP s).2.2.2.2.1 := if_neg hz
    have eO : mkO s f = (tagP s).2.2.2.2.2 := if_neg hz
    have eT : mkT s f = ((tagP s).1, (tagP s).2.1, (tagP s).2.2.1, (tagP s).2.2.2.1, []) := if_neg hz
    repeat' ((conv => whnf);first|(with_reducible first|rfl|exact absTF|exact absFT)|exact True.intro|intro _|refine And.intro ?_ ?_|refine Fin.mk ?_|refine W1 rfl ?_ ?_|refine W2 rfl ?_ ?_|refine W3 rfl ?_ ?_|refine W4 ?_ ?_|refine W5 rfl ?_ ?_|refine W6 ?_ ?_|refine AppN.mk ?_|refine X1 (W1 rfl ?_ ?_)|refine X1 (W2 rfl ?_ ?_)|refine X2 (W7 rfl ?_ ?_)|refine X3 (W7 rfl ?_ ?_)|refine X4 (W7 rfl ?_ ?_)|refine X5 (W7 rfl ?_ ?_))
    all_goals (try (conv => whnf))
    all_goals (try first|exact Ob.mk (u8_bnd _)|(refine Ob.mk ?_;first|exact True.intro|assumption|omega|(try simp only [ZA,ZB,ZC,ZD,ZE,ZF,ZG,ZH,ZI,ZJ,ZK,ZL,ZM,ZN,ZO,Int.toNat_natCast,UInt8.ofNat_toNat,cast_eq] at *;omega)))
    all_goals (try first|(show (_:Int) = _;omega)|(show tupSV _ = _;with_unfolding_all rfl)|((first|show (_:Nat) ≤ _|show (_:Nat) ≤ _ ∧ (_:Nat) ≤ _|show (_:Int) ≤ _ ∧ (_:Int) ≤ _ ∧ (_:Int) ≤ _ ∧ (_:Int) ≤ _);(simp <;> omega)))
    all_goals (try (exfalso; have h := of_decide_eq_false ‹decide ((tagP s).2.2.2.2.1 > 0) = false›; omega))
    all_goals (first | (rw [eT]; done) | (rw [eT]; rfl) | (rw [eN]; done) | (rw [eN]; rfl) | (rw [eO]; done) | (rw [eO]; rfl) | omega | trace_state)
theorem nx_step (s : List UInt8) (f : Bool) {i : Nat} (h : i < s.length) : nxT s f (s.length - i) i = if 0 < mkN (s.drop i) f then i else nxT s f (s.length - (i + 1)) (i + 1) := by
  rw [show s.length - i = (s.length - (i + 1)) + 1 by omega, nxT]
instance rNext (s l : List UInt8) (f : Bool) : FnM BB 12 [.loc 0 0, .int .i64 0, .str l, .bool f] [(0, .box [.str s])] (s.length ≤ 50000) (.agg [.int .i64 (datP f s).1.1, .str (datP f s).1.2.1, .own 1, .bool (datP f s).1.2.2.2.1, .str (datP f s).1.2.2.2.2]) [(0, .box [.str (datP f s).2]), (1, .own attrTy (datP f s).1.2.2.1)] := by
  refine FnM.intro (N := 93) [0, 1, 2, 3, 8, 9, 10, 11, 12, 14, 16, 18, 27, 39, 49, 57, 71] [] 1 Tryz.call12 Tryz.func12 rfl rfl (by kernel_rfl) (fun hpre => ?_)
  repeat' ((conv => whnf);first|(with_reducible first|rfl|exact absTF|exact absFT)|exact True.intro|(intro hq; (try simp only [ZA,ZB,ZC,ZD,ZE,ZF,ZG,ZH,ZI,ZJ,ZK,ZL,ZM,ZN,ZO,Bool.and_eq_false_iff,Bool.or_eq_false_iff,ge_iff_le,gt_iff_lt,Int.toNat_natCast,UInt8.ofNat_toNat,cast_eq] at hq); (try (exfalso; first | omega | exact hq trivial | exact absurd hq (by decide))))|refine And.intro ?_ ?_|refine Fin.mk ?_|refine W1 rfl ?_ ?_|refine W2 rfl ?_ ?_|refine W3 rfl ?_ ?_|refine W4 ?_ ?_|refine W5 rfl ?_ ?_|refine W6 ?_ ?_|refine AppN.mk ?_|refine X1 (W1 rfl ?_ ?_)|refine X1 (W2 rfl ?_ ?_)|refine X2 (W7 rfl ?_ ?_)|refine X3 (W7 rfl ?_ ?_)|refine X4 (W7 rfl ?_ ?_)|refine X5 (W7 rfl ?_ ?_))
  all_goals (try (conv => whnf))
  all_goals (try first|exact Ob.mk (u8_bnd _)|(refine Ob.mk ?_;first|exact True.intro|assumption|omega|(try simp only [ZA,ZB,ZC,ZD,ZE,ZF,ZG,ZH,ZI,ZJ,ZK,ZL,ZM,ZN,ZO,Int.toNat_natCast,UInt8.ofNat_toNat,cast_eq] at *;omega)))
  all_goals (try first|(show (_:Int) = _;omega)|(show tupSV _ = _;with_unfolding_all rfl)|((first|show (_:Nat) ≤ _|show (_:Nat) ≤ _ ∧ (_:Nat) ≤ _|show (_:Int) ≤ _ ∧ (_:Int) ≤ _ ∧ (_:Int) ≤ _ ∧ (_:Int) ≤ _);(simp <;> omega)))
  refine LoopStop.mk (α := List UInt8) (fun _ => []) (fun x => [(0, .box [.str x])]) 40 (fun x => x.length ≤ s.length ∧ datP f x = datP f s) (fun x => x.length) s ⟨by omega, rfl⟩ ?_ (fun x hx => ?_)
  · repeat' ((conv => whnf);first|(with_reducible first|rfl|exact absTF|exact absFT)|exact True.intro|intro _|refine And.intro ?_ ?_|refine Fin.mk ?_|refine W1 rfl ?_ ?_|refine W2 rfl ?_ ?_|refine W3 rfl ?_ ?_|refine W4 ?_ ?_|refine W5 rfl ?_ ?_|refine W6 ?_ ?_|refine AppN.mk ?_|refine X1 (W1 rfl ?_ ?_)|refine X1 (W2 rfl ?_ ?_)|refine X2 (W7 rfl ?_ ?_)|refine X3 (W7 rfl ?_ ?_)|refine X4 (W7 rfl ?_ ?_)|refine X5 (W7 rfl ?_ ?_))
    all_goals (try (conv => whnf))
    all_goals (try first|exact Ob.mk (u8_bnd _)|(refine Ob.mk ?_;first|exact True.intro|assumption|omega|(try simp only [ZA,ZB,ZC,ZD,ZE,ZF,ZG,ZH,ZI,ZJ,ZK,ZL,ZM,ZN,ZO,Int.toNat_natCast,UInt8.ofNat_toNat,cast_eq] at *;omega)))
    all_goals (try first|(show (_:Int) = _;omega)|(show tupSV _ = _;with_unfolding_all rfl)|((first|show (_:Nat) ≤ _|show (_:Nat) ≤ _ ∧ (_:Nat) ≤ _|show (_:Int) ≤ _ ∧ (_:Int) ≤ _ ∧ (_:Int) ≤ _ ∧ (_:Int) ≤ _);(simp <;> omega)))
    all_goals (first | rfl | trace_state)
  · obtain ⟨h1, h2⟩ := hx
    have hb := mkN_all x f
    have hn : (x != []) = false → datP f s = (tok0, []) := fun h => by
      have : x = [] := by simpa using h
      rw [← h2, this]; rfl
    have hx0 : (x != []) = true → x ≠ [] := fun h => by simpa using h
    have ht : (x != []) = true → mkN x f = 0 → datP f s = ((3, [], [], false, decF (x.take (txN x f)) false), x.drop (txN x f)) := fun h h' => by
      rw [← h2]; exact datP_txt f x (hx0 h) h'
    have ho : (x != []) = true → mkN x f ≠ 0 → mkO x f = true → datP f s = (mkT x f, x.drop (mkN x f).toNat) := fun h h' h'' => by
      rw [← h2]; exact datP_ok f x (hx0 h) h' h''
    have hs : (x != []) = true → mkN x f ≠ 0 → mkO x f = false → datP f x = datP f (x.drop (mkN x f).toNat) := fun h h' h'' => datP_step f x (hx0 h) h' h''
    repeat' ((conv => whnf);first|(with_reducible first|rfl|exact absTF|exact absFT)|exact True.intro|intro _|refine And.intro ?_ ?_|refine Fin.mk ?_|refine W1 rfl ?_ ?_|refine W2 rfl ?_ ?_|refine W3 rfl ?_ ?_|refine W4 ?_ ?_|refine W5 rfl ?_ ?_|refine W6 ?_ ?_|refine AppN.mk ?_|refine X1 (W1 rfl ?_ ?_)|refine X1 (W2 rfl ?_ ?_)|refine X2 (W7 rfl ?_ ?_)|refine X3 (W7 rfl ?_ ?_)|refine X4 (W7 rfl ?_ ?_)|refine X5 (W7 rfl ?_ ?_))
    all_goals (try (conv => whnf))
    all_goals (try first|exact Ob.mk (u8_bnd _)|(refine Ob.mk ?_;first|exact True.intro|assumption|omega|(try simp only [ZA,ZB,ZC,ZD,ZE,ZF,ZG,ZH,ZI,ZJ,ZK,ZL,ZM,ZN,ZO,Int.toNat_natCast,UInt8.ofNat_toNat,cast_eq] at *;omega)))
    all_goals (try first|(show (_:Int) = _;omega)|(show tupSV _ = _;with_unfolding_all rfl)|((first|show (_:Nat) ≤ _|show (_:Nat) ≤ _ ∧ (_:Nat) ≤ _|show (_:Int) ≤ _ ∧ (_:Int) ≤ _ ∧ (_:Int) ≤ _ ∧ (_:Int) ≤ _);(simp <;> omega)))
    all_goals (try (have hnz : mkN x f ≠ 0 := by have := of_decide_eq_true ‹decide (mkN x f > 0) = true›; omega))
    all_goals (try (have hzz : mkN x f = 0 := by have := of_decide_eq_false ‹decide (mkN x f > 0) = false›; omega))
    all_goals (try (have q := hn ‹_›; have hnil : x = [] := by simpa using ‹(!x == []) = false›))
    all_goals (try (have q := ho ‹_› hnz ‹_›))
    all_goals (first | (rw [q]; done) | (rw [q]; rfl) | (rw [q, hnil]; done) | (rw [q, hnil]; rfl) | omega | exact ⟨by omega, by omega⟩ | skip)
    · have h0 : x ≠ [] := hx0 ‹_›
      have hp := List.length_pos_iff.mpr h0
      refine Rnd.mk ⟨x.drop (mkN x f).toNat, ⟨by rw [List.length_drop]; omega, by rw [← h2]; exact (hs ‹_› hnz ‹_›).symm⟩, by rw [List.length_drop]; omega, ?_⟩
      repeat' ((conv => whnf);first|(with_reducible first|rfl|exact absTF|exact absFT)|exact True.intro|intro _|refine And.intro ?_ ?_|refine Fin.mk ?_|refine W1 rfl ?_ ?_|refine W2 rfl ?_ ?_|refine W3 rfl ?_ ?_|refine W4 ?_ ?_|refine W5 rfl ?_ ?_|refine W6 ?_ ?_|refine AppN.mk ?_|refine X1 (W1 rfl ?_ ?_)|refine X1 (W2 rfl ?_ ?_)|refine X2 (W7 rfl ?_ ?_)|refine X3 (W7 rfl ?_ ?_)|refine X4 (W7 rfl ?_ ?_)|refine X5 (W7 rfl ?_ ?_))
      all_goals (try (conv => whnf))
      all_goals (try first|exact Ob.mk (u8_bnd _)|(refine Ob.mk ?_;first|exact True.intro|assumption|omega|(try simp only [ZA,ZB,ZC,ZD,ZE,ZF,ZG,ZH,ZI,ZJ,ZK,ZL,ZM,ZN,ZO,Int.toNat_natCast,UInt8.ofNat_toNat,cast_eq] at *;omega)))
      all_goals (try first|(show (_:Int) = _;omega)|(show tupSV _ = _;with_unfolding_all rfl)|((first|show (_:Nat) ≤ _|show (_:Nat) ≤ _ ∧ (_:Nat) ≤ _|show (_:Int) ≤ _ ∧ (_:Int) ≤ _ ∧ (_:Int) ≤ _ ∧ (_:Int) ≤ _);(simp <;> omega)))
      all_goals (first | rfl | omega | trace_state)
    · have h0 : x ≠ [] := hx0 ‹_›
      have hp := List.length_pos_iff.mpr h0
      have q := ht ‹_› hzz
      have hx := txN_le x f h0
      refine LoopStop.mk (α := Nat) (fun i => [(12, .int .i64 (i : Nat))]) (fun _ => []) 70 (fun i => 1 ≤ i ∧ i ≤ x.length ∧ txN x f = nxT x f (x.length - i) i) (fun i => x.length - i) 1 ⟨by omega, by omega, rfl⟩ ?_ (fun i hi => ?_)
      · repeat' ((conv => whnf);first|(with_reducible first|rfl|exact absTF|exact absFT)|exact True.intro|intro _|refine And.intro ?_ ?_|refine Fin.mk ?_|refine W1 rfl ?_ ?_|refine W2 rfl ?_ ?_|refine W3 rfl ?_ ?_|refine W4 ?_ ?_|refine W5 rfl ?_ ?_|refine W6 ?_ ?_|refine AppN.mk ?_|refine X1 (W1 rfl ?_ ?_)|refine X1 (W2 rfl ?_ ?_)|refine X2 (W7 rfl ?_ ?_)|refine X3 (W7 rfl ?_ ?_)|refine X4 (W7 rfl ?_ ?_)|refine X5 (W7 rfl ?_ ?_))
        all_goals (try (conv => whnf))
        all_goals (try first|exact Ob.mk (u8_bnd _)|(refine Ob.mk ?_;first|exact True.intro|assumption|omega|(try simp only [ZA,ZB,ZC,ZD,ZE,ZF,ZG,ZH,ZI,ZJ,ZK,ZL,ZM,ZN,ZO,Int.toNat_natCast,UInt8.ofNat_toNat,cast_eq] at *;omega)))
        all_goals (try first|(show (_:Int) = _;omega)|(show tupSV _ = _;with_unfolding_all rfl)|((first|show (_:Nat) ≤ _|show (_:Nat) ≤ _ ∧ (_:Nat) ≤ _|show (_:Int) ≤ _ ∧ (_:Int) ≤ _ ∧ (_:Int) ≤ _ ∧ (_:Int) ≤ _);(simp <;> omega)))
        all_goals (first | rfl | trace_state)
      · obtain ⟨g1, g2, g3⟩ := hi
        have g4 : i < x.length → txN x f = if 0 < mkN (x.drop i) f then i else nxT x f (x.length - (i + 1)) (i + 1) := fun h => by rw [g3, nx_step x f h]
        have w1 : decide ((i : Int) < (x.length : Int)) = true → decide (mkN (x.drop (i : Int).toNat) f > 0) = true → txN x f = i := fun h h' => by
          have h := of_decide_eq_true h
          have h' := of_decide_eq_true h'
          rw [Int.toNat_natCast] at h'
          rw [g4 (by omega), if_pos h']
        have w2 : decide ((i : Int) < (x.length : Int)) = false → txN x f = i := fun h => by
          have h := of_decide_eq_false h
          rw [g3, show x.length - i = 0 by omega, nxT]; omega
        have w3 : decide ((i : Int) < (x.length : Int)) = true → decide (mkN (x.drop (i : Int).toNat) f > 0) = false → txN x f = nxT x f (x.length - (i + 1)) (i + 1) := fun h h' => by
          have h := of_decide_eq_true h
          have h' := of_decide_eq_false h'
          rw [Int.toNat_natCast] at h'
          rw [g4 (by omega), if_neg h']
        repeat' ((conv => whnf);first|(with_reducible first|rfl|exact absTF|exact absFT)|exact True.intro|intro _|refine And.intro ?_ ?_|refine Fin.mk ?_|refine W1 rfl ?_ ?_|refine W2 rfl ?_ ?_|refine W3 rfl ?_ ?_|refine W4 ?_ ?_|refine W5 rfl ?_ ?_|refine W6 ?_ ?_|refine AppN.mk ?_|refine X1 (W1 rfl ?_ ?_)|refine X1 (W2 rfl ?_ ?_)|refine X2 (W7 rfl ?_ ?_)|refine X3 (W7 rfl ?_ ?_)|refine X4 (W7 rfl ?_ ?_)|refine X5 (W7 rfl ?_ ?_))
        all_goals (try (conv => whnf))
        all_goals (try first|exact Ob.mk (u8_bnd _)|(refine Ob.mk ?_;first|exact True.intro|assumption|omega|(try simp only [ZA,ZB,ZC,ZD,ZE,ZF,ZG,ZH,ZI,ZJ,ZK,ZL,ZM,ZN,ZO,Int.toNat_natCast,UInt8.ofNat_toNat,cast_eq] at *;omega)))
        all_goals (try first|(show (_:Int) = _;omega)|(show tupSV _ = _;with_unfolding_all rfl)|((first|show (_:Nat) ≤ _|show (_:Nat) ≤ _ ∧ (_:Nat) ≤ _|show (_:Int) ≤ _ ∧ (_:Int) ≤ _ ∧ (_:Int) ≤ _ ∧ (_:Int) ≤ _);(simp <;> omega)))
        all_goals (try (have w := w1 ‹_› ‹_›))
        all_goals (try (have w := w2 ‹_›))
        all_goals (try (have w := w3 ‹_› ‹_›))
        all_goals (try (have b := of_decide_eq_true ‹decide ((i : Int) < (x.length : Int)) = true›))
        all_goals (try simp only [Int.toNat_natCast] at *)
        all_goals (first | (rw [q]; done) | (rw [q]; rfl) | (rw [q, w]; done) | (rw [q, w]; rfl) | omega | exact ⟨by omega, by omega⟩ | skip)
        refine Rnd.mk ⟨i + 1, ⟨by omega, by omega, w⟩, by omega, ?_⟩
        repeat' ((conv => whnf);first|(with_reducible first|rfl|exact absTF|exact absFT)|exact True.intro|intro _|refine And.intro ?_ ?_|refine Fin.mk ?_|refine W1 rfl ?_ ?_|refine W2 rfl ?_ ?_|refine W3 rfl ?_ ?_|refine W4 ?_ ?_|refine W5 rfl ?_ ?_|refine W6 ?_ ?_|refine AppN.mk ?_|refine X1 (W1 rfl ?_ ?_)|refine X1 (W2 rfl ?_ ?_)|refine X2 (W7 rfl ?_ ?_)|refine X3 (W7 rfl ?_ ?_)|refine X4 (W7 rfl ?_ ?_)|refine X5 (W7 rfl ?_ ?_))
        all_goals (try (conv => whnf))
        all_goals (try first|exact Ob.mk (u8_bnd _)|(refine Ob.mk ?_;first|exact True.intro|assumption|omega|(try simp only [ZA,ZB,ZC,ZD,ZE,ZF,ZG,ZH,ZI,ZJ,ZK,ZL,ZM,ZN,ZO,Int.toNat_natCast,UInt8.ofNat_toNat,cast_eq] at *;omega)))
        all_goals (try first|(show (_:Int) = _;omega)|(show tupSV _ = _;with_unfolding_all rfl)|((first|show (_:Nat) ≤ _|show (_:Nat) ≤ _ ∧ (_:Nat) ≤ _|show (_:Int) ≤ _ ∧ (_:Int) ≤ _ ∧ (_:Int) ≤ _ ∧ (_:Int) ≤ _);(simp <;> omega)))
        all_goals (first | rfl | omega | trace_state)
end Go.Vc

namespace Go.Vc
open Go.Proofs
set_option maxRecDepth 10000
set_option maxHeartbeats 8000000
theorem runT_len (s : List UInt8) : ∀ (f i : Nat) (l : List AttrD) (x : List UInt8), (runT s f i l x).2.2.1.length ≤ l.length + f := by
  intro f
  induction f with
  | zero => intro i l x; exact Nat.le_refl _
  | succ f ih =>
    intro i l x
    unfold runT
    split
    · exact Nat.le_add_right _ _
    split
    · exact Nat.le_add_right _ _
    split
    · split
      · exact Nat.le_add_right _ _
      · exact Nat.le_trans (ih _ _ _) (by omega)
    · unfold runT.atT
      split
      · exact Nat.le_trans (ih _ _ _) (Nat.le_trans (Nat.add_le_add_right (addL_len _ _) f) (by omega))
      split
      · exact Nat.le_add_right _ _
      split
      · exact Nat.le_add_right _ _
      · exact Nat.le_trans (ih _ _ _) (Nat.le_trans (Nat.add_le_add_right (addL_len _ _) f) (by omega))
theorem tagAt_len (s : List UInt8) (c : Bool) (n : Nat) : (tagAt s c n).2.2.1.length ≤ s.length + 1 := by
  unfold tagAt
  split
  · exact Nat.zero_le _
  split
  · exact Nat.zero_le _
  split
  · exact Nat.zero_le _
  · have := runT_len s (s.length + 1) (upTo (stP [47, 62]) s n) [] []
    have h : (rnG s n).2.2.1.length ≤ 0 + (s.length + 1) := this
    exact Nat.le_trans h (by omega)
theorem tagP_len (s : List UInt8) : (tagP s).2.2.1.length ≤ s.length + 1 := by
  unfold tagP
  split <;> exact tagAt_len _ _ _
end Go.Vc

namespace Go.Vc
open Go.Proofs
set_option maxRecDepth 10000
set_option maxHeartbeats 8000000
instance rAll (s : List UInt8) : FnM BB 7 [.str s] [] (s.length ≤ 50000) (.own 0) [(0, .own tokTy (allP s))] := by
  refine FnM.intro (N := 19) [0, 2, 3, 4, 5, 17] [] 0 Tryz.call7 Tryz.func7 rfl rfl (by kernel_rfl) (fun hpre => ?_)
  repeat' ((conv => whnf);first|(with_reducible first|rfl|exact absTF|exact absFT)|exact True.intro|intro _|refine And.intro ?_ ?_|refine Fin.mk ?_|refine W1 rfl ?_ ?_|refine W2 rfl ?_ ?_|refine W3 rfl ?_ ?_|refine W4 ?_ ?_|refine W5 rfl ?_ ?_|refine W6 ?_ ?_|refine AppN.mk ?_|refine X1 (W1 rfl ?_ ?_)|refine X1 (W2 rfl ?_ ?_)|refine X2 (W7 rfl ?_ ?_)|refine X3 (W7 rfl ?_ ?_)|refine X4 (W7 rfl ?_ ?_)|refine X5 (W7 rfl ?_ ?_))
  all_goals (try (conv => whnf))
  all_goals (try first|exact Ob.mk (u8_bnd _)|(refine Ob.mk ?_;first|exact True.intro|assumption|omega|(try simp only [ZA,ZB,ZC,ZD,ZE,ZF,ZG,ZH,ZI,ZJ,ZK,ZL,ZM,ZN,ZO,Int.toNat_natCast,UInt8.ofNat_toNat,cast_eq] at *;omega)))
  all_goals (try first|(show (_:Int) = _;omega)|(show tupSV _ = _;with_unfolding_all rfl)|((first|show (_:Nat) ≤ _|show (_:Nat) ≤ _ ∧ (_:Nat) ≤ _|show (_:Int) ≤ _ ∧ (_:Int) ≤ _ ∧ (_:Int) ≤ _ ∧ (_:Int) ≤ _);(simp <;> omega)))
  refine LoopStop.mk (α := Nat × List UInt8 × List TokD) (fun a => [(4, .own 30)]) (fun a => [(0, .box [.str a.2.1]), (30, .own tokTy a.2.2)]) 40 (fun a => a.2.1.length < a.1 ∧ a.2.1.length ≤ s.length ∧ a.2.2.length + a.1 ≤ s.length + 1 ∧ a.2.2 ++ allF a.1 a.2.1 = allP s) (fun a => a.1) (s.length + 1, s, []) ⟨by simp, by simp, by simp, rfl⟩ ?_ (fun a ha => ?_)
  · repeat' ((conv => whnf);first|(with_reducible first|rfl|exact absTF|exact absFT)|exact True.intro|intro _|refine And.intro ?_ ?_|refine Fin.mk ?_|refine W1 rfl ?_ ?_|refine W2 rfl ?_ ?_|refine W3 rfl ?_ ?_|refine W4 ?_ ?_|refine W5 rfl ?_ ?_|refine W6 ?_ ?_|refine AppN.mk ?_|refine X1 (W1 rfl ?_ ?_)|refine X1 (W2 rfl ?_ ?_)|refine X2 (W7 rfl ?_ ?_)|refine X3 (W7 rfl ?_ ?_)|refine X4 (W7 rfl ?_ ?_)|refine X5 (W7 rfl ?_ ?_))
    all_goals (try (conv => whnf))
    all_goals (try first|exact Ob.mk (u8_bnd _)|(refine Ob.mk ?_;first|exact True.intro|assumption|omega|(try simp only [ZA,ZB,ZC,ZD,ZE,ZF,ZG,ZH,ZI,ZJ,ZK,ZL,ZM,ZN,ZO,Int.toNat_natCast,UInt8.ofNat_toNat,cast_eq] at *;omega)))
    all_goals (try first|(show (_:Int) = _;omega)|(show tupSV _ = _;with_unfolding_all rfl)|((first|show (_:Nat) ≤ _|show (_:Nat) ≤ _ ∧ (_:Nat) ≤ _|show (_:Int) ≤ _ ∧ (_:Int) ≤ _ ∧ (_:Int) ≤ _ ∧ (_:Int) ≤ _);(simp <;> omega)))
    all_goals (first | rfl | trace_state)
  · obtain ⟨k, x, l⟩ := a
    obtain ⟨h1, h2, h3, h4⟩ := ha
    dsimp only at h1 h2 h3 h4
    obtain ⟨k, rfl⟩ : ∃ k', k = k' + 1 := ⟨k - 1, by omega⟩
    repeat' ((conv => whnf);first|(with_reducible first|rfl|exact absTF|exact absFT)|exact True.intro|intro _|refine And.intro ?_ ?_|refine Fin.mk ?_|refine W1 rfl ?_ ?_|refine W2 rfl ?_ ?_|refine W3 rfl ?_ ?_|refine W4 ?_ ?_|refine W5 rfl ?_ ?_|refine W6 ?_ ?_|refine AppN.mk ?_|refine X1 (W1 rfl ?_ ?_)|refine X1 (W2 rfl ?_ ?_)|refine X2 (W7 rfl ?_ ?_)|refine X3 (W7 rfl ?_ ?_)|refine X4 (W7 rfl ?_ ?_)|refine X5 (W7 rfl ?_ ?_))
    all_goals (try (conv => whnf))
    all_goals (try first|exact Ob.mk (u8_bnd _)|(refine Ob.mk ?_;first|exact True.intro|assumption|omega|(try simp only [ZA,ZB,ZC,ZD,ZE,ZF,ZG,ZH,ZI,ZJ,ZK,ZL,ZM,ZN,ZO,Int.toNat_natCast,UInt8.ofNat_toNat,cast_eq] at *;omega)))
    all_goals (try first|(show (_:Int) = _;omega)|(show tupSV _ = _;with_unfolding_all rfl)|((first|show (_:Nat) ≤ _|show (_:Nat) ≤ _ ∧ (_:Nat) ≤ _|show (_:Int) ≤ _ ∧ (_:Int) ≤ _ ∧ (_:Int) ≤ _ ∧ (_:Int) ≤ _);(simp <;> omega)))
    · rw [← h4, allF_end k x (by simpa using ‹((datP false (k + 1, x, l).2.1).1.1 == 0) = true›)]
      rfl
    · have hz : (datP false x).1.1 ≠ 0 := by simpa using ‹((datP false (k + 1, x, l).2.1).1.1 == 0) = false›
      have hl := datP_len false x (datP_end x hz)
      refine Rnd.mk ⟨(k, (datP false x).2, l ++ [(datP false x).1]), ⟨by simp only; omega, by simp only; omega, by simp only [List.length_append, List.length_cons, List.length_nil]; omega, by rw [← h4, allF_step k x hz]; simp⟩, by simp only; omega, ?_⟩
      repeat' ((conv => whnf);first|(with_reducible first|rfl|exact absTF|exact absFT)|exact True.intro|intro _|refine And.intro ?_ ?_|refine Fin.mk ?_|refine W1 rfl ?_ ?_|refine W2 rfl ?_ ?_|refine W3 rfl ?_ ?_|refine W4 ?_ ?_|refine W5 rfl ?_ ?_|refine W6 ?_ ?_|refine AppN.mk ?_|refine X1 (W1 rfl ?_ ?_)|refine X1 (W2 rfl ?_ ?_)|refine X2 (W7 rfl ?_ ?_)|refine X3 (W7 rfl ?_ ?_)|refine X4 (W7 rfl ?_ ?_)|refine X5 (W7 rfl ?_ ?_))
      all_goals (try (conv => whnf))
      all_goals (try first|exact Ob.mk (u8_bnd _)|(refine Ob.mk ?_;first|exact True.intro|assumption|omega|(try simp only [ZA,ZB,ZC,ZD,ZE,ZF,ZG,ZH,ZI,ZJ,ZK,ZL,ZM,ZN,ZO,Int.toNat_natCast,UInt8.ofNat_toNat,cast_eq] at *;omega)))
      all_goals (try first|(show (_:Int) = _;omega)|(show tupSV _ = _;with_unfolding_all rfl)|((first|show (_:Nat) ≤ _|show (_:Nat) ≤ _ ∧ (_:Nat) ≤ _|show (_:Int) ≤ _ ∧ (_:Int) ≤ _ ∧ (_:Int) ≤ _ ∧ (_:Int) ≤ _);(simp <;> omega)))
      all_goals (first | rfl | omega | trace_state)
instance gSame8r (k : Int) (n d : List UInt8) (b : Bool) (l : List AttrD) : Fn BB 11 [.agg [.int .i64 k, .str n, .rd attrTy l, .bool b, .str d], .agg [.int .i64 k, .str n, .rd attrTy l, .bool b, .str d]] (l.length ≤ 100000) (.bool true) := by
  refine Fn.intro (N := 38) [0, 1, 2, 3, 4] [] Tryz.call11 Tryz.func11 rfl rfl (by kernel_rfl) (fun hpre => ?_)
  repeat' ((conv => whnf);first|(with_reducible first|rfl|exact absTF|exact absFT)|exact True.intro|intro _|refine And.intro ?_ ?_|refine Fin.mk ?_|refine W1 rfl ?_ ?_|refine W2 rfl ?_ ?_|refine W3 rfl ?_ ?_|refine W4 ?_ ?_|refine W5 rfl ?_ ?_|refine W6 ?_ ?_|refine AppN.mk ?_|refine X1 (W1 rfl ?_ ?_)|refine X1 (W2 rfl ?_ ?_)|refine X2 (W7 rfl ?_ ?_)|refine X3 (W7 rfl ?_ ?_)|refine X4 (W7 rfl ?_ ?_)|refine X5 (W7 rfl ?_ ?_))
  all_goals (try (conv => whnf))
  all_goals (try first|exact Ob.mk (u8_bnd _)|(refine Ob.mk ?_;first|exact True.intro|assumption|omega|(try simp only [ZA,ZB,ZC,ZD,ZE,ZF,ZG,ZH,ZI,ZJ,ZK,ZL,ZM,ZN,ZO,Int.toNat_natCast,UInt8.ofNat_toNat,cast_eq] at *;omega)))
  all_goals (try first|(show (_:Int) = _;omega)|(show tupSV _ = _;with_unfolding_all rfl)|((first|show (_:Nat) ≤ _|show (_:Nat) ≤ _ ∧ (_:Nat) ≤ _|show (_:Int) ≤ _ ∧ (_:Int) ≤ _ ∧ (_:Int) ≤ _ ∧ (_:Int) ≤ _);(simp <;> omega)))
  all_goals (try simp; done)
  all_goals trace_state
instance rSame (l : List TokD) : Fn BB 5 [.rd tokTy l, .rd tokTy l] (l.length ≤ 100000 ∧ ∀ x ∈ l, x.2.2.1.length ≤ 100000) (.bool true) := by
  refine Fn.intro (N := 27) [0, 1, 4, 5, 10, 14, 26] [(6, [0, 0, 1, 1, 0, 0, 1, 1, 3, 3])] Tryz.call5 Tryz.func5 rfl rfl (by kernel_rfl) (fun hpre => ?_)
  obtain ⟨p1, p2⟩ := hpre
  have hp2 : ∀ k, k < l.length → List.length (l.getD k tokTy.dflt).2.2.1 ≤ 100000 := fun k h => p2 _ (by rw [List.getD_eq_getElem?_getD, List.getElem?_eq_getElem h]; exact List.getElem_mem h)
  repeat' ((conv => whnf);first|(with_reducible first|rfl|exact absTF|exact absFT)|exact True.intro|intro _|refine And.intro ?_ ?_|refine Fin.mk ?_|refine W1 rfl ?_ ?_|refine W2 rfl ?_ ?_|refine W3 rfl ?_ ?_|refine W4 ?_ ?_|refine W5 rfl ?_ ?_|refine W6 ?_ ?_|refine AppN.mk ?_|refine X1 (W1 rfl ?_ ?_)|refine X1 (W2 rfl ?_ ?_)|refine X2 (W7 rfl ?_ ?_)|refine X3 (W7 rfl ?_ ?_)|refine X4 (W7 rfl ?_ ?_)|refine X5 (W7 rfl ?_ ?_))
  all_goals (try (conv => whnf))
  all_goals (try first|exact Ob.mk (u8_bnd _)|(refine Ob.mk ?_;first|exact True.intro|assumption|omega|(try simp only [ZA,ZB,ZC,ZD,ZE,ZF,ZG,ZH,ZI,ZJ,ZK,ZL,ZM,ZN,ZO,Int.toNat_natCast,UInt8.ofNat_toNat,cast_eq] at *;omega)))
  all_goals (try first|(show (_:Int) = _;omega)|(show tupSV _ = _;with_unfolding_all rfl)|((first|show (_:Nat) ≤ _|show (_:Nat) ≤ _ ∧ (_:Nat) ≤ _|show (_:Int) ≤ _ ∧ (_:Int) ≤ _ ∧ (_:Int) ≤ _ ∧ (_:Int) ≤ _);(simp <;> omega)))
  all_goals (try simp_all; done)
  refine LoopStop.mk (α := Nat) (fun k => [(5, .int .i64 k)]) (fun _ => []) 20 (fun k => k ≤ l.length) (fun k => l.length - k) 0 (by simp) ?_ (fun k hk => ?_)
  · repeat' ((conv => whnf);first|(with_reducible first|rfl|exact absTF|exact absFT)|exact True.intro|intro _|refine And.intro ?_ ?_|refine Fin.mk ?_|refine W1 rfl ?_ ?_|refine W2 rfl ?_ ?_|refine W3 rfl ?_ ?_|refine W4 ?_ ?_|refine W5 rfl ?_ ?_|refine W6 ?_ ?_|refine AppN.mk ?_|refine X1 (W1 rfl ?_ ?_)|refine X1 (W2 rfl ?_ ?_)|refine X2 (W7 rfl ?_ ?_)|refine X3 (W7 rfl ?_ ?_)|refine X4 (W7 rfl ?_ ?_)|refine X5 (W7 rfl ?_ ?_))
    all_goals (try (conv => whnf))
    all_goals (try first|exact Ob.mk (u8_bnd _)|(refine Ob.mk ?_;first|exact True.intro|assumption|omega|(try simp only [ZA,ZB,ZC,ZD,ZE,ZF,ZG,ZH,ZI,ZJ,ZK,ZL,ZM,ZN,ZO,Int.toNat_natCast,UInt8.ofNat_toNat,cast_eq] at *;omega)))
    all_goals (try first|(show (_:Int) = _;omega)|(show tupSV _ = _;with_unfolding_all rfl)|((first|show (_:Nat) ≤ _|show (_:Nat) ≤ _ ∧ (_:Nat) ≤ _|show (_:Int) ≤ _ ∧ (_:Int) ≤ _ ∧ (_:Int) ≤ _ ∧ (_:Int) ≤ _);(simp <;> omega)))
    all_goals (try rfl)
  · repeat' ((conv => whnf);first|(with_reducible first|rfl|exact absTF|exact absFT)|exact True.intro|intro _|refine And.intro ?_ ?_|refine Fin.mk ?_|refine W1 rfl ?_ ?_|refine W2 rfl ?_ ?_|refine W3 rfl ?_ ?_|refine W4 ?_ ?_|refine W5 rfl ?_ ?_|refine W6 ?_ ?_|refine AppN.mk ?_|refine X1 (W1 rfl ?_ ?_)|refine X1 (W2 rfl ?_ ?_)|refine X2 (W7 rfl ?_ ?_)|refine X3 (W7 rfl ?_ ?_)|refine X4 (W7 rfl ?_ ?_)|refine X5 (W7 rfl ?_ ?_))
    all_goals (try (conv => whnf))
    all_goals (try first|exact Ob.mk (u8_bnd _)|(refine Ob.mk ?_;first|exact True.intro|assumption|omega|(try simp only [ZA,ZB,ZC,ZD,ZE,ZF,ZG,ZH,ZI,ZJ,ZK,ZL,ZM,ZN,ZO,Int.toNat_natCast,UInt8.ofNat_toNat,cast_eq] at *;omega)))
    all_goals (try first|(show (_:Int) = _;omega)|(show tupSV _ = _;with_unfolding_all rfl)|((first|show (_:Nat) ≤ _|show (_:Nat) ≤ _ ∧ (_:Nat) ≤ _|show (_:Int) ≤ _ ∧ (_:Int) ≤ _ ∧ (_:Int) ≤ _ ∧ (_:Int) ≤ _);(simp <;> omega)))
    all_goals (have hk' := of_decide_eq_true ‹decide ((k : Int) < (l.length : Int)) = true›)
    all_goals (try simp only [Int.toNat_natCast] at *)
    all_goals (try (exact hp2 k (by omega)))
    all_goals (try (exfalso; exact absurd ‹(!true) = true› (by decide)))
    refine Rnd.mk ⟨k + 1, by omega, by omega, ?_⟩
    repeat' ((conv => whnf);first|(with_reducible first|rfl|exact absTF|exact absFT)|exact True.intro|intro _|refine And.intro ?_ ?_|refine Fin.mk ?_|refine W1 rfl ?_ ?_|refine W2 rfl ?_ ?_|refine W3 rfl ?_ ?_|refine W4 ?_ ?_|refine W5 rfl ?_ ?_|refine W6 ?_ ?_|refine AppN.mk ?_|refine X1 (W1 rfl ?_ ?_)|refine X1 (W2 rfl ?_ ?_)|refine X2 (W7 rfl ?_ ?_)|refine X3 (W7 rfl ?_ ?_)|refine X4 (W7 rfl ?_ ?_)|refine X5 (W7 rfl ?_ ?_))
    all_goals (try (conv => whnf))
    all_goals (try first|exact Ob.mk (u8_bnd _)|(refine Ob.mk ?_;first|exact True.intro|assumption|omega|(try simp only [ZA,ZB,ZC,ZD,ZE,ZF,ZG,ZH,ZI,ZJ,ZK,ZL,ZM,ZN,ZO,Int.toNat_natCast,UInt8.ofNat_toNat,cast_eq] at *;omega)))
    all_goals (try first|(show (_:Int) = _;omega)|(show tupSV _ = _;with_unfolding_all rfl)|((first|show (_:Nat) ≤ _|show (_:Nat) ≤ _ ∧ (_:Nat) ≤ _|show (_:Int) ≤ _ ∧ (_:Int) ≤ _ ∧ (_:Int) ≤ _ ∧ (_:Int) ≤ _);(simp <;> omega)))
    all_goals (first | rfl | omega | trace_state)
theorem mkT_len (s : List UInt8) (f : Bool) : (mkT s f).2.2.1.length ≤ s.length + 1 := by
  unfold mkT
  split
  · exact Nat.zero_le _
  · exact tagP_len s
theorem datF_at (f : Bool) : ∀ (k : Nat) (s : List UInt8), (datF f k s).1.2.2.1.length ≤ s.length + 1
  | 0, s => by unfold datF; exact Nat.zero_le _
  | k + 1, s => by
    unfold datF
    split
    · exact Nat.zero_le _
    split
    · exact Nat.zero_le _
    split
    · exact mkT_len s f
    · exact Nat.le_trans (datF_at f k _) (by rw [List.length_drop]; omega)
theorem datF_le (f : Bool) : ∀ (k : Nat) (s : List UInt8), (datF f k s).2.length ≤ s.length
  | 0, s => Nat.le_refl _
  | k + 1, s => by
    unfold datF
    split
    · exact Nat.zero_le _
    split
    · show (s.drop _).length ≤ _; rw [List.length_drop]; omega
    split
    · show (s.drop _).length ≤ _; rw [List.length_drop]; omega
    · exact Nat.le_trans (datF_le f k _) (by rw [List.length_drop]; omega)
theorem allF_at (n : Nat) : ∀ (k : Nat) (s : List UInt8), s.length ≤ n → ∀ x ∈ allF k s, x.2.2.1.length ≤ n + 1
  | 0, s, _, x, h => by cases h
  | k + 1, s, hn, x, h => by
    rw [allF] at h
    rcases List.mem_cons.1 h with rfl | h
    · exact Nat.le_trans (datF_at false _ s) (by omega)
    · split at h
      · cases h
      · exact allF_at n k _ (Nat.le_trans (datF_le false _ s) hn) x h
instance lLexerAll (s : List UInt8) : Fn BB 3 [.str s] True (.bool true) := by
  refine Fn.intro (N := 15) [0, 2, 5] [] Tryz.call3 Tryz.func3 rfl rfl (by kernel_rfl) (fun hpre => ?_)
  have hl := allF_len (s.length + 1) s
  have ha := allF_at s.length (s.length + 1) s (Nat.le_refl _)
  repeat' ((conv => whnf);first|(with_reducible first|rfl|exact absTF|exact absFT)|exact True.intro|intro _|refine And.intro ?_ ?_|refine Fin.mk ?_|refine W1 rfl ?_ ?_|refine W2 rfl ?_ ?_|refine W3 rfl ?_ ?_|refine W4 ?_ ?_|refine W5 rfl ?_ ?_|refine W6 ?_ ?_|refine AppN.mk ?_|refine X1 (W1 rfl ?_ ?_)|refine X1 (W2 rfl ?_ ?_)|refine X2 (W7 rfl ?_ ?_)|refine X3 (W7 rfl ?_ ?_)|refine X4 (W7 rfl ?_ ?_)|refine X5 (W7 rfl ?_ ?_))
  all_goals (try (conv => whnf))
  all_goals (try first|exact Ob.mk (u8_bnd _)|(refine Ob.mk ?_;first|exact True.intro|assumption|omega|(try simp only [ZA,ZB,ZC,ZD,ZE,ZF,ZG,ZH,ZI,ZJ,ZK,ZL,ZM,ZN,ZO,Int.toNat_natCast,UInt8.ofNat_toNat,cast_eq] at *;omega)))
  all_goals (try first|(show (_:Int) = _;omega)|(show tupSV _ = _;with_unfolding_all rfl)|((first|show (_:Nat) ≤ _|show (_:Nat) ≤ _ ∧ (_:Nat) ≤ _|show (_:Int) ≤ _ ∧ (_:Int) ≤ _ ∧ (_:Int) ≤ _ ∧ (_:Int) ≤ _);(simp <;> omega)))
  all_goals (try (have hb := of_decide_eq_false ‹decide ((s.length : Int) > 400) = false›))
  all_goals (first | rfl | exact ⟨Nat.le_trans hl (by omega), fun x hx => Nat.le_trans (ha x hx) (by omega)⟩ | trace_state)
end Go.Vc

namespace Go.Vc
open Go.Proofs
set_option maxRecDepth 100000
abbrev laidD : List (String × DataW Unit) := [("unicode/utf8.acceptRanges", YtejgjaplcjikoaaGreatDoor.Rows.laid_unicode_utf8_acceptRanges), ("unicode/utf8.first", YtejgjaplcjikoaaGreatDoor.Rows.laid_unicode_utf8_first)]
theorem acc_eq : (YtejgjaplcjikoaaGreatDoor.Rows.laid_unicode_utf8_acceptRanges : DataW Unit) = Lib.acceptData := by kernel_rfl
theorem cellR_of (W : World) (b o : Nat) (v : Value) (h : W.cell? ⟨b, o, none⟩ = some v) : cellR (fun b => W.heap[b]?) b o = some v := by
  unfold cellR
  simp only [World.cell?] at h
  cases hb : W.heap[b]? with
  | none => rw [hb] at h; cases h
  | some x =>
    rw [hb] at h
    simp only [hb]
    cases x <;> first | exact h | (cases h)
theorem base_ok (W : World) (hL : laidMetH Tryz.prog laidD W) (hsh : W.ShapedOpen Tryz.prog) : BB.G fun b => W.heap[b]? := by
  have h3 := Lib.laidMet.reads hL (.tail _ (.head _))
  have h4 := Lib.laidMet.reads hL (.head _)
  have h3' : Lib.VarReads Tryz.prog W "unicode/utf8.first" Lib.firstData := by
    have e : (YtejgjaplcjikoaaGreatDoor.Rows.laid_unicode_utf8_first : DataW Unit) = Lib.firstData := Pinned.utf8First_eq
    rw [← e]; exact h3
  have h4' : Lib.VarReads Tryz.prog W "unicode/utf8.acceptRanges" Lib.acceptData := by rw [← acc_eq]; exact h4
  have ht : Lib.Utf8Tabs 1 2 W := utf8Tabs_of_readsT (ρ := Tryz.lays260_ren) (U8Types.of260 Tryz.lays260) ⟨by kernel_rfl, by kernel_rfl, by kernel_rfl, by kernel_rfl, by kernel_rfl, by kernel_rfl, by kernel_rfl⟩ h3' h4'
  obtain ⟨m, hm⟩ := Tryz.laysM143.s1_3 W hsh
  exact ⟨fun c hc => cellR_of W _ _ _ (ht.1 c hc), fun i hi => ⟨cellR_of W _ _ _ (ht.2 i hi).1, cellR_of W _ _ _ (ht.2 i hi).2⟩, ⟨m, cellR_of W _ _ _ hm⟩⟩
end Go.Vc
