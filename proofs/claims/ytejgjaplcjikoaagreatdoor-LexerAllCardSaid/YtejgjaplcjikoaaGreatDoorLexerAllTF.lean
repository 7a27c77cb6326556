/- A part of the proof: lemmas and walks that the last text of the claim joins; no condition. -/
import Derived.Test.YtejgjaplcjikoaaGreatDoorLexerAllTE
import Derived.Lib.IndexLaws
import Derived.Lib.CutLaws
import Derived.Lib.IndexAny
import Derived.Lib.DecodeN
import Derived.Lib.TrimU
import Derived.Lib.AsciiSet
import Derived.Shelf.Strings.SlTrimAscii
set_option linter.unusedVariables false
set_option linter.unusedSimpArgs false
set_option maxHeartbeats 8000000
namespace Go.Vc
open Go.Proofs
set_option maxRecDepth 10000
set_option maxHeartbeats 4000000
def hitN (nm : List UInt8) (a : AttrD) : Bool := a.1 == nm
def ixP {α : Type} (p : α → Bool) : List α → Int
  | [] => -1
  | x :: r => if p x = true then 0 else if ixP p r = -1 then -1 else ixP p r + 1
theorem ixP_ge {α : Type} (p : α → Bool) (l : List α) : -1 ≤ ixP p l ∧ ixP p l < l.length ∨ ixP p l = -1 := by
  induction l with
  | nil => right; rfl
  | cons x r ih =>
    unfold ixP
    simp only [List.length_cons]
    split
    · left; omega
    · split
      · right; rfl
      · left; rename_i h; rcases ih with h2 | h2 <;> omega
theorem ixP_at {α : Type} {p : α → Bool} {l : List α} {k : Nat} {d : α} (hk : k < l.length) (ha : (l.take k).all (fun x => !p x) = true) (h : p (l.getD k d) = true) : ixP p l = k := by
  induction l generalizing k with
  | nil => simp at hk
  | cons x r ih =>
    cases k with
    | zero => unfold ixP; rw [if_pos (by simpa using h)]; rfl
    | succ k =>
      rw [List.take_succ_cons, List.all_cons, Bool.and_eq_true, Bool.not_eq_true'] at ha
      have := ih (by simpa using hk) ha.2 (by simpa using h)
      unfold ixP
      rw [if_neg (by rw [ha.1]; decide), this, if_neg (by omega)]
      rfl
theorem ixP_none {α : Type} {p : α → Bool} {l : List α} (ha : l.all (fun x => !p x) = true) : ixP p l = -1 := by
  induction l with
  | nil => rfl
  | cons x r ih =>
    rw [List.all_cons, Bool.and_eq_true, Bool.not_eq_true'] at ha
    unfold ixP
    rw [if_neg (by rw [ha.1]; decide), ih ha.2, if_pos rfl]
theorem ixP_neg {α : Type} (p : α → Bool) (l : List α) : decide (ixP p l < 0) = !l.any p := by
  induction l with
  | nil => rfl
  | cons x r ih =>
    unfold ixP
    rw [List.any_cons]
    cases h : p x with
    | true => rfl
    | false =>
      simp only [Bool.false_eq_true, if_false, Bool.false_or]
      rw [← ih]
      have := ixP_ge p r
      split
      · rename_i q; rw [q]
      · rw [Bool.eq_iff_iff]; simp; omega
theorem take_all {α : Type} (p : α → Bool) (l : List α) (k : Nat) (d : α) (hk : k < l.length) : (l.take (k + 1)).all p = ((l.take k).all p && p (l.getD k d)) := by
  rw [List.take_succ_eq_append_getElem hk, List.all_append]
  simp [List.getD, List.getElem?_eq_getElem hk]
def addL (l : List AttrD) (a : AttrD) : List AttrD := if l.any (hitN a.1) = true then l else l ++ [a]
instance tPl1 (a b nm : List UInt8) : FnM BB 110 [.agg [.str a, .str b], .loc 0 0] [(0, .box [.str nm])] True (.bool (a == nm)) [(0, .box [.str nm])] := by
  refine FnM.intro (N := 8) [0, 1, 2, 3] [] 1 Tryz.call110 Tryz.func110 rfl rfl (by kernel_rfl) (fun hpre => ?_)
  repeat' ((conv => whnf);first|(with_reducible first|rfl|exact absTF|exact absFT)|exact True.intro|intro _|refine And.intro ?_ ?_|refine Fin.mk ?_|refine W1 rfl ?_ ?_|refine W2 rfl ?_ ?_|refine W3 rfl ?_ ?_|refine W4 ?_ ?_|refine W5 rfl ?_ ?_|refine W6 ?_ ?_|refine AppN.mk ?_|refine X1 (W1 rfl ?_ ?_)|refine X1 (W2 rfl ?_ ?_)|refine X2 (W7 rfl ?_ ?_)|refine X3 (W7 rfl ?_ ?_)|refine X4 (W7 rfl ?_ ?_)|refine X5 (W7 rfl ?_ ?_))
  all_goals (try (conv => whnf))
  all_goals (try first|exact Ob.mk (u8_bnd _)|(refine Ob.mk ?_;first|exact True.intro|assumption|omega|(try simp only [ZA,ZB,ZC,ZD,ZE,ZF,ZG,ZH,ZI,ZJ,ZK,ZL,ZM,ZN,ZO,Int.toNat_natCast,UInt8.ofNat_toNat,cast_eq] at *;omega)))
  all_goals (try first|(show (_:Int) = _;omega)|(show tupSV _ = _;with_unfolding_all rfl)|((first|show (_:Nat) ≤ _|show (_:Nat) ≤ _ ∧ (_:Nat) ≤ _|show (_:Int) ≤ _ ∧ (_:Int) ≤ _ ∧ (_:Int) ≤ _ ∧ (_:Int) ≤ _);(simp <;> omega)))
instance tIxF (l : List AttrD) (nm : List UInt8) : FnM BB 109 [.own 0, .fn 110 [.loc 1 0]] [(0, .ro attrTy l), (1, .box [.str nm])] (l.length ≤ 100000) (.int .i64 (ixP (hitN nm) l)) [(0, .ro attrTy l), (1, .box [.str nm])] := by
  refine FnM.intro (N := 19) [0, 1, 4, 5, 7, 8, 9, 16] [] 2 Tryz.call109 Tryz.func109 rfl rfl (by kernel_rfl) (fun hpre => ?_)
  repeat' ((conv => whnf);first|(with_reducible first|rfl|exact absTF|exact absFT)|exact True.intro|intro _|refine And.intro ?_ ?_|refine Fin.mk ?_|refine W1 rfl ?_ ?_|refine W2 rfl ?_ ?_|refine W3 rfl ?_ ?_|refine W4 ?_ ?_|refine W5 rfl ?_ ?_|refine W6 ?_ ?_|refine AppN.mk ?_|refine X1 (W1 rfl ?_ ?_)|refine X1 (W2 rfl ?_ ?_)|refine X2 (W7 rfl ?_ ?_)|refine X3 (W7 rfl ?_ ?_)|refine X4 (W7 rfl ?_ ?_)|refine X5 (W7 rfl ?_ ?_))
  all_goals (try (conv => whnf))
  all_goals (try first|exact Ob.mk (u8_bnd _)|(refine Ob.mk ?_;first|exact True.intro|assumption|omega|(try simp only [ZA,ZB,ZC,ZD,ZE,ZF,ZG,ZH,ZI,ZJ,ZK,ZL,ZM,ZN,ZO,Int.toNat_natCast,UInt8.ofNat_toNat,cast_eq] at *;omega)))
  all_goals (try first|(show (_:Int) = _;omega)|(show tupSV _ = _;with_unfolding_all rfl)|((first|show (_:Nat) ≤ _|show (_:Nat) ≤ _ ∧ (_:Nat) ≤ _|show (_:Int) ≤ _ ∧ (_:Int) ≤ _ ∧ (_:Int) ≤ _ ∧ (_:Int) ≤ _);(simp <;> omega)))
  refine LoopStop.mk (α := Nat) (fun k => [(8, .int .i64 k)]) (fun _ => []) 20 (fun k => k ≤ l.length ∧ (l.take k).all (fun x => !hitN nm x) = true) (fun k => l.length - k) 0 (by simp) ?_ (fun k hk => ?_)
  · repeat' ((conv => whnf);first|(with_reducible first|rfl|exact absTF|exact absFT)|exact True.intro|intro _|refine And.intro ?_ ?_|refine Fin.mk ?_|refine W1 rfl ?_ ?_|refine W2 rfl ?_ ?_|refine W3 rfl ?_ ?_|refine W4 ?_ ?_|refine W5 rfl ?_ ?_|refine W6 ?_ ?_|refine AppN.mk ?_|refine X1 (W1 rfl ?_ ?_)|refine X1 (W2 rfl ?_ ?_)|refine X2 (W7 rfl ?_ ?_)|refine X3 (W7 rfl ?_ ?_)|refine X4 (W7 rfl ?_ ?_)|refine X5 (W7 rfl ?_ ?_))
    all_goals (try (conv => whnf))
    all_goals (try first|exact Ob.mk (u8_bnd _)|(refine Ob.mk ?_;first|exact True.intro|assumption|omega|(try simp only [ZA,ZB,ZC,ZD,ZE,ZF,ZG,ZH,ZI,ZJ,ZK,ZL,ZM,ZN,ZO,Int.toNat_natCast,UInt8.ofNat_toNat,cast_eq] at *;omega)))
    all_goals (try first|(show (_:Int) = _;omega)|(show tupSV _ = _;with_unfolding_all rfl)|((first|show (_:Nat) ≤ _|show (_:Nat) ≤ _ ∧ (_:Nat) ≤ _|show (_:Int) ≤ _ ∧ (_:Int) ≤ _ ∧ (_:Int) ≤ _ ∧ (_:Int) ≤ _);(simp <;> omega)))
    all_goals (try rfl)
  · obtain ⟨hk, ha⟩ := hk
    repeat' ((conv => whnf);first|(with_reducible first|rfl|exact absTF|exact absFT)|exact True.intro|intro _|refine And.intro ?_ ?_|refine Fin.mk ?_|refine W1 rfl ?_ ?_|refine W2 rfl ?_ ?_|refine W3 rfl ?_ ?_|refine W4 ?_ ?_|refine W5 rfl ?_ ?_|refine W6 ?_ ?_|refine AppN.mk ?_|refine X1 (W1 rfl ?_ ?_)|refine X1 (W2 rfl ?_ ?_)|refine X2 (W7 rfl ?_ ?_)|refine X3 (W7 rfl ?_ ?_)|refine X4 (W7 rfl ?_ ?_)|refine X5 (W7 rfl ?_ ?_))
    all_goals (try (conv => whnf))
    all_goals (try first|exact Ob.mk (u8_bnd _)|(refine Ob.mk ?_;first|exact True.intro|assumption|omega|(try simp only [ZA,ZB,ZC,ZD,ZE,ZF,ZG,ZH,ZI,ZJ,ZK,ZL,ZM,ZN,ZO,Int.toNat_natCast,UInt8.ofNat_toNat,cast_eq] at *;omega)))
    all_goals (try first|(show (_:Int) = _;omega)|(show tupSV _ = _;with_unfolding_all rfl)|((first|show (_:Nat) ≤ _|show (_:Nat) ≤ _ ∧ (_:Nat) ≤ _|show (_:Int) ≤ _ ∧ (_:Int) ≤ _ ∧ (_:Int) ≤ _ ∧ (_:Int) ≤ _);(simp <;> omega)))
    all_goals (try simp only [Int.toNat_natCast] at *)
    · have hp := of_decide_eq_true ‹decide ((k : Int) < (l.length : Int)) = true›
      have h : ((l.getD k attrTy.dflt).1 == nm) = true := ‹_›
      exact (ixP_at (p := hitN nm) (d := attrTy.dflt) (by omega) ha h).symm
    · have hp := of_decide_eq_true ‹decide ((k : Int) < (l.length : Int)) = true›
      have h : ((l.getD k attrTy.dflt).1 == nm) = false := ‹_›
      refine Rnd.mk ⟨k + 1, ⟨by omega, ?_⟩, by omega, ?_⟩
      · rw [take_all (fun x => !hitN nm x) l k attrTy.dflt (by omega), ha]
        show (true && !((l.getD k attrTy.dflt).1 == nm)) = true
        rw [h]; rfl
      · repeat' ((conv => whnf);first|(with_reducible first|rfl|exact absTF|exact absFT)|exact True.intro|intro _|refine And.intro ?_ ?_|refine Fin.mk ?_|refine W1 rfl ?_ ?_|refine W2 rfl ?_ ?_|refine W3 rfl ?_ ?_|refine W4 ?_ ?_|refine W5 rfl ?_ ?_|refine W6 ?_ ?_|refine AppN.mk ?_|refine X1 (W1 rfl ?_ ?_)|refine X1 (W2 rfl ?_ ?_)|refine X2 (W7 rfl ?_ ?_)|refine X3 (W7 rfl ?_ ?_)|refine X4 (W7 rfl ?_ ?_)|refine X5 (W7 rfl ?_ ?_))
        all_goals (try (conv => whnf))
        all_goals (try first|exact Ob.mk (u8_bnd _)|(refine Ob.mk ?_;first|exact True.intro|assumption|omega|(try simp only [ZA,ZB,ZC,ZD,ZE,ZF,ZG,ZH,ZI,ZJ,ZK,ZL,ZM,ZN,ZO,Int.toNat_natCast,UInt8.ofNat_toNat,cast_eq] at *;omega)))
        all_goals (try first|(show (_:Int) = _;omega)|(show tupSV _ = _;with_unfolding_all rfl)|((first|show (_:Nat) ≤ _|show (_:Nat) ≤ _ ∧ (_:Nat) ≤ _|show (_:Int) ≤ _ ∧ (_:Int) ≤ _ ∧ (_:Int) ≤ _ ∧ (_:Int) ≤ _);(simp <;> omega)))
        all_goals rfl
    · have hp := of_decide_eq_false ‹decide ((k : Int) < (l.length : Int)) = false›
      have : k = l.length := by omega
      subst this
      rw [List.take_length] at ha
      exact (ixP_none ha).symm
instance tClone (l : List AttrD) : FnM BB 102 [.own 0] [(0, .ro attrTy l)] (l.length ≤ 100000) (.own 1) [(0, .ro attrTy l), (1, .own attrTy l)] := by
  refine FnM.intro (N := 8) [0, 2, 4] [] 2 Tryz.call102 Tryz.func102 rfl rfl (by kernel_rfl) (fun hpre => ?_)
  repeat' ((conv => whnf);first|(with_reducible first|rfl|exact absTF|exact absFT)|exact True.intro|intro _|refine And.intro ?_ ?_|refine Fin.mk ?_|refine W1 rfl ?_ ?_|refine W2 rfl ?_ ?_|refine W3 rfl ?_ ?_|refine W4 ?_ ?_|refine W5 rfl ?_ ?_|refine W6 ?_ ?_|refine AppN.mk ?_|refine X1 (W1 rfl ?_ ?_)|refine X1 (W2 rfl ?_ ?_)|refine X2 (W7 rfl ?_ ?_)|refine X3 (W7 rfl ?_ ?_)|refine X4 (W7 rfl ?_ ?_)|refine X5 (W7 rfl ?_ ?_))
  all_goals (try (conv => whnf))
  all_goals (try first|exact Ob.mk (u8_bnd _)|(refine Ob.mk ?_;first|exact True.intro|assumption|omega|(try simp only [ZA,ZB,ZC,ZD,ZE,ZF,ZG,ZH,ZI,ZJ,ZK,ZL,ZM,ZN,ZO,Int.toNat_natCast,UInt8.ofNat_toNat,cast_eq] at *;omega)))
  all_goals (try first|(show (_:Int) = _;omega)|(show tupSV _ = _;with_unfolding_all rfl)|((first|show (_:Nat) ≤ _|show (_:Nat) ≤ _ ∧ (_:Nat) ≤ _|show (_:Int) ≤ _ ∧ (_:Int) ≤ _ ∧ (_:Int) ≤ _ ∧ (_:Int) ≤ _);(simp <;> omega)))
  all_goals (first | (rename_i h1 h2; exact h1 h2) | simp)
instance tCloneN : FnM BB 102 [.nils] [] True .nils [] := by
  refine FnM.intro (N := 8) [0, 2, 4] [] 1 Tryz.call102 Tryz.func102 rfl rfl (by kernel_rfl) (fun hpre => ?_)
  repeat' ((conv => whnf);first|(with_reducible first|rfl|exact absTF|exact absFT)|exact True.intro|intro _|refine And.intro ?_ ?_|refine Fin.mk ?_|refine W1 rfl ?_ ?_|refine W2 rfl ?_ ?_|refine W3 rfl ?_ ?_|refine W4 ?_ ?_|refine W5 rfl ?_ ?_|refine W6 ?_ ?_|refine AppN.mk ?_|refine X1 (W1 rfl ?_ ?_)|refine X1 (W2 rfl ?_ ?_)|refine X2 (W7 rfl ?_ ?_)|refine X3 (W7 rfl ?_ ?_)|refine X4 (W7 rfl ?_ ?_)|refine X5 (W7 rfl ?_ ?_))
  all_goals (try (conv => whnf))
  all_goals (try first|exact Ob.mk (u8_bnd _)|(refine Ob.mk ?_;first|exact True.intro|assumption|omega|(try simp only [ZA,ZB,ZC,ZD,ZE,ZF,ZG,ZH,ZI,ZJ,ZK,ZL,ZM,ZN,ZO,Int.toNat_natCast,UInt8.ofNat_toNat,cast_eq] at *;omega)))
  all_goals (try first|(show (_:Int) = _;omega)|(show tupSV _ = _;with_unfolding_all rfl)|((first|show (_:Nat) ≤ _|show (_:Nat) ≤ _ ∧ (_:Nat) ≤ _|show (_:Int) ≤ _ ∧ (_:Int) ≤ _ ∧ (_:Int) ≤ _ ∧ (_:Int) ≤ _);(simp <;> omega)))
  all_goals trace_state
instance tPlace (l : List AttrD) (nm : List UInt8) : FnM BB 103 [.own 0, .str nm] [(0, .ro attrTy l)] (l.length ≤ 100000) (.int .i64 (ixP (hitN nm) l)) [(0, .ro attrTy l)] := by
  refine FnM.intro (N := 8) [0, 1, 3, 4] [] 1 Tryz.call103 Tryz.func103 rfl rfl (by kernel_rfl) (fun hpre => ?_)
  repeat' ((conv => whnf);first|(with_reducible first|rfl|exact absTF|exact absFT)|exact True.intro|intro _|refine And.intro ?_ ?_|refine Fin.mk ?_|refine W1 rfl ?_ ?_|refine W2 rfl ?_ ?_|refine W3 rfl ?_ ?_|refine W4 ?_ ?_|refine W5 rfl ?_ ?_|refine W6 ?_ ?_|refine AppN.mk ?_|refine X1 (W1 rfl ?_ ?_)|refine X1 (W2 rfl ?_ ?_)|refine X2 (W7 rfl ?_ ?_)|refine X3 (W7 rfl ?_ ?_)|refine X4 (W7 rfl ?_ ?_)|refine X5 (W7 rfl ?_ ?_))
  all_goals (try (conv => whnf))
  all_goals (try first|exact Ob.mk (u8_bnd _)|(refine Ob.mk ?_;first|exact True.intro|assumption|omega|(try simp only [ZA,ZB,ZC,ZD,ZE,ZF,ZG,ZH,ZI,ZJ,ZK,ZL,ZM,ZN,ZO,Int.toNat_natCast,UInt8.ofNat_toNat,cast_eq] at *;omega)))
  all_goals (try first|(show (_:Int) = _;omega)|(show tupSV _ = _;with_unfolding_all rfl)|((first|show (_:Nat) ≤ _|show (_:Nat) ≤ _ ∧ (_:Nat) ≤ _|show (_:Int) ≤ _ ∧ (_:Int) ≤ _ ∧ (_:Int) ≤ _ ∧ (_:Int) ≤ _);(simp <;> omega)))
instance tIxN (nm : List UInt8) : FnM BB 109 [.nils, .fn 110 [.loc 0 0]] [(0, .box [.str nm])] True (.int .i64 (-1)) [(0, .box [.str nm])] := by
  refine FnM.intro (N := 19) [0, 1, 4, 5, 7, 8, 9, 16] [] 1 Tryz.call109 Tryz.func109 rfl rfl (by kernel_rfl) (fun hpre => ?_)
  repeat' ((conv => whnf);first|(with_reducible first|rfl|exact absTF|exact absFT)|exact True.intro|intro _|refine And.intro ?_ ?_|refine Fin.mk ?_|refine W1 rfl ?_ ?_|refine W2 rfl ?_ ?_|refine W3 rfl ?_ ?_|refine W4 ?_ ?_|refine W5 rfl ?_ ?_|refine W6 ?_ ?_|refine AppN.mk ?_|refine X1 (W1 rfl ?_ ?_)|refine X1 (W2 rfl ?_ ?_)|refine X2 (W7 rfl ?_ ?_)|refine X3 (W7 rfl ?_ ?_)|refine X4 (W7 rfl ?_ ?_)|refine X5 (W7 rfl ?_ ?_))
  all_goals (try (conv => whnf))
  all_goals (try first|exact Ob.mk (u8_bnd _)|(refine Ob.mk ?_;first|exact True.intro|assumption|omega|(try simp only [ZA,ZB,ZC,ZD,ZE,ZF,ZG,ZH,ZI,ZJ,ZK,ZL,ZM,ZN,ZO,Int.toNat_natCast,UInt8.ofNat_toNat,cast_eq] at *;omega)))
  all_goals (try first|(show (_:Int) = _;omega)|(show tupSV _ = _;with_unfolding_all rfl)|((first|show (_:Nat) ≤ _|show (_:Nat) ≤ _ ∧ (_:Nat) ≤ _|show (_:Int) ≤ _ ∧ (_:Int) ≤ _ ∧ (_:Int) ≤ _ ∧ (_:Int) ≤ _);(simp <;> omega)))
  refine LoopStop.mk (α := Unit) (fun k => [(8, .int .i64 0)]) (fun _ => []) 20 (fun k => True) (fun k => 0) () True.intro ?_ (fun k hk => ?_)
  · repeat' ((conv => whnf);first|(with_reducible first|rfl|exact absTF|exact absFT)|exact True.intro|intro _|refine And.intro ?_ ?_|refine Fin.mk ?_|refine W1 rfl ?_ ?_|refine W2 rfl ?_ ?_|refine W3 rfl ?_ ?_|refine W4 ?_ ?_|refine W5 rfl ?_ ?_|refine W6 ?_ ?_|refine AppN.mk ?_|refine X1 (W1 rfl ?_ ?_)|refine X1 (W2 rfl ?_ ?_)|refine X2 (W7 rfl ?_ ?_)|refine X3 (W7 rfl ?_ ?_)|refine X4 (W7 rfl ?_ ?_)|refine X5 (W7 rfl ?_ ?_))
    all_goals (try (conv => whnf))
    all_goals (try first|exact Ob.mk (u8_bnd _)|(refine Ob.mk ?_;first|exact True.intro|assumption|omega|(try simp only [ZA,ZB,ZC,ZD,ZE,ZF,ZG,ZH,ZI,ZJ,ZK,ZL,ZM,ZN,ZO,Int.toNat_natCast,UInt8.ofNat_toNat,cast_eq] at *;omega)))
    all_goals (try first|(show (_:Int) = _;omega)|(show tupSV _ = _;with_unfolding_all rfl)|((first|show (_:Nat) ≤ _|show (_:Nat) ≤ _ ∧ (_:Nat) ≤ _|show (_:Int) ≤ _ ∧ (_:Int) ≤ _ ∧ (_:Int) ≤ _ ∧ (_:Int) ≤ _);(simp <;> omega)))
    all_goals (try rfl)
  · repeat' ((conv => whnf);first|(with_reducible first|rfl|exact absTF|exact absFT)|exact True.intro|intro _|refine And.intro ?_ ?_|refine Fin.mk ?_|refine W1 rfl ?_ ?_|refine W2 rfl ?_ ?_|refine W3 rfl ?_ ?_|refine W4 ?_ ?_|refine W5 rfl ?_ ?_|refine W6 ?_ ?_|refine AppN.mk ?_|refine X1 (W1 rfl ?_ ?_)|refine X1 (W2 rfl ?_ ?_)|refine X2 (W7 rfl ?_ ?_)|refine X3 (W7 rfl ?_ ?_)|refine X4 (W7 rfl ?_ ?_)|refine X5 (W7 rfl ?_ ?_))
    all_goals (try (conv => whnf))
    all_goals (try first|exact Ob.mk (u8_bnd _)|(refine Ob.mk ?_;first|exact True.intro|assumption|omega|(try simp only [ZA,ZB,ZC,ZD,ZE,ZF,ZG,ZH,ZI,ZJ,ZK,ZL,ZM,ZN,ZO,Int.toNat_natCast,UInt8.ofNat_toNat,cast_eq] at *;omega)))
    all_goals (try first|(show (_:Int) = _;omega)|(show tupSV _ = _;with_unfolding_all rfl)|((first|show (_:Nat) ≤ _|show (_:Nat) ≤ _ ∧ (_:Nat) ≤ _|show (_:Int) ≤ _ ∧ (_:Int) ≤ _ ∧ (_:Int) ≤ _ ∧ (_:Int) ≤ _);(simp <;> omega)))
    all_goals (first | (exfalso; exact absurd ‹decide ((0 : Int) < 0) = true› (by decide)) | rfl | trace_state)
instance tPlaceN (nm : List UInt8) : FnM BB 103 [.nils, .str nm] [] True (.int .i64 (-1)) [] := by
  refine FnM.intro (N := 8) [0, 1, 3, 4] [] 0 Tryz.call103 Tryz.func103 rfl rfl (by kernel_rfl) (fun hpre => ?_)
  repeat' ((conv => whnf);first|(with_reducible first|rfl|exact absTF|exact absFT)|exact True.intro|intro _|refine And.intro ?_ ?_|refine Fin.mk ?_|refine W1 rfl ?_ ?_|refine W2 rfl ?_ ?_|refine W3 rfl ?_ ?_|refine W4 ?_ ?_|refine W5 rfl ?_ ?_|refine W6 ?_ ?_|refine AppN.mk ?_|refine X1 (W1 rfl ?_ ?_)|refine X1 (W2 rfl ?_ ?_)|refine X2 (W7 rfl ?_ ?_)|refine X3 (W7 rfl ?_ ?_)|refine X4 (W7 rfl ?_ ?_)|refine X5 (W7 rfl ?_ ?_))
  all_goals (try (conv => whnf))
  all_goals (try first|exact Ob.mk (u8_bnd _)|(refine Ob.mk ?_;first|exact True.intro|assumption|omega|(try simp only [ZA,ZB,ZC,ZD,ZE,ZF,ZG,ZH,ZI,ZJ,ZK,ZL,ZM,ZN,ZO,Int.toNat_natCast,UInt8.ofNat_toNat,cast_eq] at *;omega)))
  all_goals (try first|(show (_:Int) = _;omega)|(show tupSV _ = _;with_unfolding_all rfl)|((first|show (_:Nat) ≤ _|show (_:Nat) ≤ _ ∧ (_:Nat) ≤ _|show (_:Int) ≤ _ ∧ (_:Int) ≤ _ ∧ (_:Int) ≤ _ ∧ (_:Int) ≤ _);(simp <;> omega)))
instance tAdd (l : List AttrD) (a b : List UInt8) : FnM BB 80 [.own 0, .agg [.str a, .str b]] [(0, .ro attrTy l)] (l.length ≤ 50000) (.own 1) [(0, .ro attrTy l), (1, .own attrTy (addL l (a, b)))] := by
  refine FnM.intro (N := 18) [0, 1, 3, 4, 5, 12] [] 1 Tryz.call80 Tryz.func80 rfl rfl (by kernel_rfl) (fun hpre => ?_)
  have e : addL l (a, b) = if l.any (hitN a) = true then l else l ++ [(a, b)] := rfl
  have hn := ixP_neg (hitN a) l
  have e1 : decide (ixP (hitN a) l < 0) = true → addL l (a, b) = l ++ [(a, b)] := fun h => by rw [hn] at h; rw [e, if_neg (by simpa using h)]
  have e2 : decide (ixP (hitN a) l < 0) = false → addL l (a, b) = l := fun h => by rw [hn] at h; rw [e, if_pos (by simpa using h)]
  repeat' ((conv => whnf);first|(with_reducible first|rfl|exact absTF|exact absFT)|exact True.intro|intro _|refine And.intro ?_ ?_|refine Fin.mk ?_|refine W1 rfl ?_ ?_|refine W2 rfl ?_ ?_|refine W3 rfl ?_ ?_|refine W4 ?_ ?_|refine W5 rfl ?_ ?_|refine W6 ?_ ?_|refine AppN.mk ?_|refine X1 (W1 rfl ?_ ?_)|refine X1 (W2 rfl ?_ ?_)|refine X2 (W7 rfl ?_ ?_)|refine X3 (W7 rfl ?_ ?_)|refine X4 (W7 rfl ?_ ?_)|refine X5 (W7 rfl ?_ ?_))
  all_goals (try (conv => whnf))
  all_goals (try first|exact Ob.mk (u8_bnd _)|(refine Ob.mk ?_;first|exact True.intro|assumption|omega|(try simp only [ZA,ZB,ZC,ZD,ZE,ZF,ZG,ZH,ZI,ZJ,ZK,ZL,ZM,ZN,ZO,Int.toNat_natCast,UInt8.ofNat_toNat,cast_eq] at *;omega)))
  all_goals (try first|(show (_:Int) = _;omega)|(show tupSV _ = _;with_unfolding_all rfl)|((first|show (_:Nat) ≤ _|show (_:Nat) ≤ _ ∧ (_:Nat) ≤ _|show (_:Int) ≤ _ ∧ (_:Int) ≤ _ ∧ (_:Int) ≤ _ ∧ (_:Int) ≤ _);(simp <;> omega)))
  · rw [e1 ‹_›]; rfl
  · rw [e2 ‹_›]
instance tAddN (a b : List UInt8) : FnM BB 80 [.nils, .agg [.str a, .str b]] [] True (.own 0) [(0, .own attrTy [(a, b)])] := by
  refine FnM.intro (N := 18) [0, 1, 3, 4, 5, 12] [] 0 Tryz.call80 Tryz.func80 rfl rfl (by kernel_rfl) (fun hpre => ?_)
  repeat' ((conv => whnf);first|(with_reducible first|rfl|exact absTF|exact absFT)|exact True.intro|intro _|refine And.intro ?_ ?_|refine Fin.mk ?_|refine W1 rfl ?_ ?_|refine W2 rfl ?_ ?_|refine W3 rfl ?_ ?_|refine W4 ?_ ?_|refine W5 rfl ?_ ?_|refine W6 ?_ ?_|refine AppN.mk ?_|refine X1 (W1 rfl ?_ ?_)|refine X1 (W2 rfl ?_ ?_)|refine X2 (W7 rfl ?_ ?_)|refine X3 (W7 rfl ?_ ?_)|refine X4 (W7 rfl ?_ ?_)|refine X5 (W7 rfl ?_ ?_))
  all_goals (try (conv => whnf))
  all_goals (try first|exact Ob.mk (u8_bnd _)|(refine Ob.mk ?_;first|exact True.intro|assumption|omega|(try simp only [ZA,ZB,ZC,ZD,ZE,ZF,ZG,ZH,ZI,ZJ,ZK,ZL,ZM,ZN,ZO,Int.toNat_natCast,UInt8.ofNat_toNat,cast_eq] at *;omega)))
  all_goals (try first|(show (_:Int) = _;omega)|(show tupSV _ = _;with_unfolding_all rfl)|((first|show (_:Nat) ≤ _|show (_:Nat) ≤ _ ∧ (_:Nat) ≤ _|show (_:Int) ≤ _ ∧ (_:Int) ≤ _ ∧ (_:Int) ≤ _ ∧ (_:Int) ≤ _);(simp <;> omega)))
  · rfl
  · exact absurd ‹decide ((-1 : Int) < 0) = false› (by decide)
instance tPutA (s nm da x v : List UInt8) (i k : Int) (sf : Bool) : FnM BB 50 [.loc 0 0, .str v] [(0, scC s i k nm .nils sf da x)] (v.length ≤ 100000) (.tup []) [(0, scC s i k nm (.own 1) sf da x), (1, .own attrTy [(x, decF v true)])] := by
  refine FnM.intro (N := 21) [0, 1] [(0, [0, 0, 0, 0, 0, 1, 0, 0, 0, 1, 0, 1, 1, 3, 0, 0, 0, 3])] 1 Tryz.call50 Tryz.func50 rfl rfl (by kernel_rfl) (fun hpre => ?_)
  repeat' ((conv => whnf);first|(with_reducible first|rfl|exact absTF|exact absFT)|exact True.intro|intro _|refine And.intro ?_ ?_|refine Fin.mk ?_|refine W1 rfl ?_ ?_|refine W2 rfl ?_ ?_|refine W3 rfl ?_ ?_|refine W4 ?_ ?_|refine W5 rfl ?_ ?_|refine W6 ?_ ?_|refine AppN.mk ?_|refine X1 (W1 rfl ?_ ?_)|refine X1 (W2 rfl ?_ ?_)|refine X2 (W7 rfl ?_ ?_)|refine X3 (W7 rfl ?_ ?_)|refine X4 (W7 rfl ?_ ?_)|refine X5 (W7 rfl ?_ ?_))
  all_goals (try (conv => whnf))
  all_goals (try first|exact Ob.mk (u8_bnd _)|(refine Ob.mk ?_;first|exact True.intro|assumption|omega|(try simp only [ZA,ZB,ZC,ZD,ZE,ZF,ZG,ZH,ZI,ZJ,ZK,ZL,ZM,ZN,ZO,Int.toNat_natCast,UInt8.ofNat_toNat,cast_eq] at *;omega)))
  all_goals (try first|(show (_:Int) = _;omega)|(show tupSV _ = _;with_unfolding_all rfl)|((first|show (_:Nat) ≤ _|show (_:Nat) ≤ _ ∧ (_:Nat) ≤ _|show (_:Int) ≤ _ ∧ (_:Int) ≤ _ ∧ (_:Int) ≤ _ ∧ (_:Int) ≤ _);(simp <;> omega)))
  all_goals trace_state
instance tPutB (s nm da x v : List UInt8) (i k : Int) (sf : Bool) (l : List AttrD) : FnM BB 50 [.loc 0 0, .str v] [(0, scC s i k nm (.own 1) sf da x), (1, .own attrTy l)] (v.length ≤ 100000 ∧ l.length ≤ 50000) (.tup []) [(0, scC s i k nm (.own 2) sf da x), (1, .own attrTy l), (2, .own attrTy (addL l (x, decF v true)))] := by
  refine FnM.intro (N := 21) [0, 1] [(0, [0, 0, 0, 0, 0, 1, 0, 0, 0, 1, 0, 1, 1, 3, 0, 0, 0, 3])] 2 Tryz.call50 Tryz.func50 rfl rfl (by kernel_rfl) (fun hpre => ?_)
  repeat' ((conv => whnf);first|(with_reducible first|rfl|exact absTF|exact absFT)|exact True.intro|intro _|refine And.intro ?_ ?_|refine Fin.mk ?_|refine W1 rfl ?_ ?_|refine W2 rfl ?_ ?_|refine W3 rfl ?_ ?_|refine W4 ?_ ?_|refine W5 rfl ?_ ?_|refine W6 ?_ ?_|refine AppN.mk ?_|refine X1 (W1 rfl ?_ ?_)|refine X1 (W2 rfl ?_ ?_)|refine X2 (W7 rfl ?_ ?_)|refine X3 (W7 rfl ?_ ?_)|refine X4 (W7 rfl ?_ ?_)|refine X5 (W7 rfl ?_ ?_))
  all_goals (try (conv => whnf))
  all_goals (try first|exact Ob.mk (u8_bnd _)|(refine Ob.mk ?_;first|exact True.intro|assumption|omega|(try simp only [ZA,ZB,ZC,ZD,ZE,ZF,ZG,ZH,ZI,ZJ,ZK,ZL,ZM,ZN,ZO,Int.toNat_natCast,UInt8.ofNat_toNat,cast_eq] at *;omega)))
  all_goals (try first|(show (_:Int) = _;omega)|(show tupSV _ = _;with_unfolding_all rfl)|((first|show (_:Nat) ≤ _|show (_:Nat) ≤ _ ∧ (_:Nat) ≤ _|show (_:Int) ≤ _ ∧ (_:Int) ≤ _ ∧ (_:Int) ≤ _ ∧ (_:Int) ≤ _);(simp <;> omega)))
  all_goals trace_state
end Go.Vc

namespace Go.Vc
open Go.Proofs
set_option maxRecDepth 10000
set_option maxHeartbeats 8000000
abbrev RunR := Bool × Nat × List AttrD × Bool × List UInt8
def runT (s : List UInt8) : Nat → Nat → List AttrD → List UInt8 → RunR
  | 0, i, l, x => (false, i, l, false, x)
  | f + 1, i, l, x =>
    if s.length ≤ upTo blB s i then (false, upTo blB s i, l, false, x)
    else if s.getD (upTo blB s i) 0 = 62 then (true, upTo blB s i + 1, l, false, x)
    else if s.getD (upTo blB s i) 0 = 47 then
      (if upTo blB s i + 1 < s.length ∧ s.getD (upTo blB s i + 1) 0 = 62 then (true, upTo blB s i + 2, l, true, x) else runT s f (upTo blB s i + 1) l x)
    else atT (upTo blB s i) (upTo (stP [47, 62, 61]) s (upTo blB s i + 1)) (fun i l x => runT s f i l x) l
where
  atT (i j : Nat) (run : Nat → List AttrD → List UInt8 → RunR) (l : List AttrD) : RunR :=
    if ¬ (upTo blB s j < s.length ∧ s.getD (upTo blB s j) 0 = 61) then run (upTo blB s j) (addL l (lowL ((s.take j).drop i), decF [] true)) (lowL ((s.take j).drop i))
    else if s.length ≤ upTo blB s (upTo blB s j + 1) then (false, upTo blB s (upTo blB s j + 1), l, false, lowL ((s.take j).drop i))
    else if (valS s (upTo blB s (upTo blB s j + 1))).2.2 = false then (false, (valS s (upTo blB s (upTo blB s j + 1))).2.1, l, false, lowL ((s.take j).drop i))
    else run (valS s (upTo blB s (upTo blB s j + 1))).2.1 (addL l (lowL ((s.take j).drop i), decF (valS s (upTo blB s (upTo blB s j + 1))).1 true)) (lowL ((s.take j).drop i))
def cOv (s : List UInt8) (i : Nat) : Bool := decide ((i : Int) ≥ (s.length : Int))
def cIs (s : List UInt8) (i : Nat) (c : Int) : Bool := decide ((i : Int) < (s.length : Int)) && ((s.getD i 0).toNat : Int) == c
theorem cOv_iff (s : List UInt8) (i : Nat) : cOv s i = true ↔ s.length ≤ i := by unfold cOv; rw [decide_eq_true_eq]; omega
theorem cOv_not (s : List UInt8) (i : Nat) : cOv s i = false ↔ i < s.length := by unfold cOv; rw [decide_eq_false_iff_not]; omega
theorem cIs_iff (s : List UInt8) (i : Nat) (c : UInt8) : cIs s i (c.toNat : Int) = true ↔ i < s.length ∧ s.getD i 0 = c := by
  unfold cIs; rw [b_iff, Bool.and_eq_true, decide_eq_true_eq, beq_iff_eq]
  constructor <;> (rintro ⟨a, b⟩; exact ⟨by omega, b⟩)
theorem cIs62 (s : List UInt8) (i : Nat) : cIs s i 62 = true ↔ i < s.length ∧ s.getD i 0 = 62 := cIs_iff s i 62
theorem cIs47 (s : List UInt8) (i : Nat) : cIs s i 47 = true ↔ i < s.length ∧ s.getD i 0 = 47 := cIs_iff s i 47
theorem cIs61 (s : List UInt8) (i : Nat) : cIs s i 61 = true ↔ i < s.length ∧ s.getD i 0 = 61 := cIs_iff s i 61
theorem nIs {s : List UInt8} {i : Nat} {c : Int} {P : Prop} (h : cIs s i c = false) (hi : cIs s i c = true ↔ P) : ¬ P := fun p => by rw [hi.2 p] at h; cases h
section
variable {s : List UInt8} {f i : Nat} {l : List AttrD} {x : List UInt8}
def nmT (s : List UInt8) (i : Nat) : List UInt8 := lowL ((s.take (upTo (stP [47, 62, 61]) s (upTo blB s i + 1))).drop (upTo blB s i))
def iJ (s : List UInt8) (i : Nat) : Nat := upTo blB s (upTo (stP [47, 62, 61]) s (upTo blB s i + 1))
def iV (s : List UInt8) (i : Nat) : Nat := upTo blB s (iJ s i + 1)
theorem st1 (h1 : cOv s (upTo blB s i) = true) : runT s (f + 1) i l x = (false, upTo blB s i, l, false, x) := by
  unfold runT; rw [if_pos ((cOv_iff _ _).1 h1)]
theorem st2 (h1 : cOv s (upTo blB s i) = false) (h2 : cIs s (upTo blB s i) 62 = true) : runT s (f + 1) i l x = (true, upTo blB s i + 1, l, false, x) := by
  have a := (cOv_not _ _).1 h1
  unfold runT; rw [if_neg (by omega), if_pos ((cIs62 _ _).1 h2).2]
theorem st3 (h1 : cOv s (upTo blB s i) = false) (h2 : cIs s (upTo blB s i) 62 = false) (h3 : cIs s (upTo blB s i) 47 = true) (h4 : cIs s (upTo blB s i + 1) 62 = true) : runT s (f + 1) i l x = (true, upTo blB s i + 2, l, true, x) := by
  have a := (cOv_not _ _).1 h1
  have b := nIs h2 (cIs62 _ _)
  unfold runT; rw [if_neg (by omega), if_neg (fun q => b ⟨a, q⟩), if_pos ((cIs47 _ _).1 h3).2, if_pos ((cIs62 _ _).1 h4)]
theorem st4 (h1 : cOv s (upTo blB s i) = false) (h2 : cIs s (upTo blB s i) 62 = false) (h3 : cIs s (upTo blB s i) 47 = true) (h4 : cIs s (upTo blB s i + 1) 62 = false) : runT s (f + 1) i l x = runT s f (upTo blB s i + 1) l x := by
  have a := (cOv_not _ _).1 h1
  have b := nIs h2 (cIs62 _ _)
  have c := nIs h4 (cIs62 _ _)
  rw [runT, if_neg (by omega), if_neg (fun q => b ⟨a, q⟩), if_pos ((cIs47 _ _).1 h3).2, if_neg c]
theorem stA (h1 : cOv s (upTo blB s i) = false) (h2 : cIs s (upTo blB s i) 62 = false) (h3 : cIs s (upTo blB s i) 47 = false) : runT s (f + 1) i l x = runT.atT s (upTo blB s i) (upTo (stP [47, 62, 61]) s (upTo blB s i + 1)) (fun i l x => runT s f i l x) l := by
  have a := (cOv_not _ _).1 h1
  have b := nIs h2 (cIs62 _ _)
  have c := nIs h3 (cIs47 _ _)
  rw [runT, if_neg (by omega), if_neg (fun q => b ⟨a, q⟩), if_neg (fun q => c ⟨a, q⟩)]
theorem st5 (h1 : cOv s (upTo blB s i) = false) (h2 : cIs s (upTo blB s i) 62 = false) (h3 : cIs s (upTo blB s i) 47 = false) (h5 : (!cIs s (iJ s i) 61) = true) : runT s (f + 1) i l x = runT s f (iJ s i) (addL l (nmT s i, decF [] true)) (nmT s i) := by
  rw [stA h1 h2 h3]
  have c := nIs (by simpa using h5) (cIs61 s (iJ s i))
  unfold runT.atT
  exact if_pos c
theorem st6 (h1 : cOv s (upTo blB s i) = false) (h2 : cIs s (upTo blB s i) 62 = false) (h3 : cIs s (upTo blB s i) 47 = false) (h5 : (!cIs s (iJ s i) 61) = false) (h6 : cOv s (iV s i) = true) : runT s (f + 1) i l x = (false, iV s i, l, false, nmT s i) := by
  rw [stA h1 h2 h3]
  have c := (cIs61 s (iJ s i)).1 (by simpa using h5)
  unfold runT.atT
  exact (if_neg (fun q => q c)).trans (if_pos ((cOv_iff _ _).1 h6))
theorem st7 (h1 : cOv s (upTo blB s i) = false) (h2 : cIs s (upTo blB s i) 62 = false) (h3 : cIs s (upTo blB s i) 47 = false) (h5 : (!cIs s (iJ s i) 61) = false) (h6 : cOv s (iV s i) = false) (h7 : (!(valS s (iV s i)).2.2) = true) : runT s (f + 1) i l x = (false, (valS s (iV s i)).2.1, l, false, nmT s i) := by
  rw [stA h1 h2 h3]
  have c := (cIs61 s (iJ s i)).1 (by simpa using h5)
  have d := (cOv_not _ _).1 h6
  unfold runT.atT
  exact (if_neg (fun q => q c)).trans ((if_neg (show ¬ s.length ≤ iV s i by omega)).trans (if_pos (show (valS s (iV s i)).2.2 = false by simpa using h7)))
theorem st8 (h1 : cOv s (upTo blB s i) = false) (h2 : cIs s (upTo blB s i) 62 = false) (h3 : cIs s (upTo blB s i) 47 = false) (h5 : (!cIs s (iJ s i) 61) = false) (h6 : cOv s (iV s i) = false) (h7 : (!(valS s (iV s i)).2.2) = false) : runT s (f + 1) i l x = runT s f (valS s (iV s i)).2.1 (addL l (nmT s i, decF (valS s (iV s i)).1 true)) (nmT s i) := by
  rw [stA h1 h2 h3]
  have c := (cIs61 s (iJ s i)).1 (by simpa using h5)
  have d := (cOv_not _ _).1 h6
  unfold runT.atT
  exact (if_neg (fun q => q c)).trans ((if_neg (show ¬ s.length ≤ iV s i by omega)).trans (if_neg (show ¬ (valS s (iV s i)).2.2 = false by simpa using h7)))
theorem valS_le (s : List UInt8) (i : Nat) (h : i < s.length) : i ≤ (valS s i).2.1 ∧ (valS s i).2.1 ≤ s.length ∧ (valS s i).1.length ≤ s.length := by
  have hu := upTo_le (stP [62]) s i (by omega)
  have hx := ixb_le (s.drop (i + 1)) (s.getD i 0)
  have hg := Lib.indexByte_ge (s.drop (i + 1)) (s.getD i 0)
  rw [List.length_drop] at hx
  unfold valS
  split
  · split
    · simp; omega
    · simp only [List.length_take, List.length_drop]; omega
  · simp only [List.length_take, List.length_drop]; omega
theorem addL_len (l : List AttrD) (a : AttrD) : (addL l a).length ≤ l.length + 1 := by
  unfold addL; split <;> simp
end
instance tRun (s nm da x : List UInt8) (i : Nat) (k : Int) : FnM BB 32 [.loc 0 0] [(0, scC s i k nm .nils false da x)] (i ≤ s.length ∧ s.length ≤ 50000) (.bool (runT s (s.length + 1) i [] x).1)
    [(0, scC s ((runT s (s.length + 1) i [] x).2.1 : Nat) k nm (.own 1) (runT s (s.length + 1) i [] x).2.2.2.1 da (runT s (s.length + 1) i [] x).2.2.2.2), (1, .own attrTy (runT s (s.length + 1) i [] x).2.2.1)] := by
  refine FnM.intro (N := 92) [0, 2, 3, 4, 5, 8, 11, 14, 25, 61, 74, 81] [(15, [0, 0, 0, 0, 1, 0, 0, 0, 0, 1, 3, 3, 0, 0, 3])] 1 Tryz.call32 Tryz.func32 rfl rfl (by kernel_rfl) (fun hpre => ?_)
  obtain ⟨p1, p2⟩ := hpre
  generalize hR : runT s (s.length + 1) i [] x = R
  repeat' ((conv => whnf);first|(with_reducible first|rfl|exact absTF|exact absFT)|exact True.intro|intro _|refine And.intro ?_ ?_|refine Fin.mk ?_|refine W1 rfl ?_ ?_|refine W2 rfl ?_ ?_|refine W3 rfl ?_ ?_|refine W4 ?_ ?_|refine W5 rfl ?_ ?_|refine W6 ?_ ?_|refine AppN.mk ?_|refine X1 (W1 rfl ?_ ?_)|refine X1 (W2 rfl ?_ ?_)|refine X2 (W7 rfl ?_ ?_)|refine X3 (W7 rfl ?_ ?_)|refine X4 (W7 rfl ?_ ?_)|refine X5 (W7 rfl ?_ ?_))
  all_goals (try (conv => whnf))
  refine ScopeStop.mk (α := Bool × Nat × Nat × List AttrD × Bool × List UInt8) (fun a => bif a.1 then 1 else 0) (fun a => [(3, .und), (4, .und), (5, .und)]) (fun a => [(0, scC s (a.2.2.1 : Nat) k nm (.own 1) a.2.2.2.2.1 da a.2.2.2.2.2), (1, .own attrTy a.2.2.2.1)]) 60
    (fun a => a.2.2.1 ≤ s.length ∧ a.2.2.2.1.length ≤ a.2.2.1 ∧ (a.1 = false → a.2.2.2.2.1 = false ∧ s.length - a.2.2.1 < a.2.1 ∧ runT s a.2.1 a.2.2.1 a.2.2.2.1 a.2.2.2.2.2 = R) ∧ (a.1 = true → a.2.2.1 < s.length ∧ R = (true, a.2.2.1 + 1, a.2.2.2.1, a.2.2.2.2.1, a.2.2.2.2.2)))
    (fun a => bif a.1 then 0 else a.2.1) (fun a h => ?_) ?_ (fun a ha => ?_)
  · obtain ⟨b, a⟩ := a
    cases b <;> rfl
  · have tn0 : ∀ n : Nat, ((n : Int)).toNat = n := Int.toNat_natCast
    have tn1 : ∀ n : Nat, ((n : Int) + 1).toNat = n + 1 := fun n => by omega
    have hI := upTo_le blB s i p1
    repeat' ((conv => whnf);first|(with_reducible first|rfl|exact absTF|exact absFT)|exact True.intro|intro _|refine And.intro ?_ ?_|refine Fin.mk ?_|refine W1 rfl ?_ ?_|refine W2 rfl ?_ ?_|refine W3 rfl ?_ ?_|refine W4 ?_ ?_|refine W5 rfl ?_ ?_|refine W6 ?_ ?_|refine AppN.mk ?_|refine X1 (W1 rfl ?_ ?_)|refine X1 (W2 rfl ?_ ?_)|refine X2 (W7 rfl ?_ ?_)|refine X3 (W7 rfl ?_ ?_)|refine X4 (W7 rfl ?_ ?_)|refine X5 (W7 rfl ?_ ?_))
    all_goals (try (conv => whnf))
    all_goals (try first|exact Ob.mk (u8_bnd _)|(refine Ob.mk ?_;first|exact True.intro|assumption|omega|(try simp only [ZA,ZB,ZC,ZD,ZE,ZF,ZG,ZH,ZI,ZJ,ZK,ZL,ZM,ZN,ZO,Int.toNat_natCast,UInt8.ofNat_toNat,cast_eq] at *;omega)))
    all_goals (try first|(show (_:Int) = _;omega)|(show tupSV _ = _;with_unfolding_all rfl)|((first|show (_:Nat) ≤ _|show (_:Nat) ≤ _ ∧ (_:Nat) ≤ _|show (_:Int) ≤ _ ∧ (_:Int) ≤ _ ∧ (_:Int) ≤ _ ∧ (_:Int) ≤ _);(simp <;> omega)))
    all_goals (try simp only [tn0, tn1] at *)
    all_goals (try (have q := hR.symm.trans (st1 (f := s.length) (l := []) (x := x)  ‹_›); rw [q]; done))
    all_goals (try (have q := hR.symm.trans (st6 (f := s.length) (l := []) (x := x)  ‹_› ‹_› ‹_› ‹_› ‹_›); rw [q]; first | done | rfl))
    all_goals (try (have q := hR.symm.trans (st7 (f := s.length) (l := []) (x := x)  ‹_› ‹_› ‹_› ‹_› ‹_› ‹_›); rw [q]; first | done | rfl))
    all_goals (try (have hIl : upTo blB s i < s.length := (cOv_not s (upTo blB s i)).1 ‹_›))
    all_goals (try (have hJ := upTo_le (stP [47, 62, 61]) s (upTo blB s i + 1) (by omega)))
    all_goals (try (have hJ2 : upTo (stP [47, 62, 61]) s (upTo blB s i + 1) ≤ iJ s i ∧ iJ s i ≤ s.length := upTo_le blB s (upTo (stP [47, 62, 61]) s (upTo blB s i + 1)) (by omega)))
    all_goals (try (have hJl : iJ s i < s.length := ((cIs61 s (iJ s i)).1 (by have h : (!cIs s (iJ s i) 61) = false := ‹_›; simpa using h)).1; have hJ3 : iJ s i + 1 ≤ iV s i ∧ iV s i ≤ s.length := upTo_le blB s (iJ s i + 1) (by omega)))
    all_goals (try (have hVl : iV s i < s.length := (cOv_not s (iV s i)).1 ‹_›; have hV := valS_le s (iV s i) hVl))
    · have q := hR.symm.trans (st2 (f := s.length) (l := []) (x := x)  ‹_› ‹_›)
      refine Rnd.mk ⟨(true, 0, upTo blB s i, [], false, x), rfl, ⟨by simp only; omega, by simp only [List.length_nil]; omega, fun h => (by cases h), fun _ => ⟨by simp only; omega, q⟩⟩, ?_⟩
      repeat' ((conv => whnf);first|(with_reducible first|rfl|exact absTF|exact absFT)|exact True.intro|intro _|refine And.intro ?_ ?_|refine Fin.mk ?_|refine W1 rfl ?_ ?_|refine W2 rfl ?_ ?_|refine W3 rfl ?_ ?_|refine W4 ?_ ?_|refine W5 rfl ?_ ?_|refine W6 ?_ ?_|refine AppN.mk ?_|refine X1 (W1 rfl ?_ ?_)|refine X1 (W2 rfl ?_ ?_)|refine X2 (W7 rfl ?_ ?_)|refine X3 (W7 rfl ?_ ?_)|refine X4 (W7 rfl ?_ ?_)|refine X5 (W7 rfl ?_ ?_))
      all_goals (try (conv => whnf))
      all_goals (try first|exact Ob.mk (u8_bnd _)|(refine Ob.mk ?_;first|exact True.intro|assumption|omega|(try simp only [ZA,ZB,ZC,ZD,ZE,ZF,ZG,ZH,ZI,ZJ,ZK,ZL,ZM,ZN,ZO,Int.toNat_natCast,UInt8.ofNat_toNat,cast_eq] at *;omega)))
      all_goals (try first|(show (_:Int) = _;omega)|(show tupSV _ = _;with_unfolding_all rfl)|((first|show (_:Nat) ≤ _|show (_:Nat) ≤ _ ∧ (_:Nat) ≤ _|show (_:Int) ≤ _ ∧ (_:Int) ≤ _ ∧ (_:Int) ≤ _ ∧ (_:Int) ≤ _);(simp <;> omega)))
      all_goals (first | rfl | omega | trace_state)
    · have q := hR.symm.trans (st3 (f := s.length) (l := []) (x := x)  ‹_› ‹_› ‹_› ‹_›)
      refine Rnd.mk ⟨(true, 0, upTo blB s i + 1, [], true, x), rfl, ⟨by have h := ((cIs62 s (upTo blB s i + 1)).1 ‹_›).1; simp only; omega, by simp only [List.length_nil]; omega, fun h => (by cases h), fun _ => ⟨((cIs62 s (upTo blB s i + 1)).1 ‹_›).1, q⟩⟩, ?_⟩
      repeat' ((conv => whnf);first|(with_reducible first|rfl|exact absTF|exact absFT)|exact True.intro|intro _|refine And.intro ?_ ?_|refine Fin.mk ?_|refine W1 rfl ?_ ?_|refine W2 rfl ?_ ?_|refine W3 rfl ?_ ?_|refine W4 ?_ ?_|refine W5 rfl ?_ ?_|refine W6 ?_ ?_|refine AppN.mk ?_|refine X1 (W1 rfl ?_ ?_)|refine X1 (W2 rfl ?_ ?_)|refine X2 (W7 rfl ?_ ?_)|refine X3 (W7 rfl ?_ ?_)|refine X4 (W7 rfl ?_ ?_)|refine X5 (W7 rfl ?_ ?_))
      all_goals (try (conv => whnf))
      all_goals (try first|exact Ob.mk (u8_bnd _)|(refine Ob.mk ?_;first|exact True.intro|assumption|omega|(try simp only [ZA,ZB,ZC,ZD,ZE,ZF,ZG,ZH,ZI,ZJ,ZK,ZL,ZM,ZN,ZO,Int.toNat_natCast,UInt8.ofNat_toNat,cast_eq] at *;omega)))
      all_goals (try first|(show (_:Int) = _;omega)|(show tupSV _ = _;with_unfolding_all rfl)|((first|show (_:Nat) ≤ _|show (_:Nat) ≤ _ ∧ (_:Nat) ≤ _|show (_:Int) ≤ _ ∧ (_:Int) ≤ _ ∧ (_:Int) ≤ _ ∧ (_:Int) ≤ _);(simp <;> omega)))
      all_goals (first | rfl | omega | trace_state)
    · have q := hR.symm.trans (st4 (f := s.length) (l := []) (x := x)  ‹_› ‹_› ‹_› ‹_›)
      refine Rnd.mk ⟨(false, s.length, upTo blB s i + 1, [], false, x), rfl, ⟨by simp only; omega, by simp only [List.length_nil]; omega, fun _ => ⟨rfl, by simp only; omega, q.symm⟩, fun h => (by cases h)⟩, ?_⟩
      repeat' ((conv => whnf);first|(with_reducible first|rfl|exact absTF|exact absFT)|exact True.intro|intro _|refine And.intro ?_ ?_|refine Fin.mk ?_|refine W1 rfl ?_ ?_|refine W2 rfl ?_ ?_|refine W3 rfl ?_ ?_|refine W4 ?_ ?_|refine W5 rfl ?_ ?_|refine W6 ?_ ?_|refine AppN.mk ?_|refine X1 (W1 rfl ?_ ?_)|refine X1 (W2 rfl ?_ ?_)|refine X2 (W7 rfl ?_ ?_)|refine X3 (W7 rfl ?_ ?_)|refine X4 (W7 rfl ?_ ?_)|refine X5 (W7 rfl ?_ ?_))
      all_goals (try (conv => whnf))
      all_goals (try first|exact Ob.mk (u8_bnd _)|(refine Ob.mk ?_;first|exact True.intro|assumption|omega|(try simp only [ZA,ZB,ZC,ZD,ZE,ZF,ZG,ZH,ZI,ZJ,ZK,ZL,ZM,ZN,ZO,Int.toNat_natCast,UInt8.ofNat_toNat,cast_eq] at *;omega)))
      all_goals (try first|(show (_:Int) = _;omega)|(show tupSV _ = _;with_unfolding_all rfl)|((first|show (_:Nat) ≤ _|show (_:Nat) ≤ _ ∧ (_:Nat) ≤ _|show (_:Int) ≤ _ ∧ (_:Int) ≤ _ ∧ (_:Int) ≤ _ ∧ (_:Int) ≤ _);(simp <;> omega)))
      all_goals (first | rfl | omega | trace_state)
    · exact ⟨by omega, by omega, by omega⟩
    · exact ⟨by omega, by omega, by omega⟩
    · have q := hR.symm.trans (st5 (f := s.length) (l := []) (x := x)  ‹_› ‹_› ‹_› ‹_›)
      refine Rnd.mk ⟨(false, s.length, iJ s i, addL [] (nmT s i, decF [] true), false, nmT s i), rfl, ⟨by simp only; omega, by have h := addL_len [] (nmT s i, decF [] true); simp only at h ⊢; simp only [List.length_nil] at h; omega, fun _ => ⟨rfl, by simp only; omega, q.symm⟩, fun h => (by cases h)⟩, ?_⟩
      repeat' ((conv => whnf);first|(with_reducible first|rfl|exact absTF|exact absFT)|exact True.intro|intro _|refine And.intro ?_ ?_|refine Fin.mk ?_|refine W1 rfl ?_ ?_|refine W2 rfl ?_ ?_|refine W3 rfl ?_ ?_|refine W4 ?_ ?_|refine W5 rfl ?_ ?_|refine W6 ?_ ?_|refine AppN.mk ?_|refine X1 (W1 rfl ?_ ?_)|refine X1 (W2 rfl ?_ ?_)|refine X2 (W7 rfl ?_ ?_)|refine X3 (W7 rfl ?_ ?_)|refine X4 (W7 rfl ?_ ?_)|refine X5 (W7 rfl ?_ ?_))
      all_goals (try (conv => whnf))
      all_goals (try first|exact Ob.mk (u8_bnd _)|(refine Ob.mk ?_;first|exact True.intro|assumption|omega|(try simp only [ZA,ZB,ZC,ZD,ZE,ZF,ZG,ZH,ZI,ZJ,ZK,ZL,ZM,ZN,ZO,Int.toNat_natCast,UInt8.ofNat_toNat,cast_eq] at *;omega)))
      all_goals (try first|(show (_:Int) = _;omega)|(show tupSV _ = _;with_unfolding_all rfl)|((first|show (_:Nat) ≤ _|show (_:Nat) ≤ _ ∧ (_:Nat) ≤ _|show (_:Int) ≤ _ ∧ (_:Int) ≤ _ ∧ (_:Int) ≤ _ ∧ (_:Int) ≤ _);(simp <;> omega)))
      all_goals (first | rfl | omega | trace_state)
    · show (valS s (iV s i)).1.length ≤ 100000
      omega
    · have q := hR.symm.trans (st8 (f := s.length) (l := []) (x := x)  ‹_› ‹_› ‹_› ‹_› ‹_› ‹_›)
      refine Rnd.mk ⟨(false, s.length, (valS s (iV s i)).2.1, addL [] (nmT s i, decF (valS s (iV s i)).1 true), false, nmT s i), rfl, ⟨by simp only; omega, by have h := addL_len [] (nmT s i, decF (valS s (iV s i)).1 true); simp only at h ⊢; simp only [List.length_nil] at h; omega, fun _ => ⟨rfl, by simp only; omega, q.symm⟩, fun h => (by cases h)⟩, ?_⟩
      repeat' ((conv => whnf);first|(with_reducible first|rfl|exact absTF|exact absFT)|exact True.intro|intro _|refine And.intro ?_ ?_|refine Fin.mk ?_|refine W1 rfl ?_ ?_|refine W2 rfl ?_ ?_|refine W3 rfl ?_ ?_|refine W4 ?_ ?_|refine W5 rfl ?_ ?_|refine W6 ?_ ?_|refine AppN.mk ?_|refine X1 (W1 rfl ?_ ?_)|refine X1 (W2 rfl ?_ ?_)|refine X2 (W7 rfl ?_ ?_)|refine X3 (W7 rfl ?_ ?_)|refine X4 (W7 rfl ?_ ?_)|refine X5 (W7 rfl ?_ ?_))
      all_goals (try (conv => whnf))
      all_goals (try first|exact Ob.mk (u8_bnd _)|(refine Ob.mk ?_;first|exact True.intro|assumption|omega|(try simp only [ZA,ZB,ZC,ZD,ZE,ZF,ZG,ZH,ZI,ZJ,ZK,ZL,ZM,ZN,ZO,Int.toNat_natCast,UInt8.ofNat_toNat,cast_eq] at *;omega)))
      all_goals (try first|(show (_:Int) = _;omega)|(show tupSV _ = _;with_unfolding_all rfl)|((first|show (_:Nat) ≤ _|show (_:Nat) ≤ _ ∧ (_:Nat) ≤ _|show (_:Int) ≤ _ ∧ (_:Int) ≤ _ ∧ (_:Int) ≤ _ ∧ (_:Int) ≤ _);(simp <;> omega)))
      all_goals (first | rfl | omega | trace_state)
  · have tn0 : ∀ n : Nat, ((n : Int)).toNat = n := Int.toNat_natCast
    have tn1 : ∀ n : Nat, ((n : Int) + 1).toNat = n + 1 := fun n => by omega
    clear hR p1
    obtain ⟨b, f, i, l, sf, x'⟩ := a
    obtain ⟨p1, q1, q2, q3⟩ := ha
    dsimp only at p1 q1 q2 q3
    cases b with
    | true =>
      obtain ⟨q4, q5⟩ := q3 rfl
      repeat' ((conv => whnf);first|(with_reducible first|rfl|exact absTF|exact absFT)|exact True.intro|intro _|refine And.intro ?_ ?_|refine Fin.mk ?_|refine W1 rfl ?_ ?_|refine W2 rfl ?_ ?_|refine W3 rfl ?_ ?_|refine W4 ?_ ?_|refine W5 rfl ?_ ?_|refine W6 ?_ ?_|refine AppN.mk ?_|refine X1 (W1 rfl ?_ ?_)|refine X1 (W2 rfl ?_ ?_)|refine X2 (W7 rfl ?_ ?_)|refine X3 (W7 rfl ?_ ?_)|refine X4 (W7 rfl ?_ ?_)|refine X5 (W7 rfl ?_ ?_))
      all_goals (try (conv => whnf))
      all_goals (try first|exact Ob.mk (u8_bnd _)|(refine Ob.mk ?_;first|exact True.intro|assumption|omega|(try simp only [ZA,ZB,ZC,ZD,ZE,ZF,ZG,ZH,ZI,ZJ,ZK,ZL,ZM,ZN,ZO,Int.toNat_natCast,UInt8.ofNat_toNat,cast_eq] at *;omega)))
      all_goals (try first|(show (_:Int) = _;omega)|(show tupSV _ = _;with_unfolding_all rfl)|((first|show (_:Nat) ≤ _|show (_:Nat) ≤ _ ∧ (_:Nat) ≤ _|show (_:Int) ≤ _ ∧ (_:Int) ≤ _ ∧ (_:Int) ≤ _ ∧ (_:Int) ≤ _);(simp <;> omega)))
      all_goals (first | (rw [q5]; done) | (rw [q5]; rfl) | (constructor <;> omega) | trace_state)
    | false =>
    obtain ⟨rfl, q4, hR⟩ := q2 rfl
    obtain ⟨f', rfl⟩ : ∃ f', f = f' + 1 := ⟨f - 1, by omega⟩
    have hI := upTo_le blB s i p1
    repeat' ((conv => whnf);first|(with_reducible first|rfl|exact absTF|exact absFT)|exact True.intro|intro _|refine And.intro ?_ ?_|refine Fin.mk ?_|refine W1 rfl ?_ ?_|refine W2 rfl ?_ ?_|refine W3 rfl ?_ ?_|refine W4 ?_ ?_|refine W5 rfl ?_ ?_|refine W6 ?_ ?_|refine AppN.mk ?_|refine X1 (W1 rfl ?_ ?_)|refine X1 (W2 rfl ?_ ?_)|refine X2 (W7 rfl ?_ ?_)|refine X3 (W7 rfl ?_ ?_)|refine X4 (W7 rfl ?_ ?_)|refine X5 (W7 rfl ?_ ?_))
    all_goals (try (conv => whnf))
    all_goals (try first|exact Ob.mk (u8_bnd _)|(refine Ob.mk ?_;first|exact True.intro|assumption|omega|(try simp only [ZA,ZB,ZC,ZD,ZE,ZF,ZG,ZH,ZI,ZJ,ZK,ZL,ZM,ZN,ZO,Int.toNat_natCast,UInt8.ofNat_toNat,cast_eq] at *;omega)))
    all_goals (try first|(show (_:Int) = _;omega)|(show tupSV _ = _;with_unfolding_all rfl)|((first|show (_:Nat) ≤ _|show (_:Nat) ≤ _ ∧ (_:Nat) ≤ _|show (_:Int) ≤ _ ∧ (_:Int) ≤ _ ∧ (_:Int) ≤ _ ∧ (_:Int) ≤ _);(simp <;> omega)))
    all_goals (try simp only [tn0, tn1] at *)
    all_goals (try (have q := hR.symm.trans (st1 (f := f') (l := l) (x := x')  ‹_›); rw [q]; done))
    all_goals (try (have q := hR.symm.trans (st6 (f := f') (l := l) (x := x')  ‹_› ‹_› ‹_› ‹_› ‹_›); rw [q]; first | done | rfl))
    all_goals (try (have q := hR.symm.trans (st7 (f := f') (l := l) (x := x')  ‹_› ‹_› ‹_› ‹_› ‹_› ‹_›); rw [q]; first | done | rfl))
    all_goals (try (have hIl : upTo blB s i < s.length := (cOv_not s (upTo blB s i)).1 ‹_›))
    all_goals (try (have hJ := upTo_le (stP [47, 62, 61]) s (upTo blB s i + 1) (by omega)))
    all_goals (try (have hJ2 : upTo (stP [47, 62, 61]) s (upTo blB s i + 1) ≤ iJ s i ∧ iJ s i ≤ s.length := upTo_le blB s (upTo (stP [47, 62, 61]) s (upTo blB s i + 1)) (by omega)))
    all_goals (try (have hJl : iJ s i < s.length := ((cIs61 s (iJ s i)).1 (by have h : (!cIs s (iJ s i) 61) = false := ‹_›; simpa using h)).1; have hJ3 : iJ s i + 1 ≤ iV s i ∧ iV s i ≤ s.length := upTo_le blB s (iJ s i + 1) (by omega)))
    all_goals (try (have hVl : iV s i < s.length := (cOv_not s (iV s i)).1 ‹_›; have hV := valS_le s (iV s i) hVl))
    · have q := hR.symm.trans (st2 (f := f') (l := l) (x := x')  ‹_› ‹_›)
      refine Rnd.mk ⟨(true, 0, upTo blB s i, l, false, x'), rfl, ⟨by simp only; omega, by simp only; omega, fun h => (by cases h), fun _ => ⟨by simp only; omega, q⟩⟩, by show _ < f' + 1; simp only [cond_true, cond_false]; omega, ?_⟩
      repeat' ((conv => whnf);first|(with_reducible first|rfl|exact absTF|exact absFT)|exact True.intro|intro _|refine And.intro ?_ ?_|refine Fin.mk ?_|refine W1 rfl ?_ ?_|refine W2 rfl ?_ ?_|refine W3 rfl ?_ ?_|refine W4 ?_ ?_|refine W5 rfl ?_ ?_|refine W6 ?_ ?_|refine AppN.mk ?_|refine X1 (W1 rfl ?_ ?_)|refine X1 (W2 rfl ?_ ?_)|refine X2 (W7 rfl ?_ ?_)|refine X3 (W7 rfl ?_ ?_)|refine X4 (W7 rfl ?_ ?_)|refine X5 (W7 rfl ?_ ?_))
      all_goals (try (conv => whnf))
      all_goals (try first|exact Ob.mk (u8_bnd _)|(refine Ob.mk ?_;first|exact True.intro|assumption|omega|(try simp only [ZA,ZB,ZC,ZD,ZE,ZF,ZG,ZH,ZI,ZJ,ZK,ZL,ZM,ZN,ZO,Int.toNat_natCast,UInt8.ofNat_toNat,cast_eq] at *;omega)))
      all_goals (try first|(show (_:Int) = _;omega)|(show tupSV _ = _;with_unfolding_all rfl)|((first|show (_:Nat) ≤ _|show (_:Nat) ≤ _ ∧ (_:Nat) ≤ _|show (_:Int) ≤ _ ∧ (_:Int) ≤ _ ∧ (_:Int) ≤ _ ∧ (_:Int) ≤ _);(simp <;> omega)))
      all_goals (first | rfl | omega | trace_state)
    · have q := hR.symm.trans (st3 (f := f') (l := l) (x := x')  ‹_› ‹_› ‹_› ‹_›)
      refine Rnd.mk ⟨(true, 0, upTo blB s i + 1, l, true, x'), rfl, ⟨by have h := ((cIs62 s (upTo blB s i + 1)).1 ‹_›).1; simp only; omega, by simp only; omega, fun h => (by cases h), fun _ => ⟨((cIs62 s (upTo blB s i + 1)).1 ‹_›).1, q⟩⟩, by show _ < f' + 1; simp only [cond_true, cond_false]; omega, ?_⟩
      repeat' ((conv => whnf);first|(with_reducible first|rfl|exact absTF|exact absFT)|exact True.intro|intro _|refine And.intro ?_ ?_|refine Fin.mk ?_|refine W1 rfl ?_ ?_|refine W2 rfl ?_ ?_|refine W3 rfl ?_ ?_|refine W4 ?_ ?_|refine W5 rfl ?_ ?_|refine W6 ?_ ?_|refine AppN.mk ?_|refine X1 (W1 rfl ?_ ?_)|refine X1 (W2 rfl ?_ ?_)|refine X2 (W7 rfl ?_ ?_)|refine X3 (W7 rfl ?_ ?_)|refine X4 (W7 rfl ?_ ?_)|refine X5 (W7 rfl ?_ ?_))
      all_goals (try (conv => whnf))
      all_goals (try first|exact Ob.mk (u8_bnd _)|(refine Ob.mk ?_;first|exact True.intro|assumption|omega|(try simp only [ZA,ZB,ZC,ZD,ZE,ZF,ZG,ZH,ZI,ZJ,ZK,ZL,ZM,ZN,ZO,Int.toNat_natCast,UInt8.ofNat_toNat,cast_eq] at *;omega)))
      all_goals (try first|(show (_:Int) = _;omega)|(show tupSV _ = _;with_unfolding_all rfl)|((first|show (_:Nat) ≤ _|show (_:Nat) ≤ _ ∧ (_:Nat) ≤ _|show (_:Int) ≤ _ ∧ (_:Int) ≤ _ ∧ (_:Int) ≤ _ ∧ (_:Int) ≤ _);(simp <;> omega)))
      all_goals (first | rfl | omega | trace_state)
    · have q := hR.symm.trans (st4 (f := f') (l := l) (x := x')  ‹_› ‹_› ‹_› ‹_›)
      refine Rnd.mk ⟨(false, f', upTo blB s i + 1, l, false, x'), rfl, ⟨by simp only; omega, by simp only; omega, fun _ => ⟨rfl, by simp only; omega, q.symm⟩, fun h => (by cases h)⟩, by show _ < f' + 1; simp only [cond_true, cond_false]; omega, ?_⟩
      repeat' ((conv => whnf);first|(with_reducible first|rfl|exact absTF|exact absFT)|exact True.intro|intro _|refine And.intro ?_ ?_|refine Fin.mk ?_|refine W1 rfl ?_ ?_|refine W2 rfl ?_ ?_|refine W3 rfl ?_ ?_|refine W4 ?_ ?_|refine W5 rfl ?_ ?_|refine W6 ?_ ?_|refine AppN.mk ?_|refine X1 (W1 rfl ?_ ?_)|refine X1 (W2 rfl ?_ ?_)|refine X2 (W7 rfl ?_ ?_)|refine X3 (W7 rfl ?_ ?_)|refine X4 (W7 rfl ?_ ?_)|refine X5 (W7 rfl ?_ ?_))
      all_goals (try (conv => whnf))
      all_goals (try first|exact Ob.mk (u8_bnd _)|(refine Ob.mk ?_;first|exact True.intro|assumption|omega|(try simp only [ZA,ZB,ZC,ZD,ZE,ZF,ZG,ZH,ZI,ZJ,ZK,ZL,ZM,ZN,ZO,Int.toNat_natCast,UInt8.ofNat_toNat,cast_eq] at *;omega)))
      all_goals (try first|(show (_:Int) = _;omega)|(show tupSV _ = _;with_unfolding_all rfl)|((first|show (_:Nat) ≤ _|show (_:Nat) ≤ _ ∧ (_:Nat) ≤ _|show (_:Int) ≤ _ ∧ (_:Int) ≤ _ ∧ (_:Int) ≤ _ ∧ (_:Int) ≤ _);(simp <;> omega)))
      all_goals (first | rfl | omega | trace_state)
    · exact ⟨by omega, by omega, by omega⟩
    · exact ⟨by omega, by omega, by omega⟩
    · have q := hR.symm.trans (st5 (f := f') (l := l) (x := x')  ‹_› ‹_› ‹_› ‹_›)
      refine Rnd.mk ⟨(false, f', iJ s i, addL l (nmT s i, decF [] true), false, nmT s i), rfl, ⟨by simp only; omega, by have h := addL_len l (nmT s i, decF [] true); simp only; omega, fun _ => ⟨rfl, by simp only; omega, q.symm⟩, fun h => (by cases h)⟩, by show _ < f' + 1; simp only [cond_true, cond_false]; omega, ?_⟩
      repeat' ((conv => whnf);first|(with_reducible first|rfl|exact absTF|exact absFT)|exact True.intro|intro _|refine And.intro ?_ ?_|refine Fin.mk ?_|refine W1 rfl ?_ ?_|refine W2 rfl ?_ ?_|refine W3 rfl ?_ ?_|refine W4 ?_ ?_|refine W5 rfl ?_ ?_|refine W6 ?_ ?_|refine AppN.mk ?_|refine X1 (W1 rfl ?_ ?_)|refine X1 (W2 rfl ?_ ?_)|refine X2 (W7 rfl ?_ ?_)|refine X3 (W7 rfl ?_ ?_)|refine X4 (W7 rfl ?_ ?_)|refine X5 (W7 rfl ?_ ?_))
      all_goals (try (conv => whnf))
      all_goals (try first|exact Ob.mk (u8_bnd _)|(refine Ob.mk ?_;first|exact True.intro|assumption|omega|(try simp only [ZA,ZB,ZC,ZD,ZE,ZF,ZG,ZH,ZI,ZJ,ZK,ZL,ZM,ZN,ZO,Int.toNat_natCast,UInt8.ofNat_toNat,cast_eq] at *;omega)))
      all_goals (try first|(show (_:Int) = _;omega)|(show tupSV _ = _;with_unfolding_all rfl)|((first|show (_:Nat) ≤ _|show (_:Nat) ≤ _ ∧ (_:Nat) ≤ _|show (_:Int) ≤ _ ∧ (_:Int) ≤ _ ∧ (_:Int) ≤ _ ∧ (_:Int) ≤ _);(simp <;> omega)))
      all_goals (first | rfl | omega | trace_state)
    · refine ⟨?_, by omega⟩
      show (valS s (iV s i)).1.length ≤ 100000
      omega
    · have q := hR.symm.trans (st8 (f := f') (l := l) (x := x')  ‹_› ‹_› ‹_› ‹_› ‹_› ‹_›)
      refine Rnd.mk ⟨(false, f', (valS s (iV s i)).2.1, addL l (nmT s i, decF (valS s (iV s i)).1 true), false, nmT s i), rfl, ⟨by simp only; omega, by have h := addL_len l (nmT s i, decF (valS s (iV s i)).1 true); simp only; omega, fun _ => ⟨rfl, by simp only; omega, q.symm⟩, fun h => (by cases h)⟩, by show _ < f' + 1; simp only [cond_true, cond_false]; omega, ?_⟩
      repeat' ((conv => whnf);first|(with_reducible first|rfl|exact absTF|exact absFT)|exact True.intro|intro _|refine And.intro ?_ ?_|refine Fin.mk ?_|refine W1 rfl ?_ ?_|refine W2 rfl ?_ ?_|refine W3 rfl ?_ ?_|refine W4 ?_ ?_|refine W5 rfl ?_ ?_|refine W6 ?_ ?_|refine AppN.mk ?_|refine X1 (W1 rfl ?_ ?_)|refine X1 (W2 rfl ?_ ?_)|refine X2 (W7 rfl ?_ ?_)|refine X3 (W7 rfl ?_ ?_)|refine X4 (W7 rfl ?_ ?_)|refine X5 (W7 rfl ?_ ?_))
      all_goals (try (conv => whnf))
      all_goals (try first|exact Ob.mk (u8_bnd _)|(refine Ob.mk ?_;first|exact True.intro|assumption|omega|(try simp only [ZA,ZB,ZC,ZD,ZE,ZF,ZG,ZH,ZI,ZJ,ZK,ZL,ZM,ZN,ZO,Int.toNat_natCast,UInt8.ofNat_toNat,cast_eq] at *;omega)))
      all_goals (try first|(show (_:Int) = _;omega)|(show tupSV _ = _;with_unfolding_all rfl)|((first|show (_:Nat) ≤ _|show (_:Nat) ≤ _ ∧ (_:Nat) ≤ _|show (_:Int) ≤ _ ∧ (_:Int) ≤ _ ∧ (_:Int) ≤ _ ∧ (_:Int) ≤ _);(simp <;> omega)))
      all_goals (first | rfl | omega | trace_state)
end Go.Vc

namespace Go.Vc
open Go.Proofs
set_option maxRecDepth 10000
set_option maxHeartbeats 8000000
def begP (s p : List UInt8) : Bool := decide ((s.length : Int) ≥ (p.length : Int)) && s.take p.length == p
instance gHPl (s p : List UInt8) : Fn BB 45 [.str s, .str p] True (.bool (begP s p)) := by
  refine Fn.intro (N := 18) [0, 1, 4] [] Tryz.call45 Tryz.func45 rfl rfl (by kernel_rfl) (fun hpre => ?_)
  repeat' ((conv => whnf);first|(with_reducible first|rfl|exact absTF|exact absFT)|exact True.intro|intro _|refine And.intro ?_ ?_|refine Fin.mk ?_|refine W1 rfl ?_ ?_|refine W2 rfl ?_ ?_|refine W3 rfl ?_ ?_|refine W4 ?_ ?_|refine W5 rfl ?_ ?_|refine W6 ?_ ?_|refine AppN.mk ?_|refine X1 (W1 rfl ?_ ?_)|refine X1 (W2 rfl ?_ ?_)|refine X2 (W7 rfl ?_ ?_)|refine X3 (W7 rfl ?_ ?_)|refine X4 (W7 rfl ?_ ?_)|refine X5 (W7 rfl ?_ ?_))
  all_goals (try (conv => whnf))
  all_goals (try first|exact Ob.mk (u8_bnd _)|(refine Ob.mk ?_;first|exact True.intro|assumption|omega|(try simp only [ZA,ZB,ZC,ZD,ZE,ZF,ZG,ZH,ZI,ZJ,ZK,ZL,ZM,ZN,ZO,Int.toNat_natCast,UInt8.ofNat_toNat,cast_eq] at *;omega)))
  all_goals (try first|(show (_:Int) = _;omega)|(show tupSV _ = _;with_unfolding_all rfl)|((first|show (_:Nat) ≤ _|show (_:Nat) ≤ _ ∧ (_:Nat) ≤ _|show (_:Int) ≤ _ ∧ (_:Int) ≤ _ ∧ (_:Int) ≤ _ ∧ (_:Int) ≤ _);(simp <;> omega)))
  all_goals (try simp only [ZA,ZB,ZC,ZD,ZE,ZF,ZG,ZH,ZI,ZJ,ZK,ZL,ZM,ZN,ZO,Int.toNat_natCast,UInt8.ofNat_toNat,cast_eq] at *)
  all_goals rfl
instance gHP (s p : List UInt8) : Fn BB 27 [.str s, .str p] True (.bool (begP s p)) := by
  refine Fn.intro (N := 8) [0, 1, 4] [] Tryz.call27 Tryz.func27 rfl rfl (by kernel_rfl) (fun hpre => ?_)
  repeat' ((conv => whnf);first|(with_reducible first|rfl|exact absTF|exact absFT)|exact True.intro|intro _|refine And.intro ?_ ?_|refine Fin.mk ?_|refine W1 rfl ?_ ?_|refine W2 rfl ?_ ?_|refine W3 rfl ?_ ?_|refine W4 ?_ ?_|refine W5 rfl ?_ ?_|refine W6 ?_ ?_|refine AppN.mk ?_|refine X1 (W1 rfl ?_ ?_)|refine X1 (W2 rfl ?_ ?_)|refine X2 (W7 rfl ?_ ?_)|refine X3 (W7 rfl ?_ ?_)|refine X4 (W7 rfl ?_ ?_)|refine X5 (W7 rfl ?_ ?_))
  all_goals (try (conv => whnf))
  all_goals (try first|exact Ob.mk (u8_bnd _)|(refine Ob.mk ?_;first|exact True.intro|assumption|omega|(try simp only [ZA,ZB,ZC,ZD,ZE,ZF,ZG,ZH,ZI,ZJ,ZK,ZL,ZM,ZN,ZO,Int.toNat_natCast,UInt8.ofNat_toNat,cast_eq] at *;omega)))
  all_goals (try first|(show (_:Int) = _;omega)|(show tupSV _ = _;with_unfolding_all rfl)|((first|show (_:Nat) ≤ _|show (_:Nat) ≤ _ ∧ (_:Nat) ≤ _|show (_:Int) ≤ _ ∧ (_:Int) ≤ _ ∧ (_:Int) ≤ _ ∧ (_:Int) ≤ _);(simp <;> omega)))
abbrev TagR := Int × List UInt8 × List AttrD × Bool × Int × Bool
def nmG (s : List UInt8) (at_ : Nat) : List UInt8 := lowL ((s.take (upTo (stP [47, 62]) s at_)).drop at_)
def rnG (s : List UInt8) (at_ : Nat) : RunR := runT s (s.length + 1) (upTo (stP [47, 62]) s at_) [] []
def tagAt (s : List UInt8) (c : Bool) (at_ : Nat) : TagR :=
  if s = [] ∨ s.getD 0 0 ≠ 60 ∨ s.length ≤ at_ ∨ alB (s.getD at_ 0) = false then (0, [], [], false, 0, false)
  else if (rnG s at_).1 = false then (0, [], [], false, (s.length : Int), false)
  else if c = true then (2, nmG s at_, [], false, ((rnG s at_).2.1 : Int), true)
  else (1, nmG s at_, (rnG s at_).2.2.1, (rnG s at_).2.2.2.1, ((rnG s at_).2.1 : Int), true)
def tagP (s : List UInt8) : TagR := if begP s [60, 47] = true then tagAt s true 2 else tagAt s false 1
section
variable {s : List UInt8} {c : Bool} {n : Nat} {k : Int}
theorem h60 (s : List UInt8) : (s == [] || ((s.getD (Int.toNat 0) 0).toNat : Int) != 60) = true ↔ (s = [] ∨ s.getD 0 0 ≠ 60) := by
  have e : (((s.getD (Int.toNat 0) 0).toNat : Int) != 60) = !(s.getD 0 0 == 60) := by
    rw [bne, show (((s.getD (Int.toNat 0) 0).toNat : Int) == 60) = (s.getD 0 0 == 60) from b_iff _ 60]
  rw [e, Bool.or_eq_true, beq_iff_eq, Bool.not_eq_true', beq_eq_false_iff_ne]
theorem tA1 (h : (s == [] || ((s.getD (Int.toNat 0) 0).toNat : Int) != 60) = !false) : tagAt s c n = (0, [], [], false, 0, false) := by
  have := (h60 s).1 h
  unfold tagAt; rw [if_pos (by rcases this with h | h; exact .inl h; exact .inr (.inl h))]
theorem tA2 (hk : k = n) (h : (false || decide (k ≥ (s.length : Int)) || !alI ((s.getD k.toNat 0).toNat : Int)) = true) : tagAt s c n = (0, [], [], false, 0, false) := by
  subst hk
  rw [Bool.false_or, Bool.or_eq_true, decide_eq_true_eq, Int.toNat_natCast, Bool.not_eq_true'] at h
  unfold tagAt; rw [if_pos (by rcases h with h | h; exact .inr (.inr (.inl (by omega))); exact .inr (.inr (.inr h)))]
theorem tOk (hk : k = n) (h : (s == [] || ((s.getD (Int.toNat 0) 0).toNat : Int) != 60) = false) (h' : (false || decide (k ≥ (s.length : Int)) || !alI ((s.getD k.toNat 0).toNat : Int)) = false) : ¬ (s = [] ∨ s.getD 0 0 ≠ 60 ∨ s.length ≤ n ∨ alB (s.getD n 0) = false) := by
  subst hk
  rw [Bool.false_or, Bool.or_eq_false_iff, decide_eq_false_iff_not, Int.toNat_natCast, Bool.not_eq_false'] at h'
  rintro (q | q | q | q)
  · rw [(h60 s).2 (.inl q)] at h; cases h
  · rw [(h60 s).2 (.inr q)] at h; cases h
  · exact h'.1 (by omega)
  · unfold alB at q; rw [h'.2] at q; cases q
theorem tA3 (hk : k = n) (h : (s == [] || ((s.getD (Int.toNat 0) 0).toNat : Int) != 60) = false) (h' : (false || decide (k ≥ (s.length : Int)) || !alI ((s.getD k.toNat 0).toNat : Int)) = false) (hr : (!(rnG s k.toNat).1) = true) : tagAt s c n = (0, [], [], false, (s.length : Int), false) := by
  have := tOk hk h h'
  subst hk
  rw [Int.toNat_natCast] at hr
  unfold tagAt; rw [if_neg this, if_pos (by simpa using hr)]
theorem tA4 (hk : k = n) (h : (s == [] || ((s.getD (Int.toNat 0) 0).toNat : Int) != 60) = false) (h' : (false || decide (k ≥ (s.length : Int)) || !alI ((s.getD k.toNat 0).toNat : Int)) = false) (hr : (!(rnG s k.toNat).1) = false) : tagAt s c n = if c = true then (2, nmG s n, [], false, ((rnG s n).2.1 : Int), true) else (1, nmG s n, (rnG s n).2.2.1, (rnG s n).2.2.2.1, ((rnG s n).2.1 : Int), true) := by
  have := tOk hk h h'
  subst hk
  rw [Int.toNat_natCast] at hr
  unfold tagAt; rw [if_neg this, if_neg (by simpa using hr)]
theorem tBnd (hk : k = n) (h : (s == [] || ((s.getD (Int.toNat 0) 0).toNat : Int) != 60) = false) (h' : (false || decide (k ≥ (s.length : Int)) || !alI ((s.getD k.toNat 0).toNat : Int)) = false) : n < s.length := by
  have := tOk hk h h'
  rcases Nat.lt_or_ge n s.length with q | q
  · exact q
  · exact absurd (.inr (.inr (.inl q))) this
end
instance tRead (s : List UInt8) : FnM BB 17 [.str s] [] (s.length ≤ 50000) (.tup [.agg [.int .i64 (tagP s).1, .str (tagP s).2.1, .own 0, .bool (tagP s).2.2.2.1, .str []], .int .i64 (tagP s).2.2.2.2.1, .bool (tagP s).2.2.2.2.2]) [(0, .own attrTy (tagP s).2.2.1)] := by
  refine FnM.intro (N := 62) [0, 2, 3, 4, 5, 6, 11, 32, 46, 53] [(13, [0, 4, 0, 4, 4, 4, 0])] 0 Tryz.call17 Tryz.func17 rfl rfl (by kernel_rfl) (fun hpre => ?_)
  have e1 : begP s [60, 47] = true → tagP s = tagAt s true 2 := fun h => by unfold tagP; rw [if_pos h]
  have e0 : begP s [60, 47] = false → tagP s = tagAt s false 1 := fun h => by unfold tagP; rw [if_neg (by rw [h]; decide)]
  have n2 : (2 : Int).toNat = 2 := rfl
  have n1 : (1 : Int).toNat = 1 := rfl
  repeat' ((conv => whnf);first|(with_reducible first|rfl|exact absTF|exact absFT)|exact True.intro|intro _|refine And.intro ?_ ?_|refine Fin.mk ?_|refine W1 rfl ?_ ?_|refine W2 rfl ?_ ?_|refine W3 rfl ?_ ?_|refine W4 ?_ ?_|refine W5 rfl ?_ ?_|refine W6 ?_ ?_|refine AppN.mk ?_|refine X1 (W1 rfl ?_ ?_)|refine X1 (W2 rfl ?_ ?_)|refine X2 (W7 rfl ?_ ?_)|refine X3 (W7 rfl ?_ ?_)|refine X4 (W7 rfl ?_ ?_)|refine X5 (W7 rfl ?_ ?_))
  all_goals (try (conv => whnf))
  all_goals (try first|exact Ob.mk (u8_bnd _)|(refine Ob.mk ?_;first|exact True.intro|assumption|omega|(try simp only [ZA,ZB,ZC,ZD,ZE,ZF,ZG,ZH,ZI,ZJ,ZK,ZL,ZM,ZN,ZO,Int.toNat_natCast,UInt8.ofNat_toNat,cast_eq] at *;omega)))
  all_goals (try first|(show (_:Int) = _;omega)|(show tupSV _ = _;with_unfolding_all rfl)|((first|show (_:Nat) ≤ _|show (_:Nat) ≤ _ ∧ (_:Nat) ≤ _|show (_:Int) ≤ _ ∧ (_:Int) ≤ _ ∧ (_:Int) ≤ _ ∧ (_:Int) ≤ _);(simp <;> omega)))
  all_goals (try (have q := (e1 ‹_›).trans (tA1 ‹_›)))
  all_goals (try (have q := (e0 ‹_›).trans (tA1 ‹_›)))
  all_goals (try (have q := (e1 ‹_›).trans (tA2 (k := 2) rfl ‹_›)))
  all_goals (try (have q := (e0 ‹_›).trans (tA2 (k := 1) rfl ‹_›)))
  all_goals (try (have q := (e1 ‹_›).trans (tA3 (k := 2) rfl ‹_› ‹_› ‹_›)))
  all_goals (try (have q := (e0 ‹_›).trans (tA3 (k := 1) rfl ‹_› ‹_› ‹_›)))
  all_goals (try (have q := (e1 ‹_›).trans (tA4 (k := 2) rfl ‹_› ‹_› ‹_›)))
  all_goals (try (have q := (e0 ‹_›).trans (tA4 (k := 1) rfl ‹_› ‹_› ‹_›)))
  all_goals (try (have b := tBnd (n := 2) (k := 2) rfl ‹_› ‹_›; have u := upTo_le (stP [47, 62]) s 2 (by omega)))
  all_goals (try (have b := tBnd (n := 1) (k := 1) rfl ‹_› ‹_›; have u := upTo_le (stP [47, 62]) s 1 (by omega)))
  all_goals (try (exfalso; exact absurd ‹((1 : Int) == 2) = true› (by decide)))
  all_goals (try (exfalso; exact absurd ‹((2 : Int) == 2) = false› (by decide)))
  all_goals (try (exfalso; have h : (true || !alI ((s.getD (Int.toNat 2) 0).toNat : Int)) = false := ‹_›; simp at h; done))
  all_goals (try (exfalso; have h : (true || !alI ((s.getD (Int.toNat 1) 0).toNat : Int)) = false := ‹_›; simp at h; done))
  all_goals (try (have hne : s ≠ [] := fun z => by have h : (s == []) = false := ‹_›; rw [z] at h; cases h))
  all_goals (try (have hpos : 0 < s.length := List.length_pos_iff.mpr hne))
  all_goals (try (have h2' : ¬ (2 ≥ (s.length : Int)) := by have h : (false || decide (2 ≥ (s.length : Int))) = false := ‹_›; rw [Bool.false_or] at h; exact of_decide_eq_false h))
  all_goals (try (have h1' : ¬ (1 ≥ (s.length : Int)) := by have h : (false || decide (1 ≥ (s.length : Int))) = false := ‹_›; rw [Bool.false_or] at h; exact of_decide_eq_false h))
  all_goals (try simp only [n1, n2] at *)
  all_goals (first | (rw [q]; done) | (rw [q]; rfl) | omega | exact ⟨by omega, by omega⟩ | exact ⟨by omega, by omega, by omega⟩ | skip)
  all_goals trace_state
end Go.Vc

namespace Go.Vc
set_option autoImplicit false
def fnd : List UInt8 → List UInt8 → Nat
  | [], _ => 0
  | c :: l, p => if p.isPrefixOf (c :: l) then 0 else fnd l p + 1
def occ (l p : List UInt8) (i : Nat) : Prop := i + p.length ≤ l.length ∧ ∀ j < p.length, l.getD (i + j) 0 = p.getD j 0
theorem pre_iff (p l : List UInt8) : p.isPrefixOf l = true ↔ occ l p 0 := by
  induction p generalizing l with
  | nil => simp [occ]
  | cons a r ih =>
    cases l with
    | nil => simp [occ]
    | cons c t =>
      rw [List.isPrefixOf_cons_cons, Bool.and_eq_true, ih t, beq_iff_eq]
      constructor
      · rintro ⟨h1, h2, h3⟩
        refine ⟨by simp only [List.length_cons]; omega, fun j hj => ?_⟩
        cases j with
        | zero => simp [h1]
        | succ j =>
          have := h3 j (by simpa using hj)
          simpa using this
      · rintro ⟨h2, h3⟩
        simp only [List.length_cons] at h2
        refine ⟨?_, by omega, fun j hj => ?_⟩
        · have := h3 0 (by simp); simpa using this.symm
        · have := h3 (j + 1) (by simp; omega)
          simpa using this
theorem occ_succ (c : UInt8) (l p : List UInt8) (i : Nat) : occ (c :: l) p (i + 1) ↔ occ l p i := by
  unfold occ
  have e : ∀ j, (c :: l).getD (i + 1 + j) 0 = l.getD (i + j) 0 := fun j => by
    rw [show i + 1 + j = (i + j) + 1 by omega]; simp
  simp only [e, List.length_cons]
  constructor <;> (rintro ⟨h1, h2⟩; exact ⟨by omega, h2⟩)
theorem fnd_le (l p : List UInt8) : fnd l p ≤ l.length := by
  induction l with
  | nil => simp [fnd]
  | cons c l ih => unfold fnd; split <;> simp <;> omega
theorem fnd_least (l p : List UInt8) (i : Nat) (h : i < fnd l p) : ¬ occ l p i := by
  induction l generalizing i with
  | nil => simp [fnd] at h
  | cons c l ih =>
    unfold fnd at h
    split at h
    · omega
    · rename_i hp
      cases i with
      | zero => rw [← pre_iff]; exact hp
      | succ i => rw [occ_succ]; exact ih i (by omega)
theorem fnd_occ (l p : List UInt8) (h : fnd l p < l.length) : occ l p (fnd l p) := by
  induction l with
  | nil => simp [fnd] at h
  | cons c l ih =>
    unfold fnd at h ⊢
    split at h
    · rename_i hp; rw [if_pos hp]; exact (pre_iff _ _).1 hp
    · rename_i hp
      rw [if_neg hp, occ_succ]
      exact ih (by simp at h; omega)
theorem fnd_none (l p : List UInt8) (h : ∀ j, ¬ occ l p j) : fnd l p = l.length := by
  have := fnd_le l p
  rcases Nat.lt_or_ge (fnd l p) l.length with q | q
  · exact absurd (fnd_occ l p q) (h _)
  · omega
theorem fnd_cases (l p : List UInt8) (hp : p ≠ []) : (occ l p (fnd l p) ∧ fnd l p + p.length ≤ l.length) ∨ (fnd l p = l.length ∧ ∀ j, ¬ occ l p j) := by
  have := fnd_le l p
  have hpos : 0 < p.length := List.length_pos_iff.mpr hp
  rcases Nat.lt_or_ge (fnd l p) l.length with q | q
  · have := fnd_occ l p q
    exact .inl ⟨this, this.1⟩
  · refine .inr ⟨by omega, fun j hj => ?_⟩
    have h1 := hj.1
    exact fnd_least l p j (by omega) hj
theorem index_fnd (l p : List UInt8) (hp : p ≠ []) : Lib.index l p = if fnd l p + p.length ≤ l.length then (fnd l p : Int) else -1 := by
  induction l with
  | nil =>
    have : p.isEmpty = false := by simpa using hp
    have hpos : 0 < p.length := List.length_pos_iff.mpr hp
    unfold Lib.index fnd
    rw [this, if_neg (by simp), if_neg (by simp; omega)]
  | cons c l ih =>
    unfold Lib.index fnd
    by_cases h : p.isPrefixOf (c :: l) = true
    · have := ((pre_iff _ _).1 h).1
      rw [if_pos h, if_pos h, if_pos (by omega)]; rfl
    · rw [if_neg h, if_neg h, ih]
      by_cases q : fnd l p + p.length ≤ l.length
      · have e : ((fnd l p : Int) == -1) = false := beq_eq_false_iff_ne.2 (by omega)
        have q' : fnd l p + 1 + p.length ≤ (c :: l).length := by simp; omega
        simp only [if_pos q, if_pos q', e]
        simp
      · have q' : ¬ fnd l p + 1 + p.length ≤ (c :: l).length := by simp; omega
        simp only [if_neg q, if_neg q']
        rfl
theorem fnd_step (c : UInt8) (l p : List UInt8) (h : ¬ (p.isPrefixOf (c :: l) = true)) : fnd (c :: l) p = fnd l p + 1 := by
  rw [fnd, if_neg h]
def uN (l p : List UInt8) : Nat := if fnd l p + p.length ≤ l.length then fnd l p + p.length else l.length
theorem uN_le (l p : List UInt8) : uN l p ≤ l.length := by unfold uN; split <;> omega
end Go.Vc

namespace Go.Vc
open Go.Proofs
set_option maxRecDepth 10000
set_option maxHeartbeats 2000000
def endP (s p : List UInt8) : Bool := decide ((s.length : Int) ≥ (p.length : Int)) && s.drop (s.length - p.length) == p
instance rHSl (s p : List UInt8) : Fn BB 120 [.str s, .str p] True (.bool (endP s p)) := by
  refine Fn.intro (N := 21) [0, 1, 4] [] Tryz.call120 Tryz.func120 rfl rfl (by kernel_rfl) (fun hpre => ?_)
  repeat' ((conv => whnf);first|(with_reducible first|rfl|exact absTF|exact absFT)|exact True.intro|intro _|refine And.intro ?_ ?_|refine Fin.mk ?_|refine W1 rfl ?_ ?_|refine W2 rfl ?_ ?_|refine W3 rfl ?_ ?_|refine W4 ?_ ?_|refine W5 rfl ?_ ?_|refine W6 ?_ ?_|refine AppN.mk ?_|refine X1 (W1 rfl ?_ ?_)|refine X1 (W2 rfl ?_ ?_)|refine X2 (W7 rfl ?_ ?_)|refine X3 (W7 rfl ?_ ?_)|refine X4 (W7 rfl ?_ ?_)|refine X5 (W7 rfl ?_ ?_))
  all_goals (try (conv => whnf))
  all_goals (try first|exact Ob.mk (u8_bnd _)|(refine Ob.mk ?_;first|exact True.intro|assumption|omega|(try simp only [ZA,ZB,ZC,ZD,ZE,ZF,ZG,ZH,ZI,ZJ,ZK,ZL,ZM,ZN,ZO,Int.toNat_natCast,UInt8.ofNat_toNat,cast_eq] at *;omega)))
  all_goals (try first|(show (_:Int) = _;omega)|(show tupSV _ = _;with_unfolding_all rfl)|((first|show (_:Nat) ≤ _|show (_:Nat) ≤ _ ∧ (_:Nat) ≤ _|show (_:Int) ≤ _ ∧ (_:Int) ≤ _ ∧ (_:Int) ≤ _ ∧ (_:Int) ≤ _);(simp <;> omega)))
  have e : ((s.length : Int) - (p.length : Int)).toNat = s.length - p.length := by omega
  rw [e]; rfl
instance rHS (s p : List UInt8) : Fn BB 111 [.str s, .str p] True (.bool (endP s p)) := by
  refine Fn.intro (N := 8) [0, 1, 4] [] Tryz.call111 Tryz.func111 rfl rfl (by kernel_rfl) (fun hpre => ?_)
  repeat' ((conv => whnf);first|(with_reducible first|rfl|exact absTF|exact absFT)|exact True.intro|intro _|refine And.intro ?_ ?_|refine Fin.mk ?_|refine W1 rfl ?_ ?_|refine W2 rfl ?_ ?_|refine W3 rfl ?_ ?_|refine W4 ?_ ?_|refine W5 rfl ?_ ?_|refine W6 ?_ ?_|refine AppN.mk ?_|refine X1 (W1 rfl ?_ ?_)|refine X1 (W2 rfl ?_ ?_)|refine X2 (W7 rfl ?_ ?_)|refine X3 (W7 rfl ?_ ?_)|refine X4 (W7 rfl ?_ ?_)|refine X5 (W7 rfl ?_ ?_))
  all_goals (try (conv => whnf))
  all_goals (try first|exact Ob.mk (u8_bnd _)|(refine Ob.mk ?_;first|exact True.intro|assumption|omega|(try simp only [ZA,ZB,ZC,ZD,ZE,ZF,ZG,ZH,ZI,ZJ,ZK,ZL,ZM,ZN,ZO,Int.toNat_natCast,UInt8.ofNat_toNat,cast_eq] at *;omega)))
  all_goals (try first|(show (_:Int) = _;omega)|(show tupSV _ = _;with_unfolding_all rfl)|((first|show (_:Nat) ≤ _|show (_:Nat) ≤ _ ∧ (_:Nat) ≤ _|show (_:Int) ≤ _ ∧ (_:Int) ≤ _ ∧ (_:Int) ≤ _ ∧ (_:Int) ≤ _);(simp <;> omega)))
instance rCPl (s p : List UInt8) : Fn BB 104 [.str s, .str p] True (.tup [.str (if begP s p = true then s.drop p.length else s), .bool (begP s p)]) := by
  refine Fn.intro (N := 15) [0, 1, 4, 5, 9] [] Tryz.call104 Tryz.func104 rfl rfl (by kernel_rfl) (fun hpre => ?_)
  cases hb : begP s p
  · repeat' ((conv => whnf);first|(with_reducible first|rfl|exact absTF|exact absFT)|exact True.intro|intro _|refine And.intro ?_ ?_|refine Fin.mk ?_|refine W1 rfl ?_ ?_|refine W2 rfl ?_ ?_|refine W3 rfl ?_ ?_|refine W4 ?_ ?_|refine W5 rfl ?_ ?_|refine W6 ?_ ?_|refine AppN.mk ?_|refine X1 (W1 rfl ?_ ?_)|refine X1 (W2 rfl ?_ ?_)|refine X2 (W7 rfl ?_ ?_)|refine X3 (W7 rfl ?_ ?_)|refine X4 (W7 rfl ?_ ?_)|refine X5 (W7 rfl ?_ ?_))
    all_goals (try (conv => whnf))
    all_goals (try first|exact Ob.mk (u8_bnd _)|(refine Ob.mk ?_;first|exact True.intro|assumption|omega|(try simp only [ZA,ZB,ZC,ZD,ZE,ZF,ZG,ZH,ZI,ZJ,ZK,ZL,ZM,ZN,ZO,Int.toNat_natCast,UInt8.ofNat_toNat,cast_eq] at *;omega)))
    all_goals (try first|(show (_:Int) = _;omega)|(show tupSV _ = _;with_unfolding_all rfl)|((first|show (_:Nat) ≤ _|show (_:Nat) ≤ _ ∧ (_:Nat) ≤ _|show (_:Int) ≤ _ ∧ (_:Int) ≤ _ ∧ (_:Int) ≤ _ ∧ (_:Int) ≤ _);(simp <;> omega)))
    all_goals (first | rfl | (exfalso; have h : (!begP s p) = false := ‹_›; rw [hb] at h; cases h) | (rw [hb]; done) | trace_state)
  · have hl : p.length ≤ s.length := by
      unfold begP at hb
      rw [Bool.and_eq_true] at hb
      have := of_decide_eq_true hb.1; omega
    repeat' ((conv => whnf);first|(with_reducible first|rfl|exact absTF|exact absFT)|exact True.intro|intro _|refine And.intro ?_ ?_|refine Fin.mk ?_|refine W1 rfl ?_ ?_|refine W2 rfl ?_ ?_|refine W3 rfl ?_ ?_|refine W4 ?_ ?_|refine W5 rfl ?_ ?_|refine W6 ?_ ?_|refine AppN.mk ?_|refine X1 (W1 rfl ?_ ?_)|refine X1 (W2 rfl ?_ ?_)|refine X2 (W7 rfl ?_ ?_)|refine X3 (W7 rfl ?_ ?_)|refine X4 (W7 rfl ?_ ?_)|refine X5 (W7 rfl ?_ ?_))
    all_goals (try (conv => whnf))
    all_goals (try first|exact Ob.mk (u8_bnd _)|(refine Ob.mk ?_;first|exact True.intro|assumption|omega|(try simp only [ZA,ZB,ZC,ZD,ZE,ZF,ZG,ZH,ZI,ZJ,ZK,ZL,ZM,ZN,ZO,Int.toNat_natCast,UInt8.ofNat_toNat,cast_eq] at *;omega)))
    all_goals (try first|(show (_:Int) = _;omega)|(show tupSV _ = _;with_unfolding_all rfl)|((first|show (_:Nat) ≤ _|show (_:Nat) ≤ _ ∧ (_:Nat) ≤ _|show (_:Int) ≤ _ ∧ (_:Int) ≤ _ ∧ (_:Int) ≤ _ ∧ (_:Int) ≤ _);(simp <;> omega)))
    all_goals (first | (exfalso; have h : (!begP s p) = true := ‹_›; rw [hb] at h; cases h; done) | (rw [hb]; done) | omega | (simp; done) | trace_state)
instance rCP (s p : List UInt8) : Fn BB 90 [.str s, .str p] True (.tup [.str (if begP s p = true then s.drop p.length else s), .bool (begP s p)]) := by
  refine Fn.intro (N := 11) [0, 1, 4, 5] [] Tryz.call90 Tryz.func90 rfl rfl (by kernel_rfl) (fun hpre => ?_)
  repeat' ((conv => whnf);first|(with_reducible first|rfl|exact absTF|exact absFT)|exact True.intro|intro _|refine And.intro ?_ ?_|refine Fin.mk ?_|refine W1 rfl ?_ ?_|refine W2 rfl ?_ ?_|refine W3 rfl ?_ ?_|refine W4 ?_ ?_|refine W5 rfl ?_ ?_|refine W6 ?_ ?_|refine AppN.mk ?_|refine X1 (W1 rfl ?_ ?_)|refine X1 (W2 rfl ?_ ?_)|refine X2 (W7 rfl ?_ ?_)|refine X3 (W7 rfl ?_ ?_)|refine X4 (W7 rfl ?_ ?_)|refine X5 (W7 rfl ?_ ?_))
  all_goals (try (conv => whnf))
  all_goals (try first|exact Ob.mk (u8_bnd _)|(refine Ob.mk ?_;first|exact True.intro|assumption|omega|(try simp only [ZA,ZB,ZC,ZD,ZE,ZF,ZG,ZH,ZI,ZJ,ZK,ZL,ZM,ZN,ZO,Int.toNat_natCast,UInt8.ofNat_toNat,cast_eq] at *;omega)))
  all_goals (try first|(show (_:Int) = _;omega)|(show tupSV _ = _;with_unfolding_all rfl)|((first|show (_:Nat) ≤ _|show (_:Nat) ≤ _ ∧ (_:Nat) ≤ _|show (_:Int) ≤ _ ∧ (_:Int) ≤ _ ∧ (_:Int) ≤ _ ∧ (_:Int) ≤ _);(simp <;> omega)))
  all_goals trace_state
end Go.Vc

namespace Go.Vc
open Go.Proofs
set_option maxRecDepth 10000
set_option maxHeartbeats 2000000
abbrev Rk := Int × List UInt8 × List UInt8 × Int × Bool
def tokSV (k : Int) (nm da : List UInt8) : SV := .agg [.int .i64 k, .str nm, .nils, .bool false, .str da]
def rkSV (x : Rk) : SV := .tup [tokSV x.1 x.2.1 x.2.2.1, .int .i64 x.2.2.2.1, .bool x.2.2.2.2]
def fdB (s p : List UInt8) : Bool := decide (fnd s p + p.length ≤ s.length)
def ixI (s p : List UInt8) : Int := if fdB s p = true then (fnd s p : Int) else -1
instance rIx (s p : List UInt8) : Fn BB 39 [.str s, .str p] (p ≠ [] ∧ s.length ≤ 1000000) (.int .i64 (ixI s p)) := by
  refine Fn.liftB Tryz.call39 fun hp r β w vs hG m h => ?_
  obtain ⟨rfl, h1, h2⟩ := h.str2
  obtain ⟨mm, hm⟩ := hG.len
  have := Tryz.strings_Index ⟨s.toArray⟩ ⟨p.toArray⟩ mm w (by show s.toArray.size < _; simp; omega) (cellR_at m.vis hm)
  refine ⟨_, this.mono fun e w' hh => ?_, .int⟩
  obtain ⟨rfl, rfl⟩ := hh
  refine ⟨?_, Go.RowKit.Below.refl _ _⟩
  have e := index_fnd s p hp.1
  unfold ixI fdB
  show Ending.returned (Value.int .i64 (Lib.index s p)) = _
  rw [e]
  by_cases q : fnd s p + p.length ≤ s.length <;> simp [q]
instance rUp (s p : List UInt8) : Fn BB 94 [.str s, .str p] (p ≠ [] ∧ s.length ≤ 1000000) (.tup [.str (s.take (fnd s p)), .int .i64 (uN s p), .bool (fdB s p)]) := by
  refine Fn.intro (N := 23) [0, 1, 4, 5, 6, 7, 12] [] Tryz.call94 Tryz.func94 rfl rfl (by kernel_rfl) (fun hpre => ?_)
  have hle := fnd_le s p
  have hun : fdB s p = true → (uN s p = fnd s p + p.length ∧ fnd s p + p.length ≤ s.length) := fun h => by
    have h' := of_decide_eq_true h
    exact ⟨by unfold uN; rw [if_pos h'], h'⟩
  have hun2 : fdB s p = false → uN s p = s.length ∧ s.take (fnd s p) = s := fun h => by
    have h' := of_decide_eq_false h
    refine ⟨by unfold uN; rw [if_neg h'], ?_⟩
    rcases fnd_cases s p hpre.1 with q | q
    · exact absurd q.2 h'
    · rw [q.1, List.take_length]
  cases hf : fdB s p
  · obtain ⟨a1, a2⟩ := hun2 hf
    have hx : ixI s p = -1 := by unfold ixI; rw [hf]; rfl
    repeat' ((conv => whnf);first|(with_reducible first|rfl|exact absTF|exact absFT)|exact True.intro|intro _|refine And.intro ?_ ?_|refine Fin.mk ?_|refine W1 rfl ?_ ?_|refine W2 rfl ?_ ?_|refine W3 rfl ?_ ?_|refine W4 ?_ ?_|refine W5 rfl ?_ ?_|refine W6 ?_ ?_|refine AppN.mk ?_|refine X1 (W1 rfl ?_ ?_)|refine X1 (W2 rfl ?_ ?_)|refine X2 (W7 rfl ?_ ?_)|refine X3 (W7 rfl ?_ ?_)|refine X4 (W7 rfl ?_ ?_)|refine X5 (W7 rfl ?_ ?_))
    all_goals (try (conv => whnf))
    all_goals (try first|exact Ob.mk (u8_bnd _)|(refine Ob.mk ?_;first|exact True.intro|assumption|omega|(try simp only [ZA,ZB,ZC,ZD,ZE,ZF,ZG,ZH,ZI,ZJ,ZK,ZL,ZM,ZN,ZO,Int.toNat_natCast,UInt8.ofNat_toNat,cast_eq] at *;omega)))
    all_goals (try first|(show (_:Int) = _;omega)|(show tupSV _ = _;with_unfolding_all rfl)|((first|show (_:Nat) ≤ _|show (_:Nat) ≤ _ ∧ (_:Nat) ≤ _|show (_:Int) ≤ _ ∧ (_:Int) ≤ _ ∧ (_:Int) ≤ _ ∧ (_:Int) ≤ _);(simp <;> omega)))
    all_goals (simp only [hx] at *)
    all_goals (try (exfalso; exact absurd ‹decide ((-1 : Int) < 0) = false› (by decide)))
    all_goals (first | exact a2.symm | (rw [a1]; done) | exact hf.symm | trace_state)
  · obtain ⟨a1, a2⟩ := hun hf
    have hx : ixI s p = (fnd s p : Int) := by unfold ixI; rw [hf]; rfl
    repeat' ((conv => whnf);first|(with_reducible first|rfl|exact absTF|exact absFT)|exact True.intro|intro _|refine And.intro ?_ ?_|refine Fin.mk ?_|refine W1 rfl ?_ ?_|refine W2 rfl ?_ ?_|refine W3 rfl ?_ ?_|refine W4 ?_ ?_|refine W5 rfl ?_ ?_|refine W6 ?_ ?_|refine AppN.mk ?_|refine X1 (W1 rfl ?_ ?_)|refine X1 (W2 rfl ?_ ?_)|refine X2 (W7 rfl ?_ ?_)|refine X3 (W7 rfl ?_ ?_)|refine X4 (W7 rfl ?_ ?_)|refine X5 (W7 rfl ?_ ?_))
    all_goals (try (conv => whnf))
    all_goals (try first|exact Ob.mk (u8_bnd _)|(refine Ob.mk ?_;first|exact True.intro|assumption|omega|(try simp only [ZA,ZB,ZC,ZD,ZE,ZF,ZG,ZH,ZI,ZJ,ZK,ZL,ZM,ZN,ZO,Int.toNat_natCast,UInt8.ofNat_toNat,cast_eq] at *;omega)))
    all_goals (try first|(show (_:Int) = _;omega)|(show tupSV _ = _;with_unfolding_all rfl)|((first|show (_:Nat) ≤ _|show (_:Nat) ≤ _ ∧ (_:Nat) ≤ _|show (_:Int) ≤ _ ∧ (_:Int) ≤ _ ∧ (_:Int) ≤ _ ∧ (_:Int) ≤ _);(simp <;> omega)))
    all_goals (simp only [hx, Int.toNat_natCast] at *)
    all_goals (try (exfalso; have h := of_decide_eq_true ‹decide ((fnd s p : Int) < 0) = true›; omega))
    all_goals (first | rfl | (constructor <;> omega) | omega | exact hf.symm | trace_state)
end Go.Vc

namespace Go.Vc
set_option autoImplicit false
theorem ixAny_take (cs s : List UInt8) : (0 ≤ Lib.indexAny s cs ∧ s.take (Lib.indexAny s cs).toNat = s.takeWhile (fun c => !cs.contains c)) ∨ (Lib.indexAny s cs = -1 ∧ s.takeWhile (fun c => !cs.contains c) = s) := by
  induction s with
  | nil => right; exact ⟨rfl, rfl⟩
  | cons b l ih =>
    unfold Lib.indexAny
    cases h : cs.contains b with
    | true => left; simp only [if_true]; refine ⟨by omega, ?_⟩; rw [List.takeWhile_cons, h]; rfl
    | false =>
      simp only [Bool.false_eq_true, if_false]
      rcases ih with ⟨h1, h2⟩ | ⟨h1, h2⟩
      · left
        have e : (Lib.indexAny l cs == -1) = false := beq_eq_false_iff_ne.2 (by omega)
        rw [e]
        simp only [Bool.false_eq_true, if_false]
        refine ⟨by omega, ?_⟩
        have : (Lib.indexAny l cs + 1).toNat = (Lib.indexAny l cs).toNat + 1 := by omega
        rw [this, List.take_succ_cons, h2, List.takeWhile_cons, h]
        rfl
      · right
        rw [h1]
        refine ⟨rfl, ?_⟩
        rw [List.takeWhile_cons, h, h2]
        rfl
end Go.Vc

namespace Go.Vc
set_option autoImplicit false
theorem decN_hi (n b0 b1 b2 b3 : Nat) (h : 128 ≤ b0) (h0 : b0 < 256) (hn : 1 ≤ n) : 128 ≤ (Lib.decodeN n b0 b1 b2 b3).1 ∧ 1 ≤ (Lib.decodeN n b0 b1 b2 b3).2 ∧ (Lib.decodeN n b0 b1 b2 b3).2 ≤ 4 ∧ (Lib.decodeN n b0 b1 b2 b3).2 ≤ n ∧ (2 ≤ (Lib.decodeN n b0 b1 b2 b3).2 → 128 ≤ b1) ∧ (3 ≤ (Lib.decodeN n b0 b1 b2 b3).2 → 128 ≤ b2) ∧ (4 ≤ (Lib.decodeN n b0 b1 b2 b3).2 → 128 ≤ b3) := by
  unfold Lib.decodeN
  rw [if_neg (by omega)]
  repeat' split
  all_goals (simp only []; omega)
theorem decL_at (l : List UInt8) : Lib.decodeL l = Lib.decodeN l.length (l.getD 0 0).toNat (l.getD 1 0).toNat (l.getD 2 0).toNat (l.getD 3 0).toNat := by
  unfold Lib.decodeL
  rw [Lib.decode_at]
  have hs : (⟨l.toArray⟩ : ByteArray).size = l.length := by show l.toArray.size = _; simp
  have hg : ∀ k, (⟨l.toArray⟩ : ByteArray).get! k = l.getD k 0 := fun k => by
    show l.toArray[k]! = _
    simp [List.getD]; rfl
  rw [hs, hg, hg, hg, hg]; rfl
theorem dec_from (l : List UInt8) (i : Nat) : Utf8.decode ⟨l.toArray⟩ i = Lib.decodeL (l.drop i) := by
  rw [decL_at, Lib.decode_at]
  have hs : (⟨l.toArray⟩ : ByteArray).size - i = (l.drop i).length := by
    show l.toArray.size - i = _
    simp
  have hg : ∀ k, (⟨l.toArray⟩ : ByteArray).get! (i + k) = (l.drop i).getD k 0 := fun k => by
    show l.toArray[i + k]! = _
    simp [List.getD]; rfl
  rw [hs, show (⟨l.toArray⟩ : ByteArray).get! i = (l.drop i).getD 0 0 from hg 0, hg, hg, hg]
theorem decL_low (l : List UInt8) (h : (l.getD 0 0).toNat < 128) : Lib.decodeL l = ((l.getD 0 0).toNat, 1) := by
  rw [decL_at]; unfold Lib.decodeN; rw [if_pos h]
theorem decL_hi (l : List UInt8) (hne : l ≠ []) (h : 128 ≤ (l.getD 0 0).toNat) : 128 ≤ (Lib.decodeL l).1 ∧ 1 ≤ (Lib.decodeL l).2 ∧ (Lib.decodeL l).2 ≤ l.length ∧ ∀ j < (Lib.decodeL l).2, 128 ≤ (l.getD j 0).toNat := by
  rw [decL_at]
  have := decN_hi l.length (l.getD 0 0).toNat (l.getD 1 0).toNat (l.getD 2 0).toNat (l.getD 3 0).toNat h (UInt8.toNat_lt _) (List.length_pos_iff.mpr hne)
  obtain ⟨a, b, c, d, e, f, g⟩ := this
  refine ⟨a, b, d, fun j hj => ?_⟩
  have : j = 0 ∨ j = 1 ∨ j = 2 ∨ j = 3 := by omega
  rcases this with rfl | rfl | rfl | rfl
  · exact h
  · exact e (by omega)
  · exact f (by omega)
  · exact g (by omega)
theorem dec_place (s : List UInt8) (p : Nat) (hp : p < s.length) :
    ((s.getD p 0).toNat < 128 ∧ Utf8.decode ⟨s.toArray⟩ p = ((s.getD p 0).toNat, 1)) ∨
    (128 ≤ (s.getD p 0).toNat ∧ 128 ≤ (Utf8.decode ⟨s.toArray⟩ p).1 ∧ 1 ≤ (Utf8.decode ⟨s.toArray⟩ p).2 ∧ p + (Utf8.decode ⟨s.toArray⟩ p).2 ≤ s.length ∧ ∀ j, p ≤ j → j < p + (Utf8.decode ⟨s.toArray⟩ p).2 → 128 ≤ (s.getD j 0).toNat) := by
  have hd : ∀ k, (s.drop p).getD k 0 = s.getD (p + k) 0 := fun k => by simp [List.getD]
  rw [dec_from]
  by_cases h : (s.getD p 0).toNat < 128
  · left
    have := decL_low (s.drop p) (by rw [hd]; exact h)
    rw [hd] at this
    exact ⟨h, this⟩
  · right
    have hne : s.drop p ≠ [] := fun q => by have := congrArg List.length q; rw [List.length_drop] at this; simp at this; omega
    have := decL_hi (s.drop p) hne (by rw [hd]; show 128 ≤ (s.getD p 0).toNat; omega)
    rw [List.length_drop] at this
    refine ⟨by omega, this.1, this.2.1, by omega, fun j h1 h2 => ?_⟩
    have := this.2.2.2 (j - p) (by omega)
    rw [hd, show p + (j - p) = j by omega] at this
    exact this
theorem index_none (l : List UInt8) (c : UInt8) (h : ∀ b ∈ l, b ≠ c) : Lib.indexByte l c = -1 := by
  induction l with
  | nil => rfl
  | cons x r ih =>
    have h1 := h x (by simp)
    have h2 := ih fun b hb => h b (by simp [hb])
    unfold Lib.indexByte
    rw [if_neg (by simpa using h1), h2]; rfl
theorem index_mem (l : List UInt8) (c : UInt8) : decide (Lib.indexByte l c ≥ 0) = l.contains c := by
  induction l with
  | nil => rfl
  | cons x r ih =>
    unfold Lib.indexByte
    rw [List.contains_cons]
    have hg := Lib.indexByte_ge r c
    by_cases h : x = c
    · subst h; simp
    · have e : (x == c) = false := beq_eq_false_iff_ne.2 h
      have e' : (c == x) = false := beq_eq_false_iff_ne.2 (fun q => h q.symm)
      rw [e, e', Bool.false_or, ← ih]
      simp only [Bool.false_eq_true, if_false]
      by_cases q : Lib.indexByte r c = -1
      · rw [q]; rfl
      · have : (Lib.indexByte r c == -1) = false := beq_eq_false_iff_ne.2 q
        rw [this]
        simp only [Bool.false_eq_true, if_false]
        rw [Bool.eq_iff_iff]; simp; omega
end Go.Vc

namespace Go.Vc
open Go.Proofs
set_option maxRecDepth 10000
set_option maxHeartbeats 8000000
def ascB (cs : List UInt8) : Bool := cs.all fun b => decide (b.toNat < 128)
theorem ascB_mem {cs : List UInt8} (h : ascB cs = true) {b : UInt8} (hb : b ∈ cs) : b.toNat < 128 := by
  have := List.all_eq_true.1 h b hb
  exact of_decide_eq_true this
theorem ascB_get {cs : List UInt8} (h : ascB cs = true) (i : Nat) : (cs.getD i 0).toNat < 128 := by
  rcases Nat.lt_or_ge i cs.length with q | q
  · rw [List.getD_eq_getElem?_getD, List.getElem?_eq_getElem q]; exact ascB_mem h (List.getElem_mem q)
  · rw [List.getD_eq_getElem?_getD, List.getElem?_eq_none q]; decide
def irC (cs : List UInt8) (r : Int) : Int := if 0 ≤ r ∧ r < 128 then Lib.indexByte cs r.toNat.toUInt8 else -1
theorem encR' (r : Int) (h : 128 ≤ r) (hv : Utf8.valid r = true) : 2 ≤ (Utf8.encode r).data.toList.length ∧ (Utf8.encode r).data.toList.length ≤ 4 ∧ 128 ≤ ((Utf8.encode r).data.toList.getD ((Utf8.encode r).data.toList.length - 1) 0).toNat := by
  unfold Utf8.encode
  rw [if_pos hv]
  dsimp only
  rw [if_neg (by omega)]
  have key : ∀ x : Nat, 128 ≤ (UInt8.ofNat (128 + x % 64)).toNat := fun x => by rw [UInt8.toNat_ofNat']; omega
  split
  · exact ⟨by simp, by simp, key _⟩
  · split
    · exact ⟨by simp, by simp, key _⟩
    · exact ⟨by simp, by simp, key _⟩
theorem okR_valid' (r : Int) : okR r = Utf8.valid r := by
  unfold okR Utf8.valid
  rw [Bool.eq_iff_iff]
  simp only [Bool.or_eq_true, Bool.and_eq_true, decide_eq_true_eq]
  omega
instance fIRc (cs : List UInt8) (r : Int) : Fn BB 117 [.str cs, .int .i32 r] (ascB cs = true ∧ cs.length ≤ 1000) (.int .i64 (irC cs r)) := by
  refine Fn.intro (N := 187) [0, 1, 4, 5, 6, 7, 8, 9, 10, 11, 12, 13, 14, 15, 16, 26, 33, 43, 51, 64, 98, 108, 124, 139, 143, 156, 160, 171, 175, 176, 177, 181, 183] [(6, [0, 0, 0, 0, 0, 0, 0]), (7, [0, 0, 0, 0, 0, 0, 0, 3, 3]), (14, [0, 0, 0, 0, 0, 0, 0, 0, 0, 0, 0]), (31, [0, 0, 0, 0, 0, 0, 0, 0, 0, 0, 0])] Tryz.call117 Tryz.func117 rfl rfl (by kernel_rfl) (fun hpre => ?_)
  obtain ⟨hp1, hp2⟩ := hpre
  repeat' ((conv => whnf);first|(with_reducible first|rfl|exact absTF|exact absFT)|exact True.intro|intro _|refine And.intro ?_ ?_|refine Fin.mk ?_|refine W1 rfl ?_ ?_|refine W2 rfl ?_ ?_|refine W3 rfl ?_ ?_|refine W4 ?_ ?_|refine W5 rfl ?_ ?_|refine W6 ?_ ?_|refine AppN.mk ?_|refine X1 (W1 rfl ?_ ?_)|refine X1 (W2 rfl ?_ ?_)|refine X2 (W7 rfl ?_ ?_)|refine X3 (W7 rfl ?_ ?_)|refine X4 (W7 rfl ?_ ?_)|refine X5 (W7 rfl ?_ ?_))
  all_goals (try (conv => whnf))
  all_goals (try first|exact Ob.mk (u8_bnd _)|(refine Ob.mk ?_;first|exact True.intro|assumption|omega|(try simp only [ZA,ZB,ZC,ZD,ZE,ZF,ZG,ZH,ZI,ZJ,ZK,ZL,ZM,ZN,ZO,Int.toNat_natCast,UInt8.ofNat_toNat,cast_eq] at *;omega)))
  all_goals (try first|(show (_:Int) = _;omega)|(show tupSV _ = _;with_unfolding_all rfl)|((first|show (_:Nat) ≤ _|show (_:Nat) ≤ _ ∧ (_:Nat) ≤ _|show (_:Int) ≤ _ ∧ (_:Int) ≤ _ ∧ (_:Int) ≤ _ ∧ (_:Int) ≤ _);(simp <;> omega)))
  · have h : 0 ≤ r ∧ r < 128 := by simpa using ‹(decide (0 ≤ r) && decide (r < 128)) = true›
    have e : IntKind.u8.wrap r = r := wrap8 r (by omega)
    unfold irC
    rw [if_pos h, e]
  · refine LoopStop.mk (α := Nat) (fun p => []) (fun p => [(0, .iter cs p)]) 20 (fun p => p ≤ cs.length) (fun p => cs.length - p) 0 (by omega) ?_ (fun p hp => ?_)
    · repeat' ((conv => whnf);first|(with_reducible first|rfl|exact absTF|exact absFT)|exact True.intro|intro _|refine And.intro ?_ ?_|refine Fin.mk ?_|refine W1 rfl ?_ ?_|refine W2 rfl ?_ ?_|refine W3 rfl ?_ ?_|refine W4 ?_ ?_|refine W5 rfl ?_ ?_|refine W6 ?_ ?_|refine AppN.mk ?_|refine X1 (W1 rfl ?_ ?_)|refine X1 (W2 rfl ?_ ?_)|refine X2 (W7 rfl ?_ ?_)|refine X3 (W7 rfl ?_ ?_)|refine X4 (W7 rfl ?_ ?_)|refine X5 (W7 rfl ?_ ?_))
      all_goals (try (conv => whnf))
      all_goals (try first|exact Ob.mk (u8_bnd _)|(refine Ob.mk ?_;first|exact True.intro|assumption|omega|(try simp only [ZA,ZB,ZC,ZD,ZE,ZF,ZG,ZH,ZI,ZJ,ZK,ZL,ZM,ZN,ZO,Int.toNat_natCast,UInt8.ofNat_toNat,cast_eq] at *;omega)))
      all_goals (try first|(show (_:Int) = _;omega)|(show tupSV _ = _;with_unfolding_all rfl)|((first|show (_:Nat) ≤ _|show (_:Nat) ≤ _ ∧ (_:Nat) ≤ _|show (_:Int) ≤ _ ∧ (_:Int) ≤ _ ∧ (_:Int) ≤ _ ∧ (_:Int) ≤ _);(simp <;> omega)))
      all_goals rfl
    · have h : r = 65533 := by simpa using ‹(r == 65533) = true›
      have key : p < cs.length → decL cs p = ((cs.getD p 0).toNat, 1) := fun hl => by
        rcases dec_place cs p hl with q | q
        · exact q.2
        · have := ascB_get hp1 p; omega
      have hlow := ascB_get hp1 p
      repeat' ((conv => whnf);first|(with_reducible first|rfl|exact absTF|exact absFT)|exact True.intro|intro _|refine And.intro ?_ ?_|refine Fin.mk ?_|refine W1 rfl ?_ ?_|refine W2 rfl ?_ ?_|refine W3 rfl ?_ ?_|refine W4 ?_ ?_|refine W5 rfl ?_ ?_|refine W6 ?_ ?_|refine AppN.mk ?_|refine X1 (W1 rfl ?_ ?_)|refine X1 (W2 rfl ?_ ?_)|refine X2 (W7 rfl ?_ ?_)|refine X3 (W7 rfl ?_ ?_)|refine X4 (W7 rfl ?_ ?_)|refine X5 (W7 rfl ?_ ?_))
      all_goals (try (conv => whnf))
      all_goals (try first|exact Ob.mk (u8_bnd _)|(refine Ob.mk ?_;first|exact True.intro|assumption|omega|(try simp only [ZA,ZB,ZC,ZD,ZE,ZF,ZG,ZH,ZI,ZJ,ZK,ZL,ZM,ZN,ZO,Int.toNat_natCast,UInt8.ofNat_toNat,cast_eq] at *;omega)))
      all_goals (try first|(show (_:Int) = _;omega)|(show tupSV _ = _;with_unfolding_all rfl)|((first|show (_:Nat) ≤ _|show (_:Nat) ≤ _ ∧ (_:Nat) ≤ _|show (_:Int) ≤ _ ∧ (_:Int) ≤ _ ∧ (_:Int) ≤ _ ∧ (_:Int) ≤ _);(simp <;> omega)))
      · have hl : p < cs.length := ‹_›
        have hh : ((decL cs p).1 : Int) = 65533 := by simpa using ‹(((decL cs p).fst : Int) == 65533) = true›
        rw [key hl] at hh
        simp only at hh
        omega
      · have hl : p < cs.length := ‹_›
        refine Rnd.mk ⟨p + 1, by omega, by omega, ?_⟩
        repeat' ((conv => whnf);first|(with_reducible first|rfl|exact absTF|exact absFT)|exact True.intro|intro _|refine And.intro ?_ ?_|refine Fin.mk ?_|refine W1 rfl ?_ ?_|refine W2 rfl ?_ ?_|refine W3 rfl ?_ ?_|refine W4 ?_ ?_|refine W5 rfl ?_ ?_|refine W6 ?_ ?_|refine AppN.mk ?_|refine X1 (W1 rfl ?_ ?_)|refine X1 (W2 rfl ?_ ?_)|refine X2 (W7 rfl ?_ ?_)|refine X3 (W7 rfl ?_ ?_)|refine X4 (W7 rfl ?_ ?_)|refine X5 (W7 rfl ?_ ?_))
        all_goals (try (conv => whnf))
        all_goals (try first|exact Ob.mk (u8_bnd _)|(refine Ob.mk ?_;first|exact True.intro|assumption|omega|(try simp only [ZA,ZB,ZC,ZD,ZE,ZF,ZG,ZH,ZI,ZJ,ZK,ZL,ZM,ZN,ZO,Int.toNat_natCast,UInt8.ofNat_toNat,cast_eq] at *;omega)))
        all_goals (try first|(show (_:Int) = _;omega)|(show tupSV _ = _;with_unfolding_all rfl)|((first|show (_:Nat) ≤ _|show (_:Nat) ≤ _ ∧ (_:Nat) ≤ _|show (_:Int) ≤ _ ∧ (_:Int) ≤ _ ∧ (_:Int) ≤ _ ∧ (_:Int) ≤ _);(simp <;> omega)))
        all_goals (first | rfl | (rw [key hl]) | skip)
      · unfold irC; rw [if_neg (by omega)]
  · have h : (decide (0 ≤ r) && decide (r < 128)) = false := ‹_›
    have : ¬ (0 ≤ r ∧ r < 128) := fun q => by simp [q.1, q.2] at h
    unfold irC; rw [if_neg this]
  · have h : (decide (0 ≤ r) && decide (r < 128)) = false := ‹_›
    have hk : (!okR r) = false := ‹_›
    have hn : ¬ (0 ≤ r ∧ r < 128) := fun q => by simp [q.1, q.2] at h
    have e0 : irC cs r = -1 := by unfold irC; rw [if_neg hn]
    rw [e0]
    have hv : Utf8.valid r = true := by rw [← okR_valid']; simpa using hk
    have h128 : 128 ≤ r := by
      have h0 : 0 ≤ r := by unfold Utf8.valid at hv; simp at hv; omega
      omega
    have key := encR' r h128 hv
    generalize (Utf8.encode r).data.toList = L at *
    obtain ⟨k1, k2, k3⟩ := key
    refine LoopStop.mk (α := Unit) (fun p => [(9, .int .i64 ((L.length : Int) - 1)), (10, .int .i64 0)]) (fun p => []) 20 (fun p => True) (fun p => 0) () True.intro ?_ (fun p hp => ?_)
    · repeat' ((conv => whnf);first|(with_reducible first|rfl|exact absTF|exact absFT)|exact True.intro|intro _|refine And.intro ?_ ?_|refine Fin.mk ?_|refine W1 rfl ?_ ?_|refine W2 rfl ?_ ?_|refine W3 rfl ?_ ?_|refine W4 ?_ ?_|refine W5 rfl ?_ ?_|refine W6 ?_ ?_|refine AppN.mk ?_|refine X1 (W1 rfl ?_ ?_)|refine X1 (W2 rfl ?_ ?_)|refine X2 (W7 rfl ?_ ?_)|refine X3 (W7 rfl ?_ ?_)|refine X4 (W7 rfl ?_ ?_)|refine X5 (W7 rfl ?_ ?_))
      all_goals (try (conv => whnf))
      all_goals (try first|exact Ob.mk (u8_bnd _)|(refine Ob.mk ?_;first|exact True.intro|assumption|omega|(try simp only [ZA,ZB,ZC,ZD,ZE,ZF,ZG,ZH,ZI,ZJ,ZK,ZL,ZM,ZN,ZO,Int.toNat_natCast,UInt8.ofNat_toNat,cast_eq] at *;omega)))
      all_goals (try first|(show (_:Int) = _;omega)|(show tupSV _ = _;with_unfolding_all rfl)|((first|show (_:Nat) ≤ _|show (_:Nat) ≤ _ ∧ (_:Nat) ≤ _|show (_:Int) ≤ _ ∧ (_:Int) ≤ _ ∧ (_:Int) ≤ _ ∧ (_:Int) ≤ _);(simp <;> omega)))
      all_goals rfl
    · have el : ((L.length : Int) - 1).toNat = L.length - 1 := by omega
      have kneg : ∀ (x : Int) (cs' : List UInt8), (∀ b ∈ cs', b.toNat < 128) → 128 ≤ x.toNat ∧ x.toNat < 256 → Lib.indexByte cs' x.toNat.toUInt8 = -1 := fun x cs' hc hx => by
        refine index_none _ _ fun b hb q => ?_
        have := hc b hb
        rw [q] at this
        simp at this
        omega
      have kdrop : ∀ i, ∀ b ∈ cs.drop i, b.toNat < 128 := fun i b hb => ascB_mem hp1 (List.mem_of_mem_drop hb)
      have kb := UInt8.toNat_lt (L.getD (L.length - 1) 0)
      have kne : ((cs.getD ((L.length : Int) - 1).toNat 0).toNat : Int) ≠ ((L.getD ((L.length : Int) - 1).toNat 0).toNat : Int) := by
        have := ascB_get hp1 ((L.length : Int) - 1).toNat
        rw [el] at this ⊢
        omega
      have kx := kneg ((L.getD ((L.length : Int) - 1).toNat 0).toNat : Int) _ (kdrop ((L.length : Int) - 1 + 1).toNat) (by rw [el]; simp only [Int.toNat_natCast]; omega)
      repeat' ((conv => whnf);first|(with_reducible first|rfl|exact absTF|exact absFT)|exact True.intro|intro _|refine And.intro ?_ ?_|refine Fin.mk ?_|refine W1 rfl ?_ ?_|refine W2 rfl ?_ ?_|refine W3 rfl ?_ ?_|refine W4 ?_ ?_|refine W5 rfl ?_ ?_|refine W6 ?_ ?_|refine AppN.mk ?_|refine X1 (W1 rfl ?_ ?_)|refine X1 (W2 rfl ?_ ?_)|refine X2 (W7 rfl ?_ ?_)|refine X3 (W7 rfl ?_ ?_)|refine X4 (W7 rfl ?_ ?_)|refine X5 (W7 rfl ?_ ?_))
      all_goals (try (conv => whnf))
      all_goals (try first|exact Ob.mk (u8_bnd _)|(refine Ob.mk ?_;first|exact True.intro|assumption|omega|(try simp only [ZA,ZB,ZC,ZD,ZE,ZF,ZG,ZH,ZI,ZJ,ZK,ZL,ZM,ZN,ZO,Int.toNat_natCast,UInt8.ofNat_toNat,cast_eq] at *;omega)))
      all_goals (try first|(show (_:Int) = _;omega)|(show tupSV _ = _;with_unfolding_all rfl)|((first|show (_:Nat) ≤ _|show (_:Nat) ≤ _ ∧ (_:Nat) ≤ _|show (_:Int) ≤ _ ∧ (_:Int) ≤ _ ∧ (_:Int) ≤ _ ∧ (_:Int) ≤ _);(simp <;> omega)))
      all_goals (try (exfalso; rw [kx] at *; revert ‹decide ((-1 : Int) < 0) = false›; decide))
      all_goals (try (exfalso; exact kne (bne_eq_false_iff_eq.1 ‹_›)))
      refine ScopeStop.straight ?_
      repeat' ((conv => whnf);first|(with_reducible first|rfl|exact absTF|exact absFT)|exact True.intro|intro _|refine And.intro ?_ ?_|refine Fin.mk ?_|refine W1 rfl ?_ ?_|refine W2 rfl ?_ ?_|refine W3 rfl ?_ ?_|refine W4 ?_ ?_|refine W5 rfl ?_ ?_|refine W6 ?_ ?_|refine AppN.mk ?_|refine X1 (W1 rfl ?_ ?_)|refine X1 (W2 rfl ?_ ?_)|refine X2 (W7 rfl ?_ ?_)|refine X3 (W7 rfl ?_ ?_)|refine X4 (W7 rfl ?_ ?_)|refine X5 (W7 rfl ?_ ?_))
      all_goals (try (conv => whnf))
      all_goals (try first|exact Ob.mk (u8_bnd _)|(refine Ob.mk ?_;first|exact True.intro|assumption|omega|(try simp only [ZA,ZB,ZC,ZD,ZE,ZF,ZG,ZH,ZI,ZJ,ZK,ZL,ZM,ZN,ZO,Int.toNat_natCast,UInt8.ofNat_toNat,cast_eq] at *;omega)))
      all_goals (try first|(show (_:Int) = _;omega)|(show tupSV _ = _;with_unfolding_all rfl)|((first|show (_:Nat) ≤ _|show (_:Nat) ≤ _ ∧ (_:Nat) ≤ _|show (_:Int) ≤ _ ∧ (_:Int) ≤ _ ∧ (_:Int) ≤ _ ∧ (_:Int) ≤ _);(simp <;> omega)))
      all_goals (try (exfalso; rw [kx] at *; revert ‹decide ((-1 : Int) < 0) = false›; decide))
      all_goals (try (exfalso; exact kne (bne_eq_false_iff_eq.1 ‹_›)))
      all_goals trace_state
instance fSU (n : Int) : Fn BB 118 [.int .i64 n] True (.bool (decide (n > 8))) := by
  refine Fn.intro (N := 5) [0, 2] [] Tryz.call118 Tryz.func118 rfl rfl (by kernel_rfl) (fun hpre => ?_)
  repeat' ((conv => whnf);first|(with_reducible first|rfl|exact absTF|exact absFT)|exact True.intro|intro _|refine And.intro ?_ ?_|refine Fin.mk ?_|refine W1 rfl ?_ ?_|refine W2 rfl ?_ ?_|refine W3 rfl ?_ ?_|refine W4 ?_ ?_|refine W5 rfl ?_ ?_|refine W6 ?_ ?_|refine AppN.mk ?_|refine X1 (W1 rfl ?_ ?_)|refine X1 (W2 rfl ?_ ?_)|refine X2 (W7 rfl ?_ ?_)|refine X3 (W7 rfl ?_ ?_)|refine X4 (W7 rfl ?_ ?_)|refine X5 (W7 rfl ?_ ?_))
  all_goals (try (conv => whnf))
  all_goals (try first|exact Ob.mk (u8_bnd _)|(refine Ob.mk ?_;first|exact True.intro|assumption|omega|(try simp only [ZA,ZB,ZC,ZD,ZE,ZF,ZG,ZH,ZI,ZJ,ZK,ZL,ZM,ZN,ZO,Int.toNat_natCast,UInt8.ofNat_toNat,cast_eq] at *;omega)))
  all_goals (try first|(show (_:Int) = _;omega)|(show tupSV _ = _;with_unfolding_all rfl)|((first|show (_:Nat) ≤ _|show (_:Nat) ≤ _ ∧ (_:Nat) ≤ _|show (_:Int) ≤ _ ∧ (_:Int) ≤ _ ∧ (_:Int) ≤ _ ∧ (_:Int) ≤ _);(simp <;> omega)))
end Go.Vc

namespace Go.Vc
open Go.Proofs
set_option maxRecDepth 10000
set_option maxHeartbeats 8000000
theorem irC_low (cs : List UInt8) (b : UInt8) (h : b.toNat < 128) : decide (irC cs (b.toNat : Int) ≥ 0) = cs.contains b := by
  unfold irC
  rw [if_pos (by omega), ← index_mem]
  simp
theorem irC_hi (cs : List UInt8) (r : Int) (h : 128 ≤ r) : decide (irC cs r ≥ 0) = false := by
  unfold irC; rw [if_neg (by omega)]; rfl
theorem noAny_more {s cs : List UInt8} {p q : Nat} (hcs : ascB cs = true) (h : Lib.NoAny s cs p) (hh : ∀ j, p ≤ j → j < q → 128 ≤ (s.getD j 0).toNat) : Lib.NoAny s cs q := by
  intro j b hj hs
  rcases Nat.lt_or_ge j p with c | c
  · exact h j b c hs
  · have := hh j c hj
    have e : s.getD j 0 = b := by simp [List.getD, hs]
    rw [e] at this
    rw [Bool.eq_false_iff]
    intro hc
    rw [List.contains_iff_mem] at hc
    have := ascB_mem hcs hc
    omega
theorem fIAsc (s cs : List UInt8) : Fn BB 107 [.str s, .str cs] (s.length ≤ 8 ∧ 2 ≤ cs.length ∧ cs.length ≤ 1000 ∧ ascB cs = true) (.int .i64 (Lib.indexAny s cs)) := by
  refine Fn.intro (N := 55) [0, 1, 4, 5, 6, 7, 8, 9, 10, 12, 15, 20, 26, 32, 36, 42, 45, 46, 47, 53] [] Tryz.call107 Tryz.func107 rfl rfl (by kernel_rfl) (fun hpre => ?_)
  obtain ⟨hp1, hp2, hp3, hp4⟩ := hpre
  repeat' ((conv => whnf);first|(with_reducible first|rfl|exact absTF|exact absFT)|exact True.intro|(intro hq; (try simp only [ZA,ZB,ZC,ZD,ZE,ZF,ZG,ZH,ZI,ZJ,ZK,ZL,ZM,ZN,ZO,Bool.and_eq_false_iff,Bool.or_eq_false_iff,ge_iff_le,gt_iff_lt,Int.toNat_natCast,UInt8.ofNat_toNat,cast_eq] at hq); (try (exfalso; first | omega | exact hq trivial | exact absurd hq (by decide))))|refine And.intro ?_ ?_|refine Fin.mk ?_|refine W1 rfl ?_ ?_|refine W2 rfl ?_ ?_|refine W3 rfl ?_ ?_|refine W4 ?_ ?_|refine W5 rfl ?_ ?_|refine W6 ?_ ?_|refine AppN.mk ?_|refine X1 (W1 rfl ?_ ?_)|refine X1 (W2 rfl ?_ ?_)|refine X2 (W7 rfl ?_ ?_)|refine X3 (W7 rfl ?_ ?_)|refine X4 (W7 rfl ?_ ?_)|refine X5 (W7 rfl ?_ ?_))
  all_goals (try (conv => whnf))
  all_goals (try first|exact Ob.mk (u8_bnd _)|(refine Ob.mk ?_;first|exact True.intro|assumption|omega|(try simp only [ZA,ZB,ZC,ZD,ZE,ZF,ZG,ZH,ZI,ZJ,ZK,ZL,ZM,ZN,ZO,Int.toNat_natCast,UInt8.ofNat_toNat,cast_eq] at *;omega)))
  all_goals (try first|(show (_:Int) = _;omega)|(show tupSV _ = _;with_unfolding_all rfl)|((first|show (_:Nat) ≤ _|show (_:Nat) ≤ _ ∧ (_:Nat) ≤ _|show (_:Int) ≤ _ ∧ (_:Int) ≤ _ ∧ (_:Int) ≤ _ ∧ (_:Int) ≤ _);(simp <;> omega)))
  · exfalso; simp_all
  refine LoopStop.mk (α := Nat) (fun p => []) (fun p => [(0, .iter s p)]) 20 (fun p => p ≤ s.length ∧ Lib.NoAny s cs p) (fun p => s.length - p) 0 ⟨by omega, Lib.NoAny.zero _ _⟩ ?_ (fun p hp => ?_)
  · repeat' ((conv => whnf);first|(with_reducible first|rfl|exact absTF|exact absFT)|exact True.intro|intro _|refine And.intro ?_ ?_|refine Fin.mk ?_|refine W1 rfl ?_ ?_|refine W2 rfl ?_ ?_|refine W3 rfl ?_ ?_|refine W4 ?_ ?_|refine W5 rfl ?_ ?_|refine W6 ?_ ?_|refine AppN.mk ?_|refine X1 (W1 rfl ?_ ?_)|refine X1 (W2 rfl ?_ ?_)|refine X2 (W7 rfl ?_ ?_)|refine X3 (W7 rfl ?_ ?_)|refine X4 (W7 rfl ?_ ?_)|refine X5 (W7 rfl ?_ ?_))
    all_goals (try (conv => whnf))
    all_goals (try first|exact Ob.mk (u8_bnd _)|(refine Ob.mk ?_;first|exact True.intro|assumption|omega|(try simp only [ZA,ZB,ZC,ZD,ZE,ZF,ZG,ZH,ZI,ZJ,ZK,ZL,ZM,ZN,ZO,Int.toNat_natCast,UInt8.ofNat_toNat,cast_eq] at *;omega)))
    all_goals (try first|(show (_:Int) = _;omega)|(show tupSV _ = _;with_unfolding_all rfl)|((first|show (_:Nat) ≤ _|show (_:Nat) ≤ _ ∧ (_:Nat) ≤ _|show (_:Int) ≤ _ ∧ (_:Int) ≤ _ ∧ (_:Int) ≤ _ ∧ (_:Int) ≤ _);(simp <;> omega)))
    all_goals rfl
  · obtain ⟨q1, q3⟩ := hp
    have hget : p < s.length → s[p]? = some (s.getD p 0) := fun hl => by simp [List.getD, List.getElem?_eq_getElem hl]
    have key : p < s.length → ((s.getD p 0).toNat < 128 ∧ decL s p = ((s.getD p 0).toNat, 1)) ∨ (128 ≤ (s.getD p 0).toNat ∧ 128 ≤ (decL s p).1 ∧ 1 ≤ (decL s p).2 ∧ p + (decL s p).2 ≤ s.length ∧ ∀ j, p ≤ j → j < p + (decL s p).2 → 128 ≤ (s.getD j 0).toNat) := fun hl => dec_place s p hl
    repeat' ((conv => whnf);first|(with_reducible first|rfl|exact absTF|exact absFT)|exact True.intro|intro _|refine And.intro ?_ ?_|refine Fin.mk ?_|refine W1 rfl ?_ ?_|refine W2 rfl ?_ ?_|refine W3 rfl ?_ ?_|refine W4 ?_ ?_|refine W5 rfl ?_ ?_|refine W6 ?_ ?_|refine AppN.mk ?_|refine X1 (W1 rfl ?_ ?_)|refine X1 (W2 rfl ?_ ?_)|refine X2 (W7 rfl ?_ ?_)|refine X3 (W7 rfl ?_ ?_)|refine X4 (W7 rfl ?_ ?_)|refine X5 (W7 rfl ?_ ?_))
    all_goals (try (conv => whnf))
    all_goals (try first|exact Ob.mk (u8_bnd _)|(refine Ob.mk ?_;first|exact True.intro|assumption|omega|(try simp only [ZA,ZB,ZC,ZD,ZE,ZF,ZG,ZH,ZI,ZJ,ZK,ZL,ZM,ZN,ZO,Int.toNat_natCast,UInt8.ofNat_toNat,cast_eq] at *;omega)))
    all_goals (try first|(show (_:Int) = _;omega)|(show tupSV _ = _;with_unfolding_all rfl)|((first|show (_:Nat) ≤ _|show (_:Nat) ≤ _ ∧ (_:Nat) ≤ _|show (_:Int) ≤ _ ∧ (_:Int) ≤ _ ∧ (_:Int) ≤ _ ∧ (_:Int) ≤ _);(simp <;> omega)))
    · exact ⟨hp4, hp3⟩
    · have hl : p < s.length := ‹_›
      have hq : decide (irC cs ((decL s p).1 : Int) ≥ 0) = true := ‹_›
      rcases key hl with ⟨k1, k2⟩ | ⟨k1, k2, _⟩
      · rw [k2, irC_low cs _ k1] at hq
        exact (Lib.indexAny_hit q3 (hget hl) hq).symm
      · rw [irC_hi cs _ (by omega)] at hq; cases hq
    · have hl : p < s.length := ‹_›
      have hq : decide (irC cs ((decL s p).1 : Int) ≥ 0) = false := ‹_›
      refine Rnd.mk ⟨p + (decL s p).2, ?_, ?_, ?_⟩
      · rcases key hl with ⟨k1, k2⟩ | ⟨k1, k2, k3, k4, k5⟩
        · rw [k2, irC_low cs _ k1] at hq
          rw [k2]
          exact ⟨by simp only; omega, q3.succ (hget hl) hq⟩
        · exact ⟨k4, noAny_more hp4 q3 k5⟩
      · rcases key hl with ⟨k1, k2⟩ | ⟨k1, k2, k3, k4, k5⟩
        · rw [k2]; simp only; omega
        · omega
      · repeat' ((conv => whnf);first|(with_reducible first|rfl|exact absTF|exact absFT)|exact True.intro|intro _|refine And.intro ?_ ?_|refine Fin.mk ?_|refine W1 rfl ?_ ?_|refine W2 rfl ?_ ?_|refine W3 rfl ?_ ?_|refine W4 ?_ ?_|refine W5 rfl ?_ ?_|refine W6 ?_ ?_|refine AppN.mk ?_|refine X1 (W1 rfl ?_ ?_)|refine X1 (W2 rfl ?_ ?_)|refine X2 (W7 rfl ?_ ?_)|refine X3 (W7 rfl ?_ ?_)|refine X4 (W7 rfl ?_ ?_)|refine X5 (W7 rfl ?_ ?_))
        all_goals (try (conv => whnf))
        all_goals (try first|exact Ob.mk (u8_bnd _)|(refine Ob.mk ?_;first|exact True.intro|assumption|omega|(try simp only [ZA,ZB,ZC,ZD,ZE,ZF,ZG,ZH,ZI,ZJ,ZK,ZL,ZM,ZN,ZO,Int.toNat_natCast,UInt8.ofNat_toNat,cast_eq] at *;omega)))
        all_goals (try first|(show (_:Int) = _;omega)|(show tupSV _ = _;with_unfolding_all rfl)|((first|show (_:Nat) ≤ _|show (_:Nat) ≤ _ ∧ (_:Nat) ≤ _|show (_:Int) ≤ _ ∧ (_:Int) ≤ _ ∧ (_:Int) ≤ _ ∧ (_:Int) ≤ _);(simp <;> omega)))
        all_goals rfl
    · have hl : ¬ p < s.length := ‹_›
      obtain rfl : p = s.length := by omega
      exact (Lib.indexAny_none q3).symm
instance fIAc (s cs : List UInt8) : Fn BB 107 [.str s, .str cs] (s.length ≤ 1000000 ∧ 2 ≤ cs.length ∧ cs.length ≤ 1000 ∧ ascB cs = true) (.int .i64 (Lib.indexAny s cs)) := by
  by_cases hl : s.length ≤ 8
  · exact ⟨(fIAsc s cs).1, fun hp => (fIAsc s cs).2 ⟨hl, hp.2⟩⟩
  · refine Fn.liftB Tryz.call107 fun hp r β w vs hG m h => ?_
    obtain ⟨rfl, h1, h2⟩ := h.str2
    have hs : (⟨s.toArray⟩ : ByteArray).size = s.length := by show s.toArray.size = _; simp
    have hc : (⟨cs.toArray⟩ : ByteArray).size = cs.length := by show cs.toArray.size = _; simp
    refine ⟨_, (Tryz.strings_IndexAny_long (by exact Tryz.zeroValue104) ⟨s.toArray⟩ ⟨cs.toArray⟩ w (by rw [hc]; omega) (by rw [hs]; omega) (by rw [hs]; omega) (by rw [hc]; omega) (fun j b hb => ascB_mem hp.2.2.2 (List.mem_of_getElem? hb))).mono fun e w' hh => ?_, .int⟩
    obtain ⟨rfl, rfl⟩ := hh
    exact ⟨rfl, ((Go.RowKit.Below.refl _ _).alloc (Nat.le_refl _) _).alloc (by simp) _⟩
end Go.Vc

namespace Go.Vc
open Go.Proofs
set_option maxRecDepth 10000
set_option maxHeartbeats 4000000
abbrev mA : List UInt8 := [45, 45, 62]
abbrev mB : List UInt8 := [45, 45, 33, 62]
abbrev mC : List UInt8 := [93, 93, 62]
def bogusP (s : List UInt8) (k : Nat) : Rk := (4, [], (s.drop k).take (fnd (s.drop k) [62]), ((k + uN (s.drop k) [62] : Nat) : Int), true)
def bareP (s : List UInt8) : List UInt8 :=
  if endP s [45, 45, 33] = true then s.take (s.length - 3) else if endP s [45, 45] = true then s.take (s.length - 2) else if endP s [45] = true then s.take (s.length - 1) else s
def comP (s : List UInt8) : Rk :=
  if begP s [62] = true then (4, [], [], 1, true) else if begP s [45, 62] = true then (4, [], [], 2, true)
  else if fdB s mA = false ∧ fdB s mB = false then (4, [], bareP s, (s.length : Int), true)
  else if fnd s mB < fnd s mA then (4, [], s.take (fnd s mB), ((fnd s mB + 4 : Nat) : Int), true) else (4, [], s.take (fnd s mA), ((fnd s mA + 3 : Nat) : Int), true)
def docN (s : List UInt8) : List UInt8 := lowL ((((s.drop 9).take (fnd (s.drop 9) [62])).dropWhile spB).takeWhile fun c => !spB c)
def docP (s : List UInt8) : Rk := (5, docN s, [], ((9 + uN (s.drop 9) [62] : Nat) : Int), true)
def secD (s : List UInt8) : List UInt8 := (s.drop 9).take (fnd (s.drop 9) mC)
def secP (s : List UInt8) : Rk := if secD s = [] then (0, [], [], ((9 + uN (s.drop 9) mC : Nat) : Int), false) else (3, [], secD s, ((9 + uN (s.drop 9) mC : Nat) : Int), true)
instance rBogus (s : List UInt8) (k : Int) : Fn BB 70 [.str s, .int .i64 k] (0 ≤ k ∧ k ≤ s.length ∧ s.length ≤ 900000) (rkSV (bogusP s k.toNat)) := by
  refine Fn.intro (N := 23) [0, 1, 4, 5, 6, 7, 8] [] Tryz.call70 Tryz.func70 rfl rfl (by kernel_rfl) (fun hpre => ?_)
  obtain ⟨p1, p2, p3⟩ := hpre
  have h1 := uN_le (s.drop k.toNat) [62]
  rw [List.length_drop] at h1
  repeat' ((conv => whnf);first|(with_reducible first|rfl|exact absTF|exact absFT)|exact True.intro|intro _|refine And.intro ?_ ?_|refine Fin.mk ?_|refine W1 rfl ?_ ?_|refine W2 rfl ?_ ?_|refine W3 rfl ?_ ?_|refine W4 ?_ ?_|refine W5 rfl ?_ ?_|refine W6 ?_ ?_|refine AppN.mk ?_|refine X1 (W1 rfl ?_ ?_)|refine X1 (W2 rfl ?_ ?_)|refine X2 (W7 rfl ?_ ?_)|refine X3 (W7 rfl ?_ ?_)|refine X4 (W7 rfl ?_ ?_)|refine X5 (W7 rfl ?_ ?_))
  all_goals (try (conv => whnf))
  all_goals (try first|exact Ob.mk (u8_bnd _)|(refine Ob.mk ?_;first|exact True.intro|assumption|omega|(try simp only [ZA,ZB,ZC,ZD,ZE,ZF,ZG,ZH,ZI,ZJ,ZK,ZL,ZM,ZN,ZO,Int.toNat_natCast,UInt8.ofNat_toNat,cast_eq] at *;omega)))
  all_goals (try first|(show (_:Int) = _;omega)|(show tupSV _ = _;with_unfolding_all rfl)|((first|show (_:Nat) ≤ _|show (_:Nat) ≤ _ ∧ (_:Nat) ≤ _|show (_:Int) ≤ _ ∧ (_:Int) ≤ _ ∧ (_:Int) ≤ _ ∧ (_:Int) ≤ _);(simp <;> omega)))
  all_goals (first | rfl | exact ⟨by simp, by rw [List.length_drop]; omega⟩ | (show k + _ = ((k.toNat + _ : Nat) : Int); omega) | trace_state)
instance rTSl (s p : List UInt8) : Fn BB 121 [.str s, .str p] True (.str (if endP s p = true then s.take (s.length - p.length) else s)) := by
  refine Fn.intro (N := 16) [0, 1, 4, 7] [] Tryz.call121 Tryz.func121 rfl rfl (by kernel_rfl) (fun hpre => ?_)
  have e : ((s.length : Int) - (p.length : Int)).toNat = s.length - p.length := by omega
  cases hb : endP s p
  · repeat' ((conv => whnf);first|(with_reducible first|rfl|exact absTF|exact absFT)|exact True.intro|intro _|refine And.intro ?_ ?_|refine Fin.mk ?_|refine W1 rfl ?_ ?_|refine W2 rfl ?_ ?_|refine W3 rfl ?_ ?_|refine W4 ?_ ?_|refine W5 rfl ?_ ?_|refine W6 ?_ ?_|refine AppN.mk ?_|refine X1 (W1 rfl ?_ ?_)|refine X1 (W2 rfl ?_ ?_)|refine X2 (W7 rfl ?_ ?_)|refine X3 (W7 rfl ?_ ?_)|refine X4 (W7 rfl ?_ ?_)|refine X5 (W7 rfl ?_ ?_))
    all_goals (try (conv => whnf))
    all_goals (try first|exact Ob.mk (u8_bnd _)|(refine Ob.mk ?_;first|exact True.intro|assumption|omega|(try simp only [ZA,ZB,ZC,ZD,ZE,ZF,ZG,ZH,ZI,ZJ,ZK,ZL,ZM,ZN,ZO,Int.toNat_natCast,UInt8.ofNat_toNat,cast_eq] at *;omega)))
    all_goals (try first|(show (_:Int) = _;omega)|(show tupSV _ = _;with_unfolding_all rfl)|((first|show (_:Nat) ≤ _|show (_:Nat) ≤ _ ∧ (_:Nat) ≤ _|show (_:Int) ≤ _ ∧ (_:Int) ≤ _ ∧ (_:Int) ≤ _ ∧ (_:Int) ≤ _);(simp <;> omega)))
    all_goals (try (exfalso; have h : endP s p = true := ‹_›; rw [hb] at h; cases h; done))
    all_goals (first | rfl | trace_state)
  · have hl : p.length ≤ s.length := by
      unfold endP at hb
      rw [Bool.and_eq_true] at hb
      have := of_decide_eq_true hb.1; omega
    repeat' ((conv => whnf);first|(with_reducible first|rfl|exact absTF|exact absFT)|exact True.intro|intro _|refine And.intro ?_ ?_|refine Fin.mk ?_|refine W1 rfl ?_ ?_|refine W2 rfl ?_ ?_|refine W3 rfl ?_ ?_|refine W4 ?_ ?_|refine W5 rfl ?_ ?_|refine W6 ?_ ?_|refine AppN.mk ?_|refine X1 (W1 rfl ?_ ?_)|refine X1 (W2 rfl ?_ ?_)|refine X2 (W7 rfl ?_ ?_)|refine X3 (W7 rfl ?_ ?_)|refine X4 (W7 rfl ?_ ?_)|refine X5 (W7 rfl ?_ ?_))
    all_goals (try (conv => whnf))
    all_goals (try first|exact Ob.mk (u8_bnd _)|(refine Ob.mk ?_;first|exact True.intro|assumption|omega|(try simp only [ZA,ZB,ZC,ZD,ZE,ZF,ZG,ZH,ZI,ZJ,ZK,ZL,ZM,ZN,ZO,Int.toNat_natCast,UInt8.ofNat_toNat,cast_eq] at *;omega)))
    all_goals (try first|(show (_:Int) = _;omega)|(show tupSV _ = _;with_unfolding_all rfl)|((first|show (_:Nat) ≤ _|show (_:Nat) ≤ _ ∧ (_:Nat) ≤ _|show (_:Int) ≤ _ ∧ (_:Int) ≤ _ ∧ (_:Int) ≤ _ ∧ (_:Int) ≤ _);(simp <;> omega)))
    all_goals (try (exfalso; have h : endP s p = false := ‹_›; rw [hb] at h; cases h; done))
    all_goals (first | omega | (rw [e]; rfl) | trace_state)
instance rTS (s p : List UInt8) : Fn BB 112 [.str s, .str p] True (.str (if endP s p = true then s.take (s.length - p.length) else s)) := by
  refine Fn.intro (N := 8) [0, 1, 4] [] Tryz.call112 Tryz.func112 rfl rfl (by kernel_rfl) (fun hpre => ?_)
  repeat' ((conv => whnf);first|(with_reducible first|rfl|exact absTF|exact absFT)|exact True.intro|intro _|refine And.intro ?_ ?_|refine Fin.mk ?_|refine W1 rfl ?_ ?_|refine W2 rfl ?_ ?_|refine W3 rfl ?_ ?_|refine W4 ?_ ?_|refine W5 rfl ?_ ?_|refine W6 ?_ ?_|refine AppN.mk ?_|refine X1 (W1 rfl ?_ ?_)|refine X1 (W2 rfl ?_ ?_)|refine X2 (W7 rfl ?_ ?_)|refine X3 (W7 rfl ?_ ?_)|refine X4 (W7 rfl ?_ ?_)|refine X5 (W7 rfl ?_ ?_))
  all_goals (try (conv => whnf))
  all_goals (try first|exact Ob.mk (u8_bnd _)|(refine Ob.mk ?_;first|exact True.intro|assumption|omega|(try simp only [ZA,ZB,ZC,ZD,ZE,ZF,ZG,ZH,ZI,ZJ,ZK,ZL,ZM,ZN,ZO,Int.toNat_natCast,UInt8.ofNat_toNat,cast_eq] at *;omega)))
  all_goals (try first|(show (_:Int) = _;omega)|(show tupSV _ = _;with_unfolding_all rfl)|((first|show (_:Nat) ≤ _|show (_:Nat) ≤ _ ∧ (_:Nat) ≤ _|show (_:Int) ≤ _ ∧ (_:Int) ≤ _ ∧ (_:Int) ≤ _ ∧ (_:Int) ≤ _);(simp <;> omega)))
theorem bare1 {s : List UInt8} (h : endP s [45, 45, 33] = true) : bareP s = s.take (s.length - 3) := by unfold bareP; rw [if_pos h]
theorem bare2 {s : List UInt8} (h1 : endP s [45, 45, 33] = false) (h : endP s [45, 45] = true) : bareP s = s.take (s.length - 2) := by unfold bareP; rw [if_neg (by rw [h1]; decide), if_pos h]
theorem bare3 {s : List UInt8} (h1 : endP s [45, 45, 33] = false) (h2 : endP s [45, 45] = false) (h : endP s [45] = true) : bareP s = s.take (s.length - 1) := by unfold bareP; rw [if_neg (by rw [h1]; decide), if_neg (by rw [h2]; decide), if_pos h]
theorem bare4 {s : List UInt8} (h1 : endP s [45, 45, 33] = false) (h2 : endP s [45, 45] = false) (h : endP s [45] = false) : bareP s = s := by unfold bareP; rw [if_neg (by rw [h1]; decide), if_neg (by rw [h2]; decide), if_neg (by rw [h]; decide)]
instance rBare (s : List UInt8) : Fn BB 105 [.str s] True (.str (bareP s)) := by
  refine Fn.intro (N := 19) [0, 2, 4, 5, 6, 7, 8, 13] [] Tryz.call105 Tryz.func105 rfl rfl (by kernel_rfl) (fun hpre => ?_)
  repeat' ((conv => whnf);first|(with_reducible first|rfl|exact absTF|exact absFT)|exact True.intro|intro _|refine And.intro ?_ ?_|refine Fin.mk ?_|refine W1 rfl ?_ ?_|refine W2 rfl ?_ ?_|refine W3 rfl ?_ ?_|refine W4 ?_ ?_|refine W5 rfl ?_ ?_|refine W6 ?_ ?_|refine AppN.mk ?_|refine X1 (W1 rfl ?_ ?_)|refine X1 (W2 rfl ?_ ?_)|refine X2 (W7 rfl ?_ ?_)|refine X3 (W7 rfl ?_ ?_)|refine X4 (W7 rfl ?_ ?_)|refine X5 (W7 rfl ?_ ?_))
  all_goals (try (conv => whnf))
  all_goals (try first|exact Ob.mk (u8_bnd _)|(refine Ob.mk ?_;first|exact True.intro|assumption|omega|(try simp only [ZA,ZB,ZC,ZD,ZE,ZF,ZG,ZH,ZI,ZJ,ZK,ZL,ZM,ZN,ZO,Int.toNat_natCast,UInt8.ofNat_toNat,cast_eq] at *;omega)))
  all_goals (try first|(show (_:Int) = _;omega)|(show tupSV _ = _;with_unfolding_all rfl)|((first|show (_:Nat) ≤ _|show (_:Nat) ≤ _ ∧ (_:Nat) ≤ _|show (_:Int) ≤ _ ∧ (_:Int) ≤ _ ∧ (_:Int) ≤ _ ∧ (_:Int) ≤ _);(simp <;> omega)))
  refine LoopStop.mk (α := Nat) (fun i => [(7, .int .i64 i)]) (fun i => []) 20 (fun i => i ≤ 3 ∧ (1 ≤ i → endP s [45, 45, 33] = false) ∧ (2 ≤ i → endP s [45, 45] = false) ∧ (3 ≤ i → endP s [45] = false)) (fun i => 3 - i) 0 (by simp) ?_ (fun i hi => ?_)
  · repeat' ((conv => whnf);first|(with_reducible first|rfl|exact absTF|exact absFT)|exact True.intro|intro _|refine And.intro ?_ ?_|refine Fin.mk ?_|refine W1 rfl ?_ ?_|refine W2 rfl ?_ ?_|refine W3 rfl ?_ ?_|refine W4 ?_ ?_|refine W5 rfl ?_ ?_|refine W6 ?_ ?_|refine AppN.mk ?_|refine X1 (W1 rfl ?_ ?_)|refine X1 (W2 rfl ?_ ?_)|refine X2 (W7 rfl ?_ ?_)|refine X3 (W7 rfl ?_ ?_)|refine X4 (W7 rfl ?_ ?_)|refine X5 (W7 rfl ?_ ?_))
    all_goals (try (conv => whnf))
    all_goals (try first|exact Ob.mk (u8_bnd _)|(refine Ob.mk ?_;first|exact True.intro|assumption|omega|(try simp only [ZA,ZB,ZC,ZD,ZE,ZF,ZG,ZH,ZI,ZJ,ZK,ZL,ZM,ZN,ZO,Int.toNat_natCast,UInt8.ofNat_toNat,cast_eq] at *;omega)))
    all_goals (try first|(show (_:Int) = _;omega)|(show tupSV _ = _;with_unfolding_all rfl)|((first|show (_:Nat) ≤ _|show (_:Nat) ≤ _ ∧ (_:Nat) ≤ _|show (_:Int) ≤ _ ∧ (_:Int) ≤ _ ∧ (_:Int) ≤ _ ∧ (_:Int) ≤ _);(simp <;> omega)))
    all_goals rfl
  · obtain ⟨q0, q1, q2, q3⟩ := hi
    have hc : i = 0 ∨ i = 1 ∨ i = 2 ∨ i = 3 := by omega
    rcases hc with rfl | rfl | rfl | rfl
    · repeat' ((conv => whnf);first|(with_reducible first|rfl|exact absTF|exact absFT)|exact True.intro|intro _|refine And.intro ?_ ?_|refine Fin.mk ?_|refine W1 rfl ?_ ?_|refine W2 rfl ?_ ?_|refine W3 rfl ?_ ?_|refine W4 ?_ ?_|refine W5 rfl ?_ ?_|refine W6 ?_ ?_|refine AppN.mk ?_|refine X1 (W1 rfl ?_ ?_)|refine X1 (W2 rfl ?_ ?_)|refine X2 (W7 rfl ?_ ?_)|refine X3 (W7 rfl ?_ ?_)|refine X4 (W7 rfl ?_ ?_)|refine X5 (W7 rfl ?_ ?_))
      all_goals (try (conv => whnf))
      all_goals (try first|exact Ob.mk (u8_bnd _)|(refine Ob.mk ?_;first|exact True.intro|assumption|omega|(try simp only [ZA,ZB,ZC,ZD,ZE,ZF,ZG,ZH,ZI,ZJ,ZK,ZL,ZM,ZN,ZO,Int.toNat_natCast,UInt8.ofNat_toNat,cast_eq] at *;omega)))
      all_goals (try first|(show (_:Int) = _;omega)|(show tupSV _ = _;with_unfolding_all rfl)|((first|show (_:Nat) ≤ _|show (_:Nat) ≤ _ ∧ (_:Nat) ≤ _|show (_:Int) ≤ _ ∧ (_:Int) ≤ _ ∧ (_:Int) ≤ _ ∧ (_:Int) ≤ _);(simp <;> omega)))
      · exact (if_pos ‹_›).trans (bare1 ‹_›).symm
      · refine Rnd.mk ⟨1, ⟨by omega, fun _ => ‹_›, by omega, by omega⟩, by omega, ?_⟩
        repeat' ((conv => whnf);first|(with_reducible first|rfl|exact absTF|exact absFT)|exact True.intro|intro _|refine And.intro ?_ ?_|refine Fin.mk ?_|refine W1 rfl ?_ ?_|refine W2 rfl ?_ ?_|refine W3 rfl ?_ ?_|refine W4 ?_ ?_|refine W5 rfl ?_ ?_|refine W6 ?_ ?_|refine AppN.mk ?_|refine X1 (W1 rfl ?_ ?_)|refine X1 (W2 rfl ?_ ?_)|refine X2 (W7 rfl ?_ ?_)|refine X3 (W7 rfl ?_ ?_)|refine X4 (W7 rfl ?_ ?_)|refine X5 (W7 rfl ?_ ?_))
        all_goals (try (conv => whnf))
        all_goals (try first|exact Ob.mk (u8_bnd _)|(refine Ob.mk ?_;first|exact True.intro|assumption|omega|(try simp only [ZA,ZB,ZC,ZD,ZE,ZF,ZG,ZH,ZI,ZJ,ZK,ZL,ZM,ZN,ZO,Int.toNat_natCast,UInt8.ofNat_toNat,cast_eq] at *;omega)))
        all_goals (try first|(show (_:Int) = _;omega)|(show tupSV _ = _;with_unfolding_all rfl)|((first|show (_:Nat) ≤ _|show (_:Nat) ≤ _ ∧ (_:Nat) ≤ _|show (_:Int) ≤ _ ∧ (_:Int) ≤ _ ∧ (_:Int) ≤ _ ∧ (_:Int) ≤ _);(simp <;> omega)))
        all_goals rfl
      · exfalso; exact absurd ‹decide _ = false› (by decide)
    · repeat' ((conv => whnf);first|(with_reducible first|rfl|exact absTF|exact absFT)|exact True.intro|intro _|refine And.intro ?_ ?_|refine Fin.mk ?_|refine W1 rfl ?_ ?_|refine W2 rfl ?_ ?_|refine W3 rfl ?_ ?_|refine W4 ?_ ?_|refine W5 rfl ?_ ?_|refine W6 ?_ ?_|refine AppN.mk ?_|refine X1 (W1 rfl ?_ ?_)|refine X1 (W2 rfl ?_ ?_)|refine X2 (W7 rfl ?_ ?_)|refine X3 (W7 rfl ?_ ?_)|refine X4 (W7 rfl ?_ ?_)|refine X5 (W7 rfl ?_ ?_))
      all_goals (try (conv => whnf))
      all_goals (try first|exact Ob.mk (u8_bnd _)|(refine Ob.mk ?_;first|exact True.intro|assumption|omega|(try simp only [ZA,ZB,ZC,ZD,ZE,ZF,ZG,ZH,ZI,ZJ,ZK,ZL,ZM,ZN,ZO,Int.toNat_natCast,UInt8.ofNat_toNat,cast_eq] at *;omega)))
      all_goals (try first|(show (_:Int) = _;omega)|(show tupSV _ = _;with_unfolding_all rfl)|((first|show (_:Nat) ≤ _|show (_:Nat) ≤ _ ∧ (_:Nat) ≤ _|show (_:Int) ≤ _ ∧ (_:Int) ≤ _ ∧ (_:Int) ≤ _ ∧ (_:Int) ≤ _);(simp <;> omega)))
      · exact (if_pos ‹_›).trans (bare2 (q1 (by omega)) ‹_›).symm
      · refine Rnd.mk ⟨2, ⟨by omega, fun _ => q1 (by omega), fun _ => ‹_›, by omega⟩, by omega, ?_⟩
        repeat' ((conv => whnf);first|(with_reducible first|rfl|exact absTF|exact absFT)|exact True.intro|intro _|refine And.intro ?_ ?_|refine Fin.mk ?_|refine W1 rfl ?_ ?_|refine W2 rfl ?_ ?_|refine W3 rfl ?_ ?_|refine W4 ?_ ?_|refine W5 rfl ?_ ?_|refine W6 ?_ ?_|refine AppN.mk ?_|refine X1 (W1 rfl ?_ ?_)|refine X1 (W2 rfl ?_ ?_)|refine X2 (W7 rfl ?_ ?_)|refine X3 (W7 rfl ?_ ?_)|refine X4 (W7 rfl ?_ ?_)|refine X5 (W7 rfl ?_ ?_))
        all_goals (try (conv => whnf))
        all_goals (try first|exact Ob.mk (u8_bnd _)|(refine Ob.mk ?_;first|exact True.intro|assumption|omega|(try simp only [ZA,ZB,ZC,ZD,ZE,ZF,ZG,ZH,ZI,ZJ,ZK,ZL,ZM,ZN,ZO,Int.toNat_natCast,UInt8.ofNat_toNat,cast_eq] at *;omega)))
        all_goals (try first|(show (_:Int) = _;omega)|(show tupSV _ = _;with_unfolding_all rfl)|((first|show (_:Nat) ≤ _|show (_:Nat) ≤ _ ∧ (_:Nat) ≤ _|show (_:Int) ≤ _ ∧ (_:Int) ≤ _ ∧ (_:Int) ≤ _ ∧ (_:Int) ≤ _);(simp <;> omega)))
        all_goals rfl
      · exfalso; exact absurd ‹decide _ = false› (by decide)
    · repeat' ((conv => whnf);first|(with_reducible first|rfl|exact absTF|exact absFT)|exact True.intro|intro _|refine And.intro ?_ ?_|refine Fin.mk ?_|refine W1 rfl ?_ ?_|refine W2 rfl ?_ ?_|refine W3 rfl ?_ ?_|refine W4 ?_ ?_|refine W5 rfl ?_ ?_|refine W6 ?_ ?_|refine AppN.mk ?_|refine X1 (W1 rfl ?_ ?_)|refine X1 (W2 rfl ?_ ?_)|refine X2 (W7 rfl ?_ ?_)|refine X3 (W7 rfl ?_ ?_)|refine X4 (W7 rfl ?_ ?_)|refine X5 (W7 rfl ?_ ?_))
      all_goals (try (conv => whnf))
      all_goals (try first|exact Ob.mk (u8_bnd _)|(refine Ob.mk ?_;first|exact True.intro|assumption|omega|(try simp only [ZA,ZB,ZC,ZD,ZE,ZF,ZG,ZH,ZI,ZJ,ZK,ZL,ZM,ZN,ZO,Int.toNat_natCast,UInt8.ofNat_toNat,cast_eq] at *;omega)))
      all_goals (try first|(show (_:Int) = _;omega)|(show tupSV _ = _;with_unfolding_all rfl)|((first|show (_:Nat) ≤ _|show (_:Nat) ≤ _ ∧ (_:Nat) ≤ _|show (_:Int) ≤ _ ∧ (_:Int) ≤ _ ∧ (_:Int) ≤ _ ∧ (_:Int) ≤ _);(simp <;> omega)))
      · exact (if_pos ‹_›).trans (bare3 (q1 (by omega)) (q2 (by omega)) ‹_›).symm
      · refine Rnd.mk ⟨3, ⟨by omega, fun _ => q1 (by omega), fun _ => q2 (by omega), fun _ => ‹_›⟩, by omega, ?_⟩
        repeat' ((conv => whnf);first|(with_reducible first|rfl|exact absTF|exact absFT)|exact True.intro|intro _|refine And.intro ?_ ?_|refine Fin.mk ?_|refine W1 rfl ?_ ?_|refine W2 rfl ?_ ?_|refine W3 rfl ?_ ?_|refine W4 ?_ ?_|refine W5 rfl ?_ ?_|refine W6 ?_ ?_|refine AppN.mk ?_|refine X1 (W1 rfl ?_ ?_)|refine X1 (W2 rfl ?_ ?_)|refine X2 (W7 rfl ?_ ?_)|refine X3 (W7 rfl ?_ ?_)|refine X4 (W7 rfl ?_ ?_)|refine X5 (W7 rfl ?_ ?_))
        all_goals (try (conv => whnf))
        all_goals (try first|exact Ob.mk (u8_bnd _)|(refine Ob.mk ?_;first|exact True.intro|assumption|omega|(try simp only [ZA,ZB,ZC,ZD,ZE,ZF,ZG,ZH,ZI,ZJ,ZK,ZL,ZM,ZN,ZO,Int.toNat_natCast,UInt8.ofNat_toNat,cast_eq] at *;omega)))
        all_goals (try first|(show (_:Int) = _;omega)|(show tupSV _ = _;with_unfolding_all rfl)|((first|show (_:Nat) ≤ _|show (_:Nat) ≤ _ ∧ (_:Nat) ≤ _|show (_:Int) ≤ _ ∧ (_:Int) ≤ _ ∧ (_:Int) ≤ _ ∧ (_:Int) ≤ _);(simp <;> omega)))
        all_goals rfl
      · exfalso; exact absurd ‹decide _ = false› (by decide)
    · repeat' ((conv => whnf);first|(with_reducible first|rfl|exact absTF|exact absFT)|exact True.intro|intro _|refine And.intro ?_ ?_|refine Fin.mk ?_|refine W1 rfl ?_ ?_|refine W2 rfl ?_ ?_|refine W3 rfl ?_ ?_|refine W4 ?_ ?_|refine W5 rfl ?_ ?_|refine W6 ?_ ?_|refine AppN.mk ?_|refine X1 (W1 rfl ?_ ?_)|refine X1 (W2 rfl ?_ ?_)|refine X2 (W7 rfl ?_ ?_)|refine X3 (W7 rfl ?_ ?_)|refine X4 (W7 rfl ?_ ?_)|refine X5 (W7 rfl ?_ ?_))
      all_goals (try (conv => whnf))
      all_goals (try first|exact Ob.mk (u8_bnd _)|(refine Ob.mk ?_;first|exact True.intro|assumption|omega|(try simp only [ZA,ZB,ZC,ZD,ZE,ZF,ZG,ZH,ZI,ZJ,ZK,ZL,ZM,ZN,ZO,Int.toNat_natCast,UInt8.ofNat_toNat,cast_eq] at *;omega)))
      all_goals (try first|(show (_:Int) = _;omega)|(show tupSV _ = _;with_unfolding_all rfl)|((first|show (_:Nat) ≤ _|show (_:Nat) ≤ _ ∧ (_:Nat) ≤ _|show (_:Int) ≤ _ ∧ (_:Int) ≤ _ ∧ (_:Int) ≤ _ ∧ (_:Int) ≤ _);(simp <;> omega)))
      · exfalso; exact absurd ‹decide _ = true› (by decide)
      · exfalso; exact absurd ‹decide _ = true› (by decide)
      · exact (bare4 (q1 (by omega)) (q2 (by omega)) (q3 (by omega))).symm
theorem fd_spec (s p : List UInt8) (hp : p ≠ []) : (fdB s p = true → uN s p = fnd s p + p.length ∧ fnd s p + p.length ≤ s.length) ∧ (fdB s p = false → fnd s p = s.length ∧ uN s p = s.length) := by
  unfold fdB uN
  constructor
  · intro h
    have h' := of_decide_eq_true h
    exact ⟨by rw [if_pos h'], h'⟩
  · intro h
    have h' := of_decide_eq_false h
    refine ⟨?_, by rw [if_neg h']⟩
    rcases fnd_cases s p hp with q | q
    · exact absurd q.2 h'
    · exact q.1
theorem com1 {s : List UInt8} (h : begP s [62] = true) : comP s = (4, [], [], 1, true) := by unfold comP; rw [if_pos h]
theorem com2 {s : List UInt8} (h1 : begP s [62] = false) (h : begP s [45, 62] = true) : comP s = (4, [], [], 2, true) := by unfold comP; rw [if_neg (by rw [h1]; decide), if_pos h]
theorem com3 {s : List UInt8} (h1 : begP s [62] = false) (h2 : begP s [45, 62] = false) (hA : fdB s mA = false) (hB : fdB s mB = false) : comP s = (4, [], bareP s, (s.length : Int), true) := by
  unfold comP; rw [if_neg (by rw [h1]; decide), if_neg (by rw [h2]; decide), if_pos ⟨hA, hB⟩]
theorem com4 {s : List UInt8} (h1 : begP s [62] = false) (h2 : begP s [45, 62] = false) (h : fdB s mA = true ∨ fdB s mB = true) (hl : fnd s mB < fnd s mA) : comP s = (4, [], s.take (fnd s mB), ((fnd s mB + 4 : Nat) : Int), true) := by
  unfold comP; rw [if_neg (by rw [h1]; decide), if_neg (by rw [h2]; decide), if_neg (by rintro ⟨a, b⟩; rcases h with h | h <;> simp_all), if_pos hl]
theorem com5 {s : List UInt8} (h1 : begP s [62] = false) (h2 : begP s [45, 62] = false) (h : fdB s mA = true ∨ fdB s mB = true) (hl : ¬ fnd s mB < fnd s mA) : comP s = (4, [], s.take (fnd s mA), ((fnd s mA + 3 : Nat) : Int), true) := by
  unfold comP; rw [if_neg (by rw [h1]; decide), if_neg (by rw [h2]; decide), if_neg (by rintro ⟨a, b⟩; rcases h with h | h <;> simp_all), if_neg hl]
instance rCom (s : List UInt8) : Fn BB 91 [.str s] (s.length ≤ 900000) (rkSV (comP s)) := by
  refine Fn.intro (N := 65) [0, 2, 3, 4, 5, 7, 8, 9, 10, 11, 12, 13, 15, 16, 17, 18, 23, 40, 53] [] Tryz.call91 Tryz.func91 rfl rfl (by kernel_rfl) (fun hpre => ?_)
  repeat' ((conv => whnf);first|(with_reducible first|rfl|exact absTF|exact absFT)|exact True.intro|intro _|refine And.intro ?_ ?_|refine Fin.mk ?_|refine W1 rfl ?_ ?_|refine W2 rfl ?_ ?_|refine W3 rfl ?_ ?_|refine W4 ?_ ?_|refine W5 rfl ?_ ?_|refine W6 ?_ ?_|refine AppN.mk ?_|refine X1 (W1 rfl ?_ ?_)|refine X1 (W2 rfl ?_ ?_)|refine X2 (W7 rfl ?_ ?_)|refine X3 (W7 rfl ?_ ?_)|refine X4 (W7 rfl ?_ ?_)|refine X5 (W7 rfl ?_ ?_))
  all_goals (try (conv => whnf))
  all_goals (try first|exact Ob.mk (u8_bnd _)|(refine Ob.mk ?_;first|exact True.intro|assumption|omega|(try simp only [ZA,ZB,ZC,ZD,ZE,ZF,ZG,ZH,ZI,ZJ,ZK,ZL,ZM,ZN,ZO,Int.toNat_natCast,UInt8.ofNat_toNat,cast_eq] at *;omega)))
  all_goals (try first|(show (_:Int) = _;omega)|(show tupSV _ = _;with_unfolding_all rfl)|((first|show (_:Nat) ≤ _|show (_:Nat) ≤ _ ∧ (_:Nat) ≤ _|show (_:Int) ≤ _ ∧ (_:Int) ≤ _ ∧ (_:Int) ≤ _ ∧ (_:Int) ≤ _);(simp <;> omega)))
  refine LoopStop.mk (α := Nat) (fun i => [(17, .int .i64 i)]) (fun i => []) 20 (fun i => i ≤ 2 ∧ (1 ≤ i → begP s [62] = false) ∧ (2 ≤ i → begP s [45, 62] = false)) (fun i => 2 - i) 0 (by simp) ?_ (fun i hi => ?_)
  · repeat' ((conv => whnf);first|(with_reducible first|rfl|exact absTF|exact absFT)|exact True.intro|intro _|refine And.intro ?_ ?_|refine Fin.mk ?_|refine W1 rfl ?_ ?_|refine W2 rfl ?_ ?_|refine W3 rfl ?_ ?_|refine W4 ?_ ?_|refine W5 rfl ?_ ?_|refine W6 ?_ ?_|refine AppN.mk ?_|refine X1 (W1 rfl ?_ ?_)|refine X1 (W2 rfl ?_ ?_)|refine X2 (W7 rfl ?_ ?_)|refine X3 (W7 rfl ?_ ?_)|refine X4 (W7 rfl ?_ ?_)|refine X5 (W7 rfl ?_ ?_))
    all_goals (try (conv => whnf))
    all_goals (try first|exact Ob.mk (u8_bnd _)|(refine Ob.mk ?_;first|exact True.intro|assumption|omega|(try simp only [ZA,ZB,ZC,ZD,ZE,ZF,ZG,ZH,ZI,ZJ,ZK,ZL,ZM,ZN,ZO,Int.toNat_natCast,UInt8.ofNat_toNat,cast_eq] at *;omega)))
    all_goals (try first|(show (_:Int) = _;omega)|(show tupSV _ = _;with_unfolding_all rfl)|((first|show (_:Nat) ≤ _|show (_:Nat) ≤ _ ∧ (_:Nat) ≤ _|show (_:Int) ≤ _ ∧ (_:Int) ≤ _ ∧ (_:Int) ≤ _ ∧ (_:Int) ≤ _);(simp <;> omega)))
    all_goals rfl
  · obtain ⟨q0, q1, q2⟩ := hi
    have hc : i = 0 ∨ i = 1 ∨ i = 2 := by omega
    rcases hc with rfl | rfl | rfl
    · repeat' ((conv => whnf);first|(with_reducible first|rfl|exact absTF|exact absFT)|exact True.intro|intro _|refine And.intro ?_ ?_|refine Fin.mk ?_|refine W1 rfl ?_ ?_|refine W2 rfl ?_ ?_|refine W3 rfl ?_ ?_|refine W4 ?_ ?_|refine W5 rfl ?_ ?_|refine W6 ?_ ?_|refine AppN.mk ?_|refine X1 (W1 rfl ?_ ?_)|refine X1 (W2 rfl ?_ ?_)|refine X2 (W7 rfl ?_ ?_)|refine X3 (W7 rfl ?_ ?_)|refine X4 (W7 rfl ?_ ?_)|refine X5 (W7 rfl ?_ ?_))
      all_goals (try (conv => whnf))
      all_goals (try first|exact Ob.mk (u8_bnd _)|(refine Ob.mk ?_;first|exact True.intro|assumption|omega|(try simp only [ZA,ZB,ZC,ZD,ZE,ZF,ZG,ZH,ZI,ZJ,ZK,ZL,ZM,ZN,ZO,Int.toNat_natCast,UInt8.ofNat_toNat,cast_eq] at *;omega)))
      all_goals (try first|(show (_:Int) = _;omega)|(show tupSV _ = _;with_unfolding_all rfl)|((first|show (_:Nat) ≤ _|show (_:Nat) ≤ _ ∧ (_:Nat) ≤ _|show (_:Int) ≤ _ ∧ (_:Int) ≤ _ ∧ (_:Int) ≤ _ ∧ (_:Int) ≤ _);(simp <;> omega)))
      all_goals (first | (rw [com1 ‹_›]; first | done | rfl) | skip)
      · refine Rnd.mk ⟨1, ⟨by omega, fun _ => ‹_›, by omega⟩, by omega, ?_⟩
        repeat' ((conv => whnf);first|(with_reducible first|rfl|exact absTF|exact absFT)|exact True.intro|intro _|refine And.intro ?_ ?_|refine Fin.mk ?_|refine W1 rfl ?_ ?_|refine W2 rfl ?_ ?_|refine W3 rfl ?_ ?_|refine W4 ?_ ?_|refine W5 rfl ?_ ?_|refine W6 ?_ ?_|refine AppN.mk ?_|refine X1 (W1 rfl ?_ ?_)|refine X1 (W2 rfl ?_ ?_)|refine X2 (W7 rfl ?_ ?_)|refine X3 (W7 rfl ?_ ?_)|refine X4 (W7 rfl ?_ ?_)|refine X5 (W7 rfl ?_ ?_))
        all_goals (try (conv => whnf))
        all_goals (try first|exact Ob.mk (u8_bnd _)|(refine Ob.mk ?_;first|exact True.intro|assumption|omega|(try simp only [ZA,ZB,ZC,ZD,ZE,ZF,ZG,ZH,ZI,ZJ,ZK,ZL,ZM,ZN,ZO,Int.toNat_natCast,UInt8.ofNat_toNat,cast_eq] at *;omega)))
        all_goals (try first|(show (_:Int) = _;omega)|(show tupSV _ = _;with_unfolding_all rfl)|((first|show (_:Nat) ≤ _|show (_:Nat) ≤ _ ∧ (_:Nat) ≤ _|show (_:Int) ≤ _ ∧ (_:Int) ≤ _ ∧ (_:Int) ≤ _ ∧ (_:Int) ≤ _);(simp <;> omega)))
        all_goals rfl
      all_goals (exfalso; exact absurd ‹decide (((0 : Nat) : Int) < (([[62], [45, 62]] : List (List UInt8)).length : Int)) = false› (by decide))
    · repeat' ((conv => whnf);first|(with_reducible first|rfl|exact absTF|exact absFT)|exact True.intro|intro _|refine And.intro ?_ ?_|refine Fin.mk ?_|refine W1 rfl ?_ ?_|refine W2 rfl ?_ ?_|refine W3 rfl ?_ ?_|refine W4 ?_ ?_|refine W5 rfl ?_ ?_|refine W6 ?_ ?_|refine AppN.mk ?_|refine X1 (W1 rfl ?_ ?_)|refine X1 (W2 rfl ?_ ?_)|refine X2 (W7 rfl ?_ ?_)|refine X3 (W7 rfl ?_ ?_)|refine X4 (W7 rfl ?_ ?_)|refine X5 (W7 rfl ?_ ?_))
      all_goals (try (conv => whnf))
      all_goals (try first|exact Ob.mk (u8_bnd _)|(refine Ob.mk ?_;first|exact True.intro|assumption|omega|(try simp only [ZA,ZB,ZC,ZD,ZE,ZF,ZG,ZH,ZI,ZJ,ZK,ZL,ZM,ZN,ZO,Int.toNat_natCast,UInt8.ofNat_toNat,cast_eq] at *;omega)))
      all_goals (try first|(show (_:Int) = _;omega)|(show tupSV _ = _;with_unfolding_all rfl)|((first|show (_:Nat) ≤ _|show (_:Nat) ≤ _ ∧ (_:Nat) ≤ _|show (_:Int) ≤ _ ∧ (_:Int) ≤ _ ∧ (_:Int) ≤ _ ∧ (_:Int) ≤ _);(simp <;> omega)))
      all_goals (first | (rw [com2 (q1 (by omega)) ‹_›]; first | done | rfl) | skip)
      · refine Rnd.mk ⟨2, ⟨by omega, fun _ => q1 (by omega), fun _ => ‹_›⟩, by omega, ?_⟩
        repeat' ((conv => whnf);first|(with_reducible first|rfl|exact absTF|exact absFT)|exact True.intro|intro _|refine And.intro ?_ ?_|refine Fin.mk ?_|refine W1 rfl ?_ ?_|refine W2 rfl ?_ ?_|refine W3 rfl ?_ ?_|refine W4 ?_ ?_|refine W5 rfl ?_ ?_|refine W6 ?_ ?_|refine AppN.mk ?_|refine X1 (W1 rfl ?_ ?_)|refine X1 (W2 rfl ?_ ?_)|refine X2 (W7 rfl ?_ ?_)|refine X3 (W7 rfl ?_ ?_)|refine X4 (W7 rfl ?_ ?_)|refine X5 (W7 rfl ?_ ?_))
        all_goals (try (conv => whnf))
        all_goals (try first|exact Ob.mk (u8_bnd _)|(refine Ob.mk ?_;first|exact True.intro|assumption|omega|(try simp only [ZA,ZB,ZC,ZD,ZE,ZF,ZG,ZH,ZI,ZJ,ZK,ZL,ZM,ZN,ZO,Int.toNat_natCast,UInt8.ofNat_toNat,cast_eq] at *;omega)))
        all_goals (try first|(show (_:Int) = _;omega)|(show tupSV _ = _;with_unfolding_all rfl)|((first|show (_:Nat) ≤ _|show (_:Nat) ≤ _ ∧ (_:Nat) ≤ _|show (_:Int) ≤ _ ∧ (_:Int) ≤ _ ∧ (_:Int) ≤ _ ∧ (_:Int) ≤ _);(simp <;> omega)))
        all_goals rfl
      all_goals (exfalso; exact absurd ‹decide (((1 : Nat) : Int) < (([[62], [45, 62]] : List (List UInt8)).length : Int)) = false› (by decide))
    · have n1 := q1 (by omega)
      have n2 := q2 (by omega)
      have lA := fnd_le s mA
      have lB := fnd_le s mB
      have tA : (s.take (fnd s mA)).length = fnd s mA := by rw [List.length_take]; omega
      have tB : (s.take (fnd s mB)).length = fnd s mB := by rw [List.length_take]; omega
      have uA : uN s mA ≤ s.length := uN_le s mA
      have uB : uN s mB ≤ s.length := uN_le s mB
      cases hA : fdB s mA <;> cases hB : fdB s mB
      · have e := com3 n1 n2 hA hB
        repeat' ((conv => whnf);first|(with_reducible first|rfl|exact absTF|exact absFT)|exact True.intro|intro _|refine And.intro ?_ ?_|refine Fin.mk ?_|refine W1 rfl ?_ ?_|refine W2 rfl ?_ ?_|refine W3 rfl ?_ ?_|refine W4 ?_ ?_|refine W5 rfl ?_ ?_|refine W6 ?_ ?_|refine AppN.mk ?_|refine X1 (W1 rfl ?_ ?_)|refine X1 (W2 rfl ?_ ?_)|refine X2 (W7 rfl ?_ ?_)|refine X3 (W7 rfl ?_ ?_)|refine X4 (W7 rfl ?_ ?_)|refine X5 (W7 rfl ?_ ?_))
        all_goals (try (conv => whnf))
        all_goals (try first|exact Ob.mk (u8_bnd _)|(refine Ob.mk ?_;first|exact True.intro|assumption|omega|(try simp only [ZA,ZB,ZC,ZD,ZE,ZF,ZG,ZH,ZI,ZJ,ZK,ZL,ZM,ZN,ZO,Int.toNat_natCast,UInt8.ofNat_toNat,cast_eq] at *;omega)))
        all_goals (try first|(show (_:Int) = _;omega)|(show tupSV _ = _;with_unfolding_all rfl)|((first|show (_:Nat) ≤ _|show (_:Nat) ≤ _ ∧ (_:Nat) ≤ _|show (_:Int) ≤ _ ∧ (_:Int) ≤ _ ∧ (_:Int) ≤ _ ∧ (_:Int) ≤ _);(simp <;> omega)))
        all_goals (try (exfalso; exact absurd ‹decide (((2 : Nat) : Int) < (([[62], [45, 62]] : List (List UInt8)).length : Int)) = true› (by decide)))
        all_goals (try (exfalso; have h : (!fdB s mA && !fdB s mB) = false := ‹_›; rw [hA, hB] at h; exact absurd h (by decide)))
        all_goals (first | (rw [e]; done) | exact ⟨by decide, by omega⟩ | trace_state)
      all_goals (
        have hC : (!fdB s mA && !fdB s mB) = true → False := fun h => by rw [hA, hB] at h; exact absurd h (by decide)
        have hor : fdB s mA = true ∨ fdB s mB = true := by first | exact .inl hA | exact .inr hB
        have fA := fd_spec s mA (by decide)
        have fB := fd_spec s mB (by decide)
        rw [hA] at fA
        rw [hB] at fB
        have e4 := fun h => com4 n1 n2 hor h
        have e5 := fun h => com5 n1 n2 hor h)
      · have hlt : fnd s mB < fnd s mA := by have := fA.2 rfl; have := fB.1 rfl; simp at this; omega
        have e := e4 hlt
        repeat' ((conv => whnf);first|(with_reducible first|rfl|exact absTF|exact absFT)|exact True.intro|intro _|refine And.intro ?_ ?_|refine Fin.mk ?_|refine W1 rfl ?_ ?_|refine W2 rfl ?_ ?_|refine W3 rfl ?_ ?_|refine W4 ?_ ?_|refine W5 rfl ?_ ?_|refine W6 ?_ ?_|refine AppN.mk ?_|refine X1 (W1 rfl ?_ ?_)|refine X1 (W2 rfl ?_ ?_)|refine X2 (W7 rfl ?_ ?_)|refine X3 (W7 rfl ?_ ?_)|refine X4 (W7 rfl ?_ ?_)|refine X5 (W7 rfl ?_ ?_))
        all_goals (try (conv => whnf))
        all_goals (try first|exact Ob.mk (u8_bnd _)|(refine Ob.mk ?_;first|exact True.intro|assumption|omega|(try simp only [ZA,ZB,ZC,ZD,ZE,ZF,ZG,ZH,ZI,ZJ,ZK,ZL,ZM,ZN,ZO,Int.toNat_natCast,UInt8.ofNat_toNat,cast_eq] at *;omega)))
        all_goals (try first|(show (_:Int) = _;omega)|(show tupSV _ = _;with_unfolding_all rfl)|((first|show (_:Nat) ≤ _|show (_:Nat) ≤ _ ∧ (_:Nat) ≤ _|show (_:Int) ≤ _ ∧ (_:Int) ≤ _ ∧ (_:Int) ≤ _ ∧ (_:Int) ≤ _);(simp <;> omega)))
        all_goals (try (exfalso; exact absurd ‹decide (((2 : Nat) : Int) < (([[62], [45, 62]] : List (List UInt8)).length : Int)) = true› (by decide)))
        all_goals (try (exfalso; exact hC ‹(!fdB s mA && !fdB s mB) = true›))
        all_goals (try (exfalso; have h := of_decide_eq_false ‹decide (((s.take (fnd s mB)).length : Int) < ((s.take (fnd s mA)).length : Int)) = false›; omega))
        all_goals (first | (rw [e]; done) | exact ⟨by decide, by omega⟩ | (rw [e]; exact congrArg (Nat.cast (R := Int)) (fB.1 rfl).1) | trace_state)
      · have hlt : ¬ fnd s mB < fnd s mA := by have := fB.2 rfl; omega
        have e := e5 hlt
        repeat' ((conv => whnf);first|(with_reducible first|rfl|exact absTF|exact absFT)|exact True.intro|intro _|refine And.intro ?_ ?_|refine Fin.mk ?_|refine W1 rfl ?_ ?_|refine W2 rfl ?_ ?_|refine W3 rfl ?_ ?_|refine W4 ?_ ?_|refine W5 rfl ?_ ?_|refine W6 ?_ ?_|refine AppN.mk ?_|refine X1 (W1 rfl ?_ ?_)|refine X1 (W2 rfl ?_ ?_)|refine X2 (W7 rfl ?_ ?_)|refine X3 (W7 rfl ?_ ?_)|refine X4 (W7 rfl ?_ ?_)|refine X5 (W7 rfl ?_ ?_))
        all_goals (try (conv => whnf))
        all_goals (try first|exact Ob.mk (u8_bnd _)|(refine Ob.mk ?_;first|exact True.intro|assumption|omega|(try simp only [ZA,ZB,ZC,ZD,ZE,ZF,ZG,ZH,ZI,ZJ,ZK,ZL,ZM,ZN,ZO,Int.toNat_natCast,UInt8.ofNat_toNat,cast_eq] at *;omega)))
        all_goals (try first|(show (_:Int) = _;omega)|(show tupSV _ = _;with_unfolding_all rfl)|((first|show (_:Nat) ≤ _|show (_:Nat) ≤ _ ∧ (_:Nat) ≤ _|show (_:Int) ≤ _ ∧ (_:Int) ≤ _ ∧ (_:Int) ≤ _ ∧ (_:Int) ≤ _);(simp <;> omega)))
        all_goals (try (exfalso; exact absurd ‹decide (((2 : Nat) : Int) < (([[62], [45, 62]] : List (List UInt8)).length : Int)) = true› (by decide)))
        all_goals (try (exfalso; exact hC ‹(!fdB s mA && !fdB s mB) = true›))
        all_goals (try (exfalso; have h := of_decide_eq_true ‹decide (((s.take (fnd s mB)).length : Int) < ((s.take (fnd s mA)).length : Int)) = true›; omega))
        all_goals (first | (rw [e]; done) | exact ⟨by decide, by omega⟩ | (rw [e]; exact congrArg (Nat.cast (R := Int)) (fA.1 rfl).1) | trace_state)
      · repeat' ((conv => whnf);first|(with_reducible first|rfl|exact absTF|exact absFT)|exact True.intro|intro _|refine And.intro ?_ ?_|refine Fin.mk ?_|refine W1 rfl ?_ ?_|refine W2 rfl ?_ ?_|refine W3 rfl ?_ ?_|refine W4 ?_ ?_|refine W5 rfl ?_ ?_|refine W6 ?_ ?_|refine AppN.mk ?_|refine X1 (W1 rfl ?_ ?_)|refine X1 (W2 rfl ?_ ?_)|refine X2 (W7 rfl ?_ ?_)|refine X3 (W7 rfl ?_ ?_)|refine X4 (W7 rfl ?_ ?_)|refine X5 (W7 rfl ?_ ?_))
        all_goals (try (conv => whnf))
        all_goals (try first|exact Ob.mk (u8_bnd _)|(refine Ob.mk ?_;first|exact True.intro|assumption|omega|(try simp only [ZA,ZB,ZC,ZD,ZE,ZF,ZG,ZH,ZI,ZJ,ZK,ZL,ZM,ZN,ZO,Int.toNat_natCast,UInt8.ofNat_toNat,cast_eq] at *;omega)))
        all_goals (try first|(show (_:Int) = _;omega)|(show tupSV _ = _;with_unfolding_all rfl)|((first|show (_:Nat) ≤ _|show (_:Nat) ≤ _ ∧ (_:Nat) ≤ _|show (_:Int) ≤ _ ∧ (_:Int) ≤ _ ∧ (_:Int) ≤ _ ∧ (_:Int) ≤ _);(simp <;> omega)))
        all_goals (try (exfalso; exact absurd ‹decide (((2 : Nat) : Int) < (([[62], [45, 62]] : List (List UInt8)).length : Int)) = true› (by decide)))
        all_goals (try (exfalso; exact hC ‹(!fdB s mA && !fdB s mB) = true›))
        all_goals (try (have h := of_decide_eq_true ‹decide (((s.take (fnd s mB)).length : Int) < ((s.take (fnd s mA)).length : Int)) = true›; have e := e4 (by omega)))
        all_goals (try (have h := of_decide_eq_false ‹decide (((s.take (fnd s mB)).length : Int) < ((s.take (fnd s mA)).length : Int)) = false›; have e := e5 (by omega)))
        all_goals (first | (rw [e]; done) | exact ⟨by decide, by omega⟩ | (rw [e]; exact congrArg (Nat.cast (R := Int)) (fA.1 rfl).1) | (rw [e]; exact congrArg (Nat.cast (R := Int)) (fB.1 rfl).1) | trace_state)
end Go.Vc

namespace Go.Vc
open Go.Proofs
set_option maxRecDepth 10000
set_option maxHeartbeats 4000000
theorem dw_le (p : UInt8 → Bool) (l : List UInt8) : (l.dropWhile p).length ≤ l.length := (List.dropWhile_sublist p (l := l)).length_le
instance rTL (s : List UInt8) : Fn BB 106 [.str s, .str [9, 10, 12, 13, 32]] True (.str (s.dropWhile spB)) := by
  refine Fn.liftB Tryz.call106 fun hp r β w vs hG m h => ?_
  obtain ⟨rfl, h1, h2⟩ := h.str2
  refine ⟨_, (Any.strings_TrimLeft_laid Tryz.lays161 (by kernel_rfl) ⟨s.toArray⟩ ⟨spS.toArray⟩ w (by decide) (fun j b hb => ?_)).mono fun e w' hh => ?_, .str (by have := dw_le spB s; omega)⟩
  · have := List.mem_of_getElem? hb
    revert this
    show b ∈ spS → _
    simp only [spS, List.mem_cons, List.not_mem_nil, or_false]
    rintro (rfl | rfl | rfl | rfl | rfl) <;> decide
  · obtain ⟨rfl, hb⟩ := hh
    refine ⟨?_, hb⟩
    show Ending.returned (Value.string ⟨(Lib.trimLeftS s spS).toArray⟩) = _
    unfold Lib.trimLeftS
    rw [show (fun x => spS.contains x) = spB from funext sp_contains]
theorem ixSp (s : List UInt8) : (0 ≤ Lib.indexAny s [9, 10, 12, 13, 32] ∧ s.take (Lib.indexAny s [9, 10, 12, 13, 32]).toNat = s.takeWhile (fun c => !spB c)) ∨ (Lib.indexAny s [9, 10, 12, 13, 32] = -1 ∧ s.takeWhile (fun c => !spB c) = s) := by
  have := ixAny_take spS s
  rw [show (fun c => !spS.contains c) = (fun c => !spB c) from funext fun c => by rw [sp_contains]] at this
  exact this
theorem ix_le (cs s : List UInt8) : Lib.indexAny s cs ≤ s.length := by
  induction s with
  | nil => show (-1 : Int) ≤ 0; decide
  | cons b l ih => unfold Lib.indexAny; simp only [List.length_cons]; split <;> (try split) <;> omega
instance rDoc (s : List UInt8) : Fn BB 92 [.str s] (9 ≤ s.length ∧ s.length ≤ 900000) (rkSV (docP s)) := by
  refine Fn.intro (N := 30) [0, 2, 3, 4, 5, 6, 8, 21] [] Tryz.call92 Tryz.func92 rfl rfl (by kernel_rfl) (fun hpre => ?_)
  obtain ⟨p1, p2⟩ := hpre
  have h1 := uN_le (s.drop 9) [62]
  have hl1 : ((s.drop 9).take (fnd (s.drop 9) [62])).length ≤ s.length := by simp; omega
  have hx := ixSp (((s.drop 9).take (fnd (s.drop 9) [62])).dropWhile spB)
  have hx2 := ix_le [9, 10, 12, 13, 32] (((s.drop 9).take (fnd (s.drop 9) [62])).dropWhile spB)
  have hl2 := dw_le spB ((s.drop 9).take (fnd (s.drop 9) [62]))
  have e9 : (9 : Int).toNat = 9 := rfl
  rw [List.length_drop] at h1
  have eD : docN s = lowL ((((s.drop 9).take (fnd (s.drop 9) [62])).dropWhile spB).takeWhile fun c => !spB c) := rfl
  have eU : (docP s).2.2.2.1 = ((9 + uN (s.drop 9) [62] : Nat) : Int) := rfl
  have eN : (docP s).2.1 = docN s := rfl
  have hsl : (s.drop 9).length ≤ 1000000 := by rw [List.length_drop]; omega
  repeat' ((conv => whnf);first|(with_reducible first|rfl|exact absTF|exact absFT)|exact True.intro|intro _|refine And.intro ?_ ?_|refine Fin.mk ?_|refine W1 rfl ?_ ?_|refine W2 rfl ?_ ?_|refine W3 rfl ?_ ?_|refine W4 ?_ ?_|refine W5 rfl ?_ ?_|refine W6 ?_ ?_|refine AppN.mk ?_|refine X1 (W1 rfl ?_ ?_)|refine X1 (W2 rfl ?_ ?_)|refine X2 (W7 rfl ?_ ?_)|refine X3 (W7 rfl ?_ ?_)|refine X4 (W7 rfl ?_ ?_)|refine X5 (W7 rfl ?_ ?_))
  all_goals (try (conv => whnf))
  all_goals (try first|exact Ob.mk (u8_bnd _)|(refine Ob.mk ?_;first|exact True.intro|assumption|omega|(try simp only [ZA,ZB,ZC,ZD,ZE,ZF,ZG,ZH,ZI,ZJ,ZK,ZL,ZM,ZN,ZO,Int.toNat_natCast,UInt8.ofNat_toNat,cast_eq] at *;omega)))
  all_goals (try first|(show (_:Int) = _;omega)|(show tupSV _ = _;with_unfolding_all rfl)|((first|show (_:Nat) ≤ _|show (_:Nat) ≤ _ ∧ (_:Nat) ≤ _|show (_:Int) ≤ _ ∧ (_:Int) ≤ _ ∧ (_:Int) ≤ _ ∧ (_:Int) ≤ _);(simp <;> omega)))
  all_goals (try simp only [e9] at *)
  all_goals (generalize ((s.drop 9).take (fnd (s.drop 9) [62])).dropWhile spB = R at *)
  all_goals (try rw [eU])
  all_goals (try rw [eN, eD])
  all_goals (first | rfl | exact ⟨by decide, hsl⟩ | exact ⟨by omega, by decide, by decide, by decide⟩ | (constructor <;> omega) | skip)
  · exact ⟨of_decide_eq_true ‹_›, hx2⟩
  · rcases hx with ⟨hx1, hx3⟩ | ⟨hx1, hx3⟩
    · rw [hx3]
    · exfalso; have h := of_decide_eq_true ‹decide (Lib.indexAny R [9, 10, 12, 13, 32] ≥ 0) = true›; omega
  · rcases hx with ⟨hx1, hx3⟩ | ⟨hx1, hx3⟩
    · exfalso; have h := of_decide_eq_false ‹decide (Lib.indexAny R [9, 10, 12, 13, 32] ≥ 0) = false›; omega
    · rw [hx3]
instance rSec (s : List UInt8) : Fn BB 93 [.str s] (9 ≤ s.length ∧ s.length ≤ 900000) (rkSV (secP s)) := by
  refine Fn.intro (N := 24) [0, 2, 3, 4, 5, 6, 16] [] Tryz.call93 Tryz.func93 rfl rfl (by kernel_rfl) (fun hpre => ?_)
  obtain ⟨p1, p2⟩ := hpre
  have h1 := uN_le (s.drop 9) mC
  rw [List.length_drop] at h1
  have hs : secD s = (s.drop 9).take (fnd (s.drop 9) mC) := rfl
  have hsl : (s.drop 9).length ≤ 1000000 := by rw [List.length_drop]; omega
  have e9 : (9 : Int).toNat = 9 := rfl
  have e1 : secD s = [] → secP s = (0, [], [], ((9 + uN (s.drop 9) mC : Nat) : Int), false) := fun h => by unfold secP; rw [if_pos h]
  have e2 : secD s ≠ [] → secP s = (3, [], secD s, ((9 + uN (s.drop 9) mC : Nat) : Int), true) := fun h => by unfold secP; rw [if_neg h]
  by_cases hq : secD s = []
  · have e := e1 hq
    repeat' ((conv => whnf);first|(with_reducible first|rfl|exact absTF|exact absFT)|exact True.intro|intro _|refine And.intro ?_ ?_|refine Fin.mk ?_|refine W1 rfl ?_ ?_|refine W2 rfl ?_ ?_|refine W3 rfl ?_ ?_|refine W4 ?_ ?_|refine W5 rfl ?_ ?_|refine W6 ?_ ?_|refine AppN.mk ?_|refine X1 (W1 rfl ?_ ?_)|refine X1 (W2 rfl ?_ ?_)|refine X2 (W7 rfl ?_ ?_)|refine X3 (W7 rfl ?_ ?_)|refine X4 (W7 rfl ?_ ?_)|refine X5 (W7 rfl ?_ ?_))
    all_goals (try (conv => whnf))
    all_goals (try first|exact Ob.mk (u8_bnd _)|(refine Ob.mk ?_;first|exact True.intro|assumption|omega|(try simp only [ZA,ZB,ZC,ZD,ZE,ZF,ZG,ZH,ZI,ZJ,ZK,ZL,ZM,ZN,ZO,Int.toNat_natCast,UInt8.ofNat_toNat,cast_eq] at *;omega)))
    all_goals (try first|(show (_:Int) = _;omega)|(show tupSV _ = _;with_unfolding_all rfl)|((first|show (_:Nat) ≤ _|show (_:Nat) ≤ _ ∧ (_:Nat) ≤ _|show (_:Int) ≤ _ ∧ (_:Int) ≤ _ ∧ (_:Int) ≤ _ ∧ (_:Int) ≤ _);(simp <;> omega)))
    all_goals (try (exfalso; have h : secD s ≠ [] := ‹_›; exact h hq))
    all_goals (try (exfalso; have h : (secD s == []) = false := ‹_›; rw [hq] at h; exact absurd h (by decide)))
    all_goals (first | (rw [e]; done) | exact ⟨by decide, hsl⟩ | (change InI64 (9 + ((uN (s.drop 9) mC : Nat) : Int)); constructor <;> omega) | (rw [e]; change 9 + ((uN (s.drop 9) mC : Nat) : Int) = ((9 + uN (s.drop 9) mC : Nat) : Int); omega) | trace_state)
  · have e := e2 hq
    repeat' ((conv => whnf);first|(with_reducible first|rfl|exact absTF|exact absFT)|exact True.intro|intro _|refine And.intro ?_ ?_|refine Fin.mk ?_|refine W1 rfl ?_ ?_|refine W2 rfl ?_ ?_|refine W3 rfl ?_ ?_|refine W4 ?_ ?_|refine W5 rfl ?_ ?_|refine W6 ?_ ?_|refine AppN.mk ?_|refine X1 (W1 rfl ?_ ?_)|refine X1 (W2 rfl ?_ ?_)|refine X2 (W7 rfl ?_ ?_)|refine X3 (W7 rfl ?_ ?_)|refine X4 (W7 rfl ?_ ?_)|refine X5 (W7 rfl ?_ ?_))
    all_goals (try (conv => whnf))
    all_goals (try first|exact Ob.mk (u8_bnd _)|(refine Ob.mk ?_;first|exact True.intro|assumption|omega|(try simp only [ZA,ZB,ZC,ZD,ZE,ZF,ZG,ZH,ZI,ZJ,ZK,ZL,ZM,ZN,ZO,Int.toNat_natCast,UInt8.ofNat_toNat,cast_eq] at *;omega)))
    all_goals (try first|(show (_:Int) = _;omega)|(show tupSV _ = _;with_unfolding_all rfl)|((first|show (_:Nat) ≤ _|show (_:Nat) ≤ _ ∧ (_:Nat) ≤ _|show (_:Int) ≤ _ ∧ (_:Int) ≤ _ ∧ (_:Int) ≤ _ ∧ (_:Int) ≤ _);(simp <;> omega)))
    all_goals (try (exfalso; have h : (secD s == []) = true := ‹_›; exact hq (by simpa using h)))
    all_goals (first | (rw [e]; done) | (rw [e]; rfl) | exact ⟨by decide, hsl⟩ | (change InI64 (9 + ((uN (s.drop 9) mC : Nat) : Int)); constructor <;> omega) | (rw [e]; change 9 + ((uN (s.drop 9) mC : Nat) : Int) = ((9 + uN (s.drop 9) mC : Nat) : Int); omega) | trace_state)
def isDoc (s : List UInt8) : Bool := decide ((s.length : Int) ≥ 9) && lowL ((s.take 9).drop 2) == [100, 111, 99, 116, 121, 112, 101]
abbrev cdM : List UInt8 := [60, 33, 91, 67, 68, 65, 84, 65, 91]
def cm4 (s : List UInt8) : Rk := ((comP (s.drop 4)).1, (comP (s.drop 4)).2.1, (comP (s.drop 4)).2.2.1, (comP (s.drop 4)).2.2.2.1 + 4, true)
def declP (s : List UInt8) (f : Bool) : Rk :=
  if begP s [60, 33, 45, 45] = true then cm4 s else if isDoc s = true then docP s else if (f && begP s cdM) = true then secP s else bogusP s 2
theorem com_le (s : List UInt8) : 0 ≤ (comP s).2.2.2.1 ∧ (comP s).2.2.2.1 ≤ s.length := by
  unfold comP
  have hA := fnd_cases s mA (by decide)
  have hB := fnd_cases s mB (by decide)
  have lA := fnd_le s mA
  have lB := fnd_le s mB
  have sA := fd_spec s mA (by decide)
  have sB := fd_spec s mB (by decide)
  have z : mA.length = 3 ∧ mB.length = 4 := ⟨rfl, rfl⟩
  split
  · rename_i h; unfold begP at h; rw [Bool.and_eq_true] at h; have := of_decide_eq_true h.1; simp at this ⊢; omega
  · split
    · rename_i h; unfold begP at h; rw [Bool.and_eq_true] at h; have := of_decide_eq_true h.1; simp at this ⊢; omega
    · split
      · simp
      · rename_i h
        have h' : fdB s mA = true ∨ fdB s mB = true := by
          cases h1 : fdB s mA <;> cases h2 : fdB s mB <;> simp_all
        split
        · simp only
          cases h2 : fdB s mB
          · have := sB.2 h2; omega
          · have := sB.1 h2; omega
        · simp only
          cases h2 : fdB s mA
          · rcases h' with h' | h'
            · rw [h2] at h'; cases h'
            · have := sA.2 h2; have := sB.1 h'; omega
          · have := sA.1 h2; omega
instance rDecl (s : List UInt8) (f : Bool) : Fn BB 69 [.str s, .bool f] (2 ≤ s.length ∧ s.length ≤ 900000) (rkSV (declP s f)) := by
  refine Fn.intro (N := 55) [0, 1, 4, 5, 6, 7, 8, 9, 10, 17, 34, 44] [] Tryz.call69 Tryz.func69 rfl rfl (by kernel_rfl) (fun hpre => ?_)
  obtain ⟨p1, p2⟩ := hpre
  have hc := com_le (s.drop 4)
  have hl : (s.drop 4).length ≤ s.length := by simp
  have eI : lowL [100, 111, 99, 116, 121, 112, 101] = [100, 111, 99, 116, 121, 112, 101] := by decide
  have eD : (decide ((s.length : Int) ≥ 9) && lowL (List.drop (Int.toNat 2) (List.take (Int.toNat 9) s)) == lowL [100, 111, 99, 116, 121, 112, 101]) = isDoc s := by rw [eI]; rfl
  have d9 : isDoc s = true → 9 ≤ s.length := fun h => by unfold isDoc at h; rw [Bool.and_eq_true] at h; have := of_decide_eq_true h.1; omega
  have c9 : begP s cdM = true → 9 ≤ s.length := fun h => by unfold begP at h; rw [Bool.and_eq_true] at h; have := of_decide_eq_true h.1; simp at this; omega
  cases h1 : begP s [60, 33, 45, 45]
  · cases h2 : isDoc s
    · cases h3 : (f && begP s cdM)
      · have e : declP s f = bogusP s 2 := by unfold declP; rw [if_neg (by rw [h1]; decide), if_neg (by rw [h2]; decide), if_neg (by rw [h3]; decide)]
        repeat' ((conv => whnf);first|(with_reducible first|rfl|exact absTF|exact absFT)|exact True.intro|intro _|refine And.intro ?_ ?_|refine Fin.mk ?_|refine W1 rfl ?_ ?_|refine W2 rfl ?_ ?_|refine W3 rfl ?_ ?_|refine W4 ?_ ?_|refine W5 rfl ?_ ?_|refine W6 ?_ ?_|refine AppN.mk ?_|refine X1 (W1 rfl ?_ ?_)|refine X1 (W2 rfl ?_ ?_)|refine X2 (W7 rfl ?_ ?_)|refine X3 (W7 rfl ?_ ?_)|refine X4 (W7 rfl ?_ ?_)|refine X5 (W7 rfl ?_ ?_))
        all_goals (try (conv => whnf))
        all_goals (try first|exact Ob.mk (u8_bnd _)|(refine Ob.mk ?_;first|exact True.intro|assumption|omega|(try simp only [ZA,ZB,ZC,ZD,ZE,ZF,ZG,ZH,ZI,ZJ,ZK,ZL,ZM,ZN,ZO,Int.toNat_natCast,UInt8.ofNat_toNat,cast_eq] at *;omega)))
        all_goals (try first|(show (_:Int) = _;omega)|(show tupSV _ = _;with_unfolding_all rfl)|((first|show (_:Nat) ≤ _|show (_:Nat) ≤ _ ∧ (_:Nat) ≤ _|show (_:Int) ≤ _ ∧ (_:Int) ≤ _ ∧ (_:Int) ≤ _ ∧ (_:Int) ≤ _);(simp <;> omega)))
        all_goals (try (exfalso; have h : begP s [60, 33, 45, 45] = true := ‹_›; rw [h1] at h; cases h; done))
        all_goals (try (exfalso; have h : (decide ((s.length : Int) ≥ 9) && lowL (List.drop (Int.toNat 2) (List.take (Int.toNat 9) s)) == lowL [100, 111, 99, 116, 121, 112, 101]) = true := ‹_›; rw [eD, h2] at h; cases h; done))
        all_goals (try (exfalso; have h : (f && begP s cdM) = true := ‹_›; rw [h3] at h; cases h; done))
        all_goals (first | (rw [e]; done) | (rw [e]; rfl) | omega | trace_state)
      · have e : declP s f = secP s := by unfold declP; rw [if_neg (by rw [h1]; decide), if_neg (by rw [h2]; decide), if_pos h3]
        have hb : 9 ≤ s.length := c9 (by cases f <;> simp_all)
        repeat' ((conv => whnf);first|(with_reducible first|rfl|exact absTF|exact absFT)|exact True.intro|intro _|refine And.intro ?_ ?_|refine Fin.mk ?_|refine W1 rfl ?_ ?_|refine W2 rfl ?_ ?_|refine W3 rfl ?_ ?_|refine W4 ?_ ?_|refine W5 rfl ?_ ?_|refine W6 ?_ ?_|refine AppN.mk ?_|refine X1 (W1 rfl ?_ ?_)|refine X1 (W2 rfl ?_ ?_)|refine X2 (W7 rfl ?_ ?_)|refine X3 (W7 rfl ?_ ?_)|refine X4 (W7 rfl ?_ ?_)|refine X5 (W7 rfl ?_ ?_))
        all_goals (try (conv => whnf))
        all_goals (try first|exact Ob.mk (u8_bnd _)|(refine Ob.mk ?_;first|exact True.intro|assumption|omega|(try simp only [ZA,ZB,ZC,ZD,ZE,ZF,ZG,ZH,ZI,ZJ,ZK,ZL,ZM,ZN,ZO,Int.toNat_natCast,UInt8.ofNat_toNat,cast_eq] at *;omega)))
        all_goals (try first|(show (_:Int) = _;omega)|(show tupSV _ = _;with_unfolding_all rfl)|((first|show (_:Nat) ≤ _|show (_:Nat) ≤ _ ∧ (_:Nat) ≤ _|show (_:Int) ≤ _ ∧ (_:Int) ≤ _ ∧ (_:Int) ≤ _ ∧ (_:Int) ≤ _);(simp <;> omega)))
        all_goals (try (exfalso; have h : begP s [60, 33, 45, 45] = true := ‹_›; rw [h1] at h; cases h; done))
        all_goals (try (exfalso; have h : (decide ((s.length : Int) ≥ 9) && lowL (List.drop (Int.toNat 2) (List.take (Int.toNat 9) s)) == lowL [100, 111, 99, 116, 121, 112, 101]) = true := ‹_›; rw [eD, h2] at h; cases h; done))
        all_goals (try (exfalso; have h : (f && begP s cdM) = false := ‹_›; rw [h3] at h; cases h; done))
        all_goals (first | (rw [e]; done) | (rw [e]; rfl) | omega | trace_state)
    · have e : declP s f = docP s := by unfold declP; rw [if_neg (by rw [h1]; decide), if_pos h2]
      have hb : 9 ≤ s.length := d9 h2
      repeat' ((conv => whnf);first|(with_reducible first|rfl|exact absTF|exact absFT)|exact True.intro|intro _|refine And.intro ?_ ?_|refine Fin.mk ?_|refine W1 rfl ?_ ?_|refine W2 rfl ?_ ?_|refine W3 rfl ?_ ?_|refine W4 ?_ ?_|refine W5 rfl ?_ ?_|refine W6 ?_ ?_|refine AppN.mk ?_|refine X1 (W1 rfl ?_ ?_)|refine X1 (W2 rfl ?_ ?_)|refine X2 (W7 rfl ?_ ?_)|refine X3 (W7 rfl ?_ ?_)|refine X4 (W7 rfl ?_ ?_)|refine X5 (W7 rfl ?_ ?_))
      all_goals (try (conv => whnf))
      all_goals (try first|exact Ob.mk (u8_bnd _)|(refine Ob.mk ?_;first|exact True.intro|assumption|omega|(try simp only [ZA,ZB,ZC,ZD,ZE,ZF,ZG,ZH,ZI,ZJ,ZK,ZL,ZM,ZN,ZO,Int.toNat_natCast,UInt8.ofNat_toNat,cast_eq] at *;omega)))
      all_goals (try first|(show (_:Int) = _;omega)|(show tupSV _ = _;with_unfolding_all rfl)|((first|show (_:Nat) ≤ _|show (_:Nat) ≤ _ ∧ (_:Nat) ≤ _|show (_:Int) ≤ _ ∧ (_:Int) ≤ _ ∧ (_:Int) ≤ _ ∧ (_:Int) ≤ _);(simp <;> omega)))
      all_goals (try (exfalso; have h : begP s [60, 33, 45, 45] = true := ‹_›; rw [h1] at h; cases h; done))
      all_goals (try (exfalso; have h : (decide ((s.length : Int) ≥ 9) && lowL (List.drop (Int.toNat 2) (List.take (Int.toNat 9) s)) == lowL [100, 111, 99, 116, 121, 112, 101]) = false := ‹_›; rw [eD, h2] at h; cases h; done))
      all_goals (first | (rw [e]; done) | (rw [e]; rfl) | omega | trace_state)
  · have e : declP s f = cm4 s := by unfold declP; rw [if_pos h1]
    have eS : (if begP s [60, 33, 45, 45] = true then s.drop ([60, 33, 45, 45] : List UInt8).length else s) = s.drop 4 := if_pos h1
    repeat' ((conv => whnf);first|(with_reducible first|rfl|exact absTF|exact absFT)|exact True.intro|intro _|refine And.intro ?_ ?_|refine Fin.mk ?_|refine W1 rfl ?_ ?_|refine W2 rfl ?_ ?_|refine W3 rfl ?_ ?_|refine W4 ?_ ?_|refine W5 rfl ?_ ?_|refine W6 ?_ ?_|refine AppN.mk ?_|refine X1 (W1 rfl ?_ ?_)|refine X1 (W2 rfl ?_ ?_)|refine X2 (W7 rfl ?_ ?_)|refine X3 (W7 rfl ?_ ?_)|refine X4 (W7 rfl ?_ ?_)|refine X5 (W7 rfl ?_ ?_))
    all_goals (try (conv => whnf))
    all_goals (try first|exact Ob.mk (u8_bnd _)|(refine Ob.mk ?_;first|exact True.intro|assumption|omega|(try simp only [ZA,ZB,ZC,ZD,ZE,ZF,ZG,ZH,ZI,ZJ,ZK,ZL,ZM,ZN,ZO,Int.toNat_natCast,UInt8.ofNat_toNat,cast_eq] at *;omega)))
    all_goals (try first|(show (_:Int) = _;omega)|(show tupSV _ = _;with_unfolding_all rfl)|((first|show (_:Nat) ≤ _|show (_:Nat) ≤ _ ∧ (_:Nat) ≤ _|show (_:Int) ≤ _ ∧ (_:Int) ≤ _ ∧ (_:Int) ≤ _ ∧ (_:Int) ≤ _);(simp <;> omega)))
    all_goals (try (exfalso; have h : begP s [60, 33, 45, 45] = false := ‹_›; rw [h1] at h; cases h; done))
    all_goals (try rw [eS])
    all_goals (first | (rw [e]; done) | (rw [e]; rfl) | omega | (constructor <;> omega) | trace_state)
def r0 (s : List UInt8) : Bool := decide ((s.length : Int) < 2) || ((s.getD 0 0).toNat : Int) != 60
def rk (s : List UInt8) (k : Int) : Bool := ((s.getD 1 0).toNat : Int) == k
def r62 (s : List UInt8) : Bool := decide ((s.length : Int) > 2) && ((s.getD 2 0).toNat : Int) == 62
def rAl (s : List UInt8) : Bool := decide ((s.length : Int) > 2) && !alI ((s.getD 2 0).toNat : Int)
def readP (s : List UInt8) (f : Bool) : Rk :=
  if r0 s = true then (0, [], [], 0, false)
  else if rk s 33 = true then declP s f
  else if rk s 63 = true then bogusP s 1
  else if rk s 47 = true then (if r62 s = true then (0, [], [], 3, false) else if rAl s = true then bogusP s 2 else (0, [], [], 0, false))
  else (0, [], [], 0, false)
instance rRead (s : List UInt8) (f : Bool) : Fn BB 37 [.str s, .bool f] (s.length ≤ 900000) (rkSV (readP s f)) := by
  refine Fn.intro (N := 59) [0, 1, 4, 5, 6, 14, 17, 18, 26, 33, 42, 52] [] Tryz.call37 Tryz.func37 rfl rfl (by kernel_rfl) (fun hpre => ?_)
  have c0 : (decide ((s.length : Int) < 2) || ((s.getD (Int.toNat 0) 0).toNat : Int) != 60) = r0 s := rfl
  have ck : ∀ k : Int, (((s.getD (Int.toNat 1) 0).toNat : Int) == k) = rk s k := fun k => rfl
  have c62 : (decide ((s.length : Int) > 2) && ((s.getD (Int.toNat 2) 0).toNat : Int) == 62) = r62 s := rfl
  have cAl : (decide ((s.length : Int) > 2) && !alI ((s.getD (Int.toNat 2) 0).toNat : Int)) = rAl s := rfl
  have l2 : r0 s = false → 2 ≤ s.length := fun h => by
    unfold r0 at h; rw [Bool.or_eq_false_iff] at h; have := of_decide_eq_false h.1; omega
  have l3 : rAl s = true → 3 ≤ s.length := fun h => by
    unfold rAl at h; rw [Bool.and_eq_true] at h; have := of_decide_eq_true h.1; omega
  have hb := u8_bnd (s.getD 2 0)
  repeat' ((conv => whnf);first|(with_reducible first|rfl|exact absTF|exact absFT)|exact True.intro|intro _|refine And.intro ?_ ?_|refine Fin.mk ?_|refine W1 rfl ?_ ?_|refine W2 rfl ?_ ?_|refine W3 rfl ?_ ?_|refine W4 ?_ ?_|refine W5 rfl ?_ ?_|refine W6 ?_ ?_|refine AppN.mk ?_|refine X1 (W1 rfl ?_ ?_)|refine X1 (W2 rfl ?_ ?_)|refine X2 (W7 rfl ?_ ?_)|refine X3 (W7 rfl ?_ ?_)|refine X4 (W7 rfl ?_ ?_)|refine X5 (W7 rfl ?_ ?_))
  all_goals (try (conv => whnf))
  all_goals (try first|exact Ob.mk (u8_bnd _)|(refine Ob.mk ?_;first|exact True.intro|assumption|omega|(try simp only [ZA,ZB,ZC,ZD,ZE,ZF,ZG,ZH,ZI,ZJ,ZK,ZL,ZM,ZN,ZO,Int.toNat_natCast,UInt8.ofNat_toNat,cast_eq] at *;omega)))
  all_goals (try first|(show (_:Int) = _;omega)|(show tupSV _ = _;with_unfolding_all rfl)|((first|show (_:Nat) ≤ _|show (_:Nat) ≤ _ ∧ (_:Nat) ≤ _|show (_:Int) ≤ _ ∧ (_:Int) ≤ _ ∧ (_:Int) ≤ _ ∧ (_:Int) ≤ _);(simp <;> omega)))
  all_goals (try simp only [c0, c62, cAl, ck] at *)
  all_goals (try (have h2 := l2 ‹r0 s = false›))
  all_goals (try (have h3 := l3 ‹rAl s = true›))
  all_goals (first | omega | (simp only [readP, *, if_true, if_false, Bool.false_eq_true]; done) | (simp only [readP, *, if_true, if_false, Bool.false_eq_true]; rfl) | exact hb | exact ⟨by omega, by omega, by omega⟩ | trace_state)
end Go.Vc

namespace Go.Vc
open Go.Proofs
set_option maxRecDepth 10000
set_option maxHeartbeats 8000000
theorem loop_up {p : UInt8 → Bool} {s : List UInt8} {j i0 : Nat} (hq : upTo p s j = upTo p s i0) (b : Bool) (h : (decide (j < s.length) && p (s.getD j 0)) = b) (hj : j ≤ s.length) :
    (b = true → j < s.length ∧ upTo p s (j + 1) = upTo p s i0) ∧ (b = false → j = upTo p s i0) := by
  constructor
  · rintro rfl
    rw [Bool.and_eq_true, decide_eq_true_eq] at h
    exact ⟨h.1, (upTo_step p s j h.1 h.2).trans hq⟩
  · rintro rfl
    rw [← hq]
    rcases Nat.lt_or_ge j s.length with hl | hl
    · rw [decide_eq_true hl, Bool.true_and] at h
      rw [upTo_stop p s j hl h]
    · rw [upTo_end p s j hl]
theorem dlt (j : Nat) (s : List UInt8) : decide ((j : Int) < (s.length : Int)) = decide (j < s.length) := by rw [Bool.eq_iff_iff]; simp
instance gSkip (s : List UInt8) (i : Int) : Fn BB 57 [.str s, .int .i64 i] (0 ≤ i ∧ i ≤ s.length ∧ s.length ≤ 100000) (.int .i64 (upTo blB s i.toNat : Nat)) := by
  refine Fn.intro (N := 18) [0, 1, 4, 14] [] Tryz.call57 Tryz.func57 rfl rfl (by kernel_rfl) (fun hpre => ?_)
  obtain ⟨p0, p1, p2⟩ := hpre
  obtain ⟨i, rfl⟩ := Int.eq_ofNat_of_zero_le p0
  rw [Int.toNat_natCast]
  repeat' ((conv => whnf);first|(with_reducible first|rfl|exact absTF|exact absFT)|exact True.intro|intro _|refine And.intro ?_ ?_|refine Fin.mk ?_|refine W1 rfl ?_ ?_|refine W2 rfl ?_ ?_|refine W3 rfl ?_ ?_|refine W4 ?_ ?_|refine W5 rfl ?_ ?_|refine W6 ?_ ?_|refine AppN.mk ?_|refine X1 (W1 rfl ?_ ?_)|refine X1 (W2 rfl ?_ ?_)|refine X2 (W7 rfl ?_ ?_)|refine X3 (W7 rfl ?_ ?_)|refine X4 (W7 rfl ?_ ?_)|refine X5 (W7 rfl ?_ ?_))
  all_goals (try (conv => whnf))
  all_goals (try first|exact Ob.mk (u8_bnd _)|(refine Ob.mk ?_;first|exact True.intro|assumption|omega|(try simp only [ZA,ZB,ZC,ZD,ZE,ZF,ZG,ZH,ZI,ZJ,ZK,ZL,ZM,ZN,ZO,Int.toNat_natCast,UInt8.ofNat_toNat,cast_eq] at *;omega)))
  all_goals (try first|(show (_:Int) = _;omega)|(show tupSV _ = _;with_unfolding_all rfl)|((first|show (_:Nat) ≤ _|show (_:Nat) ≤ _ ∧ (_:Nat) ≤ _|show (_:Int) ≤ _ ∧ (_:Int) ≤ _ ∧ (_:Int) ≤ _ ∧ (_:Int) ≤ _);(simp <;> omega)))
  refine LoopStop.mk (α := Nat) (fun j => [(1, .int .i64 j)]) (fun j => []) 20 (fun j => j ≤ s.length ∧ upTo blB s j = upTo blB s i) (fun j => s.length - j) i ⟨by omega, rfl⟩ ?_ (fun j hj => ?_)
  · repeat' ((conv => whnf);first|(with_reducible first|rfl|exact absTF|exact absFT)|exact True.intro|intro _|refine And.intro ?_ ?_|refine Fin.mk ?_|refine W1 rfl ?_ ?_|refine W2 rfl ?_ ?_|refine W3 rfl ?_ ?_|refine W4 ?_ ?_|refine W5 rfl ?_ ?_|refine W6 ?_ ?_|refine AppN.mk ?_|refine X1 (W1 rfl ?_ ?_)|refine X1 (W2 rfl ?_ ?_)|refine X2 (W7 rfl ?_ ?_)|refine X3 (W7 rfl ?_ ?_)|refine X4 (W7 rfl ?_ ?_)|refine X5 (W7 rfl ?_ ?_))
    all_goals (try (conv => whnf))
    all_goals (try first|exact Ob.mk (u8_bnd _)|(refine Ob.mk ?_;first|exact True.intro|assumption|omega|(try simp only [ZA,ZB,ZC,ZD,ZE,ZF,ZG,ZH,ZI,ZJ,ZK,ZL,ZM,ZN,ZO,Int.toNat_natCast,UInt8.ofNat_toNat,cast_eq] at *;omega)))
    all_goals (try first|(show (_:Int) = _;omega)|(show tupSV _ = _;with_unfolding_all rfl)|((first|show (_:Nat) ≤ _|show (_:Nat) ≤ _ ∧ (_:Nat) ≤ _|show (_:Int) ≤ _ ∧ (_:Int) ≤ _ ∧ (_:Int) ≤ _ ∧ (_:Int) ≤ _);(simp <;> omega)))
    all_goals rfl
  · obtain ⟨q1, q2⟩ := hj
    have cc : (decide ((j : Int) < (s.length : Int)) && W.isSp ((s.getD ((j : Int)).toNat 0).toNat : Int)) = (decide (j < s.length) && blB (s.getD j 0)) := by rw [Int.toNat_natCast, dlt]; rfl
    repeat' ((conv => whnf);first|(with_reducible first|rfl|exact absTF|exact absFT)|exact True.intro|intro _|refine And.intro ?_ ?_|refine Fin.mk ?_|refine W1 rfl ?_ ?_|refine W2 rfl ?_ ?_|refine W3 rfl ?_ ?_|refine W4 ?_ ?_|refine W5 rfl ?_ ?_|refine W6 ?_ ?_|refine AppN.mk ?_|refine X1 (W1 rfl ?_ ?_)|refine X1 (W2 rfl ?_ ?_)|refine X2 (W7 rfl ?_ ?_)|refine X3 (W7 rfl ?_ ?_)|refine X4 (W7 rfl ?_ ?_)|refine X5 (W7 rfl ?_ ?_))
    all_goals (try (conv => whnf))
    all_goals (try first|exact Ob.mk (u8_bnd _)|(refine Ob.mk ?_;first|exact True.intro|assumption|omega|(try simp only [ZA,ZB,ZC,ZD,ZE,ZF,ZG,ZH,ZI,ZJ,ZK,ZL,ZM,ZN,ZO,Int.toNat_natCast,UInt8.ofNat_toNat,cast_eq] at *;omega)))
    all_goals (try first|(show (_:Int) = _;omega)|(show tupSV _ = _;with_unfolding_all rfl)|((first|show (_:Nat) ≤ _|show (_:Nat) ≤ _ ∧ (_:Nat) ≤ _|show (_:Int) ≤ _ ∧ (_:Int) ≤ _ ∧ (_:Int) ≤ _ ∧ (_:Int) ≤ _);(simp <;> omega)))
    all_goals (simp only [cc] at *)
    · obtain ⟨h1, h2⟩ := (loop_up q2 true ‹_› q1).1 rfl
      refine Rnd.mk ⟨j + 1, ⟨by omega, h2⟩, by omega, ?_⟩
      repeat' ((conv => whnf);first|(with_reducible first|rfl|exact absTF|exact absFT)|exact True.intro|intro _|refine And.intro ?_ ?_|refine Fin.mk ?_|refine W1 rfl ?_ ?_|refine W2 rfl ?_ ?_|refine W3 rfl ?_ ?_|refine W4 ?_ ?_|refine W5 rfl ?_ ?_|refine W6 ?_ ?_|refine AppN.mk ?_|refine X1 (W1 rfl ?_ ?_)|refine X1 (W2 rfl ?_ ?_)|refine X2 (W7 rfl ?_ ?_)|refine X3 (W7 rfl ?_ ?_)|refine X4 (W7 rfl ?_ ?_)|refine X5 (W7 rfl ?_ ?_))
      all_goals (try (conv => whnf))
      all_goals (try first|exact Ob.mk (u8_bnd _)|(refine Ob.mk ?_;first|exact True.intro|assumption|omega|(try simp only [ZA,ZB,ZC,ZD,ZE,ZF,ZG,ZH,ZI,ZJ,ZK,ZL,ZM,ZN,ZO,Int.toNat_natCast,UInt8.ofNat_toNat,cast_eq] at *;omega)))
      all_goals (try first|(show (_:Int) = _;omega)|(show tupSV _ = _;with_unfolding_all rfl)|((first|show (_:Nat) ≤ _|show (_:Nat) ≤ _ ∧ (_:Nat) ≤ _|show (_:Int) ≤ _ ∧ (_:Int) ≤ _ ∧ (_:Int) ≤ _ ∧ (_:Int) ≤ _);(simp <;> omega)))
      all_goals rfl
    · rw [← (loop_up q2 false ‹_› q1).2 rfl]
def valR (s : List UInt8) (i : Nat) : List UInt8 × Nat × Bool := if s.length ≤ i then ([], i, false) else valS s i
theorem ixb_miss (l : List UInt8) (c : UInt8) (h : ∀ j < l.length, l.getD j 0 ≠ c) : Lib.indexByte l c = -1 := by
  induction l with
  | nil => rfl
  | cons b r ih =>
    have h0 := h 0 (by simp)
    have := ih fun j hj => by have := h (j + 1) (by simp; omega); simpa using this
    unfold Lib.indexByte
    rw [if_neg (by simpa using h0), this]; rfl
theorem ixb_hit (l : List UInt8) (c : UInt8) (k : Nat) (hk : k < l.length) (h : ∀ j < k, l.getD j 0 ≠ c) (hc : l.getD k 0 = c) : Lib.indexByte l c = k := by
  induction l generalizing k with
  | nil => simp at hk
  | cons b r ih =>
    cases k with
    | zero => unfold Lib.indexByte; rw [if_pos (by simpa using hc)]; rfl
    | succ k =>
      have h0 := h 0 (by omega)
      have := ih k (by simpa using hk) (fun j hj => by have := h (j + 1) (by omega); simpa using this) (by simpa using hc)
      unfold Lib.indexByte
      rw [if_neg (by simpa using h0), this, if_neg (by simp)]
      simp
instance gValue (s : List UInt8) (i : Int) : Fn BB 83 [.str s, .int .i64 i] (0 ≤ i ∧ i ≤ s.length ∧ s.length ≤ 100000) (.tup [.str (valR s i.toNat).1, .int .i64 ((valR s i.toNat).2.1 : Nat), .bool (valR s i.toNat).2.2]) := by
  refine Fn.intro (N := 72) [0, 1, 4, 5, 6, 7, 8, 12, 23, 29, 38, 64] [(7, [0, 0, 0, 0, 0, 0, 0])] Tryz.call83 Tryz.func83 rfl rfl (by kernel_rfl) (fun hpre => ?_)
  obtain ⟨p0, p1, p2⟩ := hpre
  obtain ⟨i, rfl⟩ := Int.eq_ofNat_of_zero_le p0
  have ei : ((i : Int)).toNat = i := Int.toNat_natCast i
  rw [ei]
  have v0 : decide ((i : Int) ≥ (s.length : Int)) = true → valR s i = ([], i, false) := fun h => by
    have h := of_decide_eq_true h; unfold valR; rw [if_pos (by omega)]
  have v1 : decide ((i : Int) ≥ (s.length : Int)) = false → valR s i = valS s i ∧ i < s.length := fun h => by
    have h := of_decide_eq_false h; unfold valR; rw [if_neg (by omega)]; exact ⟨rfl, by omega⟩
  have cq : (((s.getD ((i : Int)).toNat 0).toNat : Int) == 34 || ((s.getD ((i : Int)).toNat 0).toNat : Int) == 39) = qB (s.getD i 0) := by
    rw [ei]; unfold qB
    rw [show (((s.getD i 0).toNat : Int) == 34) = (s.getD i 0 == 34) from b_iff _ 34, show (((s.getD i 0).toNat : Int) == 39) = (s.getD i 0 == 39) from b_iff _ 39]
  repeat' ((conv => whnf);first|(with_reducible first|rfl|exact absTF|exact absFT)|exact True.intro|intro _|refine And.intro ?_ ?_|refine Fin.mk ?_|refine W1 rfl ?_ ?_|refine W2 rfl ?_ ?_|refine W3 rfl ?_ ?_|refine W4 ?_ ?_|refine W5 rfl ?_ ?_|refine W6 ?_ ?_|refine AppN.mk ?_|refine X1 (W1 rfl ?_ ?_)|refine X1 (W2 rfl ?_ ?_)|refine X2 (W7 rfl ?_ ?_)|refine X3 (W7 rfl ?_ ?_)|refine X4 (W7 rfl ?_ ?_)|refine X5 (W7 rfl ?_ ?_))
  all_goals (try (conv => whnf))
  all_goals (try first|exact Ob.mk (u8_bnd _)|(refine Ob.mk ?_;first|exact True.intro|assumption|omega|(try simp only [ZA,ZB,ZC,ZD,ZE,ZF,ZG,ZH,ZI,ZJ,ZK,ZL,ZM,ZN,ZO,Int.toNat_natCast,UInt8.ofNat_toNat,cast_eq] at *;omega)))
  all_goals (try first|(show (_:Int) = _;omega)|(show tupSV _ = _;with_unfolding_all rfl)|((first|show (_:Nat) ≤ _|show (_:Nat) ≤ _ ∧ (_:Nat) ≤ _|show (_:Int) ≤ _ ∧ (_:Int) ≤ _ ∧ (_:Int) ≤ _ ∧ (_:Int) ≤ _);(simp <;> omega)))
  all_goals (try (have hv := v0 ‹_›; first | (rw [hv]; done) | (rw [hv]; rfl)))
  all_goals (have hv := v1 ‹_›; obtain ⟨hv, hl⟩ := hv)
  all_goals (try simp only [cq] at *)
  all_goals (try omega)
  · have hq : qB (s.getD i 0) = true := ‹_›
    have hd : ∀ j, (s.drop (i + 1)).getD j 0 = s.getD (i + 1 + j) 0 := fun j => by simp [List.getD]
    have hld : (s.drop (i + 1)).length = s.length - (i + 1) := List.length_drop
    refine LoopStop.mk (α := Nat) (fun k => [(7, .int .i64 k)]) (fun k => []) 20 (fun k => i + 1 ≤ k ∧ k ≤ s.length ∧ ∀ j < k - (i + 1), (s.drop (i + 1)).getD j 0 ≠ s.getD i 0) (fun k => s.length - k) (i + 1) ⟨by omega, by omega, fun j hj => by omega⟩ ?_ (fun k hk => ?_)
    · repeat' ((conv => whnf);first|(with_reducible first|rfl|exact absTF|exact absFT)|exact True.intro|intro _|refine And.intro ?_ ?_|refine Fin.mk ?_|refine W1 rfl ?_ ?_|refine W2 rfl ?_ ?_|refine W3 rfl ?_ ?_|refine W4 ?_ ?_|refine W5 rfl ?_ ?_|refine W6 ?_ ?_|refine AppN.mk ?_|refine X1 (W1 rfl ?_ ?_)|refine X1 (W2 rfl ?_ ?_)|refine X2 (W7 rfl ?_ ?_)|refine X3 (W7 rfl ?_ ?_)|refine X4 (W7 rfl ?_ ?_)|refine X5 (W7 rfl ?_ ?_))
      all_goals (try (conv => whnf))
      all_goals (try first|exact Ob.mk (u8_bnd _)|(refine Ob.mk ?_;first|exact True.intro|assumption|omega|(try simp only [ZA,ZB,ZC,ZD,ZE,ZF,ZG,ZH,ZI,ZJ,ZK,ZL,ZM,ZN,ZO,Int.toNat_natCast,UInt8.ofNat_toNat,cast_eq] at *;omega)))
      all_goals (try first|(show (_:Int) = _;omega)|(show tupSV _ = _;with_unfolding_all rfl)|((first|show (_:Nat) ≤ _|show (_:Nat) ≤ _ ∧ (_:Nat) ≤ _|show (_:Int) ≤ _ ∧ (_:Int) ≤ _ ∧ (_:Int) ≤ _ ∧ (_:Int) ≤ _);(simp <;> omega)))
      all_goals rfl
    · obtain ⟨k1, k2, k3⟩ := hk
      have cb : (((s.getD k 0).toNat : Int) == ((s.getD i 0).toNat : Int)) = (s.getD k 0 == s.getD i 0) := b_iff _ _
      have ek : (s.drop (i + 1)).getD (k - (i + 1)) 0 = s.getD k 0 := by rw [hd]; congr 1; omega
      have tn : ((i : Int) + 1).toNat = i + 1 := by omega
      repeat' ((conv => whnf);first|(with_reducible first|rfl|exact absTF|exact absFT)|exact True.intro|intro _|refine And.intro ?_ ?_|refine Fin.mk ?_|refine W1 rfl ?_ ?_|refine W2 rfl ?_ ?_|refine W3 rfl ?_ ?_|refine W4 ?_ ?_|refine W5 rfl ?_ ?_|refine W6 ?_ ?_|refine AppN.mk ?_|refine X1 (W1 rfl ?_ ?_)|refine X1 (W2 rfl ?_ ?_)|refine X2 (W7 rfl ?_ ?_)|refine X3 (W7 rfl ?_ ?_)|refine X4 (W7 rfl ?_ ?_)|refine X5 (W7 rfl ?_ ?_))
      all_goals (try (conv => whnf))
      all_goals (try first|exact Ob.mk (u8_bnd _)|(refine Ob.mk ?_;first|exact True.intro|assumption|omega|(try simp only [ZA,ZB,ZC,ZD,ZE,ZF,ZG,ZH,ZI,ZJ,ZK,ZL,ZM,ZN,ZO,Int.toNat_natCast,UInt8.ofNat_toNat,cast_eq] at *;omega)))
      all_goals (try first|(show (_:Int) = _;omega)|(show tupSV _ = _;with_unfolding_all rfl)|((first|show (_:Nat) ≤ _|show (_:Nat) ≤ _ ∧ (_:Nat) ≤ _|show (_:Int) ≤ _ ∧ (_:Int) ≤ _ ∧ (_:Int) ≤ _ ∧ (_:Int) ≤ _);(simp <;> omega)))
      all_goals (try simp only [tn, Int.toNat_natCast] at *)
      all_goals (try simp only [cb] at *)
      all_goals (try (have hl2 : k < s.length := by have h := of_decide_eq_true ‹decide ((k : Int) < (s.length : Int)) = true›; omega))
      all_goals (try (
        have hhit : s.getD k 0 = s.getD i 0 := by have h : (s.getD k 0 == s.getD i 0) = true := ‹_›; simpa using h
        have hx := ixb_hit (s.drop (i + 1)) (s.getD i 0) (k - (i + 1)) (by omega) k3 (ek.trans hhit)
        have hV : valS s i = ((s.take k).drop (i + 1), k + 1, true) := by
          unfold valS; rw [hq, if_pos rfl, hx, if_neg (by omega), Int.toNat_natCast, List.drop_take]
          congr 2; omega
        rw [hv, hV]; done))
      all_goals (try (
        have hhit : s.getD k 0 = s.getD i 0 := by have h : (s.getD k 0 == s.getD i 0) = true := ‹_›; simpa using h
        have hx := ixb_hit (s.drop (i + 1)) (s.getD i 0) (k - (i + 1)) (by omega) k3 (ek.trans hhit)
        have hV : valS s i = ((s.take k).drop (i + 1), k + 1, true) := by
          unfold valS; rw [hq, if_pos rfl, hx, if_neg (by omega), Int.toNat_natCast, List.drop_take]
          congr 2; omega
        rw [hv, hV]; rfl))
      all_goals (try (exact ⟨by omega, by omega, by omega⟩))
      · have hmiss : s.getD k 0 ≠ s.getD i 0 := by have h : (s.getD k 0 == s.getD i 0) = false := ‹_›; simpa using h
        refine Rnd.mk ⟨k + 1, ⟨by omega, by omega, fun j hj => ?_⟩, by omega, ?_⟩
        · rcases (by omega : j < k - (i + 1) ∨ j = k - (i + 1)) with q | q
          · exact k3 j q
          · rw [q, ek]; exact hmiss
        · repeat' ((conv => whnf);first|(with_reducible first|rfl|exact absTF|exact absFT)|exact True.intro|intro _|refine And.intro ?_ ?_|refine Fin.mk ?_|refine W1 rfl ?_ ?_|refine W2 rfl ?_ ?_|refine W3 rfl ?_ ?_|refine W4 ?_ ?_|refine W5 rfl ?_ ?_|refine W6 ?_ ?_|refine AppN.mk ?_|refine X1 (W1 rfl ?_ ?_)|refine X1 (W2 rfl ?_ ?_)|refine X2 (W7 rfl ?_ ?_)|refine X3 (W7 rfl ?_ ?_)|refine X4 (W7 rfl ?_ ?_)|refine X5 (W7 rfl ?_ ?_))
          all_goals (try (conv => whnf))
          all_goals (try first|exact Ob.mk (u8_bnd _)|(refine Ob.mk ?_;first|exact True.intro|assumption|omega|(try simp only [ZA,ZB,ZC,ZD,ZE,ZF,ZG,ZH,ZI,ZJ,ZK,ZL,ZM,ZN,ZO,Int.toNat_natCast,UInt8.ofNat_toNat,cast_eq] at *;omega)))
          all_goals (try first|(show (_:Int) = _;omega)|(show tupSV _ = _;with_unfolding_all rfl)|((first|show (_:Nat) ≤ _|show (_:Nat) ≤ _ ∧ (_:Nat) ≤ _|show (_:Int) ≤ _ ∧ (_:Int) ≤ _ ∧ (_:Int) ≤ _ ∧ (_:Int) ≤ _);(simp <;> omega)))
          all_goals rfl
      all_goals (
        have hl3 : ¬ k < s.length := by have h := of_decide_eq_false ‹decide ((k : Int) < (s.length : Int)) = false›; omega
        have hx := ixb_miss (s.drop (i + 1)) (s.getD i 0) (fun j hj => k3 j (by omega))
        have hV : valS s i = ([], i, false) := by unfold valS; rw [hq, if_pos rfl, hx, if_pos (by omega)])
      all_goals (first | (rw [hv, hV]; done) | (rw [hv, hV]; rfl) | trace_state)
  · have hq : qB (s.getD i 0) = false := ‹_›
    have hV : valS s i = ((s.take (upTo (stP [62]) s i)).drop i, upTo (stP [62]) s i, true) := by unfold valS; rw [hq]; rfl
    have hu := upTo_le (stP [62]) s i (by omega)
    refine LoopStop.mk (α := Nat) (fun j => [(8, .int .i64 j)]) (fun j => []) 40 (fun j => i ≤ j ∧ j ≤ s.length ∧ upTo (stP [62]) s j = upTo (stP [62]) s i) (fun j => s.length - j) i ⟨by omega, by omega, rfl⟩ ?_ (fun j hj => ?_)
    · repeat' ((conv => whnf);first|(with_reducible first|rfl|exact absTF|exact absFT)|exact True.intro|intro _|refine And.intro ?_ ?_|refine Fin.mk ?_|refine W1 rfl ?_ ?_|refine W2 rfl ?_ ?_|refine W3 rfl ?_ ?_|refine W4 ?_ ?_|refine W5 rfl ?_ ?_|refine W6 ?_ ?_|refine AppN.mk ?_|refine X1 (W1 rfl ?_ ?_)|refine X1 (W2 rfl ?_ ?_)|refine X2 (W7 rfl ?_ ?_)|refine X3 (W7 rfl ?_ ?_)|refine X4 (W7 rfl ?_ ?_)|refine X5 (W7 rfl ?_ ?_))
      all_goals (try (conv => whnf))
      all_goals (try first|exact Ob.mk (u8_bnd _)|(refine Ob.mk ?_;first|exact True.intro|assumption|omega|(try simp only [ZA,ZB,ZC,ZD,ZE,ZF,ZG,ZH,ZI,ZJ,ZK,ZL,ZM,ZN,ZO,Int.toNat_natCast,UInt8.ofNat_toNat,cast_eq] at *;omega)))
      all_goals (try first|(show (_:Int) = _;omega)|(show tupSV _ = _;with_unfolding_all rfl)|((first|show (_:Nat) ≤ _|show (_:Nat) ≤ _ ∧ (_:Nat) ≤ _|show (_:Int) ≤ _ ∧ (_:Int) ≤ _ ∧ (_:Int) ≤ _ ∧ (_:Int) ≤ _);(simp <;> omega)))
      all_goals rfl
    · obtain ⟨q0, q1, q2⟩ := hj
      have cc : (decide ((j : Int) < (s.length : Int)) && ((s.getD ((j : Int)).toNat 0).toNat : Int) != 62 && !W.isSp ((s.getD ((j : Int)).toNat 0).toNat : Int)) = (decide (j < s.length) && stP [62] (s.getD j 0)) := by
        rw [Int.toNat_natCast, dlt, Bool.and_assoc]
        congr 1
        rw [bne, show (((s.getD j 0).toNat : Int) == 62) = (s.getD j 0 == 62) from b_iff _ 62]
        have hc : ([62] : List UInt8).contains (s.getD j 0) = (s.getD j 0 == 62) := by rw [List.contains_cons]; simp
        unfold stP blB
        rw [hc, Bool.and_comm]
      repeat' ((conv => whnf);first|(with_reducible first|rfl|exact absTF|exact absFT)|exact True.intro|intro _|refine And.intro ?_ ?_|refine Fin.mk ?_|refine W1 rfl ?_ ?_|refine W2 rfl ?_ ?_|refine W3 rfl ?_ ?_|refine W4 ?_ ?_|refine W5 rfl ?_ ?_|refine W6 ?_ ?_|refine AppN.mk ?_|refine X1 (W1 rfl ?_ ?_)|refine X1 (W2 rfl ?_ ?_)|refine X2 (W7 rfl ?_ ?_)|refine X3 (W7 rfl ?_ ?_)|refine X4 (W7 rfl ?_ ?_)|refine X5 (W7 rfl ?_ ?_))
      all_goals (try (conv => whnf))
      all_goals (try first|exact Ob.mk (u8_bnd _)|(refine Ob.mk ?_;first|exact True.intro|assumption|omega|(try simp only [ZA,ZB,ZC,ZD,ZE,ZF,ZG,ZH,ZI,ZJ,ZK,ZL,ZM,ZN,ZO,Int.toNat_natCast,UInt8.ofNat_toNat,cast_eq] at *;omega)))
      all_goals (try first|(show (_:Int) = _;omega)|(show tupSV _ = _;with_unfolding_all rfl)|((first|show (_:Nat) ≤ _|show (_:Nat) ≤ _ ∧ (_:Nat) ≤ _|show (_:Int) ≤ _ ∧ (_:Int) ≤ _ ∧ (_:Int) ≤ _ ∧ (_:Int) ≤ _);(simp <;> omega)))
      all_goals (try simp only [cc] at *)
      · obtain ⟨h1, h2⟩ := (loop_up q2 true ‹_› q1).1 rfl
        refine Rnd.mk ⟨j + 1, ⟨by omega, by omega, h2⟩, by omega, ?_⟩
        repeat' ((conv => whnf);first|(with_reducible first|rfl|exact absTF|exact absFT)|exact True.intro|intro _|refine And.intro ?_ ?_|refine Fin.mk ?_|refine W1 rfl ?_ ?_|refine W2 rfl ?_ ?_|refine W3 rfl ?_ ?_|refine W4 ?_ ?_|refine W5 rfl ?_ ?_|refine W6 ?_ ?_|refine AppN.mk ?_|refine X1 (W1 rfl ?_ ?_)|refine X1 (W2 rfl ?_ ?_)|refine X2 (W7 rfl ?_ ?_)|refine X3 (W7 rfl ?_ ?_)|refine X4 (W7 rfl ?_ ?_)|refine X5 (W7 rfl ?_ ?_))
        all_goals (try (conv => whnf))
        all_goals (try first|exact Ob.mk (u8_bnd _)|(refine Ob.mk ?_;first|exact True.intro|assumption|omega|(try simp only [ZA,ZB,ZC,ZD,ZE,ZF,ZG,ZH,ZI,ZJ,ZK,ZL,ZM,ZN,ZO,Int.toNat_natCast,UInt8.ofNat_toNat,cast_eq] at *;omega)))
        all_goals (try first|(show (_:Int) = _;omega)|(show tupSV _ = _;with_unfolding_all rfl)|((first|show (_:Nat) ≤ _|show (_:Nat) ≤ _ ∧ (_:Nat) ≤ _|show (_:Int) ≤ _ ∧ (_:Int) ≤ _ ∧ (_:Int) ≤ _ ∧ (_:Int) ≤ _);(simp <;> omega)))
        all_goals rfl
      all_goals (have hj := (loop_up q2 false ‹_› q1).2 rfl)
      all_goals (try simp only [Int.toNat_natCast] at *)
      all_goals (first | omega | (rw [hv, hV, ← hj]; done) | exact ⟨by omega, by omega, by omega⟩ | (rw [hv, hV]; done) | trace_state)
end Go.Vc

namespace Go.Vc
open Go.Proofs
set_option maxRecDepth 10000
set_option maxHeartbeats 8000000
def nmA (s : List UInt8) (i : Nat) : List UInt8 := lowL ((s.take (upTo (stP [47, 62, 61]) s (i + 1))).drop i)
def jA (s : List UInt8) (i : Nat) : Nat := upTo blB s (upTo (stP [47, 62, 61]) s (i + 1))
def attrR (s : List UInt8) (i : Nat) : List UInt8 × List UInt8 × Nat × Bool :=
  if (decide ((jA s i : Int) ≥ (s.length : Int)) || ((s.getD (jA s i) 0).toNat : Int) != 61) = true then (nmA s i, [], jA s i, true)
  else (nmA s i, decF (valR s (upTo blB s (jA s i + 1))).1 true, (valR s (upTo blB s (jA s i + 1))).2.1, (valR s (upTo blB s (jA s i + 1))).2.2)
theorem st3_eq (c : UInt8) : (((c.toNat : Int) != 47 && (c.toNat : Int) != 62) && (c.toNat : Int) != 61 && !W.isSp (c.toNat : Int)) = stP [47, 62, 61] c := by
  rw [bne, bne, bne, show ((c.toNat : Int) == 47) = (c == 47) from b_iff _ 47, show ((c.toNat : Int) == 62) = (c == 62) from b_iff _ 62, show ((c.toNat : Int) == 61) = (c == 61) from b_iff _ 61]
  unfold stP blB
  have hc : ([47, 62, 61] : List UInt8).contains c = (c == 47 || (c == 62 || c == 61)) := by rw [List.contains_cons, List.contains_cons, List.contains_cons]; simp only [List.contains_nil, Bool.or_false]
  rw [hc]
  cases c == 47 <;> cases c == 62 <;> cases c == 61 <;> cases W.isSp (c.toNat : Int) <;> rfl
theorem valR_le (s : List UInt8) (i : Nat) (h : i ≤ s.length) : (valR s i).1.length ≤ s.length ∧ (valR s i).2.1 ≤ s.length := by
  unfold valR
  split
  · simp; omega
  · have := valS_le s i (by omega); omega
instance gAttr (s : List UInt8) (i : Int) : Fn BB 58 [.str s, .int .i64 i] (0 ≤ i ∧ i < s.length ∧ s.length ≤ 100000) (.tup [.agg [.str (attrR s i.toNat).1, .str (attrR s i.toNat).2.1], .int .i64 ((attrR s i.toNat).2.2.1 : Nat), .bool (attrR s i.toNat).2.2.2]) := by
  refine Fn.intro (N := 82) [0, 1, 4, 5, 6, 7, 8, 9, 10, 11, 42, 63] [] Tryz.call58 Tryz.func58 rfl rfl (by kernel_rfl) (fun hpre => ?_)
  obtain ⟨p0, p1, p2⟩ := hpre
  obtain ⟨i, rfl⟩ := Int.eq_ofNat_of_zero_le p0
  have ei : ((i : Int)).toNat = i := Int.toNat_natCast i
  rw [ei]
  have hJ := upTo_le (stP [47, 62, 61]) s (i + 1) (by omega)
  have hJ2 : upTo (stP [47, 62, 61]) s (i + 1) ≤ jA s i ∧ jA s i ≤ s.length := upTo_le blB s _ hJ.2
  have a1 : (decide ((jA s i : Int) ≥ (s.length : Int)) || ((s.getD (jA s i) 0).toNat : Int) != 61) = true → attrR s i = (nmA s i, [], jA s i, true) := fun h => by unfold attrR; rw [if_pos h]
  have a2 : (decide ((jA s i : Int) ≥ (s.length : Int)) || ((s.getD (jA s i) 0).toNat : Int) != 61) = false → attrR s i = (nmA s i, decF (valR s (upTo blB s (jA s i + 1))).1 true, (valR s (upTo blB s (jA s i + 1))).2.1, (valR s (upTo blB s (jA s i + 1))).2.2) ∧ jA s i < s.length := fun h => by
    refine ⟨by unfold attrR; rw [if_neg (by rw [h]; decide)], ?_⟩
    rw [Bool.or_eq_false_iff] at h
    have := of_decide_eq_false h.1; omega
  repeat' ((conv => whnf);first|(with_reducible first|rfl|exact absTF|exact absFT)|exact True.intro|intro _|refine And.intro ?_ ?_|refine Fin.mk ?_|refine W1 rfl ?_ ?_|refine W2 rfl ?_ ?_|refine W3 rfl ?_ ?_|refine W4 ?_ ?_|refine W5 rfl ?_ ?_|refine W6 ?_ ?_|refine AppN.mk ?_|refine X1 (W1 rfl ?_ ?_)|refine X1 (W2 rfl ?_ ?_)|refine X2 (W7 rfl ?_ ?_)|refine X3 (W7 rfl ?_ ?_)|refine X4 (W7 rfl ?_ ?_)|refine X5 (W7 rfl ?_ ?_))
  all_goals (try (conv => whnf))
  all_goals (try first|exact Ob.mk (u8_bnd _)|(refine Ob.mk ?_;first|exact True.intro|assumption|omega|(try simp only [ZA,ZB,ZC,ZD,ZE,ZF,ZG,ZH,ZI,ZJ,ZK,ZL,ZM,ZN,ZO,Int.toNat_natCast,UInt8.ofNat_toNat,cast_eq] at *;omega)))
  all_goals (try first|(show (_:Int) = _;omega)|(show tupSV _ = _;with_unfolding_all rfl)|((first|show (_:Nat) ≤ _|show (_:Nat) ≤ _ ∧ (_:Nat) ≤ _|show (_:Int) ≤ _ ∧ (_:Int) ≤ _ ∧ (_:Int) ≤ _ ∧ (_:Int) ≤ _);(simp <;> omega)))
  refine LoopStop.mk (α := Nat) (fun j => [(7, .int .i64 j)]) (fun j => []) 40 (fun j => i + 1 ≤ j ∧ j ≤ s.length ∧ upTo (stP [47, 62, 61]) s j = upTo (stP [47, 62, 61]) s (i + 1)) (fun j => s.length - j) (i + 1) ⟨by omega, by omega, rfl⟩ ?_ (fun j hj => ?_)
  · repeat' ((conv => whnf);first|(with_reducible first|rfl|exact absTF|exact absFT)|exact True.intro|intro _|refine And.intro ?_ ?_|refine Fin.mk ?_|refine W1 rfl ?_ ?_|refine W2 rfl ?_ ?_|refine W3 rfl ?_ ?_|refine W4 ?_ ?_|refine W5 rfl ?_ ?_|refine W6 ?_ ?_|refine AppN.mk ?_|refine X1 (W1 rfl ?_ ?_)|refine X1 (W2 rfl ?_ ?_)|refine X2 (W7 rfl ?_ ?_)|refine X3 (W7 rfl ?_ ?_)|refine X4 (W7 rfl ?_ ?_)|refine X5 (W7 rfl ?_ ?_))
    all_goals (try (conv => whnf))
    all_goals (try first|exact Ob.mk (u8_bnd _)|(refine Ob.mk ?_;first|exact True.intro|assumption|omega|(try simp only [ZA,ZB,ZC,ZD,ZE,ZF,ZG,ZH,ZI,ZJ,ZK,ZL,ZM,ZN,ZO,Int.toNat_natCast,UInt8.ofNat_toNat,cast_eq] at *;omega)))
    all_goals (try first|(show (_:Int) = _;omega)|(show tupSV _ = _;with_unfolding_all rfl)|((first|show (_:Nat) ≤ _|show (_:Nat) ≤ _ ∧ (_:Nat) ≤ _|show (_:Int) ≤ _ ∧ (_:Int) ≤ _ ∧ (_:Int) ≤ _ ∧ (_:Int) ≤ _);(simp <;> omega)))
    all_goals rfl
  · obtain ⟨q0, q1, q2⟩ := hj
    have cc : ((decide ((j : Int) < (s.length : Int)) && ((s.getD ((j : Int)).toNat 0).toNat : Int) != 47 && ((s.getD ((j : Int)).toNat 0).toNat : Int) != 62) && ((s.getD ((j : Int)).toNat 0).toNat : Int) != 61 && !W.isSp ((s.getD ((j : Int)).toNat 0).toNat : Int)) = (decide (j < s.length) && stP [47, 62, 61] (s.getD j 0)) := by
      rw [Int.toNat_natCast, dlt, ← st3_eq]
      cases decide (j < s.length) <;> simp
    have tn : ∀ n : Nat, ((n : Int) + 1).toNat = n + 1 := fun n => by omega
    repeat' ((conv => whnf);first|(with_reducible first|rfl|exact absTF|exact absFT)|exact True.intro|intro _|refine And.intro ?_ ?_|refine Fin.mk ?_|refine W1 rfl ?_ ?_|refine W2 rfl ?_ ?_|refine W3 rfl ?_ ?_|refine W4 ?_ ?_|refine W5 rfl ?_ ?_|refine W6 ?_ ?_|refine AppN.mk ?_|refine X1 (W1 rfl ?_ ?_)|refine X1 (W2 rfl ?_ ?_)|refine X2 (W7 rfl ?_ ?_)|refine X3 (W7 rfl ?_ ?_)|refine X4 (W7 rfl ?_ ?_)|refine X5 (W7 rfl ?_ ?_))
    all_goals (try (conv => whnf))
    all_goals (try first|exact Ob.mk (u8_bnd _)|(refine Ob.mk ?_;first|exact True.intro|assumption|omega|(try simp only [ZA,ZB,ZC,ZD,ZE,ZF,ZG,ZH,ZI,ZJ,ZK,ZL,ZM,ZN,ZO,Int.toNat_natCast,UInt8.ofNat_toNat,cast_eq] at *;omega)))
    all_goals (try first|(show (_:Int) = _;omega)|(show tupSV _ = _;with_unfolding_all rfl)|((first|show (_:Nat) ≤ _|show (_:Nat) ≤ _ ∧ (_:Nat) ≤ _|show (_:Int) ≤ _ ∧ (_:Int) ≤ _ ∧ (_:Int) ≤ _ ∧ (_:Int) ≤ _);(simp <;> omega)))
    all_goals (try simp only [cc] at *)
    all_goals (try simp only [Int.toNat_natCast, tn] at *)
    · obtain ⟨h1, h2⟩ := (loop_up q2 true ‹_› q1).1 rfl
      refine Rnd.mk ⟨j + 1, ⟨by omega, by omega, h2⟩, by omega, ?_⟩
      repeat' ((conv => whnf);first|(with_reducible first|rfl|exact absTF|exact absFT)|exact True.intro|intro _|refine And.intro ?_ ?_|refine Fin.mk ?_|refine W1 rfl ?_ ?_|refine W2 rfl ?_ ?_|refine W3 rfl ?_ ?_|refine W4 ?_ ?_|refine W5 rfl ?_ ?_|refine W6 ?_ ?_|refine AppN.mk ?_|refine X1 (W1 rfl ?_ ?_)|refine X1 (W2 rfl ?_ ?_)|refine X2 (W7 rfl ?_ ?_)|refine X3 (W7 rfl ?_ ?_)|refine X4 (W7 rfl ?_ ?_)|refine X5 (W7 rfl ?_ ?_))
      all_goals (try (conv => whnf))
      all_goals (try first|exact Ob.mk (u8_bnd _)|(refine Ob.mk ?_;first|exact True.intro|assumption|omega|(try simp only [ZA,ZB,ZC,ZD,ZE,ZF,ZG,ZH,ZI,ZJ,ZK,ZL,ZM,ZN,ZO,Int.toNat_natCast,UInt8.ofNat_toNat,cast_eq] at *;omega)))
      all_goals (try first|(show (_:Int) = _;omega)|(show tupSV _ = _;with_unfolding_all rfl)|((first|show (_:Nat) ≤ _|show (_:Nat) ≤ _ ∧ (_:Nat) ≤ _|show (_:Int) ≤ _ ∧ (_:Int) ≤ _ ∧ (_:Int) ≤ _ ∧ (_:Int) ≤ _);(simp <;> omega)))
      all_goals rfl
    all_goals (have hj := (loop_up q2 false ‹_› q1).2 rfl)
    all_goals (subst hj)
    all_goals (try (have q := a1 ‹_›; first | (rw [q]; done) | (rw [q]; rfl)))
    all_goals (try (have q := (a2 ‹_›).1; have hl := (a2 ‹_›).2; have hK : jA s i + 1 ≤ upTo blB s (jA s i + 1) ∧ upTo blB s (jA s i + 1) ≤ s.length := upTo_le blB s (jA s i + 1) (by omega); have hV := valR_le s (upTo blB s (jA s i + 1)) hK.2))
    all_goals (first | (rw [q]; done) | (rw [q]; rfl) | (change InI64 ((jA s i : Int) + 1); constructor <;> omega) | (change 0 ≤ (jA s i : Int) + 1 ∧ (jA s i : Int) + 1 ≤ s.length ∧ s.length ≤ 100000; exact ⟨by omega, by omega, by omega⟩) | (change 0 ≤ (upTo blB s (jA s i + 1) : Int) ∧ (upTo blB s (jA s i + 1) : Int) ≤ s.length ∧ s.length ≤ 100000; exact ⟨by omega, by omega, by omega⟩) | (change (valR s (upTo blB s (jA s i + 1))).1.length ≤ 100000; omega) | omega | exact ⟨by omega, by omega, by omega⟩ | trace_state)
end Go.Vc

namespace Go.Vc
open Go.Proofs
set_option maxRecDepth 10000
set_option maxHeartbeats 8000000
def getV (l : List AttrD) (nm : List UInt8) : List UInt8 := match l.find? (hitN nm) with | some a => a.2 | none => []
theorem getV_at {l : List AttrD} {nm : List UInt8} {k : Nat} (hk : k < l.length) (ha : (l.take k).all (fun x => !hitN nm x) = true) (h : hitN nm (l.getD k attrTy.dflt) = true) : getV l nm = (l.getD k attrTy.dflt).2 ∧ l.any (hitN nm) = true := by
  induction l generalizing k with
  | nil => simp at hk
  | cons x r ih =>
    cases k with
    | zero =>
      have h' : hitN nm x = true := h
      unfold getV
      rw [List.find?_cons, h', List.any_cons, h']
      exact ⟨rfl, rfl⟩
    | succ k =>
      rw [List.take_succ_cons, List.all_cons, Bool.and_eq_true, Bool.not_eq_true'] at ha
      have := ih (by simpa using hk) ha.2 h
      unfold getV at *
      rw [List.find?_cons, ha.1, List.any_cons, ha.1, Bool.false_or]
      exact this
theorem getV_none {l : List AttrD} {nm : List UInt8} (ha : l.all (fun x => !hitN nm x) = true) : getV l nm = [] ∧ l.any (hitN nm) = false := by
  induction l with
  | nil => exact ⟨rfl, rfl⟩
  | cons x r ih =>
    rw [List.all_cons, Bool.and_eq_true, Bool.not_eq_true'] at ha
    have := ih ha.2
    unfold getV at *
    rw [List.find?_cons, ha.1, List.any_cons, ha.1, Bool.false_or]
    exact this
instance gGet (l : List AttrD) (nm : List UInt8) : FnM BB 84 [.own 0, .str nm] [(0, .ro attrTy l)] (l.length ≤ 100000) (.tup [.str (getV l nm), .bool (l.any (hitN nm))]) [(0, .ro attrTy l)] := by
  refine FnM.intro (N := 25) [0, 1, 4, 5, 6, 10, 19] [] 1 Tryz.call84 Tryz.func84 rfl rfl (by kernel_rfl) (fun hpre => ?_)
  repeat' ((conv => whnf);first|(with_reducible first|rfl|exact absTF|exact absFT)|exact True.intro|intro _|refine And.intro ?_ ?_|refine Fin.mk ?_|refine W1 rfl ?_ ?_|refine W2 rfl ?_ ?_|refine W3 rfl ?_ ?_|refine W4 ?_ ?_|refine W5 rfl ?_ ?_|refine W6 ?_ ?_|refine AppN.mk ?_|refine X1 (W1 rfl ?_ ?_)|refine X1 (W2 rfl ?_ ?_)|refine X2 (W7 rfl ?_ ?_)|refine X3 (W7 rfl ?_ ?_)|refine X4 (W7 rfl ?_ ?_)|refine X5 (W7 rfl ?_ ?_))
  all_goals (try (conv => whnf))
  all_goals (try first|exact Ob.mk (u8_bnd _)|(refine Ob.mk ?_;first|exact True.intro|assumption|omega|(try simp only [ZA,ZB,ZC,ZD,ZE,ZF,ZG,ZH,ZI,ZJ,ZK,ZL,ZM,ZN,ZO,Int.toNat_natCast,UInt8.ofNat_toNat,cast_eq] at *;omega)))
  all_goals (try first|(show (_:Int) = _;omega)|(show tupSV _ = _;with_unfolding_all rfl)|((first|show (_:Nat) ≤ _|show (_:Nat) ≤ _ ∧ (_:Nat) ≤ _|show (_:Int) ≤ _ ∧ (_:Int) ≤ _ ∧ (_:Int) ≤ _ ∧ (_:Int) ≤ _);(simp <;> omega)))
  refine LoopStop.mk (α := Nat) (fun k => [(6, .int .i64 k)]) (fun _ => []) 20 (fun k => k ≤ l.length ∧ (l.take k).all (fun x => !hitN nm x) = true) (fun k => l.length - k) 0 (by simp) ?_ (fun k hk => ?_)
  · repeat' ((conv => whnf);first|(with_reducible first|rfl|exact absTF|exact absFT)|exact True.intro|intro _|refine And.intro ?_ ?_|refine Fin.mk ?_|refine W1 rfl ?_ ?_|refine W2 rfl ?_ ?_|refine W3 rfl ?_ ?_|refine W4 ?_ ?_|refine W5 rfl ?_ ?_|refine W6 ?_ ?_|refine AppN.mk ?_|refine X1 (W1 rfl ?_ ?_)|refine X1 (W2 rfl ?_ ?_)|refine X2 (W7 rfl ?_ ?_)|refine X3 (W7 rfl ?_ ?_)|refine X4 (W7 rfl ?_ ?_)|refine X5 (W7 rfl ?_ ?_))
    all_goals (try (conv => whnf))
    all_goals (try first|exact Ob.mk (u8_bnd _)|(refine Ob.mk ?_;first|exact True.intro|assumption|omega|(try simp only [ZA,ZB,ZC,ZD,ZE,ZF,ZG,ZH,ZI,ZJ,ZK,ZL,ZM,ZN,ZO,Int.toNat_natCast,UInt8.ofNat_toNat,cast_eq] at *;omega)))
    all_goals (try first|(show (_:Int) = _;omega)|(show tupSV _ = _;with_unfolding_all rfl)|((first|show (_:Nat) ≤ _|show (_:Nat) ≤ _ ∧ (_:Nat) ≤ _|show (_:Int) ≤ _ ∧ (_:Int) ≤ _ ∧ (_:Int) ≤ _ ∧ (_:Int) ≤ _);(simp <;> omega)))
    all_goals (try rfl)
  · obtain ⟨hk, ha⟩ := hk
    repeat' ((conv => whnf);first|(with_reducible first|rfl|exact absTF|exact absFT)|exact True.intro|intro _|refine And.intro ?_ ?_|refine Fin.mk ?_|refine W1 rfl ?_ ?_|refine W2 rfl ?_ ?_|refine W3 rfl ?_ ?_|refine W4 ?_ ?_|refine W5 rfl ?_ ?_|refine W6 ?_ ?_|refine AppN.mk ?_|refine X1 (W1 rfl ?_ ?_)|refine X1 (W2 rfl ?_ ?_)|refine X2 (W7 rfl ?_ ?_)|refine X3 (W7 rfl ?_ ?_)|refine X4 (W7 rfl ?_ ?_)|refine X5 (W7 rfl ?_ ?_))
    all_goals (try (conv => whnf))
    all_goals (try first|exact Ob.mk (u8_bnd _)|(refine Ob.mk ?_;first|exact True.intro|assumption|omega|(try simp only [ZA,ZB,ZC,ZD,ZE,ZF,ZG,ZH,ZI,ZJ,ZK,ZL,ZM,ZN,ZO,Int.toNat_natCast,UInt8.ofNat_toNat,cast_eq] at *;omega)))
    all_goals (try first|(show (_:Int) = _;omega)|(show tupSV _ = _;with_unfolding_all rfl)|((first|show (_:Nat) ≤ _|show (_:Nat) ≤ _ ∧ (_:Nat) ≤ _|show (_:Int) ≤ _ ∧ (_:Int) ≤ _ ∧ (_:Int) ≤ _ ∧ (_:Int) ≤ _);(simp <;> omega)))
    all_goals (try simp only [Int.toNat_natCast] at *)
    all_goals (try (have hp : k < l.length := by have h := of_decide_eq_true ‹decide ((k : Int) < (l.length : Int)) = true›; omega))
    all_goals (try (have hh := getV_at (nm := nm) hp ha (show ((l.getD k attrTy.dflt).1 == nm) = true from ‹_›)))
    all_goals (try (have hz : k = l.length := by have h := of_decide_eq_false ‹decide ((k : Int) < (l.length : Int)) = false›; omega))
    all_goals (first | omega | (rw [hh.1]; done) | (rw [hh.2]; done) | (subst hz; rw [List.take_length] at ha; rw [(getV_none ha).1]; done) | (subst hz; rw [List.take_length] at ha; rw [(getV_none ha).2]; done) | skip)
    have h : ((l.getD k attrTy.dflt).1 == nm) = false := ‹_›
    refine Rnd.mk ⟨k + 1, ⟨by omega, ?_⟩, by omega, ?_⟩
    · rw [take_all (fun x => !hitN nm x) l k attrTy.dflt hp, ha]
      show (true && !((l.getD k attrTy.dflt).1 == nm)) = true
      rw [h]; rfl
    · repeat' ((conv => whnf);first|(with_reducible first|rfl|exact absTF|exact absFT)|exact True.intro|intro _|refine And.intro ?_ ?_|refine Fin.mk ?_|refine W1 rfl ?_ ?_|refine W2 rfl ?_ ?_|refine W3 rfl ?_ ?_|refine W4 ?_ ?_|refine W5 rfl ?_ ?_|refine W6 ?_ ?_|refine AppN.mk ?_|refine X1 (W1 rfl ?_ ?_)|refine X1 (W2 rfl ?_ ?_)|refine X2 (W7 rfl ?_ ?_)|refine X3 (W7 rfl ?_ ?_)|refine X4 (W7 rfl ?_ ?_)|refine X5 (W7 rfl ?_ ?_))
      all_goals (try (conv => whnf))
      all_goals (try first|exact Ob.mk (u8_bnd _)|(refine Ob.mk ?_;first|exact True.intro|assumption|omega|(try simp only [ZA,ZB,ZC,ZD,ZE,ZF,ZG,ZH,ZI,ZJ,ZK,ZL,ZM,ZN,ZO,Int.toNat_natCast,UInt8.ofNat_toNat,cast_eq] at *;omega)))
      all_goals (try first|(show (_:Int) = _;omega)|(show tupSV _ = _;with_unfolding_all rfl)|((first|show (_:Nat) ≤ _|show (_:Nat) ≤ _ ∧ (_:Nat) ≤ _|show (_:Int) ≤ _ ∧ (_:Int) ≤ _ ∧ (_:Int) ≤ _ ∧ (_:Int) ≤ _);(simp <;> omega)))
      all_goals rfl
instance gAdd (l : List AttrD) (a b : List UInt8) : FnM BB 59 [.own 0, .agg [.str a, .str b]] [(0, .ro attrTy l)] (l.length ≤ 50000) (.own 1) [(0, .ro attrTy l), (1, .own attrTy (addL l (a, b)))] := by
  refine FnM.intro (N := 25) [0, 1, 3, 4, 5, 7, 19] [] 1 Tryz.call59 Tryz.func59 rfl rfl (by kernel_rfl) (fun hpre => ?_)
  have e1 : (!l.any (hitN a)) = true → addL l (a, b) = l ++ [(a, b)] := fun h => by unfold addL; rw [if_neg (by simpa using h)]
  have e2 : (!l.any (hitN a)) = false → addL l (a, b) = l := fun h => by unfold addL; rw [if_pos (by simpa using h)]
  repeat' ((conv => whnf);first|(with_reducible first|rfl|exact absTF|exact absFT)|exact True.intro|intro _|refine And.intro ?_ ?_|refine Fin.mk ?_|refine W1 rfl ?_ ?_|refine W2 rfl ?_ ?_|refine W3 rfl ?_ ?_|refine W4 ?_ ?_|refine W5 rfl ?_ ?_|refine W6 ?_ ?_|refine AppN.mk ?_|refine X1 (W1 rfl ?_ ?_)|refine X1 (W2 rfl ?_ ?_)|refine X2 (W7 rfl ?_ ?_)|refine X3 (W7 rfl ?_ ?_)|refine X4 (W7 rfl ?_ ?_)|refine X5 (W7 rfl ?_ ?_))
  all_goals (try (conv => whnf))
  all_goals (try first|exact Ob.mk (u8_bnd _)|(refine Ob.mk ?_;first|exact True.intro|assumption|omega|(try simp only [ZA,ZB,ZC,ZD,ZE,ZF,ZG,ZH,ZI,ZJ,ZK,ZL,ZM,ZN,ZO,Int.toNat_natCast,UInt8.ofNat_toNat,cast_eq] at *;omega)))
  all_goals (try first|(show (_:Int) = _;omega)|(show tupSV _ = _;with_unfolding_all rfl)|((first|show (_:Nat) ≤ _|show (_:Nat) ≤ _ ∧ (_:Nat) ≤ _|show (_:Int) ≤ _ ∧ (_:Int) ≤ _ ∧ (_:Int) ≤ _ ∧ (_:Int) ≤ _);(simp <;> omega)))
  all_goals (first | (rw [e1 ‹_›]; rfl) | (rw [e2 ‹_›]; rfl) | trace_state)
end Go.Vc
