/- A part of the proof: lemmas and walks that the last text of the claim joins; no condition. -/
import Derived.Test.YtejgjaplcjikoaaDoorLexerTextsTE
import Derived.Lib.IndexAny
import Derived.Lib.DecodeN
import Derived.Lib.TrimU
import Derived.Lib.AsciiSet
import Derived.Shelf.Strings.SlTrimAscii
import Derived.Lib.IndexLaws
import Derived.Lib.CountLaws
set_option linter.unusedVariables false
set_option linter.unusedSimpArgs false
set_option maxHeartbeats 8000000
namespace Go.Vc
open Go.Proofs
set_option maxRecDepth 10000
set_option maxHeartbeats 2000000
abbrev Rk := Int × List UInt8 × List UInt8 × Int × Bool
def tokSV (k : Int) (nm da : List UInt8) : SV := .agg [.int .i64 k, .str nm, .nils, .bool false, .str da]
def rkSV (x : Rk) : SV := .tup [tokSV x.1 x.2.1 x.2.2.1, .int .i64 x.2.2.2.1, .bool x.2.2.2.2]
def fdB (s p : List UInt8) : Bool := decide (fnd s p + p.length ≤ s.length)
def ixI (s p : List UInt8) : Int := if fdB s p = true then (fnd s p : Int) else -1
instance rIx (s p : List UInt8) : Fn BB 35 [.str s, .str p] (p ≠ [] ∧ s.length ≤ 1000000) (.int .i64 (ixI s p)) := by
  refine Fn.liftB Tryd.call35 fun hp r β w vs hG m h => ?_
  obtain ⟨rfl, h1, h2⟩ := h.str2
  obtain ⟨mm, hm⟩ := hG.len
  have := Tryd.strings_Index ⟨s.toArray⟩ ⟨p.toArray⟩ mm w (by show s.toArray.size < _; simp; omega) (cellR_at m.vis hm)
  refine ⟨_, this.mono fun e w' hh => ?_, .int⟩
  obtain ⟨rfl, rfl⟩ := hh
  refine ⟨?_, Go.RowKit.Below.refl _ _⟩
  have e := index_fnd s p hp.1
  unfold ixI fdB
  show Ending.returned (Value.int .i64 (Lib.index s p)) = _
  rw [e]
  by_cases q : fnd s p + p.length ≤ s.length <;> simp [q]
instance rUp (s p : List UInt8) : Fn BB 65 [.str s, .str p] (p ≠ [] ∧ s.length ≤ 1000000) (.tup [.str (s.take (fnd s p)), .int .i64 (uN s p), .bool (fdB s p)]) := by
  refine Fn.intro (N := 23) [0, 1, 4, 5, 6, 7, 12] [] Tryd.call65 Tryd.func65 rfl rfl (by kernel_rfl) (fun hpre => ?_)
  have hle := fnd_le s p
  have hun : fdB s p = true → (uN s p = fnd s p + p.length ∧ fnd s p + p.length ≤ s.length) := fun h => by
    have h' := of_decide_eq_true h
    exact ⟨by unfold uN; rw [if_pos h'], h'⟩
  have hun2 : fdB s p = false → uN s p = s.length ∧ s.take (fnd s p) = s := fun h => by
    have h' := of_decide_eq_false h
    refine ⟨by unfold uN; rw [if_neg h'], ?_⟩
    rcases fnd_cases s p hpre.1 with q | q
    · exact absurd q.2 h'
    · rw [q.1, List.take_length]
  cases hf : fdB s p
  · obtain ⟨a1, a2⟩ := hun2 hf
    have hx : ixI s p = -1 := by unfold ixI; rw [hf]; rfl
    repeat' ((conv => whnf);first|(with_reducible first|rfl|exact absTF|exact absFT)|exact True.intro|intro _|refine And.intro ?_ ?_|refine Fin.mk ?_|refine W1 rfl ?_ ?_|refine W2 rfl ?_ ?_|refine W3 rfl ?_ ?_|refine W4 ?_ ?_|refine W5 rfl ?_ ?_|refine W6 ?_ ?_|refine AppN.mk ?_|refine X1 (W1 rfl ?_ ?_)|refine X1 (W2 rfl ?_ ?_)|refine X2 (W7 rfl ?_ ?_)|refine X3 (W7 rfl ?_ ?_)|refine X4 (W7 rfl ?_ ?_)|refine X5 (W7 rfl ?_ ?_))
    all_goals (try (conv => whnf))
    all_goals (try first|exact Ob.mk (u8_bnd _)|(refine Ob.mk ?_;first|exact True.intro|assumption|omega|(try simp only [ZA,ZB,ZC,ZD,ZE,ZF,ZG,ZH,ZI,ZJ,ZK,ZL,ZM,ZN,ZO,Int.toNat_natCast,UInt8.ofNat_toNat,cast_eq] at *;omega)))
    all_goals (try first|(show (_:Int) = _;omega)|(show tupSV _ = _;with_unfolding_all rfl)|((first|show (_:Nat) ≤ _|show (_:Nat) ≤ _ ∧ (_:Nat) ≤ _|show (_:Int) ≤ _ ∧ (_:Int) ≤ _ ∧ (_:Int) ≤ _ ∧ (_:Int) ≤ _);(simp <;> omega)))
    all_goals (simp only [hx] at *)
    all_goals (try (exfalso; exact absurd ‹decide ((-1 : Int) < 0) = false› (by decide)))
    all_goals (first | exact a2.symm | (rw [a1]; done) | exact hf.symm | trace_state)
  · obtain ⟨a1, a2⟩ := hun hf
    have hx : ixI s p = (fnd s p : Int) := by unfold ixI; rw [hf]; rfl
    repeat' ((conv => whnf);first|(with_reducible first|rfl|exact absTF|exact absFT)|exact True.intro|intro _|refine And.intro ?_ ?_|refine Fin.mk ?_|refine W1 rfl ?_ ?_|refine W2 rfl ?_ ?_|refine W3 rfl ?_ ?_|refine W4 ?_ ?_|refine W5 rfl ?_ ?_|refine W6 ?_ ?_|refine AppN.mk ?_|refine X1 (W1 rfl ?_ ?_)|refine X1 (W2 rfl ?_ ?_)|refine X2 (W7 rfl ?_ ?_)|refine X3 (W7 rfl ?_ ?_)|refine X4 (W7 rfl ?_ ?_)|refine X5 (W7 rfl ?_ ?_))
    all_goals (try (conv => whnf))
    all_goals (try first|exact Ob.mk (u8_bnd _)|(refine Ob.mk ?_;first|exact True.intro|assumption|omega|(try simp only [ZA,ZB,ZC,ZD,ZE,ZF,ZG,ZH,ZI,ZJ,ZK,ZL,ZM,ZN,ZO,Int.toNat_natCast,UInt8.ofNat_toNat,cast_eq] at *;omega)))
    all_goals (try first|(show (_:Int) = _;omega)|(show tupSV _ = _;with_unfolding_all rfl)|((first|show (_:Nat) ≤ _|show (_:Nat) ≤ _ ∧ (_:Nat) ≤ _|show (_:Int) ≤ _ ∧ (_:Int) ≤ _ ∧ (_:Int) ≤ _ ∧ (_:Int) ≤ _);(simp <;> omega)))
    all_goals (simp only [hx, Int.toNat_natCast] at *)
    all_goals (try (exfalso; have h := of_decide_eq_true ‹decide ((fnd s p : Int) < 0) = true›; omega))
    all_goals (first | rfl | (constructor <;> omega) | omega | exact hf.symm | trace_state)
end Go.Vc

namespace Go.Vc
set_option autoImplicit false
theorem ixAny_take (cs s : List UInt8) : (0 ≤ Lib.indexAny s cs ∧ s.take (Lib.indexAny s cs).toNat = s.takeWhile (fun c => !cs.contains c)) ∨ (Lib.indexAny s cs = -1 ∧ s.takeWhile (fun c => !cs.contains c) = s) := by
  induction s with
  | nil => right; exact ⟨rfl, rfl⟩
  | cons b l ih =>
    unfold Lib.indexAny
    cases h : cs.contains b with
    | true => left; simp only [if_true]; refine ⟨by omega, ?_⟩; rw [List.takeWhile_cons, h]; rfl
    | false =>
      simp only [Bool.false_eq_true, if_false]
      rcases ih with ⟨h1, h2⟩ | ⟨h1, h2⟩
      · left
        have e : (Lib.indexAny l cs == -1) = false := beq_eq_false_iff_ne.2 (by omega)
        rw [e]
        simp only [Bool.false_eq_true, if_false]
        refine ⟨by omega, ?_⟩
        have : (Lib.indexAny l cs + 1).toNat = (Lib.indexAny l cs).toNat + 1 := by omega
        rw [this, List.take_succ_cons, h2, List.takeWhile_cons, h]
        rfl
      · right
        rw [h1]
        refine ⟨rfl, ?_⟩
        rw [List.takeWhile_cons, h, h2]
        rfl
end Go.Vc

namespace Go.Vc
set_option autoImplicit false
theorem decN_hi (n b0 b1 b2 b3 : Nat) (h : 128 ≤ b0) (h0 : b0 < 256) (hn : 1 ≤ n) : 128 ≤ (Lib.decodeN n b0 b1 b2 b3).1 ∧ 1 ≤ (Lib.decodeN n b0 b1 b2 b3).2 ∧ (Lib.decodeN n b0 b1 b2 b3).2 ≤ 4 ∧ (Lib.decodeN n b0 b1 b2 b3).2 ≤ n ∧ (2 ≤ (Lib.decodeN n b0 b1 b2 b3).2 → 128 ≤ b1) ∧ (3 ≤ (Lib.decodeN n b0 b1 b2 b3).2 → 128 ≤ b2) ∧ (4 ≤ (Lib.decodeN n b0 b1 b2 b3).2 → 128 ≤ b3) := by
  unfold Lib.decodeN
  rw [if_neg (by omega)]
  repeat' split
  all_goals (simp only []; omega)
theorem decL_at (l : List UInt8) : Lib.decodeL l = Lib.decodeN l.length (l.getD 0 0).toNat (l.getD 1 0).toNat (l.getD 2 0).toNat (l.getD 3 0).toNat := by
  unfold Lib.decodeL
  rw [Lib.decode_at]
  have hs : (⟨l.toArray⟩ : ByteArray).size = l.length := by show l.toArray.size = _; simp
  have hg : ∀ k, (⟨l.toArray⟩ : ByteArray).get! k = l.getD k 0 := fun k => by
    show l.toArray[k]! = _
    simp [List.getD]; rfl
  rw [hs, hg, hg, hg, hg]; rfl
theorem dec_from (l : List UInt8) (i : Nat) : Utf8.decode ⟨l.toArray⟩ i = Lib.decodeL (l.drop i) := by
  rw [decL_at, Lib.decode_at]
  have hs : (⟨l.toArray⟩ : ByteArray).size - i = (l.drop i).length := by
    show l.toArray.size - i = _
    simp
  have hg : ∀ k, (⟨l.toArray⟩ : ByteArray).get! (i + k) = (l.drop i).getD k 0 := fun k => by
    show l.toArray[i + k]! = _
    simp [List.getD]; rfl
  rw [hs, show (⟨l.toArray⟩ : ByteArray).get! i = (l.drop i).getD 0 0 from hg 0, hg, hg, hg]
theorem decL_low (l : List UInt8) (h : (l.getD 0 0).toNat < 128) : Lib.decodeL l = ((l.getD 0 0).toNat, 1) := by
  rw [decL_at]; unfold Lib.decodeN; rw [if_pos h]
theorem decL_hi (l : List UInt8) (hne : l ≠ []) (h : 128 ≤ (l.getD 0 0).toNat) : 128 ≤ (Lib.decodeL l).1 ∧ 1 ≤ (Lib.decodeL l).2 ∧ (Lib.decodeL l).2 ≤ l.length ∧ ∀ j < (Lib.decodeL l).2, 128 ≤ (l.getD j 0).toNat := by
  rw [decL_at]
  have := decN_hi l.length (l.getD 0 0).toNat (l.getD 1 0).toNat (l.getD 2 0).toNat (l.getD 3 0).toNat h (UInt8.toNat_lt _) (List.length_pos_iff.mpr hne)
  obtain ⟨a, b, c, d, e, f, g⟩ := this
  refine ⟨a, b, d, fun j hj => ?_⟩
  have : j = 0 ∨ j = 1 ∨ j = 2 ∨ j = 3 := by omega
  rcases this with rfl | rfl | rfl | rfl
  · exact h
  · exact e (by omega)
  · exact f (by omega)
  · exact g (by omega)
theorem dec_place (s : List UInt8) (p : Nat) (hp : p < s.length) :
    ((s.getD p 0).toNat < 128 ∧ Utf8.decode ⟨s.toArray⟩ p = ((s.getD p 0).toNat, 1)) ∨
    (128 ≤ (s.getD p 0).toNat ∧ 128 ≤ (Utf8.decode ⟨s.toArray⟩ p).1 ∧ 1 ≤ (Utf8.decode ⟨s.toArray⟩ p).2 ∧ p + (Utf8.decode ⟨s.toArray⟩ p).2 ≤ s.length ∧ ∀ j, p ≤ j → j < p + (Utf8.decode ⟨s.toArray⟩ p).2 → 128 ≤ (s.getD j 0).toNat) := by
  have hd : ∀ k, (s.drop p).getD k 0 = s.getD (p + k) 0 := fun k => by simp [List.getD]
  rw [dec_from]
  by_cases h : (s.getD p 0).toNat < 128
  · left
    have := decL_low (s.drop p) (by rw [hd]; exact h)
    rw [hd] at this
    exact ⟨h, this⟩
  · right
    have hne : s.drop p ≠ [] := fun q => by have := congrArg List.length q; rw [List.length_drop] at this; simp at this; omega
    have := decL_hi (s.drop p) hne (by rw [hd]; show 128 ≤ (s.getD p 0).toNat; omega)
    rw [List.length_drop] at this
    refine ⟨by omega, this.1, this.2.1, by omega, fun j h1 h2 => ?_⟩
    have := this.2.2.2 (j - p) (by omega)
    rw [hd, show p + (j - p) = j by omega] at this
    exact this
theorem index_none (l : List UInt8) (c : UInt8) (h : ∀ b ∈ l, b ≠ c) : Lib.indexByte l c = -1 := by
  induction l with
  | nil => rfl
  | cons x r ih =>
    have h1 := h x (by simp)
    have h2 := ih fun b hb => h b (by simp [hb])
    unfold Lib.indexByte
    rw [if_neg (by simpa using h1), h2]; rfl
theorem index_mem (l : List UInt8) (c : UInt8) : decide (Lib.indexByte l c ≥ 0) = l.contains c := by
  induction l with
  | nil => rfl
  | cons x r ih =>
    unfold Lib.indexByte
    rw [List.contains_cons]
    have hg := Lib.indexByte_ge r c
    by_cases h : x = c
    · subst h; simp
    · have e : (x == c) = false := beq_eq_false_iff_ne.2 h
      have e' : (c == x) = false := beq_eq_false_iff_ne.2 (fun q => h q.symm)
      rw [e, e', Bool.false_or, ← ih]
      simp only [Bool.false_eq_true, if_false]
      by_cases q : Lib.indexByte r c = -1
      · rw [q]; rfl
      · have : (Lib.indexByte r c == -1) = false := beq_eq_false_iff_ne.2 q
        rw [this]
        simp only [Bool.false_eq_true, if_false]
        rw [Bool.eq_iff_iff]; simp; omega
end Go.Vc

namespace Go.Vc
open Go.Proofs
set_option maxRecDepth 10000
set_option maxHeartbeats 8000000
def ascB (cs : List UInt8) : Bool := cs.all fun b => decide (b.toNat < 128)
theorem ascB_mem {cs : List UInt8} (h : ascB cs = true) {b : UInt8} (hb : b ∈ cs) : b.toNat < 128 := by
  have := List.all_eq_true.1 h b hb
  exact of_decide_eq_true this
theorem ascB_get {cs : List UInt8} (h : ascB cs = true) (i : Nat) : (cs.getD i 0).toNat < 128 := by
  rcases Nat.lt_or_ge i cs.length with q | q
  · rw [List.getD_eq_getElem?_getD, List.getElem?_eq_getElem q]; exact ascB_mem h (List.getElem_mem q)
  · rw [List.getD_eq_getElem?_getD, List.getElem?_eq_none q]; decide
def irC (cs : List UInt8) (r : Int) : Int := if 0 ≤ r ∧ r < 128 then Lib.indexByte cs r.toNat.toUInt8 else -1
theorem encR' (r : Int) (h : 128 ≤ r) (hv : Utf8.valid r = true) : 2 ≤ (Utf8.encode r).data.toList.length ∧ (Utf8.encode r).data.toList.length ≤ 4 ∧ 128 ≤ ((Utf8.encode r).data.toList.getD ((Utf8.encode r).data.toList.length - 1) 0).toNat := by
  unfold Utf8.encode
  rw [if_pos hv]
  dsimp only
  rw [if_neg (by omega)]
  have key : ∀ x : Nat, 128 ≤ (UInt8.ofNat (128 + x % 64)).toNat := fun x => by rw [UInt8.toNat_ofNat']; omega
  split
  · exact ⟨by simp, by simp, key _⟩
  · split
    · exact ⟨by simp, by simp, key _⟩
    · exact ⟨by simp, by simp, key _⟩
theorem okR_valid' (r : Int) : okR r = Utf8.valid r := by
  unfold okR Utf8.valid
  rw [Bool.eq_iff_iff]
  simp only [Bool.or_eq_true, Bool.and_eq_true, decide_eq_true_eq]
  omega
instance fIRc (cs : List UInt8) (r : Int) : Fn BB 88 [.str cs, .int .i32 r] (ascB cs = true ∧ cs.length ≤ 1000) (.int .i64 (irC cs r)) := by
  refine Fn.intro (N := 187) [0, 1, 4, 5, 6, 7, 8, 9, 10, 11, 12, 13, 14, 15, 16, 26, 33, 43, 51, 64, 98, 108, 124, 139, 143, 156, 160, 171, 175, 176, 177, 181, 183] [(6, [0, 0, 0, 0, 0, 0, 0]), (7, [0, 0, 0, 0, 0, 0, 0, 3, 3]), (14, [0, 0, 0, 0, 0, 0, 0, 0, 0, 0, 0]), (31, [0, 0, 0, 0, 0, 0, 0, 0, 0, 0, 0])] Tryd.call88 Tryd.func88 rfl rfl (by kernel_rfl) (fun hpre => ?_)
  obtain ⟨hp1, hp2⟩ := hpre
  repeat' ((conv => whnf);first|(with_reducible first|rfl|exact absTF|exact absFT)|exact True.intro|intro _|refine And.intro ?_ ?_|refine Fin.mk ?_|refine W1 rfl ?_ ?_|refine W2 rfl ?_ ?_|refine W3 rfl ?_ ?_|refine W4 ?_ ?_|refine W5 rfl ?_ ?_|refine W6 ?_ ?_|refine AppN.mk ?_|refine X1 (W1 rfl ?_ ?_)|refine X1 (W2 rfl ?_ ?_)|refine X2 (W7 rfl ?_ ?_)|refine X3 (W7 rfl ?_ ?_)|refine X4 (W7 rfl ?_ ?_)|refine X5 (W7 rfl ?_ ?_))
  all_goals (try (conv => whnf))
  all_goals (try first|exact Ob.mk (u8_bnd _)|(refine Ob.mk ?_;first|exact True.intro|assumption|omega|(try simp only [ZA,ZB,ZC,ZD,ZE,ZF,ZG,ZH,ZI,ZJ,ZK,ZL,ZM,ZN,ZO,Int.toNat_natCast,UInt8.ofNat_toNat,cast_eq] at *;omega)))
  all_goals (try first|(show (_:Int) = _;omega)|(show tupSV _ = _;with_unfolding_all rfl)|((first|show (_:Nat) ≤ _|show (_:Nat) ≤ _ ∧ (_:Nat) ≤ _|show (_:Int) ≤ _ ∧ (_:Int) ≤ _ ∧ (_:Int) ≤ _ ∧ (_:Int) ≤ _);(simp <;> omega)))
  · have h : 0 ≤ r ∧ r < 128 := by simpa using ‹(decide (0 ≤ r) && decide (r < 128)) = true›
    have e : IntKind.u8.wrap r = r := wrap8 r (by omega)
    unfold irC
    rw [if_pos h, e]
  · refine LoopStop.mk (α := Nat) (fun p => []) (fun p => [(0, .iter cs p)]) 20 (fun p => p ≤ cs.length) (fun p => cs.length - p) 0 (by omega) ?_ (fun p hp => ?_)
    · repeat' ((conv => whnf);first|(with_reducible first|rfl|exact absTF|exact absFT)|exact True.intro|intro _|refine And.intro ?_ ?_|refine Fin.mk ?_|refine W1 rfl ?_ ?_|refine W2 rfl ?_ ?_|refine W3 rfl ?_ ?_|refine W4 ?_ ?_|refine W5 rfl ?_ ?_|refine W6 ?_ ?_|refine AppN.mk ?_|refine X1 (W1 rfl ?_ ?_)|refine X1 (W2 rfl ?_ ?_)|refine X2 (W7 rfl ?_ ?_)|refine X3 (W7 rfl ?_ ?_)|refine X4 (W7 rfl ?_ ?_)|refine X5 (W7 rfl ?_ ?_))
      all_goals (try (conv => whnf))
      all_goals (try first|exact Ob.mk (u8_bnd _)|(refine Ob.mk ?_;first|exact True.intro|assumption|omega|(try simp only [ZA,ZB,ZC,ZD,ZE,ZF,ZG,ZH,ZI,ZJ,ZK,ZL,ZM,ZN,ZO,Int.toNat_natCast,UInt8.ofNat_toNat,cast_eq] at *;omega)))
      all_goals (try first|(show (_:Int) = _;omega)|(show tupSV _ = _;with_unfolding_all rfl)|((first|show (_:Nat) ≤ _|show (_:Nat) ≤ _ ∧ (_:Nat) ≤ _|show (_:Int) ≤ _ ∧ (_:Int) ≤ _ ∧ (_:Int) ≤ _ ∧ (_:Int) ≤ _);(simp <;> omega)))
      all_goals rfl
    · have h : r = 65533 := by simpa using ‹(r == 65533) = true›
      have key : p < cs.length → decL cs p = ((cs.getD p 0).toNat, 1) := fun hl => by
        rcases dec_place cs p hl with q | q
        · exact q.2
        · have := ascB_get hp1 p; omega
      have hlow := ascB_get hp1 p
      repeat' ((conv => whnf);first|(with_reducible first|rfl|exact absTF|exact absFT)|exact True.intro|intro _|refine And.intro ?_ ?_|refine Fin.mk ?_|refine W1 rfl ?_ ?_|refine W2 rfl ?_ ?_|refine W3 rfl ?_ ?_|refine W4 ?_ ?_|refine W5 rfl ?_ ?_|refine W6 ?_ ?_|refine AppN.mk ?_|refine X1 (W1 rfl ?_ ?_)|refine X1 (W2 rfl ?_ ?_)|refine X2 (W7 rfl ?_ ?_)|refine X3 (W7 rfl ?_ ?_)|refine X4 (W7 rfl ?_ ?_)|refine X5 (W7 rfl ?_ ?_))
      all_goals (try (conv => whnf))
      all_goals (try first|exact Ob.mk (u8_bnd _)|(refine Ob.mk ?_;first|exact True.intro|assumption|omega|(try simp only [ZA,ZB,ZC,ZD,ZE,ZF,ZG,ZH,ZI,ZJ,ZK,ZL,ZM,ZN,ZO,Int.toNat_natCast,UInt8.ofNat_toNat,cast_eq] at *;omega)))
      all_goals (try first|(show (_:Int) = _;omega)|(show tupSV _ = _;with_unfolding_all rfl)|((first|show (_:Nat) ≤ _|show (_:Nat) ≤ _ ∧ (_:Nat) ≤ _|show (_:Int) ≤ _ ∧ (_:Int) ≤ _ ∧ (_:Int) ≤ _ ∧ (_:Int) ≤ _);(simp <;> omega)))
      · have hl : p < cs.length := ‹_›
        have hh : ((decL cs p).1 : Int) = 65533 := by simpa using ‹(((decL cs p).fst : Int) == 65533) = true›
        rw [key hl] at hh
        simp only at hh
        omega
      · have hl : p < cs.length := ‹_›
        refine Rnd.mk ⟨p + 1, by omega, by omega, ?_⟩
        repeat' ((conv => whnf);first|(with_reducible first|rfl|exact absTF|exact absFT)|exact True.intro|intro _|refine And.intro ?_ ?_|refine Fin.mk ?_|refine W1 rfl ?_ ?_|refine W2 rfl ?_ ?_|refine W3 rfl ?_ ?_|refine W4 ?_ ?_|refine W5 rfl ?_ ?_|refine W6 ?_ ?_|refine AppN.mk ?_|refine X1 (W1 rfl ?_ ?_)|refine X1 (W2 rfl ?_ ?_)|refine X2 (W7 rfl ?_ ?_)|refine X3 (W7 rfl ?_ ?_)|refine X4 (W7 rfl ?_ ?_)|refine X5 (W7 rfl ?_ ?_))
        all_goals (try (conv => whnf))
        all_goals (try first|exact Ob.mk (u8_bnd _)|(refine Ob.mk ?_;first|exact True.intro|assumption|omega|(try simp only [ZA,ZB,ZC,ZD,ZE,ZF,ZG,ZH,ZI,ZJ,ZK,ZL,ZM,ZN,ZO,Int.toNat_natCast,UInt8.ofNat_toNat,cast_eq] at *;omega)))
        all_goals (try first|(show (_:Int) = _;omega)|(show tupSV _ = _;with_unfolding_all rfl)|((first|show (_:Nat) ≤ _|show (_:Nat) ≤ _ ∧ (_:Nat) ≤ _|show (_:Int) ≤ _ ∧ (_:Int) ≤ _ ∧ (_:Int) ≤ _ ∧ (_:Int) ≤ _);(simp <;> omega)))
        all_goals (first | rfl | (rw [key hl]) | skip)
      · unfold irC; rw [if_neg (by omega)]
  · have h : (decide (0 ≤ r) && decide (r < 128)) = false := ‹_›
    have : ¬ (0 ≤ r ∧ r < 128) := fun q => by simp [q.1, q.2] at h
    unfold irC; rw [if_neg this]
  · have h : (decide (0 ≤ r) && decide (r < 128)) = false := ‹_›
    have hk : (!okR r) = false := ‹_›
    have hn : ¬ (0 ≤ r ∧ r < 128) := fun q => by simp [q.1, q.2] at h
    have e0 : irC cs r = -1 := by unfold irC; rw [if_neg hn]
    rw [e0]
    have hv : Utf8.valid r = true := by rw [← okR_valid']; simpa using hk
    have h128 : 128 ≤ r := by
      have h0 : 0 ≤ r := by unfold Utf8.valid at hv; simp at hv; omega
      omega
    have key := encR' r h128 hv
    generalize (Utf8.encode r).data.toList = L at *
    obtain ⟨k1, k2, k3⟩ := key
    refine LoopStop.mk (α := Unit) (fun p => [(9, .int .i64 ((L.length : Int) - 1)), (10, .int .i64 0)]) (fun p => []) 20 (fun p => True) (fun p => 0) () True.intro ?_ (fun p hp => ?_)
    · repeat' ((conv => whnf);first|(with_reducible first|rfl|exact absTF|exact absFT)|exact True.intro|intro _|refine And.intro ?_ ?_|refine Fin.mk ?_|refine W1 rfl ?_ ?_|refine W2 rfl ?_ ?_|refine W3 rfl ?_ ?_|refine W4 ?_ ?_|refine W5 rfl ?_ ?_|refine W6 ?_ ?_|refine AppN.mk ?_|refine X1 (W1 rfl ?_ ?_)|refine X1 (W2 rfl ?_ ?_)|refine X2 (W7 rfl ?_ ?_)|refine X3 (W7 rfl ?_ ?_)|refine X4 (W7 rfl ?_ ?_)|refine X5 (W7 rfl ?_ ?_))
      all_goals (try (conv => whnf))
      all_goals (try first|exact Ob.mk (u8_bnd _)|(refine Ob.mk ?_;first|exact True.intro|assumption|omega|(try simp only [ZA,ZB,ZC,ZD,ZE,ZF,ZG,ZH,ZI,ZJ,ZK,ZL,ZM,ZN,ZO,Int.toNat_natCast,UInt8.ofNat_toNat,cast_eq] at *;omega)))
      all_goals (try first|(show (_:Int) = _;omega)|(show tupSV _ = _;with_unfolding_all rfl)|((first|show (_:Nat) ≤ _|show (_:Nat) ≤ _ ∧ (_:Nat) ≤ _|show (_:Int) ≤ _ ∧ (_:Int) ≤ _ ∧ (_:Int) ≤ _ ∧ (_:Int) ≤ _);(simp <;> omega)))
      all_goals rfl
    · have el : ((L.length : Int) - 1).toNat = L.length - 1 := by omega
      have kneg : ∀ (x : Int) (cs' : List UInt8), (∀ b ∈ cs', b.toNat < 128) → 128 ≤ x.toNat ∧ x.toNat < 256 → Lib.indexByte cs' x.toNat.toUInt8 = -1 := fun x cs' hc hx => by
        refine index_none _ _ fun b hb q => ?_
        have := hc b hb
        rw [q] at this
        simp at this
        omega
      have kdrop : ∀ i, ∀ b ∈ cs.drop i, b.toNat < 128 := fun i b hb => ascB_mem hp1 (List.mem_of_mem_drop hb)
      have kb := UInt8.toNat_lt (L.getD (L.length - 1) 0)
      have kne : ((cs.getD ((L.length : Int) - 1).toNat 0).toNat : Int) ≠ ((L.getD ((L.length : Int) - 1).toNat 0).toNat : Int) := by
        have := ascB_get hp1 ((L.length : Int) - 1).toNat
        rw [el] at this ⊢
        omega
      have kx := kneg ((L.getD ((L.length : Int) - 1).toNat 0).toNat : Int) _ (kdrop ((L.length : Int) - 1 + 1).toNat) (by rw [el]; simp only [Int.toNat_natCast]; omega)
      repeat' ((conv => whnf);first|(with_reducible first|rfl|exact absTF|exact absFT)|exact True.intro|intro _|refine And.intro ?_ ?_|refine Fin.mk ?_|refine W1 rfl ?_ ?_|refine W2 rfl ?_ ?_|refine W3 rfl ?_ ?_|refine W4 ?_ ?_|refine W5 rfl ?_ ?_|refine W6 ?_ ?_|refine AppN.mk ?_|refine X1 (W1 rfl ?_ ?_)|refine X1 (W2 rfl ?_ ?_)|refine X2 (W7 rfl ?_ ?_)|refine X3 (W7 rfl ?_ ?_)|refine X4 (W7 rfl ?_ ?_)|refine X5 (W7 rfl ?_ ?_))
      all_goals (try (conv => whnf))
      all_goals (try first|exact Ob.mk (u8_bnd _)|(refine Ob.mk ?_;first|exact True.intro|assumption|omega|(try simp only [ZA,ZB,ZC,ZD,ZE,ZF,ZG,ZH,ZI,ZJ,ZK,ZL,ZM,ZN,ZO,Int.toNat_natCast,UInt8.ofNat_toNat,cast_eq] at *;omega)))
      all_goals (try first|(show (_:Int) = _;omega)|(show tupSV _ = _;with_unfolding_all rfl)|((first|show (_:Nat) ≤ _|show (_:Nat) ≤ _ ∧ (_:Nat) ≤ _|show (_:Int) ≤ _ ∧ (_:Int) ≤ _ ∧ (_:Int) ≤ _ ∧ (_:Int) ≤ _);(simp <;> omega)))
      all_goals (try (exfalso; rw [kx] at *; revert ‹decide ((-1 : Int) < 0) = false›; decide))
      all_goals (try (exfalso; exact kne (bne_eq_false_iff_eq.1 ‹_›)))
      refine ScopeStop.straight ?_
      repeat' ((conv => whnf);first|(with_reducible first|rfl|exact absTF|exact absFT)|exact True.intro|intro _|refine And.intro ?_ ?_|refine Fin.mk ?_|refine W1 rfl ?_ ?_|refine W2 rfl ?_ ?_|refine W3 rfl ?_ ?_|refine W4 ?_ ?_|refine W5 rfl ?_ ?_|refine W6 ?_ ?_|refine AppN.mk ?_|refine X1 (W1 rfl ?_ ?_)|refine X1 (W2 rfl ?_ ?_)|refine X2 (W7 rfl ?_ ?_)|refine X3 (W7 rfl ?_ ?_)|refine X4 (W7 rfl ?_ ?_)|refine X5 (W7 rfl ?_ ?_))
      all_goals (try (conv => whnf))
      all_goals (try first|exact Ob.mk (u8_bnd _)|(refine Ob.mk ?_;first|exact True.intro|assumption|omega|(try simp only [ZA,ZB,ZC,ZD,ZE,ZF,ZG,ZH,ZI,ZJ,ZK,ZL,ZM,ZN,ZO,Int.toNat_natCast,UInt8.ofNat_toNat,cast_eq] at *;omega)))
      all_goals (try first|(show (_:Int) = _;omega)|(show tupSV _ = _;with_unfolding_all rfl)|((first|show (_:Nat) ≤ _|show (_:Nat) ≤ _ ∧ (_:Nat) ≤ _|show (_:Int) ≤ _ ∧ (_:Int) ≤ _ ∧ (_:Int) ≤ _ ∧ (_:Int) ≤ _);(simp <;> omega)))
      all_goals (try (exfalso; rw [kx] at *; revert ‹decide ((-1 : Int) < 0) = false›; decide))
      all_goals (try (exfalso; exact kne (bne_eq_false_iff_eq.1 ‹_›)))
      all_goals trace_state
instance fSU (n : Int) : Fn BB 89 [.int .i64 n] True (.bool (decide (n > 8))) := by
  refine Fn.intro (N := 5) [0, 2] [] Tryd.call89 Tryd.func89 rfl rfl (by kernel_rfl) (fun hpre => ?_)
  repeat' ((conv => whnf);first|(with_reducible first|rfl|exact absTF|exact absFT)|exact True.intro|intro _|refine And.intro ?_ ?_|refine Fin.mk ?_|refine W1 rfl ?_ ?_|refine W2 rfl ?_ ?_|refine W3 rfl ?_ ?_|refine W4 ?_ ?_|refine W5 rfl ?_ ?_|refine W6 ?_ ?_|refine AppN.mk ?_|refine X1 (W1 rfl ?_ ?_)|refine X1 (W2 rfl ?_ ?_)|refine X2 (W7 rfl ?_ ?_)|refine X3 (W7 rfl ?_ ?_)|refine X4 (W7 rfl ?_ ?_)|refine X5 (W7 rfl ?_ ?_))
  all_goals (try (conv => whnf))
  all_goals (try first|exact Ob.mk (u8_bnd _)|(refine Ob.mk ?_;first|exact True.intro|assumption|omega|(try simp only [ZA,ZB,ZC,ZD,ZE,ZF,ZG,ZH,ZI,ZJ,ZK,ZL,ZM,ZN,ZO,Int.toNat_natCast,UInt8.ofNat_toNat,cast_eq] at *;omega)))
  all_goals (try first|(show (_:Int) = _;omega)|(show tupSV _ = _;with_unfolding_all rfl)|((first|show (_:Nat) ≤ _|show (_:Nat) ≤ _ ∧ (_:Nat) ≤ _|show (_:Int) ≤ _ ∧ (_:Int) ≤ _ ∧ (_:Int) ≤ _ ∧ (_:Int) ≤ _);(simp <;> omega)))
end Go.Vc

namespace Go.Vc
open Go.Proofs
set_option maxRecDepth 10000
set_option maxHeartbeats 8000000
theorem irC_low (cs : List UInt8) (b : UInt8) (h : b.toNat < 128) : decide (irC cs (b.toNat : Int) ≥ 0) = cs.contains b := by
  unfold irC
  rw [if_pos (by omega), ← index_mem]
  simp
theorem irC_hi (cs : List UInt8) (r : Int) (h : 128 ≤ r) : decide (irC cs r ≥ 0) = false := by
  unfold irC; rw [if_neg (by omega)]; rfl
theorem noAny_more {s cs : List UInt8} {p q : Nat} (hcs : ascB cs = true) (h : Lib.NoAny s cs p) (hh : ∀ j, p ≤ j → j < q → 128 ≤ (s.getD j 0).toNat) : Lib.NoAny s cs q := by
  intro j b hj hs
  rcases Nat.lt_or_ge j p with c | c
  · exact h j b c hs
  · have := hh j c hj
    have e : s.getD j 0 = b := by simp [List.getD, hs]
    rw [e] at this
    rw [Bool.eq_false_iff]
    intro hc
    rw [List.contains_iff_mem] at hc
    have := ascB_mem hcs hc
    omega
theorem fIAsc (s cs : List UInt8) : Fn BB 78 [.str s, .str cs] (s.length ≤ 8 ∧ 2 ≤ cs.length ∧ cs.length ≤ 1000 ∧ ascB cs = true) (.int .i64 (Lib.indexAny s cs)) := by
  refine Fn.intro (N := 55) [0, 1, 4, 5, 6, 7, 8, 9, 10, 12, 15, 20, 26, 32, 36, 42, 45, 46, 47, 53] [] Tryd.call78 Tryd.func78 rfl rfl (by kernel_rfl) (fun hpre => ?_)
  obtain ⟨hp1, hp2, hp3, hp4⟩ := hpre
  repeat' ((conv => whnf);first|(with_reducible first|rfl|exact absTF|exact absFT)|exact True.intro|(intro hq; (try simp only [ZA,ZB,ZC,ZD,ZE,ZF,ZG,ZH,ZI,ZJ,ZK,ZL,ZM,ZN,ZO,Bool.and_eq_false_iff,Bool.or_eq_false_iff,ge_iff_le,gt_iff_lt,Int.toNat_natCast,UInt8.ofNat_toNat,cast_eq] at hq); (try (exfalso; first | omega | exact hq trivial | exact absurd hq (by decide))))|refine And.intro ?_ ?_|refine Fin.mk ?_|refine W1 rfl ?_ ?_|refine W2 rfl ?_ ?_|refine W3 rfl ?_ ?_|refine W4 ?_ ?_|refine W5 rfl ?_ ?_|refine W6 ?_ ?_|refine AppN.mk ?_|refine X1 (W1 rfl ?_ ?_)|refine X1 (W2 rfl ?_ ?_)|refine X2 (W7 rfl ?_ ?_)|refine X3 (W7 rfl ?_ ?_)|refine X4 (W7 rfl ?_ ?_)|refine X5 (W7 rfl ?_ ?_))
  all_goals (try (conv => whnf))
  all_goals (try first|exact Ob.mk (u8_bnd _)|(refine Ob.mk ?_;first|exact True.intro|assumption|omega|(try simp only [ZA,ZB,ZC,ZD,ZE,ZF,ZG,ZH,ZI,ZJ,ZK,ZL,ZM,ZN,ZO,Int.toNat_natCast,UInt8.ofNat_toNat,cast_eq] at *;omega)))
  all_goals (try first|(show (_:Int) = _;omega)|(show tupSV _ = _;with_unfolding_all rfl)|((first|show (_:Nat) ≤ _|show (_:Nat) ≤ _ ∧ (_:Nat) ≤ _|show (_:Int) ≤ _ ∧ (_:Int) ≤ _ ∧ (_:Int) ≤ _ ∧ (_:Int) ≤ _);(simp <;> omega)))
  · exfalso; simp_all
  refine LoopStop.mk (α := Nat) (fun p => []) (fun p => [(0, .iter s p)]) 20 (fun p => p ≤ s.length ∧ Lib.NoAny s cs p) (fun p => s.length - p) 0 ⟨by omega, Lib.NoAny.zero _ _⟩ ?_ (fun p hp => ?_)
  · repeat' ((conv => whnf);first|(with_reducible first|rfl|exact absTF|exact absFT)|exact True.intro|intro _|refine And.intro ?_ ?_|refine Fin.mk ?_|refine W1 rfl ?_ ?_|refine W2 rfl ?_ ?_|refine W3 rfl ?_ ?_|refine W4 ?_ ?_|refine W5 rfl ?_ ?_|refine W6 ?_ ?_|refine AppN.mk ?_|refine X1 (W1 rfl ?_ ?_)|refine X1 (W2 rfl ?_ ?_)|refine X2 (W7 rfl ?_ ?_)|refine X3 (W7 rfl ?_ ?_)|refine X4 (W7 rfl ?_ ?_)|refine X5 (W7 rfl ?_ ?_))
    all_goals (try (conv => whnf))
    all_goals (try first|exact Ob.mk (u8_bnd _)|(refine Ob.mk ?_;first|exact True.intro|assumption|omega|(try simp only [ZA,ZB,ZC,ZD,ZE,ZF,ZG,ZH,ZI,ZJ,ZK,ZL,ZM,ZN,ZO,Int.toNat_natCast,UInt8.ofNat_toNat,cast_eq] at *;omega)))
    all_goals (try first|(show (_:Int) = _;omega)|(show tupSV _ = _;with_unfolding_all rfl)|((first|show (_:Nat) ≤ _|show (_:Nat) ≤ _ ∧ (_:Nat) ≤ _|show (_:Int) ≤ _ ∧ (_:Int) ≤ _ ∧ (_:Int) ≤ _ ∧ (_:Int) ≤ _);(simp <;> omega)))
    all_goals rfl
  · obtain ⟨q1, q3⟩ := hp
    have hget : p < s.length → s[p]? = some (s.getD p 0) := fun hl => by simp [List.getD, List.getElem?_eq_getElem hl]
    have key : p < s.length → ((s.getD p 0).toNat < 128 ∧ decL s p = ((s.getD p 0).toNat, 1)) ∨ (128 ≤ (s.getD p 0).toNat ∧ 128 ≤ (decL s p).1 ∧ 1 ≤ (decL s p).2 ∧ p + (decL s p).2 ≤ s.length ∧ ∀ j, p ≤ j → j < p + (decL s p).2 → 128 ≤ (s.getD j 0).toNat) := fun hl => dec_place s p hl
    repeat' ((conv => whnf);first|(with_reducible first|rfl|exact absTF|exact absFT)|exact True.intro|intro _|refine And.intro ?_ ?_|refine Fin.mk ?_|refine W1 rfl ?_ ?_|refine W2 rfl ?_ ?_|refine W3 rfl ?_ ?_|refine W4 ?_ ?_|refine W5 rfl ?_ ?_|refine W6 ?_ ?_|refine AppN.mk ?_|refine X1 (W1 rfl ?_ ?_)|refine X1 (W2 rfl ?_ ?_)|refine X2 (W7 rfl ?_ ?_)|refine X3 (W7 rfl ?_ ?_)|refine X4 (W7 rfl ?_ ?_)|refine X5 (W7 rfl ?_ ?_))
    all_goals (try (conv => whnf))
    all_goals (try first|exact Ob.mk (u8_bnd _)|(refine Ob.mk ?_;first|exact True.intro|assumption|omega|(try simp only [ZA,ZB,ZC,ZD,ZE,ZF,ZG,ZH,ZI,ZJ,ZK,ZL,ZM,ZN,ZO,Int.toNat_natCast,UInt8.ofNat_toNat,cast_eq] at *;omega)))
    all_goals (try first|(show (_:Int) = _;omega)|(show tupSV _ = _;with_unfolding_all rfl)|((first|show (_:Nat) ≤ _|show (_:Nat) ≤ _ ∧ (_:Nat) ≤ _|show (_:Int) ≤ _ ∧ (_:Int) ≤ _ ∧ (_:Int) ≤ _ ∧ (_:Int) ≤ _);(simp <;> omega)))
    · exact ⟨hp4, hp3⟩
    · have hl : p < s.length := ‹_›
      have hq : decide (irC cs ((decL s p).1 : Int) ≥ 0) = true := ‹_›
      rcases key hl with ⟨k1, k2⟩ | ⟨k1, k2, _⟩
      · rw [k2, irC_low cs _ k1] at hq
        exact (Lib.indexAny_hit q3 (hget hl) hq).symm
      · rw [irC_hi cs _ (by omega)] at hq; cases hq
    · have hl : p < s.length := ‹_›
      have hq : decide (irC cs ((decL s p).1 : Int) ≥ 0) = false := ‹_›
      refine Rnd.mk ⟨p + (decL s p).2, ?_, ?_, ?_⟩
      · rcases key hl with ⟨k1, k2⟩ | ⟨k1, k2, k3, k4, k5⟩
        · rw [k2, irC_low cs _ k1] at hq
          rw [k2]
          exact ⟨by simp only; omega, q3.succ (hget hl) hq⟩
        · exact ⟨k4, noAny_more hp4 q3 k5⟩
      · rcases key hl with ⟨k1, k2⟩ | ⟨k1, k2, k3, k4, k5⟩
        · rw [k2]; simp only; omega
        · omega
      · repeat' ((conv => whnf);first|(with_reducible first|rfl|exact absTF|exact absFT)|exact True.intro|intro _|refine And.intro ?_ ?_|refine Fin.mk ?_|refine W1 rfl ?_ ?_|refine W2 rfl ?_ ?_|refine W3 rfl ?_ ?_|refine W4 ?_ ?_|refine W5 rfl ?_ ?_|refine W6 ?_ ?_|refine AppN.mk ?_|refine X1 (W1 rfl ?_ ?_)|refine X1 (W2 rfl ?_ ?_)|refine X2 (W7 rfl ?_ ?_)|refine X3 (W7 rfl ?_ ?_)|refine X4 (W7 rfl ?_ ?_)|refine X5 (W7 rfl ?_ ?_))
        all_goals (try (conv => whnf))
        all_goals (try first|exact Ob.mk (u8_bnd _)|(refine Ob.mk ?_;first|exact True.intro|assumption|omega|(try simp only [ZA,ZB,ZC,ZD,ZE,ZF,ZG,ZH,ZI,ZJ,ZK,ZL,ZM,ZN,ZO,Int.toNat_natCast,UInt8.ofNat_toNat,cast_eq] at *;omega)))
        all_goals (try first|(show (_:Int) = _;omega)|(show tupSV _ = _;with_unfolding_all rfl)|((first|show (_:Nat) ≤ _|show (_:Nat) ≤ _ ∧ (_:Nat) ≤ _|show (_:Int) ≤ _ ∧ (_:Int) ≤ _ ∧ (_:Int) ≤ _ ∧ (_:Int) ≤ _);(simp <;> omega)))
        all_goals rfl
    · have hl : ¬ p < s.length := ‹_›
      obtain rfl : p = s.length := by omega
      exact (Lib.indexAny_none q3).symm
instance fIAc (s cs : List UInt8) : Fn BB 78 [.str s, .str cs] (s.length ≤ 1000000 ∧ 2 ≤ cs.length ∧ cs.length ≤ 1000 ∧ ascB cs = true) (.int .i64 (Lib.indexAny s cs)) := by
  by_cases hl : s.length ≤ 8
  · exact ⟨(fIAsc s cs).1, fun hp => (fIAsc s cs).2 ⟨hl, hp.2⟩⟩
  · refine Fn.liftB Tryd.call78 fun hp r β w vs hG m h => ?_
    obtain ⟨rfl, h1, h2⟩ := h.str2
    have hs : (⟨s.toArray⟩ : ByteArray).size = s.length := by show s.toArray.size = _; simp
    have hc : (⟨cs.toArray⟩ : ByteArray).size = cs.length := by show cs.toArray.size = _; simp
    refine ⟨_, (Tryd.strings_IndexAny_long (by exact Tryd.zeroValue105) ⟨s.toArray⟩ ⟨cs.toArray⟩ w (by rw [hc]; omega) (by rw [hs]; omega) (by rw [hs]; omega) (by rw [hc]; omega) (fun j b hb => ascB_mem hp.2.2.2 (List.mem_of_getElem? hb))).mono fun e w' hh => ?_, .int⟩
    obtain ⟨rfl, rfl⟩ := hh
    exact ⟨rfl, ((Go.RowKit.Below.refl _ _).alloc (Nat.le_refl _) _).alloc (by simp) _⟩
end Go.Vc

namespace Go.Vc
open Go.Proofs
set_option maxRecDepth 10000
set_option maxHeartbeats 4000000
abbrev mA : List UInt8 := [45, 45, 62]
abbrev mB : List UInt8 := [45, 45, 33, 62]
abbrev mC : List UInt8 := [93, 93, 62]
def bogusP (s : List UInt8) (k : Nat) : Rk := (4, [], (s.drop k).take (fnd (s.drop k) [62]), ((k + uN (s.drop k) [62] : Nat) : Int), true)
def bareP (s : List UInt8) : List UInt8 :=
  if endP s [45, 45, 33] = true then s.take (s.length - 3) else if endP s [45, 45] = true then s.take (s.length - 2) else if endP s [45] = true then s.take (s.length - 1) else s
def comP (s : List UInt8) : Rk :=
  if begP s [62] = true then (4, [], [], 1, true) else if begP s [45, 62] = true then (4, [], [], 2, true)
  else if fdB s mA = false ∧ fdB s mB = false then (4, [], bareP s, (s.length : Int), true)
  else if fnd s mB < fnd s mA then (4, [], s.take (fnd s mB), ((fnd s mB + 4 : Nat) : Int), true) else (4, [], s.take (fnd s mA), ((fnd s mA + 3 : Nat) : Int), true)
def docN (s : List UInt8) : List UInt8 := lowL ((((s.drop 9).take (fnd (s.drop 9) [62])).dropWhile spB).takeWhile fun c => !spB c)
def docP (s : List UInt8) : Rk := (5, docN s, [], ((9 + uN (s.drop 9) [62] : Nat) : Int), true)
def secD (s : List UInt8) : List UInt8 := (s.drop 9).take (fnd (s.drop 9) mC)
def secP (s : List UInt8) : Rk := if secD s = [] then (0, [], [], ((9 + uN (s.drop 9) mC : Nat) : Int), false) else (3, [], secD s, ((9 + uN (s.drop 9) mC : Nat) : Int), true)
instance rBogus (s : List UInt8) (k : Int) : Fn BB 49 [.str s, .int .i64 k] (0 ≤ k ∧ k ≤ s.length ∧ s.length ≤ 900000) (rkSV (bogusP s k.toNat)) := by
  refine Fn.intro (N := 23) [0, 1, 4, 5, 6, 7, 8] [] Tryd.call49 Tryd.func49 rfl rfl (by kernel_rfl) (fun hpre => ?_)
  obtain ⟨p1, p2, p3⟩ := hpre
  have h1 := uN_le (s.drop k.toNat) [62]
  rw [List.length_drop] at h1
  repeat' ((conv => whnf);first|(with_reducible first|rfl|exact absTF|exact absFT)|exact True.intro|intro _|refine And.intro ?_ ?_|refine Fin.mk ?_|refine W1 rfl ?_ ?_|refine W2 rfl ?_ ?_|refine W3 rfl ?_ ?_|refine W4 ?_ ?_|refine W5 rfl ?_ ?_|refine W6 ?_ ?_|refine AppN.mk ?_|refine X1 (W1 rfl ?_ ?_)|refine X1 (W2 rfl ?_ ?_)|refine X2 (W7 rfl ?_ ?_)|refine X3 (W7 rfl ?_ ?_)|refine X4 (W7 rfl ?_ ?_)|refine X5 (W7 rfl ?_ ?_))
  all_goals (try (conv => whnf))
  all_goals (try first|exact Ob.mk (u8_bnd _)|(refine Ob.mk ?_;first|exact True.intro|assumption|omega|(try simp only [ZA,ZB,ZC,ZD,ZE,ZF,ZG,ZH,ZI,ZJ,ZK,ZL,ZM,ZN,ZO,Int.toNat_natCast,UInt8.ofNat_toNat,cast_eq] at *;omega)))
  all_goals (try first|(show (_:Int) = _;omega)|(show tupSV _ = _;with_unfolding_all rfl)|((first|show (_:Nat) ≤ _|show (_:Nat) ≤ _ ∧ (_:Nat) ≤ _|show (_:Int) ≤ _ ∧ (_:Int) ≤ _ ∧ (_:Int) ≤ _ ∧ (_:Int) ≤ _);(simp <;> omega)))
  all_goals (first | rfl | exact ⟨by simp, by rw [List.length_drop]; omega⟩ | (show k + _ = ((k.toNat + _ : Nat) : Int); omega) | trace_state)
instance rTSl (s p : List UInt8) : Fn BB 92 [.str s, .str p] True (.str (if endP s p = true then s.take (s.length - p.length) else s)) := by
  refine Fn.intro (N := 16) [0, 1, 4, 7] [] Tryd.call92 Tryd.func92 rfl rfl (by kernel_rfl) (fun hpre => ?_)
  have e : ((s.length : Int) - (p.length : Int)).toNat = s.length - p.length := by omega
  cases hb : endP s p
  · repeat' ((conv => whnf);first|(with_reducible first|rfl|exact absTF|exact absFT)|exact True.intro|intro _|refine And.intro ?_ ?_|refine Fin.mk ?_|refine W1 rfl ?_ ?_|refine W2 rfl ?_ ?_|refine W3 rfl ?_ ?_|refine W4 ?_ ?_|refine W5 rfl ?_ ?_|refine W6 ?_ ?_|refine AppN.mk ?_|refine X1 (W1 rfl ?_ ?_)|refine X1 (W2 rfl ?_ ?_)|refine X2 (W7 rfl ?_ ?_)|refine X3 (W7 rfl ?_ ?_)|refine X4 (W7 rfl ?_ ?_)|refine X5 (W7 rfl ?_ ?_))
    all_goals (try (conv => whnf))
    all_goals (try first|exact Ob.mk (u8_bnd _)|(refine Ob.mk ?_;first|exact True.intro|assumption|omega|(try simp only [ZA,ZB,ZC,ZD,ZE,ZF,ZG,ZH,ZI,ZJ,ZK,ZL,ZM,ZN,ZO,Int.toNat_natCast,UInt8.ofNat_toNat,cast_eq] at *;omega)))
    all_goals (try first|(show (_:Int) = _;omega)|(show tupSV _ = _;with_unfolding_all rfl)|((first|show (_:Nat) ≤ _|show (_:Nat) ≤ _ ∧ (_:Nat) ≤ _|show (_:Int) ≤ _ ∧ (_:Int) ≤ _ ∧ (_:Int) ≤ _ ∧ (_:Int) ≤ _);(simp <;> omega)))
    all_goals (try (exfalso; have h : endP s p = true := ‹_›; rw [hb] at h; cases h; done))
    all_goals (first | rfl | trace_state)
  · have hl : p.length ≤ s.length := by
      unfold endP at hb
      rw [Bool.and_eq_true] at hb
      have := of_decide_eq_true hb.1; omega
    repeat' ((conv => whnf);first|(with_reducible first|rfl|exact absTF|exact absFT)|exact True.intro|intro _|refine And.intro ?_ ?_|refine Fin.mk ?_|refine W1 rfl ?_ ?_|refine W2 rfl ?_ ?_|refine W3 rfl ?_ ?_|refine W4 ?_ ?_|refine W5 rfl ?_ ?_|refine W6 ?_ ?_|refine AppN.mk ?_|refine X1 (W1 rfl ?_ ?_)|refine X1 (W2 rfl ?_ ?_)|refine X2 (W7 rfl ?_ ?_)|refine X3 (W7 rfl ?_ ?_)|refine X4 (W7 rfl ?_ ?_)|refine X5 (W7 rfl ?_ ?_))
    all_goals (try (conv => whnf))
    all_goals (try first|exact Ob.mk (u8_bnd _)|(refine Ob.mk ?_;first|exact True.intro|assumption|omega|(try simp only [ZA,ZB,ZC,ZD,ZE,ZF,ZG,ZH,ZI,ZJ,ZK,ZL,ZM,ZN,ZO,Int.toNat_natCast,UInt8.ofNat_toNat,cast_eq] at *;omega)))
    all_goals (try first|(show (_:Int) = _;omega)|(show tupSV _ = _;with_unfolding_all rfl)|((first|show (_:Nat) ≤ _|show (_:Nat) ≤ _ ∧ (_:Nat) ≤ _|show (_:Int) ≤ _ ∧ (_:Int) ≤ _ ∧ (_:Int) ≤ _ ∧ (_:Int) ≤ _);(simp <;> omega)))
    all_goals (try (exfalso; have h : endP s p = false := ‹_›; rw [hb] at h; cases h; done))
    all_goals (first | omega | (rw [e]; rfl) | trace_state)
instance rTS (s p : List UInt8) : Fn BB 83 [.str s, .str p] True (.str (if endP s p = true then s.take (s.length - p.length) else s)) := by
  refine Fn.intro (N := 8) [0, 1, 4] [] Tryd.call83 Tryd.func83 rfl rfl (by kernel_rfl) (fun hpre => ?_)
  repeat' ((conv => whnf);first|(with_reducible first|rfl|exact absTF|exact absFT)|exact True.intro|intro _|refine And.intro ?_ ?_|refine Fin.mk ?_|refine W1 rfl ?_ ?_|refine W2 rfl ?_ ?_|refine W3 rfl ?_ ?_|refine W4 ?_ ?_|refine W5 rfl ?_ ?_|refine W6 ?_ ?_|refine AppN.mk ?_|refine X1 (W1 rfl ?_ ?_)|refine X1 (W2 rfl ?_ ?_)|refine X2 (W7 rfl ?_ ?_)|refine X3 (W7 rfl ?_ ?_)|refine X4 (W7 rfl ?_ ?_)|refine X5 (W7 rfl ?_ ?_))
  all_goals (try (conv => whnf))
  all_goals (try first|exact Ob.mk (u8_bnd _)|(refine Ob.mk ?_;first|exact True.intro|assumption|omega|(try simp only [ZA,ZB,ZC,ZD,ZE,ZF,ZG,ZH,ZI,ZJ,ZK,ZL,ZM,ZN,ZO,Int.toNat_natCast,UInt8.ofNat_toNat,cast_eq] at *;omega)))
  all_goals (try first|(show (_:Int) = _;omega)|(show tupSV _ = _;with_unfolding_all rfl)|((first|show (_:Nat) ≤ _|show (_:Nat) ≤ _ ∧ (_:Nat) ≤ _|show (_:Int) ≤ _ ∧ (_:Int) ≤ _ ∧ (_:Int) ≤ _ ∧ (_:Int) ≤ _);(simp <;> omega)))
theorem bare1 {s : List UInt8} (h : endP s [45, 45, 33] = true) : bareP s = s.take (s.length - 3) := by unfold bareP; rw [if_pos h]
theorem bare2 {s : List UInt8} (h1 : endP s [45, 45, 33] = false) (h : endP s [45, 45] = true) : bareP s = s.take (s.length - 2) := by unfold bareP; rw [if_neg (by rw [h1]; decide), if_pos h]
theorem bare3 {s : List UInt8} (h1 : endP s [45, 45, 33] = false) (h2 : endP s [45, 45] = false) (h : endP s [45] = true) : bareP s = s.take (s.length - 1) := by unfold bareP; rw [if_neg (by rw [h1]; decide), if_neg (by rw [h2]; decide), if_pos h]
theorem bare4 {s : List UInt8} (h1 : endP s [45, 45, 33] = false) (h2 : endP s [45, 45] = false) (h : endP s [45] = false) : bareP s = s := by unfold bareP; rw [if_neg (by rw [h1]; decide), if_neg (by rw [h2]; decide), if_neg (by rw [h]; decide)]
instance rBare (s : List UInt8) : Fn BB 76 [.str s] True (.str (bareP s)) := by
  refine Fn.intro (N := 19) [0, 2, 4, 5, 6, 7, 8, 13] [] Tryd.call76 Tryd.func76 rfl rfl (by kernel_rfl) (fun hpre => ?_)
  repeat' ((conv => whnf);first|(with_reducible first|rfl|exact absTF|exact absFT)|exact True.intro|intro _|refine And.intro ?_ ?_|refine Fin.mk ?_|refine W1 rfl ?_ ?_|refine W2 rfl ?_ ?_|refine W3 rfl ?_ ?_|refine W4 ?_ ?_|refine W5 rfl ?_ ?_|refine W6 ?_ ?_|refine AppN.mk ?_|refine X1 (W1 rfl ?_ ?_)|refine X1 (W2 rfl ?_ ?_)|refine X2 (W7 rfl ?_ ?_)|refine X3 (W7 rfl ?_ ?_)|refine X4 (W7 rfl ?_ ?_)|refine X5 (W7 rfl ?_ ?_))
  all_goals (try (conv => whnf))
  all_goals (try first|exact Ob.mk (u8_bnd _)|(refine Ob.mk ?_;first|exact True.intro|assumption|omega|(try simp only [ZA,ZB,ZC,ZD,ZE,ZF,ZG,ZH,ZI,ZJ,ZK,ZL,ZM,ZN,ZO,Int.toNat_natCast,UInt8.ofNat_toNat,cast_eq] at *;omega)))
  all_goals (try first|(show (_:Int) = _;omega)|(show tupSV _ = _;with_unfolding_all rfl)|((first|show (_:Nat) ≤ _|show (_:Nat) ≤ _ ∧ (_:Nat) ≤ _|show (_:Int) ≤ _ ∧ (_:Int) ≤ _ ∧ (_:Int) ≤ _ ∧ (_:Int) ≤ _);(simp <;> omega)))
  refine LoopStop.mk (α := Nat) (fun i => [(7, .int .i64 i)]) (fun i => []) 20 (fun i => i ≤ 3 ∧ (1 ≤ i → endP s [45, 45, 33] = false) ∧ (2 ≤ i → endP s [45, 45] = false) ∧ (3 ≤ i → endP s [45] = false)) (fun i => 3 - i) 0 (by simp) ?_ (fun i hi => ?_)
  · repeat' ((conv => whnf);first|(with_reducible first|rfl|exact absTF|exact absFT)|exact True.intro|intro _|refine And.intro ?_ ?_|refine Fin.mk ?_|refine W1 rfl ?_ ?_|refine W2 rfl ?_ ?_|refine W3 rfl ?_ ?_|refine W4 ?_ ?_|refine W5 rfl ?_ ?_|refine W6 ?_ ?_|refine AppN.mk ?_|refine X1 (W1 rfl ?_ ?_)|refine X1 (W2 rfl ?_ ?_)|refine X2 (W7 rfl ?_ ?_)|refine X3 (W7 rfl ?_ ?_)|refine X4 (W7 rfl ?_ ?_)|refine X5 (W7 rfl ?_ ?_))
    all_goals (try (conv => whnf))
    all_goals (try first|exact Ob.mk (u8_bnd _)|(refine Ob.mk ?_;first|exact True.intro|assumption|omega|(try simp only [ZA,ZB,ZC,ZD,ZE,ZF,ZG,ZH,ZI,ZJ,ZK,ZL,ZM,ZN,ZO,Int.toNat_natCast,UInt8.ofNat_toNat,cast_eq] at *;omega)))
    all_goals (try first|(show (_:Int) = _;omega)|(show tupSV _ = _;with_unfolding_all rfl)|((first|show (_:Nat) ≤ _|show (_:Nat) ≤ _ ∧ (_:Nat) ≤ _|show (_:Int) ≤ _ ∧ (_:Int) ≤ _ ∧ (_:Int) ≤ _ ∧ (_:Int) ≤ _);(simp <;> omega)))
    all_goals rfl
  · obtain ⟨q0, q1, q2, q3⟩ := hi
    have hc : i = 0 ∨ i = 1 ∨ i = 2 ∨ i = 3 := by omega
    rcases hc with rfl | rfl | rfl | rfl
    · repeat' ((conv => whnf);first|(with_reducible first|rfl|exact absTF|exact absFT)|exact True.intro|intro _|refine And.intro ?_ ?_|refine Fin.mk ?_|refine W1 rfl ?_ ?_|refine W2 rfl ?_ ?_|refine W3 rfl ?_ ?_|refine W4 ?_ ?_|refine W5 rfl ?_ ?_|refine W6 ?_ ?_|refine AppN.mk ?_|refine X1 (W1 rfl ?_ ?_)|refine X1 (W2 rfl ?_ ?_)|refine X2 (W7 rfl ?_ ?_)|refine X3 (W7 rfl ?_ ?_)|refine X4 (W7 rfl ?_ ?_)|refine X5 (W7 rfl ?_ ?_))
      all_goals (try (conv => whnf))
      all_goals (try first|exact Ob.mk (u8_bnd _)|(refine Ob.mk ?_;first|exact True.intro|assumption|omega|(try simp only [ZA,ZB,ZC,ZD,ZE,ZF,ZG,ZH,ZI,ZJ,ZK,ZL,ZM,ZN,ZO,Int.toNat_natCast,UInt8.ofNat_toNat,cast_eq] at *;omega)))
      all_goals (try first|(show (_:Int) = _;omega)|(show tupSV _ = _;with_unfolding_all rfl)|((first|show (_:Nat) ≤ _|show (_:Nat) ≤ _ ∧ (_:Nat) ≤ _|show (_:Int) ≤ _ ∧ (_:Int) ≤ _ ∧ (_:Int) ≤ _ ∧ (_:Int) ≤ _);(simp <;> omega)))
      · exact (if_pos ‹_›).trans (bare1 ‹_›).symm
      · refine Rnd.mk ⟨1, ⟨by omega, fun _ => ‹_›, by omega, by omega⟩, by omega, ?_⟩
        repeat' ((conv => whnf);first|(with_reducible first|rfl|exact absTF|exact absFT)|exact True.intro|intro _|refine And.intro ?_ ?_|refine Fin.mk ?_|refine W1 rfl ?_ ?_|refine W2 rfl ?_ ?_|refine W3 rfl ?_ ?_|refine W4 ?_ ?_|refine W5 rfl ?_ ?_|refine W6 ?_ ?_|refine AppN.mk ?_|refine X1 (W1 rfl ?_ ?_)|refine X1 (W2 rfl ?_ ?_)|refine X2 (W7 rfl ?_ ?_)|refine X3 (W7 rfl ?_ ?_)|refine X4 (W7 rfl ?_ ?_)|refine X5 (W7 rfl ?_ ?_))
        all_goals (try (conv => whnf))
        all_goals (try first|exact Ob.mk (u8_bnd _)|(refine Ob.mk ?_;first|exact True.intro|assumption|omega|(try simp only [ZA,ZB,ZC,ZD,ZE,ZF,ZG,ZH,ZI,ZJ,ZK,ZL,ZM,ZN,ZO,Int.toNat_natCast,UInt8.ofNat_toNat,cast_eq] at *;omega)))
        all_goals (try first|(show (_:Int) = _;omega)|(show tupSV _ = _;with_unfolding_all rfl)|((first|show (_:Nat) ≤ _|show (_:Nat) ≤ _ ∧ (_:Nat) ≤ _|show (_:Int) ≤ _ ∧ (_:Int) ≤ _ ∧ (_:Int) ≤ _ ∧ (_:Int) ≤ _);(simp <;> omega)))
        all_goals rfl
      · exfalso; exact absurd ‹decide _ = false› (by decide)
    · repeat' ((conv => whnf);first|(with_reducible first|rfl|exact absTF|exact absFT)|exact True.intro|intro _|refine And.intro ?_ ?_|refine Fin.mk ?_|refine W1 rfl ?_ ?_|refine W2 rfl ?_ ?_|refine W3 rfl ?_ ?_|refine W4 ?_ ?_|refine W5 rfl ?_ ?_|refine W6 ?_ ?_|refine AppN.mk ?_|refine X1 (W1 rfl ?_ ?_)|refine X1 (W2 rfl ?_ ?_)|refine X2 (W7 rfl ?_ ?_)|refine X3 (W7 rfl ?_ ?_)|refine X4 (W7 rfl ?_ ?_)|refine X5 (W7 rfl ?_ ?_))
      all_goals (try (conv => whnf))
      all_goals (try first|exact Ob.mk (u8_bnd _)|(refine Ob.mk ?_;first|exact True.intro|assumption|omega|(try simp only [ZA,ZB,ZC,ZD,ZE,ZF,ZG,ZH,ZI,ZJ,ZK,ZL,ZM,ZN,ZO,Int.toNat_natCast,UInt8.ofNat_toNat,cast_eq] at *;omega)))
      all_goals (try first|(show (_:Int) = _;omega)|(show tupSV _ = _;with_unfolding_all rfl)|((first|show (_:Nat) ≤ _|show (_:Nat) ≤ _ ∧ (_:Nat) ≤ _|show (_:Int) ≤ _ ∧ (_:Int) ≤ _ ∧ (_:Int) ≤ _ ∧ (_:Int) ≤ _);(simp <;> omega)))
      · exact (if_pos ‹_›).trans (bare2 (q1 (by omega)) ‹_›).symm
      · refine Rnd.mk ⟨2, ⟨by omega, fun _ => q1 (by omega), fun _ => ‹_›, by omega⟩, by omega, ?_⟩
        repeat' ((conv => whnf);first|(with_reducible first|rfl|exact absTF|exact absFT)|exact True.intro|intro _|refine And.intro ?_ ?_|refine Fin.mk ?_|refine W1 rfl ?_ ?_|refine W2 rfl ?_ ?_|refine W3 rfl ?_ ?_|refine W4 ?_ ?_|refine W5 rfl ?_ ?_|refine W6 ?_ ?_|refine AppN.mk ?_|refine X1 (W1 rfl ?_ ?_)|refine X1 (W2 rfl ?_ ?_)|refine X2 (W7 rfl ?_ ?_)|refine X3 (W7 rfl ?_ ?_)|refine X4 (W7 rfl ?_ ?_)|refine X5 (W7 rfl ?_ ?_))
        all_goals (try (conv => whnf))
        all_goals (try first|exact Ob.mk (u8_bnd _)|(refine Ob.mk ?_;first|exact True.intro|assumption|omega|(try simp only [ZA,ZB,ZC,ZD,ZE,ZF,ZG,ZH,ZI,ZJ,ZK,ZL,ZM,ZN,ZO,Int.toNat_natCast,UInt8.ofNat_toNat,cast_eq] at *;omega)))
        all_goals (try first|(show (_:Int) = _;omega)|(show tupSV _ = _;with_unfolding_all rfl)|((first|show (_:Nat) ≤ _|show (_:Nat) ≤ _ ∧ (_:Nat) ≤ _|show (_:Int) ≤ _ ∧ (_:Int) ≤ _ ∧ (_:Int) ≤ _ ∧ (_:Int) ≤ _);(simp <;> omega)))
        all_goals rfl
      · exfalso; exact absurd ‹decide _ = false› (by decide)
    · repeat' ((conv => whnf);first|(with_reducible first|rfl|exact absTF|exact absFT)|exact True.intro|intro _|refine And.intro ?_ ?_|refine Fin.mk ?_|refine W1 rfl ?_ ?_|refine W2 rfl ?_ ?_|refine W3 rfl ?_ ?_|refine W4 ?_ ?_|refine W5 rfl ?_ ?_|refine W6 ?_ ?_|refine AppN.mk ?_|refine X1 (W1 rfl ?_ ?_)|refine X1 (W2 rfl ?_ ?_)|refine X2 (W7 rfl ?_ ?_)|refine X3 (W7 rfl ?_ ?_)|refine X4 (W7 rfl ?_ ?_)|refine X5 (W7 rfl ?_ ?_))
      all_goals (try (conv => whnf))
      all_goals (try first|exact Ob.mk (u8_bnd _)|(refine Ob.mk ?_;first|exact True.intro|assumption|omega|(try simp only [ZA,ZB,ZC,ZD,ZE,ZF,ZG,ZH,ZI,ZJ,ZK,ZL,ZM,ZN,ZO,Int.toNat_natCast,UInt8.ofNat_toNat,cast_eq] at *;omega)))
      all_goals (try first|(show (_:Int) = _;omega)|(show tupSV _ = _;with_unfolding_all rfl)|((first|show (_:Nat) ≤ _|show (_:Nat) ≤ _ ∧ (_:Nat) ≤ _|show (_:Int) ≤ _ ∧ (_:Int) ≤ _ ∧ (_:Int) ≤ _ ∧ (_:Int) ≤ _);(simp <;> omega)))
      · exact (if_pos ‹_›).trans (bare3 (q1 (by omega)) (q2 (by omega)) ‹_›).symm
      · refine Rnd.mk ⟨3, ⟨by omega, fun _ => q1 (by omega), fun _ => q2 (by omega), fun _ => ‹_›⟩, by omega, ?_⟩
        repeat' ((conv => whnf);first|(with_reducible first|rfl|exact absTF|exact absFT)|exact True.intro|intro _|refine And.intro ?_ ?_|refine Fin.mk ?_|refine W1 rfl ?_ ?_|refine W2 rfl ?_ ?_|refine W3 rfl ?_ ?_|refine W4 ?_ ?_|refine W5 rfl ?_ ?_|refine W6 ?_ ?_|refine AppN.mk ?_|refine X1 (W1 rfl ?_ ?_)|refine X1 (W2 rfl ?_ ?_)|refine X2 (W7 rfl ?_ ?_)|refine X3 (W7 rfl ?_ ?_)|refine X4 (W7 rfl ?_ ?_)|refine X5 (W7 rfl ?_ ?_))
        all_goals (try (conv => whnf))
        all_goals (try first|exact Ob.mk (u8_bnd _)|(refine Ob.mk ?_;first|exact True.intro|assumption|omega|(try simp only [ZA,ZB,ZC,ZD,ZE,ZF,ZG,ZH,ZI,ZJ,ZK,ZL,ZM,ZN,ZO,Int.toNat_natCast,UInt8.ofNat_toNat,cast_eq] at *;omega)))
        all_goals (try first|(show (_:Int) = _;omega)|(show tupSV _ = _;with_unfolding_all rfl)|((first|show (_:Nat) ≤ _|show (_:Nat) ≤ _ ∧ (_:Nat) ≤ _|show (_:Int) ≤ _ ∧ (_:Int) ≤ _ ∧ (_:Int) ≤ _ ∧ (_:Int) ≤ _);(simp <;> omega)))
        all_goals rfl
      · exfalso; exact absurd ‹decide _ = false› (by decide)
    · repeat' ((conv => whnf);first|(with_reducible first|rfl|exact absTF|exact absFT)|exact True.intro|intro _|refine And.intro ?_ ?_|refine Fin.mk ?_|refine W1 rfl ?_ ?_|refine W2 rfl ?_ ?_|refine W3 rfl ?_ ?_|refine W4 ?_ ?_|refine W5 rfl ?_ ?_|refine W6 ?_ ?_|refine AppN.mk ?_|refine X1 (W1 rfl ?_ ?_)|refine X1 (W2 rfl ?_ ?_)|refine X2 (W7 rfl ?_ ?_)|refine X3 (W7 rfl ?_ ?_)|refine X4 (W7 rfl ?_ ?_)|refine X5 (W7 rfl ?_ ?_))
      all_goals (try (conv => whnf))
      all_goals (try first|exact Ob.mk (u8_bnd _)|(refine Ob.mk ?_;first|exact True.intro|assumption|omega|(try simp only [ZA,ZB,ZC,ZD,ZE,ZF,ZG,ZH,ZI,ZJ,ZK,ZL,ZM,ZN,ZO,Int.toNat_natCast,UInt8.ofNat_toNat,cast_eq] at *;omega)))
      all_goals (try first|(show (_:Int) = _;omega)|(show tupSV _ = _;with_unfolding_all rfl)|((first|show (_:Nat) ≤ _|show (_:Nat) ≤ _ ∧ (_:Nat) ≤ _|show (_:Int) ≤ _ ∧ (_:Int) ≤ _ ∧ (_:Int) ≤ _ ∧ (_:Int) ≤ _);(simp <;> omega)))
      · exfalso; exact absurd ‹decide _ = true› (by decide)
      · exfalso; exact absurd ‹decide _ = true› (by decide)
      · exact (bare4 (q1 (by omega)) (q2 (by omega)) (q3 (by omega))).symm
theorem fd_spec (s p : List UInt8) (hp : p ≠ []) : (fdB s p = true → uN s p = fnd s p + p.length ∧ fnd s p + p.length ≤ s.length) ∧ (fdB s p = false → fnd s p = s.length ∧ uN s p = s.length) := by
  unfold fdB uN
  constructor
  · intro h
    have h' := of_decide_eq_true h
    exact ⟨by rw [if_pos h'], h'⟩
  · intro h
    have h' := of_decide_eq_false h
    refine ⟨?_, by rw [if_neg h']⟩
    rcases fnd_cases s p hp with q | q
    · exact absurd q.2 h'
    · exact q.1
theorem com1 {s : List UInt8} (h : begP s [62] = true) : comP s = (4, [], [], 1, true) := by unfold comP; rw [if_pos h]
theorem com2 {s : List UInt8} (h1 : begP s [62] = false) (h : begP s [45, 62] = true) : comP s = (4, [], [], 2, true) := by unfold comP; rw [if_neg (by rw [h1]; decide), if_pos h]
theorem com3 {s : List UInt8} (h1 : begP s [62] = false) (h2 : begP s [45, 62] = false) (hA : fdB s mA = false) (hB : fdB s mB = false) : comP s = (4, [], bareP s, (s.length : Int), true) := by
  unfold comP; rw [if_neg (by rw [h1]; decide), if_neg (by rw [h2]; decide), if_pos ⟨hA, hB⟩]
theorem com4 {s : List UInt8} (h1 : begP s [62] = false) (h2 : begP s [45, 62] = false) (h : fdB s mA = true ∨ fdB s mB = true) (hl : fnd s mB < fnd s mA) : comP s = (4, [], s.take (fnd s mB), ((fnd s mB + 4 : Nat) : Int), true) := by
  unfold comP; rw [if_neg (by rw [h1]; decide), if_neg (by rw [h2]; decide), if_neg (by rintro ⟨a, b⟩; rcases h with h | h <;> simp_all), if_pos hl]
theorem com5 {s : List UInt8} (h1 : begP s [62] = false) (h2 : begP s [45, 62] = false) (h : fdB s mA = true ∨ fdB s mB = true) (hl : ¬ fnd s mB < fnd s mA) : comP s = (4, [], s.take (fnd s mA), ((fnd s mA + 3 : Nat) : Int), true) := by
  unfold comP; rw [if_neg (by rw [h1]; decide), if_neg (by rw [h2]; decide), if_neg (by rintro ⟨a, b⟩; rcases h with h | h <;> simp_all), if_neg hl]
instance rCom (s : List UInt8) : Fn BB 62 [.str s] (s.length ≤ 900000) (rkSV (comP s)) := by
  refine Fn.intro (N := 65) [0, 2, 3, 4, 5, 7, 8, 9, 10, 11, 12, 13, 15, 16, 17, 18, 23, 40, 53] [] Tryd.call62 Tryd.func62 rfl rfl (by kernel_rfl) (fun hpre => ?_)
  repeat' ((conv => whnf);first|(with_reducible first|rfl|exact absTF|exact absFT)|exact True.intro|intro _|refine And.intro ?_ ?_|refine Fin.mk ?_|refine W1 rfl ?_ ?_|refine W2 rfl ?_ ?_|refine W3 rfl ?_ ?_|refine W4 ?_ ?_|refine W5 rfl ?_ ?_|refine W6 ?_ ?_|refine AppN.mk ?_|refine X1 (W1 rfl ?_ ?_)|refine X1 (W2 rfl ?_ ?_)|refine X2 (W7 rfl ?_ ?_)|refine X3 (W7 rfl ?_ ?_)|refine X4 (W7 rfl ?_ ?_)|refine X5 (W7 rfl ?_ ?_))
  all_goals (try (conv => whnf))
  all_goals (try first|exact Ob.mk (u8_bnd _)|(refine Ob.mk ?_;first|exact True.intro|assumption|omega|(try simp only [ZA,ZB,ZC,ZD,ZE,ZF,ZG,ZH,ZI,ZJ,ZK,ZL,ZM,ZN,ZO,Int.toNat_natCast,UInt8.ofNat_toNat,cast_eq] at *;omega)))
  all_goals (try first|(show (_:Int) = _;omega)|(show tupSV _ = _;with_unfolding_all rfl)|((first|show (_:Nat) ≤ _|show (_:Nat) ≤ _ ∧ (_:Nat) ≤ _|show (_:Int) ≤ _ ∧ (_:Int) ≤ _ ∧ (_:Int) ≤ _ ∧ (_:Int) ≤ _);(simp <;> omega)))
  refine LoopStop.mk (α := Nat) (fun i => [(17, .int .i64 i)]) (fun i => []) 20 (fun i => i ≤ 2 ∧ (1 ≤ i → begP s [62] = false) ∧ (2 ≤ i → begP s [45, 62] = false)) (fun i => 2 - i) 0 (by simp) ?_ (fun i hi => ?_)
  · repeat' ((conv => whnf);first|(with_reducible first|rfl|exact absTF|exact absFT)|exact True.intro|intro _|refine And.intro ?_ ?_|refine Fin.mk ?_|refine W1 rfl ?_ ?_|refine W2 rfl ?_ ?_|refine W3 rfl ?_ ?_|refine W4 ?_ ?_|refine W5 rfl ?_ ?_|refine W6 ?_ ?_|refine AppN.mk ?_|refine X1 (W1 rfl ?_ ?_)|refine X1 (W2 rfl ?_ ?_)|refine X2 (W7 rfl ?_ ?_)|refine X3 (W7 rfl ?_ ?_)|refine X4 (W7 rfl ?_ ?_)|refine X5 (W7 rfl ?_ ?_))
    all_goals (try (conv => whnf))
    all_goals (try first|exact Ob.mk (u8_bnd _)|(refine Ob.mk ?_;first|exact True.intro|assumption|omega|(try simp only [ZA,ZB,ZC,ZD,ZE,ZF,ZG,ZH,ZI,ZJ,ZK,ZL,ZM,ZN,ZO,Int.toNat_natCast,UInt8.ofNat_toNat,cast_eq] at *;omega)))
    all_goals (try first|(show (_:Int) = _;omega)|(show tupSV _ = _;with_unfolding_all rfl)|((first|show (_:Nat) ≤ _|show (_:Nat) ≤ _ ∧ (_:Nat) ≤ _|show (_:Int) ≤ _ ∧ (_:Int) ≤ _ ∧ (_:Int) ≤ _ ∧ (_:Int) ≤ _);(simp <;> omega)))
    all_goals rfl
  · obtain ⟨q0, q1, q2⟩ := hi
    have hc : i = 0 ∨ i = 1 ∨ i = 2 := by omega
    rcases hc with rfl | rfl | rfl
    · repeat' ((conv => whnf);first|(with_reducible first|rfl|exact absTF|exact absFT)|exact True.intro|intro _|refine And.intro ?_ ?_|refine Fin.mk ?_|refine W1 rfl ?_ ?_|refine W2 rfl ?_ ?_|refine W3 rfl ?_ ?_|refine W4 ?_ ?_|refine W5 rfl ?_ ?_|refine W6 ?_ ?_|refine AppN.mk ?_|refine X1 (W1 rfl ?_ ?_)|refine X1 (W2 rfl ?_ ?_)|refine X2 (W7 rfl ?_ ?_)|refine X3 (W7 rfl ?_ ?_)|refine X4 (W7 rfl ?_ ?_)|refine X5 (W7 rfl ?_ ?_))
      all_goals (try (conv => whnf))
      all_goals (try first|exact Ob.mk (u8_bnd _)|(refine Ob.mk ?_;first|exact True.intro|assumption|omega|(try simp only [ZA,ZB,ZC,ZD,ZE,ZF,ZG,ZH,ZI,ZJ,ZK,ZL,ZM,ZN,ZO,Int.toNat_natCast,UInt8.ofNat_toNat,cast_eq] at *;omega)))
      all_goals (try first|(show (_:Int) = _;omega)|(show tupSV _ = _;with_unfolding_all rfl)|((first|show (_:Nat) ≤ _|show (_:Nat) ≤ _ ∧ (_:Nat) ≤ _|show (_:Int) ≤ _ ∧ (_:Int) ≤ _ ∧ (_:Int) ≤ _ ∧ (_:Int) ≤ _);(simp <;> omega)))
      all_goals (first | (rw [com1 ‹_›]; first | done | rfl) | skip)
      · refine Rnd.mk ⟨1, ⟨by omega, fun _ => ‹_›, by omega⟩, by omega, ?_⟩
        repeat' ((conv => whnf);first|(with_reducible first|rfl|exact absTF|exact absFT)|exact True.intro|intro _|refine And.intro ?_ ?_|refine Fin.mk ?_|refine W1 rfl ?_ ?_|refine W2 rfl ?_ ?_|refine W3 rfl ?_ ?_|refine W4 ?_ ?_|refine W5 rfl ?_ ?_|refine W6 ?_ ?_|refine AppN.mk ?_|refine X1 (W1 rfl ?_ ?_)|refine X1 (W2 rfl ?_ ?_)|refine X2 (W7 rfl ?_ ?_)|refine X3 (W7 rfl ?_ ?_)|refine X4 (W7 rfl ?_ ?_)|refine X5 (W7 rfl ?_ ?_))
        all_goals (try (conv => whnf))
        all_goals (try first|exact Ob.mk (u8_bnd _)|(refine Ob.mk ?_;first|exact True.intro|assumption|omega|(try simp only [ZA,ZB,ZC,ZD,ZE,ZF,ZG,ZH,ZI,ZJ,ZK,ZL,ZM,ZN,ZO,Int.toNat_natCast,UInt8.ofNat_toNat,cast_eq] at *;omega)))
        all_goals (try first|(show (_:Int) = _;omega)|(show tupSV _ = _;with_unfolding_all rfl)|((first|show (_:Nat) ≤ _|show (_:Nat) ≤ _ ∧ (_:Nat) ≤ _|show (_:Int) ≤ _ ∧ (_:Int) ≤ _ ∧ (_:Int) ≤ _ ∧ (_:Int) ≤ _);(simp <;> omega)))
        all_goals rfl
      all_goals (exfalso; exact absurd ‹decide (((0 : Nat) : Int) < (([[62], [45, 62]] : List (List UInt8)).length : Int)) = false› (by decide))
    · repeat' ((conv => whnf);first|(with_reducible first|rfl|exact absTF|exact absFT)|exact True.intro|intro _|refine And.intro ?_ ?_|refine Fin.mk ?_|refine W1 rfl ?_ ?_|refine W2 rfl ?_ ?_|refine W3 rfl ?_ ?_|refine W4 ?_ ?_|refine W5 rfl ?_ ?_|refine W6 ?_ ?_|refine AppN.mk ?_|refine X1 (W1 rfl ?_ ?_)|refine X1 (W2 rfl ?_ ?_)|refine X2 (W7 rfl ?_ ?_)|refine X3 (W7 rfl ?_ ?_)|refine X4 (W7 rfl ?_ ?_)|refine X5 (W7 rfl ?_ ?_))
      all_goals (try (conv => whnf))
      all_goals (try first|exact Ob.mk (u8_bnd _)|(refine Ob.mk ?_;first|exact True.intro|assumption|omega|(try simp only [ZA,ZB,ZC,ZD,ZE,ZF,ZG,ZH,ZI,ZJ,ZK,ZL,ZM,ZN,ZO,Int.toNat_natCast,UInt8.ofNat_toNat,cast_eq] at *;omega)))
      all_goals (try first|(show (_:Int) = _;omega)|(show tupSV _ = _;with_unfolding_all rfl)|((first|show (_:Nat) ≤ _|show (_:Nat) ≤ _ ∧ (_:Nat) ≤ _|show (_:Int) ≤ _ ∧ (_:Int) ≤ _ ∧ (_:Int) ≤ _ ∧ (_:Int) ≤ _);(simp <;> omega)))
      all_goals (first | (rw [com2 (q1 (by omega)) ‹_›]; first | done | rfl) | skip)
      · refine Rnd.mk ⟨2, ⟨by omega, fun _ => q1 (by omega), fun _ => ‹_›⟩, by omega, ?_⟩
        repeat' ((conv => whnf);first|(with_reducible first|rfl|exact absTF|exact absFT)|exact True.intro|intro _|refine And.intro ?_ ?_|refine Fin.mk ?_|refine W1 rfl ?_ ?_|refine W2 rfl ?_ ?_|refine W3 rfl ?_ ?_|refine W4 ?_ ?_|refine W5 rfl ?_ ?_|refine W6 ?_ ?_|refine AppN.mk ?_|refine X1 (W1 rfl ?_ ?_)|refine X1 (W2 rfl ?_ ?_)|refine X2 (W7 rfl ?_ ?_)|refine X3 (W7 rfl ?_ ?_)|refine X4 (W7 rfl ?_ ?_)|refine X5 (W7 rfl ?_ ?_))
        all_goals (try (conv => whnf))
        all_goals (try first|exact Ob.mk (u8_bnd _)|(refine Ob.mk ?_;first|exact True.intro|assumption|omega|(try simp only [ZA,ZB,ZC,ZD,ZE,ZF,ZG,ZH,ZI,ZJ,ZK,ZL,ZM,ZN,ZO,Int.toNat_natCast,UInt8.ofNat_toNat,cast_eq] at *;omega)))
        all_goals (try first|(show (_:Int) = _;omega)|(show tupSV _ = _;with_unfolding_all rfl)|((first|show (_:Nat) ≤ _|show (_:Nat) ≤ _ ∧ (_:Nat) ≤ _|show (_:Int) ≤ _ ∧ (_:Int) ≤ _ ∧ (_:Int) ≤ _ ∧ (_:Int) ≤ _);(simp <;> omega)))
        all_goals rfl
      all_goals (exfalso; exact absurd ‹decide (((1 : Nat) : Int) < (([[62], [45, 62]] : List (List UInt8)).length : Int)) = false› (by decide))
    · have n1 := q1 (by omega)
      have n2 := q2 (by omega)
      have lA := fnd_le s mA
      have lB := fnd_le s mB
      have tA : (s.take (fnd s mA)).length = fnd s mA := by rw [List.length_take]; omega
      have tB : (s.take (fnd s mB)).length = fnd s mB := by rw [List.length_take]; omega
      have uA : uN s mA ≤ s.length := uN_le s mA
      have uB : uN s mB ≤ s.length := uN_le s mB
      cases hA : fdB s mA <;> cases hB : fdB s mB
      · have e := com3 n1 n2 hA hB
        repeat' ((conv => whnf);first|(with_reducible first|rfl|exact absTF|exact absFT)|exact True.intro|intro _|refine And.intro ?_ ?_|refine Fin.mk ?_|refine W1 rfl ?_ ?_|refine W2 rfl ?_ ?_|refine W3 rfl ?_ ?_|refine W4 ?_ ?_|refine W5 rfl ?_ ?_|refine W6 ?_ ?_|refine AppN.mk ?_|refine X1 (W1 rfl ?_ ?_)|refine X1 (W2 rfl ?_ ?_)|refine X2 (W7 rfl ?_ ?_)|refine X3 (W7 rfl ?_ ?_)|refine X4 (W7 rfl ?_ ?_)|refine X5 (W7 rfl ?_ ?_))
        all_goals (try (conv => whnf))
        all_goals (try first|exact Ob.mk (u8_bnd _)|(refine Ob.mk ?_;first|exact True.intro|assumption|omega|(try simp only [ZA,ZB,ZC,ZD,ZE,ZF,ZG,ZH,ZI,ZJ,ZK,ZL,ZM,ZN,ZO,Int.toNat_natCast,UInt8.ofNat_toNat,cast_eq] at *;omega)))
        all_goals (try first|(show (_:Int) = _;omega)|(show tupSV _ = _;with_unfolding_all rfl)|((first|show (_:Nat) ≤ _|show (_:Nat) ≤ _ ∧ (_:Nat) ≤ _|show (_:Int) ≤ _ ∧ (_:Int) ≤ _ ∧ (_:Int) ≤ _ ∧ (_:Int) ≤ _);(simp <;> omega)))
        all_goals (try (exfalso; exact absurd ‹decide (((2 : Nat) : Int) < (([[62], [45, 62]] : List (List UInt8)).length : Int)) = true› (by decide)))
        all_goals (try (exfalso; have h : (!fdB s mA && !fdB s mB) = false := ‹_›; rw [hA, hB] at h; exact absurd h (by decide)))
        all_goals (first | (rw [e]; done) | exact ⟨by decide, by omega⟩ | trace_state)
      all_goals (
        have hC : (!fdB s mA && !fdB s mB) = true → False := fun h => by rw [hA, hB] at h; exact absurd h (by decide)
        have hor : fdB s mA = true ∨ fdB s mB = true := by first | exact .inl hA | exact .inr hB
        have fA := fd_spec s mA (by decide)
        have fB := fd_spec s mB (by decide)
        rw [hA] at fA
        rw [hB] at fB
        have e4 := fun h => com4 n1 n2 hor h
        have e5 := fun h => com5 n1 n2 hor h)
      · have hlt : fnd s mB < fnd s mA := by have := fA.2 rfl; have := fB.1 rfl; simp at this; omega
        have e := e4 hlt
        repeat' ((conv => whnf);first|(with_reducible first|rfl|exact absTF|exact absFT)|exact True.intro|intro _|refine And.intro ?_ ?_|refine Fin.mk ?_|refine W1 rfl ?_ ?_|refine W2 rfl ?_ ?_|refine W3 rfl ?_ ?_|refine W4 ?_ ?_|refine W5 rfl ?_ ?_|refine W6 ?_ ?_|refine AppN.mk ?_|refine X1 (W1 rfl ?_ ?_)|refine X1 (W2 rfl ?_ ?_)|refine X2 (W7 rfl ?_ ?_)|refine X3 (W7 rfl ?_ ?_)|refine X4 (W7 rfl ?_ ?_)|refine X5 (W7 rfl ?_ ?_))
        all_goals (try (conv => whnf))
        all_goals (try first|exact Ob.mk (u8_bnd _)|(refine Ob.mk ?_;first|exact True.intro|assumption|omega|(try simp only [ZA,ZB,ZC,ZD,ZE,ZF,ZG,ZH,ZI,ZJ,ZK,ZL,ZM,ZN,ZO,Int.toNat_natCast,UInt8.ofNat_toNat,cast_eq] at *;omega)))
        all_goals (try first|(show (_:Int) = _;omega)|(show tupSV _ = _;with_unfolding_all rfl)|((first|show (_:Nat) ≤ _|show (_:Nat) ≤ _ ∧ (_:Nat) ≤ _|show (_:Int) ≤ _ ∧ (_:Int) ≤ _ ∧ (_:Int) ≤ _ ∧ (_:Int) ≤ _);(simp <;> omega)))
        all_goals (try (exfalso; exact absurd ‹decide (((2 : Nat) : Int) < (([[62], [45, 62]] : List (List UInt8)).length : Int)) = true› (by decide)))
        all_goals (try (exfalso; exact hC ‹(!fdB s mA && !fdB s mB) = true›))
        all_goals (try (exfalso; have h := of_decide_eq_false ‹decide (((s.take (fnd s mB)).length : Int) < ((s.take (fnd s mA)).length : Int)) = false›; omega))
        all_goals (first | (rw [e]; done) | exact ⟨by decide, by omega⟩ | (rw [e]; exact congrArg (Nat.cast (R := Int)) (fB.1 rfl).1) | trace_state)
      · have hlt : ¬ fnd s mB < fnd s mA := by have := fB.2 rfl; omega
        have e := e5 hlt
        repeat' ((conv => whnf);first|(with_reducible first|rfl|exact absTF|exact absFT)|exact True.intro|intro _|refine And.intro ?_ ?_|refine Fin.mk ?_|refine W1 rfl ?_ ?_|refine W2 rfl ?_ ?_|refine W3 rfl ?_ ?_|refine W4 ?_ ?_|refine W5 rfl ?_ ?_|refine W6 ?_ ?_|refine AppN.mk ?_|refine X1 (W1 rfl ?_ ?_)|refine X1 (W2 rfl ?_ ?_)|refine X2 (W7 rfl ?_ ?_)|refine X3 (W7 rfl ?_ ?_)|refine X4 (W7 rfl ?_ ?_)|refine X5 (W7 rfl ?_ ?_))
        all_goals (try (conv => whnf))
        all_goals (try first|exact Ob.mk (u8_bnd _)|(refine Ob.mk ?_;first|exact True.intro|assumption|omega|(try simp only [ZA,ZB,ZC,ZD,ZE,ZF,ZG,ZH,ZI,ZJ,ZK,ZL,ZM,ZN,ZO,Int.toNat_natCast,UInt8.ofNat_toNat,cast_eq] at *;omega)))
        all_goals (try first|(show (_:Int) = _;omega)|(show tupSV _ = _;with_unfolding_all rfl)|((first|show (_:Nat) ≤ _|show (_:Nat) ≤ _ ∧ (_:Nat) ≤ _|show (_:Int) ≤ _ ∧ (_:Int) ≤ _ ∧ (_:Int) ≤ _ ∧ (_:Int) ≤ _);(simp <;> omega)))
        all_goals (try (exfalso; exact absurd ‹decide (((2 : Nat) : Int) < (([[62], [45, 62]] : List (List UInt8)).length : Int)) = true› (by decide)))
        all_goals (try (exfalso; exact hC ‹(!fdB s mA && !fdB s mB) = true›))
        all_goals (try (exfalso; have h := of_decide_eq_true ‹decide (((s.take (fnd s mB)).length : Int) < ((s.take (fnd s mA)).length : Int)) = true›; omega))
        all_goals (first | (rw [e]; done) | exact ⟨by decide, by omega⟩ | (rw [e]; exact congrArg (Nat.cast (R := Int)) (fA.1 rfl).1) | trace_state)
      · repeat' ((conv => whnf);first|(with_reducible first|rfl|exact absTF|exact absFT)|exact True.intro|intro _|refine And.intro ?_ ?_|refine Fin.mk ?_|refine W1 rfl ?_ ?_|refine W2 rfl ?_ ?_|refine W3 rfl ?_ ?_|refine W4 ?_ ?_|refine W5 rfl ?_ ?_|refine W6 ?_ ?_|refine AppN.mk ?_|refine X1 (W1 rfl ?_ ?_)|refine X1 (W2 rfl ?_ ?_)|refine X2 (W7 rfl ?_ ?_)|refine X3 (W7 rfl ?_ ?_)|refine X4 (W7 rfl ?_ ?_)|refine X5 (W7 rfl ?_ ?_))
        all_goals (try (conv => whnf))
        all_goals (try first|exact Ob.mk (u8_bnd _)|(refine Ob.mk ?_;first|exact True.intro|assumption|omega|(try simp only [ZA,ZB,ZC,ZD,ZE,ZF,ZG,ZH,ZI,ZJ,ZK,ZL,ZM,ZN,ZO,Int.toNat_natCast,UInt8.ofNat_toNat,cast_eq] at *;omega)))
        all_goals (try first|(show (_:Int) = _;omega)|(show tupSV _ = _;with_unfolding_all rfl)|((first|show (_:Nat) ≤ _|show (_:Nat) ≤ _ ∧ (_:Nat) ≤ _|show (_:Int) ≤ _ ∧ (_:Int) ≤ _ ∧ (_:Int) ≤ _ ∧ (_:Int) ≤ _);(simp <;> omega)))
        all_goals (try (exfalso; exact absurd ‹decide (((2 : Nat) : Int) < (([[62], [45, 62]] : List (List UInt8)).length : Int)) = true› (by decide)))
        all_goals (try (exfalso; exact hC ‹(!fdB s mA && !fdB s mB) = true›))
        all_goals (try (have h := of_decide_eq_true ‹decide (((s.take (fnd s mB)).length : Int) < ((s.take (fnd s mA)).length : Int)) = true›; have e := e4 (by omega)))
        all_goals (try (have h := of_decide_eq_false ‹decide (((s.take (fnd s mB)).length : Int) < ((s.take (fnd s mA)).length : Int)) = false›; have e := e5 (by omega)))
        all_goals (first | (rw [e]; done) | exact ⟨by decide, by omega⟩ | (rw [e]; exact congrArg (Nat.cast (R := Int)) (fA.1 rfl).1) | (rw [e]; exact congrArg (Nat.cast (R := Int)) (fB.1 rfl).1) | trace_state)
end Go.Vc

namespace Go.Vc
open Go.Proofs
set_option maxRecDepth 10000
set_option maxHeartbeats 4000000
theorem dw_le (p : UInt8 → Bool) (l : List UInt8) : (l.dropWhile p).length ≤ l.length := (List.dropWhile_sublist p (l := l)).length_le
instance rTL (s : List UInt8) : Fn BB 77 [.str s, .str [9, 10, 12, 13, 32]] True (.str (s.dropWhile spB)) := by
  refine Fn.liftB Tryd.call77 fun hp r β w vs hG m h => ?_
  obtain ⟨rfl, h1, h2⟩ := h.str2
  refine ⟨_, (Any.strings_TrimLeft_laid Tryd.lays161 (by kernel_rfl) ⟨s.toArray⟩ ⟨spS.toArray⟩ w (by decide) (fun j b hb => ?_)).mono fun e w' hh => ?_, .str (by have := dw_le spB s; omega)⟩
  · have := List.mem_of_getElem? hb
    revert this
    show b ∈ spS → _
    simp only [spS, List.mem_cons, List.not_mem_nil, or_false]
    rintro (rfl | rfl | rfl | rfl | rfl) <;> decide
  · obtain ⟨rfl, hb⟩ := hh
    refine ⟨?_, hb⟩
    show Ending.returned (Value.string ⟨(Lib.trimLeftS s spS).toArray⟩) = _
    unfold Lib.trimLeftS
    rw [show (fun x => spS.contains x) = spB from funext sp_contains]
theorem ixSp (s : List UInt8) : (0 ≤ Lib.indexAny s [9, 10, 12, 13, 32] ∧ s.take (Lib.indexAny s [9, 10, 12, 13, 32]).toNat = s.takeWhile (fun c => !spB c)) ∨ (Lib.indexAny s [9, 10, 12, 13, 32] = -1 ∧ s.takeWhile (fun c => !spB c) = s) := by
  have := ixAny_take spS s
  rw [show (fun c => !spS.contains c) = (fun c => !spB c) from funext fun c => by rw [sp_contains]] at this
  exact this
theorem ix_le (cs s : List UInt8) : Lib.indexAny s cs ≤ s.length := by
  induction s with
  | nil => show (-1 : Int) ≤ 0; decide
  | cons b l ih => unfold Lib.indexAny; simp only [List.length_cons]; split <;> (try split) <;> omega
instance rDoc (s : List UInt8) : Fn BB 63 [.str s] (9 ≤ s.length ∧ s.length ≤ 900000) (rkSV (docP s)) := by
  refine Fn.intro (N := 30) [0, 2, 3, 4, 5, 6, 8, 21] [] Tryd.call63 Tryd.func63 rfl rfl (by kernel_rfl) (fun hpre => ?_)
  obtain ⟨p1, p2⟩ := hpre
  have h1 := uN_le (s.drop 9) [62]
  have hl1 : ((s.drop 9).take (fnd (s.drop 9) [62])).length ≤ s.length := by simp; omega
  have hx := ixSp (((s.drop 9).take (fnd (s.drop 9) [62])).dropWhile spB)
  have hx2 := ix_le [9, 10, 12, 13, 32] (((s.drop 9).take (fnd (s.drop 9) [62])).dropWhile spB)
  have hl2 := dw_le spB ((s.drop 9).take (fnd (s.drop 9) [62]))
  have e9 : (9 : Int).toNat = 9 := rfl
  rw [List.length_drop] at h1
  have eD : docN s = lowL ((((s.drop 9).take (fnd (s.drop 9) [62])).dropWhile spB).takeWhile fun c => !spB c) := rfl
  have eU : (docP s).2.2.2.1 = ((9 + uN (s.drop 9) [62] : Nat) : Int) := rfl
  have eN : (docP s).2.1 = docN s := rfl
  have hsl : (s.drop 9).length ≤ 1000000 := by rw [List.length_drop]; omega
  repeat' ((conv => whnf);first|(with_reducible first|rfl|exact absTF|exact absFT)|exact True.intro|intro _|refine And.intro ?_ ?_|refine Fin.mk ?_|refine W1 rfl ?_ ?_|refine W2 rfl ?_ ?_|refine W3 rfl ?_ ?_|refine W4 ?_ ?_|refine W5 rfl ?_ ?_|refine W6 ?_ ?_|refine AppN.mk ?_|refine X1 (W1 rfl ?_ ?_)|refine X1 (W2 rfl ?_ ?_)|refine X2 (W7 rfl ?_ ?_)|refine X3 (W7 rfl ?_ ?_)|refine X4 (W7 rfl ?_ ?_)|refine X5 (W7 rfl ?_ ?_))
  all_goals (try (conv => whnf))
  all_goals (try first|exact Ob.mk (u8_bnd _)|(refine Ob.mk ?_;first|exact True.intro|assumption|omega|(try simp only [ZA,ZB,ZC,ZD,ZE,ZF,ZG,ZH,ZI,ZJ,ZK,ZL,ZM,ZN,ZO,Int.toNat_natCast,UInt8.ofNat_toNat,cast_eq] at *;omega)))
  all_goals (try first|(show (_:Int) = _;omega)|(show tupSV _ = _;with_unfolding_all rfl)|((first|show (_:Nat) ≤ _|show (_:Nat) ≤ _ ∧ (_:Nat) ≤ _|show (_:Int) ≤ _ ∧ (_:Int) ≤ _ ∧ (_:Int) ≤ _ ∧ (_:Int) ≤ _);(simp <;> omega)))
  all_goals (try simp only [e9] at *)
  all_goals (generalize ((s.drop 9).take (fnd (s.drop 9) [62])).dropWhile spB = R at *)
  all_goals (try rw [eU])
  all_goals (try rw [eN, eD])
  all_goals (first | rfl | exact ⟨by decide, hsl⟩ | exact ⟨by omega, by decide, by decide, by decide⟩ | (constructor <;> omega) | skip)
  · exact ⟨of_decide_eq_true ‹_›, hx2⟩
  · rcases hx with ⟨hx1, hx3⟩ | ⟨hx1, hx3⟩
    · rw [hx3]
    · exfalso; have h := of_decide_eq_true ‹decide (Lib.indexAny R [9, 10, 12, 13, 32] ≥ 0) = true›; omega
  · rcases hx with ⟨hx1, hx3⟩ | ⟨hx1, hx3⟩
    · exfalso; have h := of_decide_eq_false ‹decide (Lib.indexAny R [9, 10, 12, 13, 32] ≥ 0) = false›; omega
    · rw [hx3]
instance rSec (s : List UInt8) : Fn BB 64 [.str s] (9 ≤ s.length ∧ s.length ≤ 900000) (rkSV (secP s)) := by
  refine Fn.intro (N := 24) [0, 2, 3, 4, 5, 6, 16] [] Tryd.call64 Tryd.func64 rfl rfl (by kernel_rfl) (fun hpre => ?_)
  obtain ⟨p1, p2⟩ := hpre
  have h1 := uN_le (s.drop 9) mC
  rw [List.length_drop] at h1
  have hs : secD s = (s.drop 9).take (fnd (s.drop 9) mC) := rfl
  have hsl : (s.drop 9).length ≤ 1000000 := by rw [List.length_drop]; omega
  have e9 : (9 : Int).toNat = 9 := rfl
  have e1 : secD s = [] → secP s = (0, [], [], ((9 + uN (s.drop 9) mC : Nat) : Int), false) := fun h => by unfold secP; rw [if_pos h]
  have e2 : secD s ≠ [] → secP s = (3, [], secD s, ((9 + uN (s.drop 9) mC : Nat) : Int), true) := fun h => by unfold secP; rw [if_neg h]
  by_cases hq : secD s = []
  · have e := e1 hq
    repeat' ((conv => whnf);first|(with_reducible first|rfl|exact absTF|exact absFT)|exact True.intro|intro _|refine And.intro ?_ ?_|refine Fin.mk ?_|refine W1 rfl ?_ ?_|refine W2 rfl ?_ ?_|refine W3 rfl ?_ ?_|refine W4 ?_ ?_|refine W5 rfl ?_ ?_|refine W6 ?_ ?_|refine AppN.mk ?_|refine X1 (W1 rfl ?_ ?_)|refine X1 (W2 rfl ?_ ?_)|refine X2 (W7 rfl ?_ ?_)|refine X3 (W7 rfl ?_ ?_)|refine X4 (W7 rfl ?_ ?_)|refine X5 (W7 rfl ?_ ?_))
    all_goals (try (conv => whnf))
    all_goals (try first|exact Ob.mk (u8_bnd _)|(refine Ob.mk ?_;first|exact True.intro|assumption|omega|(try simp only [ZA,ZB,ZC,ZD,ZE,ZF,ZG,ZH,ZI,ZJ,ZK,ZL,ZM,ZN,ZO,Int.toNat_natCast,UInt8.ofNat_toNat,cast_eq] at *;omega)))
    all_goals (try first|(show (_:Int) = _;omega)|(show tupSV _ = _;with_unfolding_all rfl)|((first|show (_:Nat) ≤ _|show (_:Nat) ≤ _ ∧ (_:Nat) ≤ _|show (_:Int) ≤ _ ∧ (_:Int) ≤ _ ∧ (_:Int) ≤ _ ∧ (_:Int) ≤ _);(simp <;> omega)))
    all_goals (try (exfalso; have h : secD s ≠ [] := ‹_›; exact h hq))
    all_goals (try (exfalso; have h : (secD s == []) = false := ‹_›; rw [hq] at h; exact absurd h (by decide)))
    all_goals (first | (rw [e]; done) | exact ⟨by decide, hsl⟩ | (change InI64 (9 + ((uN (s.drop 9) mC : Nat) : Int)); constructor <;> omega) | (rw [e]; change 9 + ((uN (s.drop 9) mC : Nat) : Int) = ((9 + uN (s.drop 9) mC : Nat) : Int); omega) | trace_state)
  · have e := e2 hq
    repeat' ((conv => whnf);first|(with_reducible first|rfl|exact absTF|exact absFT)|exact True.intro|intro _|refine And.intro ?_ ?_|refine Fin.mk ?_|refine W1 rfl ?_ ?_|refine W2 rfl ?_ ?_|refine W3 rfl ?_ ?_|refine W4 ?_ ?_|refine W5 rfl ?_ ?_|refine W6 ?_ ?_|refine AppN.mk ?_|refine X1 (W1 rfl ?_ ?_)|refine X1 (W2 rfl ?_ ?_)|refine X2 (W7 rfl ?_ ?_)|refine X3 (W7 rfl ?_ ?_)|refine X4 (W7 rfl ?_ ?_)|refine X5 (W7 rfl ?_ ?_))
    all_goals (try (conv => whnf))
    all_goals (try first|exact Ob.mk (u8_bnd _)|(refine Ob.mk ?_;first|exact True.intro|assumption|omega|(try simp only [ZA,ZB,ZC,ZD,ZE,ZF,ZG,ZH,ZI,ZJ,ZK,ZL,ZM,ZN,ZO,Int.toNat_natCast,UInt8.ofNat_toNat,cast_eq] at *;omega)))
    all_goals (try first|(show (_:Int) = _;omega)|(show tupSV _ = _;with_unfolding_all rfl)|((first|show (_:Nat) ≤ _|show (_:Nat) ≤ _ ∧ (_:Nat) ≤ _|show (_:Int) ≤ _ ∧ (_:Int) ≤ _ ∧ (_:Int) ≤ _ ∧ (_:Int) ≤ _);(simp <;> omega)))
    all_goals (try (exfalso; have h : (secD s == []) = true := ‹_›; exact hq (by simpa using h)))
    all_goals (first | (rw [e]; done) | (rw [e]; rfl) | exact ⟨by decide, hsl⟩ | (change InI64 (9 + ((uN (s.drop 9) mC : Nat) : Int)); constructor <;> omega) | (rw [e]; change 9 + ((uN (s.drop 9) mC : Nat) : Int) = ((9 + uN (s.drop 9) mC : Nat) : Int); omega) | trace_state)
def isDoc (s : List UInt8) : Bool := decide ((s.length : Int) ≥ 9) && lowL ((s.take 9).drop 2) == [100, 111, 99, 116, 121, 112, 101]
abbrev cdM : List UInt8 := [60, 33, 91, 67, 68, 65, 84, 65, 91]
def cm4 (s : List UInt8) : Rk := ((comP (s.drop 4)).1, (comP (s.drop 4)).2.1, (comP (s.drop 4)).2.2.1, (comP (s.drop 4)).2.2.2.1 + 4, true)
def declP (s : List UInt8) (f : Bool) : Rk :=
  if begP s [60, 33, 45, 45] = true then cm4 s else if isDoc s = true then docP s else if (f && begP s cdM) = true then secP s else bogusP s 2
theorem com_le (s : List UInt8) : 0 ≤ (comP s).2.2.2.1 ∧ (comP s).2.2.2.1 ≤ s.length := by
  unfold comP
  have hA := fnd_cases s mA (by decide)
  have hB := fnd_cases s mB (by decide)
  have lA := fnd_le s mA
  have lB := fnd_le s mB
  have sA := fd_spec s mA (by decide)
  have sB := fd_spec s mB (by decide)
  have z : mA.length = 3 ∧ mB.length = 4 := ⟨rfl, rfl⟩
  split
  · rename_i h; unfold begP at h; rw [Bool.and_eq_true] at h; have := of_decide_eq_true h.1; simp at this ⊢; omega
  · split
    · rename_i h; unfold begP at h; rw [Bool.and_eq_true] at h; have := of_decide_eq_true h.1; simp at this ⊢; omega
    · split
      · simp
      · rename_i h
        have h' : fdB s mA = true ∨ fdB s mB = true := by
          cases h1 : fdB s mA <;> cases h2 : fdB s mB <;> simp_all
        split
        · simp only
          cases h2 : fdB s mB
          · have := sB.2 h2; omega
          · have := sB.1 h2; omega
        · simp only
          cases h2 : fdB s mA
          · rcases h' with h' | h'
            · rw [h2] at h'; cases h'
            · have := sA.2 h2; have := sB.1 h'; omega
          · have := sA.1 h2; omega
instance rDecl (s : List UInt8) (f : Bool) : Fn BB 48 [.str s, .bool f] (2 ≤ s.length ∧ s.length ≤ 900000) (rkSV (declP s f)) := by
  refine Fn.intro (N := 55) [0, 1, 4, 5, 6, 7, 8, 9, 10, 17, 34, 44] [] Tryd.call48 Tryd.func48 rfl rfl (by kernel_rfl) (fun hpre => ?_)
  obtain ⟨p1, p2⟩ := hpre
  have hc := com_le (s.drop 4)
  have hl : (s.drop 4).length ≤ s.length := by simp
  have eI : lowL [100, 111, 99, 116, 121, 112, 101] = [100, 111, 99, 116, 121, 112, 101] := by decide
  have eD : (decide ((s.length : Int) ≥ 9) && lowL (List.drop (Int.toNat 2) (List.take (Int.toNat 9) s)) == lowL [100, 111, 99, 116, 121, 112, 101]) = isDoc s := by rw [eI]; rfl
  have d9 : isDoc s = true → 9 ≤ s.length := fun h => by unfold isDoc at h; rw [Bool.and_eq_true] at h; have := of_decide_eq_true h.1; omega
  have c9 : begP s cdM = true → 9 ≤ s.length := fun h => by unfold begP at h; rw [Bool.and_eq_true] at h; have := of_decide_eq_true h.1; simp at this; omega
  cases h1 : begP s [60, 33, 45, 45]
  · cases h2 : isDoc s
    · cases h3 : (f && begP s cdM)
      · have e : declP s f = bogusP s 2 := by unfold declP; rw [if_neg (by rw [h1]; decide), if_neg (by rw [h2]; decide), if_neg (by rw [h3]; decide)]
        repeat' ((conv => whnf);first|(with_reducible first|rfl|exact absTF|exact absFT)|exact True.intro|intro _|refine And.intro ?_ ?_|refine Fin.mk ?_|refine W1 rfl ?_ ?_|refine W2 rfl ?_ ?_|refine W3 rfl ?_ ?_|refine W4 ?_ ?_|refine W5 rfl ?_ ?_|refine W6 ?_ ?_|refine AppN.mk ?_|refine X1 (W1 rfl ?_ ?_)|refine X1 (W2 rfl ?_ ?_)|refine X2 (W7 rfl ?_ ?_)|refine X3 (W7 rfl ?_ ?_)|refine X4 (W7 rfl ?_ ?_)|refine X5 (W7 rfl ?_ ?_))
        all_goals (try (conv => whnf))
        all_goals (try first|exact Ob.mk (u8_bnd _)|(refine Ob.mk ?_;first|exact True.intro|assumption|omega|(try simp only [ZA,ZB,ZC,ZD,ZE,ZF,ZG,ZH,ZI,ZJ,ZK,ZL,ZM,ZN,ZO,Int.toNat_natCast,UInt8.ofNat_toNat,cast_eq] at *;omega)))
        all_goals (try first|(show (_:Int) = _;omega)|(show tupSV _ = _;with_unfolding_all rfl)|((first|show (_:Nat) ≤ _|show (_:Nat) ≤ _ ∧ (_:Nat) ≤ _|show (_:Int) ≤ _ ∧ (_:Int) ≤ _ ∧ (_:Int) ≤ _ ∧ (_:Int) ≤ _);(simp <;> omega)))
        all_goals (try (exfalso; have h : begP s [60, 33, 45, 45] = true := ‹_›; rw [h1] at h; cases h; done))
        all_goals (try (exfalso; have h : (decide ((s.length : Int) ≥ 9) && lowL (List.drop (Int.toNat 2) (List.take (Int.toNat 9) s)) == lowL [100, 111, 99, 116, 121, 112, 101]) = true := ‹_›; rw [eD, h2] at h; cases h; done))
        all_goals (try (exfalso; have h : (f && begP s cdM) = true := ‹_›; rw [h3] at h; cases h; done))
        all_goals (first | (rw [e]; done) | (rw [e]; rfl) | omega | trace_state)
      · have e : declP s f = secP s := by unfold declP; rw [if_neg (by rw [h1]; decide), if_neg (by rw [h2]; decide), if_pos h3]
        have hb : 9 ≤ s.length := c9 (by cases f <;> simp_all)
        repeat' ((conv => whnf);first|(with_reducible first|rfl|exact absTF|exact absFT)|exact True.intro|intro _|refine And.intro ?_ ?_|refine Fin.mk ?_|refine W1 rfl ?_ ?_|refine W2 rfl ?_ ?_|refine W3 rfl ?_ ?_|refine W4 ?_ ?_|refine W5 rfl ?_ ?_|refine W6 ?_ ?_|refine AppN.mk ?_|refine X1 (W1 rfl ?_ ?_)|refine X1 (W2 rfl ?_ ?_)|refine X2 (W7 rfl ?_ ?_)|refine X3 (W7 rfl ?_ ?_)|refine X4 (W7 rfl ?_ ?_)|refine X5 (W7 rfl ?_ ?_))
        all_goals (try (conv => whnf))
        all_goals (try first|exact Ob.mk (u8_bnd _)|(refine Ob.mk ?_;first|exact True.intro|assumption|omega|(try simp only [ZA,ZB,ZC,ZD,ZE,ZF,ZG,ZH,ZI,ZJ,ZK,ZL,ZM,ZN,ZO,Int.toNat_natCast,UInt8.ofNat_toNat,cast_eq] at *;omega)))
        all_goals (try first|(show (_:Int) = _;omega)|(show tupSV _ = _;with_unfolding_all rfl)|((first|show (_:Nat) ≤ _|show (_:Nat) ≤ _ ∧ (_:Nat) ≤ _|show (_:Int) ≤ _ ∧ (_:Int) ≤ _ ∧ (_:Int) ≤ _ ∧ (_:Int) ≤ _);(simp <;> omega)))
        all_goals (try (exfalso; have h : begP s [60, 33, 45, 45] = true := ‹_›; rw [h1] at h; cases h; done))
        all_goals (try (exfalso; have h : (decide ((s.length : Int) ≥ 9) && lowL (List.drop (Int.toNat 2) (List.take (Int.toNat 9) s)) == lowL [100, 111, 99, 116, 121, 112, 101]) = true := ‹_›; rw [eD, h2] at h; cases h; done))
        all_goals (try (exfalso; have h : (f && begP s cdM) = false := ‹_›; rw [h3] at h; cases h; done))
        all_goals (first | (rw [e]; done) | (rw [e]; rfl) | omega | trace_state)
    · have e : declP s f = docP s := by unfold declP; rw [if_neg (by rw [h1]; decide), if_pos h2]
      have hb : 9 ≤ s.length := d9 h2
      repeat' ((conv => whnf);first|(with_reducible first|rfl|exact absTF|exact absFT)|exact True.intro|intro _|refine And.intro ?_ ?_|refine Fin.mk ?_|refine W1 rfl ?_ ?_|refine W2 rfl ?_ ?_|refine W3 rfl ?_ ?_|refine W4 ?_ ?_|refine W5 rfl ?_ ?_|refine W6 ?_ ?_|refine AppN.mk ?_|refine X1 (W1 rfl ?_ ?_)|refine X1 (W2 rfl ?_ ?_)|refine X2 (W7 rfl ?_ ?_)|refine X3 (W7 rfl ?_ ?_)|refine X4 (W7 rfl ?_ ?_)|refine X5 (W7 rfl ?_ ?_))
      all_goals (try (conv => whnf))
      all_goals (try first|exact Ob.mk (u8_bnd _)|(refine Ob.mk ?_;first|exact True.intro|assumption|omega|(try simp only [ZA,ZB,ZC,ZD,ZE,ZF,ZG,ZH,ZI,ZJ,ZK,ZL,ZM,ZN,ZO,Int.toNat_natCast,UInt8.ofNat_toNat,cast_eq] at *;omega)))
      all_goals (try first|(show (_:Int) = _;omega)|(show tupSV _ = _;with_unfolding_all rfl)|((first|show (_:Nat) ≤ _|show (_:Nat) ≤ _ ∧ (_:Nat) ≤ _|show (_:Int) ≤ _ ∧ (_:Int) ≤ _ ∧ (_:Int) ≤ _ ∧ (_:Int) ≤ _);(simp <;> omega)))
      all_goals (try (exfalso; have h : begP s [60, 33, 45, 45] = true := ‹_›; rw [h1] at h; cases h; done))
      all_goals (try (exfalso; have h : (decide ((s.length : Int) ≥ 9) && lowL (List.drop (Int.toNat 2) (List.take (Int.toNat 9) s)) == lowL [100, 111, 99, 116, 121, 112, 101]) = false := ‹_›; rw [eD, h2] at h; cases h; done))
      all_goals (first | (rw [e]; done) | (rw [e]; rfl) | omega | trace_state)
  · have e : declP s f = cm4 s := by unfold declP; rw [if_pos h1]
    have eS : (if begP s [60, 33, 45, 45] = true then s.drop ([60, 33, 45, 45] : List UInt8).length else s) = s.drop 4 := if_pos h1
    repeat' ((conv => whnf);first|(with_reducible first|rfl|exact absTF|exact absFT)|exact True.intro|intro _|refine And.intro ?_ ?_|refine Fin.mk ?_|refine W1 rfl ?_ ?_|refine W2 rfl ?_ ?_|refine W3 rfl ?_ ?_|refine W4 ?_ ?_|refine W5 rfl ?_ ?_|refine W6 ?_ ?_|refine AppN.mk ?_|refine X1 (W1 rfl ?_ ?_)|refine X1 (W2 rfl ?_ ?_)|refine X2 (W7 rfl ?_ ?_)|refine X3 (W7 rfl ?_ ?_)|refine X4 (W7 rfl ?_ ?_)|refine X5 (W7 rfl ?_ ?_))
    all_goals (try (conv => whnf))
    all_goals (try first|exact Ob.mk (u8_bnd _)|(refine Ob.mk ?_;first|exact True.intro|assumption|omega|(try simp only [ZA,ZB,ZC,ZD,ZE,ZF,ZG,ZH,ZI,ZJ,ZK,ZL,ZM,ZN,ZO,Int.toNat_natCast,UInt8.ofNat_toNat,cast_eq] at *;omega)))
    all_goals (try first|(show (_:Int) = _;omega)|(show tupSV _ = _;with_unfolding_all rfl)|((first|show (_:Nat) ≤ _|show (_:Nat) ≤ _ ∧ (_:Nat) ≤ _|show (_:Int) ≤ _ ∧ (_:Int) ≤ _ ∧ (_:Int) ≤ _ ∧ (_:Int) ≤ _);(simp <;> omega)))
    all_goals (try (exfalso; have h : begP s [60, 33, 45, 45] = false := ‹_›; rw [h1] at h; cases h; done))
    all_goals (try rw [eS])
    all_goals (first | (rw [e]; done) | (rw [e]; rfl) | omega | (constructor <;> omega) | trace_state)
def r0 (s : List UInt8) : Bool := decide ((s.length : Int) < 2) || ((s.getD 0 0).toNat : Int) != 60
def rk (s : List UInt8) (k : Int) : Bool := ((s.getD 1 0).toNat : Int) == k
def r62 (s : List UInt8) : Bool := decide ((s.length : Int) > 2) && ((s.getD 2 0).toNat : Int) == 62
def rAl (s : List UInt8) : Bool := decide ((s.length : Int) > 2) && !alI ((s.getD 2 0).toNat : Int)
def readP (s : List UInt8) (f : Bool) : Rk :=
  if r0 s = true then (0, [], [], 0, false)
  else if rk s 33 = true then declP s f
  else if rk s 63 = true then bogusP s 1
  else if rk s 47 = true then (if r62 s = true then (0, [], [], 3, false) else if rAl s = true then bogusP s 2 else (0, [], [], 0, false))
  else (0, [], [], 0, false)
instance rRead (s : List UInt8) (f : Bool) : Fn BB 33 [.str s, .bool f] (s.length ≤ 900000) (rkSV (readP s f)) := by
  refine Fn.intro (N := 59) [0, 1, 4, 5, 6, 14, 17, 18, 26, 33, 42, 52] [] Tryd.call33 Tryd.func33 rfl rfl (by kernel_rfl) (fun hpre => ?_)
  have c0 : (decide ((s.length : Int) < 2) || ((s.getD (Int.toNat 0) 0).toNat : Int) != 60) = r0 s := rfl
  have ck : ∀ k : Int, (((s.getD (Int.toNat 1) 0).toNat : Int) == k) = rk s k := fun k => rfl
  have c62 : (decide ((s.length : Int) > 2) && ((s.getD (Int.toNat 2) 0).toNat : Int) == 62) = r62 s := rfl
  have cAl : (decide ((s.length : Int) > 2) && !alI ((s.getD (Int.toNat 2) 0).toNat : Int)) = rAl s := rfl
  have l2 : r0 s = false → 2 ≤ s.length := fun h => by
    unfold r0 at h; rw [Bool.or_eq_false_iff] at h; have := of_decide_eq_false h.1; omega
  have l3 : rAl s = true → 3 ≤ s.length := fun h => by
    unfold rAl at h; rw [Bool.and_eq_true] at h; have := of_decide_eq_true h.1; omega
  have hb := u8_bnd (s.getD 2 0)
  repeat' ((conv => whnf);first|(with_reducible first|rfl|exact absTF|exact absFT)|exact True.intro|intro _|refine And.intro ?_ ?_|refine Fin.mk ?_|refine W1 rfl ?_ ?_|refine W2 rfl ?_ ?_|refine W3 rfl ?_ ?_|refine W4 ?_ ?_|refine W5 rfl ?_ ?_|refine W6 ?_ ?_|refine AppN.mk ?_|refine X1 (W1 rfl ?_ ?_)|refine X1 (W2 rfl ?_ ?_)|refine X2 (W7 rfl ?_ ?_)|refine X3 (W7 rfl ?_ ?_)|refine X4 (W7 rfl ?_ ?_)|refine X5 (W7 rfl ?_ ?_))
  all_goals (try (conv => whnf))
  all_goals (try first|exact Ob.mk (u8_bnd _)|(refine Ob.mk ?_;first|exact True.intro|assumption|omega|(try simp only [ZA,ZB,ZC,ZD,ZE,ZF,ZG,ZH,ZI,ZJ,ZK,ZL,ZM,ZN,ZO,Int.toNat_natCast,UInt8.ofNat_toNat,cast_eq] at *;omega)))
  all_goals (try first|(show (_:Int) = _;omega)|(show tupSV _ = _;with_unfolding_all rfl)|((first|show (_:Nat) ≤ _|show (_:Nat) ≤ _ ∧ (_:Nat) ≤ _|show (_:Int) ≤ _ ∧ (_:Int) ≤ _ ∧ (_:Int) ≤ _ ∧ (_:Int) ≤ _);(simp <;> omega)))
  all_goals (try simp only [c0, c62, cAl, ck] at *)
  all_goals (try (have h2 := l2 ‹r0 s = false›))
  all_goals (try (have h3 := l3 ‹rAl s = true›))
  all_goals (first | omega | (simp only [readP, *, if_true, if_false, Bool.false_eq_true]; done) | (simp only [readP, *, if_true, if_false, Bool.false_eq_true]; rfl) | exact hb | exact ⟨by omega, by omega, by omega⟩ | trace_state)
end Go.Vc

namespace Go.Vc
open Go.Proofs
set_option maxRecDepth 10000
set_option maxHeartbeats 8000000
section
variable {s : List UInt8} {c : Bool} {n : Nat} {k : Int}
end
theorem c62_iff (c : UInt8) : ((c.toNat : Int) == 62) = (c == 62) := b_iff c 62
theorem c47_iff (c : UInt8) : ((c.toNat : Int) == 47) = (c == 47) := b_iff c 47
section
variable {s : List UInt8} {f i : Nat} {l : List AttrD} {x : List UInt8}
abbrev c2B (s : List UInt8) (j : Nat) : Bool := ((s.getD j 0).toNat : Int) == 62 || ((s.getD j 0).toNat : Int) == 47 && decide ((j : Int) + 1 < (s.length : Int)) && ((s.getD (j + 1) 0).toNat : Int) == 62
theorem is62 {j : Nat} (hl : j < s.length) : cIs s j 62 = (s.getD j 0 == 62) := by unfold cIs; rw [decide_eq_true (show (j : Int) < (s.length : Int) by omega), Bool.true_and]; exact b_iff _ 62
theorem is47 {j : Nat} (hl : j < s.length) : cIs s j 47 = (s.getD j 0 == 47) := by unfold cIs; rw [decide_eq_true (show (j : Int) < (s.length : Int) by omega), Bool.true_and]; exact b_iff _ 47
theorem is62' (j : Nat) : (decide ((j : Int) + 1 < (s.length : Int)) && ((s.getD (j + 1) 0).toNat : Int) == 62) = cIs s (j + 1) 62 := by unfold cIs; rfl
theorem u2 (h1 : cOv s (upTo blB s i) = false) (h2 : c2B s (upTo blB s i) = true) (h3 : (((s.getD (upTo blB s i) 0).toNat : Int) == 47) = true) : runT s (f + 1) i l x = (true, upTo blB s i + 2, l, true, x) := by
  have hl := (cOv_not _ _).1 h1
  rw [c47_iff, beq_iff_eq] at h3
  have a : cIs s (upTo blB s i) 62 = false := by rw [is62 hl, h3]; decide
  have b : cIs s (upTo blB s i) 47 = true := by rw [is47 hl, h3]; decide
  unfold c2B at h2
  rw [Bool.and_assoc, is62', c62_iff, c47_iff, h3] at h2
  refine st3 h1 a b (by simpa using h2)
end
end Go.Vc

namespace Go.Vc
open Go.Proofs
set_option maxRecDepth 10000
set_option maxHeartbeats 8000000
def clC (s nm : List UInt8) : Bool := nm == [] || decide ((s.length : Int) ≤ (nm.length : Int) + 2) || !begP s [60, 47] || !(lowL ((s.take (nm.length + 2)).drop 2) == lowL nm)
def clS (s nm : List UInt8) : Bool :=
  if clC s nm then false
  else W.isSp ((s.getD (nm.length + 2) 0).toNat : Int) || ((s.getD (nm.length + 2) 0).toNat : Int) == 47 || ((s.getD (nm.length + 2) 0).toNat : Int) == 62
theorem clSn {s nm : List UInt8} (h : clC s nm = false) : clS s nm = (W.isSp ((s.getD (nm.length + 2) 0).toNat : Int) || ((s.getD (nm.length + 2) 0).toNat : Int) == 47 || ((s.getD (nm.length + 2) 0).toNat : Int) == 62) := by
  unfold clS
  rw [if_neg (by rw [h]; exact Bool.false_ne_true)]
theorem nm2 (nm : List UInt8) : ((nm.length : Int) + 2).toNat = nm.length + 2 := by omega
instance gClo (s nm : List UInt8) : Fn BB 36 [.str s, .str nm] (s.length ≤ 100000 ∧ nm.length ≤ 100000) (.bool (clS s nm)) := by
  refine Fn.intro (N := 46) [0, 1, 4, 5, 29] [] Tryd.call36 Tryd.func36 rfl rfl (by kernel_rfl) (fun hpre => ?_)
  repeat' ((conv => whnf);first|(with_reducible first|rfl|exact absTF|exact absFT)|exact True.intro|intro _|refine And.intro ?_ ?_|refine Fin.mk ?_|refine W1 rfl ?_ ?_|refine W2 rfl ?_ ?_|refine W3 rfl ?_ ?_|refine W4 ?_ ?_|refine W5 rfl ?_ ?_|refine W6 ?_ ?_|refine AppN.mk ?_|refine X1 (W1 rfl ?_ ?_)|refine X1 (W2 rfl ?_ ?_)|refine X2 (W7 rfl ?_ ?_)|refine X3 (W7 rfl ?_ ?_)|refine X4 (W7 rfl ?_ ?_)|refine X5 (W7 rfl ?_ ?_))
  all_goals (try (conv => whnf))
  all_goals (try first|exact Ob.mk (u8_bnd _)|(refine Ob.mk ?_;first|exact True.intro|assumption|omega|(try simp only [ZA,ZB,ZC,ZD,ZE,ZF,ZG,ZH,ZI,ZJ,ZK,ZL,ZM,ZN,ZO,Int.toNat_natCast,UInt8.ofNat_toNat,cast_eq] at *;omega)))
  all_goals (try first|(show (_:Int) = _;omega)|(show tupSV _ = _;with_unfolding_all rfl)|((first|show (_:Nat) ≤ _|show (_:Nat) ≤ _ ∧ (_:Nat) ≤ _|show (_:Int) ≤ _ ∧ (_:Int) ≤ _ ∧ (_:Int) ≤ _ ∧ (_:Int) ≤ _);(simp <;> omega)))
  all_goals (try (simp only [nm2, show Int.toNat 2 = 2 from rfl] at *))
  all_goals (try ((have hh : clC s nm = true := by unfold clC; assumption); unfold clS; rw [hh]; rfl; done))
  all_goals (try (refine (clSn ?_).symm; unfold clC; assumption))
  all_goals (try (simp only [Bool.or_eq_false_iff, decide_eq_false_iff_not] at *; omega))
end Go.Vc

namespace Go.Vc
open Go.Proofs
set_option maxRecDepth 10000
set_option maxHeartbeats 8000000
theorem upTo_ge (p : UInt8 → Bool) (s : List UInt8) (i : Nat) : i ≤ upTo p s i := by unfold upTo; omega
theorem valS_ge (s : List UInt8) (i : Nat) : i ≤ (valS s i).2.1 := by
  unfold valS
  split
  · split
    · exact Nat.le_refl _
    · show i ≤ i + _ + 2; omega
  · exact upTo_ge _ _ _
theorem runT_ge (s : List UInt8) : ∀ (f i : Nat) (l : List AttrD) (x : List UInt8), (runT s f i l x).1 = true → i < (runT s f i l x).2.1 := by
  intro f
  induction f with
  | zero => intro i l x h; cases h
  | succ f ih =>
    intro i l x
    have h0 := upTo_ge blB s i
    unfold runT
    split
    · intro h; cases h
    split
    · intro _; show i < upTo blB s i + 1; omega
    split
    · split
      · intro _; show i < upTo blB s i + 2; omega
      · intro h; refine Nat.lt_of_le_of_lt ?_ (ih _ _ _ h); omega
    · have h1 := upTo_ge (stP [47, 62, 61]) s (upTo blB s i + 1)
      have h2 := upTo_ge blB s (upTo (stP [47, 62, 61]) s (upTo blB s i + 1))
      have h3 := upTo_ge blB s (upTo blB s (upTo (stP [47, 62, 61]) s (upTo blB s i + 1)) + 1)
      have h4 := valS_ge s (upTo blB s (upTo blB s (upTo (stP [47, 62, 61]) s (upTo blB s i + 1)) + 1))
      unfold runT.atT
      split
      · intro h; refine Nat.lt_of_le_of_lt ?_ (ih _ _ _ h); omega
      split
      · intro h; cases h
      split
      · intro h; cases h
      · intro h; refine Nat.lt_of_le_of_lt ?_ (ih _ _ _ h); omega
end Go.Vc

namespace Go.Vc
open Go.Proofs
set_option maxRecDepth 10000
set_option maxHeartbeats 8000000
theorem runT_le (s : List UInt8) : ∀ (f i : Nat) (l : List AttrD) (x : List UInt8), i ≤ s.length → (runT s f i l x).1 = true → (runT s f i l x).2.1 ≤ s.length := by
  intro f
  induction f with
  | zero => intro i l x _ h; cases h
  | succ f ih =>
    intro i l x hi
    have h0 := upTo_le blB s i hi
    unfold runT
    split
    · intro h; cases h
    split
    · intro _; show upTo blB s i + 1 ≤ s.length; omega
    split
    · split
      · rename_i h; intro _; show upTo blB s i + 2 ≤ s.length; omega
      · intro h; exact ih _ _ _ (by omega) h
    · have h1 := upTo_le (stP [47, 62, 61]) s (upTo blB s i + 1) (by omega)
      have h2 := upTo_le blB s (upTo (stP [47, 62, 61]) s (upTo blB s i + 1)) (by omega)
      unfold runT.atT
      split
      · intro h; exact ih _ _ _ (by omega) h
      split
      · intro h; cases h
      split
      · intro h; cases h
      · intro h; exact ih _ _ _ (valS_le s _ (by omega)).2.1 h
theorem tagAt_bnd (s : List UInt8) (c : Bool) (a : Nat) (ho : (tagAt s c a).2.2.2.2.2 = true) : ∃ n : Nat, (tagAt s c a).2.2.2.2.1 = (n : Int) ∧ 1 ≤ n ∧ n ≤ s.length := by
  unfold tagAt at ho ⊢
  by_cases c1 : s = [] ∨ s.getD 0 0 ≠ 60 ∨ s.length ≤ a ∨ alB (s.getD a 0) = false
  · rw [if_pos c1] at ho; cases ho
  rw [if_neg c1] at ho ⊢
  by_cases c2 : (rnG s a).1 = false
  · rw [if_pos c2] at ho; cases ho
  rw [if_neg c2]
  have hr : (rnG s a).1 = true := by cases h : (rnG s a).1 with | true => rfl | false => exact absurd h c2
  have hgt : upTo (stP [47, 62]) s a < (rnG s a).2.1 := runT_ge s _ _ _ _ hr
  have hal : a ≤ s.length := by
    rcases Nat.lt_or_ge s.length a with q | q
    · exact absurd (.inr (.inr (.inl (by omega)))) c1
    · exact q
  have hle : (rnG s a).2.1 ≤ s.length := runT_le s _ _ _ _ (upTo_le _ _ _ hal).2 hr
  refine ⟨(rnG s a).2.1, ?_, by omega, hle⟩
  by_cases c3 : c = true
  · rw [if_pos c3]
  · rw [if_neg c3]
end Go.Vc

namespace Go.Vc
open Go.Proofs
set_option maxRecDepth 10000
set_option maxHeartbeats 2000000
abbrev TokD := Int × List UInt8 × List AttrD × Bool × List UInt8
def mkN (s : List UInt8) (f : Bool) : Int := if (tagP s).2.2.2.2.1 = 0 then (readP s f).2.2.2.1 else (tagP s).2.2.2.2.1
def mkO (s : List UInt8) (f : Bool) : Bool := if (tagP s).2.2.2.2.1 = 0 then (readP s f).2.2.2.2 else (tagP s).2.2.2.2.2
def mkT (s : List UInt8) (f : Bool) : TokD := if (tagP s).2.2.2.2.1 = 0 then ((readP s f).1, (readP s f).2.1, [], false, (readP s f).2.2.1) else ((tagP s).1, (tagP s).2.1, (tagP s).2.2.1, (tagP s).2.2.2.1, [])
theorem tagAt_all (s : List UInt8) (c : Bool) (a : Nat) : 0 ≤ (tagAt s c a).2.2.2.2.1 ∧ (tagAt s c a).2.2.2.2.1 ≤ s.length := by
  cases ho : (tagAt s c a).2.2.2.2.2
  · unfold tagAt at ho ⊢
    split at ho
    · rename_i h; rw [if_pos h]; exact ⟨by simp, by simp⟩
    rename_i h
    rw [if_neg h]
    split at ho
    · rename_i h2; rw [if_pos h2]; exact ⟨by simp, by simp⟩
    · split at ho <;> cases ho
  · obtain ⟨n, e, h1, h2⟩ := tagAt_bnd s c a ho
    rw [e]; exact ⟨by omega, by omega⟩
theorem tagP_all (s : List UInt8) : 0 ≤ (tagP s).2.2.2.2.1 ∧ (tagP s).2.2.2.2.1 ≤ s.length := by
  unfold tagP
  split <;> exact tagAt_all _ _ _
theorem bogusP_all (s : List UInt8) (k : Nat) (h : k ≤ s.length) : 0 ≤ (bogusP s k).2.2.2.1 ∧ (bogusP s k).2.2.2.1 ≤ s.length := by
  have h1 := uN_le (s.drop k) [62]
  rw [List.length_drop] at h1
  unfold bogusP
  exact ⟨by simp only; omega, by simp only; omega⟩
theorem begP_le {s p : List UInt8} (h : begP s p = true) : p.length ≤ s.length := by
  unfold begP at h
  rw [Bool.and_eq_true] at h
  have := of_decide_eq_true h.1
  omega
theorem comP_all (s : List UInt8) : 0 ≤ (comP s).2.2.2.1 ∧ (comP s).2.2.2.1 ≤ s.length := by
  unfold comP
  split
  · rename_i h; have := begP_le h; exact ⟨by simp, by simp only [List.length_cons, List.length_nil] at this; dsimp only; omega⟩
  split
  · rename_i h; have := begP_le h; exact ⟨by simp, by simp only [List.length_cons, List.length_nil] at this; dsimp only; omega⟩
  split
  · exact ⟨by simp, by simp⟩
  rename_i hn
  have hA := fnd_cases s mA (by decide)
  have hB := fnd_cases s mB (by decide)
  have lA : mA.length = 3 := rfl
  have lB : mB.length = 4 := rfl
  have la := fnd_le s mA
  rw [lA] at hA
  rw [lB] at hB
  split
  · rename_i hlt
    refine ⟨by simp only; omega, ?_⟩
    show ((fnd s mB + 4 : Nat) : Int) ≤ s.length
    rcases hB with h | h <;> omega
  · rename_i hlt
    refine ⟨by simp only; omega, ?_⟩
    show ((fnd s mA + 3 : Nat) : Int) ≤ s.length
    rcases hA with h | h
    · omega
    · rcases hB with h' | h'
      · omega
      · exact absurd ⟨by unfold fdB; rw [lA]; exact decide_eq_false (by omega), by unfold fdB; rw [lB]; exact decide_eq_false (by omega)⟩ hn
theorem readP_all (s : List UInt8) (f : Bool) : 0 ≤ (readP s f).2.2.2.1 ∧ (readP s f).2.2.2.1 ≤ s.length := by
  unfold readP
  split
  · exact ⟨by simp, by simp⟩
  rename_i h0
  have h2 : 2 ≤ s.length := by
    unfold r0 at h0
    rw [Bool.or_eq_true, not_or] at h0
    have := h0.1
    rw [decide_eq_true_eq] at this; omega
  have h9 : 9 ≤ s.length → ∀ m : List UInt8, (0 : Int) ≤ ((9 + uN (s.drop 9) m : Nat) : Int) ∧ ((9 + uN (s.drop 9) m : Nat) : Int) ≤ s.length := fun h m => by
    have h1 := uN_le (s.drop 9) m
    rw [List.length_drop] at h1
    exact ⟨by omega, by omega⟩
  split
  · unfold declP
    split
    · rename_i h
      have h4 := begP_le h
      have h4 : 4 ≤ s.length := by simpa using h4
      have := comP_all (s.drop 4)
      rw [List.length_drop] at this
      unfold cm4
      exact ⟨by simp only; omega, by simp only; omega⟩
    split
    · rename_i h
      have h := h9 (by unfold isDoc at h; rw [Bool.and_eq_true] at h; have := of_decide_eq_true h.1; omega) [62]
      exact h
    split
    · rename_i h
      rw [Bool.and_eq_true] at h
      have h := h9 (by have := begP_le h.2; simpa [cdM] using this) mC
      unfold secP
      split <;> exact h
    · exact bogusP_all s 2 h2
  split
  · exact bogusP_all s 1 (by omega)
  split
  · split
    · rename_i h
      refine ⟨by simp, ?_⟩
      unfold r62 at h
      rw [Bool.and_eq_true] at h
      have := of_decide_eq_true h.1
      show (3 : Int) ≤ _
      omega
    split
    · exact bogusP_all s 2 h2
    · exact ⟨by simp, by simp⟩
  · exact ⟨by simp, by simp⟩
theorem mkN_all (s : List UInt8) (f : Bool) : 0 ≤ mkN s f ∧ mkN s f ≤ s.length := by
  unfold mkN
  split
  · exact readP_all s f
  · exact tagP_all s
theorem mkN_no (s : List UInt8) (f : Bool) (h : s.getD 0 0 ≠ 60) : mkN s f = 0 := by
  have e : (tagP s).2.2.2.2.1 = 0 := by
    unfold tagP
    split <;> (unfold tagAt; rw [if_pos (.inr (.inl h))])
  unfold mkN
  rw [if_pos e]
  unfold readP
  rw [if_pos]
  unfold r0
  rw [Bool.or_eq_true]
  right
  have : ((s.getD 0 0).toNat : Int) ≠ 60 := fun q => h (by
    have q : (s.getD 0 0).toNat = 60 := by omega
    exact UInt8.toNat_inj.1 q)
  simpa using this
def nxT (s : List UInt8) (f : Bool) : Nat → Nat → Nat
  | 0, _ => s.length
  | k + 1, i => if 0 < mkN (s.drop i) f then i else nxT s f k (i + 1)
def txN (s : List UInt8) (f : Bool) : Nat := nxT s f (s.length - 1) 1
def posF (s : List UInt8) : Nat → Nat → List Nat
  | 0, _ => []
  | k + 1, i => if s.getD i 0 = 60 then i :: posF s k (i + 1) else posF s k (i + 1)
def fstP (s : List UInt8) (f : Bool) : List Nat → Nat
  | [] => s.length
  | i :: l => if 0 < mkN (s.drop i) f then i else fstP s f l
theorem getD_drop0 (s : List UInt8) (i : Nat) : (s.drop i).getD 0 0 = s.getD i 0 := by
  simp [List.getD]
theorem nx_pos (s : List UInt8) (f : Bool) : ∀ k i, nxT s f k i = fstP s f (posF s k i)
  | 0, _ => rfl
  | k + 1, i => by
    unfold nxT posF
    by_cases h : s.getD i 0 = 60
    · rw [if_pos h, fstP, nx_pos s f k (i + 1)]
    · rw [if_neg h, mkN_no (s.drop i) f (by rw [getD_drop0]; exact h), if_neg (by omega), nx_pos s f k (i + 1)]
theorem nxT_le (s : List UInt8) (f : Bool) : ∀ k i, i + k = s.length → i ≤ nxT s f k i ∧ nxT s f k i ≤ s.length
  | 0, i, h => by unfold nxT; omega
  | k + 1, i, h => by
    unfold nxT
    split
    · omega
    · have := nxT_le s f k (i + 1) (by omega); omega
theorem txN_le (s : List UInt8) (f : Bool) (h : s ≠ []) : 1 ≤ txN s f ∧ txN s f ≤ s.length := by
  have : 0 < s.length := List.length_pos_iff.mpr h
  exact nxT_le s f _ _ (by omega)
def txtD (s : List UInt8) (f : Bool) : TokD := (3, [], [], false, decF (s.take (txN s f)) false)
def tok0 : TokD := (0, [], [], false, [])
def datF (f : Bool) : Nat → List UInt8 → TokD × List UInt8
  | 0, s => (tok0, s)
  | k + 1, s => if s = [] then (tok0, []) else if mkN s f = 0 then (txtD s f, s.drop (txN s f)) else if mkO s f = true then (mkT s f, s.drop (mkN s f).toNat) else datF f k (s.drop (mkN s f).toNat)
theorem datF_more (f : Bool) : ∀ (k m : Nat) (s : List UInt8), s.length < k → s.length < m → datF f k s = datF f m s
  | 0, _, _, h, _ => by omega
  | _, 0, _, _, h => by omega
  | k + 1, m + 1, s, hk, hm => by
    unfold datF
    split
    · rfl
    split
    · rfl
    split
    · rfl
    · rename_i h0 h1 h2
      have hb := mkN_all s f
      have hp : 0 < s.length := List.length_pos_iff.mpr h0
      exact datF_more f k m _ (by rw [List.length_drop]; omega) (by rw [List.length_drop]; omega)
def datP (f : Bool) (s : List UInt8) : TokD × List UInt8 := datF f (s.length + 1) s
theorem datP_step (f : Bool) (s : List UInt8) (h0 : s ≠ []) (h1 : mkN s f ≠ 0) (h2 : mkO s f = false) : datP f s = datP f (s.drop (mkN s f).toNat) := by
  unfold datP
  rw [datF, if_neg h0, if_neg h1, if_neg (by rw [h2]; decide)]
  have hb := mkN_all s f
  have hp : 0 < s.length := List.length_pos_iff.mpr h0
  exact datF_more f _ _ _ (by rw [List.length_drop]; omega) (by omega)
theorem datP_nil (f : Bool) : datP f [] = (tok0, []) := rfl
theorem datP_txt (f : Bool) (s : List UInt8) (h0 : s ≠ []) (h1 : mkN s f = 0) : datP f s = (txtD s f, s.drop (txN s f)) := by
  unfold datP
  rw [datF, if_neg h0, if_pos h1]
theorem datP_ok (f : Bool) (s : List UInt8) (h0 : s ≠ []) (h1 : mkN s f ≠ 0) (h2 : mkO s f = true) : datP f s = (mkT s f, s.drop (mkN s f).toNat) := by
  unfold datP
  rw [datF, if_neg h0, if_neg h1, if_pos h2]
theorem datF_len (f : Bool) : ∀ (k : Nat) (s : List UInt8), s.length < k → s ≠ [] → (datF f k s).2.length < s.length
  | 0, _, h, _ => by omega
  | k + 1, s, hk, h0 => by
    have hp : 0 < s.length := List.length_pos_iff.mpr h0
    have hb := mkN_all s f
    unfold datF
    rw [if_neg h0]
    split
    · have := txN_le s f h0
      show (s.drop (txN s f)).length < _
      rw [List.length_drop]; omega
    split
    · show (s.drop (mkN s f).toNat).length < _
      rw [List.length_drop]; omega
    · rename_i h1 h2
      have hl : (s.drop (mkN s f).toNat).length < s.length := by rw [List.length_drop]; omega
      by_cases h3 : s.drop (mkN s f).toNat = []
      · rw [h3]
        have hk1 : 0 < k := by omega
        obtain ⟨k', rfl⟩ : ∃ k', k = k' + 1 := ⟨k - 1, by omega⟩
        rw [datF, if_pos rfl]; exact hp
      · have := datF_len f k _ (by omega) h3
        omega
theorem datP_len (f : Bool) (s : List UInt8) (h : s ≠ []) : (datP f s).2.length < s.length := datF_len f _ _ (by omega) h
def allF : Nat → List UInt8 → List TokD
  | 0, _ => []
  | k + 1, s => (datP false s).1 :: (if (datP false s).1.1 = 0 then [] else allF k (datP false s).2)
def allP (s : List UInt8) : List TokD := allF (s.length + 1) s
theorem allF_step (k : Nat) (s : List UInt8) (h : (datP false s).1.1 ≠ 0) : allF (k + 1) s = (datP false s).1 :: allF k (datP false s).2 := by
  rw [allF, if_neg h]
theorem allF_end (k : Nat) (s : List UInt8) (h : (datP false s).1.1 = 0) : allF (k + 1) s = [(datP false s).1] := by
  rw [allF, if_pos h]
theorem pos_none (s : List UInt8) : ∀ (k i : Nat), (∀ j, s[i + j]? ≠ some 60) → i + k ≤ s.length → posF s k i = []
  | 0, _, _, _ => rfl
  | k + 1, i, h, hl => by
    have h0 := h 0
    unfold posF
    rw [if_neg]
    · exact pos_none s k (i + 1) (fun j => by have := h (1 + j); rwa [← Nat.add_assoc] at this) (by omega)
    · intro q
      have hi : i < s.length := by omega
      rw [Nat.add_zero, List.getElem?_eq_getElem hi] at h0
      apply h0
      simp [List.getD, List.getElem?_eq_getElem hi] at q
      rw [q]
theorem pos_some (s : List UInt8) : ∀ (o k i : Nat), s[i + o]? = some 60 → (∀ j, j < o → s[i + j]? ≠ some 60) → i + k = s.length → posF s k i = (i + o) :: posF s (k - (o + 1)) (i + o + 1)
  | 0, k, i, h, _, hl => by
    have hi : i < s.length := (List.getElem?_eq_some_iff.1 h).1
    obtain ⟨k, rfl⟩ : ∃ k', k = k' + 1 := ⟨k - 1, by omega⟩
    have e : posF s (k + 1) i = if s.getD i 0 = 60 then i :: posF s k (i + 1) else posF s k (i + 1) := rfl
    rw [e, if_pos (by rw [Nat.add_zero] at h; simp [List.getD, h])]
    rfl
  | o + 1, k, i, h, hn, hl => by
    have hi : i + (o + 1) < s.length := (List.getElem?_eq_some_iff.1 h).1
    obtain ⟨k, rfl⟩ : ∃ k', k = k' + 1 := ⟨k - 1, by omega⟩
    have h0 := hn 0 (by omega)
    have e : posF s (k + 1) i = if s.getD i 0 = 60 then i :: posF s k (i + 1) else posF s k (i + 1) := rfl
    rw [e, if_neg, pos_some s o k (i + 1) (by rw [← h]; congr 1; omega) (fun j hj => by have := hn (j + 1) (by omega); rwa [show i + 1 + j = i + (j + 1) by omega]) (by omega)]
    · rw [show i + 1 + o = i + (o + 1) by omega, show k - (o + 1) = k + 1 - (o + 1 + 1) by omega]
    · intro q
      have hi : i < s.length := by omega
      rw [Nat.add_zero, List.getElem?_eq_getElem hi] at h0
      apply h0
      simp [List.getD, List.getElem?_eq_getElem hi] at q
      rw [q]
theorem sg_none {s : List UInt8} {i : Nat} (h : Lib.indexByte (s.drop i) 60 < 0) (hi : i ≤ s.length) : posF s (s.length - i) i = [] := by
  have hg := Lib.indexByte_ge (s.drop i) 60
  have := Lib.indexByte_none (show Lib.indexByte (s.drop i) 60 = -1 by omega)
  exact pos_none s _ _ (fun j => by have := this j; rwa [List.getElem?_drop] at this) (by omega)
theorem sg_some {s : List UInt8} {i : Nat} (h : ¬ Lib.indexByte (s.drop i) 60 < 0) (hi : i ≤ s.length) :
    i + (Lib.indexByte (s.drop i) 60).toNat < s.length ∧ posF s (s.length - i) i = (i + (Lib.indexByte (s.drop i) 60).toNat) :: posF s (s.length - (i + (Lib.indexByte (s.drop i) 60).toNat + 1)) (i + (Lib.indexByte (s.drop i) 60).toNat + 1) := by
  obtain ⟨o, ho⟩ : ∃ o : Nat, Lib.indexByte (s.drop i) 60 = o := ⟨(Lib.indexByte (s.drop i) 60).toNat, by omega⟩
  obtain ⟨h1, h2⟩ := Lib.indexByte_some ho
  rw [List.getElem?_drop] at h1
  have hl : i + o < s.length := (List.getElem?_eq_some_iff.1 h1).1
  rw [ho, Int.toNat_natCast]
  refine ⟨hl, ?_⟩
  rw [pos_some s o (s.length - i) i h1 (fun j hj => by have := h2 j hj; rwa [List.getElem?_drop] at this) (by omega)]
  rw [show s.length - i - (o + 1) = s.length - (i + o + 1) by omega]
def sgn (s : List UInt8) : List Nat := posF s (s.length - 1) 1
theorem txN_sg (s : List UInt8) (f : Bool) : txN s f = fstP s f (sgn s) := nx_pos s f _ _
theorem pos_mem (s : List UInt8) : ∀ (k i x : Nat), x ∈ posF s k i → i ≤ x ∧ x < i + k
  | 0, _, x, h => by cases h
  | k + 1, i, x, h => by
    unfold posF at h
    split at h
    · rcases List.mem_cons.1 h with rfl | h
      · omega
      · have := pos_mem s k (i + 1) x h; omega
    · have := pos_mem s k (i + 1) x h; omega
theorem sgn_bnd (s : List UInt8) {i : Nat} (h : i < (sgn s).length) : 1 ≤ (sgn s).getD i 0 ∧ (sgn s).getD i 0 < s.length := by
  have hm : (sgn s).getD i 0 ∈ sgn s := by
    rw [List.getD_eq_getElem?_getD, List.getElem?_eq_getElem h]; exact List.getElem_mem h
  have := pos_mem s _ _ _ hm
  omega
end Go.Vc

namespace Go.Vc
open Go.Proofs
set_option maxRecDepth 10000
set_option maxHeartbeats 4000000
instance lMark (s : List UInt8) (f : Bool) : FnM BB 21 [.str s, .bool f] [] (s.length ≤ 50000) (.tup [.agg [.int .i64 (mkT s f).1, .str (mkT s f).2.1, .own 0, .bool (mkT s f).2.2.2.1, .str (mkT s f).2.2.2.2], .int .i64 (mkN s f), .bool (mkO s f)]) [(0, .own attrTy (mkT s f).2.2.1)] := by
  refine FnM.intro (N := 28) [0, 1, 4, 5, 6, 7, 8, 9, 17] [] 0 Tryd.call21 Tryd.func21 rfl rfl (by kernel_rfl) (fun hpre => ?_)
  by_cases hz : (tagP s).2.2.2.2.1 = 0
  · have eN : mkN s f = (readP s f).2.2.2.1 := if_pos hz
    have eO : mkO s f = (readP s f).2.2.2.2 := if_pos hz
    have eT : mkT s f = ((readP s f).1, (readP s f).2.1, [], false, (readP s f).2.2.1) := if_pos hz
    repeat' ((conv => whnf);first|(with_reducible first|rfl|exact absTF|exact absFT)|exact True.intro|intro _|refine And.intro ?_ ?_|refine Fin.mk ?_|refine W1 rfl ?_ ?_|refine W2 rfl ?_ ?_|refine W3 rfl ?_ ?_|refine W4 ?_ ?_|refine W5 rfl ?_ ?_|refine W6 ?_ ?_|refine AppN.mk ?_|refine X1 (W1 rfl ?_ ?_)|refine X1 (W2 rfl ?_ ?_)|refine X2 (W7 rfl ?_ ?_)|refine X3 (W7 rfl ?_ ?_)|refine X4 (W7 rfl ?_ ?_)|refine X5 (W7 rfl ?_ ?_))
    all_goals (try (conv => whnf))
    all_goals (try first|exact Ob.mk (u8_bnd _)|(refine Ob.mk ?_;first|exact True.intro|assumption|omega|(try simp only [ZA,ZB,ZC,ZD,ZE,ZF,ZG,ZH,ZI,ZJ,ZK,ZL,ZM,ZN,ZO,Int.toNat_natCast,UInt8.ofNat_toNat,cast_eq] at *;omega)))
    all_goals (try first|(show (_:Int) = _;omega)|(show tupSV _ = _;with_unfolding_all rfl)|((first|show (_:Nat) ≤ _|show (_:Nat) ≤ _ ∧ (_:Nat) ≤ _|show (_:Int) ≤ _ ∧ (_:Int) ≤ _ ∧ (_:Int) ≤ _ ∧ (_:Int) ≤ _);(simp <;> omega)))
    all_goals (try (exfalso; have h : ((tagP s).2.2.2.2.1 == 0) = false := ‹_›; rw [hz] at h; exact absurd h (by decide)))
    all_goals (first | (rw [eT]; done) | (rw [eT]; rfl) | (rw [eN]; done) | (rw [eN]; rfl) | (rw [eO]; done) | (rw [eO]; rfl) | omega | trace_state)
  · have eN : mkN s f = (tagP s).2.2.2.2.1 := if_neg hz
    have eO : mkO s f = (tagP s).2.2.2.2.2 := if_neg hz
    have eT : mkT s f = ((tagP s).1, (tagP s).2.1, (tagP s).2.2.1, (tagP s).2.2.2.1, []) := if_neg hz
    repeat' ((conv => whnf);first|(with_reducible first|rfl|exact absTF|exact absFT)|exact True.intro|intro _|refine And.intro ?_ ?_|refine Fin.mk ?_|refine W1 rfl ?_ ?_|refine W2 rfl ?_ ?_|refine W3 rfl ?_ ?_|refine W4 ?_ ?_|refine W5 rfl ?_ ?_|refine W6 ?_ ?_|refine AppN.mk ?_|refine X1 (W1 rfl ?_ ?_)|refine X1 (W2 rfl ?_ ?_)|refine X2 (W7 rfl ?_ ?_)|refine X3 (W7 rfl ?_ ?_)|refine X4 (W7 rfl ?_ ?_)|refine X5 (W7 rfl ?_ ?_))
    all_goals (try (conv => whnf))
    all_goals (try first|exact Ob.mk (u8_bnd _)|(refine Ob.mk ?_;first|exact True.intro|assumption|omega|(try simp only [ZA,ZB,ZC,ZD,ZE,ZF,ZG,ZH,ZI,ZJ,ZK,ZL,ZM,ZN,ZO,Int.toNat_natCast,UInt8.ofNat_toNat,cast_eq] at *;omega)))
    all_goals (try first|(show (_:Int) = _;omega)|(show tupSV _ = _;with_unfolding_all rfl)|((first|show (_:Nat) ≤ _|show (_:Nat) ≤ _ ∧ (_:Nat) ≤ _|show (_:Int) ≤ _ ∧ (_:Int) ≤ _ ∧ (_:Int) ≤ _ ∧ (_:Int) ≤ _);(simp <;> omega)))
    all_goals (try (exfalso; have h : ((tagP s).2.2.2.2.1 == 0) = true := ‹_›; exact hz (by simpa using h)))
    all_goals (first | (rw [eT]; done) | (rw [eT]; rfl) | (rw [eN]; done) | (rw [eN]; rfl) | (rw [eO]; done) | (rw [eO]; rfl) | omega | trace_state)
instance lTake (s : List UInt8) (k : Int) : FnM BB 15 [.loc 0 0, .int .i64 k] [(0, .box [.str s])] (0 ≤ k ∧ k ≤ s.length) (.str (s.take k.toNat)) [(0, .box [.str (s.drop k.toNat)])] := by
  refine FnM.intro (N := 22) [0, 1, 4, 5] [] 1 Tryd.call15 Tryd.func15 rfl rfl (by kernel_rfl) (fun hpre => ?_)
  repeat' ((conv => whnf);first|(with_reducible first|rfl|exact absTF|exact absFT)|exact True.intro|intro _|refine And.intro ?_ ?_|refine Fin.mk ?_|refine W1 rfl ?_ ?_|refine W2 rfl ?_ ?_|refine W3 rfl ?_ ?_|refine W4 ?_ ?_|refine W5 rfl ?_ ?_|refine W6 ?_ ?_|refine AppN.mk ?_|refine X1 (W1 rfl ?_ ?_)|refine X1 (W2 rfl ?_ ?_)|refine X2 (W7 rfl ?_ ?_)|refine X3 (W7 rfl ?_ ?_)|refine X4 (W7 rfl ?_ ?_)|refine X5 (W7 rfl ?_ ?_))
  all_goals (try (conv => whnf))
  all_goals (try first|exact Ob.mk (u8_bnd _)|(refine Ob.mk ?_;first|exact True.intro|assumption|omega|(try simp only [ZA,ZB,ZC,ZD,ZE,ZF,ZG,ZH,ZI,ZJ,ZK,ZL,ZM,ZN,ZO,Int.toNat_natCast,UInt8.ofNat_toNat,cast_eq] at *;omega)))
  all_goals (try first|(show (_:Int) = _;omega)|(show tupSV _ = _;with_unfolding_all rfl)|((first|show (_:Nat) ≤ _|show (_:Nat) ≤ _ ∧ (_:Nat) ≤ _|show (_:Int) ≤ _ ∧ (_:Int) ≤ _ ∧ (_:Int) ≤ _ ∧ (_:Int) ≤ _);(simp <;> omega)))
  all_goals (first | rfl | omega | exact ⟨by omega, by omega⟩ | trace_state)
instance lSigns (s : List UInt8) : Fn BB 34 [.str s] True (.fn 50 [.el .str [s] 0 0]) := by
  refine Fn.intro (N := 4) [0, 1, 2] [] Tryd.call34 Tryd.func34 rfl rfl (by kernel_rfl) (fun hpre => ?_)
  repeat' ((conv => whnf);first|(with_reducible first|rfl|exact absTF|exact absFT)|exact True.intro|intro _|refine And.intro ?_ ?_|refine Fin.mk ?_|refine W1 rfl ?_ ?_|refine W2 rfl ?_ ?_|refine W3 rfl ?_ ?_|refine W4 ?_ ?_|refine W5 rfl ?_ ?_|refine W6 ?_ ?_|refine AppN.mk ?_|refine X1 (W1 rfl ?_ ?_)|refine X1 (W2 rfl ?_ ?_)|refine X2 (W7 rfl ?_ ?_)|refine X3 (W7 rfl ?_ ?_)|refine X4 (W7 rfl ?_ ?_)|refine X5 (W7 rfl ?_ ?_))
  all_goals (try (conv => whnf))
  all_goals (try first|exact Ob.mk (u8_bnd _)|(refine Ob.mk ?_;first|exact True.intro|assumption|omega|(try simp only [ZA,ZB,ZC,ZD,ZE,ZF,ZG,ZH,ZI,ZJ,ZK,ZL,ZM,ZN,ZO,Int.toNat_natCast,UInt8.ofNat_toNat,cast_eq] at *;omega)))
  all_goals (try first|(show (_:Int) = _;omega)|(show tupSV _ = _;with_unfolding_all rfl)|((first|show (_:Nat) ≤ _|show (_:Nat) ≤ _ ∧ (_:Nat) ≤ _|show (_:Int) ≤ _ ∧ (_:Int) ≤ _ ∧ (_:Int) ≤ _ ∧ (_:Int) ≤ _);(simp <;> omega)))
  all_goals rfl
theorem drop_facts {l : List Nat} {i a : Nat} {r : List Nat} (h : l.drop i = a :: r) : i < l.length ∧ l.getD i 0 = a ∧ l.drop (i + 1) = r := by
  have hl : i < l.length := by
    rcases Nat.lt_or_ge i l.length with q | q
    · exact q
    · rw [List.drop_eq_nil_of_le q] at h; cases h
  rw [List.drop_eq_getElem_cons hl] at h
  injection h with h1 h2
  exact ⟨hl, by simp [List.getD, List.getElem?_eq_getElem hl, h1], h2⟩
instance lIBy (y : YS) (s : List UInt8) (c : Int) : Fn (BB.withY y) 42 [.str s, .int .u8 c] True (.int .i64 (Lib.indexByte s c.toNat.toUInt8)) := withY_fn
instance lSg (s : List UInt8) : It BB 50 [.el .str [s] 0 0] (s.length ≤ 100000) (sgn s).length (fun i => [.int .i64 (((sgn s).getD i 0 : Nat) : Int)]) := by
  refine It.intro (N := 24) [0, 1, 3, 4, 8, 16, 23] [] 0 Tryd.call50 Tryd.func50 rfl rfl (by kernel_rfl) (fun hpre yl => ?_)
  repeat' ((conv => whnf);first|(with_reducible first|rfl|exact absTF|exact absFT)|exact True.intro|intro _|refine And.intro ?_ ?_|refine Fin.mk ?_|refine W1 rfl ?_ ?_|refine W2 rfl ?_ ?_|refine W3 rfl ?_ ?_|refine W4 ?_ ?_|refine W5 rfl ?_ ?_|refine W6 ?_ ?_|refine AppN.mk ?_|refine X1 (W1 rfl ?_ ?_)|refine X1 (W2 rfl ?_ ?_)|refine X2 (W7 rfl ?_ ?_)|refine X3 (W7 rfl ?_ ?_)|refine X4 (W7 rfl ?_ ?_)|refine X5 (W7 rfl ?_ ?_))
  all_goals (try (conv => whnf))
  all_goals simp only [List.getD_cons_zero] at *
  all_goals (try first|exact Ob.mk (u8_bnd _)|(refine Ob.mk ?_;first|exact True.intro|assumption|omega|(try simp only [ZA,ZB,ZC,ZD,ZE,ZF,ZG,ZH,ZI,ZJ,ZK,ZL,ZM,ZN,ZO,Int.toNat_natCast,UInt8.ofNat_toNat,cast_eq] at *;omega)))
  all_goals (try first|(show (_:Int) = _;omega)|(show tupSV _ = _;with_unfolding_all rfl)|((first|show (_:Nat) ≤ _|show (_:Nat) ≤ _ ∧ (_:Nat) ≤ _|show (_:Int) ≤ _ ∧ (_:Int) ≤ _ ∧ (_:Int) ≤ _ ∧ (_:Int) ≤ _);(simp <;> omega)))
  refine LoopStop.mk (α := Nat × Nat) (fun a => [(3, .int .i64 (a.2 : Nat))]) (fun a => [(GID, .gh (some a.1))]) 20 (fun a => 1 ≤ a.2 ∧ a.2 ≤ s.length + 1 ∧ a.1 ≤ (sgn s).length ∧ posF s (s.length - a.2) a.2 = (sgn s).drop a.1) (fun a => s.length + 1 - a.2) (0, 1) ⟨by simp, by simp, by simp, rfl⟩ ?_ (fun a ha => ?_)
  · repeat' ((conv => whnf);first|(with_reducible first|rfl|exact absTF|exact absFT)|exact True.intro|intro _|refine And.intro ?_ ?_|refine Fin.mk ?_|refine W1 rfl ?_ ?_|refine W2 rfl ?_ ?_|refine W3 rfl ?_ ?_|refine W4 ?_ ?_|refine W5 rfl ?_ ?_|refine W6 ?_ ?_|refine AppN.mk ?_|refine X1 (W1 rfl ?_ ?_)|refine X1 (W2 rfl ?_ ?_)|refine X2 (W7 rfl ?_ ?_)|refine X3 (W7 rfl ?_ ?_)|refine X4 (W7 rfl ?_ ?_)|refine X5 (W7 rfl ?_ ?_))
    all_goals (try (conv => whnf))
    all_goals (try first|exact Ob.mk (u8_bnd _)|(refine Ob.mk ?_;first|exact True.intro|assumption|omega|(try simp only [ZA,ZB,ZC,ZD,ZE,ZF,ZG,ZH,ZI,ZJ,ZK,ZL,ZM,ZN,ZO,Int.toNat_natCast,UInt8.ofNat_toNat,cast_eq] at *;omega)))
    all_goals (try first|(show (_:Int) = _;omega)|(show tupSV _ = _;with_unfolding_all rfl)|((first|show (_:Nat) ≤ _|show (_:Nat) ≤ _ ∧ (_:Nat) ≤ _|show (_:Int) ≤ _ ∧ (_:Int) ≤ _ ∧ (_:Int) ≤ _ ∧ (_:Int) ≤ _);(simp <;> omega)))
    all_goals (try (first | (exact rfl) | (rename_i hx; exact absFT hx) | (rename_i hx; exact absTF hx)))
  · obtain ⟨i, p⟩ := a
    obtain ⟨h1, h2, h3, h4⟩ := ha
    dsimp only at h1 h2 h3 h4
    have e60 : (60 : Int).toNat.toUInt8 = 60 := rfl
    have kn : p ≤ s.length → Lib.indexByte (s.drop p) 60 < 0 → i = (sgn s).length := fun hp hk => by
      rw [sg_none hk hp] at h4
      have := List.drop_eq_nil_iff.1 h4.symm
      omega
    have ks : p ≤ s.length → ¬ Lib.indexByte (s.drop p) 60 < 0 → p + (Lib.indexByte (s.drop p) 60).toNat < s.length ∧ i < (sgn s).length ∧ (sgn s).getD i 0 = p + (Lib.indexByte (s.drop p) 60).toNat ∧ posF s (s.length - (p + (Lib.indexByte (s.drop p) 60).toNat + 1)) (p + (Lib.indexByte (s.drop p) 60).toNat + 1) = (sgn s).drop (i + 1) := fun hp hk => by
      obtain ⟨q1, q2⟩ := sg_some hk hp
      rw [q2] at h4
      obtain ⟨q3, q4, q5⟩ := drop_facts h4.symm
      exact ⟨q1, q3, q4, q5.symm⟩
    have kl : Lib.indexByte (s.drop p) 60 < s.length := by
      rcases Int.lt_or_le (Lib.indexByte (s.drop p) 60) 0 with q | q
      · omega
      · rcases Nat.lt_or_ge s.length p with q' | q'
        · rw [List.drop_eq_nil_of_le (by omega)] at q; exact absurd q (by decide)
        · have := (ks q' (by omega)).1; omega
    have ke : s.length ≤ p → i = (sgn s).length := fun hp => by
      rw [show s.length - p = 0 by omega] at h4
      have := List.drop_eq_nil_iff.1 (show (sgn s).drop i = [] from h4.symm)
      omega
    repeat' ((conv => whnf);first|(with_reducible first|rfl|exact absTF|exact absFT)|exact True.intro|intro _|refine And.intro ?_ ?_|refine Fin.mk ?_|refine W1 rfl ?_ ?_|refine W2 rfl ?_ ?_|refine W3 rfl ?_ ?_|refine W4 ?_ ?_|refine W5 rfl ?_ ?_|refine W6 ?_ ?_|refine AppN.mk ?_|refine X1 (W1 rfl ?_ ?_)|refine X1 (W2 rfl ?_ ?_)|refine X2 (W7 rfl ?_ ?_)|refine X3 (W7 rfl ?_ ?_)|refine X4 (W7 rfl ?_ ?_)|refine X5 (W7 rfl ?_ ?_))
    all_goals (try (conv => whnf))
    all_goals (try simp only [List.getD_cons_zero] at *)
    all_goals (try first|exact Ob.mk (u8_bnd _)|(refine Ob.mk ?_;first|exact True.intro|assumption|omega|(try simp only [ZA,ZB,ZC,ZD,ZE,ZF,ZG,ZH,ZI,ZJ,ZK,ZL,ZM,ZN,ZO,Int.toNat_natCast,UInt8.ofNat_toNat,cast_eq] at *;omega)))
    all_goals (try first|(show (_:Int) = _;omega)|(show tupSV _ = _;with_unfolding_all rfl)|((first|show (_:Nat) ≤ _|show (_:Nat) ≤ _ ∧ (_:Nat) ≤ _|show (_:Int) ≤ _ ∧ (_:Int) ≤ _ ∧ (_:Int) ≤ _ ∧ (_:Int) ≤ _);(simp <;> omega)))
    all_goals (try (first | (exact rfl) | (rename_i hx; exact absFT hx) | (rename_i hx; exact absTF hx)))
    all_goals (try simp only [Int.toNat_natCast, e60] at *)
    all_goals (try (have b1 := of_decide_eq_true ‹decide ((p : Int) < (s.length : Int)) = true›))
    all_goals (try (have b1 := of_decide_eq_false ‹decide ((p : Int) < (s.length : Int)) = false›; exact ke (by omega)))
    all_goals (try (exact kn (by omega) (of_decide_eq_true ‹decide (Lib.indexByte (List.drop p s) 60 < 0) = true›)))
    all_goals (have b2 := of_decide_eq_false ‹decide (Lib.indexByte (List.drop p s) 60 < 0) = false›; obtain ⟨q1, q2, q3, q4⟩ := ks (by omega) b2)
    all_goals (try (exfalso; exact absurd ‹(!true) = true› (by decide)))
    all_goals (try (exfalso; exact absurd ‹(!false) = false› (by decide)))
    all_goals (first | omega | (unfold InI64; omega) | (rw [q3]; omega) | exact ⟨by omega, by omega⟩ | skip)
    refine Rnd.mk ⟨(i + 1, p + (Lib.indexByte (s.drop p) 60).toNat + 1), ⟨by simp only; omega, by simp only; omega, q2, q4⟩, by simp only; omega, ?_⟩
    repeat' ((conv => whnf);first|(with_reducible first|rfl|exact absTF|exact absFT)|exact True.intro|intro _|refine And.intro ?_ ?_|refine Fin.mk ?_|refine W1 rfl ?_ ?_|refine W2 rfl ?_ ?_|refine W3 rfl ?_ ?_|refine W4 ?_ ?_|refine W5 rfl ?_ ?_|refine W6 ?_ ?_|refine AppN.mk ?_|refine X1 (W1 rfl ?_ ?_)|refine X1 (W2 rfl ?_ ?_)|refine X2 (W7 rfl ?_ ?_)|refine X3 (W7 rfl ?_ ?_)|refine X4 (W7 rfl ?_ ?_)|refine X5 (W7 rfl ?_ ?_))
    all_goals (try (conv => whnf))
    all_goals (try first|exact Ob.mk (u8_bnd _)|(refine Ob.mk ?_;first|exact True.intro|assumption|omega|(try simp only [ZA,ZB,ZC,ZD,ZE,ZF,ZG,ZH,ZI,ZJ,ZK,ZL,ZM,ZN,ZO,Int.toNat_natCast,UInt8.ofNat_toNat,cast_eq] at *;omega)))
    all_goals (try first|(show (_:Int) = _;omega)|(show tupSV _ = _;with_unfolding_all rfl)|((first|show (_:Nat) ≤ _|show (_:Nat) ≤ _ ∧ (_:Nat) ≤ _|show (_:Int) ≤ _ ∧ (_:Int) ≤ _ ∧ (_:Int) ≤ _ ∧ (_:Int) ≤ _);(simp <;> omega)))
    all_goals (first | rfl | omega | (unfold InI64; omega) | trace_state)
end Go.Vc

namespace Go.Vc
open Go.Proofs
set_option maxRecDepth 10000
set_option maxHeartbeats 4000000
theorem fst_cons (s : List UInt8) (f : Bool) {i : Nat} (h : i < (sgn s).length) : fstP s f ((sgn s).drop i) = if 0 < mkN (s.drop ((sgn s).getD i 0)) f then (sgn s).getD i 0 else fstP s f ((sgn s).drop (i + 1)) := by
  rw [List.drop_eq_getElem_cons h, fstP]
  simp [List.getD, List.getElem?_eq_getElem h]
instance lText (s : List UInt8) (f : Bool) : FnM BB 22 [.loc 0 0, .bool f] [(0, .box [.str s])] (s ≠ [] ∧ s.length ≤ 50000) (.agg [.int .i64 3, .str [], .nils, .bool false, .str (decF (s.take (txN s f)) false)]) [(0, .box [.str (s.drop (txN s f))])] := by
  refine FnM.intro (N := 41) [0, 1, 2, 3, 4, 5, 6, 8, 19, 20, 34] [(4, [0, 0, 0, 0, 0, 0, 0, 6, 6, 6, 6, 6, 6, 6, 6, 6])] 1 Tryd.call22 Tryd.func22 rfl rfl (by kernel_rfl) (fun hpre => ?_)
  obtain ⟨p1, p2⟩ := hpre
  have hb := txN_le s f p1
  have hs := txN_sg s f
  repeat' ((conv => whnf);first|(with_reducible first|rfl|exact absTF|exact absFT)|exact True.intro|intro _|refine And.intro ?_ ?_|refine Fin.mk ?_|refine W1 rfl ?_ ?_|refine W2 rfl ?_ ?_|refine W3 rfl ?_ ?_|refine W4 ?_ ?_|refine W5 rfl ?_ ?_|refine W6 ?_ ?_|refine AppN.mk ?_|refine X1 (W1 rfl ?_ ?_)|refine X1 (W2 rfl ?_ ?_)|refine X2 (W7 rfl ?_ ?_)|refine X3 (W7 rfl ?_ ?_)|refine X4 (W7 rfl ?_ ?_)|refine X5 (W7 rfl ?_ ?_))
  all_goals (try (conv => whnf))
  all_goals (try first|exact Ob.mk (u8_bnd _)|(refine Ob.mk ?_;first|exact True.intro|assumption|omega|(try simp only [ZA,ZB,ZC,ZD,ZE,ZF,ZG,ZH,ZI,ZJ,ZK,ZL,ZM,ZN,ZO,Int.toNat_natCast,UInt8.ofNat_toNat,cast_eq] at *;omega)))
  all_goals (try first|(show (_:Int) = _;omega)|(show tupSV _ = _;with_unfolding_all rfl)|((first|show (_:Nat) ≤ _|show (_:Nat) ≤ _ ∧ (_:Nat) ≤ _|show (_:Int) ≤ _ ∧ (_:Int) ≤ _ ∧ (_:Int) ≤ _ ∧ (_:Int) ≤ _);(simp <;> omega)))
  refine RangeStop.mk (α := Unit) ⟨by omega⟩ rfl (fun _ => [(0, .box [.str s])]) 40 (fun i _ => txN s f = fstP s f ((sgn s).drop i)) () (by rw [hs]; rfl) ?_ (fun i a hC hi => ?_) (fun a hC => ?_)
  · repeat' ((conv => whnf);first|(with_reducible first|rfl|exact absTF|exact absFT)|exact True.intro|intro _|refine And.intro ?_ ?_|refine Fin.mk ?_|refine W1 rfl ?_ ?_|refine W2 rfl ?_ ?_|refine W3 rfl ?_ ?_|refine W4 ?_ ?_|refine W5 rfl ?_ ?_|refine W6 ?_ ?_|refine AppN.mk ?_|refine X1 (W1 rfl ?_ ?_)|refine X1 (W2 rfl ?_ ?_)|refine X2 (W7 rfl ?_ ?_)|refine X3 (W7 rfl ?_ ?_)|refine X4 (W7 rfl ?_ ?_)|refine X5 (W7 rfl ?_ ?_))
    all_goals (try (conv => whnf))
    all_goals (try first|exact Ob.mk (u8_bnd _)|(refine Ob.mk ?_;first|exact True.intro|assumption|omega|(try simp only [ZA,ZB,ZC,ZD,ZE,ZF,ZG,ZH,ZI,ZJ,ZK,ZL,ZM,ZN,ZO,Int.toNat_natCast,UInt8.ofNat_toNat,cast_eq] at *;omega)))
    all_goals (try first|(show (_:Int) = _;omega)|(show tupSV _ = _;with_unfolding_all rfl)|((first|show (_:Nat) ≤ _|show (_:Nat) ≤ _ ∧ (_:Nat) ≤ _|show (_:Int) ≤ _ ∧ (_:Int) ≤ _ ∧ (_:Int) ≤ _ ∧ (_:Int) ≤ _);(simp <;> omega)))
    all_goals trace_state
  · rw [fst_cons s f hi] at hC
    have hg := sgn_bnd s hi
    repeat' ((conv => whnf);first|(with_reducible first|rfl|exact absTF|exact absFT)|exact True.intro|intro _|refine And.intro ?_ ?_|refine Fin.mk ?_|refine W1 rfl ?_ ?_|refine W2 rfl ?_ ?_|refine W3 rfl ?_ ?_|refine W4 ?_ ?_|refine W5 rfl ?_ ?_|refine W6 ?_ ?_|refine AppN.mk ?_|refine X1 (W1 rfl ?_ ?_)|refine X1 (W2 rfl ?_ ?_)|refine X2 (W7 rfl ?_ ?_)|refine X3 (W7 rfl ?_ ?_)|refine X4 (W7 rfl ?_ ?_)|refine X5 (W7 rfl ?_ ?_))
    all_goals (try (conv => whnf))
    all_goals (try first|exact Ob.mk (u8_bnd _)|(refine Ob.mk ?_;first|exact True.intro|assumption|omega|(try simp only [ZA,ZB,ZC,ZD,ZE,ZF,ZG,ZH,ZI,ZJ,ZK,ZL,ZM,ZN,ZO,Int.toNat_natCast,UInt8.ofNat_toNat,cast_eq] at *;omega)))
    all_goals (try first|(show (_:Int) = _;omega)|(show tupSV _ = _;with_unfolding_all rfl)|((first|show (_:Nat) ≤ _|show (_:Nat) ≤ _ ∧ (_:Nat) ≤ _|show (_:Int) ≤ _ ∧ (_:Int) ≤ _ ∧ (_:Int) ≤ _ ∧ (_:Int) ≤ _);(simp <;> omega)))
    all_goals (try (first | (exact rfl) | (rename_i hx; exact absFT hx) | (rename_i hx; exact absTF hx)))
    all_goals (try simp only [Int.toNat_natCast] at *)
    · rw [hC, if_pos (of_decide_eq_true ‹decide (mkN (List.drop ((sgn s).getD i 0) s) f > 0) = true›)]
    · rw [hC, if_pos (of_decide_eq_true ‹decide (mkN (List.drop ((sgn s).getD i 0) s) f > 0) = true›)]
    · refine Rnd.mk ⟨(), by rw [hC, if_neg (of_decide_eq_false ‹decide (mkN (List.drop ((sgn s).getD i 0) s) f > 0) = false›)], ?_⟩
      repeat' ((conv => whnf);first|(with_reducible first|rfl|exact absTF|exact absFT)|exact True.intro|intro _|refine And.intro ?_ ?_|refine Fin.mk ?_|refine W1 rfl ?_ ?_|refine W2 rfl ?_ ?_|refine W3 rfl ?_ ?_|refine W4 ?_ ?_|refine W5 rfl ?_ ?_|refine W6 ?_ ?_|refine AppN.mk ?_|refine X1 (W1 rfl ?_ ?_)|refine X1 (W2 rfl ?_ ?_)|refine X2 (W7 rfl ?_ ?_)|refine X3 (W7 rfl ?_ ?_)|refine X4 (W7 rfl ?_ ?_)|refine X5 (W7 rfl ?_ ?_))
      all_goals (try (conv => whnf))
      all_goals (try first|exact Ob.mk (u8_bnd _)|(refine Ob.mk ?_;first|exact True.intro|assumption|omega|(try simp only [ZA,ZB,ZC,ZD,ZE,ZF,ZG,ZH,ZI,ZJ,ZK,ZL,ZM,ZN,ZO,Int.toNat_natCast,UInt8.ofNat_toNat,cast_eq] at *;omega)))
      all_goals (try first|(show (_:Int) = _;omega)|(show tupSV _ = _;with_unfolding_all rfl)|((first|show (_:Nat) ≤ _|show (_:Nat) ≤ _ ∧ (_:Nat) ≤ _|show (_:Int) ≤ _ ∧ (_:Int) ≤ _ ∧ (_:Int) ≤ _ ∧ (_:Int) ≤ _);(simp <;> omega)))
      all_goals (first | rfl | omega | trace_state)
  · have hC : txN s f = s.length := by rw [hC, List.drop_length]; rfl
    repeat' ((conv => whnf);first|(with_reducible first|rfl|exact absTF|exact absFT)|exact True.intro|intro _|refine And.intro ?_ ?_|refine Fin.mk ?_|refine W1 rfl ?_ ?_|refine W2 rfl ?_ ?_|refine W3 rfl ?_ ?_|refine W4 ?_ ?_|refine W5 rfl ?_ ?_|refine W6 ?_ ?_|refine AppN.mk ?_|refine X1 (W1 rfl ?_ ?_)|refine X1 (W2 rfl ?_ ?_)|refine X2 (W7 rfl ?_ ?_)|refine X3 (W7 rfl ?_ ?_)|refine X4 (W7 rfl ?_ ?_)|refine X5 (W7 rfl ?_ ?_))
    all_goals (try (conv => whnf))
    all_goals (try first|exact Ob.mk (u8_bnd _)|(refine Ob.mk ?_;first|exact True.intro|assumption|omega|(try simp only [ZA,ZB,ZC,ZD,ZE,ZF,ZG,ZH,ZI,ZJ,ZK,ZL,ZM,ZN,ZO,Int.toNat_natCast,UInt8.ofNat_toNat,cast_eq] at *;omega)))
    all_goals (try first|(show (_:Int) = _;omega)|(show tupSV _ = _;with_unfolding_all rfl)|((first|show (_:Nat) ≤ _|show (_:Nat) ≤ _ ∧ (_:Nat) ≤ _|show (_:Int) ≤ _ ∧ (_:Int) ≤ _ ∧ (_:Int) ≤ _ ∧ (_:Int) ≤ _);(simp <;> omega)))
    all_goals (try rw [hC, Int.toNat_natCast])
    all_goals trace_state
theorem mk_none (s : List UInt8) (f : Bool) (h0 : s ≠ []) (h : (mkN s f == 0) = true) : datP f s = ((3, [], [], false, decF (s.take (txN s f)) false), s.drop (txN s f)) := datP_txt f s h0 (by simpa using h)
instance lData (s : List UInt8) (f : Bool) : FnM BB 13 [.loc 0 0, .bool f] [(0, .box [.str s])] (s.length ≤ 50000) (.agg [.int .i64 (datP f s).1.1, .str (datP f s).1.2.1, .own 1, .bool (datP f s).1.2.2.2.1, .str (datP f s).1.2.2.2.2]) [(0, .box [.str (datP f s).2]), (1, .own attrTy (datP f s).1.2.2.1)] := by
  refine FnM.intro (N := 34) [0, 1, 4, 5, 6, 7, 12, 24, 31] [] 1 Tryd.call13 Tryd.func13 rfl rfl (by kernel_rfl) (fun hpre => ?_)
  repeat' ((conv => whnf);first|(with_reducible first|rfl|exact absTF|exact absFT)|exact True.intro|intro _|refine And.intro ?_ ?_|refine Fin.mk ?_|refine W1 rfl ?_ ?_|refine W2 rfl ?_ ?_|refine W3 rfl ?_ ?_|refine W4 ?_ ?_|refine W5 rfl ?_ ?_|refine W6 ?_ ?_|refine AppN.mk ?_|refine X1 (W1 rfl ?_ ?_)|refine X1 (W2 rfl ?_ ?_)|refine X2 (W7 rfl ?_ ?_)|refine X3 (W7 rfl ?_ ?_)|refine X4 (W7 rfl ?_ ?_)|refine X5 (W7 rfl ?_ ?_))
  all_goals (try (conv => whnf))
  all_goals (try first|exact Ob.mk (u8_bnd _)|(refine Ob.mk ?_;first|exact True.intro|assumption|omega|(try simp only [ZA,ZB,ZC,ZD,ZE,ZF,ZG,ZH,ZI,ZJ,ZK,ZL,ZM,ZN,ZO,Int.toNat_natCast,UInt8.ofNat_toNat,cast_eq] at *;omega)))
  all_goals (try first|(show (_:Int) = _;omega)|(show tupSV _ = _;with_unfolding_all rfl)|((first|show (_:Nat) ≤ _|show (_:Nat) ≤ _ ∧ (_:Nat) ≤ _|show (_:Int) ≤ _ ∧ (_:Int) ≤ _ ∧ (_:Int) ≤ _ ∧ (_:Int) ≤ _);(simp <;> omega)))
  refine LoopStop.mk (α := List UInt8) (fun _ => []) (fun x => [(0, .box [.str x])]) 40 (fun x => x.length ≤ s.length ∧ datP f x = datP f s) (fun x => x.length) s ⟨by omega, rfl⟩ ?_ (fun x hx => ?_)
  · repeat' ((conv => whnf);first|(with_reducible first|rfl|exact absTF|exact absFT)|exact True.intro|intro _|refine And.intro ?_ ?_|refine Fin.mk ?_|refine W1 rfl ?_ ?_|refine W2 rfl ?_ ?_|refine W3 rfl ?_ ?_|refine W4 ?_ ?_|refine W5 rfl ?_ ?_|refine W6 ?_ ?_|refine AppN.mk ?_|refine X1 (W1 rfl ?_ ?_)|refine X1 (W2 rfl ?_ ?_)|refine X2 (W7 rfl ?_ ?_)|refine X3 (W7 rfl ?_ ?_)|refine X4 (W7 rfl ?_ ?_)|refine X5 (W7 rfl ?_ ?_))
    all_goals (try (conv => whnf))
    all_goals (try first|exact Ob.mk (u8_bnd _)|(refine Ob.mk ?_;first|exact True.intro|assumption|omega|(try simp only [ZA,ZB,ZC,ZD,ZE,ZF,ZG,ZH,ZI,ZJ,ZK,ZL,ZM,ZN,ZO,Int.toNat_natCast,UInt8.ofNat_toNat,cast_eq] at *;omega)))
    all_goals (try first|(show (_:Int) = _;omega)|(show tupSV _ = _;with_unfolding_all rfl)|((first|show (_:Nat) ≤ _|show (_:Nat) ≤ _ ∧ (_:Nat) ≤ _|show (_:Int) ≤ _ ∧ (_:Int) ≤ _ ∧ (_:Int) ≤ _ ∧ (_:Int) ≤ _);(simp <;> omega)))
    all_goals (first | rfl | trace_state)
  · obtain ⟨h1, h2⟩ := hx
    have hb := mkN_all x f
    have hn : (x != []) = false → datP f s = (tok0, []) := fun h => by
      have : x = [] := by simpa using h
      rw [← h2, this]; rfl
    have hx0 : (x != []) = true → x ≠ [] := fun h => by simpa using h
    have ht : (x != []) = true → (mkN x f == 0) = true → datP f s = ((3, [], [], false, decF (x.take (txN x f)) false), x.drop (txN x f)) := fun h h' => by
      rw [← h2]; exact mk_none x f (hx0 h) h'
    have ho : (x != []) = true → (mkN x f == 0) = false → mkO x f = true → datP f s = (mkT x f, x.drop (mkN x f).toNat) := fun h h' h'' => by
      rw [← h2]; exact datP_ok f x (hx0 h) (by simpa using h') h''
    have hs : (x != []) = true → (mkN x f == 0) = false → mkO x f = false → datP f x = datP f (x.drop (mkN x f).toNat) := fun h h' h'' => datP_step f x (hx0 h) (by simpa using h') h''
    repeat' ((conv => whnf);first|(with_reducible first|rfl|exact absTF|exact absFT)|exact True.intro|intro _|refine And.intro ?_ ?_|refine Fin.mk ?_|refine W1 rfl ?_ ?_|refine W2 rfl ?_ ?_|refine W3 rfl ?_ ?_|refine W4 ?_ ?_|refine W5 rfl ?_ ?_|refine W6 ?_ ?_|refine AppN.mk ?_|refine X1 (W1 rfl ?_ ?_)|refine X1 (W2 rfl ?_ ?_)|refine X2 (W7 rfl ?_ ?_)|refine X3 (W7 rfl ?_ ?_)|refine X4 (W7 rfl ?_ ?_)|refine X5 (W7 rfl ?_ ?_))
    all_goals (try (conv => whnf))
    all_goals (try first|exact Ob.mk (u8_bnd _)|(refine Ob.mk ?_;first|exact True.intro|assumption|omega|(try simp only [ZA,ZB,ZC,ZD,ZE,ZF,ZG,ZH,ZI,ZJ,ZK,ZL,ZM,ZN,ZO,Int.toNat_natCast,UInt8.ofNat_toNat,cast_eq] at *;omega)))
    all_goals (try first|(show (_:Int) = _;omega)|(show tupSV _ = _;with_unfolding_all rfl)|((first|show (_:Nat) ≤ _|show (_:Nat) ≤ _ ∧ (_:Nat) ≤ _|show (_:Int) ≤ _ ∧ (_:Int) ≤ _ ∧ (_:Int) ≤ _ ∧ (_:Int) ≤ _);(simp <;> omega)))
    all_goals (try (have q := hn ‹_›))
    all_goals (try (have q := ht ‹_› ‹_›))
    all_goals (try (have q := ho ‹_› ‹_› ‹_›))
    all_goals (try (have hnil : x = [] := by simpa using ‹(!x == []) = false›))
    all_goals (first | (rw [q]; done) | (rw [q]; rfl) | omega | exact ⟨by omega, by omega⟩ | exact ⟨hx0 ‹_›, by omega⟩ | exact hx0 ‹_› | (rw [q, hnil]; done) | (rw [q, hnil]; rfl) | skip)
    have h0 : x ≠ [] := hx0 ‹_›
    have hz : mkN x f ≠ 0 := by simpa using ‹(mkN x f == 0) = false›
    have hp := List.length_pos_iff.mpr h0
    refine Rnd.mk ⟨x.drop (mkN x f).toNat, ⟨by rw [List.length_drop]; omega, by rw [← h2]; exact (hs ‹_› ‹_› ‹_›).symm⟩, by rw [List.length_drop]; omega, ?_⟩
    repeat' ((conv => whnf);first|(with_reducible first|rfl|exact absTF|exact absFT)|exact True.intro|intro _|refine And.intro ?_ ?_|refine Fin.mk ?_|refine W1 rfl ?_ ?_|refine W2 rfl ?_ ?_|refine W3 rfl ?_ ?_|refine W4 ?_ ?_|refine W5 rfl ?_ ?_|refine W6 ?_ ?_|refine AppN.mk ?_|refine X1 (W1 rfl ?_ ?_)|refine X1 (W2 rfl ?_ ?_)|refine X2 (W7 rfl ?_ ?_)|refine X3 (W7 rfl ?_ ?_)|refine X4 (W7 rfl ?_ ?_)|refine X5 (W7 rfl ?_ ?_))
    all_goals (try (conv => whnf))
    all_goals (try first|exact Ob.mk (u8_bnd _)|(refine Ob.mk ?_;first|exact True.intro|assumption|omega|(try simp only [ZA,ZB,ZC,ZD,ZE,ZF,ZG,ZH,ZI,ZJ,ZK,ZL,ZM,ZN,ZO,Int.toNat_natCast,UInt8.ofNat_toNat,cast_eq] at *;omega)))
    all_goals (try first|(show (_:Int) = _;omega)|(show tupSV _ = _;with_unfolding_all rfl)|((first|show (_:Nat) ≤ _|show (_:Nat) ≤ _ ∧ (_:Nat) ≤ _|show (_:Int) ≤ _ ∧ (_:Int) ≤ _ ∧ (_:Int) ≤ _ ∧ (_:Int) ≤ _);(simp <;> omega)))
    all_goals (first | rfl | omega | trace_state)
end Go.Vc

namespace Go.Vc
open Go.Proofs
set_option maxRecDepth 10000
set_option maxHeartbeats 4000000
instance lNew (s : List UInt8) : FnM BB 8 [.str s] [] True (.loc 0 0) [(0, .box [.str s])] := by
  refine FnM.intro (N := 6) [0, 2] [] 0 Tryd.call8 Tryd.func8 rfl rfl (by kernel_rfl) (fun hpre => ?_)
  repeat' ((conv => whnf);first|(with_reducible first|rfl|exact absTF|exact absFT)|exact True.intro|intro _|refine And.intro ?_ ?_|refine Fin.mk ?_|refine W1 rfl ?_ ?_|refine W2 rfl ?_ ?_|refine W3 rfl ?_ ?_|refine W4 ?_ ?_|refine W5 rfl ?_ ?_|refine W6 ?_ ?_|refine AppN.mk ?_|refine X1 (W1 rfl ?_ ?_)|refine X1 (W2 rfl ?_ ?_)|refine X2 (W7 rfl ?_ ?_)|refine X3 (W7 rfl ?_ ?_)|refine X4 (W7 rfl ?_ ?_)|refine X5 (W7 rfl ?_ ?_))
  all_goals (try (conv => whnf))
  all_goals (try first|exact Ob.mk (u8_bnd _)|(refine Ob.mk ?_;first|exact True.intro|assumption|omega|(try simp only [ZA,ZB,ZC,ZD,ZE,ZF,ZG,ZH,ZI,ZJ,ZK,ZL,ZM,ZN,ZO,Int.toNat_natCast,UInt8.ofNat_toNat,cast_eq] at *;omega)))
  all_goals (try first|(show (_:Int) = _;omega)|(show tupSV _ = _;with_unfolding_all rfl)|((first|show (_:Nat) ≤ _|show (_:Nat) ≤ _ ∧ (_:Nat) ≤ _|show (_:Int) ≤ _ ∧ (_:Int) ≤ _ ∧ (_:Int) ≤ _ ∧ (_:Int) ≤ _);(simp <;> omega)))
  all_goals (first | rfl | trace_state)
instance lLeft (s : List UInt8) : FnM BB 10 [.loc 0 0] [(0, .box [.str s])] True (.str s) [(0, .box [.str s])] := by
  refine FnM.intro (N := 7) [0, 2] [] 1 Tryd.call10 Tryd.func10 rfl rfl (by kernel_rfl) (fun hpre => ?_)
  repeat' ((conv => whnf);first|(with_reducible first|rfl|exact absTF|exact absFT)|exact True.intro|intro _|refine And.intro ?_ ?_|refine Fin.mk ?_|refine W1 rfl ?_ ?_|refine W2 rfl ?_ ?_|refine W3 rfl ?_ ?_|refine W4 ?_ ?_|refine W5 rfl ?_ ?_|refine W6 ?_ ?_|refine AppN.mk ?_|refine X1 (W1 rfl ?_ ?_)|refine X1 (W2 rfl ?_ ?_)|refine X2 (W7 rfl ?_ ?_)|refine X3 (W7 rfl ?_ ?_)|refine X4 (W7 rfl ?_ ?_)|refine X5 (W7 rfl ?_ ?_))
  all_goals (try (conv => whnf))
  all_goals (try first|exact Ob.mk (u8_bnd _)|(refine Ob.mk ?_;first|exact True.intro|assumption|omega|(try simp only [ZA,ZB,ZC,ZD,ZE,ZF,ZG,ZH,ZI,ZJ,ZK,ZL,ZM,ZN,ZO,Int.toNat_natCast,UInt8.ofNat_toNat,cast_eq] at *;omega)))
  all_goals (try first|(show (_:Int) = _;omega)|(show tupSV _ = _;with_unfolding_all rfl)|((first|show (_:Nat) ≤ _|show (_:Nat) ≤ _ ∧ (_:Nat) ≤ _|show (_:Int) ≤ _ ∧ (_:Int) ≤ _ ∧ (_:Int) ≤ _ ∧ (_:Int) ≤ _);(simp <;> omega)))
  all_goals (first | rfl | trace_state)
instance lNext (s l : List UInt8) (f : Bool) : FnM BB 9 [.loc 0 0, .int .i64 0, .str l, .bool f] [(0, .box [.str s])] (s.length ≤ 50000) (.agg [.int .i64 (datP f s).1.1, .str (datP f s).1.2.1, .own 1, .bool (datP f s).1.2.2.2.1, .str (datP f s).1.2.2.2.2]) [(0, .box [.str (datP f s).2]), (1, .own attrTy (datP f s).1.2.2.1)] := by
  refine FnM.intro (N := 50) [0, 1, 2, 3, 8, 9, 10, 11, 12, 15, 27, 32] [] 1 Tryd.call9 Tryd.func9 rfl rfl (by kernel_rfl) (fun hpre => ?_)
  repeat' ((conv => whnf);first|(with_reducible first|rfl|exact absTF|exact absFT)|exact True.intro|(intro hq; (try simp only [ZA,ZB,ZC,ZD,ZE,ZF,ZG,ZH,ZI,ZJ,ZK,ZL,ZM,ZN,ZO,Bool.and_eq_false_iff,Bool.or_eq_false_iff,ge_iff_le,gt_iff_lt,Int.toNat_natCast,UInt8.ofNat_toNat,cast_eq] at hq); (try (exfalso; first | omega | exact hq trivial | exact absurd hq (by decide))))|refine And.intro ?_ ?_|refine Fin.mk ?_|refine W1 rfl ?_ ?_|refine W2 rfl ?_ ?_|refine W3 rfl ?_ ?_|refine W4 ?_ ?_|refine W5 rfl ?_ ?_|refine W6 ?_ ?_|refine AppN.mk ?_|refine X1 (W1 rfl ?_ ?_)|refine X1 (W2 rfl ?_ ?_)|refine X2 (W7 rfl ?_ ?_)|refine X3 (W7 rfl ?_ ?_)|refine X4 (W7 rfl ?_ ?_)|refine X5 (W7 rfl ?_ ?_))
  all_goals (try (conv => whnf))
  all_goals (try first|exact Ob.mk (u8_bnd _)|(refine Ob.mk ?_;first|exact True.intro|assumption|omega|(try simp only [ZA,ZB,ZC,ZD,ZE,ZF,ZG,ZH,ZI,ZJ,ZK,ZL,ZM,ZN,ZO,Int.toNat_natCast,UInt8.ofNat_toNat,cast_eq] at *;omega)))
  all_goals (try first|(show (_:Int) = _;omega)|(show tupSV _ = _;with_unfolding_all rfl)|((first|show (_:Nat) ≤ _|show (_:Nat) ≤ _ ∧ (_:Nat) ≤ _|show (_:Int) ≤ _ ∧ (_:Int) ≤ _ ∧ (_:Int) ≤ _ ∧ (_:Int) ≤ _);(simp <;> omega)))
  all_goals (first | rfl | (exfalso; exact absurd ‹((0 : Int) == 0) = false› (by decide)) | trace_state)
theorem datP_end (s : List UInt8) (h : (datP false s).1.1 ≠ 0) : s ≠ [] := fun q => by rw [q] at h; exact h rfl
instance lAll (s : List UInt8) : FnM BB 4 [.str s] [] (s.length ≤ 50000) (.own 0) [(0, .own tokTy (allP s))] := by
  refine FnM.intro (N := 18) [0, 2, 3, 4, 5, 16] [] 0 Tryd.call4 Tryd.func4 rfl rfl (by kernel_rfl) (fun hpre => ?_)
  repeat' ((conv => whnf);first|(with_reducible first|rfl|exact absTF|exact absFT)|exact True.intro|intro _|refine And.intro ?_ ?_|refine Fin.mk ?_|refine W1 rfl ?_ ?_|refine W2 rfl ?_ ?_|refine W3 rfl ?_ ?_|refine W4 ?_ ?_|refine W5 rfl ?_ ?_|refine W6 ?_ ?_|refine AppN.mk ?_|refine X1 (W1 rfl ?_ ?_)|refine X1 (W2 rfl ?_ ?_)|refine X2 (W7 rfl ?_ ?_)|refine X3 (W7 rfl ?_ ?_)|refine X4 (W7 rfl ?_ ?_)|refine X5 (W7 rfl ?_ ?_))
  all_goals (try (conv => whnf))
  all_goals (try first|exact Ob.mk (u8_bnd _)|(refine Ob.mk ?_;first|exact True.intro|assumption|omega|(try simp only [ZA,ZB,ZC,ZD,ZE,ZF,ZG,ZH,ZI,ZJ,ZK,ZL,ZM,ZN,ZO,Int.toNat_natCast,UInt8.ofNat_toNat,cast_eq] at *;omega)))
  all_goals (try first|(show (_:Int) = _;omega)|(show tupSV _ = _;with_unfolding_all rfl)|((first|show (_:Nat) ≤ _|show (_:Nat) ≤ _ ∧ (_:Nat) ≤ _|show (_:Int) ≤ _ ∧ (_:Int) ≤ _ ∧ (_:Int) ≤ _ ∧ (_:Int) ≤ _);(simp <;> omega)))
  refine LoopStop.mk (α := Nat × List UInt8 × List TokD) (fun a => [(3, .own 30)]) (fun a => [(0, .box [.str a.2.1]), (30, .own tokTy a.2.2)]) 40 (fun a => a.2.1.length < a.1 ∧ a.2.1.length ≤ s.length ∧ a.2.2.length + a.1 ≤ s.length + 1 ∧ a.2.2 ++ allF a.1 a.2.1 = allP s) (fun a => a.1) (s.length + 1, s, []) ⟨by simp, by simp, by simp, rfl⟩ ?_ (fun a ha => ?_)
  · repeat' ((conv => whnf);first|(with_reducible first|rfl|exact absTF|exact absFT)|exact True.intro|intro _|refine And.intro ?_ ?_|refine Fin.mk ?_|refine W1 rfl ?_ ?_|refine W2 rfl ?_ ?_|refine W3 rfl ?_ ?_|refine W4 ?_ ?_|refine W5 rfl ?_ ?_|refine W6 ?_ ?_|refine AppN.mk ?_|refine X1 (W1 rfl ?_ ?_)|refine X1 (W2 rfl ?_ ?_)|refine X2 (W7 rfl ?_ ?_)|refine X3 (W7 rfl ?_ ?_)|refine X4 (W7 rfl ?_ ?_)|refine X5 (W7 rfl ?_ ?_))
    all_goals (try (conv => whnf))
    all_goals (try first|exact Ob.mk (u8_bnd _)|(refine Ob.mk ?_;first|exact True.intro|assumption|omega|(try simp only [ZA,ZB,ZC,ZD,ZE,ZF,ZG,ZH,ZI,ZJ,ZK,ZL,ZM,ZN,ZO,Int.toNat_natCast,UInt8.ofNat_toNat,cast_eq] at *;omega)))
    all_goals (try first|(show (_:Int) = _;omega)|(show tupSV _ = _;with_unfolding_all rfl)|((first|show (_:Nat) ≤ _|show (_:Nat) ≤ _ ∧ (_:Nat) ≤ _|show (_:Int) ≤ _ ∧ (_:Int) ≤ _ ∧ (_:Int) ≤ _ ∧ (_:Int) ≤ _);(simp <;> omega)))
    all_goals (first | rfl | trace_state)
  · obtain ⟨k, x, l⟩ := a
    obtain ⟨h1, h2, h3, h4⟩ := ha
    dsimp only at h1 h2 h3 h4
    obtain ⟨k, rfl⟩ : ∃ k', k = k' + 1 := ⟨k - 1, by omega⟩
    repeat' ((conv => whnf);first|(with_reducible first|rfl|exact absTF|exact absFT)|exact True.intro|intro _|refine And.intro ?_ ?_|refine Fin.mk ?_|refine W1 rfl ?_ ?_|refine W2 rfl ?_ ?_|refine W3 rfl ?_ ?_|refine W4 ?_ ?_|refine W5 rfl ?_ ?_|refine W6 ?_ ?_|refine AppN.mk ?_|refine X1 (W1 rfl ?_ ?_)|refine X1 (W2 rfl ?_ ?_)|refine X2 (W7 rfl ?_ ?_)|refine X3 (W7 rfl ?_ ?_)|refine X4 (W7 rfl ?_ ?_)|refine X5 (W7 rfl ?_ ?_))
    all_goals (try (conv => whnf))
    all_goals (try first|exact Ob.mk (u8_bnd _)|(refine Ob.mk ?_;first|exact True.intro|assumption|omega|(try simp only [ZA,ZB,ZC,ZD,ZE,ZF,ZG,ZH,ZI,ZJ,ZK,ZL,ZM,ZN,ZO,Int.toNat_natCast,UInt8.ofNat_toNat,cast_eq] at *;omega)))
    all_goals (try first|(show (_:Int) = _;omega)|(show tupSV _ = _;with_unfolding_all rfl)|((first|show (_:Nat) ≤ _|show (_:Nat) ≤ _ ∧ (_:Nat) ≤ _|show (_:Int) ≤ _ ∧ (_:Int) ≤ _ ∧ (_:Int) ≤ _ ∧ (_:Int) ≤ _);(simp <;> omega)))
    · rw [← h4, allF_end k x (by simpa using ‹((datP false (k + 1, x, l).2.1).1.1 == 0) = true›)]
      rfl
    · have hz : (datP false x).1.1 ≠ 0 := by simpa using ‹((datP false (k + 1, x, l).2.1).1.1 == 0) = false›
      have hl := datP_len false x (datP_end x hz)
      refine Rnd.mk ⟨(k, (datP false x).2, l ++ [(datP false x).1]), ⟨by simp only; omega, by simp only; omega, by simp only [List.length_append, List.length_cons, List.length_nil]; omega, by rw [← h4, allF_step k x hz]; simp⟩, by simp only; omega, ?_⟩
      repeat' ((conv => whnf);first|(with_reducible first|rfl|exact absTF|exact absFT)|exact True.intro|intro _|refine And.intro ?_ ?_|refine Fin.mk ?_|refine W1 rfl ?_ ?_|refine W2 rfl ?_ ?_|refine W3 rfl ?_ ?_|refine W4 ?_ ?_|refine W5 rfl ?_ ?_|refine W6 ?_ ?_|refine AppN.mk ?_|refine X1 (W1 rfl ?_ ?_)|refine X1 (W2 rfl ?_ ?_)|refine X2 (W7 rfl ?_ ?_)|refine X3 (W7 rfl ?_ ?_)|refine X4 (W7 rfl ?_ ?_)|refine X5 (W7 rfl ?_ ?_))
      all_goals (try (conv => whnf))
      all_goals (try first|exact Ob.mk (u8_bnd _)|(refine Ob.mk ?_;first|exact True.intro|assumption|omega|(try simp only [ZA,ZB,ZC,ZD,ZE,ZF,ZG,ZH,ZI,ZJ,ZK,ZL,ZM,ZN,ZO,Int.toNat_natCast,UInt8.ofNat_toNat,cast_eq] at *;omega)))
      all_goals (try first|(show (_:Int) = _;omega)|(show tupSV _ = _;with_unfolding_all rfl)|((first|show (_:Nat) ≤ _|show (_:Nat) ≤ _ ∧ (_:Nat) ≤ _|show (_:Int) ≤ _ ∧ (_:Int) ≤ _ ∧ (_:Int) ≤ _ ∧ (_:Int) ≤ _);(simp <;> omega)))
      all_goals (first | rfl | omega | trace_state)
end Go.Vc

namespace Go.Vc
open Go.Proofs
set_option maxRecDepth 10000
set_option maxHeartbeats 4000000
def awS : List UInt8 := [120, 60, 47, 116, 105, 116, 108, 101, 62]
def awN : List UInt8 := [116, 105, 116, 108, 101]
theorem aw_ix : ixI (awS.drop 0) [60, 47] = 1 := by decide +kernel
theorem aw_cl : clS (awS.drop 1) awN = true := by decide +kernel
theorem aw_rc : decF (awS.take 1) false = [120] := by decide +kernel
instance lClosing : Fn BB 23 [.str [120, 60, 47, 116, 105, 116, 108, 101, 62], .str [116, 105, 116, 108, 101]] True (.int .i64 1) := by
  refine Fn.intro (N := 26) [0, 1, 4, 5, 6, 12, 22] [] Tryd.call23 Tryd.func23 rfl rfl (by kernel_rfl) (fun hpre => ?_)
  have e1 : ixI (List.drop (Int.toNat 0) [120, 60, 47, 116, 105, 116, 108, 101, 62]) [60, 47] = 1 := aw_ix
  repeat' ((conv => whnf);first|(with_reducible first|rfl|exact absTF|exact absFT)|exact True.intro|intro _|refine And.intro ?_ ?_|refine Fin.mk ?_|refine W1 rfl ?_ ?_|refine W2 rfl ?_ ?_|refine W3 rfl ?_ ?_|refine W4 ?_ ?_|refine W5 rfl ?_ ?_|refine W6 ?_ ?_|refine AppN.mk ?_|refine X1 (W1 rfl ?_ ?_)|refine X1 (W2 rfl ?_ ?_)|refine X2 (W7 rfl ?_ ?_)|refine X3 (W7 rfl ?_ ?_)|refine X4 (W7 rfl ?_ ?_)|refine X5 (W7 rfl ?_ ?_))
  all_goals (try (conv => whnf))
  all_goals (try first|exact Ob.mk (u8_bnd _)|(refine Ob.mk ?_;first|exact True.intro|assumption|omega|(try simp only [ZA,ZB,ZC,ZD,ZE,ZF,ZG,ZH,ZI,ZJ,ZK,ZL,ZM,ZN,ZO,Int.toNat_natCast,UInt8.ofNat_toNat,cast_eq] at *;omega)))
  all_goals (try first|(show (_:Int) = _;omega)|(show tupSV _ = _;with_unfolding_all rfl)|((first|show (_:Nat) ≤ _|show (_:Nat) ≤ _ ∧ (_:Nat) ≤ _|show (_:Int) ≤ _ ∧ (_:Int) ≤ _ ∧ (_:Int) ≤ _ ∧ (_:Int) ≤ _);(simp <;> omega)))
  refine LoopStop.unroll 1 ?_
  repeat' ((conv => whnf);first|(with_reducible first|rfl|exact absTF|exact absFT)|exact True.intro|intro _|refine And.intro ?_ ?_|refine Fin.mk ?_|refine W1 rfl ?_ ?_|refine W2 rfl ?_ ?_|refine W3 rfl ?_ ?_|refine W4 ?_ ?_|refine W5 rfl ?_ ?_|refine W6 ?_ ?_|refine AppN.mk ?_|refine X1 (W1 rfl ?_ ?_)|refine X1 (W2 rfl ?_ ?_)|refine X2 (W7 rfl ?_ ?_)|refine X3 (W7 rfl ?_ ?_)|refine X4 (W7 rfl ?_ ?_)|refine X5 (W7 rfl ?_ ?_))
  all_goals (try (conv => whnf))
  all_goals (try first|exact Ob.mk (u8_bnd _)|(refine Ob.mk ?_;first|exact True.intro|assumption|omega|(try simp only [ZA,ZB,ZC,ZD,ZE,ZF,ZG,ZH,ZI,ZJ,ZK,ZL,ZM,ZN,ZO,Int.toNat_natCast,UInt8.ofNat_toNat,cast_eq] at *;omega)))
  all_goals (try first|(show (_:Int) = _;omega)|(show tupSV _ = _;with_unfolding_all rfl)|((first|show (_:Nat) ≤ _|show (_:Nat) ≤ _ ∧ (_:Nat) ≤ _|show (_:Int) ≤ _ ∧ (_:Int) ≤ _ ∧ (_:Int) ≤ _ ∧ (_:Int) ≤ _);(simp <;> omega)))
  all_goals (try simp only [e1] at *)
  all_goals (try (exfalso; exact absurd ‹decide ((1 : Int) < 0) = true› (by decide)))
  all_goals (try (exact absurd (show clS (List.drop (Int.toNat (0 + 1)) [120, 60, 47, 116, 105, 116, 108, 101, 62]) [116, 105, 116, 108, 101] = true from aw_cl) (by rw [‹clS _ _ = false›]; decide)))
  all_goals (first | decide | trace_state)
instance lFind1 : Fn BB 14 [.str [120, 60, 47, 116, 105, 116, 108, 101, 62], .str [116, 105, 116, 108, 101], .int .i64 1] True (.int .i64 1) := by
  refine Fn.intro (N := 23) [0, 1, 2, 6, 7, 8, 10, 16] [] Tryd.call14 Tryd.func14 rfl rfl (by kernel_rfl) (fun hpre => ?_)
  repeat' ((conv => whnf);first|(with_reducible first|rfl|exact absTF|exact absFT)|exact True.intro|(intro hq; (try simp only [ZA,ZB,ZC,ZD,ZE,ZF,ZG,ZH,ZI,ZJ,ZK,ZL,ZM,ZN,ZO,Bool.and_eq_false_iff,Bool.or_eq_false_iff,ge_iff_le,gt_iff_lt,Int.toNat_natCast,UInt8.ofNat_toNat,cast_eq] at hq); (try (exfalso; first | omega | exact hq trivial | exact absurd hq (by decide))))|refine And.intro ?_ ?_|refine Fin.mk ?_|refine W1 rfl ?_ ?_|refine W2 rfl ?_ ?_|refine W3 rfl ?_ ?_|refine W4 ?_ ?_|refine W5 rfl ?_ ?_|refine W6 ?_ ?_|refine AppN.mk ?_|refine X1 (W1 rfl ?_ ?_)|refine X1 (W2 rfl ?_ ?_)|refine X2 (W7 rfl ?_ ?_)|refine X3 (W7 rfl ?_ ?_)|refine X4 (W7 rfl ?_ ?_)|refine X5 (W7 rfl ?_ ?_))
  all_goals (try (conv => whnf))
  all_goals (try first|exact Ob.mk (u8_bnd _)|(refine Ob.mk ?_;first|exact True.intro|assumption|omega|(try simp only [ZA,ZB,ZC,ZD,ZE,ZF,ZG,ZH,ZI,ZJ,ZK,ZL,ZM,ZN,ZO,Int.toNat_natCast,UInt8.ofNat_toNat,cast_eq] at *;omega)))
  all_goals (try first|(show (_:Int) = _;omega)|(show tupSV _ = _;with_unfolding_all rfl)|((first|show (_:Nat) ≤ _|show (_:Nat) ≤ _ ∧ (_:Nat) ≤ _|show (_:Int) ≤ _ ∧ (_:Int) ≤ _ ∧ (_:Int) ≤ _ ∧ (_:Int) ≤ _);(simp <;> omega)))
  all_goals trace_state
instance lNextA : FnM BB 9 [.loc 0 0, .int .i64 1, .str [116, 105, 116, 108, 101], .bool false] [(0, .box [.str [120, 60, 47, 116, 105, 116, 108, 101, 62]])] True (.agg [.int .i64 3, .str [], .nils, .bool false, .str [120]]) [(0, .box [.str [60, 47, 116, 105, 116, 108, 101, 62]])] := by
  refine FnM.intro (N := 50) [0, 1, 2, 3, 8, 9, 10, 11, 12, 15, 27, 32] [] 1 Tryd.call9 Tryd.func9 rfl rfl (by kernel_rfl) (fun hpre => ?_)
  repeat' ((conv => whnf);first|(with_reducible first|rfl|exact absTF|exact absFT)|exact True.intro|(intro hq; (try simp only [ZA,ZB,ZC,ZD,ZE,ZF,ZG,ZH,ZI,ZJ,ZK,ZL,ZM,ZN,ZO,Bool.and_eq_false_iff,Bool.or_eq_false_iff,ge_iff_le,gt_iff_lt,Int.toNat_natCast,UInt8.ofNat_toNat,cast_eq] at hq); (try (exfalso; first | omega | exact hq trivial | exact absurd hq (by decide))))|refine And.intro ?_ ?_|refine Fin.mk ?_|refine W1 rfl ?_ ?_|refine W2 rfl ?_ ?_|refine W3 rfl ?_ ?_|refine W4 ?_ ?_|refine W5 rfl ?_ ?_|refine W6 ?_ ?_|refine AppN.mk ?_|refine X1 (W1 rfl ?_ ?_)|refine X1 (W2 rfl ?_ ?_)|refine X2 (W7 rfl ?_ ?_)|refine X3 (W7 rfl ?_ ?_)|refine X4 (W7 rfl ?_ ?_)|refine X5 (W7 rfl ?_ ?_))
  all_goals (try (conv => whnf))
  all_goals (try first|exact Ob.mk (u8_bnd _)|(refine Ob.mk ?_;first|exact True.intro|assumption|omega|(try simp only [ZA,ZB,ZC,ZD,ZE,ZF,ZG,ZH,ZI,ZJ,ZK,ZL,ZM,ZN,ZO,Int.toNat_natCast,UInt8.ofNat_toNat,cast_eq] at *;omega)))
  all_goals (try first|(show (_:Int) = _;omega)|(show tupSV _ = _;with_unfolding_all rfl)|((first|show (_:Nat) ≤ _|show (_:Nat) ≤ _ ∧ (_:Nat) ≤ _|show (_:Int) ≤ _ ∧ (_:Int) ≤ _ ∧ (_:Int) ≤ _ ∧ (_:Int) ≤ _);(simp <;> omega)))
  all_goals (first | decide | exact aw_rc | trace_state)
theorem aw_all : allP [97, 60, 98, 62, 99] = [(3, [], [], false, [97]), (1, [98], [], false, []), (3, [], [], false, [99]), (0, [], [], false, [])] := by kernel_rfl
instance lAwake : Fn BB 5 [] True (.bool true) := by
  refine Fn.intro (N := 42) [0, 1, 2, 3] [] Tryd.call5 Tryd.func5 rfl rfl (by kernel_rfl) (fun hpre => ?_)
  repeat' ((conv => whnf);first|(with_reducible first|rfl|exact absTF|exact absFT)|exact True.intro|intro _|refine And.intro ?_ ?_|refine Fin.mk ?_|refine W1 rfl ?_ ?_|refine W2 rfl ?_ ?_|refine W3 rfl ?_ ?_|refine W4 ?_ ?_|refine W5 rfl ?_ ?_|refine W6 ?_ ?_|refine AppN.mk ?_|refine X1 (W1 rfl ?_ ?_)|refine X1 (W2 rfl ?_ ?_)|refine X2 (W7 rfl ?_ ?_)|refine X3 (W7 rfl ?_ ?_)|refine X4 (W7 rfl ?_ ?_)|refine X5 (W7 rfl ?_ ?_))
  all_goals (try (conv => whnf))
  all_goals (try first|exact Ob.mk (u8_bnd _)|(refine Ob.mk ?_;first|exact True.intro|assumption|omega|(try simp only [ZA,ZB,ZC,ZD,ZE,ZF,ZG,ZH,ZI,ZJ,ZK,ZL,ZM,ZN,ZO,Int.toNat_natCast,UInt8.ofNat_toNat,cast_eq] at *;omega)))
  all_goals (try first|(show (_:Int) = _;omega)|(show tupSV _ = _;with_unfolding_all rfl)|((first|show (_:Nat) ≤ _|show (_:Nat) ≤ _ ∧ (_:Nat) ≤ _|show (_:Int) ≤ _ ∧ (_:Int) ≤ _ ∧ (_:Int) ≤ _ ∧ (_:Int) ≤ _);(simp <;> omega)))
  all_goals (try simp only [aw_all] at *)
  all_goals (first | decide | (exfalso; revert ‹_ = !true›; decide +kernel) | trace_state)
end Go.Vc

namespace Go.Vc
open Go.Proofs
set_option maxRecDepth 10000
set_option maxHeartbeats 2000000
abbrev wrB (a b : SV) (q : Bool) : Chunk := .bx (some 49) [a, b, .bool q]
abbrev nilP : SV := .v (.pointer none)
instance eCCa (q : Bool) : FnM BB 47 [.loc 0 0] [(0, wrB nilP .nils q)] True (.tup []) [(0, wrB (.loc 0 0) .nils q)] := by
  refine FnM.intro (N := 20) [0, 6, 19] [] 1 Tryd.call47 Tryd.func47 rfl rfl (by kernel_rfl) (fun hpre => ?_)
  repeat' ((conv => whnf);first|(with_reducible first|rfl|exact absTF|exact absFT)|exact True.intro|intro _|refine And.intro ?_ ?_|refine Fin.mk ?_|refine W1 rfl ?_ ?_|refine W2 rfl ?_ ?_|refine W3 rfl ?_ ?_|refine W4 ?_ ?_|refine W5 rfl ?_ ?_|refine W6 ?_ ?_|refine AppN.mk ?_|refine X1 (W1 rfl ?_ ?_)|refine X1 (W2 rfl ?_ ?_)|refine X2 (W7 rfl ?_ ?_)|refine X3 (W7 rfl ?_ ?_)|refine X4 (W7 rfl ?_ ?_)|refine X5 (W7 rfl ?_ ?_))
  all_goals (try (conv => whnf))
  all_goals (try (exact Ob.mk (by kernel_rfl)))
  all_goals (try first|exact Ob.mk (u8_bnd _)|(refine Ob.mk ?_;first|exact True.intro|assumption|omega|(try simp only [ZA,ZB,ZC,ZD,ZE,ZF,ZG,ZH,ZI,ZJ,ZK,ZL,ZM,ZN,ZO,Int.toNat_natCast,UInt8.ofNat_toNat,cast_eq] at *;omega)))
  all_goals (try first|(show (_:Int) = _;omega)|(show tupSV _ = _;with_unfolding_all rfl)|((first|show (_:Nat) ≤ _|show (_:Nat) ≤ _ ∧ (_:Nat) ≤ _|show (_:Int) ≤ _ ∧ (_:Int) ≤ _ ∧ (_:Int) ≤ _ ∧ (_:Int) ≤ _);(simp <;> omega)))
instance eCCb (q : Bool) : FnM BB 47 [.loc 0 0] [(0, wrB (.loc 0 0) .nils q)] True (.tup []) [(0, wrB (.loc 0 0) .nils q)] := by
  refine FnM.intro (N := 20) [0, 6, 19] [] 1 Tryd.call47 Tryd.func47 rfl rfl (by kernel_rfl) (fun hpre => ?_)
  repeat' ((conv => whnf);first|(with_reducible first|rfl|exact absTF|exact absFT)|exact True.intro|intro _|refine And.intro ?_ ?_|refine Fin.mk ?_|refine W1 rfl ?_ ?_|refine W2 rfl ?_ ?_|refine W3 rfl ?_ ?_|refine W4 ?_ ?_|refine W5 rfl ?_ ?_|refine W6 ?_ ?_|refine AppN.mk ?_|refine X1 (W1 rfl ?_ ?_)|refine X1 (W2 rfl ?_ ?_)|refine X2 (W7 rfl ?_ ?_)|refine X3 (W7 rfl ?_ ?_)|refine X4 (W7 rfl ?_ ?_)|refine X5 (W7 rfl ?_ ?_))
  all_goals (try (conv => whnf))
  all_goals (try first|exact Ob.mk (u8_bnd _)|(refine Ob.mk ?_;first|exact True.intro|assumption|omega|(try simp only [ZA,ZB,ZC,ZD,ZE,ZF,ZG,ZH,ZI,ZJ,ZK,ZL,ZM,ZN,ZO,Int.toNat_natCast,UInt8.ofNat_toNat,cast_eq] at *;omega)))
  all_goals (try first|(show (_:Int) = _;omega)|(show tupSV _ = _;with_unfolding_all rfl)|((first|show (_:Nat) ≤ _|show (_:Nat) ≤ _ ∧ (_:Nat) ≤ _|show (_:Int) ≤ _ ∧ (_:Int) ≤ _ ∧ (_:Int) ≤ _ ∧ (_:Int) ≤ _);(simp <;> omega)))
  all_goals (try (rename_i h; exact absurd h (by decide)))
instance eCCc (q : Bool) (l : List UInt8) : FnM BB 47 [.loc 0 0] [(0, wrB (.loc 0 0) (.own 1) q), (1, .own .byte l)] True (.tup []) [(0, wrB (.loc 0 0) (.own 1) q), (1, .own .byte l)] := by
  refine FnM.intro (N := 20) [0, 6, 19] [] 2 Tryd.call47 Tryd.func47 rfl rfl (by kernel_rfl) (fun hpre => ?_)
  repeat' ((conv => whnf);first|(with_reducible first|rfl|exact absTF|exact absFT)|exact True.intro|intro _|refine And.intro ?_ ?_|refine Fin.mk ?_|refine W1 rfl ?_ ?_|refine W2 rfl ?_ ?_|refine W3 rfl ?_ ?_|refine W4 ?_ ?_|refine W5 rfl ?_ ?_|refine W6 ?_ ?_|refine AppN.mk ?_|refine X1 (W1 rfl ?_ ?_)|refine X1 (W2 rfl ?_ ?_)|refine X2 (W7 rfl ?_ ?_)|refine X3 (W7 rfl ?_ ?_)|refine X4 (W7 rfl ?_ ?_)|refine X5 (W7 rfl ?_ ?_))
  all_goals (try (conv => whnf))
  all_goals (try first|exact Ob.mk (u8_bnd _)|(refine Ob.mk ?_;first|exact True.intro|assumption|omega|(try simp only [ZA,ZB,ZC,ZD,ZE,ZF,ZG,ZH,ZI,ZJ,ZK,ZL,ZM,ZN,ZO,Int.toNat_natCast,UInt8.ofNat_toNat,cast_eq] at *;omega)))
  all_goals (try first|(show (_:Int) = _;omega)|(show tupSV _ = _;with_unfolding_all rfl)|((first|show (_:Nat) ≤ _|show (_:Nat) ≤ _ ∧ (_:Nat) ≤ _|show (_:Int) ≤ _ ∧ (_:Int) ≤ _ ∧ (_:Int) ≤ _ ∧ (_:Int) ≤ _);(simp <;> omega)))
  all_goals (try (rename_i h; exact absurd h (by decide)))
instance eWSa (q : Bool) (x : List UInt8) : FnM BB 32 [.loc 0 0, .str x] [(0, wrB nilP .nils q)] (x ≠ [] ∧ x.length ≤ 1000000) (.tup [.int .i64 x.length, .v .nilIface]) [(0, wrB (.loc 0 0) (.own 1) q), (1, .own .byte x)] := by
  refine FnM.intro (N := 19) [0, 1, 4, 5] [] 1 Tryd.call32 Tryd.func32 rfl rfl (by kernel_rfl) (fun hpre => ?_)
  obtain ⟨hp1, hp2⟩ := hpre
  repeat' ((conv => whnf);first|(with_reducible first|rfl|exact absTF|exact absFT)|exact True.intro|intro _|refine And.intro ?_ ?_|refine Fin.mk ?_|refine W1 rfl ?_ ?_|refine W2 rfl ?_ ?_|refine W3 rfl ?_ ?_|refine W4 ?_ ?_|refine W5 rfl ?_ ?_|refine W6 ?_ ?_|refine AppN.mk ?_|refine X1 (W1 rfl ?_ ?_)|refine X1 (W2 rfl ?_ ?_)|refine X2 (W7 rfl ?_ ?_)|refine X3 (W7 rfl ?_ ?_)|refine X4 (W7 rfl ?_ ?_)|refine X5 (W7 rfl ?_ ?_))
  all_goals (try (conv => whnf))
  all_goals (try first|exact Ob.mk (u8_bnd _)|(refine Ob.mk ?_;first|exact True.intro|assumption|omega|(try simp only [ZA,ZB,ZC,ZD,ZE,ZF,ZG,ZH,ZI,ZJ,ZK,ZL,ZM,ZN,ZO,Int.toNat_natCast,UInt8.ofNat_toNat,cast_eq] at *;omega)))
  all_goals (try first|(show (_:Int) = _;omega)|(show tupSV _ = _;with_unfolding_all rfl)|((first|show (_:Nat) ≤ _|show (_:Nat) ≤ _ ∧ (_:Nat) ≤ _|show (_:Int) ≤ _ ∧ (_:Int) ≤ _ ∧ (_:Int) ≤ _ ∧ (_:Int) ≤ _);(simp <;> omega)))
instance eWSb (q : Bool) (x : List UInt8) : FnM BB 32 [.loc 0 0, .str x] [(0, wrB (.loc 0 0) .nils q)] (x ≠ [] ∧ x.length ≤ 1000000) (.tup [.int .i64 x.length, .v .nilIface]) [(0, wrB (.loc 0 0) (.own 1) q), (1, .own .byte x)] := by
  refine FnM.intro (N := 19) [0, 1, 4, 5] [] 1 Tryd.call32 Tryd.func32 rfl rfl (by kernel_rfl) (fun hpre => ?_)
  obtain ⟨hp1, hp2⟩ := hpre
  repeat' ((conv => whnf);first|(with_reducible first|rfl|exact absTF|exact absFT)|exact True.intro|intro _|refine And.intro ?_ ?_|refine Fin.mk ?_|refine W1 rfl ?_ ?_|refine W2 rfl ?_ ?_|refine W3 rfl ?_ ?_|refine W4 ?_ ?_|refine W5 rfl ?_ ?_|refine W6 ?_ ?_|refine AppN.mk ?_|refine X1 (W1 rfl ?_ ?_)|refine X1 (W2 rfl ?_ ?_)|refine X2 (W7 rfl ?_ ?_)|refine X3 (W7 rfl ?_ ?_)|refine X4 (W7 rfl ?_ ?_)|refine X5 (W7 rfl ?_ ?_))
  all_goals (try (conv => whnf))
  all_goals (try first|exact Ob.mk (u8_bnd _)|(refine Ob.mk ?_;first|exact True.intro|assumption|omega|(try simp only [ZA,ZB,ZC,ZD,ZE,ZF,ZG,ZH,ZI,ZJ,ZK,ZL,ZM,ZN,ZO,Int.toNat_natCast,UInt8.ofNat_toNat,cast_eq] at *;omega)))
  all_goals (try first|(show (_:Int) = _;omega)|(show tupSV _ = _;with_unfolding_all rfl)|((first|show (_:Nat) ≤ _|show (_:Nat) ≤ _ ∧ (_:Nat) ≤ _|show (_:Int) ≤ _ ∧ (_:Int) ≤ _ ∧ (_:Int) ≤ _ ∧ (_:Int) ≤ _);(simp <;> omega)))
instance eWSc (q : Bool) (x l : List UInt8) : FnM BB 32 [.loc 0 0, .str x] [(0, wrB (.loc 0 0) (.own 1) q), (1, .own .byte l)] (l.length ≤ 1000000 ∧ x.length ≤ 1000000) (.tup [.int .i64 x.length, .v .nilIface]) [(0, wrB (.loc 0 0) (.own 1) q), (1, .own .byte (l ++ x))] := by
  refine FnM.intro (N := 19) [0, 1, 4, 5] [] 2 Tryd.call32 Tryd.func32 rfl rfl (by kernel_rfl) (fun hpre => ?_)
  obtain ⟨hp1, hp2⟩ := hpre
  repeat' ((conv => whnf);first|(with_reducible first|rfl|exact absTF|exact absFT)|exact True.intro|intro _|refine And.intro ?_ ?_|refine Fin.mk ?_|refine W1 rfl ?_ ?_|refine W2 rfl ?_ ?_|refine W3 rfl ?_ ?_|refine W4 ?_ ?_|refine W5 rfl ?_ ?_|refine W6 ?_ ?_|refine AppN.mk ?_|refine X1 (W1 rfl ?_ ?_)|refine X1 (W2 rfl ?_ ?_)|refine X2 (W7 rfl ?_ ?_)|refine X3 (W7 rfl ?_ ?_)|refine X4 (W7 rfl ?_ ?_)|refine X5 (W7 rfl ?_ ?_))
  all_goals (try (conv => whnf))
  all_goals (try first|exact Ob.mk (u8_bnd _)|(refine Ob.mk ?_;first|exact True.intro|assumption|omega|(try simp only [ZA,ZB,ZC,ZD,ZE,ZF,ZG,ZH,ZI,ZJ,ZK,ZL,ZM,ZN,ZO,Int.toNat_natCast,UInt8.ofNat_toNat,cast_eq] at *;omega)))
  all_goals (try first|(show (_:Int) = _;omega)|(show tupSV _ = _;with_unfolding_all rfl)|((first|show (_:Nat) ≤ _|show (_:Nat) ≤ _ ∧ (_:Nat) ≤ _|show (_:Int) ≤ _ ∧ (_:Int) ≤ _ ∧ (_:Int) ≤ _ ∧ (_:Int) ≤ _);(simp <;> omega)))
theorem eWSn (q : Bool) (p : SV) (hp : p = nilP ∨ p = .loc 0 0) : FnM BB 32 [.loc 0 0, .str []] [(0, wrB p .nils q)] True (.tup [.int .i64 0, .v .nilIface]) [(0, wrB (.loc 0 0) .nils q)] := by
  rcases hp with rfl | rfl
  · refine FnM.intro (N := 19) [0, 1, 4, 5] [] 1 Tryd.call32 Tryd.func32 rfl rfl (by kernel_rfl) (fun hpre => ?_)
    repeat' ((conv => whnf);first|(with_reducible first|rfl|exact absTF|exact absFT)|exact True.intro|intro _|refine And.intro ?_ ?_|refine Fin.mk ?_|refine W1 rfl ?_ ?_|refine W2 rfl ?_ ?_|refine W3 rfl ?_ ?_|refine W4 ?_ ?_|refine W5 rfl ?_ ?_|refine W6 ?_ ?_|refine AppN.nl (by kernel_rfl) rfl ?_|refine X1 (W1 rfl ?_ ?_)|refine X1 (W2 rfl ?_ ?_)|refine X2 (W7 rfl ?_ ?_)|refine X3 (W7 rfl ?_ ?_)|refine X4 (W7 rfl ?_ ?_)|refine X5 (W7 rfl ?_ ?_))
    all_goals (try (conv => whnf))
    all_goals (try first|exact Ob.mk (u8_bnd _)|(refine Ob.mk ?_;first|exact True.intro|assumption|omega|(try simp only [ZA,ZB,ZC,ZD,ZE,ZF,ZG,ZH,ZI,ZJ,ZK,ZL,ZM,ZN,ZO,Int.toNat_natCast,UInt8.ofNat_toNat,cast_eq] at *;omega)))
    all_goals (try first|(show (_:Int) = _;omega)|(show tupSV _ = _;with_unfolding_all rfl)|((first|show (_:Nat) ≤ _|show (_:Nat) ≤ _ ∧ (_:Nat) ≤ _|show (_:Int) ≤ _ ∧ (_:Int) ≤ _ ∧ (_:Int) ≤ _ ∧ (_:Int) ≤ _);(simp <;> omega)))
    all_goals (try rfl)
  · refine FnM.intro (N := 19) [0, 1, 4, 5] [] 1 Tryd.call32 Tryd.func32 rfl rfl (by kernel_rfl) (fun hpre => ?_)
    repeat' ((conv => whnf);first|(with_reducible first|rfl|exact absTF|exact absFT)|exact True.intro|intro _|refine And.intro ?_ ?_|refine Fin.mk ?_|refine W1 rfl ?_ ?_|refine W2 rfl ?_ ?_|refine W3 rfl ?_ ?_|refine W4 ?_ ?_|refine W5 rfl ?_ ?_|refine W6 ?_ ?_|refine AppN.nl (by kernel_rfl) rfl ?_|refine X1 (W1 rfl ?_ ?_)|refine X1 (W2 rfl ?_ ?_)|refine X2 (W7 rfl ?_ ?_)|refine X3 (W7 rfl ?_ ?_)|refine X4 (W7 rfl ?_ ?_)|refine X5 (W7 rfl ?_ ?_))
    all_goals (try (conv => whnf))
    all_goals (try first|exact Ob.mk (u8_bnd _)|(refine Ob.mk ?_;first|exact True.intro|assumption|omega|(try simp only [ZA,ZB,ZC,ZD,ZE,ZF,ZG,ZH,ZI,ZJ,ZK,ZL,ZM,ZN,ZO,Int.toNat_natCast,UInt8.ofNat_toNat,cast_eq] at *;omega)))
    all_goals (try first|(show (_:Int) = _;omega)|(show tupSV _ = _;with_unfolding_all rfl)|((first|show (_:Nat) ≤ _|show (_:Nat) ≤ _ ∧ (_:Nat) ≤ _|show (_:Int) ≤ _ ∧ (_:Int) ≤ _ ∧ (_:Int) ≤ _ ∧ (_:Int) ≤ _);(simp <;> omega)))
    all_goals (try rfl)
end Go.Vc

namespace Go.Vc
set_option autoImplicit false
def refB (q : Bool) (c : UInt8) : List UInt8 :=
  bif c == 38 then [38, 97, 109, 112, 59] else bif c == 60 then [38, 108, 116, 59] else bif c == 62 then [38, 103, 116, 59] else bif c == 34 && q then [38, 113, 117, 111, 116, 59] else []
def oneB (q : Bool) (c : UInt8) : List UInt8 := bif (refB q c).isEmpty then [c] else refB q c
def nbsp : List UInt8 := [38, 110, 98, 115, 112, 59]
def escL (q : Bool) : List UInt8 → List UInt8
  | [] => []
  | [c] => oneB q c
  | c :: d :: r => bif c == 194 && d == 160 then nbsp ++ escL q r else oneB q c ++ escL q (d :: r)
theorem oneB_len (q : Bool) (c : UInt8) : (oneB q c).length ≤ 6 ∧ 1 ≤ (oneB q c).length := by
  unfold oneB refB
  cases c == 38 <;> cases c == 60 <;> cases c == 62 <;> cases c == 34 <;> cases q <;> simp
theorem escL_len (q : Bool) : ∀ l : List UInt8, (escL q l).length ≤ 6 * l.length
  | [] => by simp [escL]
  | [c] => by have := oneB_len q c; simp [escL]; omega
  | c :: d :: r => by
    have h1 := oneB_len q c
    have h2 := escL_len q r
    have h3 := escL_len q (d :: r)
    unfold escL
    cases c == 194 && d == 160
    · simp at h3 ⊢; omega
    · simp [nbsp]; omega
theorem escL_ne (q : Bool) (l : List UInt8) (h : l ≠ []) : escL q l ≠ [] := by
  match l, h with
  | [c], _ => have := oneB_len q c; intro h0; simp only [escL] at h0; rw [h0] at this; simp at this
  | c :: d :: r, _ =>
    unfold escL
    cases c == 194 && d == 160
    · have := oneB_len q c
      intro h0
      simp at h0
      rw [h0.1] at this; simp at this
    · simp [nbsp]
theorem drop_cons' (s : List UInt8) (i : Nat) (h : i < s.length) : s.drop i = s.getD i 0 :: s.drop (i + 1) := by
  rw [List.drop_eq_getElem_cons h]
  simp [List.getD, List.getElem?_eq_getElem h]
theorem escL_at (q : Bool) (s : List UInt8) (i : Nat) (h : i < s.length) :
    escL q (s.drop i) = if s.getD i 0 = 194 ∧ i + 1 < s.length ∧ s.getD (i + 1) 0 = 160 then nbsp ++ escL q (s.drop (i + 2)) else oneB q (s.getD i 0) ++ escL q (s.drop (i + 1)) := by
  rw [drop_cons' s i h]
  by_cases h1 : i + 1 < s.length
  · rw [drop_cons' s (i + 1) h1]
    simp only [escL]
    by_cases h2 : s.getD i 0 = 194 ∧ s.getD (i + 1) 0 = 160
    · rw [if_pos ⟨h2.1, h1, h2.2⟩, h2.1, h2.2]; rfl
    · rw [if_neg (fun h => h2 ⟨h.1, h.2.2⟩)]
      have : (s.getD i 0 == 194 && s.getD (i + 1) 0 == 160) = false := by
        rw [Bool.eq_false_iff]; intro hc; simp only [Bool.and_eq_true, beq_iff_eq] at hc; exact h2 hc
      rw [this]; rfl
  · rw [if_neg (fun h => h1 h.2.1)]
    have : s.drop (i + 1) = [] := List.drop_eq_nil_of_le (by omega)
    rw [this]
    simp [escL]
theorem escL_end (q : Bool) (s : List UInt8) : escL q (s.drop s.length) = [] := by simp [escL]
end Go.Vc

namespace Go.Vc
open Go.Proofs
set_option maxRecDepth 10000
set_option maxHeartbeats 4000000
instance ePutA (q : Bool) (x y : List UInt8) : FnM BB 19 [.loc 0 0, .str x, .str y] [(0, wrB nilP .nils q)] (y ≠ [] ∧ x.length ≤ 1000000 ∧ y.length ≤ 1000000) (.tup []) [(0, wrB (.loc 0 0) (.own 1) q), (1, .own .byte (x ++ y))] := by
  refine FnM.intro (N := 16) [0, 1, 2] [] 1 Tryd.call19 Tryd.func19 rfl rfl (by kernel_rfl) (fun hpre => ?_)
  obtain ⟨hp1, hp2, hp3⟩ := hpre
  by_cases hx : x = []
  · subst hx
    haveI := eWSn q nilP (.inl rfl)
    repeat' ((conv => whnf);first|(with_reducible first|rfl|exact absTF|exact absFT)|exact True.intro|intro _|refine And.intro ?_ ?_|refine Fin.mk ?_|refine W1 rfl ?_ ?_|refine W2 rfl ?_ ?_|refine W3 rfl ?_ ?_|refine W4 ?_ ?_|refine W5 rfl ?_ ?_|refine W6 ?_ ?_|refine AppN.mk ?_|refine X1 (W1 rfl ?_ ?_)|refine X1 (W2 rfl ?_ ?_)|refine X2 (W7 rfl ?_ ?_)|refine X3 (W7 rfl ?_ ?_)|refine X4 (W7 rfl ?_ ?_)|refine X5 (W7 rfl ?_ ?_))
    all_goals (try (conv => whnf))
    all_goals (try first|exact Ob.mk (u8_bnd _)|(refine Ob.mk ?_;first|exact True.intro|assumption|omega|(try simp only [ZA,ZB,ZC,ZD,ZE,ZF,ZG,ZH,ZI,ZJ,ZK,ZL,ZM,ZN,ZO,Int.toNat_natCast,UInt8.ofNat_toNat,cast_eq] at *;omega)))
    all_goals (try first|(show (_:Int) = _;omega)|(show tupSV _ = _;with_unfolding_all rfl)|((first|show (_:Nat) ≤ _|show (_:Nat) ≤ _ ∧ (_:Nat) ≤ _|show (_:Int) ≤ _ ∧ (_:Int) ≤ _ ∧ (_:Int) ≤ _ ∧ (_:Int) ≤ _);(simp <;> omega)))
    all_goals (first | exact ⟨hp1, hp3⟩ | rfl | skip)
  · repeat' ((conv => whnf);first|(with_reducible first|rfl|exact absTF|exact absFT)|exact True.intro|intro _|refine And.intro ?_ ?_|refine Fin.mk ?_|refine W1 rfl ?_ ?_|refine W2 rfl ?_ ?_|refine W3 rfl ?_ ?_|refine W4 ?_ ?_|refine W5 rfl ?_ ?_|refine W6 ?_ ?_|refine AppN.mk ?_|refine X1 (W1 rfl ?_ ?_)|refine X1 (W2 rfl ?_ ?_)|refine X2 (W7 rfl ?_ ?_)|refine X3 (W7 rfl ?_ ?_)|refine X4 (W7 rfl ?_ ?_)|refine X5 (W7 rfl ?_ ?_))
    all_goals (try (conv => whnf))
    all_goals (try first|exact Ob.mk (u8_bnd _)|(refine Ob.mk ?_;first|exact True.intro|assumption|omega|(try simp only [ZA,ZB,ZC,ZD,ZE,ZF,ZG,ZH,ZI,ZJ,ZK,ZL,ZM,ZN,ZO,Int.toNat_natCast,UInt8.ofNat_toNat,cast_eq] at *;omega)))
    all_goals (try first|(show (_:Int) = _;omega)|(show tupSV _ = _;with_unfolding_all rfl)|((first|show (_:Nat) ≤ _|show (_:Nat) ≤ _ ∧ (_:Nat) ≤ _|show (_:Int) ≤ _ ∧ (_:Int) ≤ _ ∧ (_:Int) ≤ _ ∧ (_:Int) ≤ _);(simp <;> omega)))
    all_goals (first | exact ⟨hx, hp2⟩ | exact ⟨hp2, hp3⟩ | skip)
instance ePutB (q : Bool) (x : List UInt8) : FnM BB 19 [.loc 0 0, .str x, .str []] [(0, wrB nilP .nils q)] (x ≠ [] ∧ x.length ≤ 1000000) (.tup []) [(0, wrB (.loc 0 0) (.own 1) q), (1, .own .byte x)] := by
  refine FnM.intro (N := 16) [0, 1, 2] [] 1 Tryd.call19 Tryd.func19 rfl rfl (by kernel_rfl) (fun hpre => ?_)
  obtain ⟨hp1, hp2⟩ := hpre
  repeat' ((conv => whnf);first|(with_reducible first|rfl|exact absTF|exact absFT)|exact True.intro|intro _|refine And.intro ?_ ?_|refine Fin.mk ?_|refine W1 rfl ?_ ?_|refine W2 rfl ?_ ?_|refine W3 rfl ?_ ?_|refine W4 ?_ ?_|refine W5 rfl ?_ ?_|refine W6 ?_ ?_|refine AppN.mk ?_|refine X1 (W1 rfl ?_ ?_)|refine X1 (W2 rfl ?_ ?_)|refine X2 (W7 rfl ?_ ?_)|refine X3 (W7 rfl ?_ ?_)|refine X4 (W7 rfl ?_ ?_)|refine X5 (W7 rfl ?_ ?_))
  all_goals (try (conv => whnf))
  all_goals (try first|exact Ob.mk (u8_bnd _)|(refine Ob.mk ?_;first|exact True.intro|assumption|omega|(try simp only [ZA,ZB,ZC,ZD,ZE,ZF,ZG,ZH,ZI,ZJ,ZK,ZL,ZM,ZN,ZO,Int.toNat_natCast,UInt8.ofNat_toNat,cast_eq] at *;omega)))
  all_goals (try first|(show (_:Int) = _;omega)|(show tupSV _ = _;with_unfolding_all rfl)|((first|show (_:Nat) ≤ _|show (_:Nat) ≤ _ ∧ (_:Nat) ≤ _|show (_:Int) ≤ _ ∧ (_:Int) ≤ _ ∧ (_:Int) ≤ _ ∧ (_:Int) ≤ _);(simp <;> omega)))
  all_goals (first | exact ⟨hp1, hp2⟩ | simp | skip)
instance ePutC (q : Bool) (x y l : List UInt8) : FnM BB 19 [.loc 0 0, .str x, .str y] [(0, wrB (.loc 0 0) (.own 1) q), (1, .own .byte l)] (l.length + x.length ≤ 1000000 ∧ y.length ≤ 1000000) (.tup []) [(0, wrB (.loc 0 0) (.own 1) q), (1, .own .byte (l ++ x ++ y))] := by
  refine FnM.intro (N := 16) [0, 1, 2] [] 2 Tryd.call19 Tryd.func19 rfl rfl (by kernel_rfl) (fun hpre => ?_)
  obtain ⟨hp1, hp2⟩ := hpre
  repeat' ((conv => whnf);first|(with_reducible first|rfl|exact absTF|exact absFT)|exact True.intro|intro _|refine And.intro ?_ ?_|refine Fin.mk ?_|refine W1 rfl ?_ ?_|refine W2 rfl ?_ ?_|refine W3 rfl ?_ ?_|refine W4 ?_ ?_|refine W5 rfl ?_ ?_|refine W6 ?_ ?_|refine AppN.mk ?_|refine X1 (W1 rfl ?_ ?_)|refine X1 (W2 rfl ?_ ?_)|refine X2 (W7 rfl ?_ ?_)|refine X3 (W7 rfl ?_ ?_)|refine X4 (W7 rfl ?_ ?_)|refine X5 (W7 rfl ?_ ?_))
  all_goals (try (conv => whnf))
  all_goals (try first|exact Ob.mk (u8_bnd _)|(refine Ob.mk ?_;first|exact True.intro|assumption|omega|(try simp only [ZA,ZB,ZC,ZD,ZE,ZF,ZG,ZH,ZI,ZJ,ZK,ZL,ZM,ZN,ZO,Int.toNat_natCast,UInt8.ofNat_toNat,cast_eq] at *;omega)))
  all_goals (try first|(show (_:Int) = _;omega)|(show tupSV _ = _;with_unfolding_all rfl)|((first|show (_:Nat) ≤ _|show (_:Nat) ≤ _ ∧ (_:Nat) ≤ _|show (_:Int) ≤ _ ∧ (_:Int) ≤ _ ∧ (_:Int) ≤ _ ∧ (_:Int) ≤ _);(simp <;> omega)))
  all_goals (try (constructor <;> (try simp) <;> omega))
theorem ePutN (q : Bool) : FnM BB 19 [.loc 0 0, .str [], .str []] [(0, wrB nilP .nils q)] True (.tup []) [(0, wrB (.loc 0 0) .nils q)] := by
  refine FnM.intro (N := 16) [0, 1, 2] [] 1 Tryd.call19 Tryd.func19 rfl rfl (by kernel_rfl) (fun hpre => ?_)
  haveI := eWSn q nilP (.inl rfl)
  haveI := eWSn q (.loc 0 0) (.inr rfl)
  repeat' ((conv => whnf);first|(with_reducible first|rfl|exact absTF|exact absFT)|exact True.intro|intro _|refine And.intro ?_ ?_|refine Fin.mk ?_|refine W1 rfl ?_ ?_|refine W2 rfl ?_ ?_|refine W3 rfl ?_ ?_|refine W4 ?_ ?_|refine W5 rfl ?_ ?_|refine W6 ?_ ?_|refine AppN.mk ?_|refine X1 (W1 rfl ?_ ?_)|refine X1 (W2 rfl ?_ ?_)|refine X2 (W7 rfl ?_ ?_)|refine X3 (W7 rfl ?_ ?_)|refine X4 (W7 rfl ?_ ?_)|refine X5 (W7 rfl ?_ ?_))
  all_goals (try (conv => whnf))
  all_goals (try first|exact Ob.mk (u8_bnd _)|(refine Ob.mk ?_;first|exact True.intro|assumption|omega|(try simp only [ZA,ZB,ZC,ZD,ZE,ZF,ZG,ZH,ZI,ZJ,ZK,ZL,ZM,ZN,ZO,Int.toNat_natCast,UInt8.ofNat_toNat,cast_eq] at *;omega)))
  all_goals (try first|(show (_:Int) = _;omega)|(show tupSV _ = _;with_unfolding_all rfl)|((first|show (_:Nat) ≤ _|show (_:Nat) ≤ _ ∧ (_:Nat) ≤ _|show (_:Int) ≤ _ ∧ (_:Int) ≤ _ ∧ (_:Int) ≤ _ ∧ (_:Int) ≤ _);(simp <;> omega)))
instance eStr (q : Bool) (l : List UInt8) : FnM BB 20 [.loc 0 0] [(0, wrB (.loc 0 0) (.own 1) q), (1, .own .byte l)] (l ≠ []) (.str l) [(0, wrB (.loc 0 0) .und q)] := by
  refine FnM.intro (N := 14) [0, 2] [(1, [0, 0, 0, 4, 4, 0, 0, 0, 4, 4, 4, 4])] 2 Tryd.call20 Tryd.func20 rfl rfl (by kernel_rfl) (fun hpre => ?_)
  repeat' ((conv => whnf);first|(with_reducible first|rfl|exact absTF|exact absFT)|exact True.intro|intro _|refine And.intro ?_ ?_|refine Fin.mk ?_|refine W1 rfl ?_ ?_|refine W2 rfl ?_ ?_|refine W3 rfl ?_ ?_|refine W4 ?_ ?_|refine W5 rfl ?_ ?_|refine W6 ?_ ?_|refine AppN.mk ?_|refine X1 (W1 rfl ?_ ?_)|refine X1 (W2 rfl ?_ ?_)|refine X2 (W7 rfl ?_ ?_)|refine X3 (W7 rfl ?_ ?_)|refine X4 (W7 rfl ?_ ?_)|refine X5 (W7 rfl ?_ ?_))
  all_goals (try (conv => whnf))
  all_goals (try first|exact Ob.mk (u8_bnd _)|(refine Ob.mk ?_;first|exact True.intro|assumption|omega|(try simp only [ZA,ZB,ZC,ZD,ZE,ZF,ZG,ZH,ZI,ZJ,ZK,ZL,ZM,ZN,ZO,Int.toNat_natCast,UInt8.ofNat_toNat,cast_eq] at *;omega)))
  all_goals (try first|(show (_:Int) = _;omega)|(show tupSV _ = _;with_unfolding_all rfl)|((first|show (_:Nat) ≤ _|show (_:Nat) ≤ _ ∧ (_:Nat) ≤ _|show (_:Int) ≤ _ ∧ (_:Int) ≤ _ ∧ (_:Int) ≤ _ ∧ (_:Int) ≤ _);(simp <;> omega)))
  all_goals (exact ⟨rfl, hpre⟩)
instance eStrN (q : Bool) : FnM BB 20 [.loc 0 0] [(0, wrB (.loc 0 0) .nils q)] True (.str []) [(0, wrB (.loc 0 0) .nils q)] := by
  refine FnM.intro (N := 14) [0, 2] [(1, [0, 0, 0, 4, 4, 0, 0, 0, 4, 4, 4, 4])] 2 Tryd.call20 Tryd.func20 rfl rfl (by kernel_rfl) (fun hpre => ?_)
  repeat' ((conv => whnf);first|(with_reducible first|rfl|exact absTF|exact absFT)|exact True.intro|intro _|refine And.intro ?_ ?_|refine Fin.mk ?_|refine W1 rfl ?_ ?_|refine W2 rfl ?_ ?_|refine W3 rfl ?_ ?_|refine W4 ?_ ?_|refine W5 rfl ?_ ?_|refine W6 ?_ ?_|refine AppN.mk ?_|refine X1 (W1 rfl ?_ ?_)|refine X1 (W2 rfl ?_ ?_)|refine X2 (W7 rfl ?_ ?_)|refine X3 (W7 rfl ?_ ?_)|refine X4 (W7 rfl ?_ ?_)|refine X5 (W7 rfl ?_ ?_))
  all_goals (try (conv => whnf))
  all_goals (try first|exact Ob.mk (u8_bnd _)|(refine Ob.mk ?_;first|exact True.intro|assumption|omega|(try simp only [ZA,ZB,ZC,ZD,ZE,ZF,ZG,ZH,ZI,ZJ,ZK,ZL,ZM,ZN,ZO,Int.toNat_natCast,UInt8.ofNat_toNat,cast_eq] at *;omega)))
  all_goals (try first|(show (_:Int) = _;omega)|(show tupSV _ = _;with_unfolding_all rfl)|((first|show (_:Nat) ≤ _|show (_:Nat) ≤ _ ∧ (_:Nat) ≤ _|show (_:Int) ≤ _ ∧ (_:Int) ≤ _ ∧ (_:Int) ≤ _ ∧ (_:Int) ≤ _);(simp <;> omega)))
end Go.Vc

namespace Go.Vc
open Go.Proofs
set_option maxRecDepth 10000
set_option maxHeartbeats 4000000
def hasP (s p : List UInt8) : Bool := decide ((s.length : Int) ≥ (p.length : Int)) && s.take p.length == p
instance (priority := 2000) eHPl (s p : List UInt8) : Fn BB 31 [.str s, .str p] True (.bool (hasP s p)) := by
  refine Fn.intro (N := 18) [0, 1, 4] [] Tryd.call31 Tryd.func31 rfl rfl (by kernel_rfl) (fun hpre => ?_)
  repeat' ((conv => whnf);first|(with_reducible first|rfl|exact absTF|exact absFT)|exact True.intro|intro _|refine And.intro ?_ ?_|refine Fin.mk ?_|refine W1 rfl ?_ ?_|refine W2 rfl ?_ ?_|refine W3 rfl ?_ ?_|refine W4 ?_ ?_|refine W5 rfl ?_ ?_|refine W6 ?_ ?_|refine AppN.mk ?_|refine X1 (W1 rfl ?_ ?_)|refine X1 (W2 rfl ?_ ?_)|refine X2 (W7 rfl ?_ ?_)|refine X3 (W7 rfl ?_ ?_)|refine X4 (W7 rfl ?_ ?_)|refine X5 (W7 rfl ?_ ?_))
  all_goals (try (conv => whnf))
  all_goals (try first|exact Ob.mk (u8_bnd _)|(refine Ob.mk ?_;first|exact True.intro|assumption|omega|(try simp only [ZA,ZB,ZC,ZD,ZE,ZF,ZG,ZH,ZI,ZJ,ZK,ZL,ZM,ZN,ZO,Int.toNat_natCast,UInt8.ofNat_toNat,cast_eq] at *;omega)))
  all_goals (try first|(show (_:Int) = _;omega)|(show tupSV _ = _;with_unfolding_all rfl)|((first|show (_:Nat) ≤ _|show (_:Nat) ≤ _ ∧ (_:Nat) ≤ _|show (_:Int) ≤ _ ∧ (_:Int) ≤ _ ∧ (_:Int) ≤ _ ∧ (_:Int) ≤ _);(simp <;> omega)))
  all_goals (try simp only [ZA,ZB,ZC,ZD,ZE,ZF,ZG,ZH,ZI,ZJ,ZK,ZL,ZM,ZN,ZO,Int.toNat_natCast,UInt8.ofNat_toNat,cast_eq] at *)
  all_goals rfl
instance (priority := 2000) eHP (s p : List UInt8) : Fn BB 18 [.str s, .str p] True (.bool (hasP s p)) := by
  refine Fn.intro (N := 8) [0, 1, 4] [] Tryd.call18 Tryd.func18 rfl rfl (by kernel_rfl) (fun hpre => ?_)
  repeat' ((conv => whnf);first|(with_reducible first|rfl|exact absTF|exact absFT)|exact True.intro|intro _|refine And.intro ?_ ?_|refine Fin.mk ?_|refine W1 rfl ?_ ?_|refine W2 rfl ?_ ?_|refine W3 rfl ?_ ?_|refine W4 ?_ ?_|refine W5 rfl ?_ ?_|refine W6 ?_ ?_|refine AppN.mk ?_|refine X1 (W1 rfl ?_ ?_)|refine X1 (W2 rfl ?_ ?_)|refine X2 (W7 rfl ?_ ?_)|refine X3 (W7 rfl ?_ ?_)|refine X4 (W7 rfl ?_ ?_)|refine X5 (W7 rfl ?_ ?_))
  all_goals (try (conv => whnf))
  all_goals (try first|exact Ob.mk (u8_bnd _)|(refine Ob.mk ?_;first|exact True.intro|assumption|omega|(try simp only [ZA,ZB,ZC,ZD,ZE,ZF,ZG,ZH,ZI,ZJ,ZK,ZL,ZM,ZN,ZO,Int.toNat_natCast,UInt8.ofNat_toNat,cast_eq] at *;omega)))
  all_goals (try first|(show (_:Int) = _;omega)|(show tupSV _ = _;with_unfolding_all rfl)|((first|show (_:Nat) ≤ _|show (_:Nat) ≤ _ ∧ (_:Nat) ≤ _|show (_:Int) ≤ _ ∧ (_:Int) ≤ _ ∧ (_:Int) ≤ _ ∧ (_:Int) ≤ _);(simp <;> omega)))
theorem hasP_nb (s : List UInt8) (i : Nat) (h : i < s.length) (h0 : s.getD i 0 = 194) : hasP (s.drop i) [194, 160] = decide (i + 1 < s.length ∧ s.getD (i + 1) 0 = 160) := by
  unfold hasP
  rw [drop_cons' s i h, h0]
  by_cases h1 : i + 1 < s.length
  · rw [drop_cons' s (i + 1) h1]
    generalize s.getD (i + 1) 0 = x
    generalize s.drop (i + 1 + 1) = r
    have : decide (((194 :: x :: r).length : Int) ≥ (([194, 160] : List UInt8).length : Int)) = true := by simp; omega
    rw [this]
    simp [h1]
    rw [Bool.eq_iff_iff]; simp
  · have : s.drop (i + 1) = [] := List.drop_eq_nil_of_le (by omega)
    rw [this]; simp [h1]
theorem u8b (c : UInt8) (k : Nat) (hk : k < 256) : ((c.toNat : Int) == (k : Int)) = (c == UInt8.ofNat k) := by
  rw [Bool.eq_iff_iff, beq_iff_eq, beq_iff_eq]
  constructor
  · intro h; apply UInt8.toNat_inj.1; rw [UInt8.toNat_ofNat']; omega
  · rintro rfl; rw [UInt8.toNat_ofNat']; omega
theorem esc_step (q : Bool) (s out : List UInt8) (i : Nat) (h : i < s.length) (hq : out ++ escL q (s.drop i) = escL q s) (hn : ¬ (s.getD i 0 = 194 ∧ i + 1 < s.length ∧ s.getD (i + 1) 0 = 160)) :
    (out ++ oneB q (s.getD i 0)) ++ escL q (s.drop (i + 1)) = escL q s := by
  rw [escL_at q s i h, if_neg hn] at hq
  rw [← hq, List.append_assoc]
theorem esc_step2 (q : Bool) (s out : List UInt8) (i : Nat) (h : i < s.length) (hq : out ++ escL q (s.drop i) = escL q s) (hn : s.getD i 0 = 194 ∧ i + 1 < s.length ∧ s.getD (i + 1) 0 = 160) :
    (out ++ nbsp) ++ escL q (s.drop (i + 2)) = escL q s := by
  rw [escL_at q s i h, if_pos hn] at hq
  rw [← hq, List.append_assoc]
theorem esc_bnd {q : Bool} {s out : List UInt8} {i : Nat} (hq : out ++ escL q (s.drop i) = escL q s) (hs : s.length ≤ 100000) : out.length ≤ 600000 := by
  have h1 := congrArg List.length hq
  have h2 := escL_len q s
  simp at h1
  omega
theorem k38 (c : UInt8) : ((c.toNat : Int) == 38) = (c == 38) := u8b c 38 (by decide)
theorem k60 (c : UInt8) : ((c.toNat : Int) == 60) = (c == 60) := u8b c 60 (by decide)
theorem k62 (c : UInt8) : ((c.toNat : Int) == 62) = (c == 62) := u8b c 62 (by decide)
theorem k34 (c : UInt8) : ((c.toNat : Int) == 34) = (c == 34) := u8b c 34 (by decide)
theorem k194 (c : UInt8) : ((c.toNat : Int) == 194) = (c == 194) := u8b c 194 (by decide)
theorem k160 (c : UInt8) : ((c.toNat : Int) == 160) = (c == 160) := u8b c 160 (by decide)
theorem one38 {q : Bool} {c : UInt8} (h : (c == 38) = true) : oneB q c = [38, 97, 109, 112, 59] := by unfold oneB refB; rw [h]; rfl
theorem one60 {q : Bool} {c : UInt8} (h : (c == 60) = true) : oneB q c = [38, 108, 116, 59] := by obtain rfl := beq_iff_eq.1 h; rfl
theorem one62 {q : Bool} {c : UInt8} (h : (c == 62) = true) : oneB q c = [38, 103, 116, 59] := by obtain rfl := beq_iff_eq.1 h; rfl
theorem one34 {q : Bool} {c : UInt8} (h : (c == 34) = true) (hq : q = true) : oneB q c = [38, 113, 117, 111, 116, 59] := by obtain rfl := beq_iff_eq.1 h; subst hq; rfl
theorem oneN {q : Bool} {c : UInt8} (h1 : (c == 38) = false) (h2 : (c == 60) = false) (h3 : (c == 62) = false) (h4 : (c == 34 && q) = false) : oneB q c = [c] := by unfold oneB refB; rw [h1, h2, h3, h4]; rfl
theorem ne194 {c : UInt8} {P : Prop} (h : (c == 194) = false) : ¬ (c = 194 ∧ P) := by rintro ⟨rfl, _⟩; cases h
end Go.Vc

namespace Go.Vc
open Go.Proofs
set_option maxRecDepth 10000
set_option maxHeartbeats 8000000
def wrFe (u : Bool) (q : Bool) (b : List UInt8) : Phi :=
  match u with
  | false => [(0, wrB nilP .nils q)]
  | true => [(0, wrB (.loc 0 0) (.own 1) q), (1, .own .byte b)]
theorem take_drop_step (s : List UInt8) (f i : Nat) (h : f ≤ i) (hl : i < s.length) : (s.take (i + 1)).drop f = (s.take i).drop f ++ [s.getD i 0] := by
  rw [List.take_succ_eq_append_getElem hl, List.drop_append_of_le_length (by simp; omega)]
  simp [List.getD, List.getElem?_eq_getElem hl]
structure WI (q : Bool) (s : List UInt8) (u : Bool) (f i : Nat) (b : List UInt8) : Prop where
  hf : f ≤ i
  hi : i ≤ s.length
  h0 : u = false → f = 0 ∧ b = []
  h1 : u = true → b ≠ []
  eq : b ++ (s.take i).drop f ++ escL q (s.drop i) = escL q s
  bnd : b.length + (i - f) ≤ 600000
theorem WI.plain {q s u f i b} (h : WI q s u f i b) (hs : s.length ≤ 100000) (hl : i < s.length) (hn : ¬ (s.getD i 0 = 194 ∧ i + 1 < s.length ∧ s.getD (i + 1) 0 = 160)) (ho : oneB q (s.getD i 0) = [s.getD i 0]) : WI q s u f (i + 1) b := by
  obtain ⟨hf, hi, h0, h1, eq, bnd⟩ := h
  have e := esc_step q s _ i hl eq hn
  rw [ho, List.append_assoc b, ← take_drop_step s f i hf hl] at e
  refine ⟨by omega, by omega, h0, h1, e, ?_⟩
  have := esc_bnd e hs
  simp at this
  omega
theorem WI.put {q s u f i b} (h : WI q s u f i b) (hs : s.length ≤ 100000) (hl : i < s.length) (hn : ¬ (s.getD i 0 = 194 ∧ i + 1 < s.length ∧ s.getD (i + 1) 0 = 160)) {y : List UInt8} (ho : oneB q (s.getD i 0) = y) (hy : y ≠ []) :
    WI q s true (i + 1) (i + 1) (b ++ (s.take i).drop f ++ y) := by
  obtain ⟨hf, hi, h0, h1, eq, bnd⟩ := h
  have e := esc_step q s _ i hl eq hn
  rw [ho] at e
  have e' : (s.take (i + 1)).drop (i + 1) = [] := List.drop_eq_nil_of_le (by simp; omega)
  have := esc_bnd e hs
  refine ⟨by omega, by omega, fun h => (by cases h), fun _ h => hy (by simp at h; exact h.2.2), by rw [e', List.append_nil]; exact e, by omega⟩
theorem WI.put2 {q s u f i b} (h : WI q s u f i b) (hs : s.length ≤ 100000) (hl : i < s.length) (hn : s.getD i 0 = 194 ∧ i + 1 < s.length ∧ s.getD (i + 1) 0 = 160) :
    WI q s true (i + 2) (i + 2) (b ++ (s.take i).drop f ++ nbsp) := by
  obtain ⟨hf, hi, h0, h1, eq, bnd⟩ := h
  have e := esc_step2 q s _ i hl eq hn
  have e' : (s.take (i + 2)).drop (i + 2) = [] := List.drop_eq_nil_of_le (by simp; omega)
  have := esc_bnd e hs
  refine ⟨by omega, by omega, fun h => (by cases h), fun _ h => (by simp [nbsp] at h), by rw [e', List.append_nil]; exact e, by omega⟩
instance eWrite (q : Bool) (s : List UInt8) : Fn BB 11 [.str s, .bool q] (s.length ≤ 100000) (.str (escL q s)) := by
  refine Fn.intro (N := 56) [0, 1, 4, 5, 6, 7, 8, 9, 15, 20, 21, 23, 25, 27, 30, 31, 36, 38] [] Tryd.call11 Tryd.func11 rfl rfl (by kernel_rfl) (fun hpre => ?_)
  by_cases hs0 : s = []
  · subst hs0
    haveI : FnM BB 19 [.loc 0 0, .str (List.drop (Int.toNat 0) []), .str []] [(0, wrB nilP .nils q)] True (.tup []) [(0, wrB (.loc 0 0) .nils q)] := ePutN q
    haveI : FnM BB 19 [.loc 0 0, .str (List.drop (Int.toNat 0) (List.take (Int.toNat 0) [])), .str []] [(0, wrB nilP .nils q)] True (.tup []) [(0, wrB (.loc 0 0) .nils q)] := ePutN q
    repeat' ((conv => whnf);first|(with_reducible first|rfl|exact absTF|exact absFT)|exact True.intro|intro _|refine And.intro ?_ ?_|refine Fin.mk ?_|refine W1 rfl ?_ ?_|refine W2 rfl ?_ ?_|refine W3 rfl ?_ ?_|refine W4 ?_ ?_|refine W5 rfl ?_ ?_|refine W6 ?_ ?_|refine AppN.mk ?_|refine X1 (W1 rfl ?_ ?_)|refine X1 (W2 rfl ?_ ?_)|refine X2 (W7 rfl ?_ ?_)|refine X3 (W7 rfl ?_ ?_)|refine X4 (W7 rfl ?_ ?_)|refine X5 (W7 rfl ?_ ?_))
    all_goals (try (conv => whnf))
    all_goals (try first|exact Ob.mk (u8_bnd _)|(refine Ob.mk ?_;first|exact True.intro|assumption|omega|(try simp only [ZA,ZB,ZC,ZD,ZE,ZF,ZG,ZH,ZI,ZJ,ZK,ZL,ZM,ZN,ZO,Int.toNat_natCast,UInt8.ofNat_toNat,cast_eq] at *;omega)))
    all_goals (try first|(show (_:Int) = _;omega)|(show tupSV _ = _;with_unfolding_all rfl)|((first|show (_:Nat) ≤ _|show (_:Nat) ≤ _ ∧ (_:Nat) ≤ _|show (_:Int) ≤ _ ∧ (_:Int) ≤ _ ∧ (_:Int) ≤ _ ∧ (_:Int) ≤ _);(simp <;> omega)))
    refine LoopStop.mk (α := Unit) (fun a => []) (fun i => []) 20 (fun a => True) (fun a => 0) () True.intro ?_ (fun a ha => ?_)
    · repeat' ((conv => whnf);first|(with_reducible first|rfl|exact absTF|exact absFT)|exact True.intro|intro _|refine And.intro ?_ ?_|refine Fin.mk ?_|refine W1 rfl ?_ ?_|refine W2 rfl ?_ ?_|refine W3 rfl ?_ ?_|refine W4 ?_ ?_|refine W5 rfl ?_ ?_|refine W6 ?_ ?_|refine AppN.mk ?_|refine X1 (W1 rfl ?_ ?_)|refine X1 (W2 rfl ?_ ?_)|refine X2 (W7 rfl ?_ ?_)|refine X3 (W7 rfl ?_ ?_)|refine X4 (W7 rfl ?_ ?_)|refine X5 (W7 rfl ?_ ?_))
      all_goals (try (conv => whnf))
      all_goals (try first|exact Ob.mk (u8_bnd _)|(refine Ob.mk ?_;first|exact True.intro|assumption|omega|(try simp only [ZA,ZB,ZC,ZD,ZE,ZF,ZG,ZH,ZI,ZJ,ZK,ZL,ZM,ZN,ZO,Int.toNat_natCast,UInt8.ofNat_toNat,cast_eq] at *;omega)))
      all_goals (try first|(show (_:Int) = _;omega)|(show tupSV _ = _;with_unfolding_all rfl)|((first|show (_:Nat) ≤ _|show (_:Nat) ≤ _ ∧ (_:Nat) ≤ _|show (_:Int) ≤ _ ∧ (_:Int) ≤ _ ∧ (_:Int) ≤ _ ∧ (_:Int) ≤ _);(simp <;> omega)))
    · repeat' ((conv => whnf);first|(with_reducible first|rfl|exact absTF|exact absFT)|exact True.intro|intro _|refine And.intro ?_ ?_|refine Fin.mk ?_|refine W1 rfl ?_ ?_|refine W2 rfl ?_ ?_|refine W3 rfl ?_ ?_|refine W4 ?_ ?_|refine W5 rfl ?_ ?_|refine W6 ?_ ?_|refine AppN.mk ?_|refine X1 (W1 rfl ?_ ?_)|refine X1 (W2 rfl ?_ ?_)|refine X2 (W7 rfl ?_ ?_)|refine X3 (W7 rfl ?_ ?_)|refine X4 (W7 rfl ?_ ?_)|refine X5 (W7 rfl ?_ ?_))
      all_goals (try (conv => whnf))
      all_goals (try first|exact Ob.mk (u8_bnd _)|(refine Ob.mk ?_;first|exact True.intro|assumption|omega|(try simp only [ZA,ZB,ZC,ZD,ZE,ZF,ZG,ZH,ZI,ZJ,ZK,ZL,ZM,ZN,ZO,Int.toNat_natCast,UInt8.ofNat_toNat,cast_eq] at *;omega)))
      all_goals (try first|(show (_:Int) = _;omega)|(show tupSV _ = _;with_unfolding_all rfl)|((first|show (_:Nat) ≤ _|show (_:Nat) ≤ _ ∧ (_:Nat) ≤ _|show (_:Int) ≤ _ ∧ (_:Int) ≤ _ ∧ (_:Int) ≤ _ ∧ (_:Int) ≤ _);(simp <;> omega)))
      all_goals (try (exfalso; have hh : decide ((0 : Int) < ((([] : List UInt8).length : Nat) : Int)) = true := ‹_›; revert hh; decide))
      all_goals rfl
  · repeat' ((conv => whnf);first|(with_reducible first|rfl|exact absTF|exact absFT)|exact True.intro|intro _|refine And.intro ?_ ?_|refine Fin.mk ?_|refine W1 rfl ?_ ?_|refine W2 rfl ?_ ?_|refine W3 rfl ?_ ?_|refine W4 ?_ ?_|refine W5 rfl ?_ ?_|refine W6 ?_ ?_|refine AppN.mk ?_|refine X1 (W1 rfl ?_ ?_)|refine X1 (W2 rfl ?_ ?_)|refine X2 (W7 rfl ?_ ?_)|refine X3 (W7 rfl ?_ ?_)|refine X4 (W7 rfl ?_ ?_)|refine X5 (W7 rfl ?_ ?_))
    all_goals (try (conv => whnf))
    all_goals (try first|exact Ob.mk (u8_bnd _)|(refine Ob.mk ?_;first|exact True.intro|assumption|omega|(try simp only [ZA,ZB,ZC,ZD,ZE,ZF,ZG,ZH,ZI,ZJ,ZK,ZL,ZM,ZN,ZO,Int.toNat_natCast,UInt8.ofNat_toNat,cast_eq] at *;omega)))
    all_goals (try first|(show (_:Int) = _;omega)|(show tupSV _ = _;with_unfolding_all rfl)|((first|show (_:Nat) ≤ _|show (_:Nat) ≤ _ ∧ (_:Nat) ≤ _|show (_:Int) ≤ _ ∧ (_:Int) ≤ _ ∧ (_:Int) ≤ _ ∧ (_:Int) ≤ _);(simp <;> omega)))
    refine LoopStop.mk (α := Bool × Nat × Nat × List UInt8) (fun a => [(7, .int .i64 a.2.2.1), (6, .int .i64 a.2.1)]) (fun a => wrFe a.1 q a.2.2.2) 20 (fun a => WI q s a.1 a.2.1 a.2.2.1 a.2.2.2) (fun a => s.length + 1 - a.2.2.1) (false, 0, 0, [])
      ⟨by simp, by simp, fun _ => ⟨rfl, rfl⟩, (fun h => by cases h), by simp, by simp⟩ ?_ (fun a ha => ?_)
    · repeat' ((conv => whnf);first|(with_reducible first|rfl|exact absTF|exact absFT)|exact True.intro|intro _|refine And.intro ?_ ?_|refine Fin.mk ?_|refine W1 rfl ?_ ?_|refine W2 rfl ?_ ?_|refine W3 rfl ?_ ?_|refine W4 ?_ ?_|refine W5 rfl ?_ ?_|refine W6 ?_ ?_|refine AppN.mk ?_|refine X1 (W1 rfl ?_ ?_)|refine X1 (W2 rfl ?_ ?_)|refine X2 (W7 rfl ?_ ?_)|refine X3 (W7 rfl ?_ ?_)|refine X4 (W7 rfl ?_ ?_)|refine X5 (W7 rfl ?_ ?_))
      all_goals (try (conv => whnf))
      all_goals (try first|exact Ob.mk (u8_bnd _)|(refine Ob.mk ?_;first|exact True.intro|assumption|omega|(try simp only [ZA,ZB,ZC,ZD,ZE,ZF,ZG,ZH,ZI,ZJ,ZK,ZL,ZM,ZN,ZO,Int.toNat_natCast,UInt8.ofNat_toNat,cast_eq] at *;omega)))
      all_goals (try first|(show (_:Int) = _;omega)|(show tupSV _ = _;with_unfolding_all rfl)|((first|show (_:Nat) ≤ _|show (_:Nat) ≤ _ ∧ (_:Nat) ≤ _|show (_:Int) ≤ _ ∧ (_:Int) ≤ _ ∧ (_:Int) ≤ _ ∧ (_:Int) ≤ _);(simp <;> omega)))
      all_goals rfl
    · obtain ⟨u, f, i, b⟩ := a
      have hf := ha.hf
      have hi := ha.hi
      have hbn := ha.bnd
      have e1 : ((i : Int) + 1).toNat = i + 1 := by omega
      have kill : ∀ {P : Prop}, (!(([] : List UInt8) == [])) = true → P := fun h => absurd h (by decide)
      have kill : ∀ {P : Prop}, (!(([] : List UInt8) == [])) = true → P := fun h => absurd h (by decide)
      cases u
      · obtain ⟨rfl, rfl⟩ : f = 0 ∧ b = [] := ha.h0 rfl
        repeat' ((conv => whnf);first|(with_reducible first|rfl|exact absTF|exact absFT)|exact True.intro|intro _|refine And.intro ?_ ?_|refine Fin.mk ?_|refine W1 rfl ?_ ?_|refine W2 rfl ?_ ?_|refine W3 rfl ?_ ?_|refine W4 ?_ ?_|refine W5 rfl ?_ ?_|refine W6 ?_ ?_|refine AppN.mk ?_|refine X1 (W1 rfl ?_ ?_)|refine X1 (W2 rfl ?_ ?_)|refine X2 (W7 rfl ?_ ?_)|refine X3 (W7 rfl ?_ ?_)|refine X4 (W7 rfl ?_ ?_)|refine X5 (W7 rfl ?_ ?_))
        all_goals (try (conv => whnf))
        all_goals (try first|exact Ob.mk (u8_bnd _)|(refine Ob.mk ?_;first|exact True.intro|assumption|omega|(try simp only [ZA,ZB,ZC,ZD,ZE,ZF,ZG,ZH,ZI,ZJ,ZK,ZL,ZM,ZN,ZO,Int.toNat_natCast,UInt8.ofNat_toNat,cast_eq] at *;omega)))
        all_goals (try first|(show (_:Int) = _;omega)|(show tupSV _ = _;with_unfolding_all rfl)|((first|show (_:Nat) ≤ _|show (_:Nat) ≤ _ ∧ (_:Nat) ≤ _|show (_:Int) ≤ _ ∧ (_:Int) ≤ _ ∧ (_:Int) ≤ _ ∧ (_:Int) ≤ _);(simp <;> omega)))
        all_goals (try (exact absurd ‹(!(([38, 97, 109, 112, 59] : List UInt8) == [])) = false› (by decide)))
        all_goals (try (exact absurd ‹(!(([38, 108, 116, 59] : List UInt8) == [])) = false› (by decide)))
        all_goals (try (exact absurd ‹(!(([38, 103, 116, 59] : List UInt8) == [])) = false› (by decide)))
        all_goals (try (exact absurd ‹(!(([38, 113, 117, 111, 116, 59] : List UInt8) == [])) = false› (by decide)))
        all_goals (try (exact absurd ‹(!(([38, 110, 98, 115, 112, 59] : List UInt8) == [])) = false› (by decide)))
        all_goals (try (exact kill ‹_›))
        all_goals (simp only [Int.toNat_natCast, k38, k60, k62, k34, k194, k160, decide_eq_true_eq, decide_eq_false_iff_not] at *)
        all_goals (try (refine ⟨by decide, ?_, by decide⟩; simp; omega))
        all_goals (try (refine ⟨?_, by decide⟩; simp; omega))
        · rename_i hl h1
          have hl' : i < s.length := by omega
          refine Rnd.mk ⟨(true, i + 1, i + 1, [] ++ (s.take i).drop 0 ++ [38, 97, 109, 112, 59]), ha.put hpre hl' (fun h => by have h' := h1; rw [h.1] at h'; cases h') (one38 h1) (by decide), by simp; omega, ?_⟩
          repeat' ((conv => whnf);first|(with_reducible first|rfl|exact absTF|exact absFT)|exact True.intro|intro _|refine And.intro ?_ ?_|refine Fin.mk ?_|refine W1 rfl ?_ ?_|refine W2 rfl ?_ ?_|refine W3 rfl ?_ ?_|refine W4 ?_ ?_|refine W5 rfl ?_ ?_|refine W6 ?_ ?_|refine AppN.mk ?_|refine X1 (W1 rfl ?_ ?_)|refine X1 (W2 rfl ?_ ?_)|refine X2 (W7 rfl ?_ ?_)|refine X3 (W7 rfl ?_ ?_)|refine X4 (W7 rfl ?_ ?_)|refine X5 (W7 rfl ?_ ?_))
          all_goals (try (conv => whnf))
          all_goals (try first|exact Ob.mk (u8_bnd _)|(refine Ob.mk ?_;first|exact True.intro|assumption|omega|(try simp only [ZA,ZB,ZC,ZD,ZE,ZF,ZG,ZH,ZI,ZJ,ZK,ZL,ZM,ZN,ZO,Int.toNat_natCast,UInt8.ofNat_toNat,cast_eq] at *;omega)))
          all_goals (try first|(show (_:Int) = _;omega)|(show tupSV _ = _;with_unfolding_all rfl)|((first|show (_:Nat) ≤ _|show (_:Nat) ≤ _ ∧ (_:Nat) ≤ _|show (_:Int) ≤ _ ∧ (_:Int) ≤ _ ∧ (_:Int) ≤ _ ∧ (_:Int) ≤ _);(simp <;> omega)))
          all_goals (first | rfl | (simp; done) | (simp; omega) | skip)
        · rename_i hl h1 h2
          have hl' : i < s.length := by omega
          refine Rnd.mk ⟨(true, i + 1, i + 1, [] ++ (s.take i).drop 0 ++ [38, 108, 116, 59]), ha.put hpre hl' (fun h => by have h' := h2; rw [h.1] at h'; cases h') (one60 h2) (by decide), by simp; omega, ?_⟩
          repeat' ((conv => whnf);first|(with_reducible first|rfl|exact absTF|exact absFT)|exact True.intro|intro _|refine And.intro ?_ ?_|refine Fin.mk ?_|refine W1 rfl ?_ ?_|refine W2 rfl ?_ ?_|refine W3 rfl ?_ ?_|refine W4 ?_ ?_|refine W5 rfl ?_ ?_|refine W6 ?_ ?_|refine AppN.mk ?_|refine X1 (W1 rfl ?_ ?_)|refine X1 (W2 rfl ?_ ?_)|refine X2 (W7 rfl ?_ ?_)|refine X3 (W7 rfl ?_ ?_)|refine X4 (W7 rfl ?_ ?_)|refine X5 (W7 rfl ?_ ?_))
          all_goals (try (conv => whnf))
          all_goals (try first|exact Ob.mk (u8_bnd _)|(refine Ob.mk ?_;first|exact True.intro|assumption|omega|(try simp only [ZA,ZB,ZC,ZD,ZE,ZF,ZG,ZH,ZI,ZJ,ZK,ZL,ZM,ZN,ZO,Int.toNat_natCast,UInt8.ofNat_toNat,cast_eq] at *;omega)))
          all_goals (try first|(show (_:Int) = _;omega)|(show tupSV _ = _;with_unfolding_all rfl)|((first|show (_:Nat) ≤ _|show (_:Nat) ≤ _ ∧ (_:Nat) ≤ _|show (_:Int) ≤ _ ∧ (_:Int) ≤ _ ∧ (_:Int) ≤ _ ∧ (_:Int) ≤ _);(simp <;> omega)))
          all_goals (first | rfl | (simp; done) | (simp; omega) | skip)
        · rename_i hl h1 h2 h3
          have hl' : i < s.length := by omega
          refine Rnd.mk ⟨(true, i + 1, i + 1, [] ++ (s.take i).drop 0 ++ [38, 103, 116, 59]), ha.put hpre hl' (fun h => by have h' := h3; rw [h.1] at h'; cases h') (one62 h3) (by decide), by simp; omega, ?_⟩
          repeat' ((conv => whnf);first|(with_reducible first|rfl|exact absTF|exact absFT)|exact True.intro|intro _|refine And.intro ?_ ?_|refine Fin.mk ?_|refine W1 rfl ?_ ?_|refine W2 rfl ?_ ?_|refine W3 rfl ?_ ?_|refine W4 ?_ ?_|refine W5 rfl ?_ ?_|refine W6 ?_ ?_|refine AppN.mk ?_|refine X1 (W1 rfl ?_ ?_)|refine X1 (W2 rfl ?_ ?_)|refine X2 (W7 rfl ?_ ?_)|refine X3 (W7 rfl ?_ ?_)|refine X4 (W7 rfl ?_ ?_)|refine X5 (W7 rfl ?_ ?_))
          all_goals (try (conv => whnf))
          all_goals (try first|exact Ob.mk (u8_bnd _)|(refine Ob.mk ?_;first|exact True.intro|assumption|omega|(try simp only [ZA,ZB,ZC,ZD,ZE,ZF,ZG,ZH,ZI,ZJ,ZK,ZL,ZM,ZN,ZO,Int.toNat_natCast,UInt8.ofNat_toNat,cast_eq] at *;omega)))
          all_goals (try first|(show (_:Int) = _;omega)|(show tupSV _ = _;with_unfolding_all rfl)|((first|show (_:Nat) ≤ _|show (_:Nat) ≤ _ ∧ (_:Nat) ≤ _|show (_:Int) ≤ _ ∧ (_:Int) ≤ _ ∧ (_:Int) ≤ _ ∧ (_:Int) ≤ _);(simp <;> omega)))
          all_goals (first | rfl | (simp; done) | (simp; omega) | skip)
        · rename_i hq hr hl h1 h2 h3 h4
          have hl' : i < s.length := by omega
          refine Rnd.mk ⟨(true, i + 1, i + 1, [] ++ (s.take i).drop 0 ++ [38, 113, 117, 111, 116, 59]), ha.put hpre hl' (fun h => by have h' := h4; rw [h.1] at h'; cases h') (one34 h4 hq) (by decide), by simp; omega, ?_⟩
          repeat' ((conv => whnf);first|(with_reducible first|rfl|exact absTF|exact absFT)|exact True.intro|intro _|refine And.intro ?_ ?_|refine Fin.mk ?_|refine W1 rfl ?_ ?_|refine W2 rfl ?_ ?_|refine W3 rfl ?_ ?_|refine W4 ?_ ?_|refine W5 rfl ?_ ?_|refine W6 ?_ ?_|refine AppN.mk ?_|refine X1 (W1 rfl ?_ ?_)|refine X1 (W2 rfl ?_ ?_)|refine X2 (W7 rfl ?_ ?_)|refine X3 (W7 rfl ?_ ?_)|refine X4 (W7 rfl ?_ ?_)|refine X5 (W7 rfl ?_ ?_))
          all_goals (try (conv => whnf))
          all_goals (try first|exact Ob.mk (u8_bnd _)|(refine Ob.mk ?_;first|exact True.intro|assumption|omega|(try simp only [ZA,ZB,ZC,ZD,ZE,ZF,ZG,ZH,ZI,ZJ,ZK,ZL,ZM,ZN,ZO,Int.toNat_natCast,UInt8.ofNat_toNat,cast_eq] at *;omega)))
          all_goals (try first|(show (_:Int) = _;omega)|(show tupSV _ = _;with_unfolding_all rfl)|((first|show (_:Nat) ≤ _|show (_:Nat) ≤ _ ∧ (_:Nat) ≤ _|show (_:Int) ≤ _ ∧ (_:Int) ≤ _ ∧ (_:Int) ≤ _ ∧ (_:Int) ≤ _);(simp <;> omega)))
          all_goals (first | rfl | (simp; done) | (simp; omega) | skip)
        · rename_i hq hr hl h1 h2 h3 h4
          have hl' : i < s.length := by omega
          refine Rnd.mk ⟨(false, 0, i + 1, []), ha.plain hpre hl' (fun h => by have h' := h4; rw [h.1] at h'; cases h') (oneN h1 h2 h3 (by rw [hq]; simp)), by simp; omega, ?_⟩
          repeat' ((conv => whnf);first|(with_reducible first|rfl|exact absTF|exact absFT)|exact True.intro|intro _|refine And.intro ?_ ?_|refine Fin.mk ?_|refine W1 rfl ?_ ?_|refine W2 rfl ?_ ?_|refine W3 rfl ?_ ?_|refine W4 ?_ ?_|refine W5 rfl ?_ ?_|refine W6 ?_ ?_|refine AppN.mk ?_|refine X1 (W1 rfl ?_ ?_)|refine X1 (W2 rfl ?_ ?_)|refine X2 (W7 rfl ?_ ?_)|refine X3 (W7 rfl ?_ ?_)|refine X4 (W7 rfl ?_ ?_)|refine X5 (W7 rfl ?_ ?_))
          all_goals (try (conv => whnf))
          all_goals (try first|exact Ob.mk (u8_bnd _)|(refine Ob.mk ?_;first|exact True.intro|assumption|omega|(try simp only [ZA,ZB,ZC,ZD,ZE,ZF,ZG,ZH,ZI,ZJ,ZK,ZL,ZM,ZN,ZO,Int.toNat_natCast,UInt8.ofNat_toNat,cast_eq] at *;omega)))
          all_goals (try first|(show (_:Int) = _;omega)|(show tupSV _ = _;with_unfolding_all rfl)|((first|show (_:Nat) ≤ _|show (_:Nat) ≤ _ ∧ (_:Nat) ≤ _|show (_:Int) ≤ _ ∧ (_:Int) ≤ _ ∧ (_:Int) ≤ _ ∧ (_:Int) ≤ _);(simp <;> omega)))
          all_goals (first | rfl | (simp; done) | (simp; omega) | skip)
        · rename_i hp hr hl h1 h2 h3 h4 h5
          have hp' := hp
          rw [hasP_nb s i (by omega) (beq_iff_eq.1 h5)] at hp'
          have hp2 := of_decide_eq_true hp'
          have hl' : i < s.length := by omega
          refine Rnd.mk ⟨(true, i + 2, i + 2, [] ++ (s.take i).drop 0 ++ nbsp), ha.put2 hpre hl' ⟨beq_iff_eq.1 h5, hp2.1, hp2.2⟩, by simp; omega, ?_⟩
          repeat' ((conv => whnf);first|(with_reducible first|rfl|exact absTF|exact absFT)|exact True.intro|intro _|refine And.intro ?_ ?_|refine Fin.mk ?_|refine W1 rfl ?_ ?_|refine W2 rfl ?_ ?_|refine W3 rfl ?_ ?_|refine W4 ?_ ?_|refine W5 rfl ?_ ?_|refine W6 ?_ ?_|refine AppN.mk ?_|refine X1 (W1 rfl ?_ ?_)|refine X1 (W2 rfl ?_ ?_)|refine X2 (W7 rfl ?_ ?_)|refine X3 (W7 rfl ?_ ?_)|refine X4 (W7 rfl ?_ ?_)|refine X5 (W7 rfl ?_ ?_))
          all_goals (try (conv => whnf))
          all_goals (try first|exact Ob.mk (u8_bnd _)|(refine Ob.mk ?_;first|exact True.intro|assumption|omega|(try simp only [ZA,ZB,ZC,ZD,ZE,ZF,ZG,ZH,ZI,ZJ,ZK,ZL,ZM,ZN,ZO,Int.toNat_natCast,UInt8.ofNat_toNat,cast_eq] at *;omega)))
          all_goals (try first|(show (_:Int) = _;omega)|(show tupSV _ = _;with_unfolding_all rfl)|((first|show (_:Nat) ≤ _|show (_:Nat) ≤ _ ∧ (_:Nat) ≤ _|show (_:Int) ≤ _ ∧ (_:Int) ≤ _ ∧ (_:Int) ≤ _ ∧ (_:Int) ≤ _);(simp <;> omega)))
          all_goals (first | rfl | (simp; done) | (simp; omega) | skip)
        · rename_i hp hr hl h1 h2 h3 h4 h5
          have hp' := hp
          rw [hasP_nb s i (by omega) (beq_iff_eq.1 h5)] at hp'
          have hp2 := of_decide_eq_false hp'
          have hl' : i < s.length := by omega
          refine Rnd.mk ⟨(false, 0, i + 1, []), ha.plain hpre hl' (fun h => hp2 ⟨h.2.1, h.2.2⟩) (oneN h1 h2 h3 (by rw [h4]; rfl)), by simp; omega, ?_⟩
          repeat' ((conv => whnf);first|(with_reducible first|rfl|exact absTF|exact absFT)|exact True.intro|intro _|refine And.intro ?_ ?_|refine Fin.mk ?_|refine W1 rfl ?_ ?_|refine W2 rfl ?_ ?_|refine W3 rfl ?_ ?_|refine W4 ?_ ?_|refine W5 rfl ?_ ?_|refine W6 ?_ ?_|refine AppN.mk ?_|refine X1 (W1 rfl ?_ ?_)|refine X1 (W2 rfl ?_ ?_)|refine X2 (W7 rfl ?_ ?_)|refine X3 (W7 rfl ?_ ?_)|refine X4 (W7 rfl ?_ ?_)|refine X5 (W7 rfl ?_ ?_))
          all_goals (try (conv => whnf))
          all_goals (try first|exact Ob.mk (u8_bnd _)|(refine Ob.mk ?_;first|exact True.intro|assumption|omega|(try simp only [ZA,ZB,ZC,ZD,ZE,ZF,ZG,ZH,ZI,ZJ,ZK,ZL,ZM,ZN,ZO,Int.toNat_natCast,UInt8.ofNat_toNat,cast_eq] at *;omega)))
          all_goals (try first|(show (_:Int) = _;omega)|(show tupSV _ = _;with_unfolding_all rfl)|((first|show (_:Nat) ≤ _|show (_:Nat) ≤ _ ∧ (_:Nat) ≤ _|show (_:Int) ≤ _ ∧ (_:Int) ≤ _ ∧ (_:Int) ≤ _ ∧ (_:Int) ≤ _);(simp <;> omega)))
          all_goals (first | rfl | (simp; done) | (simp; omega) | skip)
        · rename_i hr hl h1 h2 h3 h4 h5
          have hl' : i < s.length := by omega
          refine Rnd.mk ⟨(false, 0, i + 1, []), ha.plain hpre hl' (ne194 h5) (oneN h1 h2 h3 (by rw [h4]; rfl)), by simp; omega, ?_⟩
          repeat' ((conv => whnf);first|(with_reducible first|rfl|exact absTF|exact absFT)|exact True.intro|intro _|refine And.intro ?_ ?_|refine Fin.mk ?_|refine W1 rfl ?_ ?_|refine W2 rfl ?_ ?_|refine W3 rfl ?_ ?_|refine W4 ?_ ?_|refine W5 rfl ?_ ?_|refine W6 ?_ ?_|refine AppN.mk ?_|refine X1 (W1 rfl ?_ ?_)|refine X1 (W2 rfl ?_ ?_)|refine X2 (W7 rfl ?_ ?_)|refine X3 (W7 rfl ?_ ?_)|refine X4 (W7 rfl ?_ ?_)|refine X5 (W7 rfl ?_ ?_))
          all_goals (try (conv => whnf))
          all_goals (try first|exact Ob.mk (u8_bnd _)|(refine Ob.mk ?_;first|exact True.intro|assumption|omega|(try simp only [ZA,ZB,ZC,ZD,ZE,ZF,ZG,ZH,ZI,ZJ,ZK,ZL,ZM,ZN,ZO,Int.toNat_natCast,UInt8.ofNat_toNat,cast_eq] at *;omega)))
          all_goals (try first|(show (_:Int) = _;omega)|(show tupSV _ = _;with_unfolding_all rfl)|((first|show (_:Nat) ≤ _|show (_:Nat) ≤ _ ∧ (_:Nat) ≤ _|show (_:Int) ≤ _ ∧ (_:Int) ≤ _ ∧ (_:Int) ≤ _ ∧ (_:Int) ≤ _);(simp <;> omega)))
          all_goals (first | rfl | (simp; done) | (simp; omega) | skip)
        all_goals (obtain rfl : i = s.length := by omega)
        all_goals (have hq := ha.eq; rw [escL_end, List.append_nil, List.take_length] at hq)
        · exact ⟨by simpa using hs0, by simp; omega⟩
        · simpa using hq
      · skip
        repeat' ((conv => whnf);first|(with_reducible first|rfl|exact absTF|exact absFT)|exact True.intro|intro _|refine And.intro ?_ ?_|refine Fin.mk ?_|refine W1 rfl ?_ ?_|refine W2 rfl ?_ ?_|refine W3 rfl ?_ ?_|refine W4 ?_ ?_|refine W5 rfl ?_ ?_|refine W6 ?_ ?_|refine AppN.mk ?_|refine X1 (W1 rfl ?_ ?_)|refine X1 (W2 rfl ?_ ?_)|refine X2 (W7 rfl ?_ ?_)|refine X3 (W7 rfl ?_ ?_)|refine X4 (W7 rfl ?_ ?_)|refine X5 (W7 rfl ?_ ?_))
        all_goals (try (conv => whnf))
        all_goals (try first|exact Ob.mk (u8_bnd _)|(refine Ob.mk ?_;first|exact True.intro|assumption|omega|(try simp only [ZA,ZB,ZC,ZD,ZE,ZF,ZG,ZH,ZI,ZJ,ZK,ZL,ZM,ZN,ZO,Int.toNat_natCast,UInt8.ofNat_toNat,cast_eq] at *;omega)))
        all_goals (try first|(show (_:Int) = _;omega)|(show tupSV _ = _;with_unfolding_all rfl)|((first|show (_:Nat) ≤ _|show (_:Nat) ≤ _ ∧ (_:Nat) ≤ _|show (_:Int) ≤ _ ∧ (_:Int) ≤ _ ∧ (_:Int) ≤ _ ∧ (_:Int) ≤ _);(simp <;> omega)))
        all_goals (try (exact absurd ‹(!(([38, 97, 109, 112, 59] : List UInt8) == [])) = false› (by decide)))
        all_goals (try (exact absurd ‹(!(([38, 108, 116, 59] : List UInt8) == [])) = false› (by decide)))
        all_goals (try (exact absurd ‹(!(([38, 103, 116, 59] : List UInt8) == [])) = false› (by decide)))
        all_goals (try (exact absurd ‹(!(([38, 113, 117, 111, 116, 59] : List UInt8) == [])) = false› (by decide)))
        all_goals (try (exact absurd ‹(!(([38, 110, 98, 115, 112, 59] : List UInt8) == [])) = false› (by decide)))
        all_goals (try (exact kill ‹_›))
        all_goals (simp only [Int.toNat_natCast, k38, k60, k62, k34, k194, k160, decide_eq_true_eq, decide_eq_false_iff_not] at *)
        all_goals (try (refine ⟨by decide, ?_, by decide⟩; simp; omega))
        all_goals (try (refine ⟨?_, by decide⟩; simp; omega))
        · rename_i hl h1
          have hl' : i < s.length := by omega
          refine Rnd.mk ⟨(true, i + 1, i + 1, b ++ (s.take i).drop f ++ [38, 97, 109, 112, 59]), ha.put hpre hl' (fun h => by have h' := h1; rw [h.1] at h'; cases h') (one38 h1) (by decide), by simp; omega, ?_⟩
          repeat' ((conv => whnf);first|(with_reducible first|rfl|exact absTF|exact absFT)|exact True.intro|intro _|refine And.intro ?_ ?_|refine Fin.mk ?_|refine W1 rfl ?_ ?_|refine W2 rfl ?_ ?_|refine W3 rfl ?_ ?_|refine W4 ?_ ?_|refine W5 rfl ?_ ?_|refine W6 ?_ ?_|refine AppN.mk ?_|refine X1 (W1 rfl ?_ ?_)|refine X1 (W2 rfl ?_ ?_)|refine X2 (W7 rfl ?_ ?_)|refine X3 (W7 rfl ?_ ?_)|refine X4 (W7 rfl ?_ ?_)|refine X5 (W7 rfl ?_ ?_))
          all_goals (try (conv => whnf))
          all_goals (try first|exact Ob.mk (u8_bnd _)|(refine Ob.mk ?_;first|exact True.intro|assumption|omega|(try simp only [ZA,ZB,ZC,ZD,ZE,ZF,ZG,ZH,ZI,ZJ,ZK,ZL,ZM,ZN,ZO,Int.toNat_natCast,UInt8.ofNat_toNat,cast_eq] at *;omega)))
          all_goals (try first|(show (_:Int) = _;omega)|(show tupSV _ = _;with_unfolding_all rfl)|((first|show (_:Nat) ≤ _|show (_:Nat) ≤ _ ∧ (_:Nat) ≤ _|show (_:Int) ≤ _ ∧ (_:Int) ≤ _ ∧ (_:Int) ≤ _ ∧ (_:Int) ≤ _);(simp <;> omega)))
          all_goals (first | rfl | (simp; done) | (simp; omega) | skip)
        · rename_i hl h1 h2
          have hl' : i < s.length := by omega
          refine Rnd.mk ⟨(true, i + 1, i + 1, b ++ (s.take i).drop f ++ [38, 108, 116, 59]), ha.put hpre hl' (fun h => by have h' := h2; rw [h.1] at h'; cases h') (one60 h2) (by decide), by simp; omega, ?_⟩
          repeat' ((conv => whnf);first|(with_reducible first|rfl|exact absTF|exact absFT)|exact True.intro|intro _|refine And.intro ?_ ?_|refine Fin.mk ?_|refine W1 rfl ?_ ?_|refine W2 rfl ?_ ?_|refine W3 rfl ?_ ?_|refine W4 ?_ ?_|refine W5 rfl ?_ ?_|refine W6 ?_ ?_|refine AppN.mk ?_|refine X1 (W1 rfl ?_ ?_)|refine X1 (W2 rfl ?_ ?_)|refine X2 (W7 rfl ?_ ?_)|refine X3 (W7 rfl ?_ ?_)|refine X4 (W7 rfl ?_ ?_)|refine X5 (W7 rfl ?_ ?_))
          all_goals (try (conv => whnf))
          all_goals (try first|exact Ob.mk (u8_bnd _)|(refine Ob.mk ?_;first|exact True.intro|assumption|omega|(try simp only [ZA,ZB,ZC,ZD,ZE,ZF,ZG,ZH,ZI,ZJ,ZK,ZL,ZM,ZN,ZO,Int.toNat_natCast,UInt8.ofNat_toNat,cast_eq] at *;omega)))
          all_goals (try first|(show (_:Int) = _;omega)|(show tupSV _ = _;with_unfolding_all rfl)|((first|show (_:Nat) ≤ _|show (_:Nat) ≤ _ ∧ (_:Nat) ≤ _|show (_:Int) ≤ _ ∧ (_:Int) ≤ _ ∧ (_:Int) ≤ _ ∧ (_:Int) ≤ _);(simp <;> omega)))
          all_goals (first | rfl | (simp; done) | (simp; omega) | skip)
        · rename_i hl h1 h2 h3
          have hl' : i < s.length := by omega
          refine Rnd.mk ⟨(true, i + 1, i + 1, b ++ (s.take i).drop f ++ [38, 103, 116, 59]), ha.put hpre hl' (fun h => by have h' := h3; rw [h.1] at h'; cases h') (one62 h3) (by decide), by simp; omega, ?_⟩
          repeat' ((conv => whnf);first|(with_reducible first|rfl|exact absTF|exact absFT)|exact True.intro|intro _|refine And.intro ?_ ?_|refine Fin.mk ?_|refine W1 rfl ?_ ?_|refine W2 rfl ?_ ?_|refine W3 rfl ?_ ?_|refine W4 ?_ ?_|refine W5 rfl ?_ ?_|refine W6 ?_ ?_|refine AppN.mk ?_|refine X1 (W1 rfl ?_ ?_)|refine X1 (W2 rfl ?_ ?_)|refine X2 (W7 rfl ?_ ?_)|refine X3 (W7 rfl ?_ ?_)|refine X4 (W7 rfl ?_ ?_)|refine X5 (W7 rfl ?_ ?_))
          all_goals (try (conv => whnf))
          all_goals (try first|exact Ob.mk (u8_bnd _)|(refine Ob.mk ?_;first|exact True.intro|assumption|omega|(try simp only [ZA,ZB,ZC,ZD,ZE,ZF,ZG,ZH,ZI,ZJ,ZK,ZL,ZM,ZN,ZO,Int.toNat_natCast,UInt8.ofNat_toNat,cast_eq] at *;omega)))
          all_goals (try first|(show (_:Int) = _;omega)|(show tupSV _ = _;with_unfolding_all rfl)|((first|show (_:Nat) ≤ _|show (_:Nat) ≤ _ ∧ (_:Nat) ≤ _|show (_:Int) ≤ _ ∧ (_:Int) ≤ _ ∧ (_:Int) ≤ _ ∧ (_:Int) ≤ _);(simp <;> omega)))
          all_goals (first | rfl | (simp; done) | (simp; omega) | skip)
        · rename_i hq hr hl h1 h2 h3 h4
          have hl' : i < s.length := by omega
          refine Rnd.mk ⟨(true, i + 1, i + 1, b ++ (s.take i).drop f ++ [38, 113, 117, 111, 116, 59]), ha.put hpre hl' (fun h => by have h' := h4; rw [h.1] at h'; cases h') (one34 h4 hq) (by decide), by simp; omega, ?_⟩
          repeat' ((conv => whnf);first|(with_reducible first|rfl|exact absTF|exact absFT)|exact True.intro|intro _|refine And.intro ?_ ?_|refine Fin.mk ?_|refine W1 rfl ?_ ?_|refine W2 rfl ?_ ?_|refine W3 rfl ?_ ?_|refine W4 ?_ ?_|refine W5 rfl ?_ ?_|refine W6 ?_ ?_|refine AppN.mk ?_|refine X1 (W1 rfl ?_ ?_)|refine X1 (W2 rfl ?_ ?_)|refine X2 (W7 rfl ?_ ?_)|refine X3 (W7 rfl ?_ ?_)|refine X4 (W7 rfl ?_ ?_)|refine X5 (W7 rfl ?_ ?_))
          all_goals (try (conv => whnf))
          all_goals (try first|exact Ob.mk (u8_bnd _)|(refine Ob.mk ?_;first|exact True.intro|assumption|omega|(try simp only [ZA,ZB,ZC,ZD,ZE,ZF,ZG,ZH,ZI,ZJ,ZK,ZL,ZM,ZN,ZO,Int.toNat_natCast,UInt8.ofNat_toNat,cast_eq] at *;omega)))
          all_goals (try first|(show (_:Int) = _;omega)|(show tupSV _ = _;with_unfolding_all rfl)|((first|show (_:Nat) ≤ _|show (_:Nat) ≤ _ ∧ (_:Nat) ≤ _|show (_:Int) ≤ _ ∧ (_:Int) ≤ _ ∧ (_:Int) ≤ _ ∧ (_:Int) ≤ _);(simp <;> omega)))
          all_goals (first | rfl | (simp; done) | (simp; omega) | skip)
        · rename_i hq hr hl h1 h2 h3 h4
          have hl' : i < s.length := by omega
          refine Rnd.mk ⟨(true, f, i + 1, b), ha.plain hpre hl' (fun h => by have h' := h4; rw [h.1] at h'; cases h') (oneN h1 h2 h3 (by rw [hq]; simp)), by simp; omega, ?_⟩
          repeat' ((conv => whnf);first|(with_reducible first|rfl|exact absTF|exact absFT)|exact True.intro|intro _|refine And.intro ?_ ?_|refine Fin.mk ?_|refine W1 rfl ?_ ?_|refine W2 rfl ?_ ?_|refine W3 rfl ?_ ?_|refine W4 ?_ ?_|refine W5 rfl ?_ ?_|refine W6 ?_ ?_|refine AppN.mk ?_|refine X1 (W1 rfl ?_ ?_)|refine X1 (W2 rfl ?_ ?_)|refine X2 (W7 rfl ?_ ?_)|refine X3 (W7 rfl ?_ ?_)|refine X4 (W7 rfl ?_ ?_)|refine X5 (W7 rfl ?_ ?_))
          all_goals (try (conv => whnf))
          all_goals (try first|exact Ob.mk (u8_bnd _)|(refine Ob.mk ?_;first|exact True.intro|assumption|omega|(try simp only [ZA,ZB,ZC,ZD,ZE,ZF,ZG,ZH,ZI,ZJ,ZK,ZL,ZM,ZN,ZO,Int.toNat_natCast,UInt8.ofNat_toNat,cast_eq] at *;omega)))
          all_goals (try first|(show (_:Int) = _;omega)|(show tupSV _ = _;with_unfolding_all rfl)|((first|show (_:Nat) ≤ _|show (_:Nat) ≤ _ ∧ (_:Nat) ≤ _|show (_:Int) ≤ _ ∧ (_:Int) ≤ _ ∧ (_:Int) ≤ _ ∧ (_:Int) ≤ _);(simp <;> omega)))
          all_goals (first | rfl | (simp; done) | (simp; omega) | skip)
        · rename_i hp hr hl h1 h2 h3 h4 h5
          have hp' := hp
          rw [hasP_nb s i (by omega) (beq_iff_eq.1 h5)] at hp'
          have hp2 := of_decide_eq_true hp'
          have hl' : i < s.length := by omega
          refine Rnd.mk ⟨(true, i + 2, i + 2, b ++ (s.take i).drop f ++ nbsp), ha.put2 hpre hl' ⟨beq_iff_eq.1 h5, hp2.1, hp2.2⟩, by simp; omega, ?_⟩
          repeat' ((conv => whnf);first|(with_reducible first|rfl|exact absTF|exact absFT)|exact True.intro|intro _|refine And.intro ?_ ?_|refine Fin.mk ?_|refine W1 rfl ?_ ?_|refine W2 rfl ?_ ?_|refine W3 rfl ?_ ?_|refine W4 ?_ ?_|refine W5 rfl ?_ ?_|refine W6 ?_ ?_|refine AppN.mk ?_|refine X1 (W1 rfl ?_ ?_)|refine X1 (W2 rfl ?_ ?_)|refine X2 (W7 rfl ?_ ?_)|refine X3 (W7 rfl ?_ ?_)|refine X4 (W7 rfl ?_ ?_)|refine X5 (W7 rfl ?_ ?_))
          all_goals (try (conv => whnf))
          all_goals (try first|exact Ob.mk (u8_bnd _)|(refine Ob.mk ?_;first|exact True.intro|assumption|omega|(try simp only [ZA,ZB,ZC,ZD,ZE,ZF,ZG,ZH,ZI,ZJ,ZK,ZL,ZM,ZN,ZO,Int.toNat_natCast,UInt8.ofNat_toNat,cast_eq] at *;omega)))
          all_goals (try first|(show (_:Int) = _;omega)|(show tupSV _ = _;with_unfolding_all rfl)|((first|show (_:Nat) ≤ _|show (_:Nat) ≤ _ ∧ (_:Nat) ≤ _|show (_:Int) ≤ _ ∧ (_:Int) ≤ _ ∧ (_:Int) ≤ _ ∧ (_:Int) ≤ _);(simp <;> omega)))
          all_goals (first | rfl | (simp; done) | (simp; omega) | skip)
        · rename_i hp hr hl h1 h2 h3 h4 h5
          have hp' := hp
          rw [hasP_nb s i (by omega) (beq_iff_eq.1 h5)] at hp'
          have hp2 := of_decide_eq_false hp'
          have hl' : i < s.length := by omega
          refine Rnd.mk ⟨(true, f, i + 1, b), ha.plain hpre hl' (fun h => hp2 ⟨h.2.1, h.2.2⟩) (oneN h1 h2 h3 (by rw [h4]; rfl)), by simp; omega, ?_⟩
          repeat' ((conv => whnf);first|(with_reducible first|rfl|exact absTF|exact absFT)|exact True.intro|intro _|refine And.intro ?_ ?_|refine Fin.mk ?_|refine W1 rfl ?_ ?_|refine W2 rfl ?_ ?_|refine W3 rfl ?_ ?_|refine W4 ?_ ?_|refine W5 rfl ?_ ?_|refine W6 ?_ ?_|refine AppN.mk ?_|refine X1 (W1 rfl ?_ ?_)|refine X1 (W2 rfl ?_ ?_)|refine X2 (W7 rfl ?_ ?_)|refine X3 (W7 rfl ?_ ?_)|refine X4 (W7 rfl ?_ ?_)|refine X5 (W7 rfl ?_ ?_))
          all_goals (try (conv => whnf))
          all_goals (try first|exact Ob.mk (u8_bnd _)|(refine Ob.mk ?_;first|exact True.intro|assumption|omega|(try simp only [ZA,ZB,ZC,ZD,ZE,ZF,ZG,ZH,ZI,ZJ,ZK,ZL,ZM,ZN,ZO,Int.toNat_natCast,UInt8.ofNat_toNat,cast_eq] at *;omega)))
          all_goals (try first|(show (_:Int) = _;omega)|(show tupSV _ = _;with_unfolding_all rfl)|((first|show (_:Nat) ≤ _|show (_:Nat) ≤ _ ∧ (_:Nat) ≤ _|show (_:Int) ≤ _ ∧ (_:Int) ≤ _ ∧ (_:Int) ≤ _ ∧ (_:Int) ≤ _);(simp <;> omega)))
          all_goals (first | rfl | (simp; done) | (simp; omega) | skip)
        · rename_i hr hl h1 h2 h3 h4 h5
          have hl' : i < s.length := by omega
          refine Rnd.mk ⟨(true, f, i + 1, b), ha.plain hpre hl' (ne194 h5) (oneN h1 h2 h3 (by rw [h4]; rfl)), by simp; omega, ?_⟩
          repeat' ((conv => whnf);first|(with_reducible first|rfl|exact absTF|exact absFT)|exact True.intro|intro _|refine And.intro ?_ ?_|refine Fin.mk ?_|refine W1 rfl ?_ ?_|refine W2 rfl ?_ ?_|refine W3 rfl ?_ ?_|refine W4 ?_ ?_|refine W5 rfl ?_ ?_|refine W6 ?_ ?_|refine AppN.mk ?_|refine X1 (W1 rfl ?_ ?_)|refine X1 (W2 rfl ?_ ?_)|refine X2 (W7 rfl ?_ ?_)|refine X3 (W7 rfl ?_ ?_)|refine X4 (W7 rfl ?_ ?_)|refine X5 (W7 rfl ?_ ?_))
          all_goals (try (conv => whnf))
          all_goals (try first|exact Ob.mk (u8_bnd _)|(refine Ob.mk ?_;first|exact True.intro|assumption|omega|(try simp only [ZA,ZB,ZC,ZD,ZE,ZF,ZG,ZH,ZI,ZJ,ZK,ZL,ZM,ZN,ZO,Int.toNat_natCast,UInt8.ofNat_toNat,cast_eq] at *;omega)))
          all_goals (try first|(show (_:Int) = _;omega)|(show tupSV _ = _;with_unfolding_all rfl)|((first|show (_:Nat) ≤ _|show (_:Nat) ≤ _ ∧ (_:Nat) ≤ _|show (_:Int) ≤ _ ∧ (_:Int) ≤ _ ∧ (_:Int) ≤ _ ∧ (_:Int) ≤ _);(simp <;> omega)))
          all_goals (first | rfl | (simp; done) | (simp; omega) | skip)
        all_goals (obtain rfl : i = s.length := by omega)
        all_goals (have hq := ha.eq; rw [escL_end, List.append_nil, List.take_length] at hq)
        all_goals (first | (exact fun h => ha.h1 rfl (by simp at h; exact h.1)) | (simp; omega) | (rw [List.append_nil]; exact hq) | (rw [hq, List.append_nil]) | trace_state)
end Go.Vc

namespace Go.Vc
open Go.Proofs
set_option maxRecDepth 10000
set_option maxHeartbeats 4000000
instance eText (s : List UInt8) : Fn BB 6 [.str s] (s.length ≤ 100000) (.str (escL false s)) := by
  refine Fn.intro (N := 5) [0, 2] [] Tryd.call6 Tryd.func6 rfl rfl (by kernel_rfl) (fun hpre => ?_)
  repeat' ((conv => whnf);first|(with_reducible first|rfl|exact absTF|exact absFT)|exact True.intro|intro _|refine And.intro ?_ ?_|refine Fin.mk ?_|refine W1 rfl ?_ ?_|refine W2 rfl ?_ ?_|refine W3 rfl ?_ ?_|refine W4 ?_ ?_|refine W5 rfl ?_ ?_|refine W6 ?_ ?_|refine AppN.mk ?_|refine X1 (W1 rfl ?_ ?_)|refine X1 (W2 rfl ?_ ?_)|refine X2 (W7 rfl ?_ ?_)|refine X3 (W7 rfl ?_ ?_)|refine X4 (W7 rfl ?_ ?_)|refine X5 (W7 rfl ?_ ?_))
  all_goals (try (conv => whnf))
  all_goals (try first|exact Ob.mk (u8_bnd _)|(refine Ob.mk ?_;first|exact True.intro|assumption|omega|(try simp only [ZA,ZB,ZC,ZD,ZE,ZF,ZG,ZH,ZI,ZJ,ZK,ZL,ZM,ZN,ZO,Int.toNat_natCast,UInt8.ofNat_toNat,cast_eq] at *;omega)))
  all_goals (try first|(show (_:Int) = _;omega)|(show tupSV _ = _;with_unfolding_all rfl)|((first|show (_:Nat) ≤ _|show (_:Nat) ≤ _ ∧ (_:Nat) ≤ _|show (_:Int) ≤ _ ∧ (_:Int) ≤ _ ∧ (_:Int) ≤ _ ∧ (_:Int) ≤ _);(simp <;> omega)))
end Go.Vc

namespace Go.Vc
set_option autoImplicit false
set_option maxRecDepth 10000
theorem upto_app (x r : List UInt8) (n : Nat) (h : n + 1 ≤ x.length) : upto (x ++ r) n = upto x n := by
  unfold upto
  rw [List.take_append_of_le_length h]
theorem rd_ref (nm r : List UInt8) (v : Bool) (k : Nat) (c : UInt8) (hk : nm.length = k + 3) (h0 : nm.getD 0 0 = 38) (h1 : nm.getD 1 0 ≠ 35) (hal : ∀ j < k + 1, anB (nm.getD (j + 1) 0) = true) (hk8 : k + 1 < 8)
    (h59 : nm.getD (k + 2) 0 = 59) (hn : named (upto nm (k + 2)) = ([c], true)) : rdP (nm ++ r) v = ([c], (k : Int) + 3) := by
  have hget : ∀ j, j < k + 3 → (nm ++ r).getD j 0 = nm.getD j 0 := fun j hj => by
    simp only [List.getD]; rw [List.getElem?_append_left (by omega)]
  have hlen : (nm ++ r).length = k + 3 + r.length := by simp [hk]
  have hd : ∀ j, ((nm ++ r).drop 1).getD j 0 = (nm ++ r).getD (j + 1) 0 := fun j => by simp [List.getD, Nat.add_comm]
  have hL : letN 8 ((nm ++ r).drop 1) = k + 1 := by
    have l1 := letN_max (k := 8) (l := (nm ++ r).drop 1) (n := k + 1) (by omega) (by rw [List.length_drop]; omega) (fun j hj => by rw [hd, hget _ (by omega)]; exact hal j hj)
    have l2 := (letN_le 8 ((nm ++ r).drop 1)).2.2
    rcases Nat.lt_or_ge (k + 1) (letN 8 ((nm ++ r).drop 1)) with h | h
    · have := l2 (k + 1) h
      rw [hd, hget _ (by omega), h59] at this
      exact absurd this (by decide)
    · omega
  have hs : semiOk (nm ++ r) (k + 1) = true := by
    unfold semiOk
    rw [upto_app nm r _ (by omega), hn, hget _ (by omega), h59]
    simp
    omega
  unfold rdP
  rw [if_neg (by rw [hget 0 (by omega), h0]; simp; omega), hget 1 (by omega), if_neg h1, hL, if_pos hs, upto_app nm r _ (by omega), hn]
  simp; omega
theorem dec_ref (nm r : List UInt8) (v : Bool) (k : Nat) (c : UInt8) (hk : nm.length = k + 3) (h0 : nm.getD 0 0 = 38) (h1 : nm.getD 1 0 ≠ 35) (hal : ∀ j < k + 1, anB (nm.getD (j + 1) 0) = true) (hk8 : k + 1 < 8)
    (h59 : nm.getD (k + 2) 0 = 59) (hn : named (upto nm (k + 2)) = ([c], true)) : decF (nm ++ r) v = c :: decF r v := by
  have e := rd_ref nm r v k c hk h0 h1 hal hk8 h59 hn
  have hne : nm ++ r ≠ [] := fun h => by have := congrArg List.length h; simp at this; simp [this.1] at hk
  rw [decF_step v hne, e]
  have : ((k : Int) + 3).toNat = nm.length := by omega
  rw [if_neg (by simp; omega)]
  simp only [this, List.drop_left]
  rfl
theorem dec_amp (r : List UInt8) (v : Bool) : decF ([38, 97, 109, 112, 59] ++ r) v = 38 :: decF r v :=
  dec_ref _ r v 2 38 rfl rfl (by decide) (by decide) (by decide) rfl (by decide +kernel)
theorem dec_lt (r : List UInt8) (v : Bool) : decF ([38, 108, 116, 59] ++ r) v = 60 :: decF r v :=
  dec_ref _ r v 1 60 rfl rfl (by decide) (by decide) (by decide) rfl (by decide +kernel)
theorem dec_gt (r : List UInt8) (v : Bool) : decF ([38, 103, 116, 59] ++ r) v = 62 :: decF r v :=
  dec_ref _ r v 1 62 rfl rfl (by decide) (by decide) (by decide) rfl (by decide +kernel)
theorem dec_quot (r : List UInt8) (v : Bool) : decF ([38, 113, 117, 111, 116, 59] ++ r) v = 34 :: decF r v :=
  dec_ref _ r v 3 34 rfl rfl (by decide) (by decide) (by decide) rfl (by decide +kernel)
theorem dec_nbsp (r : List UInt8) (v : Bool) : decF (nbsp ++ r) v = 194 :: 160 :: decF r v := by
  have e : rdP (nbsp ++ r) v = ([194, 160], 6) := by
    have hL : letN 8 ((nbsp ++ r).drop 1) = 4 := by
      show letN 8 (110 :: 98 :: 115 :: 112 :: 59 :: r) = 4
      have a1 : anB 110 = true := by decide
      have a2 : anB 98 = true := by decide
      have a3 : anB 115 = true := by decide
      have a4 : anB 112 = true := by decide
      have a5 : anB 59 = false := by decide
      simp [letN, a1, a2, a3, a4, a5]
    have hn : named (upto (nbsp ++ r) 5) = ([194, 160], true) := by
      rw [upto_app nbsp r _ (by decide)]; decide +kernel
    have hs : semiOk (nbsp ++ r) 4 = true := by
      unfold semiOk
      rw [hn]
      simp [nbsp]
    unfold rdP
    rw [if_neg (by simp [nbsp]), if_neg (by simp [nbsp]), hL, if_pos hs, hn]
    rfl
  have hne : nbsp ++ r ≠ [] := by simp [nbsp]
  rw [decF_step v hne, e, if_neg (by decide)]
  rfl
theorem dec_plain (c : UInt8) (r : List UInt8) (v : Bool) (h : c ≠ 38) : decF (c :: r) v = c :: decF r v := by
  have e : rdP (c :: r) v = ([], 0) := by
    unfold rdP; rw [if_pos (.inr (by simpa using h))]
  rw [decF_step v (by simp), e]
  rfl
theorem dec_one (q v : Bool) (c : UInt8) (r : List UInt8) : decF (oneB q c ++ r) v = c :: decF r v := by
  unfold oneB refB
  by_cases h1 : c = 38
  · subst h1; exact dec_amp r v
  · have e1 : (c == 38) = false := beq_eq_false_iff_ne.2 h1
    rw [e1]
    by_cases h2 : c = 60
    · subst h2; exact dec_lt r v
    · have e2 : (c == 60) = false := beq_eq_false_iff_ne.2 h2
      rw [e2]
      by_cases h3 : c = 62
      · subst h3; exact dec_gt r v
      · have e3 : (c == 62) = false := beq_eq_false_iff_ne.2 h3
        rw [e3]
        cases h4 : (c == 34 && q)
        · exact dec_plain c r v h1
        · have : c = 34 := by simp at h4; exact h4.1
          subst this
          exact dec_quot r v
theorem dec_esc (q v : Bool) : ∀ l : List UInt8, decF (escL q l) v = l
  | [] => rfl
  | [c] => by
    have := dec_one q v c []
    rw [List.append_nil] at this
    exact this
  | c :: d :: r => by
    have h1 := dec_esc q v r
    have h2 := dec_esc q v (d :: r)
    unfold escL
    cases h : (c == 194 && d == 160)
    · rw [cond_false, dec_one, h2]
    · simp only [Bool.and_eq_true, beq_iff_eq] at h
      obtain ⟨rfl, rfl⟩ := h
      rw [cond_true, dec_nbsp, h1]
theorem esc_free (q : Bool) (cs : List UInt8) (hcs : ∀ c ∈ cs, c = 60 ∨ c = 62 ∨ (c = 34 ∧ q = true)) : ∀ (l : List UInt8), ∀ b ∈ escL q l, cs.contains b = false
  | [], b, hb => by cases hb
  | [c], b, hb => one c b hb
  | c :: d :: r, b, hb => by
    have h1 := esc_free q cs hcs r
    have h2 := esc_free q cs hcs (d :: r)
    unfold escL at hb
    cases h : (c == 194 && d == 160)
    · rw [h, cond_false, List.mem_append] at hb
      rcases hb with hb | hb
      · exact one c b hb
      · exact h2 b hb
    · rw [h, cond_true, List.mem_append] at hb
      rcases hb with hb | hb
      · refine fr b ?_ ?_
        all_goals (revert hb; simp only [nbsp, List.mem_cons, List.not_mem_nil, or_false]; rintro (rfl | rfl | rfl | rfl | rfl | rfl) <;> simp)
      · exact h1 b hb
where
  fr (b : UInt8) (h1 : b ≠ 60 ∧ b ≠ 62) (h2 : b = 34 → q = false) : cs.contains b = false := by
    rw [Bool.eq_false_iff]
    intro h
    rw [List.contains_iff_mem] at h
    rcases hcs b h with e | e | ⟨e, e'⟩
    · exact h1.1 e
    · exact h1.2 e
    · rw [h2 e] at e'; cases e'
  one (c b : UInt8) (hb : b ∈ oneB q c) : cs.contains b = false := by
    unfold oneB refB at hb
    by_cases h1 : c = 38
    · subst h1
      refine fr b ?_ ?_
      all_goals (revert hb; simp; rintro (rfl | rfl | rfl | rfl | rfl) <;> simp)
    · have e1 : (c == 38) = false := beq_eq_false_iff_ne.2 h1
      rw [e1] at hb
      by_cases h2 : c = 60
      · subst h2
        refine fr b ?_ ?_
        all_goals (revert hb; simp; rintro (rfl | rfl | rfl | rfl) <;> simp)
      · have e2 : (c == 60) = false := beq_eq_false_iff_ne.2 h2
        rw [e2] at hb
        by_cases h3 : c = 62
        · subst h3
          refine fr b ?_ ?_
          all_goals (revert hb; simp; rintro (rfl | rfl | rfl | rfl) <;> simp)
        · have e3 : (c == 62) = false := beq_eq_false_iff_ne.2 h3
          rw [e3] at hb
          cases h4 : (c == 34 && q)
          · rw [h4] at hb
            simp at hb
            subst hb
            refine fr b ⟨h2, h3⟩ (fun e => ?_)
            subst e; simpa using h4
          · rw [h4] at hb
            refine fr b ?_ ?_
            all_goals (revert hb; simp; rintro (rfl | rfl | rfl | rfl | rfl | rfl) <;> simp)
end Go.Vc
