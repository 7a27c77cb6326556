/- A part of the proof: lemmas and walks that the last text of the claim joins; no condition. -/
import Derived.Test.YtgggnkinalmmlaaTagBackTE
import Derived.Lib.CountLaws
import Derived.Lib.AsciiSet
import Derived.Lib.IndexAny
set_option linter.unusedVariables false
set_option linter.unusedSimpArgs false
namespace Go.Vc
open Go.Proofs
set_option linter.unusedVariables false
set_option maxRecDepth 10000
set_option linter.unusedSimpArgs false
set_option maxHeartbeats 4000000
abbrev AttrD := List UInt8 × List UInt8
def blB (c : UInt8) : Bool := W.isSp c.toNat
/-- how far a text goes on so -/
def twN (p : UInt8 → Bool) (l : List UInt8) : Nat := (l.takeWhile p).length
theorem twN_le (p : UInt8 → Bool) (l : List UInt8) : twN p l ≤ l.length := (List.takeWhile_sublist p (l := l)).length_le
theorem tw_at (p : UInt8 → Bool) (s : List UInt8) (i : Nat) (h : i < s.length) : twN p (s.drop i) = if p (s.getD i 0) = true then twN p (s.drop (i + 1)) + 1 else 0 := by
  have e : s.getD i 0 = s[i] := by simp [List.getD, List.getElem?_eq_getElem h]
  rw [e]
  unfold twN
  rw [List.drop_eq_getElem_cons h, List.takeWhile_cons]
  split <;> simp
theorem tw_end (p : UInt8 → Bool) (s : List UInt8) (i : Nat) (h : s.length ≤ i) : twN p (s.drop i) = 0 := by
  rw [List.drop_eq_nil_of_le h]; rfl
def upTo (p : UInt8 → Bool) (s : List UInt8) (i : Nat) : Nat := i + twN p (s.drop i)
theorem upTo_le (p : UInt8 → Bool) (s : List UInt8) (i : Nat) (h : i ≤ s.length) : i ≤ upTo p s i ∧ upTo p s i ≤ s.length := by
  have := twN_le p (s.drop i)
  rw [List.length_drop] at this
  unfold upTo; omega
theorem upTo_step (p : UInt8 → Bool) (s : List UInt8) (i : Nat) (h : i < s.length) (hp : p (s.getD i 0) = true) : upTo p s (i + 1) = upTo p s i := by
  unfold upTo
  rw [tw_at p s i h, if_pos hp]; omega
theorem upTo_stop (p : UInt8 → Bool) (s : List UInt8) (i : Nat) (h : i < s.length) (hp : p (s.getD i 0) = false) : upTo p s i = i := by
  unfold upTo
  rw [tw_at p s i h, hp]; rfl
theorem upTo_end (p : UInt8 → Bool) (s : List UInt8) (i : Nat) (h : s.length ≤ i) : upTo p s i = i := by
  unfold upTo
  rw [tw_end p s i h]; rfl
def stP (st : List UInt8) (c : UInt8) : Bool := !blB c && !st.contains c
/-- a scanner -/
abbrev scC (s : List UInt8) (i : Int) (k : Int) (nm : List UInt8) (y : SV) (sf : Bool) (da x : List UInt8) : Chunk := .box [.str s, .int .i64 i, .int .i64 k, .str nm, y, .bool sf, .str da, .str x]
theorem b_iff (c k : UInt8) : ((c.toNat : Int) == (k.toNat : Int)) = (c == k) := by
  rw [Bool.eq_iff_iff, beq_iff_eq, beq_iff_eq]
  constructor
  · intro h; exact UInt8.toNat_inj.1 (by omega)
  · rintro rfl; rfl
theorem FnM.weaken {f : FuncId} {args : List SV} {Φ Φ' : Phi} {pre pre' : Prop} {res : SV} (h : FnM BB f args Φ pre res Φ') (hp : pre' → pre) : FnM BB f args Φ pre' res Φ' := ⟨h.1, fun q => h.2 (hp q)⟩
theorem FnM.ofNat' {f : FuncId} {args : Int → List SV} {Φ Φ' : Int → Phi} {pre : Int → Prop} {res : Int → SV} (i : Int) (h0 : pre i → 0 ≤ i) (h : ∀ n : Nat, FnM BB f (args n) (Φ n) (pre n) (res n) (Φ' n)) : FnM BB f (args i) (Φ i) (pre i) (res i) (Φ' i) :=
  ⟨(h 0).1, fun q => by obtain ⟨n, rfl⟩ := Int.eq_ofNat_of_zero_le (h0 q); exact (h n).2 q⟩
theorem ixb_le (l : List UInt8) (c : UInt8) : Lib.indexByte l c + 1 ≤ l.length ∨ Lib.indexByte l c = -1 := by
  induction l with
  | nil => right; rfl
  | cons b r ih => unfold Lib.indexByte; simp only [List.length_cons]; split
                   · left; omega
                   · split
                     · right; rfl
                     · left; rename_i h; simp at h; omega
def qB (c : UInt8) : Bool := c == 34 || c == 39
/-- the value at a place: what it is, the place behind it, and whether it ends -/
def valS (s : List UInt8) (i : Nat) : List UInt8 × Nat × Bool :=
  if qB (s.getD i 0) = true then (if Lib.indexByte (s.drop (i + 1)) (s.getD i 0) < 0 then ([], i, false) else ((s.drop (i + 1)).take (Lib.indexByte (s.drop (i + 1)) (s.getD i 0)).toNat, i + (Lib.indexByte (s.drop (i + 1)) (s.getD i 0)).toNat + 2, true))
  else ((s.take (upTo (stP [62]) s i)).drop i, upTo (stP [62]) s i, true)
theorem ixb (l : List UInt8) (c : UInt8) : decide (Lib.indexByte l ((c.toNat : Int)).toNat.toUInt8 < 0) = !l.contains c := by
  have e : ((c.toNat : Int)).toNat.toUInt8 = c := by simp
  rw [e]
  induction l with
  | nil => rfl
  | cons b r ih =>
    unfold Lib.indexByte
    rw [List.contains_cons]
    have hg := Lib.indexByte_ge r c
    by_cases h : b = c
    · subst h; simp
    · have e1 : (b == c) = false := beq_eq_false_iff_ne.2 h
      have e2 : (c == b) = false := beq_eq_false_iff_ne.2 (fun q => h q.symm)
      rw [e1, e2, Bool.false_or, ← ih]
      simp only [Bool.false_eq_true, if_false]
      by_cases q : Lib.indexByte r c = -1
      · rw [q]; rfl
      · have : (Lib.indexByte r c == -1) = false := beq_eq_false_iff_ne.2 q
        rw [this]
        simp only [Bool.false_eq_true, if_false]
        rw [Bool.eq_iff_iff]; simp; omega

theorem tOverAn (s nm da x : List UInt8) (i : Nat) (k : Int) (sf : Bool) : FnM BB 15 [.loc 0 0] [(0, scC s i k nm .nils sf da x)] True (.bool (decide ((i : Int) ≥ (s.length : Int)))) [(0, scC s i k nm .nils sf da x)] := by
  refine FnM.intro (N := 13) [0, 2] [(1, [0, 0, 0, 1, 0, 0, 0, 1, 1, 3, 3])] 1 Try.call15 Try.func15 rfl rfl (by kernel_rfl) (fun hpre => ?_)
  repeat' ((conv => whnf); first | (with_reducible rfl) | exact True.intro | (with_reducible exact absTF) | (with_reducible exact absFT) | intro _ | refine And.intro ?_ ?_ | refine Fin.mk ?_ | refine CallG.plain rfl ?_ ?_ | refine CallG.mk rfl ?_ ?_ | refine CallG.nwl rfl ?_ ?_ | refine CallG.nw ?_ ?_ | refine CallF.nwl rfl ?_ ?_ | refine CallF.nw ?_ ?_ | refine AppN.mk ?_ | (refine CallS.q ?_; (conv => whnf); first | refine CallG.plain rfl ?_ ?_ | refine CallG.mk rfl ?_ ?_) | (refine CallS.m ?_; (conv => whnf); refine CallM.mk rfl ?_ ?_) | (refine CallS.h ?_; (conv => whnf); refine CallM.mk rfl ?_ ?_) | (refine CallS.b ?_; (conv => whnf); refine CallM.mk rfl ?_ ?_) | (refine CallS.z ?_; (conv => whnf); refine CallM.mk rfl ?_ ?_))
  all_goals (try (conv => whnf))
  all_goals (try (exact Ob.mk (u8_bnd _)))
  all_goals (try (refine Ob.mk ?_; first | exact True.intro | assumption | omega | (try simp only [decide_eq_true_eq, decide_eq_false_iff_not, beq_iff_eq, beq_eq_false_iff_ne, bne_iff_ne, bne_eq_false_iff_eq, ne_eq, Bool.and_eq_true, Bool.or_eq_true, Bool.not_eq_true, Bool.not_eq_false, Bool.not_eq_true', Bool.not_eq_false', Int.toNat_natCast, Int.not_lt, Int.not_le, UInt8.ofNat_toNat, cast_eq] at *; omega)))
  all_goals (try ((show (_:Int) = _); omega))
  all_goals (try (show tupSV _ = _; with_unfolding_all rfl))
  all_goals (try ((show (_ : Nat) ≤ _); (simp <;> omega)))
  all_goals (try ((show (_ : Nat) ≤ _ ∧ (_ : Nat) ≤ _); (simp <;> omega)))
  all_goals (try ((show (_ : Int) ≤ _ ∧ (_ : Int) ≤ _ ∧ (_ : Int) ≤ _ ∧ (_ : Int) ≤ _); (simp <;> omega)))
theorem tIsAn (s nm da x : List UInt8) (i : Nat) (k : Int) (sf : Bool) (c : Int) : FnM BB 34 [.loc 0 0, .int .u8 c] [(0, scC s i k nm .nils sf da x)] True (.bool (decide ((i : Int) < (s.length : Int)) && ((s.getD i 0).toNat : Int) == c)) [(0, scC s i k nm .nils sf da x)] := by
  refine FnM.intro (N := 28) [0, 1, 4] [(1, [0, 0, 0, 1, 0, 0, 0, 1, 1, 1, 1, 1, 1, 1, 1, 1, 1, 1, 1, 1, 1, 3, 3, 3])] 1 Try.call34 Try.func34 rfl rfl (by kernel_rfl) (fun hpre => ?_)
  repeat' ((conv => whnf); first | (with_reducible rfl) | exact True.intro | (with_reducible exact absTF) | (with_reducible exact absFT) | intro _ | refine And.intro ?_ ?_ | refine Fin.mk ?_ | refine CallG.plain rfl ?_ ?_ | refine CallG.mk rfl ?_ ?_ | refine CallG.nwl rfl ?_ ?_ | refine CallG.nw ?_ ?_ | refine CallF.nwl rfl ?_ ?_ | refine CallF.nw ?_ ?_ | refine AppN.mk ?_ | (refine CallS.q ?_; (conv => whnf); first | refine CallG.plain rfl ?_ ?_ | refine CallG.mk rfl ?_ ?_) | (refine CallS.m ?_; (conv => whnf); refine CallM.mk rfl ?_ ?_) | (refine CallS.h ?_; (conv => whnf); refine CallM.mk rfl ?_ ?_) | (refine CallS.b ?_; (conv => whnf); refine CallM.mk rfl ?_ ?_) | (refine CallS.z ?_; (conv => whnf); refine CallM.mk rfl ?_ ?_))
  all_goals (try (conv => whnf))
  all_goals (try (exact Ob.mk (u8_bnd _)))
  all_goals (try (refine Ob.mk ?_; first | exact True.intro | assumption | omega | (try simp only [decide_eq_true_eq, decide_eq_false_iff_not, beq_iff_eq, beq_eq_false_iff_ne, bne_iff_ne, bne_eq_false_iff_eq, ne_eq, Bool.and_eq_true, Bool.or_eq_true, Bool.not_eq_true, Bool.not_eq_false, Bool.not_eq_true', Bool.not_eq_false', Int.toNat_natCast, Int.not_lt, Int.not_le, UInt8.ofNat_toNat, cast_eq] at *; omega)))
  all_goals (try ((show (_:Int) = _); omega))
  all_goals (try (show tupSV _ = _; with_unfolding_all rfl))
  all_goals (try ((show (_ : Nat) ≤ _); (simp <;> omega)))
  all_goals (try ((show (_ : Nat) ≤ _ ∧ (_ : Nat) ≤ _); (simp <;> omega)))
  all_goals (try ((show (_ : Int) ≤ _ ∧ (_ : Int) ≤ _ ∧ (_ : Int) ≤ _ ∧ (_ : Int) ≤ _); (simp <;> omega)))
  all_goals (first | rfl | omega | trace_state)
theorem tBlanksAn (s nm da x : List UInt8) (i : Nat) (k : Int) (sf : Bool) : FnM BB 33 [.loc 0 0] [(0, scC s i k nm .nils sf da x)] (i ≤ s.length ∧ s.length ≤ 100000) (.tup []) [(0, scC s (upTo blB s i : Nat) k nm .nils sf da x)] := by
  refine FnM.intro (N := 31) [0, 23] [(0, [0, 0, 0, 1, 0, 0, 0, 1, 1, 1, 1, 1, 1, 1, 1, 1, 1, 1, 1, 3, 3, 3])] 1 Try.call33 Try.func33 rfl rfl (by kernel_rfl) (fun hpre => ?_)
  obtain ⟨p1, p2⟩ := hpre
  repeat' ((conv => whnf); first | (with_reducible rfl) | exact True.intro | (with_reducible exact absTF) | (with_reducible exact absFT) | intro _ | refine And.intro ?_ ?_ | refine Fin.mk ?_ | refine CallG.plain rfl ?_ ?_ | refine CallG.mk rfl ?_ ?_ | refine CallG.nwl rfl ?_ ?_ | refine CallG.nw ?_ ?_ | refine CallF.nwl rfl ?_ ?_ | refine CallF.nw ?_ ?_ | refine AppN.mk ?_ | (refine CallS.q ?_; (conv => whnf); first | refine CallG.plain rfl ?_ ?_ | refine CallG.mk rfl ?_ ?_) | (refine CallS.m ?_; (conv => whnf); refine CallM.mk rfl ?_ ?_) | (refine CallS.h ?_; (conv => whnf); refine CallM.mk rfl ?_ ?_) | (refine CallS.b ?_; (conv => whnf); refine CallM.mk rfl ?_ ?_) | (refine CallS.z ?_; (conv => whnf); refine CallM.mk rfl ?_ ?_))
  all_goals (try (conv => whnf))
  all_goals (try (exact Ob.mk (u8_bnd _)))
  all_goals (try (refine Ob.mk ?_; first | exact True.intro | assumption | omega | (try simp only [decide_eq_true_eq, decide_eq_false_iff_not, beq_iff_eq, beq_eq_false_iff_ne, bne_iff_ne, bne_eq_false_iff_eq, ne_eq, Bool.and_eq_true, Bool.or_eq_true, Bool.not_eq_true, Bool.not_eq_false, Bool.not_eq_true', Bool.not_eq_false', Int.toNat_natCast, Int.not_lt, Int.not_le, UInt8.ofNat_toNat, cast_eq] at *; omega)))
  all_goals (try ((show (_:Int) = _); omega))
  all_goals (try (show tupSV _ = _; with_unfolding_all rfl))
  all_goals (try ((show (_ : Nat) ≤ _); (simp <;> omega)))
  all_goals (try ((show (_ : Nat) ≤ _ ∧ (_ : Nat) ≤ _); (simp <;> omega)))
  all_goals (try ((show (_ : Int) ≤ _ ∧ (_ : Int) ≤ _ ∧ (_ : Int) ≤ _ ∧ (_ : Int) ≤ _); (simp <;> omega)))
  refine LoopStop.mk (α := Nat) (fun j => []) (fun j => [(0, scC s j k nm .nils sf da x)]) 20 (fun j => j ≤ s.length ∧ upTo blB s j = upTo blB s i) (fun j => s.length - j) i ⟨p1, rfl⟩ ?_ (fun j hj => ?_)
  · repeat' ((conv => whnf); first | (with_reducible rfl) | exact True.intro | (with_reducible exact absTF) | (with_reducible exact absFT) | intro _ | refine And.intro ?_ ?_ | refine Fin.mk ?_ | refine CallG.plain rfl ?_ ?_ | refine CallG.mk rfl ?_ ?_ | refine CallG.nwl rfl ?_ ?_ | refine CallG.nw ?_ ?_ | refine CallF.nwl rfl ?_ ?_ | refine CallF.nw ?_ ?_ | refine AppN.mk ?_ | (refine CallS.q ?_; (conv => whnf); first | refine CallG.plain rfl ?_ ?_ | refine CallG.mk rfl ?_ ?_) | (refine CallS.m ?_; (conv => whnf); refine CallM.mk rfl ?_ ?_) | (refine CallS.h ?_; (conv => whnf); refine CallM.mk rfl ?_ ?_) | (refine CallS.b ?_; (conv => whnf); refine CallM.mk rfl ?_ ?_) | (refine CallS.z ?_; (conv => whnf); refine CallM.mk rfl ?_ ?_))
    all_goals (try (conv => whnf))
    all_goals (try (exact Ob.mk (u8_bnd _)))
    all_goals (try (refine Ob.mk ?_; first | exact True.intro | assumption | omega | (try simp only [decide_eq_true_eq, decide_eq_false_iff_not, beq_iff_eq, beq_eq_false_iff_ne, bne_iff_ne, bne_eq_false_iff_eq, ne_eq, Bool.and_eq_true, Bool.or_eq_true, Bool.not_eq_true, Bool.not_eq_false, Bool.not_eq_true', Bool.not_eq_false', Int.toNat_natCast, Int.not_lt, Int.not_le, UInt8.ofNat_toNat, cast_eq] at *; omega)))
    all_goals (try ((show (_:Int) = _); omega))
    all_goals (try (show tupSV _ = _; with_unfolding_all rfl))
    all_goals (try ((show (_ : Nat) ≤ _); (simp <;> omega)))
    all_goals (try ((show (_ : Nat) ≤ _ ∧ (_ : Nat) ≤ _); (simp <;> omega)))
    all_goals (try ((show (_ : Int) ≤ _ ∧ (_ : Int) ≤ _ ∧ (_ : Int) ≤ _ ∧ (_ : Int) ≤ _); (simp <;> omega)))
    all_goals rfl
  · obtain ⟨q1, q2⟩ := hj
    have cc : (decide ((j : Int) < (s.length : Int)) && W.isSp ((s.getD ((j : Int)).toNat 0).toNat : Int)) = (decide (j < s.length) && blB (s.getD j 0)) := by
      rw [Int.toNat_natCast]
      congr 1
      rw [Bool.eq_iff_iff]; simp
    repeat' ((conv => whnf); first | (with_reducible rfl) | exact True.intro | (with_reducible exact absTF) | (with_reducible exact absFT) | intro _ | refine And.intro ?_ ?_ | refine Fin.mk ?_ | refine CallG.plain rfl ?_ ?_ | refine CallG.mk rfl ?_ ?_ | refine CallG.nwl rfl ?_ ?_ | refine CallG.nw ?_ ?_ | refine CallF.nwl rfl ?_ ?_ | refine CallF.nw ?_ ?_ | refine AppN.mk ?_ | (refine CallS.q ?_; (conv => whnf); first | refine CallG.plain rfl ?_ ?_ | refine CallG.mk rfl ?_ ?_) | (refine CallS.m ?_; (conv => whnf); refine CallM.mk rfl ?_ ?_) | (refine CallS.h ?_; (conv => whnf); refine CallM.mk rfl ?_ ?_) | (refine CallS.b ?_; (conv => whnf); refine CallM.mk rfl ?_ ?_) | (refine CallS.z ?_; (conv => whnf); refine CallM.mk rfl ?_ ?_))
    all_goals (try (conv => whnf))
    all_goals (try (exact Ob.mk (u8_bnd _)))
    all_goals (try (refine Ob.mk ?_; first | exact True.intro | assumption | omega | (try simp only [decide_eq_true_eq, decide_eq_false_iff_not, beq_iff_eq, beq_eq_false_iff_ne, bne_iff_ne, bne_eq_false_iff_eq, ne_eq, Bool.and_eq_true, Bool.or_eq_true, Bool.not_eq_true, Bool.not_eq_false, Bool.not_eq_true', Bool.not_eq_false', Int.toNat_natCast, Int.not_lt, Int.not_le, UInt8.ofNat_toNat, cast_eq] at *; omega)))
    all_goals (try ((show (_:Int) = _); omega))
    all_goals (try (show tupSV _ = _; with_unfolding_all rfl))
    all_goals (try ((show (_ : Nat) ≤ _); (simp <;> omega)))
    all_goals (try ((show (_ : Nat) ≤ _ ∧ (_ : Nat) ≤ _); (simp <;> omega)))
    all_goals (try ((show (_ : Int) ≤ _ ∧ (_ : Int) ≤ _ ∧ (_ : Int) ≤ _ ∧ (_ : Int) ≤ _); (simp <;> omega)))
    all_goals (simp only [cc] at *)
    · have h : (decide (j < s.length) && blB (s.getD j 0)) = true := ‹_›
      rw [Bool.and_eq_true, decide_eq_true_eq] at h
      refine Rnd.mk ⟨j + 1, ⟨by omega, (upTo_step blB s j h.1 h.2).trans q2⟩, by omega, ?_⟩
      repeat' ((conv => whnf); first | (with_reducible rfl) | exact True.intro | (with_reducible exact absTF) | (with_reducible exact absFT) | intro _ | refine And.intro ?_ ?_ | refine Fin.mk ?_ | refine CallG.plain rfl ?_ ?_ | refine CallG.mk rfl ?_ ?_ | refine CallG.nwl rfl ?_ ?_ | refine CallG.nw ?_ ?_ | refine CallF.nwl rfl ?_ ?_ | refine CallF.nw ?_ ?_ | refine AppN.mk ?_ | (refine CallS.q ?_; (conv => whnf); first | refine CallG.plain rfl ?_ ?_ | refine CallG.mk rfl ?_ ?_) | (refine CallS.m ?_; (conv => whnf); refine CallM.mk rfl ?_ ?_) | (refine CallS.h ?_; (conv => whnf); refine CallM.mk rfl ?_ ?_) | (refine CallS.b ?_; (conv => whnf); refine CallM.mk rfl ?_ ?_) | (refine CallS.z ?_; (conv => whnf); refine CallM.mk rfl ?_ ?_))
      all_goals (try (conv => whnf))
      all_goals (try (exact Ob.mk (u8_bnd _)))
      all_goals (try (refine Ob.mk ?_; first | exact True.intro | assumption | omega | (try simp only [decide_eq_true_eq, decide_eq_false_iff_not, beq_iff_eq, beq_eq_false_iff_ne, bne_iff_ne, bne_eq_false_iff_eq, ne_eq, Bool.and_eq_true, Bool.or_eq_true, Bool.not_eq_true, Bool.not_eq_false, Bool.not_eq_true', Bool.not_eq_false', Int.toNat_natCast, Int.not_lt, Int.not_le, UInt8.ofNat_toNat, cast_eq] at *; omega)))
      all_goals (try ((show (_:Int) = _); omega))
      all_goals (try (show tupSV _ = _; with_unfolding_all rfl))
      all_goals (try ((show (_ : Nat) ≤ _); (simp <;> omega)))
      all_goals (try ((show (_ : Nat) ≤ _ ∧ (_ : Nat) ≤ _); (simp <;> omega)))
      all_goals (try ((show (_ : Int) ≤ _ ∧ (_ : Int) ≤ _ ∧ (_ : Int) ≤ _ ∧ (_ : Int) ≤ _); (simp <;> omega)))
      all_goals rfl
    · have h : (decide (j < s.length) && blB (s.getD j 0)) = false := ‹_›
      rw [← q2]
      rcases Nat.lt_or_ge j s.length with hl | hl
      · rw [decide_eq_true hl, Bool.true_and] at h
        rw [upTo_stop blB s j hl h]
      · rw [upTo_end blB s j hl]
theorem tUntilAn (s nm da x : List UInt8) (i : Nat) (k : Int) (sf : Bool) (st : List UInt8) : FnM BB 17 [.loc 0 0, .str st] [(0, scC s i k nm .nils sf da x)] (i ≤ s.length ∧ s.length ≤ 100000) (.tup []) [(0, scC s (upTo (stP st) s i : Nat) k nm .nils sf da x)] := by
  refine FnM.intro (N := 48) [0, 1, 40] [(0, [0, 0, 0, 1, 0, 0, 0, 1, 1, 1, 1, 1, 1, 1, 1, 1, 1, 1, 1, 1, 1, 1, 1, 1, 1, 1, 1, 1, 1, 1, 1, 1, 1, 1, 3, 3, 3])] 1 Try.call17 Try.func17 rfl rfl (by kernel_rfl) (fun hpre => ?_)
  obtain ⟨p1, p2⟩ := hpre
  repeat' ((conv => whnf); first | (with_reducible rfl) | exact True.intro | (with_reducible exact absTF) | (with_reducible exact absFT) | intro _ | refine And.intro ?_ ?_ | refine Fin.mk ?_ | refine CallG.plain rfl ?_ ?_ | refine CallG.mk rfl ?_ ?_ | refine CallG.nwl rfl ?_ ?_ | refine CallG.nw ?_ ?_ | refine CallF.nwl rfl ?_ ?_ | refine CallF.nw ?_ ?_ | refine AppN.mk ?_ | (refine CallS.q ?_; (conv => whnf); first | refine CallG.plain rfl ?_ ?_ | refine CallG.mk rfl ?_ ?_) | (refine CallS.m ?_; (conv => whnf); refine CallM.mk rfl ?_ ?_) | (refine CallS.h ?_; (conv => whnf); refine CallM.mk rfl ?_ ?_) | (refine CallS.b ?_; (conv => whnf); refine CallM.mk rfl ?_ ?_) | (refine CallS.z ?_; (conv => whnf); refine CallM.mk rfl ?_ ?_))
  all_goals (try (conv => whnf))
  all_goals (try (exact Ob.mk (u8_bnd _)))
  all_goals (try (refine Ob.mk ?_; first | exact True.intro | assumption | omega | (try simp only [decide_eq_true_eq, decide_eq_false_iff_not, beq_iff_eq, beq_eq_false_iff_ne, bne_iff_ne, bne_eq_false_iff_eq, ne_eq, Bool.and_eq_true, Bool.or_eq_true, Bool.not_eq_true, Bool.not_eq_false, Bool.not_eq_true', Bool.not_eq_false', Int.toNat_natCast, Int.not_lt, Int.not_le, UInt8.ofNat_toNat, cast_eq] at *; omega)))
  all_goals (try ((show (_:Int) = _); omega))
  all_goals (try (show tupSV _ = _; with_unfolding_all rfl))
  all_goals (try ((show (_ : Nat) ≤ _); (simp <;> omega)))
  all_goals (try ((show (_ : Nat) ≤ _ ∧ (_ : Nat) ≤ _); (simp <;> omega)))
  all_goals (try ((show (_ : Int) ≤ _ ∧ (_ : Int) ≤ _ ∧ (_ : Int) ≤ _ ∧ (_ : Int) ≤ _); (simp <;> omega)))
  refine LoopStop.mk (α := Nat) (fun j => []) (fun j => [(0, scC s j k nm .nils sf da x)]) 20 (fun j => j ≤ s.length ∧ upTo (stP st) s j = upTo (stP st) s i) (fun j => s.length - j) i ⟨p1, rfl⟩ ?_ (fun j hj => ?_)
  · repeat' ((conv => whnf); first | (with_reducible rfl) | exact True.intro | (with_reducible exact absTF) | (with_reducible exact absFT) | intro _ | refine And.intro ?_ ?_ | refine Fin.mk ?_ | refine CallG.plain rfl ?_ ?_ | refine CallG.mk rfl ?_ ?_ | refine CallG.nwl rfl ?_ ?_ | refine CallG.nw ?_ ?_ | refine CallF.nwl rfl ?_ ?_ | refine CallF.nw ?_ ?_ | refine AppN.mk ?_ | (refine CallS.q ?_; (conv => whnf); first | refine CallG.plain rfl ?_ ?_ | refine CallG.mk rfl ?_ ?_) | (refine CallS.m ?_; (conv => whnf); refine CallM.mk rfl ?_ ?_) | (refine CallS.h ?_; (conv => whnf); refine CallM.mk rfl ?_ ?_) | (refine CallS.b ?_; (conv => whnf); refine CallM.mk rfl ?_ ?_) | (refine CallS.z ?_; (conv => whnf); refine CallM.mk rfl ?_ ?_))
    all_goals (try (conv => whnf))
    all_goals (try (exact Ob.mk (u8_bnd _)))
    all_goals (try (refine Ob.mk ?_; first | exact True.intro | assumption | omega | (try simp only [decide_eq_true_eq, decide_eq_false_iff_not, beq_iff_eq, beq_eq_false_iff_ne, bne_iff_ne, bne_eq_false_iff_eq, ne_eq, Bool.and_eq_true, Bool.or_eq_true, Bool.not_eq_true, Bool.not_eq_false, Bool.not_eq_true', Bool.not_eq_false', Int.toNat_natCast, Int.not_lt, Int.not_le, UInt8.ofNat_toNat, cast_eq] at *; omega)))
    all_goals (try ((show (_:Int) = _); omega))
    all_goals (try (show tupSV _ = _; with_unfolding_all rfl))
    all_goals (try ((show (_ : Nat) ≤ _); (simp <;> omega)))
    all_goals (try ((show (_ : Nat) ≤ _ ∧ (_ : Nat) ≤ _); (simp <;> omega)))
    all_goals (try ((show (_ : Int) ≤ _ ∧ (_ : Int) ≤ _ ∧ (_ : Int) ≤ _ ∧ (_ : Int) ≤ _); (simp <;> omega)))
    all_goals rfl
  · obtain ⟨q1, q2⟩ := hj
    have cc : (decide ((j : Int) < (s.length : Int)) && !W.isSp ((s.getD ((j : Int)).toNat 0).toNat : Int) && decide (Lib.indexByte st ((s.getD ((j : Int)).toNat 0).toNat : Int).toNat.toUInt8 < 0)) = (decide (j < s.length) && stP st (s.getD j 0)) := by
      rw [Int.toNat_natCast, ixb st (s.getD j 0), Bool.and_assoc]
      congr 1
      rw [Bool.eq_iff_iff]; simp
    repeat' ((conv => whnf); first | (with_reducible rfl) | exact True.intro | (with_reducible exact absTF) | (with_reducible exact absFT) | intro _ | refine And.intro ?_ ?_ | refine Fin.mk ?_ | refine CallG.plain rfl ?_ ?_ | refine CallG.mk rfl ?_ ?_ | refine CallG.nwl rfl ?_ ?_ | refine CallG.nw ?_ ?_ | refine CallF.nwl rfl ?_ ?_ | refine CallF.nw ?_ ?_ | refine AppN.mk ?_ | (refine CallS.q ?_; (conv => whnf); first | refine CallG.plain rfl ?_ ?_ | refine CallG.mk rfl ?_ ?_) | (refine CallS.m ?_; (conv => whnf); refine CallM.mk rfl ?_ ?_) | (refine CallS.h ?_; (conv => whnf); refine CallM.mk rfl ?_ ?_) | (refine CallS.b ?_; (conv => whnf); refine CallM.mk rfl ?_ ?_) | (refine CallS.z ?_; (conv => whnf); refine CallM.mk rfl ?_ ?_))
    all_goals (try (conv => whnf))
    all_goals (try (exact Ob.mk (u8_bnd _)))
    all_goals (try (refine Ob.mk ?_; first | exact True.intro | assumption | omega | (try simp only [decide_eq_true_eq, decide_eq_false_iff_not, beq_iff_eq, beq_eq_false_iff_ne, bne_iff_ne, bne_eq_false_iff_eq, ne_eq, Bool.and_eq_true, Bool.or_eq_true, Bool.not_eq_true, Bool.not_eq_false, Bool.not_eq_true', Bool.not_eq_false', Int.toNat_natCast, Int.not_lt, Int.not_le, UInt8.ofNat_toNat, cast_eq] at *; omega)))
    all_goals (try ((show (_:Int) = _); omega))
    all_goals (try (show tupSV _ = _; with_unfolding_all rfl))
    all_goals (try ((show (_ : Nat) ≤ _); (simp <;> omega)))
    all_goals (try ((show (_ : Nat) ≤ _ ∧ (_ : Nat) ≤ _); (simp <;> omega)))
    all_goals (try ((show (_ : Int) ≤ _ ∧ (_ : Int) ≤ _ ∧ (_ : Int) ≤ _ ∧ (_ : Int) ≤ _); (simp <;> omega)))
    all_goals (simp only [cc] at *)
    · have h : (decide (j < s.length) && stP st (s.getD j 0)) = true := ‹_›
      rw [Bool.and_eq_true, decide_eq_true_eq] at h
      refine Rnd.mk ⟨j + 1, ⟨by omega, (upTo_step (stP st) s j h.1 h.2).trans q2⟩, by omega, ?_⟩
      repeat' ((conv => whnf); first | (with_reducible rfl) | exact True.intro | (with_reducible exact absTF) | (with_reducible exact absFT) | intro _ | refine And.intro ?_ ?_ | refine Fin.mk ?_ | refine CallG.plain rfl ?_ ?_ | refine CallG.mk rfl ?_ ?_ | refine CallG.nwl rfl ?_ ?_ | refine CallG.nw ?_ ?_ | refine CallF.nwl rfl ?_ ?_ | refine CallF.nw ?_ ?_ | refine AppN.mk ?_ | (refine CallS.q ?_; (conv => whnf); first | refine CallG.plain rfl ?_ ?_ | refine CallG.mk rfl ?_ ?_) | (refine CallS.m ?_; (conv => whnf); refine CallM.mk rfl ?_ ?_) | (refine CallS.h ?_; (conv => whnf); refine CallM.mk rfl ?_ ?_) | (refine CallS.b ?_; (conv => whnf); refine CallM.mk rfl ?_ ?_) | (refine CallS.z ?_; (conv => whnf); refine CallM.mk rfl ?_ ?_))
      all_goals (try (conv => whnf))
      all_goals (try (exact Ob.mk (u8_bnd _)))
      all_goals (try (refine Ob.mk ?_; first | exact True.intro | assumption | omega | (try simp only [decide_eq_true_eq, decide_eq_false_iff_not, beq_iff_eq, beq_eq_false_iff_ne, bne_iff_ne, bne_eq_false_iff_eq, ne_eq, Bool.and_eq_true, Bool.or_eq_true, Bool.not_eq_true, Bool.not_eq_false, Bool.not_eq_true', Bool.not_eq_false', Int.toNat_natCast, Int.not_lt, Int.not_le, UInt8.ofNat_toNat, cast_eq] at *; omega)))
      all_goals (try ((show (_:Int) = _); omega))
      all_goals (try (show tupSV _ = _; with_unfolding_all rfl))
      all_goals (try ((show (_ : Nat) ≤ _); (simp <;> omega)))
      all_goals (try ((show (_ : Nat) ≤ _ ∧ (_ : Nat) ≤ _); (simp <;> omega)))
      all_goals (try ((show (_ : Int) ≤ _ ∧ (_ : Int) ≤ _ ∧ (_ : Int) ≤ _ ∧ (_ : Int) ≤ _); (simp <;> omega)))
      all_goals rfl
    · have h : (decide (j < s.length) && stP st (s.getD j 0)) = false := ‹_›
      rw [← q2]
      rcases Nat.lt_or_ge j s.length with hl | hl
      · rw [decide_eq_true hl, Bool.true_and] at h
        rw [upTo_stop (stP st) s j hl h]
      · rw [upTo_end (stP st) s j hl]
theorem tValueAn (s nm da x : List UInt8) (i : Nat) (k : Int) (sf : Bool) : FnM BB 36 [.loc 0 0] [(0, scC s i k nm .nils sf da x)] (i < s.length ∧ s.length ≤ 100000) (.tup [.str (valS s i).1, .bool (valS s i).2.2]) [(0, scC s ((valS s i).2.1 : Nat) k nm .nils sf da x)] := by
  refine FnM.intro (N := 58) [0, 2, 3, 4, 5, 6, 18, 47] [(4, [0, 0, 0, 1, 0, 0, 0, 0, 1, 3, 3, 0])] 1 Try.call36 Try.func36 rfl rfl (by kernel_rfl) (fun hpre => ?_)
  obtain ⟨p1, p2⟩ := hpre
  have hu := upTo_le (stP [62]) s i (by omega)
  haveI := fun c : Int => tIsAn s nm da x i k sf c
  haveI := fun st : List UInt8 => tUntilAn s nm da x i k sf st
  have e1 : decide ((i : Int) < (s.length : Int)) = true := decide_eq_true (by omega)
  have e34 : (((s.getD i 0).toNat : Int) == 34) = (s.getD i 0 == 34) := b_iff _ 34
  have e39 : (((s.getD i 0).toNat : Int) == 39) = (s.getD i 0 == 39) := b_iff _ 39
  have qa : (!(decide ((i : Int) < (s.length : Int)) && ((s.getD i 0).toNat : Int) == 34)) = true → (true && !(decide ((i : Int) < (s.length : Int)) && ((s.getD i 0).toNat : Int) == 39)) = true → qB (s.getD i 0) = false := fun h h' => by
    rw [e1, Bool.true_and, e34] at h; rw [e1, Bool.true_and, Bool.true_and, e39] at h'
    unfold qB; cases h1 : s.getD i 0 == 34 <;> cases h2 : s.getD i 0 == 39 <;> simp_all
  have qb : (!(decide ((i : Int) < (s.length : Int)) && ((s.getD i 0).toNat : Int) == 34)) = true → (true && !(decide ((i : Int) < (s.length : Int)) && ((s.getD i 0).toNat : Int) == 39)) = false → qB (s.getD i 0) = true := fun h h' => by
    rw [e1, Bool.true_and, e34] at h; rw [e1, Bool.true_and, Bool.true_and, e39] at h'
    unfold qB; cases h1 : s.getD i 0 == 34 <;> cases h2 : s.getD i 0 == 39 <;> simp_all
  have qc : (!(decide ((i : Int) < (s.length : Int)) && ((s.getD i 0).toNat : Int) == 34)) = !true → qB (s.getD i 0) = true := fun h => by
    rw [e1, Bool.true_and, e34] at h
    unfold qB; cases h1 : s.getD i 0 == 34 <;> simp_all
  have hx := Lib.indexByte_ge (s.drop (i + 1)) (s.getD i 0)
  have hx2 := ixb_le (s.drop (i + 1)) (s.getD i 0)
  rw [List.length_drop] at hx2
  have ei : ((i : Int)).toNat = i := Int.toNat_natCast i
  have ei1 : ((i : Int) + 1).toNat = i + 1 := by omega
  have v1 : qB (s.getD i 0) = false → valS s i = ((s.take (upTo (stP [62]) s i)).drop i, upTo (stP [62]) s i, true) := fun h => by unfold valS; rw [h]; rfl
  have v2 : qB (s.getD i 0) = true → decide (Lib.indexByte (s.drop (i + 1)) (s.getD i 0) < 0) = true → valS s i = ([], i, false) := fun h h' => by unfold valS; rw [h, if_pos rfl, if_pos (of_decide_eq_true h')]
  have v3 : qB (s.getD i 0) = true → decide (Lib.indexByte (s.drop (i + 1)) (s.getD i 0) < 0) = false → valS s i = ((s.drop (i + 1)).take (Lib.indexByte (s.drop (i + 1)) (s.getD i 0)).toNat, i + (Lib.indexByte (s.drop (i + 1)) (s.getD i 0)).toNat + 2, true) := fun h h' => by unfold valS; rw [h, if_pos rfl, if_neg (of_decide_eq_false h')]
  repeat' ((conv => whnf); first | (with_reducible rfl) | exact True.intro | (with_reducible exact absTF) | (with_reducible exact absFT) | intro _ | refine And.intro ?_ ?_ | refine Fin.mk ?_ | refine CallG.plain rfl ?_ ?_ | refine CallG.mk rfl ?_ ?_ | refine CallG.nwl rfl ?_ ?_ | refine CallG.nw ?_ ?_ | refine CallF.nwl rfl ?_ ?_ | refine CallF.nw ?_ ?_ | refine AppN.mk ?_ | (refine CallS.q ?_; (conv => whnf); first | refine CallG.plain rfl ?_ ?_ | refine CallG.mk rfl ?_ ?_) | (refine CallS.m ?_; (conv => whnf); refine CallM.mk rfl ?_ ?_) | (refine CallS.h ?_; (conv => whnf); refine CallM.mk rfl ?_ ?_) | (refine CallS.b ?_; (conv => whnf); refine CallM.mk rfl ?_ ?_) | (refine CallS.z ?_; (conv => whnf); refine CallM.mk rfl ?_ ?_))
  all_goals (try (conv => whnf))
  all_goals (try (exact Ob.mk (u8_bnd _)))
  all_goals (try (refine Ob.mk ?_; first | exact True.intro | assumption | omega | (try simp only [decide_eq_true_eq, decide_eq_false_iff_not, beq_iff_eq, beq_eq_false_iff_ne, bne_iff_ne, bne_eq_false_iff_eq, ne_eq, Bool.and_eq_true, Bool.or_eq_true, Bool.not_eq_true, Bool.not_eq_false, Bool.not_eq_true', Bool.not_eq_false', Int.toNat_natCast, Int.not_lt, Int.not_le, UInt8.ofNat_toNat, cast_eq] at *; omega)))
  all_goals (try ((show (_:Int) = _); omega))
  all_goals (try (show tupSV _ = _; with_unfolding_all rfl))
  all_goals (try ((show (_ : Nat) ≤ _); (simp <;> omega)))
  all_goals (try ((show (_ : Nat) ≤ _ ∧ (_ : Nat) ≤ _); (simp <;> omega)))
  all_goals (try ((show (_ : Int) ≤ _ ∧ (_ : Int) ≤ _ ∧ (_ : Int) ≤ _ ∧ (_ : Int) ≤ _); (simp <;> omega)))
  all_goals (try simp only [ei, ei1, Int.toNat_natCast] at *)
  all_goals (have ec : (s.getD i 0).toNat.toUInt8 = s.getD i 0 := by simp)
  all_goals (try simp only [ec] at *)
  all_goals (try (have hge := of_decide_eq_false ‹decide (Lib.indexByte (s.drop (i + 1)) (s.getD i 0) < 0) = false›))
  all_goals (try (have hv := v1 (qa ‹_› ‹_›)))
  all_goals (try (have hv := v2 (qb ‹_› ‹_›) ‹_›))
  all_goals (try (have hv := v2 (qc ‹_›) ‹_›))
  all_goals (try (have hv := v3 (qb ‹_› ‹_›) ‹_›))
  all_goals (try (have hv := v3 (qc ‹_›) ‹_›))
  all_goals (first | (rw [hv]; done) | (rw [hv]; rfl) | omega | (constructor <;> omega) | (rw [hv]; simp only; omega) | (exact ⟨by omega, by rw [List.length_drop]; omega⟩) | trace_state)
instance tOverA (s nm da x : List UInt8) (i : Int) (k : Int) (sf : Bool) : FnM BB 15 [.loc 0 0] [(0, scC s i k nm .nils sf da x)] (0 ≤ i) (.bool (decide (i ≥ (s.length : Int)))) [(0, scC s i k nm .nils sf da x)] :=
  FnM.ofNat' (args := fun _ => [.loc 0 0]) (Φ := fun i => [(0, scC s i k nm .nils sf da x)]) (Φ' := fun i => [(0, scC s i k nm .nils sf da x)]) (pre := fun i => 0 ≤ i) (res := fun i => .bool (decide (i ≥ (s.length : Int)))) i (fun h => h) fun n => (tOverAn s nm da x n k sf).weaken fun _ => True.intro
instance tIsA (s nm da x : List UInt8) (i : Int) (k : Int) (sf : Bool) (c : Int) : FnM BB 34 [.loc 0 0, .int .u8 c] [(0, scC s i k nm .nils sf da x)] (0 ≤ i) (.bool (decide (i < (s.length : Int)) && ((s.getD i.toNat 0).toNat : Int) == c)) [(0, scC s i k nm .nils sf da x)] :=
  FnM.ofNat' (args := fun _ => [.loc 0 0, .int .u8 c]) (Φ := fun i => [(0, scC s i k nm .nils sf da x)]) (Φ' := fun i => [(0, scC s i k nm .nils sf da x)]) (pre := fun i => 0 ≤ i) (res := fun i => .bool (decide (i < (s.length : Int)) && ((s.getD i.toNat 0).toNat : Int) == c)) i (fun h => h) fun n => (tIsAn s nm da x n k sf c).weaken fun _ => True.intro
instance tBlanksA (s nm da x : List UInt8) (i : Int) (k : Int) (sf : Bool) : FnM BB 33 [.loc 0 0] [(0, scC s i k nm .nils sf da x)] (0 ≤ i ∧ i ≤ s.length ∧ s.length ≤ 100000) (.tup []) [(0, scC s (upTo blB s i.toNat : Nat) k nm .nils sf da x)] :=
  FnM.ofNat' (args := fun _ => [.loc 0 0]) (Φ := fun i => [(0, scC s i k nm .nils sf da x)]) (Φ' := fun i => [(0, scC s (upTo blB s i.toNat : Nat) k nm .nils sf da x)]) (pre := fun i => 0 ≤ i ∧ i ≤ s.length ∧ s.length ≤ 100000) (res := fun i => .tup []) i (fun h => h.1) fun n => (tBlanksAn s nm da x n k sf).weaken fun h => (by have h' := h.2; constructor <;> omega)
instance tUntilA (s nm da x : List UInt8) (i : Int) (k : Int) (sf : Bool) (st : List UInt8) : FnM BB 17 [.loc 0 0, .str st] [(0, scC s i k nm .nils sf da x)] (0 ≤ i ∧ i ≤ s.length ∧ s.length ≤ 100000) (.tup []) [(0, scC s (upTo (stP st) s i.toNat : Nat) k nm .nils sf da x)] :=
  FnM.ofNat' (args := fun _ => [.loc 0 0, .str st]) (Φ := fun i => [(0, scC s i k nm .nils sf da x)]) (Φ' := fun i => [(0, scC s (upTo (stP st) s i.toNat : Nat) k nm .nils sf da x)]) (pre := fun i => 0 ≤ i ∧ i ≤ s.length ∧ s.length ≤ 100000) (res := fun i => .tup []) i (fun h => h.1) fun n => (tUntilAn s nm da x n k sf st).weaken fun h => (by have h' := h.2; constructor <;> omega)
instance tValueA (s nm da x : List UInt8) (i : Int) (k : Int) (sf : Bool) : FnM BB 36 [.loc 0 0] [(0, scC s i k nm .nils sf da x)] (0 ≤ i ∧ i < s.length ∧ s.length ≤ 100000) (.tup [.str (valS s i.toNat).1, .bool (valS s i.toNat).2.2]) [(0, scC s ((valS s i.toNat).2.1 : Nat) k nm .nils sf da x)] :=
  FnM.ofNat' (args := fun _ => [.loc 0 0]) (Φ := fun i => [(0, scC s i k nm .nils sf da x)]) (Φ' := fun i => [(0, scC s ((valS s i.toNat).2.1 : Nat) k nm .nils sf da x)]) (pre := fun i => 0 ≤ i ∧ i < s.length ∧ s.length ≤ 100000) (res := fun i => .tup [.str (valS s i.toNat).1, .bool (valS s i.toNat).2.2]) i (fun h => h.1) fun n => (tValueAn s nm da x n k sf).weaken fun h => (by have h' := h.2; constructor <;> omega)

theorem tOverBn (s nm da x : List UInt8) (i : Nat) (k : Int) (sf : Bool) (l : List AttrD) : FnM BB 15 [.loc 0 0] [(0, scC s i k nm (.own 1) sf da x), (1, .own attrTy l)] True (.bool (decide ((i : Int) ≥ (s.length : Int)))) [(0, scC s i k nm (.own 1) sf da x), (1, .own attrTy l)] := by
  refine FnM.intro (N := 13) [0, 2] [(1, [0, 0, 0, 1, 0, 0, 0, 1, 1, 3, 3])] 2 Try.call15 Try.func15 rfl rfl (by kernel_rfl) (fun hpre => ?_)
  repeat' ((conv => whnf); first | (with_reducible rfl) | exact True.intro | (with_reducible exact absTF) | (with_reducible exact absFT) | intro _ | refine And.intro ?_ ?_ | refine Fin.mk ?_ | refine CallG.plain rfl ?_ ?_ | refine CallG.mk rfl ?_ ?_ | refine CallG.nwl rfl ?_ ?_ | refine CallG.nw ?_ ?_ | refine CallF.nwl rfl ?_ ?_ | refine CallF.nw ?_ ?_ | refine AppN.mk ?_ | (refine CallS.q ?_; (conv => whnf); first | refine CallG.plain rfl ?_ ?_ | refine CallG.mk rfl ?_ ?_) | (refine CallS.m ?_; (conv => whnf); refine CallM.mk rfl ?_ ?_) | (refine CallS.h ?_; (conv => whnf); refine CallM.mk rfl ?_ ?_) | (refine CallS.b ?_; (conv => whnf); refine CallM.mk rfl ?_ ?_) | (refine CallS.z ?_; (conv => whnf); refine CallM.mk rfl ?_ ?_))
  all_goals (try (conv => whnf))
  all_goals (try (exact Ob.mk (u8_bnd _)))
  all_goals (try (refine Ob.mk ?_; first | exact True.intro | assumption | omega | (try simp only [decide_eq_true_eq, decide_eq_false_iff_not, beq_iff_eq, beq_eq_false_iff_ne, bne_iff_ne, bne_eq_false_iff_eq, ne_eq, Bool.and_eq_true, Bool.or_eq_true, Bool.not_eq_true, Bool.not_eq_false, Bool.not_eq_true', Bool.not_eq_false', Int.toNat_natCast, Int.not_lt, Int.not_le, UInt8.ofNat_toNat, cast_eq] at *; omega)))
  all_goals (try ((show (_:Int) = _); omega))
  all_goals (try (show tupSV _ = _; with_unfolding_all rfl))
  all_goals (try ((show (_ : Nat) ≤ _); (simp <;> omega)))
  all_goals (try ((show (_ : Nat) ≤ _ ∧ (_ : Nat) ≤ _); (simp <;> omega)))
  all_goals (try ((show (_ : Int) ≤ _ ∧ (_ : Int) ≤ _ ∧ (_ : Int) ≤ _ ∧ (_ : Int) ≤ _); (simp <;> omega)))
theorem tIsBn (s nm da x : List UInt8) (i : Nat) (k : Int) (sf : Bool) (l : List AttrD) (c : Int) : FnM BB 34 [.loc 0 0, .int .u8 c] [(0, scC s i k nm (.own 1) sf da x), (1, .own attrTy l)] True (.bool (decide ((i : Int) < (s.length : Int)) && ((s.getD i 0).toNat : Int) == c)) [(0, scC s i k nm (.own 1) sf da x), (1, .own attrTy l)] := by
  refine FnM.intro (N := 28) [0, 1, 4] [(1, [0, 0, 0, 1, 0, 0, 0, 1, 1, 1, 1, 1, 1, 1, 1, 1, 1, 1, 1, 1, 1, 3, 3, 3])] 2 Try.call34 Try.func34 rfl rfl (by kernel_rfl) (fun hpre => ?_)
  repeat' ((conv => whnf); first | (with_reducible rfl) | exact True.intro | (with_reducible exact absTF) | (with_reducible exact absFT) | intro _ | refine And.intro ?_ ?_ | refine Fin.mk ?_ | refine CallG.plain rfl ?_ ?_ | refine CallG.mk rfl ?_ ?_ | refine CallG.nwl rfl ?_ ?_ | refine CallG.nw ?_ ?_ | refine CallF.nwl rfl ?_ ?_ | refine CallF.nw ?_ ?_ | refine AppN.mk ?_ | (refine CallS.q ?_; (conv => whnf); first | refine CallG.plain rfl ?_ ?_ | refine CallG.mk rfl ?_ ?_) | (refine CallS.m ?_; (conv => whnf); refine CallM.mk rfl ?_ ?_) | (refine CallS.h ?_; (conv => whnf); refine CallM.mk rfl ?_ ?_) | (refine CallS.b ?_; (conv => whnf); refine CallM.mk rfl ?_ ?_) | (refine CallS.z ?_; (conv => whnf); refine CallM.mk rfl ?_ ?_))
  all_goals (try (conv => whnf))
  all_goals (try (exact Ob.mk (u8_bnd _)))
  all_goals (try (refine Ob.mk ?_; first | exact True.intro | assumption | omega | (try simp only [decide_eq_true_eq, decide_eq_false_iff_not, beq_iff_eq, beq_eq_false_iff_ne, bne_iff_ne, bne_eq_false_iff_eq, ne_eq, Bool.and_eq_true, Bool.or_eq_true, Bool.not_eq_true, Bool.not_eq_false, Bool.not_eq_true', Bool.not_eq_false', Int.toNat_natCast, Int.not_lt, Int.not_le, UInt8.ofNat_toNat, cast_eq] at *; omega)))
  all_goals (try ((show (_:Int) = _); omega))
  all_goals (try (show tupSV _ = _; with_unfolding_all rfl))
  all_goals (try ((show (_ : Nat) ≤ _); (simp <;> omega)))
  all_goals (try ((show (_ : Nat) ≤ _ ∧ (_ : Nat) ≤ _); (simp <;> omega)))
  all_goals (try ((show (_ : Int) ≤ _ ∧ (_ : Int) ≤ _ ∧ (_ : Int) ≤ _ ∧ (_ : Int) ≤ _); (simp <;> omega)))
  all_goals (first | rfl | omega | trace_state)
theorem tBlanksBn (s nm da x : List UInt8) (i : Nat) (k : Int) (sf : Bool) (l : List AttrD) : FnM BB 33 [.loc 0 0] [(0, scC s i k nm (.own 1) sf da x), (1, .own attrTy l)] (i ≤ s.length ∧ s.length ≤ 100000) (.tup []) [(0, scC s (upTo blB s i : Nat) k nm (.own 1) sf da x), (1, .own attrTy l)] := by
  refine FnM.intro (N := 31) [0, 23] [(0, [0, 0, 0, 1, 0, 0, 0, 1, 1, 1, 1, 1, 1, 1, 1, 1, 1, 1, 1, 3, 3, 3])] 2 Try.call33 Try.func33 rfl rfl (by kernel_rfl) (fun hpre => ?_)
  obtain ⟨p1, p2⟩ := hpre
  repeat' ((conv => whnf); first | (with_reducible rfl) | exact True.intro | (with_reducible exact absTF) | (with_reducible exact absFT) | intro _ | refine And.intro ?_ ?_ | refine Fin.mk ?_ | refine CallG.plain rfl ?_ ?_ | refine CallG.mk rfl ?_ ?_ | refine CallG.nwl rfl ?_ ?_ | refine CallG.nw ?_ ?_ | refine CallF.nwl rfl ?_ ?_ | refine CallF.nw ?_ ?_ | refine AppN.mk ?_ | (refine CallS.q ?_; (conv => whnf); first | refine CallG.plain rfl ?_ ?_ | refine CallG.mk rfl ?_ ?_) | (refine CallS.m ?_; (conv => whnf); refine CallM.mk rfl ?_ ?_) | (refine CallS.h ?_; (conv => whnf); refine CallM.mk rfl ?_ ?_) | (refine CallS.b ?_; (conv => whnf); refine CallM.mk rfl ?_ ?_) | (refine CallS.z ?_; (conv => whnf); refine CallM.mk rfl ?_ ?_))
  all_goals (try (conv => whnf))
  all_goals (try (exact Ob.mk (u8_bnd _)))
  all_goals (try (refine Ob.mk ?_; first | exact True.intro | assumption | omega | (try simp only [decide_eq_true_eq, decide_eq_false_iff_not, beq_iff_eq, beq_eq_false_iff_ne, bne_iff_ne, bne_eq_false_iff_eq, ne_eq, Bool.and_eq_true, Bool.or_eq_true, Bool.not_eq_true, Bool.not_eq_false, Bool.not_eq_true', Bool.not_eq_false', Int.toNat_natCast, Int.not_lt, Int.not_le, UInt8.ofNat_toNat, cast_eq] at *; omega)))
  all_goals (try ((show (_:Int) = _); omega))
  all_goals (try (show tupSV _ = _; with_unfolding_all rfl))
  all_goals (try ((show (_ : Nat) ≤ _); (simp <;> omega)))
  all_goals (try ((show (_ : Nat) ≤ _ ∧ (_ : Nat) ≤ _); (simp <;> omega)))
  all_goals (try ((show (_ : Int) ≤ _ ∧ (_ : Int) ≤ _ ∧ (_ : Int) ≤ _ ∧ (_ : Int) ≤ _); (simp <;> omega)))
  refine LoopStop.mk (α := Nat) (fun j => []) (fun j => [(0, scC s j k nm (.own 1) sf da x)]) 20 (fun j => j ≤ s.length ∧ upTo blB s j = upTo blB s i) (fun j => s.length - j) i ⟨p1, rfl⟩ ?_ (fun j hj => ?_)
  · repeat' ((conv => whnf); first | (with_reducible rfl) | exact True.intro | (with_reducible exact absTF) | (with_reducible exact absFT) | intro _ | refine And.intro ?_ ?_ | refine Fin.mk ?_ | refine CallG.plain rfl ?_ ?_ | refine CallG.mk rfl ?_ ?_ | refine CallG.nwl rfl ?_ ?_ | refine CallG.nw ?_ ?_ | refine CallF.nwl rfl ?_ ?_ | refine CallF.nw ?_ ?_ | refine AppN.mk ?_ | (refine CallS.q ?_; (conv => whnf); first | refine CallG.plain rfl ?_ ?_ | refine CallG.mk rfl ?_ ?_) | (refine CallS.m ?_; (conv => whnf); refine CallM.mk rfl ?_ ?_) | (refine CallS.h ?_; (conv => whnf); refine CallM.mk rfl ?_ ?_) | (refine CallS.b ?_; (conv => whnf); refine CallM.mk rfl ?_ ?_) | (refine CallS.z ?_; (conv => whnf); refine CallM.mk rfl ?_ ?_))
    all_goals (try (conv => whnf))
    all_goals (try (exact Ob.mk (u8_bnd _)))
    all_goals (try (refine Ob.mk ?_; first | exact True.intro | assumption | omega | (try simp only [decide_eq_true_eq, decide_eq_false_iff_not, beq_iff_eq, beq_eq_false_iff_ne, bne_iff_ne, bne_eq_false_iff_eq, ne_eq, Bool.and_eq_true, Bool.or_eq_true, Bool.not_eq_true, Bool.not_eq_false, Bool.not_eq_true', Bool.not_eq_false', Int.toNat_natCast, Int.not_lt, Int.not_le, UInt8.ofNat_toNat, cast_eq] at *; omega)))
    all_goals (try ((show (_:Int) = _); omega))
    all_goals (try (show tupSV _ = _; with_unfolding_all rfl))
    all_goals (try ((show (_ : Nat) ≤ _); (simp <;> omega)))
    all_goals (try ((show (_ : Nat) ≤ _ ∧ (_ : Nat) ≤ _); (simp <;> omega)))
    all_goals (try ((show (_ : Int) ≤ _ ∧ (_ : Int) ≤ _ ∧ (_ : Int) ≤ _ ∧ (_ : Int) ≤ _); (simp <;> omega)))
    all_goals rfl
  · obtain ⟨q1, q2⟩ := hj
    have cc : (decide ((j : Int) < (s.length : Int)) && W.isSp ((s.getD ((j : Int)).toNat 0).toNat : Int)) = (decide (j < s.length) && blB (s.getD j 0)) := by
      rw [Int.toNat_natCast]
      congr 1
      rw [Bool.eq_iff_iff]; simp
    repeat' ((conv => whnf); first | (with_reducible rfl) | exact True.intro | (with_reducible exact absTF) | (with_reducible exact absFT) | intro _ | refine And.intro ?_ ?_ | refine Fin.mk ?_ | refine CallG.plain rfl ?_ ?_ | refine CallG.mk rfl ?_ ?_ | refine CallG.nwl rfl ?_ ?_ | refine CallG.nw ?_ ?_ | refine CallF.nwl rfl ?_ ?_ | refine CallF.nw ?_ ?_ | refine AppN.mk ?_ | (refine CallS.q ?_; (conv => whnf); first | refine CallG.plain rfl ?_ ?_ | refine CallG.mk rfl ?_ ?_) | (refine CallS.m ?_; (conv => whnf); refine CallM.mk rfl ?_ ?_) | (refine CallS.h ?_; (conv => whnf); refine CallM.mk rfl ?_ ?_) | (refine CallS.b ?_; (conv => whnf); refine CallM.mk rfl ?_ ?_) | (refine CallS.z ?_; (conv => whnf); refine CallM.mk rfl ?_ ?_))
    all_goals (try (conv => whnf))
    all_goals (try (exact Ob.mk (u8_bnd _)))
    all_goals (try (refine Ob.mk ?_; first | exact True.intro | assumption | omega | (try simp only [decide_eq_true_eq, decide_eq_false_iff_not, beq_iff_eq, beq_eq_false_iff_ne, bne_iff_ne, bne_eq_false_iff_eq, ne_eq, Bool.and_eq_true, Bool.or_eq_true, Bool.not_eq_true, Bool.not_eq_false, Bool.not_eq_true', Bool.not_eq_false', Int.toNat_natCast, Int.not_lt, Int.not_le, UInt8.ofNat_toNat, cast_eq] at *; omega)))
    all_goals (try ((show (_:Int) = _); omega))
    all_goals (try (show tupSV _ = _; with_unfolding_all rfl))
    all_goals (try ((show (_ : Nat) ≤ _); (simp <;> omega)))
    all_goals (try ((show (_ : Nat) ≤ _ ∧ (_ : Nat) ≤ _); (simp <;> omega)))
    all_goals (try ((show (_ : Int) ≤ _ ∧ (_ : Int) ≤ _ ∧ (_ : Int) ≤ _ ∧ (_ : Int) ≤ _); (simp <;> omega)))
    all_goals (simp only [cc] at *)
    · have h : (decide (j < s.length) && blB (s.getD j 0)) = true := ‹_›
      rw [Bool.and_eq_true, decide_eq_true_eq] at h
      refine Rnd.mk ⟨j + 1, ⟨by omega, (upTo_step blB s j h.1 h.2).trans q2⟩, by omega, ?_⟩
      repeat' ((conv => whnf); first | (with_reducible rfl) | exact True.intro | (with_reducible exact absTF) | (with_reducible exact absFT) | intro _ | refine And.intro ?_ ?_ | refine Fin.mk ?_ | refine CallG.plain rfl ?_ ?_ | refine CallG.mk rfl ?_ ?_ | refine CallG.nwl rfl ?_ ?_ | refine CallG.nw ?_ ?_ | refine CallF.nwl rfl ?_ ?_ | refine CallF.nw ?_ ?_ | refine AppN.mk ?_ | (refine CallS.q ?_; (conv => whnf); first | refine CallG.plain rfl ?_ ?_ | refine CallG.mk rfl ?_ ?_) | (refine CallS.m ?_; (conv => whnf); refine CallM.mk rfl ?_ ?_) | (refine CallS.h ?_; (conv => whnf); refine CallM.mk rfl ?_ ?_) | (refine CallS.b ?_; (conv => whnf); refine CallM.mk rfl ?_ ?_) | (refine CallS.z ?_; (conv => whnf); refine CallM.mk rfl ?_ ?_))
      all_goals (try (conv => whnf))
      all_goals (try (exact Ob.mk (u8_bnd _)))
      all_goals (try (refine Ob.mk ?_; first | exact True.intro | assumption | omega | (try simp only [decide_eq_true_eq, decide_eq_false_iff_not, beq_iff_eq, beq_eq_false_iff_ne, bne_iff_ne, bne_eq_false_iff_eq, ne_eq, Bool.and_eq_true, Bool.or_eq_true, Bool.not_eq_true, Bool.not_eq_false, Bool.not_eq_true', Bool.not_eq_false', Int.toNat_natCast, Int.not_lt, Int.not_le, UInt8.ofNat_toNat, cast_eq] at *; omega)))
      all_goals (try ((show (_:Int) = _); omega))
      all_goals (try (show tupSV _ = _; with_unfolding_all rfl))
      all_goals (try ((show (_ : Nat) ≤ _); (simp <;> omega)))
      all_goals (try ((show (_ : Nat) ≤ _ ∧ (_ : Nat) ≤ _); (simp <;> omega)))
      all_goals (try ((show (_ : Int) ≤ _ ∧ (_ : Int) ≤ _ ∧ (_ : Int) ≤ _ ∧ (_ : Int) ≤ _); (simp <;> omega)))
      all_goals rfl
    · have h : (decide (j < s.length) && blB (s.getD j 0)) = false := ‹_›
      rw [← q2]
      rcases Nat.lt_or_ge j s.length with hl | hl
      · rw [decide_eq_true hl, Bool.true_and] at h
        rw [upTo_stop blB s j hl h]
      · rw [upTo_end blB s j hl]
theorem tUntilBn (s nm da x : List UInt8) (i : Nat) (k : Int) (sf : Bool) (l : List AttrD) (st : List UInt8) : FnM BB 17 [.loc 0 0, .str st] [(0, scC s i k nm (.own 1) sf da x), (1, .own attrTy l)] (i ≤ s.length ∧ s.length ≤ 100000) (.tup []) [(0, scC s (upTo (stP st) s i : Nat) k nm (.own 1) sf da x), (1, .own attrTy l)] := by
  refine FnM.intro (N := 48) [0, 1, 40] [(0, [0, 0, 0, 1, 0, 0, 0, 1, 1, 1, 1, 1, 1, 1, 1, 1, 1, 1, 1, 1, 1, 1, 1, 1, 1, 1, 1, 1, 1, 1, 1, 1, 1, 1, 3, 3, 3])] 2 Try.call17 Try.func17 rfl rfl (by kernel_rfl) (fun hpre => ?_)
  obtain ⟨p1, p2⟩ := hpre
  repeat' ((conv => whnf); first | (with_reducible rfl) | exact True.intro | (with_reducible exact absTF) | (with_reducible exact absFT) | intro _ | refine And.intro ?_ ?_ | refine Fin.mk ?_ | refine CallG.plain rfl ?_ ?_ | refine CallG.mk rfl ?_ ?_ | refine CallG.nwl rfl ?_ ?_ | refine CallG.nw ?_ ?_ | refine CallF.nwl rfl ?_ ?_ | refine CallF.nw ?_ ?_ | refine AppN.mk ?_ | (refine CallS.q ?_; (conv => whnf); first | refine CallG.plain rfl ?_ ?_ | refine CallG.mk rfl ?_ ?_) | (refine CallS.m ?_; (conv => whnf); refine CallM.mk rfl ?_ ?_) | (refine CallS.h ?_; (conv => whnf); refine CallM.mk rfl ?_ ?_) | (refine CallS.b ?_; (conv => whnf); refine CallM.mk rfl ?_ ?_) | (refine CallS.z ?_; (conv => whnf); refine CallM.mk rfl ?_ ?_))
  all_goals (try (conv => whnf))
  all_goals (try (exact Ob.mk (u8_bnd _)))
  all_goals (try (refine Ob.mk ?_; first | exact True.intro | assumption | omega | (try simp only [decide_eq_true_eq, decide_eq_false_iff_not, beq_iff_eq, beq_eq_false_iff_ne, bne_iff_ne, bne_eq_false_iff_eq, ne_eq, Bool.and_eq_true, Bool.or_eq_true, Bool.not_eq_true, Bool.not_eq_false, Bool.not_eq_true', Bool.not_eq_false', Int.toNat_natCast, Int.not_lt, Int.not_le, UInt8.ofNat_toNat, cast_eq] at *; omega)))
  all_goals (try ((show (_:Int) = _); omega))
  all_goals (try (show tupSV _ = _; with_unfolding_all rfl))
  all_goals (try ((show (_ : Nat) ≤ _); (simp <;> omega)))
  all_goals (try ((show (_ : Nat) ≤ _ ∧ (_ : Nat) ≤ _); (simp <;> omega)))
  all_goals (try ((show (_ : Int) ≤ _ ∧ (_ : Int) ≤ _ ∧ (_ : Int) ≤ _ ∧ (_ : Int) ≤ _); (simp <;> omega)))
  refine LoopStop.mk (α := Nat) (fun j => []) (fun j => [(0, scC s j k nm (.own 1) sf da x)]) 20 (fun j => j ≤ s.length ∧ upTo (stP st) s j = upTo (stP st) s i) (fun j => s.length - j) i ⟨p1, rfl⟩ ?_ (fun j hj => ?_)
  · repeat' ((conv => whnf); first | (with_reducible rfl) | exact True.intro | (with_reducible exact absTF) | (with_reducible exact absFT) | intro _ | refine And.intro ?_ ?_ | refine Fin.mk ?_ | refine CallG.plain rfl ?_ ?_ | refine CallG.mk rfl ?_ ?_ | refine CallG.nwl rfl ?_ ?_ | refine CallG.nw ?_ ?_ | refine CallF.nwl rfl ?_ ?_ | refine CallF.nw ?_ ?_ | refine AppN.mk ?_ | (refine CallS.q ?_; (conv => whnf); first | refine CallG.plain rfl ?_ ?_ | refine CallG.mk rfl ?_ ?_) | (refine CallS.m ?_; (conv => whnf); refine CallM.mk rfl ?_ ?_) | (refine CallS.h ?_; (conv => whnf); refine CallM.mk rfl ?_ ?_) | (refine CallS.b ?_; (conv => whnf); refine CallM.mk rfl ?_ ?_) | (refine CallS.z ?_; (conv => whnf); refine CallM.mk rfl ?_ ?_))
    all_goals (try (conv => whnf))
    all_goals (try (exact Ob.mk (u8_bnd _)))
    all_goals (try (refine Ob.mk ?_; first | exact True.intro | assumption | omega | (try simp only [decide_eq_true_eq, decide_eq_false_iff_not, beq_iff_eq, beq_eq_false_iff_ne, bne_iff_ne, bne_eq_false_iff_eq, ne_eq, Bool.and_eq_true, Bool.or_eq_true, Bool.not_eq_true, Bool.not_eq_false, Bool.not_eq_true', Bool.not_eq_false', Int.toNat_natCast, Int.not_lt, Int.not_le, UInt8.ofNat_toNat, cast_eq] at *; omega)))
    all_goals (try ((show (_:Int) = _); omega))
    all_goals (try (show tupSV _ = _; with_unfolding_all rfl))
    all_goals (try ((show (_ : Nat) ≤ _); (simp <;> omega)))
    all_goals (try ((show (_ : Nat) ≤ _ ∧ (_ : Nat) ≤ _); (simp <;> omega)))
    all_goals (try ((show (_ : Int) ≤ _ ∧ (_ : Int) ≤ _ ∧ (_ : Int) ≤ _ ∧ (_ : Int) ≤ _); (simp <;> omega)))
    all_goals rfl
  · obtain ⟨q1, q2⟩ := hj
    have cc : (decide ((j : Int) < (s.length : Int)) && !W.isSp ((s.getD ((j : Int)).toNat 0).toNat : Int) && decide (Lib.indexByte st ((s.getD ((j : Int)).toNat 0).toNat : Int).toNat.toUInt8 < 0)) = (decide (j < s.length) && stP st (s.getD j 0)) := by
      rw [Int.toNat_natCast, ixb st (s.getD j 0), Bool.and_assoc]
      congr 1
      rw [Bool.eq_iff_iff]; simp
    repeat' ((conv => whnf); first | (with_reducible rfl) | exact True.intro | (with_reducible exact absTF) | (with_reducible exact absFT) | intro _ | refine And.intro ?_ ?_ | refine Fin.mk ?_ | refine CallG.plain rfl ?_ ?_ | refine CallG.mk rfl ?_ ?_ | refine CallG.nwl rfl ?_ ?_ | refine CallG.nw ?_ ?_ | refine CallF.nwl rfl ?_ ?_ | refine CallF.nw ?_ ?_ | refine AppN.mk ?_ | (refine CallS.q ?_; (conv => whnf); first | refine CallG.plain rfl ?_ ?_ | refine CallG.mk rfl ?_ ?_) | (refine CallS.m ?_; (conv => whnf); refine CallM.mk rfl ?_ ?_) | (refine CallS.h ?_; (conv => whnf); refine CallM.mk rfl ?_ ?_) | (refine CallS.b ?_; (conv => whnf); refine CallM.mk rfl ?_ ?_) | (refine CallS.z ?_; (conv => whnf); refine CallM.mk rfl ?_ ?_))
    all_goals (try (conv => whnf))
    all_goals (try (exact Ob.mk (u8_bnd _)))
    all_goals (try (refine Ob.mk ?_; first | exact True.intro | assumption | omega | (try simp only [decide_eq_true_eq, decide_eq_false_iff_not, beq_iff_eq, beq_eq_false_iff_ne, bne_iff_ne, bne_eq_false_iff_eq, ne_eq, Bool.and_eq_true, Bool.or_eq_true, Bool.not_eq_true, Bool.not_eq_false, Bool.not_eq_true', Bool.not_eq_false', Int.toNat_natCast, Int.not_lt, Int.not_le, UInt8.ofNat_toNat, cast_eq] at *; omega)))
    all_goals (try ((show (_:Int) = _); omega))
    all_goals (try (show tupSV _ = _; with_unfolding_all rfl))
    all_goals (try ((show (_ : Nat) ≤ _); (simp <;> omega)))
    all_goals (try ((show (_ : Nat) ≤ _ ∧ (_ : Nat) ≤ _); (simp <;> omega)))
    all_goals (try ((show (_ : Int) ≤ _ ∧ (_ : Int) ≤ _ ∧ (_ : Int) ≤ _ ∧ (_ : Int) ≤ _); (simp <;> omega)))
    all_goals (simp only [cc] at *)
    · have h : (decide (j < s.length) && stP st (s.getD j 0)) = true := ‹_›
      rw [Bool.and_eq_true, decide_eq_true_eq] at h
      refine Rnd.mk ⟨j + 1, ⟨by omega, (upTo_step (stP st) s j h.1 h.2).trans q2⟩, by omega, ?_⟩
      repeat' ((conv => whnf); first | (with_reducible rfl) | exact True.intro | (with_reducible exact absTF) | (with_reducible exact absFT) | intro _ | refine And.intro ?_ ?_ | refine Fin.mk ?_ | refine CallG.plain rfl ?_ ?_ | refine CallG.mk rfl ?_ ?_ | refine CallG.nwl rfl ?_ ?_ | refine CallG.nw ?_ ?_ | refine CallF.nwl rfl ?_ ?_ | refine CallF.nw ?_ ?_ | refine AppN.mk ?_ | (refine CallS.q ?_; (conv => whnf); first | refine CallG.plain rfl ?_ ?_ | refine CallG.mk rfl ?_ ?_) | (refine CallS.m ?_; (conv => whnf); refine CallM.mk rfl ?_ ?_) | (refine CallS.h ?_; (conv => whnf); refine CallM.mk rfl ?_ ?_) | (refine CallS.b ?_; (conv => whnf); refine CallM.mk rfl ?_ ?_) | (refine CallS.z ?_; (conv => whnf); refine CallM.mk rfl ?_ ?_))
      all_goals (try (conv => whnf))
      all_goals (try (exact Ob.mk (u8_bnd _)))
      all_goals (try (refine Ob.mk ?_; first | exact True.intro | assumption | omega | (try simp only [decide_eq_true_eq, decide_eq_false_iff_not, beq_iff_eq, beq_eq_false_iff_ne, bne_iff_ne, bne_eq_false_iff_eq, ne_eq, Bool.and_eq_true, Bool.or_eq_true, Bool.not_eq_true, Bool.not_eq_false, Bool.not_eq_true', Bool.not_eq_false', Int.toNat_natCast, Int.not_lt, Int.not_le, UInt8.ofNat_toNat, cast_eq] at *; omega)))
      all_goals (try ((show (_:Int) = _); omega))
      all_goals (try (show tupSV _ = _; with_unfolding_all rfl))
      all_goals (try ((show (_ : Nat) ≤ _); (simp <;> omega)))
      all_goals (try ((show (_ : Nat) ≤ _ ∧ (_ : Nat) ≤ _); (simp <;> omega)))
      all_goals (try ((show (_ : Int) ≤ _ ∧ (_ : Int) ≤ _ ∧ (_ : Int) ≤ _ ∧ (_ : Int) ≤ _); (simp <;> omega)))
      all_goals rfl
    · have h : (decide (j < s.length) && stP st (s.getD j 0)) = false := ‹_›
      rw [← q2]
      rcases Nat.lt_or_ge j s.length with hl | hl
      · rw [decide_eq_true hl, Bool.true_and] at h
        rw [upTo_stop (stP st) s j hl h]
      · rw [upTo_end (stP st) s j hl]
theorem tValueBn (s nm da x : List UInt8) (i : Nat) (k : Int) (sf : Bool) (l : List AttrD) : FnM BB 36 [.loc 0 0] [(0, scC s i k nm (.own 1) sf da x), (1, .own attrTy l)] (i < s.length ∧ s.length ≤ 100000) (.tup [.str (valS s i).1, .bool (valS s i).2.2]) [(0, scC s ((valS s i).2.1 : Nat) k nm (.own 1) sf da x), (1, .own attrTy l)] := by
  refine FnM.intro (N := 58) [0, 2, 3, 4, 5, 6, 18, 47] [(4, [0, 0, 0, 1, 0, 0, 0, 0, 1, 3, 3, 0])] 2 Try.call36 Try.func36 rfl rfl (by kernel_rfl) (fun hpre => ?_)
  obtain ⟨p1, p2⟩ := hpre
  have hu := upTo_le (stP [62]) s i (by omega)
  haveI := fun c : Int => tIsBn s nm da x i k sf l c
  haveI := fun st : List UInt8 => tUntilBn s nm da x i k sf l st
  have e1 : decide ((i : Int) < (s.length : Int)) = true := decide_eq_true (by omega)
  have e34 : (((s.getD i 0).toNat : Int) == 34) = (s.getD i 0 == 34) := b_iff _ 34
  have e39 : (((s.getD i 0).toNat : Int) == 39) = (s.getD i 0 == 39) := b_iff _ 39
  have qa : (!(decide ((i : Int) < (s.length : Int)) && ((s.getD i 0).toNat : Int) == 34)) = true → (true && !(decide ((i : Int) < (s.length : Int)) && ((s.getD i 0).toNat : Int) == 39)) = true → qB (s.getD i 0) = false := fun h h' => by
    rw [e1, Bool.true_and, e34] at h; rw [e1, Bool.true_and, Bool.true_and, e39] at h'
    unfold qB; cases h1 : s.getD i 0 == 34 <;> cases h2 : s.getD i 0 == 39 <;> simp_all
  have qb : (!(decide ((i : Int) < (s.length : Int)) && ((s.getD i 0).toNat : Int) == 34)) = true → (true && !(decide ((i : Int) < (s.length : Int)) && ((s.getD i 0).toNat : Int) == 39)) = false → qB (s.getD i 0) = true := fun h h' => by
    rw [e1, Bool.true_and, e34] at h; rw [e1, Bool.true_and, Bool.true_and, e39] at h'
    unfold qB; cases h1 : s.getD i 0 == 34 <;> cases h2 : s.getD i 0 == 39 <;> simp_all
  have qc : (!(decide ((i : Int) < (s.length : Int)) && ((s.getD i 0).toNat : Int) == 34)) = !true → qB (s.getD i 0) = true := fun h => by
    rw [e1, Bool.true_and, e34] at h
    unfold qB; cases h1 : s.getD i 0 == 34 <;> simp_all
  have hx := Lib.indexByte_ge (s.drop (i + 1)) (s.getD i 0)
  have hx2 := ixb_le (s.drop (i + 1)) (s.getD i 0)
  rw [List.length_drop] at hx2
  have ei : ((i : Int)).toNat = i := Int.toNat_natCast i
  have ei1 : ((i : Int) + 1).toNat = i + 1 := by omega
  have v1 : qB (s.getD i 0) = false → valS s i = ((s.take (upTo (stP [62]) s i)).drop i, upTo (stP [62]) s i, true) := fun h => by unfold valS; rw [h]; rfl
  have v2 : qB (s.getD i 0) = true → decide (Lib.indexByte (s.drop (i + 1)) (s.getD i 0) < 0) = true → valS s i = ([], i, false) := fun h h' => by unfold valS; rw [h, if_pos rfl, if_pos (of_decide_eq_true h')]
  have v3 : qB (s.getD i 0) = true → decide (Lib.indexByte (s.drop (i + 1)) (s.getD i 0) < 0) = false → valS s i = ((s.drop (i + 1)).take (Lib.indexByte (s.drop (i + 1)) (s.getD i 0)).toNat, i + (Lib.indexByte (s.drop (i + 1)) (s.getD i 0)).toNat + 2, true) := fun h h' => by unfold valS; rw [h, if_pos rfl, if_neg (of_decide_eq_false h')]
  repeat' ((conv => whnf); first | (with_reducible rfl) | exact True.intro | (with_reducible exact absTF) | (with_reducible exact absFT) | intro _ | refine And.intro ?_ ?_ | refine Fin.mk ?_ | refine CallG.plain rfl ?_ ?_ | refine CallG.mk rfl ?_ ?_ | refine CallG.nwl rfl ?_ ?_ | refine CallG.nw ?_ ?_ | refine CallF.nwl rfl ?_ ?_ | refine CallF.nw ?_ ?_ | refine AppN.mk ?_ | (refine CallS.q ?_; (conv => whnf); first | refine CallG.plain rfl ?_ ?_ | refine CallG.mk rfl ?_ ?_) | (refine CallS.m ?_; (conv => whnf); refine CallM.mk rfl ?_ ?_) | (refine CallS.h ?_; (conv => whnf); refine CallM.mk rfl ?_ ?_) | (refine CallS.b ?_; (conv => whnf); refine CallM.mk rfl ?_ ?_) | (refine CallS.z ?_; (conv => whnf); refine CallM.mk rfl ?_ ?_))
  all_goals (try (conv => whnf))
  all_goals (try (exact Ob.mk (u8_bnd _)))
  all_goals (try (refine Ob.mk ?_; first | exact True.intro | assumption | omega | (try simp only [decide_eq_true_eq, decide_eq_false_iff_not, beq_iff_eq, beq_eq_false_iff_ne, bne_iff_ne, bne_eq_false_iff_eq, ne_eq, Bool.and_eq_true, Bool.or_eq_true, Bool.not_eq_true, Bool.not_eq_false, Bool.not_eq_true', Bool.not_eq_false', Int.toNat_natCast, Int.not_lt, Int.not_le, UInt8.ofNat_toNat, cast_eq] at *; omega)))
  all_goals (try ((show (_:Int) = _); omega))
  all_goals (try (show tupSV _ = _; with_unfolding_all rfl))
  all_goals (try ((show (_ : Nat) ≤ _); (simp <;> omega)))
  all_goals (try ((show (_ : Nat) ≤ _ ∧ (_ : Nat) ≤ _); (simp <;> omega)))
  all_goals (try ((show (_ : Int) ≤ _ ∧ (_ : Int) ≤ _ ∧ (_ : Int) ≤ _ ∧ (_ : Int) ≤ _); (simp <;> omega)))
  all_goals (try simp only [ei, ei1, Int.toNat_natCast] at *)
  all_goals (have ec : (s.getD i 0).toNat.toUInt8 = s.getD i 0 := by simp)
  all_goals (try simp only [ec] at *)
  all_goals (try (have hge := of_decide_eq_false ‹decide (Lib.indexByte (s.drop (i + 1)) (s.getD i 0) < 0) = false›))
  all_goals (try (have hv := v1 (qa ‹_› ‹_›)))
  all_goals (try (have hv := v2 (qb ‹_› ‹_›) ‹_›))
  all_goals (try (have hv := v2 (qc ‹_›) ‹_›))
  all_goals (try (have hv := v3 (qb ‹_› ‹_›) ‹_›))
  all_goals (try (have hv := v3 (qc ‹_›) ‹_›))
  all_goals (first | (rw [hv]; done) | (rw [hv]; rfl) | omega | (constructor <;> omega) | (rw [hv]; simp only; omega) | (exact ⟨by omega, by rw [List.length_drop]; omega⟩) | trace_state)
instance tOverB (s nm da x : List UInt8) (i : Int) (k : Int) (sf : Bool) (l : List AttrD) : FnM BB 15 [.loc 0 0] [(0, scC s i k nm (.own 1) sf da x), (1, .own attrTy l)] (0 ≤ i) (.bool (decide (i ≥ (s.length : Int)))) [(0, scC s i k nm (.own 1) sf da x), (1, .own attrTy l)] :=
  FnM.ofNat' (args := fun _ => [.loc 0 0]) (Φ := fun i => [(0, scC s i k nm (.own 1) sf da x), (1, .own attrTy l)]) (Φ' := fun i => [(0, scC s i k nm (.own 1) sf da x), (1, .own attrTy l)]) (pre := fun i => 0 ≤ i) (res := fun i => .bool (decide (i ≥ (s.length : Int)))) i (fun h => h) fun n => (tOverBn s nm da x n k sf l).weaken fun _ => True.intro
instance tIsB (s nm da x : List UInt8) (i : Int) (k : Int) (sf : Bool) (l : List AttrD) (c : Int) : FnM BB 34 [.loc 0 0, .int .u8 c] [(0, scC s i k nm (.own 1) sf da x), (1, .own attrTy l)] (0 ≤ i) (.bool (decide (i < (s.length : Int)) && ((s.getD i.toNat 0).toNat : Int) == c)) [(0, scC s i k nm (.own 1) sf da x), (1, .own attrTy l)] :=
  FnM.ofNat' (args := fun _ => [.loc 0 0, .int .u8 c]) (Φ := fun i => [(0, scC s i k nm (.own 1) sf da x), (1, .own attrTy l)]) (Φ' := fun i => [(0, scC s i k nm (.own 1) sf da x), (1, .own attrTy l)]) (pre := fun i => 0 ≤ i) (res := fun i => .bool (decide (i < (s.length : Int)) && ((s.getD i.toNat 0).toNat : Int) == c)) i (fun h => h) fun n => (tIsBn s nm da x n k sf l c).weaken fun _ => True.intro
instance tBlanksB (s nm da x : List UInt8) (i : Int) (k : Int) (sf : Bool) (l : List AttrD) : FnM BB 33 [.loc 0 0] [(0, scC s i k nm (.own 1) sf da x), (1, .own attrTy l)] (0 ≤ i ∧ i ≤ s.length ∧ s.length ≤ 100000) (.tup []) [(0, scC s (upTo blB s i.toNat : Nat) k nm (.own 1) sf da x), (1, .own attrTy l)] :=
  FnM.ofNat' (args := fun _ => [.loc 0 0]) (Φ := fun i => [(0, scC s i k nm (.own 1) sf da x), (1, .own attrTy l)]) (Φ' := fun i => [(0, scC s (upTo blB s i.toNat : Nat) k nm (.own 1) sf da x), (1, .own attrTy l)]) (pre := fun i => 0 ≤ i ∧ i ≤ s.length ∧ s.length ≤ 100000) (res := fun i => .tup []) i (fun h => h.1) fun n => (tBlanksBn s nm da x n k sf l).weaken fun h => (by have h' := h.2; constructor <;> omega)
instance tUntilB (s nm da x : List UInt8) (i : Int) (k : Int) (sf : Bool) (l : List AttrD) (st : List UInt8) : FnM BB 17 [.loc 0 0, .str st] [(0, scC s i k nm (.own 1) sf da x), (1, .own attrTy l)] (0 ≤ i ∧ i ≤ s.length ∧ s.length ≤ 100000) (.tup []) [(0, scC s (upTo (stP st) s i.toNat : Nat) k nm (.own 1) sf da x), (1, .own attrTy l)] :=
  FnM.ofNat' (args := fun _ => [.loc 0 0, .str st]) (Φ := fun i => [(0, scC s i k nm (.own 1) sf da x), (1, .own attrTy l)]) (Φ' := fun i => [(0, scC s (upTo (stP st) s i.toNat : Nat) k nm (.own 1) sf da x), (1, .own attrTy l)]) (pre := fun i => 0 ≤ i ∧ i ≤ s.length ∧ s.length ≤ 100000) (res := fun i => .tup []) i (fun h => h.1) fun n => (tUntilBn s nm da x n k sf l st).weaken fun h => (by have h' := h.2; constructor <;> omega)
instance tValueB (s nm da x : List UInt8) (i : Int) (k : Int) (sf : Bool) (l : List AttrD) : FnM BB 36 [.loc 0 0] [(0, scC s i k nm (.own 1) sf da x), (1, .own attrTy l)] (0 ≤ i ∧ i < s.length ∧ s.length ≤ 100000) (.tup [.str (valS s i.toNat).1, .bool (valS s i.toNat).2.2]) [(0, scC s ((valS s i.toNat).2.1 : Nat) k nm (.own 1) sf da x), (1, .own attrTy l)] :=
  FnM.ofNat' (args := fun _ => [.loc 0 0]) (Φ := fun i => [(0, scC s i k nm (.own 1) sf da x), (1, .own attrTy l)]) (Φ' := fun i => [(0, scC s ((valS s i.toNat).2.1 : Nat) k nm (.own 1) sf da x), (1, .own attrTy l)]) (pre := fun i => 0 ≤ i ∧ i < s.length ∧ s.length ≤ 100000) (res := fun i => .tup [.str (valS s i.toNat).1, .bool (valS s i.toNat).2.2]) i (fun h => h.1) fun n => (tValueBn s nm da x n k sf l).weaken fun h => (by have h' := h.2; constructor <;> omega)

end Go.Vc

namespace Go.Vc
open Go.Proofs
set_option linter.unusedVariables false
set_option maxRecDepth 10000
set_option linter.unusedSimpArgs false
set_option maxHeartbeats 4000000
def hitN (nm : List UInt8) (a : AttrD) : Bool := a.1 == nm
/-- where something of a kind is; -1: nowhere -/
def ixP {α : Type} (p : α → Bool) : List α → Int
  | [] => -1
  | x :: r => if p x = true then 0 else if ixP p r = -1 then -1 else ixP p r + 1
theorem ixP_ge {α : Type} (p : α → Bool) (l : List α) : -1 ≤ ixP p l ∧ ixP p l < l.length ∨ ixP p l = -1 := by
  induction l with
  | nil => right; rfl
  | cons x r ih =>
    unfold ixP
    simp only [List.length_cons]
    split
    · left; omega
    · split
      · right; rfl
      · left; rename_i h; rcases ih with h2 | h2 <;> omega
theorem ixP_at {α : Type} {p : α → Bool} {l : List α} {k : Nat} {d : α} (hk : k < l.length) (ha : (l.take k).all (fun x => !p x) = true) (h : p (l.getD k d) = true) : ixP p l = k := by
  induction l generalizing k with
  | nil => simp at hk
  | cons x r ih =>
    cases k with
    | zero => unfold ixP; rw [if_pos (by simpa using h)]; rfl
    | succ k =>
      rw [List.take_succ_cons, List.all_cons, Bool.and_eq_true, Bool.not_eq_true'] at ha
      have := ih (by simpa using hk) ha.2 (by simpa using h)
      unfold ixP
      rw [if_neg (by rw [ha.1]; decide), this, if_neg (by omega)]
      rfl
theorem ixP_none {α : Type} {p : α → Bool} {l : List α} (ha : l.all (fun x => !p x) = true) : ixP p l = -1 := by
  induction l with
  | nil => rfl
  | cons x r ih =>
    rw [List.all_cons, Bool.and_eq_true, Bool.not_eq_true'] at ha
    unfold ixP
    rw [if_neg (by rw [ha.1]; decide), ih ha.2, if_pos rfl]
theorem ixP_neg {α : Type} (p : α → Bool) (l : List α) : decide (ixP p l < 0) = !l.any p := by
  induction l with
  | nil => rfl
  | cons x r ih =>
    unfold ixP
    rw [List.any_cons]
    cases h : p x with
    | true => rfl
    | false =>
      simp only [Bool.false_eq_true, if_false, Bool.false_or]
      rw [← ih]
      have := ixP_ge p r
      split
      · rename_i q; rw [q]
      · rw [Bool.eq_iff_iff]; simp; omega
theorem take_all {α : Type} (p : α → Bool) (l : List α) (k : Nat) (d : α) (hk : k < l.length) : (l.take (k + 1)).all p = ((l.take k).all p && p (l.getD k d)) := by
  rw [List.take_succ_eq_append_getElem hk, List.all_append]
  simp [List.getD, List.getElem?_eq_getElem hk]
/-- attributes with one more, if none has its name -/
def addL (l : List AttrD) (a : AttrD) : List AttrD := if l.any (hitN a.1) = true then l else l ++ [a]
instance tPl1 (a b nm : List UInt8) : FnM BB 56 [.agg [.str a, .str b], .loc 0 0] [(0, .box [.str nm])] True (.bool (a == nm)) [(0, .box [.str nm])] := by
  refine FnM.intro (N := 8) [0, 1, 2, 3] [] 1 Try.call56 Try.func56 rfl rfl (by kernel_rfl) (fun hpre => ?_)
  repeat' ((conv => whnf); first | (with_reducible rfl) | exact True.intro | (with_reducible exact absTF) | (with_reducible exact absFT) | intro _ | refine And.intro ?_ ?_ | refine Fin.mk ?_ | refine CallG.plain rfl ?_ ?_ | refine CallG.mk rfl ?_ ?_ | refine CallG.nwl rfl ?_ ?_ | refine CallG.nw ?_ ?_ | refine CallF.nwl rfl ?_ ?_ | refine CallF.nw ?_ ?_ | refine AppN.mk ?_ | (refine CallS.q ?_; (conv => whnf); first | refine CallG.plain rfl ?_ ?_ | refine CallG.mk rfl ?_ ?_) | (refine CallS.m ?_; (conv => whnf); refine CallM.mk rfl ?_ ?_) | (refine CallS.h ?_; (conv => whnf); refine CallM.mk rfl ?_ ?_) | (refine CallS.b ?_; (conv => whnf); refine CallM.mk rfl ?_ ?_) | (refine CallS.z ?_; (conv => whnf); refine CallM.mk rfl ?_ ?_))
  all_goals (try (conv => whnf))
  all_goals (try (exact Ob.mk (u8_bnd _)))
  all_goals (try (refine Ob.mk ?_; first | exact True.intro | assumption | omega | (try simp only [decide_eq_true_eq, decide_eq_false_iff_not, beq_iff_eq, beq_eq_false_iff_ne, bne_iff_ne, bne_eq_false_iff_eq, ne_eq, Bool.and_eq_true, Bool.or_eq_true, Bool.not_eq_true, Bool.not_eq_false, Bool.not_eq_true', Bool.not_eq_false', Int.toNat_natCast, Int.not_lt, Int.not_le, UInt8.ofNat_toNat, cast_eq] at *; omega)))
  all_goals (try ((show (_:Int) = _); omega))
  all_goals (try (show tupSV _ = _; with_unfolding_all rfl))
  all_goals (try ((show (_ : Nat) ≤ _); (simp <;> omega)))
  all_goals (try ((show (_ : Nat) ≤ _ ∧ (_ : Nat) ≤ _); (simp <;> omega)))
  all_goals (try ((show (_ : Int) ≤ _ ∧ (_ : Int) ≤ _ ∧ (_ : Int) ≤ _ ∧ (_ : Int) ≤ _); (simp <;> omega)))
instance tIxF (l : List AttrD) (nm : List UInt8) : FnM BB 55 [.own 0, .fn 56 [.loc 1 0]] [(0, .ro attrTy l), (1, .box [.str nm])] (l.length ≤ 100000) (.int .i64 (ixP (hitN nm) l)) [(0, .ro attrTy l), (1, .box [.str nm])] := by
  refine FnM.intro (N := 19) [0, 1, 4, 5, 7, 8, 9, 16] [] 2 Try.call55 Try.func55 rfl rfl (by kernel_rfl) (fun hpre => ?_)
  repeat' ((conv => whnf); first | (with_reducible rfl) | exact True.intro | (with_reducible exact absTF) | (with_reducible exact absFT) | intro _ | refine And.intro ?_ ?_ | refine Fin.mk ?_ | refine CallG.plain rfl ?_ ?_ | refine CallG.mk rfl ?_ ?_ | refine CallG.nwl rfl ?_ ?_ | refine CallG.nw ?_ ?_ | refine CallF.nwl rfl ?_ ?_ | refine CallF.nw ?_ ?_ | refine AppN.mk ?_ | (refine CallS.q ?_; (conv => whnf); first | refine CallG.plain rfl ?_ ?_ | refine CallG.mk rfl ?_ ?_) | (refine CallS.m ?_; (conv => whnf); refine CallM.mk rfl ?_ ?_) | (refine CallS.h ?_; (conv => whnf); refine CallM.mk rfl ?_ ?_) | (refine CallS.b ?_; (conv => whnf); refine CallM.mk rfl ?_ ?_) | (refine CallS.z ?_; (conv => whnf); refine CallM.mk rfl ?_ ?_))
  all_goals (try (conv => whnf))
  all_goals (try (exact Ob.mk (u8_bnd _)))
  all_goals (try (refine Ob.mk ?_; first | exact True.intro | assumption | omega | (try simp only [decide_eq_true_eq, decide_eq_false_iff_not, beq_iff_eq, beq_eq_false_iff_ne, bne_iff_ne, bne_eq_false_iff_eq, ne_eq, Bool.and_eq_true, Bool.or_eq_true, Bool.not_eq_true, Bool.not_eq_false, Bool.not_eq_true', Bool.not_eq_false', Int.toNat_natCast, Int.not_lt, Int.not_le, UInt8.ofNat_toNat, cast_eq] at *; omega)))
  all_goals (try ((show (_:Int) = _); omega))
  all_goals (try (show tupSV _ = _; with_unfolding_all rfl))
  all_goals (try ((show (_ : Nat) ≤ _); (simp <;> omega)))
  all_goals (try ((show (_ : Nat) ≤ _ ∧ (_ : Nat) ≤ _); (simp <;> omega)))
  all_goals (try ((show (_ : Int) ≤ _ ∧ (_ : Int) ≤ _ ∧ (_ : Int) ≤ _ ∧ (_ : Int) ≤ _); (simp <;> omega)))
  refine LoopStop.mk (α := Nat) (fun k => [(8, .int .i64 k)]) (fun _ => []) 20 (fun k => k ≤ l.length ∧ (l.take k).all (fun x => !hitN nm x) = true) (fun k => l.length - k) 0 (by simp) ?_ (fun k hk => ?_)
  · repeat' ((conv => whnf); first | (with_reducible rfl) | exact True.intro | (with_reducible exact absTF) | (with_reducible exact absFT) | intro _ | refine And.intro ?_ ?_ | refine Fin.mk ?_ | refine CallG.plain rfl ?_ ?_ | refine CallG.mk rfl ?_ ?_ | refine CallG.nwl rfl ?_ ?_ | refine CallG.nw ?_ ?_ | refine CallF.nwl rfl ?_ ?_ | refine CallF.nw ?_ ?_ | refine AppN.mk ?_ | (refine CallS.q ?_; (conv => whnf); first | refine CallG.plain rfl ?_ ?_ | refine CallG.mk rfl ?_ ?_) | (refine CallS.m ?_; (conv => whnf); refine CallM.mk rfl ?_ ?_) | (refine CallS.h ?_; (conv => whnf); refine CallM.mk rfl ?_ ?_) | (refine CallS.b ?_; (conv => whnf); refine CallM.mk rfl ?_ ?_) | (refine CallS.z ?_; (conv => whnf); refine CallM.mk rfl ?_ ?_))
    all_goals (try (conv => whnf))
    all_goals (try (exact Ob.mk (u8_bnd _)))
    all_goals (try (refine Ob.mk ?_; first | exact True.intro | assumption | omega | (try simp only [decide_eq_true_eq, decide_eq_false_iff_not, beq_iff_eq, beq_eq_false_iff_ne, bne_iff_ne, bne_eq_false_iff_eq, ne_eq, Bool.and_eq_true, Bool.or_eq_true, Bool.not_eq_true, Bool.not_eq_false, Bool.not_eq_true', Bool.not_eq_false', Int.toNat_natCast, Int.not_lt, Int.not_le, UInt8.ofNat_toNat, cast_eq] at *; omega)))
    all_goals (try ((show (_:Int) = _); omega))
    all_goals (try (show tupSV _ = _; with_unfolding_all rfl))
    all_goals (try ((show (_ : Nat) ≤ _); (simp <;> omega)))
    all_goals (try ((show (_ : Nat) ≤ _ ∧ (_ : Nat) ≤ _); (simp <;> omega)))
    all_goals (try ((show (_ : Int) ≤ _ ∧ (_ : Int) ≤ _ ∧ (_ : Int) ≤ _ ∧ (_ : Int) ≤ _); (simp <;> omega)))
    all_goals (try rfl)
  · obtain ⟨hk, ha⟩ := hk
    repeat' ((conv => whnf); first | (with_reducible rfl) | exact True.intro | (with_reducible exact absTF) | (with_reducible exact absFT) | intro _ | refine And.intro ?_ ?_ | refine Fin.mk ?_ | refine CallG.plain rfl ?_ ?_ | refine CallG.mk rfl ?_ ?_ | refine CallG.nwl rfl ?_ ?_ | refine CallG.nw ?_ ?_ | refine CallF.nwl rfl ?_ ?_ | refine CallF.nw ?_ ?_ | refine AppN.mk ?_ | (refine CallS.q ?_; (conv => whnf); first | refine CallG.plain rfl ?_ ?_ | refine CallG.mk rfl ?_ ?_) | (refine CallS.m ?_; (conv => whnf); refine CallM.mk rfl ?_ ?_) | (refine CallS.h ?_; (conv => whnf); refine CallM.mk rfl ?_ ?_) | (refine CallS.b ?_; (conv => whnf); refine CallM.mk rfl ?_ ?_) | (refine CallS.z ?_; (conv => whnf); refine CallM.mk rfl ?_ ?_))
    all_goals (try (conv => whnf))
    all_goals (try (exact Ob.mk (u8_bnd _)))
    all_goals (try (refine Ob.mk ?_; first | exact True.intro | assumption | omega | (try simp only [decide_eq_true_eq, decide_eq_false_iff_not, beq_iff_eq, beq_eq_false_iff_ne, bne_iff_ne, bne_eq_false_iff_eq, ne_eq, Bool.and_eq_true, Bool.or_eq_true, Bool.not_eq_true, Bool.not_eq_false, Bool.not_eq_true', Bool.not_eq_false', Int.toNat_natCast, Int.not_lt, Int.not_le, UInt8.ofNat_toNat, cast_eq] at *; omega)))
    all_goals (try ((show (_:Int) = _); omega))
    all_goals (try (show tupSV _ = _; with_unfolding_all rfl))
    all_goals (try ((show (_ : Nat) ≤ _); (simp <;> omega)))
    all_goals (try ((show (_ : Nat) ≤ _ ∧ (_ : Nat) ≤ _); (simp <;> omega)))
    all_goals (try ((show (_ : Int) ≤ _ ∧ (_ : Int) ≤ _ ∧ (_ : Int) ≤ _ ∧ (_ : Int) ≤ _); (simp <;> omega)))
    all_goals (try simp only [Int.toNat_natCast] at *)
    · have hp := of_decide_eq_true ‹decide ((k : Int) < (l.length : Int)) = true›
      have h : ((l.getD k attrTy.dflt).1 == nm) = true := ‹_›
      exact (ixP_at (p := hitN nm) (d := attrTy.dflt) (by omega) ha h).symm
    · have hp := of_decide_eq_true ‹decide ((k : Int) < (l.length : Int)) = true›
      have h : ((l.getD k attrTy.dflt).1 == nm) = false := ‹_›
      refine Rnd.mk ⟨k + 1, ⟨by omega, ?_⟩, by omega, ?_⟩
      · rw [take_all (fun x => !hitN nm x) l k attrTy.dflt (by omega), ha]
        show (true && !((l.getD k attrTy.dflt).1 == nm)) = true
        rw [h]; rfl
      · repeat' ((conv => whnf); first | (with_reducible rfl) | exact True.intro | (with_reducible exact absTF) | (with_reducible exact absFT) | intro _ | refine And.intro ?_ ?_ | refine Fin.mk ?_ | refine CallG.plain rfl ?_ ?_ | refine CallG.mk rfl ?_ ?_ | refine CallG.nwl rfl ?_ ?_ | refine CallG.nw ?_ ?_ | refine CallF.nwl rfl ?_ ?_ | refine CallF.nw ?_ ?_ | refine AppN.mk ?_ | (refine CallS.q ?_; (conv => whnf); first | refine CallG.plain rfl ?_ ?_ | refine CallG.mk rfl ?_ ?_) | (refine CallS.m ?_; (conv => whnf); refine CallM.mk rfl ?_ ?_) | (refine CallS.h ?_; (conv => whnf); refine CallM.mk rfl ?_ ?_) | (refine CallS.b ?_; (conv => whnf); refine CallM.mk rfl ?_ ?_) | (refine CallS.z ?_; (conv => whnf); refine CallM.mk rfl ?_ ?_))
        all_goals (try (conv => whnf))
        all_goals (try (exact Ob.mk (u8_bnd _)))
        all_goals (try (refine Ob.mk ?_; first | exact True.intro | assumption | omega | (try simp only [decide_eq_true_eq, decide_eq_false_iff_not, beq_iff_eq, beq_eq_false_iff_ne, bne_iff_ne, bne_eq_false_iff_eq, ne_eq, Bool.and_eq_true, Bool.or_eq_true, Bool.not_eq_true, Bool.not_eq_false, Bool.not_eq_true', Bool.not_eq_false', Int.toNat_natCast, Int.not_lt, Int.not_le, UInt8.ofNat_toNat, cast_eq] at *; omega)))
        all_goals (try ((show (_:Int) = _); omega))
        all_goals (try (show tupSV _ = _; with_unfolding_all rfl))
        all_goals (try ((show (_ : Nat) ≤ _); (simp <;> omega)))
        all_goals (try ((show (_ : Nat) ≤ _ ∧ (_ : Nat) ≤ _); (simp <;> omega)))
        all_goals (try ((show (_ : Int) ≤ _ ∧ (_ : Int) ≤ _ ∧ (_ : Int) ≤ _ ∧ (_ : Int) ≤ _); (simp <;> omega)))
        all_goals rfl
    · have hp := of_decide_eq_false ‹decide ((k : Int) < (l.length : Int)) = false›
      have : k = l.length := by omega
      subst this
      rw [List.take_length] at ha
      exact (ixP_none ha).symm
instance tClone (l : List AttrD) : FnM BB 48 [.own 0] [(0, .ro attrTy l)] (l.length ≤ 100000) (.own 1) [(0, .ro attrTy l), (1, .own attrTy l)] := by
  refine FnM.intro (N := 8) [0, 2, 4] [] 2 Try.call48 Try.func48 rfl rfl (by kernel_rfl) (fun hpre => ?_)
  repeat' ((conv => whnf); first | (with_reducible rfl) | exact True.intro | (with_reducible exact absTF) | (with_reducible exact absFT) | intro _ | refine And.intro ?_ ?_ | refine Fin.mk ?_ | refine CallG.plain rfl ?_ ?_ | refine CallG.mk rfl ?_ ?_ | refine CallG.nwl rfl ?_ ?_ | refine CallG.nw ?_ ?_ | refine CallF.nwl rfl ?_ ?_ | refine CallF.nw ?_ ?_ | refine AppN.mk ?_ | (refine CallS.q ?_; (conv => whnf); first | refine CallG.plain rfl ?_ ?_ | refine CallG.mk rfl ?_ ?_) | (refine CallS.m ?_; (conv => whnf); refine CallM.mk rfl ?_ ?_) | (refine CallS.h ?_; (conv => whnf); refine CallM.mk rfl ?_ ?_) | (refine CallS.b ?_; (conv => whnf); refine CallM.mk rfl ?_ ?_) | (refine CallS.z ?_; (conv => whnf); refine CallM.mk rfl ?_ ?_))
  all_goals (try (conv => whnf))
  all_goals (try (exact Ob.mk (u8_bnd _)))
  all_goals (try (refine Ob.mk ?_; first | exact True.intro | assumption | omega | (try simp only [decide_eq_true_eq, decide_eq_false_iff_not, beq_iff_eq, beq_eq_false_iff_ne, bne_iff_ne, bne_eq_false_iff_eq, ne_eq, Bool.and_eq_true, Bool.or_eq_true, Bool.not_eq_true, Bool.not_eq_false, Bool.not_eq_true', Bool.not_eq_false', Int.toNat_natCast, Int.not_lt, Int.not_le, UInt8.ofNat_toNat, cast_eq] at *; omega)))
  all_goals (try ((show (_:Int) = _); omega))
  all_goals (try (show tupSV _ = _; with_unfolding_all rfl))
  all_goals (try ((show (_ : Nat) ≤ _); (simp <;> omega)))
  all_goals (try ((show (_ : Nat) ≤ _ ∧ (_ : Nat) ≤ _); (simp <;> omega)))
  all_goals (try ((show (_ : Int) ≤ _ ∧ (_ : Int) ≤ _ ∧ (_ : Int) ≤ _ ∧ (_ : Int) ≤ _); (simp <;> omega)))
  all_goals (first | (rename_i h1 h2; exact h1 h2) | simp)
instance tCloneN : FnM BB 48 [.nils] [] True .nils [] := by
  refine FnM.intro (N := 8) [0, 2, 4] [] 1 Try.call48 Try.func48 rfl rfl (by kernel_rfl) (fun hpre => ?_)
  repeat' ((conv => whnf); first | (with_reducible rfl) | exact True.intro | (with_reducible exact absTF) | (with_reducible exact absFT) | intro _ | refine And.intro ?_ ?_ | refine Fin.mk ?_ | refine CallG.plain rfl ?_ ?_ | refine CallG.mk rfl ?_ ?_ | refine CallG.nwl rfl ?_ ?_ | refine CallG.nw ?_ ?_ | refine CallF.nwl rfl ?_ ?_ | refine CallF.nw ?_ ?_ | refine AppN.mk ?_ | (refine CallS.q ?_; (conv => whnf); first | refine CallG.plain rfl ?_ ?_ | refine CallG.mk rfl ?_ ?_) | (refine CallS.m ?_; (conv => whnf); refine CallM.mk rfl ?_ ?_) | (refine CallS.h ?_; (conv => whnf); refine CallM.mk rfl ?_ ?_) | (refine CallS.b ?_; (conv => whnf); refine CallM.mk rfl ?_ ?_) | (refine CallS.z ?_; (conv => whnf); refine CallM.mk rfl ?_ ?_))
  all_goals (try (conv => whnf))
  all_goals (try (exact Ob.mk (u8_bnd _)))
  all_goals (try (refine Ob.mk ?_; first | exact True.intro | assumption | omega | (try simp only [decide_eq_true_eq, decide_eq_false_iff_not, beq_iff_eq, beq_eq_false_iff_ne, bne_iff_ne, bne_eq_false_iff_eq, ne_eq, Bool.and_eq_true, Bool.or_eq_true, Bool.not_eq_true, Bool.not_eq_false, Bool.not_eq_true', Bool.not_eq_false', Int.toNat_natCast, Int.not_lt, Int.not_le, UInt8.ofNat_toNat, cast_eq] at *; omega)))
  all_goals (try ((show (_:Int) = _); omega))
  all_goals (try (show tupSV _ = _; with_unfolding_all rfl))
  all_goals (try ((show (_ : Nat) ≤ _); (simp <;> omega)))
  all_goals (try ((show (_ : Nat) ≤ _ ∧ (_ : Nat) ≤ _); (simp <;> omega)))
  all_goals (try ((show (_ : Int) ≤ _ ∧ (_ : Int) ≤ _ ∧ (_ : Int) ≤ _ ∧ (_ : Int) ≤ _); (simp <;> omega)))
  all_goals trace_state
instance tPlace (l : List AttrD) (nm : List UInt8) : FnM BB 49 [.own 0, .str nm] [(0, .ro attrTy l)] (l.length ≤ 100000) (.int .i64 (ixP (hitN nm) l)) [(0, .ro attrTy l)] := by
  refine FnM.intro (N := 8) [0, 1, 3, 4] [] 1 Try.call49 Try.func49 rfl rfl (by kernel_rfl) (fun hpre => ?_)
  repeat' ((conv => whnf); first | (with_reducible rfl) | exact True.intro | (with_reducible exact absTF) | (with_reducible exact absFT) | intro _ | refine And.intro ?_ ?_ | refine Fin.mk ?_ | refine CallG.plain rfl ?_ ?_ | refine CallG.mk rfl ?_ ?_ | refine CallG.nwl rfl ?_ ?_ | refine CallG.nw ?_ ?_ | refine CallF.nwl rfl ?_ ?_ | refine CallF.nw ?_ ?_ | refine AppN.mk ?_ | (refine CallS.q ?_; (conv => whnf); first | refine CallG.plain rfl ?_ ?_ | refine CallG.mk rfl ?_ ?_) | (refine CallS.m ?_; (conv => whnf); refine CallM.mk rfl ?_ ?_) | (refine CallS.h ?_; (conv => whnf); refine CallM.mk rfl ?_ ?_) | (refine CallS.b ?_; (conv => whnf); refine CallM.mk rfl ?_ ?_) | (refine CallS.z ?_; (conv => whnf); refine CallM.mk rfl ?_ ?_))
  all_goals (try (conv => whnf))
  all_goals (try (exact Ob.mk (u8_bnd _)))
  all_goals (try (refine Ob.mk ?_; first | exact True.intro | assumption | omega | (try simp only [decide_eq_true_eq, decide_eq_false_iff_not, beq_iff_eq, beq_eq_false_iff_ne, bne_iff_ne, bne_eq_false_iff_eq, ne_eq, Bool.and_eq_true, Bool.or_eq_true, Bool.not_eq_true, Bool.not_eq_false, Bool.not_eq_true', Bool.not_eq_false', Int.toNat_natCast, Int.not_lt, Int.not_le, UInt8.ofNat_toNat, cast_eq] at *; omega)))
  all_goals (try ((show (_:Int) = _); omega))
  all_goals (try (show tupSV _ = _; with_unfolding_all rfl))
  all_goals (try ((show (_ : Nat) ≤ _); (simp <;> omega)))
  all_goals (try ((show (_ : Nat) ≤ _ ∧ (_ : Nat) ≤ _); (simp <;> omega)))
  all_goals (try ((show (_ : Int) ≤ _ ∧ (_ : Int) ≤ _ ∧ (_ : Int) ≤ _ ∧ (_ : Int) ≤ _); (simp <;> omega)))
instance tIxN (nm : List UInt8) : FnM BB 55 [.nils, .fn 56 [.loc 0 0]] [(0, .box [.str nm])] True (.int .i64 (-1)) [(0, .box [.str nm])] := by
  refine FnM.intro (N := 19) [0, 1, 4, 5, 7, 8, 9, 16] [] 1 Try.call55 Try.func55 rfl rfl (by kernel_rfl) (fun hpre => ?_)
  repeat' ((conv => whnf); first | (with_reducible rfl) | exact True.intro | (with_reducible exact absTF) | (with_reducible exact absFT) | intro _ | refine And.intro ?_ ?_ | refine Fin.mk ?_ | refine CallG.plain rfl ?_ ?_ | refine CallG.mk rfl ?_ ?_ | refine CallG.nwl rfl ?_ ?_ | refine CallG.nw ?_ ?_ | refine CallF.nwl rfl ?_ ?_ | refine CallF.nw ?_ ?_ | refine AppN.mk ?_ | (refine CallS.q ?_; (conv => whnf); first | refine CallG.plain rfl ?_ ?_ | refine CallG.mk rfl ?_ ?_) | (refine CallS.m ?_; (conv => whnf); refine CallM.mk rfl ?_ ?_) | (refine CallS.h ?_; (conv => whnf); refine CallM.mk rfl ?_ ?_) | (refine CallS.b ?_; (conv => whnf); refine CallM.mk rfl ?_ ?_) | (refine CallS.z ?_; (conv => whnf); refine CallM.mk rfl ?_ ?_))
  all_goals (try (conv => whnf))
  all_goals (try (exact Ob.mk (u8_bnd _)))
  all_goals (try (refine Ob.mk ?_; first | exact True.intro | assumption | omega | (try simp only [decide_eq_true_eq, decide_eq_false_iff_not, beq_iff_eq, beq_eq_false_iff_ne, bne_iff_ne, bne_eq_false_iff_eq, ne_eq, Bool.and_eq_true, Bool.or_eq_true, Bool.not_eq_true, Bool.not_eq_false, Bool.not_eq_true', Bool.not_eq_false', Int.toNat_natCast, Int.not_lt, Int.not_le, UInt8.ofNat_toNat, cast_eq] at *; omega)))
  all_goals (try ((show (_:Int) = _); omega))
  all_goals (try (show tupSV _ = _; with_unfolding_all rfl))
  all_goals (try ((show (_ : Nat) ≤ _); (simp <;> omega)))
  all_goals (try ((show (_ : Nat) ≤ _ ∧ (_ : Nat) ≤ _); (simp <;> omega)))
  all_goals (try ((show (_ : Int) ≤ _ ∧ (_ : Int) ≤ _ ∧ (_ : Int) ≤ _ ∧ (_ : Int) ≤ _); (simp <;> omega)))
  refine LoopStop.mk (α := Unit) (fun k => [(8, .int .i64 0)]) (fun _ => []) 20 (fun k => True) (fun k => 0) () True.intro ?_ (fun k hk => ?_)
  · repeat' ((conv => whnf); first | (with_reducible rfl) | exact True.intro | (with_reducible exact absTF) | (with_reducible exact absFT) | intro _ | refine And.intro ?_ ?_ | refine Fin.mk ?_ | refine CallG.plain rfl ?_ ?_ | refine CallG.mk rfl ?_ ?_ | refine CallG.nwl rfl ?_ ?_ | refine CallG.nw ?_ ?_ | refine CallF.nwl rfl ?_ ?_ | refine CallF.nw ?_ ?_ | refine AppN.mk ?_ | (refine CallS.q ?_; (conv => whnf); first | refine CallG.plain rfl ?_ ?_ | refine CallG.mk rfl ?_ ?_) | (refine CallS.m ?_; (conv => whnf); refine CallM.mk rfl ?_ ?_) | (refine CallS.h ?_; (conv => whnf); refine CallM.mk rfl ?_ ?_) | (refine CallS.b ?_; (conv => whnf); refine CallM.mk rfl ?_ ?_) | (refine CallS.z ?_; (conv => whnf); refine CallM.mk rfl ?_ ?_))
    all_goals (try (conv => whnf))
    all_goals (try (exact Ob.mk (u8_bnd _)))
    all_goals (try (refine Ob.mk ?_; first | exact True.intro | assumption | omega | (try simp only [decide_eq_true_eq, decide_eq_false_iff_not, beq_iff_eq, beq_eq_false_iff_ne, bne_iff_ne, bne_eq_false_iff_eq, ne_eq, Bool.and_eq_true, Bool.or_eq_true, Bool.not_eq_true, Bool.not_eq_false, Bool.not_eq_true', Bool.not_eq_false', Int.toNat_natCast, Int.not_lt, Int.not_le, UInt8.ofNat_toNat, cast_eq] at *; omega)))
    all_goals (try ((show (_:Int) = _); omega))
    all_goals (try (show tupSV _ = _; with_unfolding_all rfl))
    all_goals (try ((show (_ : Nat) ≤ _); (simp <;> omega)))
    all_goals (try ((show (_ : Nat) ≤ _ ∧ (_ : Nat) ≤ _); (simp <;> omega)))
    all_goals (try ((show (_ : Int) ≤ _ ∧ (_ : Int) ≤ _ ∧ (_ : Int) ≤ _ ∧ (_ : Int) ≤ _); (simp <;> omega)))
    all_goals (try rfl)
  · repeat' ((conv => whnf); first | (with_reducible rfl) | exact True.intro | (with_reducible exact absTF) | (with_reducible exact absFT) | intro _ | refine And.intro ?_ ?_ | refine Fin.mk ?_ | refine CallG.plain rfl ?_ ?_ | refine CallG.mk rfl ?_ ?_ | refine CallG.nwl rfl ?_ ?_ | refine CallG.nw ?_ ?_ | refine CallF.nwl rfl ?_ ?_ | refine CallF.nw ?_ ?_ | refine AppN.mk ?_ | (refine CallS.q ?_; (conv => whnf); first | refine CallG.plain rfl ?_ ?_ | refine CallG.mk rfl ?_ ?_) | (refine CallS.m ?_; (conv => whnf); refine CallM.mk rfl ?_ ?_) | (refine CallS.h ?_; (conv => whnf); refine CallM.mk rfl ?_ ?_) | (refine CallS.b ?_; (conv => whnf); refine CallM.mk rfl ?_ ?_) | (refine CallS.z ?_; (conv => whnf); refine CallM.mk rfl ?_ ?_))
    all_goals (try (conv => whnf))
    all_goals (try (exact Ob.mk (u8_bnd _)))
    all_goals (try (refine Ob.mk ?_; first | exact True.intro | assumption | omega | (try simp only [decide_eq_true_eq, decide_eq_false_iff_not, beq_iff_eq, beq_eq_false_iff_ne, bne_iff_ne, bne_eq_false_iff_eq, ne_eq, Bool.and_eq_true, Bool.or_eq_true, Bool.not_eq_true, Bool.not_eq_false, Bool.not_eq_true', Bool.not_eq_false', Int.toNat_natCast, Int.not_lt, Int.not_le, UInt8.ofNat_toNat, cast_eq] at *; omega)))
    all_goals (try ((show (_:Int) = _); omega))
    all_goals (try (show tupSV _ = _; with_unfolding_all rfl))
    all_goals (try ((show (_ : Nat) ≤ _); (simp <;> omega)))
    all_goals (try ((show (_ : Nat) ≤ _ ∧ (_ : Nat) ≤ _); (simp <;> omega)))
    all_goals (try ((show (_ : Int) ≤ _ ∧ (_ : Int) ≤ _ ∧ (_ : Int) ≤ _ ∧ (_ : Int) ≤ _); (simp <;> omega)))
    all_goals (first | (exfalso; exact absurd ‹decide ((0 : Int) < 0) = true› (by decide)) | rfl | trace_state)
instance tPlaceN (nm : List UInt8) : FnM BB 49 [.nils, .str nm] [] True (.int .i64 (-1)) [] := by
  refine FnM.intro (N := 8) [0, 1, 3, 4] [] 0 Try.call49 Try.func49 rfl rfl (by kernel_rfl) (fun hpre => ?_)
  repeat' ((conv => whnf); first | (with_reducible rfl) | exact True.intro | (with_reducible exact absTF) | (with_reducible exact absFT) | intro _ | refine And.intro ?_ ?_ | refine Fin.mk ?_ | refine CallG.plain rfl ?_ ?_ | refine CallG.mk rfl ?_ ?_ | refine CallG.nwl rfl ?_ ?_ | refine CallG.nw ?_ ?_ | refine CallF.nwl rfl ?_ ?_ | refine CallF.nw ?_ ?_ | refine AppN.mk ?_ | (refine CallS.q ?_; (conv => whnf); first | refine CallG.plain rfl ?_ ?_ | refine CallG.mk rfl ?_ ?_) | (refine CallS.m ?_; (conv => whnf); refine CallM.mk rfl ?_ ?_) | (refine CallS.h ?_; (conv => whnf); refine CallM.mk rfl ?_ ?_) | (refine CallS.b ?_; (conv => whnf); refine CallM.mk rfl ?_ ?_) | (refine CallS.z ?_; (conv => whnf); refine CallM.mk rfl ?_ ?_))
  all_goals (try (conv => whnf))
  all_goals (try (exact Ob.mk (u8_bnd _)))
  all_goals (try (refine Ob.mk ?_; first | exact True.intro | assumption | omega | (try simp only [decide_eq_true_eq, decide_eq_false_iff_not, beq_iff_eq, beq_eq_false_iff_ne, bne_iff_ne, bne_eq_false_iff_eq, ne_eq, Bool.and_eq_true, Bool.or_eq_true, Bool.not_eq_true, Bool.not_eq_false, Bool.not_eq_true', Bool.not_eq_false', Int.toNat_natCast, Int.not_lt, Int.not_le, UInt8.ofNat_toNat, cast_eq] at *; omega)))
  all_goals (try ((show (_:Int) = _); omega))
  all_goals (try (show tupSV _ = _; with_unfolding_all rfl))
  all_goals (try ((show (_ : Nat) ≤ _); (simp <;> omega)))
  all_goals (try ((show (_ : Nat) ≤ _ ∧ (_ : Nat) ≤ _); (simp <;> omega)))
  all_goals (try ((show (_ : Int) ≤ _ ∧ (_ : Int) ≤ _ ∧ (_ : Int) ≤ _ ∧ (_ : Int) ≤ _); (simp <;> omega)))
instance tAdd (l : List AttrD) (a b : List UInt8) : FnM BB 43 [.own 0, .agg [.str a, .str b]] [(0, .ro attrTy l)] (l.length ≤ 50000) (.own 1) [(0, .ro attrTy l), (1, .own attrTy (addL l (a, b)))] := by
  refine FnM.intro (N := 18) [0, 1, 3, 4, 5, 12] [] 1 Try.call43 Try.func43 rfl rfl (by kernel_rfl) (fun hpre => ?_)
  have e : addL l (a, b) = if l.any (hitN a) = true then l else l ++ [(a, b)] := rfl
  have hn := ixP_neg (hitN a) l
  have e1 : decide (ixP (hitN a) l < 0) = true → addL l (a, b) = l ++ [(a, b)] := fun h => by rw [hn] at h; rw [e, if_neg (by simpa using h)]
  have e2 : decide (ixP (hitN a) l < 0) = false → addL l (a, b) = l := fun h => by rw [hn] at h; rw [e, if_pos (by simpa using h)]
  repeat' ((conv => whnf); first | (with_reducible rfl) | exact True.intro | (with_reducible exact absTF) | (with_reducible exact absFT) | intro _ | refine And.intro ?_ ?_ | refine Fin.mk ?_ | refine CallG.plain rfl ?_ ?_ | refine CallG.mk rfl ?_ ?_ | refine CallG.nwl rfl ?_ ?_ | refine CallG.nw ?_ ?_ | refine CallF.nwl rfl ?_ ?_ | refine CallF.nw ?_ ?_ | refine AppN.mk ?_ | (refine CallS.q ?_; (conv => whnf); first | refine CallG.plain rfl ?_ ?_ | refine CallG.mk rfl ?_ ?_) | (refine CallS.m ?_; (conv => whnf); refine CallM.mk rfl ?_ ?_) | (refine CallS.h ?_; (conv => whnf); refine CallM.mk rfl ?_ ?_) | (refine CallS.b ?_; (conv => whnf); refine CallM.mk rfl ?_ ?_) | (refine CallS.z ?_; (conv => whnf); refine CallM.mk rfl ?_ ?_))
  all_goals (try (conv => whnf))
  all_goals (try (exact Ob.mk (u8_bnd _)))
  all_goals (try (refine Ob.mk ?_; first | exact True.intro | assumption | omega | (try simp only [decide_eq_true_eq, decide_eq_false_iff_not, beq_iff_eq, beq_eq_false_iff_ne, bne_iff_ne, bne_eq_false_iff_eq, ne_eq, Bool.and_eq_true, Bool.or_eq_true, Bool.not_eq_true, Bool.not_eq_false, Bool.not_eq_true', Bool.not_eq_false', Int.toNat_natCast, Int.not_lt, Int.not_le, UInt8.ofNat_toNat, cast_eq] at *; omega)))
  all_goals (try ((show (_:Int) = _); omega))
  all_goals (try (show tupSV _ = _; with_unfolding_all rfl))
  all_goals (try ((show (_ : Nat) ≤ _); (simp <;> omega)))
  all_goals (try ((show (_ : Nat) ≤ _ ∧ (_ : Nat) ≤ _); (simp <;> omega)))
  all_goals (try ((show (_ : Int) ≤ _ ∧ (_ : Int) ≤ _ ∧ (_ : Int) ≤ _ ∧ (_ : Int) ≤ _); (simp <;> omega)))
  · rw [e1 ‹_›]; rfl
  · rw [e2 ‹_›]
instance tAddN (a b : List UInt8) : FnM BB 43 [.nils, .agg [.str a, .str b]] [] True (.own 0) [(0, .own attrTy [(a, b)])] := by
  refine FnM.intro (N := 18) [0, 1, 3, 4, 5, 12] [] 0 Try.call43 Try.func43 rfl rfl (by kernel_rfl) (fun hpre => ?_)
  repeat' ((conv => whnf); first | (with_reducible rfl) | exact True.intro | (with_reducible exact absTF) | (with_reducible exact absFT) | intro _ | refine And.intro ?_ ?_ | refine Fin.mk ?_ | refine CallG.plain rfl ?_ ?_ | refine CallG.mk rfl ?_ ?_ | refine CallG.nwl rfl ?_ ?_ | refine CallG.nw ?_ ?_ | refine CallF.nwl rfl ?_ ?_ | refine CallF.nw ?_ ?_ | refine AppN.mk ?_ | (refine CallS.q ?_; (conv => whnf); first | refine CallG.plain rfl ?_ ?_ | refine CallG.mk rfl ?_ ?_) | (refine CallS.m ?_; (conv => whnf); refine CallM.mk rfl ?_ ?_) | (refine CallS.h ?_; (conv => whnf); refine CallM.mk rfl ?_ ?_) | (refine CallS.b ?_; (conv => whnf); refine CallM.mk rfl ?_ ?_) | (refine CallS.z ?_; (conv => whnf); refine CallM.mk rfl ?_ ?_))
  all_goals (try (conv => whnf))
  all_goals (try (exact Ob.mk (u8_bnd _)))
  all_goals (try (refine Ob.mk ?_; first | exact True.intro | assumption | omega | (try simp only [decide_eq_true_eq, decide_eq_false_iff_not, beq_iff_eq, beq_eq_false_iff_ne, bne_iff_ne, bne_eq_false_iff_eq, ne_eq, Bool.and_eq_true, Bool.or_eq_true, Bool.not_eq_true, Bool.not_eq_false, Bool.not_eq_true', Bool.not_eq_false', Int.toNat_natCast, Int.not_lt, Int.not_le, UInt8.ofNat_toNat, cast_eq] at *; omega)))
  all_goals (try ((show (_:Int) = _); omega))
  all_goals (try (show tupSV _ = _; with_unfolding_all rfl))
  all_goals (try ((show (_ : Nat) ≤ _); (simp <;> omega)))
  all_goals (try ((show (_ : Nat) ≤ _ ∧ (_ : Nat) ≤ _); (simp <;> omega)))
  all_goals (try ((show (_ : Int) ≤ _ ∧ (_ : Int) ≤ _ ∧ (_ : Int) ≤ _ ∧ (_ : Int) ≤ _); (simp <;> omega)))
  · rfl
  · exact absurd ‹decide ((-1 : Int) < 0) = false› (by decide)
instance tPutA (s nm da x v : List UInt8) (i k : Int) (sf : Bool) : FnM BB 35 [.loc 0 0, .str v] [(0, scC s i k nm .nils sf da x)] (v.length ≤ 100000) (.tup []) [(0, scC s i k nm (.own 1) sf da x), (1, .own attrTy [(x, decF v true)])] := by
  refine FnM.intro (N := 21) [0, 1] [(0, [0, 0, 0, 0, 0, 1, 0, 0, 0, 1, 0, 1, 1, 3, 0, 0, 0, 3])] 1 Try.call35 Try.func35 rfl rfl (by kernel_rfl) (fun hpre => ?_)
  repeat' ((conv => whnf); first | (with_reducible rfl) | exact True.intro | (with_reducible exact absTF) | (with_reducible exact absFT) | intro _ | refine And.intro ?_ ?_ | refine Fin.mk ?_ | refine CallG.plain rfl ?_ ?_ | refine CallG.mk rfl ?_ ?_ | refine CallG.nwl rfl ?_ ?_ | refine CallG.nw ?_ ?_ | refine CallF.nwl rfl ?_ ?_ | refine CallF.nw ?_ ?_ | refine AppN.mk ?_ | (refine CallS.q ?_; (conv => whnf); first | refine CallG.plain rfl ?_ ?_ | refine CallG.mk rfl ?_ ?_) | (refine CallS.m ?_; (conv => whnf); refine CallM.mk rfl ?_ ?_) | (refine CallS.h ?_; (conv => whnf); refine CallM.mk rfl ?_ ?_) | (refine CallS.b ?_; (conv => whnf); refine CallM.mk rfl ?_ ?_) | (refine CallS.z ?_; (conv => whnf); refine CallM.mk rfl ?_ ?_))
  all_goals (try (conv => whnf))
  all_goals (try (exact Ob.mk (u8_bnd _)))
  all_goals (try (refine Ob.mk ?_; first | exact True.intro | assumption | omega | (try simp only [decide_eq_true_eq, decide_eq_false_iff_not, beq_iff_eq, beq_eq_false_iff_ne, bne_iff_ne, bne_eq_false_iff_eq, ne_eq, Bool.and_eq_true, Bool.or_eq_true, Bool.not_eq_true, Bool.not_eq_false, Bool.not_eq_true', Bool.not_eq_false', Int.toNat_natCast, Int.not_lt, Int.not_le, UInt8.ofNat_toNat, cast_eq] at *; omega)))
  all_goals (try ((show (_:Int) = _); omega))
  all_goals (try (show tupSV _ = _; with_unfolding_all rfl))
  all_goals (try ((show (_ : Nat) ≤ _); (simp <;> omega)))
  all_goals (try ((show (_ : Nat) ≤ _ ∧ (_ : Nat) ≤ _); (simp <;> omega)))
  all_goals (try ((show (_ : Int) ≤ _ ∧ (_ : Int) ≤ _ ∧ (_ : Int) ≤ _ ∧ (_ : Int) ≤ _); (simp <;> omega)))
  all_goals trace_state
instance tPutB (s nm da x v : List UInt8) (i k : Int) (sf : Bool) (l : List AttrD) : FnM BB 35 [.loc 0 0, .str v] [(0, scC s i k nm (.own 1) sf da x), (1, .own attrTy l)] (v.length ≤ 100000 ∧ l.length ≤ 50000) (.tup []) [(0, scC s i k nm (.own 2) sf da x), (1, .own attrTy l), (2, .own attrTy (addL l (x, decF v true)))] := by
  refine FnM.intro (N := 21) [0, 1] [(0, [0, 0, 0, 0, 0, 1, 0, 0, 0, 1, 0, 1, 1, 3, 0, 0, 0, 3])] 2 Try.call35 Try.func35 rfl rfl (by kernel_rfl) (fun hpre => ?_)
  repeat' ((conv => whnf); first | (with_reducible rfl) | exact True.intro | (with_reducible exact absTF) | (with_reducible exact absFT) | intro _ | refine And.intro ?_ ?_ | refine Fin.mk ?_ | refine CallG.plain rfl ?_ ?_ | refine CallG.mk rfl ?_ ?_ | refine CallG.nwl rfl ?_ ?_ | refine CallG.nw ?_ ?_ | refine CallF.nwl rfl ?_ ?_ | refine CallF.nw ?_ ?_ | refine AppN.mk ?_ | (refine CallS.q ?_; (conv => whnf); first | refine CallG.plain rfl ?_ ?_ | refine CallG.mk rfl ?_ ?_) | (refine CallS.m ?_; (conv => whnf); refine CallM.mk rfl ?_ ?_) | (refine CallS.h ?_; (conv => whnf); refine CallM.mk rfl ?_ ?_) | (refine CallS.b ?_; (conv => whnf); refine CallM.mk rfl ?_ ?_) | (refine CallS.z ?_; (conv => whnf); refine CallM.mk rfl ?_ ?_))
  all_goals (try (conv => whnf))
  all_goals (try (exact Ob.mk (u8_bnd _)))
  all_goals (try (refine Ob.mk ?_; first | exact True.intro | assumption | omega | (try simp only [decide_eq_true_eq, decide_eq_false_iff_not, beq_iff_eq, beq_eq_false_iff_ne, bne_iff_ne, bne_eq_false_iff_eq, ne_eq, Bool.and_eq_true, Bool.or_eq_true, Bool.not_eq_true, Bool.not_eq_false, Bool.not_eq_true', Bool.not_eq_false', Int.toNat_natCast, Int.not_lt, Int.not_le, UInt8.ofNat_toNat, cast_eq] at *; omega)))
  all_goals (try ((show (_:Int) = _); omega))
  all_goals (try (show tupSV _ = _; with_unfolding_all rfl))
  all_goals (try ((show (_ : Nat) ≤ _); (simp <;> omega)))
  all_goals (try ((show (_ : Nat) ≤ _ ∧ (_ : Nat) ≤ _); (simp <;> omega)))
  all_goals (try ((show (_ : Int) ≤ _ ∧ (_ : Int) ≤ _ ∧ (_ : Int) ≤ _ ∧ (_ : Int) ≤ _); (simp <;> omega)))
  all_goals trace_state
end Go.Vc

namespace Go.Vc
open Go.Proofs
set_option linter.unusedVariables false
set_option maxRecDepth 10000
set_option linter.unusedSimpArgs false
set_option maxHeartbeats 8000000
abbrev RunR := Bool × Nat × List AttrD × Bool × List UInt8
/-- through a tag, from behind its name: does it end, the place, the attributes, does it close itself, the last name -/
def runT (s : List UInt8) : Nat → Nat → List AttrD → List UInt8 → RunR
  | 0, i, l, x => (false, i, l, false, x)
  | f + 1, i, l, x =>
    if s.length ≤ upTo blB s i then (false, upTo blB s i, l, false, x)
    else if s.getD (upTo blB s i) 0 = 62 then (true, upTo blB s i + 1, l, false, x)
    else if s.getD (upTo blB s i) 0 = 47 then
      (if upTo blB s i + 1 < s.length ∧ s.getD (upTo blB s i + 1) 0 = 62 then (true, upTo blB s i + 2, l, true, x) else runT s f (upTo blB s i + 1) l x)
    else atT (upTo blB s i) (upTo (stP [47, 62, 61]) s (upTo blB s i + 1)) (fun i l x => runT s f i l x) l
where
  atT (i j : Nat) (run : Nat → List AttrD → List UInt8 → RunR) (l : List AttrD) : RunR :=
    if ¬ (upTo blB s j < s.length ∧ s.getD (upTo blB s j) 0 = 61) then run (upTo blB s j) (addL l (lowL ((s.take j).drop i), decF [] true)) (lowL ((s.take j).drop i))
    else if s.length ≤ upTo blB s (upTo blB s j + 1) then (false, upTo blB s (upTo blB s j + 1), l, false, lowL ((s.take j).drop i))
    else if (valS s (upTo blB s (upTo blB s j + 1))).2.2 = false then (false, (valS s (upTo blB s (upTo blB s j + 1))).2.1, l, false, lowL ((s.take j).drop i))
    else run (valS s (upTo blB s (upTo blB s j + 1))).2.1 (addL l (lowL ((s.take j).drop i), decF (valS s (upTo blB s (upTo blB s j + 1))).1 true)) (lowL ((s.take j).drop i))
def cOv (s : List UInt8) (i : Nat) : Bool := decide ((i : Int) ≥ (s.length : Int))
def cIs (s : List UInt8) (i : Nat) (c : Int) : Bool := decide ((i : Int) < (s.length : Int)) && ((s.getD i 0).toNat : Int) == c
theorem cOv_iff (s : List UInt8) (i : Nat) : cOv s i = true ↔ s.length ≤ i := by unfold cOv; rw [decide_eq_true_eq]; omega
theorem cOv_not (s : List UInt8) (i : Nat) : cOv s i = false ↔ i < s.length := by unfold cOv; rw [decide_eq_false_iff_not]; omega
theorem cIs_iff (s : List UInt8) (i : Nat) (c : UInt8) : cIs s i (c.toNat : Int) = true ↔ i < s.length ∧ s.getD i 0 = c := by
  unfold cIs; rw [b_iff, Bool.and_eq_true, decide_eq_true_eq, beq_iff_eq]
  constructor <;> (rintro ⟨a, b⟩; exact ⟨by omega, b⟩)
theorem cIs62 (s : List UInt8) (i : Nat) : cIs s i 62 = true ↔ i < s.length ∧ s.getD i 0 = 62 := cIs_iff s i 62
theorem cIs47 (s : List UInt8) (i : Nat) : cIs s i 47 = true ↔ i < s.length ∧ s.getD i 0 = 47 := cIs_iff s i 47
theorem cIs61 (s : List UInt8) (i : Nat) : cIs s i 61 = true ↔ i < s.length ∧ s.getD i 0 = 61 := cIs_iff s i 61
theorem nIs {s : List UInt8} {i : Nat} {c : Int} {P : Prop} (h : cIs s i c = false) (hi : cIs s i c = true ↔ P) : ¬ P := fun p => by rw [hi.2 p] at h; cases h
section
variable {s : List UInt8} {f i : Nat} {l : List AttrD} {x : List UInt8}
def nmT (s : List UInt8) (i : Nat) : List UInt8 := lowL ((s.take (upTo (stP [47, 62, 61]) s (upTo blB s i + 1))).drop (upTo blB s i))
def iJ (s : List UInt8) (i : Nat) : Nat := upTo blB s (upTo (stP [47, 62, 61]) s (upTo blB s i + 1))
def iV (s : List UInt8) (i : Nat) : Nat := upTo blB s (iJ s i + 1)
theorem st1 (h1 : cOv s (upTo blB s i) = true) : runT s (f + 1) i l x = (false, upTo blB s i, l, false, x) := by
  unfold runT; rw [if_pos ((cOv_iff _ _).1 h1)]
theorem st2 (h1 : cOv s (upTo blB s i) = false) (h2 : cIs s (upTo blB s i) 62 = true) : runT s (f + 1) i l x = (true, upTo blB s i + 1, l, false, x) := by
  have a := (cOv_not _ _).1 h1
  unfold runT; rw [if_neg (by omega), if_pos ((cIs62 _ _).1 h2).2]
theorem st3 (h1 : cOv s (upTo blB s i) = false) (h2 : cIs s (upTo blB s i) 62 = false) (h3 : cIs s (upTo blB s i) 47 = true) (h4 : cIs s (upTo blB s i + 1) 62 = true) : runT s (f + 1) i l x = (true, upTo blB s i + 2, l, true, x) := by
  have a := (cOv_not _ _).1 h1
  have b := nIs h2 (cIs62 _ _)
  unfold runT; rw [if_neg (by omega), if_neg (fun q => b ⟨a, q⟩), if_pos ((cIs47 _ _).1 h3).2, if_pos ((cIs62 _ _).1 h4)]
theorem st4 (h1 : cOv s (upTo blB s i) = false) (h2 : cIs s (upTo blB s i) 62 = false) (h3 : cIs s (upTo blB s i) 47 = true) (h4 : cIs s (upTo blB s i + 1) 62 = false) : runT s (f + 1) i l x = runT s f (upTo blB s i + 1) l x := by
  have a := (cOv_not _ _).1 h1
  have b := nIs h2 (cIs62 _ _)
  have c := nIs h4 (cIs62 _ _)
  rw [runT, if_neg (by omega), if_neg (fun q => b ⟨a, q⟩), if_pos ((cIs47 _ _).1 h3).2, if_neg c]
theorem stA (h1 : cOv s (upTo blB s i) = false) (h2 : cIs s (upTo blB s i) 62 = false) (h3 : cIs s (upTo blB s i) 47 = false) : runT s (f + 1) i l x = runT.atT s (upTo blB s i) (upTo (stP [47, 62, 61]) s (upTo blB s i + 1)) (fun i l x => runT s f i l x) l := by
  have a := (cOv_not _ _).1 h1
  have b := nIs h2 (cIs62 _ _)
  have c := nIs h3 (cIs47 _ _)
  rw [runT, if_neg (by omega), if_neg (fun q => b ⟨a, q⟩), if_neg (fun q => c ⟨a, q⟩)]
theorem st5 (h1 : cOv s (upTo blB s i) = false) (h2 : cIs s (upTo blB s i) 62 = false) (h3 : cIs s (upTo blB s i) 47 = false) (h5 : (!cIs s (iJ s i) 61) = true) : runT s (f + 1) i l x = runT s f (iJ s i) (addL l (nmT s i, decF [] true)) (nmT s i) := by
  rw [stA h1 h2 h3]
  have c := nIs (by simpa using h5) (cIs61 s (iJ s i))
  unfold runT.atT
  exact if_pos c
theorem st6 (h1 : cOv s (upTo blB s i) = false) (h2 : cIs s (upTo blB s i) 62 = false) (h3 : cIs s (upTo blB s i) 47 = false) (h5 : (!cIs s (iJ s i) 61) = false) (h6 : cOv s (iV s i) = true) : runT s (f + 1) i l x = (false, iV s i, l, false, nmT s i) := by
  rw [stA h1 h2 h3]
  have c := (cIs61 s (iJ s i)).1 (by simpa using h5)
  unfold runT.atT
  exact (if_neg (fun q => q c)).trans (if_pos ((cOv_iff _ _).1 h6))
theorem st7 (h1 : cOv s (upTo blB s i) = false) (h2 : cIs s (upTo blB s i) 62 = false) (h3 : cIs s (upTo blB s i) 47 = false) (h5 : (!cIs s (iJ s i) 61) = false) (h6 : cOv s (iV s i) = false) (h7 : (!(valS s (iV s i)).2.2) = true) : runT s (f + 1) i l x = (false, (valS s (iV s i)).2.1, l, false, nmT s i) := by
  rw [stA h1 h2 h3]
  have c := (cIs61 s (iJ s i)).1 (by simpa using h5)
  have d := (cOv_not _ _).1 h6
  unfold runT.atT
  exact (if_neg (fun q => q c)).trans ((if_neg (show ¬ s.length ≤ iV s i by omega)).trans (if_pos (show (valS s (iV s i)).2.2 = false by simpa using h7)))
theorem st8 (h1 : cOv s (upTo blB s i) = false) (h2 : cIs s (upTo blB s i) 62 = false) (h3 : cIs s (upTo blB s i) 47 = false) (h5 : (!cIs s (iJ s i) 61) = false) (h6 : cOv s (iV s i) = false) (h7 : (!(valS s (iV s i)).2.2) = false) : runT s (f + 1) i l x = runT s f (valS s (iV s i)).2.1 (addL l (nmT s i, decF (valS s (iV s i)).1 true)) (nmT s i) := by
  rw [stA h1 h2 h3]
  have c := (cIs61 s (iJ s i)).1 (by simpa using h5)
  have d := (cOv_not _ _).1 h6
  unfold runT.atT
  exact (if_neg (fun q => q c)).trans ((if_neg (show ¬ s.length ≤ iV s i by omega)).trans (if_neg (show ¬ (valS s (iV s i)).2.2 = false by simpa using h7)))
theorem valS_le (s : List UInt8) (i : Nat) (h : i < s.length) : i ≤ (valS s i).2.1 ∧ (valS s i).2.1 ≤ s.length ∧ (valS s i).1.length ≤ s.length := by
  have hu := upTo_le (stP [62]) s i (by omega)
  have hx := ixb_le (s.drop (i + 1)) (s.getD i 0)
  have hg := Lib.indexByte_ge (s.drop (i + 1)) (s.getD i 0)
  rw [List.length_drop] at hx
  unfold valS
  split
  · split
    · simp; omega
    · simp only [List.length_take, List.length_drop]; omega
  · simp only [List.length_take, List.length_drop]; omega
theorem addL_len (l : List AttrD) (a : AttrD) : (addL l a).length ≤ l.length + 1 := by
  unfold addL; split <;> simp
end
instance tRun (s nm da x : List UInt8) (i : Nat) (k : Int) : FnM BB 19 [.loc 0 0] [(0, scC s i k nm .nils false da x)] (i ≤ s.length ∧ s.length ≤ 50000) (.bool (runT s (s.length + 1) i [] x).1)
    [(0, scC s ((runT s (s.length + 1) i [] x).2.1 : Nat) k nm (.own 1) (runT s (s.length + 1) i [] x).2.2.2.1 da (runT s (s.length + 1) i [] x).2.2.2.2), (1, .own attrTy (runT s (s.length + 1) i [] x).2.2.1)] := by
  refine FnM.intro (N := 92) [0, 2, 3, 4, 5, 8, 11, 14, 25, 61, 74, 81] [(15, [0, 0, 0, 0, 1, 0, 0, 0, 0, 1, 3, 3, 0, 0, 3])] 1 Try.call19 Try.func19 rfl rfl (by kernel_rfl) (fun hpre => ?_)
  obtain ⟨p1, p2⟩ := hpre
  generalize hR : runT s (s.length + 1) i [] x = R
  repeat' ((conv => whnf); first | (with_reducible rfl) | exact True.intro | (with_reducible exact absTF) | (with_reducible exact absFT) | intro _ | refine And.intro ?_ ?_ | refine Fin.mk ?_ | refine CallG.plain rfl ?_ ?_ | refine CallG.mk rfl ?_ ?_ | refine CallG.nwl rfl ?_ ?_ | refine CallG.nw ?_ ?_ | refine CallF.nwl rfl ?_ ?_ | refine CallF.nw ?_ ?_ | refine AppN.mk ?_ | (refine CallS.q ?_; (conv => whnf); first | refine CallG.plain rfl ?_ ?_ | refine CallG.mk rfl ?_ ?_) | (refine CallS.m ?_; (conv => whnf); refine CallM.mk rfl ?_ ?_) | (refine CallS.h ?_; (conv => whnf); refine CallM.mk rfl ?_ ?_) | (refine CallS.b ?_; (conv => whnf); refine CallM.mk rfl ?_ ?_) | (refine CallS.z ?_; (conv => whnf); refine CallM.mk rfl ?_ ?_))
  all_goals (try (conv => whnf))
  refine ScopeStop.mk (α := Bool × Nat × Nat × List AttrD × Bool × List UInt8) (fun a => bif a.1 then 1 else 0) (fun a => [(3, .und), (4, .und), (5, .und)]) (fun a => [(0, scC s (a.2.2.1 : Nat) k nm (.own 1) a.2.2.2.2.1 da a.2.2.2.2.2), (1, .own attrTy a.2.2.2.1)]) 60
    (fun a => a.2.2.1 ≤ s.length ∧ a.2.2.2.1.length ≤ a.2.2.1 ∧ (a.1 = false → a.2.2.2.2.1 = false ∧ s.length - a.2.2.1 < a.2.1 ∧ runT s a.2.1 a.2.2.1 a.2.2.2.1 a.2.2.2.2.2 = R) ∧ (a.1 = true → a.2.2.1 < s.length ∧ R = (true, a.2.2.1 + 1, a.2.2.2.1, a.2.2.2.2.1, a.2.2.2.2.2)))
    (fun a => bif a.1 then 0 else a.2.1) (fun a h => ?_) ?_ (fun a ha => ?_)
  · obtain ⟨b, a⟩ := a
    cases b <;> rfl
  · have tn0 : ∀ n : Nat, ((n : Int)).toNat = n := Int.toNat_natCast
    have tn1 : ∀ n : Nat, ((n : Int) + 1).toNat = n + 1 := fun n => by omega
    have hI := upTo_le blB s i p1
    repeat' ((conv => whnf); first | (with_reducible rfl) | exact True.intro | (with_reducible exact absTF) | (with_reducible exact absFT) | intro _ | refine And.intro ?_ ?_ | refine Fin.mk ?_ | refine CallG.plain rfl ?_ ?_ | refine CallG.mk rfl ?_ ?_ | refine CallG.nwl rfl ?_ ?_ | refine CallG.nw ?_ ?_ | refine CallF.nwl rfl ?_ ?_ | refine CallF.nw ?_ ?_ | refine AppN.mk ?_ | (refine CallS.q ?_; (conv => whnf); first | refine CallG.plain rfl ?_ ?_ | refine CallG.mk rfl ?_ ?_) | (refine CallS.m ?_; (conv => whnf); refine CallM.mk rfl ?_ ?_) | (refine CallS.h ?_; (conv => whnf); refine CallM.mk rfl ?_ ?_) | (refine CallS.b ?_; (conv => whnf); refine CallM.mk rfl ?_ ?_) | (refine CallS.z ?_; (conv => whnf); refine CallM.mk rfl ?_ ?_))
    all_goals (try (conv => whnf))
    all_goals (try (exact Ob.mk (u8_bnd _)))
    all_goals (try (refine Ob.mk ?_; first | exact True.intro | assumption | omega | (try simp only [decide_eq_true_eq, decide_eq_false_iff_not, beq_iff_eq, beq_eq_false_iff_ne, bne_iff_ne, bne_eq_false_iff_eq, ne_eq, Bool.and_eq_true, Bool.or_eq_true, Bool.not_eq_true, Bool.not_eq_false, Bool.not_eq_true', Bool.not_eq_false', Int.toNat_natCast, Int.not_lt, Int.not_le, UInt8.ofNat_toNat, cast_eq] at *; omega)))
    all_goals (try ((show (_:Int) = _); omega))
    all_goals (try (show tupSV _ = _; with_unfolding_all rfl))
    all_goals (try ((show (_ : Nat) ≤ _); (simp <;> omega)))
    all_goals (try ((show (_ : Nat) ≤ _ ∧ (_ : Nat) ≤ _); (simp <;> omega)))
    all_goals (try ((show (_ : Int) ≤ _ ∧ (_ : Int) ≤ _ ∧ (_ : Int) ≤ _ ∧ (_ : Int) ≤ _); (simp <;> omega)))
    all_goals (try simp only [tn0, tn1] at *)
    all_goals (try (have q := hR.symm.trans (st1 (f := s.length) (l := []) (x := x)  ‹_›); rw [q]; done))
    all_goals (try (have q := hR.symm.trans (st6 (f := s.length) (l := []) (x := x)  ‹_› ‹_› ‹_› ‹_› ‹_›); rw [q]; first | done | rfl))
    all_goals (try (have q := hR.symm.trans (st7 (f := s.length) (l := []) (x := x)  ‹_› ‹_› ‹_› ‹_› ‹_› ‹_›); rw [q]; first | done | rfl))
    all_goals (try (have hIl : upTo blB s i < s.length := (cOv_not s (upTo blB s i)).1 ‹_›))
    all_goals (try (have hJ := upTo_le (stP [47, 62, 61]) s (upTo blB s i + 1) (by omega)))
    all_goals (try (have hJ2 : upTo (stP [47, 62, 61]) s (upTo blB s i + 1) ≤ iJ s i ∧ iJ s i ≤ s.length := upTo_le blB s (upTo (stP [47, 62, 61]) s (upTo blB s i + 1)) (by omega)))
    all_goals (try (have hJl : iJ s i < s.length := ((cIs61 s (iJ s i)).1 (by have h : (!cIs s (iJ s i) 61) = false := ‹_›; simpa using h)).1; have hJ3 : iJ s i + 1 ≤ iV s i ∧ iV s i ≤ s.length := upTo_le blB s (iJ s i + 1) (by omega)))
    all_goals (try (have hVl : iV s i < s.length := (cOv_not s (iV s i)).1 ‹_›; have hV := valS_le s (iV s i) hVl))
    · have q := hR.symm.trans (st2 (f := s.length) (l := []) (x := x)  ‹_› ‹_›)
      refine Rnd.mk ⟨(true, 0, upTo blB s i, [], false, x), rfl, ⟨by simp only; omega, by simp only [List.length_nil]; omega, fun h => (by cases h), fun _ => ⟨by simp only; omega, q⟩⟩, ?_⟩
      repeat' ((conv => whnf); first | (with_reducible rfl) | exact True.intro | (with_reducible exact absTF) | (with_reducible exact absFT) | intro _ | refine And.intro ?_ ?_ | refine Fin.mk ?_ | refine CallG.plain rfl ?_ ?_ | refine CallG.mk rfl ?_ ?_ | refine CallG.nwl rfl ?_ ?_ | refine CallG.nw ?_ ?_ | refine CallF.nwl rfl ?_ ?_ | refine CallF.nw ?_ ?_ | refine AppN.mk ?_ | (refine CallS.q ?_; (conv => whnf); first | refine CallG.plain rfl ?_ ?_ | refine CallG.mk rfl ?_ ?_) | (refine CallS.m ?_; (conv => whnf); refine CallM.mk rfl ?_ ?_) | (refine CallS.h ?_; (conv => whnf); refine CallM.mk rfl ?_ ?_) | (refine CallS.b ?_; (conv => whnf); refine CallM.mk rfl ?_ ?_) | (refine CallS.z ?_; (conv => whnf); refine CallM.mk rfl ?_ ?_))
      all_goals (try (conv => whnf))
      all_goals (try (exact Ob.mk (u8_bnd _)))
      all_goals (try (refine Ob.mk ?_; first | exact True.intro | assumption | omega | (try simp only [decide_eq_true_eq, decide_eq_false_iff_not, beq_iff_eq, beq_eq_false_iff_ne, bne_iff_ne, bne_eq_false_iff_eq, ne_eq, Bool.and_eq_true, Bool.or_eq_true, Bool.not_eq_true, Bool.not_eq_false, Bool.not_eq_true', Bool.not_eq_false', Int.toNat_natCast, Int.not_lt, Int.not_le, UInt8.ofNat_toNat, cast_eq] at *; omega)))
      all_goals (try ((show (_:Int) = _); omega))
      all_goals (try (show tupSV _ = _; with_unfolding_all rfl))
      all_goals (try ((show (_ : Nat) ≤ _); (simp <;> omega)))
      all_goals (try ((show (_ : Nat) ≤ _ ∧ (_ : Nat) ≤ _); (simp <;> omega)))
      all_goals (try ((show (_ : Int) ≤ _ ∧ (_ : Int) ≤ _ ∧ (_ : Int) ≤ _ ∧ (_ : Int) ≤ _); (simp <;> omega)))
      all_goals (first | rfl | omega | trace_state)
    · have q := hR.symm.trans (st3 (f := s.length) (l := []) (x := x)  ‹_› ‹_› ‹_› ‹_›)
      refine Rnd.mk ⟨(true, 0, upTo blB s i + 1, [], true, x), rfl, ⟨by have h := ((cIs62 s (upTo blB s i + 1)).1 ‹_›).1; simp only; omega, by simp only [List.length_nil]; omega, fun h => (by cases h), fun _ => ⟨((cIs62 s (upTo blB s i + 1)).1 ‹_›).1, q⟩⟩, ?_⟩
      repeat' ((conv => whnf); first | (with_reducible rfl) | exact True.intro | (with_reducible exact absTF) | (with_reducible exact absFT) | intro _ | refine And.intro ?_ ?_ | refine Fin.mk ?_ | refine CallG.plain rfl ?_ ?_ | refine CallG.mk rfl ?_ ?_ | refine CallG.nwl rfl ?_ ?_ | refine CallG.nw ?_ ?_ | refine CallF.nwl rfl ?_ ?_ | refine CallF.nw ?_ ?_ | refine AppN.mk ?_ | (refine CallS.q ?_; (conv => whnf); first | refine CallG.plain rfl ?_ ?_ | refine CallG.mk rfl ?_ ?_) | (refine CallS.m ?_; (conv => whnf); refine CallM.mk rfl ?_ ?_) | (refine CallS.h ?_; (conv => whnf); refine CallM.mk rfl ?_ ?_) | (refine CallS.b ?_; (conv => whnf); refine CallM.mk rfl ?_ ?_) | (refine CallS.z ?_; (conv => whnf); refine CallM.mk rfl ?_ ?_))
      all_goals (try (conv => whnf))
      all_goals (try (exact Ob.mk (u8_bnd _)))
      all_goals (try (refine Ob.mk ?_; first | exact True.intro | assumption | omega | (try simp only [decide_eq_true_eq, decide_eq_false_iff_not, beq_iff_eq, beq_eq_false_iff_ne, bne_iff_ne, bne_eq_false_iff_eq, ne_eq, Bool.and_eq_true, Bool.or_eq_true, Bool.not_eq_true, Bool.not_eq_false, Bool.not_eq_true', Bool.not_eq_false', Int.toNat_natCast, Int.not_lt, Int.not_le, UInt8.ofNat_toNat, cast_eq] at *; omega)))
      all_goals (try ((show (_:Int) = _); omega))
      all_goals (try (show tupSV _ = _; with_unfolding_all rfl))
      all_goals (try ((show (_ : Nat) ≤ _); (simp <;> omega)))
      all_goals (try ((show (_ : Nat) ≤ _ ∧ (_ : Nat) ≤ _); (simp <;> omega)))
      all_goals (try ((show (_ : Int) ≤ _ ∧ (_ : Int) ≤ _ ∧ (_ : Int) ≤ _ ∧ (_ : Int) ≤ _); (simp <;> omega)))
      all_goals (first | rfl | omega | trace_state)
    · have q := hR.symm.trans (st4 (f := s.length) (l := []) (x := x)  ‹_› ‹_› ‹_› ‹_›)
      refine Rnd.mk ⟨(false, s.length, upTo blB s i + 1, [], false, x), rfl, ⟨by simp only; omega, by simp only [List.length_nil]; omega, fun _ => ⟨rfl, by simp only; omega, q.symm⟩, fun h => (by cases h)⟩, ?_⟩
      repeat' ((conv => whnf); first | (with_reducible rfl) | exact True.intro | (with_reducible exact absTF) | (with_reducible exact absFT) | intro _ | refine And.intro ?_ ?_ | refine Fin.mk ?_ | refine CallG.plain rfl ?_ ?_ | refine CallG.mk rfl ?_ ?_ | refine CallG.nwl rfl ?_ ?_ | refine CallG.nw ?_ ?_ | refine CallF.nwl rfl ?_ ?_ | refine CallF.nw ?_ ?_ | refine AppN.mk ?_ | (refine CallS.q ?_; (conv => whnf); first | refine CallG.plain rfl ?_ ?_ | refine CallG.mk rfl ?_ ?_) | (refine CallS.m ?_; (conv => whnf); refine CallM.mk rfl ?_ ?_) | (refine CallS.h ?_; (conv => whnf); refine CallM.mk rfl ?_ ?_) | (refine CallS.b ?_; (conv => whnf); refine CallM.mk rfl ?_ ?_) | (refine CallS.z ?_; (conv => whnf); refine CallM.mk rfl ?_ ?_))
      all_goals (try (conv => whnf))
      all_goals (try (exact Ob.mk (u8_bnd _)))
      all_goals (try (refine Ob.mk ?_; first | exact True.intro | assumption | omega | (try simp only [decide_eq_true_eq, decide_eq_false_iff_not, beq_iff_eq, beq_eq_false_iff_ne, bne_iff_ne, bne_eq_false_iff_eq, ne_eq, Bool.and_eq_true, Bool.or_eq_true, Bool.not_eq_true, Bool.not_eq_false, Bool.not_eq_true', Bool.not_eq_false', Int.toNat_natCast, Int.not_lt, Int.not_le, UInt8.ofNat_toNat, cast_eq] at *; omega)))
      all_goals (try ((show (_:Int) = _); omega))
      all_goals (try (show tupSV _ = _; with_unfolding_all rfl))
      all_goals (try ((show (_ : Nat) ≤ _); (simp <;> omega)))
      all_goals (try ((show (_ : Nat) ≤ _ ∧ (_ : Nat) ≤ _); (simp <;> omega)))
      all_goals (try ((show (_ : Int) ≤ _ ∧ (_ : Int) ≤ _ ∧ (_ : Int) ≤ _ ∧ (_ : Int) ≤ _); (simp <;> omega)))
      all_goals (first | rfl | omega | trace_state)
    · exact ⟨by omega, by omega, by omega⟩
    · exact ⟨by omega, by omega, by omega⟩
    · have q := hR.symm.trans (st5 (f := s.length) (l := []) (x := x)  ‹_› ‹_› ‹_› ‹_›)
      refine Rnd.mk ⟨(false, s.length, iJ s i, addL [] (nmT s i, decF [] true), false, nmT s i), rfl, ⟨by simp only; omega, by have h := addL_len [] (nmT s i, decF [] true); simp only at h ⊢; simp only [List.length_nil] at h; omega, fun _ => ⟨rfl, by simp only; omega, q.symm⟩, fun h => (by cases h)⟩, ?_⟩
      repeat' ((conv => whnf); first | (with_reducible rfl) | exact True.intro | (with_reducible exact absTF) | (with_reducible exact absFT) | intro _ | refine And.intro ?_ ?_ | refine Fin.mk ?_ | refine CallG.plain rfl ?_ ?_ | refine CallG.mk rfl ?_ ?_ | refine CallG.nwl rfl ?_ ?_ | refine CallG.nw ?_ ?_ | refine CallF.nwl rfl ?_ ?_ | refine CallF.nw ?_ ?_ | refine AppN.mk ?_ | (refine CallS.q ?_; (conv => whnf); first | refine CallG.plain rfl ?_ ?_ | refine CallG.mk rfl ?_ ?_) | (refine CallS.m ?_; (conv => whnf); refine CallM.mk rfl ?_ ?_) | (refine CallS.h ?_; (conv => whnf); refine CallM.mk rfl ?_ ?_) | (refine CallS.b ?_; (conv => whnf); refine CallM.mk rfl ?_ ?_) | (refine CallS.z ?_; (conv => whnf); refine CallM.mk rfl ?_ ?_))
      all_goals (try (conv => whnf))
      all_goals (try (exact Ob.mk (u8_bnd _)))
      all_goals (try (refine Ob.mk ?_; first | exact True.intro | assumption | omega | (try simp only [decide_eq_true_eq, decide_eq_false_iff_not, beq_iff_eq, beq_eq_false_iff_ne, bne_iff_ne, bne_eq_false_iff_eq, ne_eq, Bool.and_eq_true, Bool.or_eq_true, Bool.not_eq_true, Bool.not_eq_false, Bool.not_eq_true', Bool.not_eq_false', Int.toNat_natCast, Int.not_lt, Int.not_le, UInt8.ofNat_toNat, cast_eq] at *; omega)))
      all_goals (try ((show (_:Int) = _); omega))
      all_goals (try (show tupSV _ = _; with_unfolding_all rfl))
      all_goals (try ((show (_ : Nat) ≤ _); (simp <;> omega)))
      all_goals (try ((show (_ : Nat) ≤ _ ∧ (_ : Nat) ≤ _); (simp <;> omega)))
      all_goals (try ((show (_ : Int) ≤ _ ∧ (_ : Int) ≤ _ ∧ (_ : Int) ≤ _ ∧ (_ : Int) ≤ _); (simp <;> omega)))
      all_goals (first | rfl | omega | trace_state)
    · show (valS s (iV s i)).1.length ≤ 100000
      omega
    · have q := hR.symm.trans (st8 (f := s.length) (l := []) (x := x)  ‹_› ‹_› ‹_› ‹_› ‹_› ‹_›)
      refine Rnd.mk ⟨(false, s.length, (valS s (iV s i)).2.1, addL [] (nmT s i, decF (valS s (iV s i)).1 true), false, nmT s i), rfl, ⟨by simp only; omega, by have h := addL_len [] (nmT s i, decF (valS s (iV s i)).1 true); simp only at h ⊢; simp only [List.length_nil] at h; omega, fun _ => ⟨rfl, by simp only; omega, q.symm⟩, fun h => (by cases h)⟩, ?_⟩
      repeat' ((conv => whnf); first | (with_reducible rfl) | exact True.intro | (with_reducible exact absTF) | (with_reducible exact absFT) | intro _ | refine And.intro ?_ ?_ | refine Fin.mk ?_ | refine CallG.plain rfl ?_ ?_ | refine CallG.mk rfl ?_ ?_ | refine CallG.nwl rfl ?_ ?_ | refine CallG.nw ?_ ?_ | refine CallF.nwl rfl ?_ ?_ | refine CallF.nw ?_ ?_ | refine AppN.mk ?_ | (refine CallS.q ?_; (conv => whnf); first | refine CallG.plain rfl ?_ ?_ | refine CallG.mk rfl ?_ ?_) | (refine CallS.m ?_; (conv => whnf); refine CallM.mk rfl ?_ ?_) | (refine CallS.h ?_; (conv => whnf); refine CallM.mk rfl ?_ ?_) | (refine CallS.b ?_; (conv => whnf); refine CallM.mk rfl ?_ ?_) | (refine CallS.z ?_; (conv => whnf); refine CallM.mk rfl ?_ ?_))
      all_goals (try (conv => whnf))
      all_goals (try (exact Ob.mk (u8_bnd _)))
      all_goals (try (refine Ob.mk ?_; first | exact True.intro | assumption | omega | (try simp only [decide_eq_true_eq, decide_eq_false_iff_not, beq_iff_eq, beq_eq_false_iff_ne, bne_iff_ne, bne_eq_false_iff_eq, ne_eq, Bool.and_eq_true, Bool.or_eq_true, Bool.not_eq_true, Bool.not_eq_false, Bool.not_eq_true', Bool.not_eq_false', Int.toNat_natCast, Int.not_lt, Int.not_le, UInt8.ofNat_toNat, cast_eq] at *; omega)))
      all_goals (try ((show (_:Int) = _); omega))
      all_goals (try (show tupSV _ = _; with_unfolding_all rfl))
      all_goals (try ((show (_ : Nat) ≤ _); (simp <;> omega)))
      all_goals (try ((show (_ : Nat) ≤ _ ∧ (_ : Nat) ≤ _); (simp <;> omega)))
      all_goals (try ((show (_ : Int) ≤ _ ∧ (_ : Int) ≤ _ ∧ (_ : Int) ≤ _ ∧ (_ : Int) ≤ _); (simp <;> omega)))
      all_goals (first | rfl | omega | trace_state)
  · have tn0 : ∀ n : Nat, ((n : Int)).toNat = n := Int.toNat_natCast
    have tn1 : ∀ n : Nat, ((n : Int) + 1).toNat = n + 1 := fun n => by omega
    clear hR p1
    obtain ⟨b, f, i, l, sf, x'⟩ := a
    obtain ⟨p1, q1, q2, q3⟩ := ha
    dsimp only at p1 q1 q2 q3
    cases b with
    | true =>
      obtain ⟨q4, q5⟩ := q3 rfl
      repeat' ((conv => whnf); first | (with_reducible rfl) | exact True.intro | (with_reducible exact absTF) | (with_reducible exact absFT) | intro _ | refine And.intro ?_ ?_ | refine Fin.mk ?_ | refine CallG.plain rfl ?_ ?_ | refine CallG.mk rfl ?_ ?_ | refine CallG.nwl rfl ?_ ?_ | refine CallG.nw ?_ ?_ | refine CallF.nwl rfl ?_ ?_ | refine CallF.nw ?_ ?_ | refine AppN.mk ?_ | (refine CallS.q ?_; (conv => whnf); first | refine CallG.plain rfl ?_ ?_ | refine CallG.mk rfl ?_ ?_) | (refine CallS.m ?_; (conv => whnf); refine CallM.mk rfl ?_ ?_) | (refine CallS.h ?_; (conv => whnf); refine CallM.mk rfl ?_ ?_) | (refine CallS.b ?_; (conv => whnf); refine CallM.mk rfl ?_ ?_) | (refine CallS.z ?_; (conv => whnf); refine CallM.mk rfl ?_ ?_))
      all_goals (try (conv => whnf))
      all_goals (try (exact Ob.mk (u8_bnd _)))
      all_goals (try (refine Ob.mk ?_; first | exact True.intro | assumption | omega | (try simp only [decide_eq_true_eq, decide_eq_false_iff_not, beq_iff_eq, beq_eq_false_iff_ne, bne_iff_ne, bne_eq_false_iff_eq, ne_eq, Bool.and_eq_true, Bool.or_eq_true, Bool.not_eq_true, Bool.not_eq_false, Bool.not_eq_true', Bool.not_eq_false', Int.toNat_natCast, Int.not_lt, Int.not_le, UInt8.ofNat_toNat, cast_eq] at *; omega)))
      all_goals (try ((show (_:Int) = _); omega))
      all_goals (try (show tupSV _ = _; with_unfolding_all rfl))
      all_goals (try ((show (_ : Nat) ≤ _); (simp <;> omega)))
      all_goals (try ((show (_ : Nat) ≤ _ ∧ (_ : Nat) ≤ _); (simp <;> omega)))
      all_goals (try ((show (_ : Int) ≤ _ ∧ (_ : Int) ≤ _ ∧ (_ : Int) ≤ _ ∧ (_ : Int) ≤ _); (simp <;> omega)))
      all_goals (first | (rw [q5]; done) | (rw [q5]; rfl) | (constructor <;> omega) | trace_state)
    | false =>
    obtain ⟨rfl, q4, hR⟩ := q2 rfl
    obtain ⟨f', rfl⟩ : ∃ f', f = f' + 1 := ⟨f - 1, by omega⟩
    have hI := upTo_le blB s i p1
    repeat' ((conv => whnf); first | (with_reducible rfl) | exact True.intro | (with_reducible exact absTF) | (with_reducible exact absFT) | intro _ | refine And.intro ?_ ?_ | refine Fin.mk ?_ | refine CallG.plain rfl ?_ ?_ | refine CallG.mk rfl ?_ ?_ | refine CallG.nwl rfl ?_ ?_ | refine CallG.nw ?_ ?_ | refine CallF.nwl rfl ?_ ?_ | refine CallF.nw ?_ ?_ | refine AppN.mk ?_ | (refine CallS.q ?_; (conv => whnf); first | refine CallG.plain rfl ?_ ?_ | refine CallG.mk rfl ?_ ?_) | (refine CallS.m ?_; (conv => whnf); refine CallM.mk rfl ?_ ?_) | (refine CallS.h ?_; (conv => whnf); refine CallM.mk rfl ?_ ?_) | (refine CallS.b ?_; (conv => whnf); refine CallM.mk rfl ?_ ?_) | (refine CallS.z ?_; (conv => whnf); refine CallM.mk rfl ?_ ?_))
    all_goals (try (conv => whnf))
    all_goals (try (exact Ob.mk (u8_bnd _)))
    all_goals (try (refine Ob.mk ?_; first | exact True.intro | assumption | omega | (try simp only [decide_eq_true_eq, decide_eq_false_iff_not, beq_iff_eq, beq_eq_false_iff_ne, bne_iff_ne, bne_eq_false_iff_eq, ne_eq, Bool.and_eq_true, Bool.or_eq_true, Bool.not_eq_true, Bool.not_eq_false, Bool.not_eq_true', Bool.not_eq_false', Int.toNat_natCast, Int.not_lt, Int.not_le, UInt8.ofNat_toNat, cast_eq] at *; omega)))
    all_goals (try ((show (_:Int) = _); omega))
    all_goals (try (show tupSV _ = _; with_unfolding_all rfl))
    all_goals (try ((show (_ : Nat) ≤ _); (simp <;> omega)))
    all_goals (try ((show (_ : Nat) ≤ _ ∧ (_ : Nat) ≤ _); (simp <;> omega)))
    all_goals (try ((show (_ : Int) ≤ _ ∧ (_ : Int) ≤ _ ∧ (_ : Int) ≤ _ ∧ (_ : Int) ≤ _); (simp <;> omega)))
    all_goals (try simp only [tn0, tn1] at *)
    all_goals (try (have q := hR.symm.trans (st1 (f := f') (l := l) (x := x')  ‹_›); rw [q]; done))
    all_goals (try (have q := hR.symm.trans (st6 (f := f') (l := l) (x := x')  ‹_› ‹_› ‹_› ‹_› ‹_›); rw [q]; first | done | rfl))
    all_goals (try (have q := hR.symm.trans (st7 (f := f') (l := l) (x := x')  ‹_› ‹_› ‹_› ‹_› ‹_› ‹_›); rw [q]; first | done | rfl))
    all_goals (try (have hIl : upTo blB s i < s.length := (cOv_not s (upTo blB s i)).1 ‹_›))
    all_goals (try (have hJ := upTo_le (stP [47, 62, 61]) s (upTo blB s i + 1) (by omega)))
    all_goals (try (have hJ2 : upTo (stP [47, 62, 61]) s (upTo blB s i + 1) ≤ iJ s i ∧ iJ s i ≤ s.length := upTo_le blB s (upTo (stP [47, 62, 61]) s (upTo blB s i + 1)) (by omega)))
    all_goals (try (have hJl : iJ s i < s.length := ((cIs61 s (iJ s i)).1 (by have h : (!cIs s (iJ s i) 61) = false := ‹_›; simpa using h)).1; have hJ3 : iJ s i + 1 ≤ iV s i ∧ iV s i ≤ s.length := upTo_le blB s (iJ s i + 1) (by omega)))
    all_goals (try (have hVl : iV s i < s.length := (cOv_not s (iV s i)).1 ‹_›; have hV := valS_le s (iV s i) hVl))
    · have q := hR.symm.trans (st2 (f := f') (l := l) (x := x')  ‹_› ‹_›)
      refine Rnd.mk ⟨(true, 0, upTo blB s i, l, false, x'), rfl, ⟨by simp only; omega, by simp only; omega, fun h => (by cases h), fun _ => ⟨by simp only; omega, q⟩⟩, by show _ < f' + 1; simp only [cond_true, cond_false]; omega, ?_⟩
      repeat' ((conv => whnf); first | (with_reducible rfl) | exact True.intro | (with_reducible exact absTF) | (with_reducible exact absFT) | intro _ | refine And.intro ?_ ?_ | refine Fin.mk ?_ | refine CallG.plain rfl ?_ ?_ | refine CallG.mk rfl ?_ ?_ | refine CallG.nwl rfl ?_ ?_ | refine CallG.nw ?_ ?_ | refine CallF.nwl rfl ?_ ?_ | refine CallF.nw ?_ ?_ | refine AppN.mk ?_ | (refine CallS.q ?_; (conv => whnf); first | refine CallG.plain rfl ?_ ?_ | refine CallG.mk rfl ?_ ?_) | (refine CallS.m ?_; (conv => whnf); refine CallM.mk rfl ?_ ?_) | (refine CallS.h ?_; (conv => whnf); refine CallM.mk rfl ?_ ?_) | (refine CallS.b ?_; (conv => whnf); refine CallM.mk rfl ?_ ?_) | (refine CallS.z ?_; (conv => whnf); refine CallM.mk rfl ?_ ?_))
      all_goals (try (conv => whnf))
      all_goals (try (exact Ob.mk (u8_bnd _)))
      all_goals (try (refine Ob.mk ?_; first | exact True.intro | assumption | omega | (try simp only [decide_eq_true_eq, decide_eq_false_iff_not, beq_iff_eq, beq_eq_false_iff_ne, bne_iff_ne, bne_eq_false_iff_eq, ne_eq, Bool.and_eq_true, Bool.or_eq_true, Bool.not_eq_true, Bool.not_eq_false, Bool.not_eq_true', Bool.not_eq_false', Int.toNat_natCast, Int.not_lt, Int.not_le, UInt8.ofNat_toNat, cast_eq] at *; omega)))
      all_goals (try ((show (_:Int) = _); omega))
      all_goals (try (show tupSV _ = _; with_unfolding_all rfl))
      all_goals (try ((show (_ : Nat) ≤ _); (simp <;> omega)))
      all_goals (try ((show (_ : Nat) ≤ _ ∧ (_ : Nat) ≤ _); (simp <;> omega)))
      all_goals (try ((show (_ : Int) ≤ _ ∧ (_ : Int) ≤ _ ∧ (_ : Int) ≤ _ ∧ (_ : Int) ≤ _); (simp <;> omega)))
      all_goals (first | rfl | omega | trace_state)
    · have q := hR.symm.trans (st3 (f := f') (l := l) (x := x')  ‹_› ‹_› ‹_› ‹_›)
      refine Rnd.mk ⟨(true, 0, upTo blB s i + 1, l, true, x'), rfl, ⟨by have h := ((cIs62 s (upTo blB s i + 1)).1 ‹_›).1; simp only; omega, by simp only; omega, fun h => (by cases h), fun _ => ⟨((cIs62 s (upTo blB s i + 1)).1 ‹_›).1, q⟩⟩, by show _ < f' + 1; simp only [cond_true, cond_false]; omega, ?_⟩
      repeat' ((conv => whnf); first | (with_reducible rfl) | exact True.intro | (with_reducible exact absTF) | (with_reducible exact absFT) | intro _ | refine And.intro ?_ ?_ | refine Fin.mk ?_ | refine CallG.plain rfl ?_ ?_ | refine CallG.mk rfl ?_ ?_ | refine CallG.nwl rfl ?_ ?_ | refine CallG.nw ?_ ?_ | refine CallF.nwl rfl ?_ ?_ | refine CallF.nw ?_ ?_ | refine AppN.mk ?_ | (refine CallS.q ?_; (conv => whnf); first | refine CallG.plain rfl ?_ ?_ | refine CallG.mk rfl ?_ ?_) | (refine CallS.m ?_; (conv => whnf); refine CallM.mk rfl ?_ ?_) | (refine CallS.h ?_; (conv => whnf); refine CallM.mk rfl ?_ ?_) | (refine CallS.b ?_; (conv => whnf); refine CallM.mk rfl ?_ ?_) | (refine CallS.z ?_; (conv => whnf); refine CallM.mk rfl ?_ ?_))
      all_goals (try (conv => whnf))
      all_goals (try (exact Ob.mk (u8_bnd _)))
      all_goals (try (refine Ob.mk ?_; first | exact True.intro | assumption | omega | (try simp only [decide_eq_true_eq, decide_eq_false_iff_not, beq_iff_eq, beq_eq_false_iff_ne, bne_iff_ne, bne_eq_false_iff_eq, ne_eq, Bool.and_eq_true, Bool.or_eq_true, Bool.not_eq_true, Bool.not_eq_false, Bool.not_eq_true', Bool.not_eq_false', Int.toNat_natCast, Int.not_lt, Int.not_le, UInt8.ofNat_toNat, cast_eq] at *; omega)))
      all_goals (try ((show (_:Int) = _); omega))
      all_goals (try (show tupSV _ = _; with_unfolding_all rfl))
      all_goals (try ((show (_ : Nat) ≤ _); (simp <;> omega)))
      all_goals (try ((show (_ : Nat) ≤ _ ∧ (_ : Nat) ≤ _); (simp <;> omega)))
      all_goals (try ((show (_ : Int) ≤ _ ∧ (_ : Int) ≤ _ ∧ (_ : Int) ≤ _ ∧ (_ : Int) ≤ _); (simp <;> omega)))
      all_goals (first | rfl | omega | trace_state)
    · have q := hR.symm.trans (st4 (f := f') (l := l) (x := x')  ‹_› ‹_› ‹_› ‹_›)
      refine Rnd.mk ⟨(false, f', upTo blB s i + 1, l, false, x'), rfl, ⟨by simp only; omega, by simp only; omega, fun _ => ⟨rfl, by simp only; omega, q.symm⟩, fun h => (by cases h)⟩, by show _ < f' + 1; simp only [cond_true, cond_false]; omega, ?_⟩
      repeat' ((conv => whnf); first | (with_reducible rfl) | exact True.intro | (with_reducible exact absTF) | (with_reducible exact absFT) | intro _ | refine And.intro ?_ ?_ | refine Fin.mk ?_ | refine CallG.plain rfl ?_ ?_ | refine CallG.mk rfl ?_ ?_ | refine CallG.nwl rfl ?_ ?_ | refine CallG.nw ?_ ?_ | refine CallF.nwl rfl ?_ ?_ | refine CallF.nw ?_ ?_ | refine AppN.mk ?_ | (refine CallS.q ?_; (conv => whnf); first | refine CallG.plain rfl ?_ ?_ | refine CallG.mk rfl ?_ ?_) | (refine CallS.m ?_; (conv => whnf); refine CallM.mk rfl ?_ ?_) | (refine CallS.h ?_; (conv => whnf); refine CallM.mk rfl ?_ ?_) | (refine CallS.b ?_; (conv => whnf); refine CallM.mk rfl ?_ ?_) | (refine CallS.z ?_; (conv => whnf); refine CallM.mk rfl ?_ ?_))
      all_goals (try (conv => whnf))
      all_goals (try (exact Ob.mk (u8_bnd _)))
      all_goals (try (refine Ob.mk ?_; first | exact True.intro | assumption | omega | (try simp only [decide_eq_true_eq, decide_eq_false_iff_not, beq_iff_eq, beq_eq_false_iff_ne, bne_iff_ne, bne_eq_false_iff_eq, ne_eq, Bool.and_eq_true, Bool.or_eq_true, Bool.not_eq_true, Bool.not_eq_false, Bool.not_eq_true', Bool.not_eq_false', Int.toNat_natCast, Int.not_lt, Int.not_le, UInt8.ofNat_toNat, cast_eq] at *; omega)))
      all_goals (try ((show (_:Int) = _); omega))
      all_goals (try (show tupSV _ = _; with_unfolding_all rfl))
      all_goals (try ((show (_ : Nat) ≤ _); (simp <;> omega)))
      all_goals (try ((show (_ : Nat) ≤ _ ∧ (_ : Nat) ≤ _); (simp <;> omega)))
      all_goals (try ((show (_ : Int) ≤ _ ∧ (_ : Int) ≤ _ ∧ (_ : Int) ≤ _ ∧ (_ : Int) ≤ _); (simp <;> omega)))
      all_goals (first | rfl | omega | trace_state)
    · exact ⟨by omega, by omega, by omega⟩
    · exact ⟨by omega, by omega, by omega⟩
    · have q := hR.symm.trans (st5 (f := f') (l := l) (x := x')  ‹_› ‹_› ‹_› ‹_›)
      refine Rnd.mk ⟨(false, f', iJ s i, addL l (nmT s i, decF [] true), false, nmT s i), rfl, ⟨by simp only; omega, by have h := addL_len l (nmT s i, decF [] true); simp only; omega, fun _ => ⟨rfl, by simp only; omega, q.symm⟩, fun h => (by cases h)⟩, by show _ < f' + 1; simp only [cond_true, cond_false]; omega, ?_⟩
      repeat' ((conv => whnf); first | (with_reducible rfl) | exact True.intro | (with_reducible exact absTF) | (with_reducible exact absFT) | intro _ | refine And.intro ?_ ?_ | refine Fin.mk ?_ | refine CallG.plain rfl ?_ ?_ | refine CallG.mk rfl ?_ ?_ | refine CallG.nwl rfl ?_ ?_ | refine CallG.nw ?_ ?_ | refine CallF.nwl rfl ?_ ?_ | refine CallF.nw ?_ ?_ | refine AppN.mk ?_ | (refine CallS.q ?_; (conv => whnf); first | refine CallG.plain rfl ?_ ?_ | refine CallG.mk rfl ?_ ?_) | (refine CallS.m ?_; (conv => whnf); refine CallM.mk rfl ?_ ?_) | (refine CallS.h ?_; (conv => whnf); refine CallM.mk rfl ?_ ?_) | (refine CallS.b ?_; (conv => whnf); refine CallM.mk rfl ?_ ?_) | (refine CallS.z ?_; (conv => whnf); refine CallM.mk rfl ?_ ?_))
      all_goals (try (conv => whnf))
      all_goals (try (exact Ob.mk (u8_bnd _)))
      all_goals (try (refine Ob.mk ?_; first | exact True.intro | assumption | omega | (try simp only [decide_eq_true_eq, decide_eq_false_iff_not, beq_iff_eq, beq_eq_false_iff_ne, bne_iff_ne, bne_eq_false_iff_eq, ne_eq, Bool.and_eq_true, Bool.or_eq_true, Bool.not_eq_true, Bool.not_eq_false, Bool.not_eq_true', Bool.not_eq_false', Int.toNat_natCast, Int.not_lt, Int.not_le, UInt8.ofNat_toNat, cast_eq] at *; omega)))
      all_goals (try ((show (_:Int) = _); omega))
      all_goals (try (show tupSV _ = _; with_unfolding_all rfl))
      all_goals (try ((show (_ : Nat) ≤ _); (simp <;> omega)))
      all_goals (try ((show (_ : Nat) ≤ _ ∧ (_ : Nat) ≤ _); (simp <;> omega)))
      all_goals (try ((show (_ : Int) ≤ _ ∧ (_ : Int) ≤ _ ∧ (_ : Int) ≤ _ ∧ (_ : Int) ≤ _); (simp <;> omega)))
      all_goals (first | rfl | omega | trace_state)
    · refine ⟨?_, by omega⟩
      show (valS s (iV s i)).1.length ≤ 100000
      omega
    · have q := hR.symm.trans (st8 (f := f') (l := l) (x := x')  ‹_› ‹_› ‹_› ‹_› ‹_› ‹_›)
      refine Rnd.mk ⟨(false, f', (valS s (iV s i)).2.1, addL l (nmT s i, decF (valS s (iV s i)).1 true), false, nmT s i), rfl, ⟨by simp only; omega, by have h := addL_len l (nmT s i, decF (valS s (iV s i)).1 true); simp only; omega, fun _ => ⟨rfl, by simp only; omega, q.symm⟩, fun h => (by cases h)⟩, by show _ < f' + 1; simp only [cond_true, cond_false]; omega, ?_⟩
      repeat' ((conv => whnf); first | (with_reducible rfl) | exact True.intro | (with_reducible exact absTF) | (with_reducible exact absFT) | intro _ | refine And.intro ?_ ?_ | refine Fin.mk ?_ | refine CallG.plain rfl ?_ ?_ | refine CallG.mk rfl ?_ ?_ | refine CallG.nwl rfl ?_ ?_ | refine CallG.nw ?_ ?_ | refine CallF.nwl rfl ?_ ?_ | refine CallF.nw ?_ ?_ | refine AppN.mk ?_ | (refine CallS.q ?_; (conv => whnf); first | refine CallG.plain rfl ?_ ?_ | refine CallG.mk rfl ?_ ?_) | (refine CallS.m ?_; (conv => whnf); refine CallM.mk rfl ?_ ?_) | (refine CallS.h ?_; (conv => whnf); refine CallM.mk rfl ?_ ?_) | (refine CallS.b ?_; (conv => whnf); refine CallM.mk rfl ?_ ?_) | (refine CallS.z ?_; (conv => whnf); refine CallM.mk rfl ?_ ?_))
      all_goals (try (conv => whnf))
      all_goals (try (exact Ob.mk (u8_bnd _)))
      all_goals (try (refine Ob.mk ?_; first | exact True.intro | assumption | omega | (try simp only [decide_eq_true_eq, decide_eq_false_iff_not, beq_iff_eq, beq_eq_false_iff_ne, bne_iff_ne, bne_eq_false_iff_eq, ne_eq, Bool.and_eq_true, Bool.or_eq_true, Bool.not_eq_true, Bool.not_eq_false, Bool.not_eq_true', Bool.not_eq_false', Int.toNat_natCast, Int.not_lt, Int.not_le, UInt8.ofNat_toNat, cast_eq] at *; omega)))
      all_goals (try ((show (_:Int) = _); omega))
      all_goals (try (show tupSV _ = _; with_unfolding_all rfl))
      all_goals (try ((show (_ : Nat) ≤ _); (simp <;> omega)))
      all_goals (try ((show (_ : Nat) ≤ _ ∧ (_ : Nat) ≤ _); (simp <;> omega)))
      all_goals (try ((show (_ : Int) ≤ _ ∧ (_ : Int) ≤ _ ∧ (_ : Int) ≤ _ ∧ (_ : Int) ≤ _); (simp <;> omega)))
      all_goals (first | rfl | omega | trace_state)
end Go.Vc

namespace Go.Vc
open Go.Proofs
set_option linter.unusedVariables false
set_option maxRecDepth 10000
set_option linter.unusedSimpArgs false
set_option maxHeartbeats 8000000
def begP (s p : List UInt8) : Bool := decide ((s.length : Int) ≥ (p.length : Int)) && s.take p.length == p
instance gHPl (s p : List UInt8) : Fn BB 31 [.str s, .str p] True (.bool (begP s p)) := by
  refine Fn.intro (N := 18) [0, 1, 4] [] Try.call31 Try.func31 rfl rfl (by kernel_rfl) (fun hpre => ?_)
  repeat' ((conv => whnf); first | (with_reducible rfl) | exact True.intro | (with_reducible exact absTF) | (with_reducible exact absFT) | intro _ | refine And.intro ?_ ?_ | refine Fin.mk ?_ | refine CallG.plain rfl ?_ ?_ | refine CallG.mk rfl ?_ ?_ | refine CallG.nwl rfl ?_ ?_ | refine CallG.nw ?_ ?_ | refine CallF.nwl rfl ?_ ?_ | refine CallF.nw ?_ ?_ | refine AppN.mk ?_ | (refine CallS.q ?_; (conv => whnf); first | refine CallG.plain rfl ?_ ?_ | refine CallG.mk rfl ?_ ?_) | (refine CallS.m ?_; (conv => whnf); refine CallM.mk rfl ?_ ?_) | (refine CallS.h ?_; (conv => whnf); refine CallM.mk rfl ?_ ?_) | (refine CallS.b ?_; (conv => whnf); refine CallM.mk rfl ?_ ?_) | (refine CallS.z ?_; (conv => whnf); refine CallM.mk rfl ?_ ?_))
  all_goals (try (conv => whnf))
  all_goals (try (exact Ob.mk (u8_bnd _)))
  all_goals (try (refine Ob.mk ?_; first | exact True.intro | assumption | omega | (try simp only [decide_eq_true_eq, decide_eq_false_iff_not, beq_iff_eq, beq_eq_false_iff_ne, bne_iff_ne, bne_eq_false_iff_eq, ne_eq, Bool.and_eq_true, Bool.or_eq_true, Bool.not_eq_true, Bool.not_eq_false, Bool.not_eq_true', Bool.not_eq_false', Int.toNat_natCast, Int.not_lt, Int.not_le, UInt8.ofNat_toNat, cast_eq] at *; omega)))
  all_goals (try ((show (_:Int) = _); omega))
  all_goals (try (show tupSV _ = _; with_unfolding_all rfl))
  all_goals (try ((show (_ : Nat) ≤ _); (simp <;> omega)))
  all_goals (try ((show (_ : Nat) ≤ _ ∧ (_ : Nat) ≤ _); (simp <;> omega)))
  all_goals (try ((show (_ : Int) ≤ _ ∧ (_ : Int) ≤ _ ∧ (_ : Int) ≤ _ ∧ (_ : Int) ≤ _); (simp <;> omega)))
  all_goals (try simp only [decide_eq_true_eq, decide_eq_false_iff_not, beq_iff_eq, beq_eq_false_iff_ne, bne_iff_ne, bne_eq_false_iff_eq, ne_eq, Bool.and_eq_true, Bool.or_eq_true, Bool.not_eq_true, Bool.not_eq_false, Bool.not_eq_true', Bool.not_eq_false', Int.toNat_natCast, Int.not_lt, Int.not_le, UInt8.ofNat_toNat, cast_eq] at *)
  all_goals rfl
instance gHP (s p : List UInt8) : Fn BB 14 [.str s, .str p] True (.bool (begP s p)) := by
  refine Fn.intro (N := 8) [0, 1, 4] [] Try.call14 Try.func14 rfl rfl (by kernel_rfl) (fun hpre => ?_)
  repeat' ((conv => whnf); first | (with_reducible rfl) | exact True.intro | (with_reducible exact absTF) | (with_reducible exact absFT) | intro _ | refine And.intro ?_ ?_ | refine Fin.mk ?_ | refine CallG.plain rfl ?_ ?_ | refine CallG.mk rfl ?_ ?_ | refine CallG.nwl rfl ?_ ?_ | refine CallG.nw ?_ ?_ | refine CallF.nwl rfl ?_ ?_ | refine CallF.nw ?_ ?_ | refine AppN.mk ?_ | (refine CallS.q ?_; (conv => whnf); first | refine CallG.plain rfl ?_ ?_ | refine CallG.mk rfl ?_ ?_) | (refine CallS.m ?_; (conv => whnf); refine CallM.mk rfl ?_ ?_) | (refine CallS.h ?_; (conv => whnf); refine CallM.mk rfl ?_ ?_) | (refine CallS.b ?_; (conv => whnf); refine CallM.mk rfl ?_ ?_) | (refine CallS.z ?_; (conv => whnf); refine CallM.mk rfl ?_ ?_))
  all_goals (try (conv => whnf))
  all_goals (try (exact Ob.mk (u8_bnd _)))
  all_goals (try (refine Ob.mk ?_; first | exact True.intro | assumption | omega | (try simp only [decide_eq_true_eq, decide_eq_false_iff_not, beq_iff_eq, beq_eq_false_iff_ne, bne_iff_ne, bne_eq_false_iff_eq, ne_eq, Bool.and_eq_true, Bool.or_eq_true, Bool.not_eq_true, Bool.not_eq_false, Bool.not_eq_true', Bool.not_eq_false', Int.toNat_natCast, Int.not_lt, Int.not_le, UInt8.ofNat_toNat, cast_eq] at *; omega)))
  all_goals (try ((show (_:Int) = _); omega))
  all_goals (try (show tupSV _ = _; with_unfolding_all rfl))
  all_goals (try ((show (_ : Nat) ≤ _); (simp <;> omega)))
  all_goals (try ((show (_ : Nat) ≤ _ ∧ (_ : Nat) ≤ _); (simp <;> omega)))
  all_goals (try ((show (_ : Int) ≤ _ ∧ (_ : Int) ≤ _ ∧ (_ : Int) ≤ _ ∧ (_ : Int) ≤ _); (simp <;> omega)))
abbrev TagR := Int × List UInt8 × List AttrD × Bool × Int × Bool
def nmG (s : List UInt8) (at_ : Nat) : List UInt8 := lowL ((s.take (upTo (stP [47, 62]) s at_)).drop at_)
def rnG (s : List UInt8) (at_ : Nat) : RunR := runT s (s.length + 1) (upTo (stP [47, 62]) s at_) [] []
/-- the tag with which a text begins, from a place on -/
def tagAt (s : List UInt8) (c : Bool) (at_ : Nat) : TagR :=
  if s = [] ∨ s.getD 0 0 ≠ 60 ∨ s.length ≤ at_ ∨ alB (s.getD at_ 0) = false then (0, [], [], false, 0, false)
  else if (rnG s at_).1 = false then (0, [], [], false, (s.length : Int), false)
  else if c = true then (2, nmG s at_, [], false, ((rnG s at_).2.1 : Int), true)
  else (1, nmG s at_, (rnG s at_).2.2.1, (rnG s at_).2.2.2.1, ((rnG s at_).2.1 : Int), true)
def tagP (s : List UInt8) : TagR := if begP s [60, 47] = true then tagAt s true 2 else tagAt s false 1
section
variable {s : List UInt8} {c : Bool} {n : Nat} {k : Int}
theorem h60 (s : List UInt8) : (s == [] || ((s.getD (Int.toNat 0) 0).toNat : Int) != 60) = true ↔ (s = [] ∨ s.getD 0 0 ≠ 60) := by
  have e : (((s.getD (Int.toNat 0) 0).toNat : Int) != 60) = !(s.getD 0 0 == 60) := by
    rw [bne, show (((s.getD (Int.toNat 0) 0).toNat : Int) == 60) = (s.getD 0 0 == 60) from b_iff _ 60]
  rw [e, Bool.or_eq_true, beq_iff_eq, Bool.not_eq_true', beq_eq_false_iff_ne]
theorem tA1 (h : (s == [] || ((s.getD (Int.toNat 0) 0).toNat : Int) != 60) = !false) : tagAt s c n = (0, [], [], false, 0, false) := by
  have := (h60 s).1 h
  unfold tagAt; rw [if_pos (by rcases this with h | h; exact .inl h; exact .inr (.inl h))]
theorem tA2 (hk : k = n) (h : (false || decide (k ≥ (s.length : Int)) || !alI ((s.getD k.toNat 0).toNat : Int)) = true) : tagAt s c n = (0, [], [], false, 0, false) := by
  subst hk
  rw [Bool.false_or, Bool.or_eq_true, decide_eq_true_eq, Int.toNat_natCast, Bool.not_eq_true'] at h
  unfold tagAt; rw [if_pos (by rcases h with h | h; exact .inr (.inr (.inl (by omega))); exact .inr (.inr (.inr h)))]
theorem tOk (hk : k = n) (h : (s == [] || ((s.getD (Int.toNat 0) 0).toNat : Int) != 60) = false) (h' : (false || decide (k ≥ (s.length : Int)) || !alI ((s.getD k.toNat 0).toNat : Int)) = false) : ¬ (s = [] ∨ s.getD 0 0 ≠ 60 ∨ s.length ≤ n ∨ alB (s.getD n 0) = false) := by
  subst hk
  rw [Bool.false_or, Bool.or_eq_false_iff, decide_eq_false_iff_not, Int.toNat_natCast, Bool.not_eq_false'] at h'
  rintro (q | q | q | q)
  · rw [(h60 s).2 (.inl q)] at h; cases h
  · rw [(h60 s).2 (.inr q)] at h; cases h
  · exact h'.1 (by omega)
  · unfold alB at q; rw [h'.2] at q; cases q
theorem tA3 (hk : k = n) (h : (s == [] || ((s.getD (Int.toNat 0) 0).toNat : Int) != 60) = false) (h' : (false || decide (k ≥ (s.length : Int)) || !alI ((s.getD k.toNat 0).toNat : Int)) = false) (hr : (!(rnG s k.toNat).1) = true) : tagAt s c n = (0, [], [], false, (s.length : Int), false) := by
  have := tOk hk h h'
  subst hk
  rw [Int.toNat_natCast] at hr
  unfold tagAt; rw [if_neg this, if_pos (by simpa using hr)]
theorem tA4 (hk : k = n) (h : (s == [] || ((s.getD (Int.toNat 0) 0).toNat : Int) != 60) = false) (h' : (false || decide (k ≥ (s.length : Int)) || !alI ((s.getD k.toNat 0).toNat : Int)) = false) (hr : (!(rnG s k.toNat).1) = false) : tagAt s c n = if c = true then (2, nmG s n, [], false, ((rnG s n).2.1 : Int), true) else (1, nmG s n, (rnG s n).2.2.1, (rnG s n).2.2.2.1, ((rnG s n).2.1 : Int), true) := by
  have := tOk hk h h'
  subst hk
  rw [Int.toNat_natCast] at hr
  unfold tagAt; rw [if_neg this, if_neg (by simpa using hr)]
theorem tBnd (hk : k = n) (h : (s == [] || ((s.getD (Int.toNat 0) 0).toNat : Int) != 60) = false) (h' : (false || decide (k ≥ (s.length : Int)) || !alI ((s.getD k.toNat 0).toNat : Int)) = false) : n < s.length := by
  have := tOk hk h h'
  rcases Nat.lt_or_ge n s.length with q | q
  · exact q
  · exact absurd (.inr (.inr (.inl q))) this
end
instance tRead (s : List UInt8) : FnM BB 7 [.str s] [] (s.length ≤ 50000) (.tup [.agg [.int .i64 (tagP s).1, .str (tagP s).2.1, .own 0, .bool (tagP s).2.2.2.1, .str []], .int .i64 (tagP s).2.2.2.2.1, .bool (tagP s).2.2.2.2.2]) [(0, .own attrTy (tagP s).2.2.1)] := by
  refine FnM.intro (N := 62) [0, 2, 3, 4, 5, 6, 11, 32, 46, 53] [(13, [0, 4, 0, 4, 4, 4, 0])] 0 Try.call7 Try.func7 rfl rfl (by kernel_rfl) (fun hpre => ?_)
  have e1 : begP s [60, 47] = true → tagP s = tagAt s true 2 := fun h => by unfold tagP; rw [if_pos h]
  have e0 : begP s [60, 47] = false → tagP s = tagAt s false 1 := fun h => by unfold tagP; rw [if_neg (by rw [h]; decide)]
  have n2 : (2 : Int).toNat = 2 := rfl
  have n1 : (1 : Int).toNat = 1 := rfl
  repeat' ((conv => whnf); first | (with_reducible rfl) | exact True.intro | (with_reducible exact absTF) | (with_reducible exact absFT) | intro _ | refine And.intro ?_ ?_ | refine Fin.mk ?_ | refine CallG.plain rfl ?_ ?_ | refine CallG.mk rfl ?_ ?_ | refine CallG.nwl rfl ?_ ?_ | refine CallG.nw ?_ ?_ | refine CallF.nwl rfl ?_ ?_ | refine CallF.nw ?_ ?_ | refine AppN.mk ?_ | (refine CallS.q ?_; (conv => whnf); first | refine CallG.plain rfl ?_ ?_ | refine CallG.mk rfl ?_ ?_) | (refine CallS.m ?_; (conv => whnf); refine CallM.mk rfl ?_ ?_) | (refine CallS.h ?_; (conv => whnf); refine CallM.mk rfl ?_ ?_) | (refine CallS.b ?_; (conv => whnf); refine CallM.mk rfl ?_ ?_) | (refine CallS.z ?_; (conv => whnf); refine CallM.mk rfl ?_ ?_))
  all_goals (try (conv => whnf))
  all_goals (try (exact Ob.mk (u8_bnd _)))
  all_goals (try (refine Ob.mk ?_; first | exact True.intro | assumption | omega | (try simp only [decide_eq_true_eq, decide_eq_false_iff_not, beq_iff_eq, beq_eq_false_iff_ne, bne_iff_ne, bne_eq_false_iff_eq, ne_eq, Bool.and_eq_true, Bool.or_eq_true, Bool.not_eq_true, Bool.not_eq_false, Bool.not_eq_true', Bool.not_eq_false', Int.toNat_natCast, Int.not_lt, Int.not_le, UInt8.ofNat_toNat, cast_eq] at *; omega)))
  all_goals (try ((show (_:Int) = _); omega))
  all_goals (try (show tupSV _ = _; with_unfolding_all rfl))
  all_goals (try ((show (_ : Nat) ≤ _); (simp <;> omega)))
  all_goals (try ((show (_ : Nat) ≤ _ ∧ (_ : Nat) ≤ _); (simp <;> omega)))
  all_goals (try ((show (_ : Int) ≤ _ ∧ (_ : Int) ≤ _ ∧ (_ : Int) ≤ _ ∧ (_ : Int) ≤ _); (simp <;> omega)))
  all_goals (try (have q := (e1 ‹_›).trans (tA1 ‹_›)))
  all_goals (try (have q := (e0 ‹_›).trans (tA1 ‹_›)))
  all_goals (try (have q := (e1 ‹_›).trans (tA2 (k := 2) rfl ‹_›)))
  all_goals (try (have q := (e0 ‹_›).trans (tA2 (k := 1) rfl ‹_›)))
  all_goals (try (have q := (e1 ‹_›).trans (tA3 (k := 2) rfl ‹_› ‹_› ‹_›)))
  all_goals (try (have q := (e0 ‹_›).trans (tA3 (k := 1) rfl ‹_› ‹_› ‹_›)))
  all_goals (try (have q := (e1 ‹_›).trans (tA4 (k := 2) rfl ‹_› ‹_› ‹_›)))
  all_goals (try (have q := (e0 ‹_›).trans (tA4 (k := 1) rfl ‹_› ‹_› ‹_›)))
  all_goals (try (have b := tBnd (n := 2) (k := 2) rfl ‹_› ‹_›; have u := upTo_le (stP [47, 62]) s 2 (by omega)))
  all_goals (try (have b := tBnd (n := 1) (k := 1) rfl ‹_› ‹_›; have u := upTo_le (stP [47, 62]) s 1 (by omega)))
  all_goals (try (exfalso; exact absurd ‹((1 : Int) == 2) = true› (by decide)))
  all_goals (try (exfalso; exact absurd ‹((2 : Int) == 2) = false› (by decide)))
  all_goals (try (exfalso; have h : (true || !alI ((s.getD (Int.toNat 2) 0).toNat : Int)) = false := ‹_›; simp at h; done))
  all_goals (try (exfalso; have h : (true || !alI ((s.getD (Int.toNat 1) 0).toNat : Int)) = false := ‹_›; simp at h; done))
  all_goals (try (have hne : s ≠ [] := fun z => by have h : (s == []) = false := ‹_›; rw [z] at h; cases h))
  all_goals (try (have hpos : 0 < s.length := List.length_pos_iff.mpr hne))
  all_goals (try (have h2' : ¬ (2 ≥ (s.length : Int)) := by have h : (false || decide (2 ≥ (s.length : Int))) = false := ‹_›; rw [Bool.false_or] at h; exact of_decide_eq_false h))
  all_goals (try (have h1' : ¬ (1 ≥ (s.length : Int)) := by have h : (false || decide (1 ≥ (s.length : Int))) = false := ‹_›; rw [Bool.false_or] at h; exact of_decide_eq_false h))
  all_goals (try simp only [n1, n2] at *)
  all_goals (first | (rw [q]; done) | (rw [q]; rfl) | omega | exact ⟨by omega, by omega⟩ | exact ⟨by omega, by omega, by omega⟩ | skip)
  all_goals trace_state
end Go.Vc

namespace Go.Vc
open Go.Proofs
set_option linter.unusedVariables false
set_option maxRecDepth 10000
set_option linter.unusedSimpArgs false
set_option maxHeartbeats 8000000
section
variable {s : List UInt8} {c : Bool} {n : Nat} {k : Int}
end
theorem c62_iff (c : UInt8) : ((c.toNat : Int) == 62) = (c == 62) := b_iff c 62
theorem c47_iff (c : UInt8) : ((c.toNat : Int) == 47) = (c == 47) := b_iff c 47
section
variable {s : List UInt8} {f i : Nat} {l : List AttrD} {x : List UInt8}
abbrev c2B (s : List UInt8) (j : Nat) : Bool := ((s.getD j 0).toNat : Int) == 62 || ((s.getD j 0).toNat : Int) == 47 && decide ((j : Int) + 1 < (s.length : Int)) && ((s.getD (j + 1) 0).toNat : Int) == 62
theorem is62 {j : Nat} (hl : j < s.length) : cIs s j 62 = (s.getD j 0 == 62) := by unfold cIs; rw [decide_eq_true (show (j : Int) < (s.length : Int) by omega), Bool.true_and]; exact b_iff _ 62
theorem is47 {j : Nat} (hl : j < s.length) : cIs s j 47 = (s.getD j 0 == 47) := by unfold cIs; rw [decide_eq_true (show (j : Int) < (s.length : Int) by omega), Bool.true_and]; exact b_iff _ 47
theorem is62' (j : Nat) : (decide ((j : Int) + 1 < (s.length : Int)) && ((s.getD (j + 1) 0).toNat : Int) == 62) = cIs s (j + 1) 62 := by unfold cIs; rfl
theorem u2 (h1 : cOv s (upTo blB s i) = false) (h2 : c2B s (upTo blB s i) = true) (h3 : (((s.getD (upTo blB s i) 0).toNat : Int) == 47) = true) : runT s (f + 1) i l x = (true, upTo blB s i + 2, l, true, x) := by
  have hl := (cOv_not _ _).1 h1
  rw [c47_iff, beq_iff_eq] at h3
  have a : cIs s (upTo blB s i) 62 = false := by rw [is62 hl, h3]; decide
  have b : cIs s (upTo blB s i) 47 = true := by rw [is47 hl, h3]; decide
  unfold c2B at h2
  rw [Bool.and_assoc, is62', c62_iff, c47_iff, h3] at h2
  refine st3 h1 a b (by simpa using h2)
theorem u3 (h1 : cOv s (upTo blB s i) = false) (h2 : c2B s (upTo blB s i) = true) (h3 : (((s.getD (upTo blB s i) 0).toNat : Int) == 47) = false) : runT s (f + 1) i l x = (true, upTo blB s i + 1, l, false, x) := by
  have hl := (cOv_not _ _).1 h1
  unfold c2B at h2
  rw [h3, Bool.false_and, Bool.false_and, Bool.or_false, c62_iff] at h2
  exact st2 h1 (by rw [is62 hl]; exact h2)
theorem u4 (h1 : cOv s (upTo blB s i) = false) (h2 : c2B s (upTo blB s i) = false) (h3 : (((s.getD (upTo blB s i) 0).toNat : Int) == 47) = true) : runT s (f + 1) i l x = runT s f (upTo blB s i + 1) l x := by
  have hl := (cOv_not _ _).1 h1
  unfold c2B at h2
  rw [Bool.and_assoc, is62', h3, Bool.or_eq_false_iff, Bool.true_and, c62_iff] at h2
  exact st4 h1 (by rw [is62 hl]; exact h2.1) (by rw [is47 hl, ← c47_iff]; exact h3) h2.2
end
end Go.Vc

namespace Go.Vc
open Go.Proofs
set_option linter.unusedVariables false
set_option maxRecDepth 10000
set_option linter.unusedSimpArgs false
set_option maxHeartbeats 8000000
theorem sameBad (x : AttrD) : (!(x.1 == x.1 && (x.2 == x.2 && true))) = false := by
  simp
instance gSame7 (l : List AttrD) : Fn BB 26 [.rd attrTy l, .rd attrTy l] (l.length ≤ 100000) (.bool true) := by
  refine Fn.intro (N := 26) [0, 1, 4, 5, 10, 14, 25] [(6, [0, 0, 1, 1, 0, 0, 1, 1, 3])] Try.call26 Try.func26 rfl rfl (by kernel_rfl) (fun hpre => ?_)
  repeat' ((conv => whnf); first | (with_reducible rfl) | exact True.intro | (with_reducible exact absTF) | (with_reducible exact absFT) | intro _ | refine And.intro ?_ ?_ | refine Fin.mk ?_ | refine CallG.plain rfl ?_ ?_ | refine CallG.mk rfl ?_ ?_ | refine CallG.nwl rfl ?_ ?_ | refine CallG.nw ?_ ?_ | refine CallF.nwl rfl ?_ ?_ | refine CallF.nw ?_ ?_ | refine AppN.mk ?_ | (refine CallS.q ?_; (conv => whnf); first | refine CallG.plain rfl ?_ ?_ | refine CallG.mk rfl ?_ ?_) | (refine CallS.m ?_; (conv => whnf); refine CallM.mk rfl ?_ ?_) | (refine CallS.h ?_; (conv => whnf); refine CallM.mk rfl ?_ ?_) | (refine CallS.b ?_; (conv => whnf); refine CallM.mk rfl ?_ ?_) | (refine CallS.z ?_; (conv => whnf); refine CallM.mk rfl ?_ ?_))
  all_goals (try (conv => whnf))
  all_goals (try (exact Ob.mk (u8_bnd _)))
  all_goals (try (refine Ob.mk ?_; first | exact True.intro | assumption | omega | (try simp only [decide_eq_true_eq, decide_eq_false_iff_not, beq_iff_eq, beq_eq_false_iff_ne, bne_iff_ne, bne_eq_false_iff_eq, ne_eq, Bool.and_eq_true, Bool.or_eq_true, Bool.not_eq_true, Bool.not_eq_false, Bool.not_eq_true', Bool.not_eq_false', Int.toNat_natCast, Int.not_lt, Int.not_le, UInt8.ofNat_toNat, cast_eq] at *; omega)))
  all_goals (try ((show (_:Int) = _); omega))
  all_goals (try (show tupSV _ = _; with_unfolding_all rfl))
  all_goals (try ((show (_ : Nat) ≤ _); (simp <;> omega)))
  all_goals (try ((show (_ : Nat) ≤ _ ∧ (_ : Nat) ≤ _); (simp <;> omega)))
  all_goals (try ((show (_ : Int) ≤ _ ∧ (_ : Int) ≤ _ ∧ (_ : Int) ≤ _ ∧ (_ : Int) ≤ _); (simp <;> omega)))
  all_goals (try simp_all; done)
  refine LoopStop.mk (α := Nat) (fun k => [(5, .int .i64 k)]) (fun _ => []) 20 (fun k => k ≤ l.length) (fun k => l.length - k) 0 (by simp) ?_ (fun k hk => ?_)
  · repeat' ((conv => whnf); first | (with_reducible rfl) | exact True.intro | (with_reducible exact absTF) | (with_reducible exact absFT) | intro _ | refine And.intro ?_ ?_ | refine Fin.mk ?_ | refine CallG.plain rfl ?_ ?_ | refine CallG.mk rfl ?_ ?_ | refine CallG.nwl rfl ?_ ?_ | refine CallG.nw ?_ ?_ | refine CallF.nwl rfl ?_ ?_ | refine CallF.nw ?_ ?_ | refine AppN.mk ?_ | (refine CallS.q ?_; (conv => whnf); first | refine CallG.plain rfl ?_ ?_ | refine CallG.mk rfl ?_ ?_) | (refine CallS.m ?_; (conv => whnf); refine CallM.mk rfl ?_ ?_) | (refine CallS.h ?_; (conv => whnf); refine CallM.mk rfl ?_ ?_) | (refine CallS.b ?_; (conv => whnf); refine CallM.mk rfl ?_ ?_) | (refine CallS.z ?_; (conv => whnf); refine CallM.mk rfl ?_ ?_))
    all_goals (try (conv => whnf))
    all_goals (try (exact Ob.mk (u8_bnd _)))
    all_goals (try (refine Ob.mk ?_; first | exact True.intro | assumption | omega | (try simp only [decide_eq_true_eq, decide_eq_false_iff_not, beq_iff_eq, beq_eq_false_iff_ne, bne_iff_ne, bne_eq_false_iff_eq, ne_eq, Bool.and_eq_true, Bool.or_eq_true, Bool.not_eq_true, Bool.not_eq_false, Bool.not_eq_true', Bool.not_eq_false', Int.toNat_natCast, Int.not_lt, Int.not_le, UInt8.ofNat_toNat, cast_eq] at *; omega)))
    all_goals (try ((show (_:Int) = _); omega))
    all_goals (try (show tupSV _ = _; with_unfolding_all rfl))
    all_goals (try ((show (_ : Nat) ≤ _); (simp <;> omega)))
    all_goals (try ((show (_ : Nat) ≤ _ ∧ (_ : Nat) ≤ _); (simp <;> omega)))
    all_goals (try ((show (_ : Int) ≤ _ ∧ (_ : Int) ≤ _ ∧ (_ : Int) ≤ _ ∧ (_ : Int) ≤ _); (simp <;> omega)))
    all_goals (try rfl)
  · repeat' ((conv => whnf); first | (with_reducible rfl) | exact True.intro | (with_reducible exact absTF) | (with_reducible exact absFT) | intro _ | refine And.intro ?_ ?_ | refine Fin.mk ?_ | refine CallG.plain rfl ?_ ?_ | refine CallG.mk rfl ?_ ?_ | refine CallG.nwl rfl ?_ ?_ | refine CallG.nw ?_ ?_ | refine CallF.nwl rfl ?_ ?_ | refine CallF.nw ?_ ?_ | refine AppN.mk ?_ | (refine CallS.q ?_; (conv => whnf); first | refine CallG.plain rfl ?_ ?_ | refine CallG.mk rfl ?_ ?_) | (refine CallS.m ?_; (conv => whnf); refine CallM.mk rfl ?_ ?_) | (refine CallS.h ?_; (conv => whnf); refine CallM.mk rfl ?_ ?_) | (refine CallS.b ?_; (conv => whnf); refine CallM.mk rfl ?_ ?_) | (refine CallS.z ?_; (conv => whnf); refine CallM.mk rfl ?_ ?_))
    all_goals (try (conv => whnf))
    all_goals (try (exact Ob.mk (u8_bnd _)))
    all_goals (try (refine Ob.mk ?_; first | exact True.intro | assumption | omega | (try simp only [decide_eq_true_eq, decide_eq_false_iff_not, beq_iff_eq, beq_eq_false_iff_ne, bne_iff_ne, bne_eq_false_iff_eq, ne_eq, Bool.and_eq_true, Bool.or_eq_true, Bool.not_eq_true, Bool.not_eq_false, Bool.not_eq_true', Bool.not_eq_false', Int.toNat_natCast, Int.not_lt, Int.not_le, UInt8.ofNat_toNat, cast_eq] at *; omega)))
    all_goals (try ((show (_:Int) = _); omega))
    all_goals (try (show tupSV _ = _; with_unfolding_all rfl))
    all_goals (try ((show (_ : Nat) ≤ _); (simp <;> omega)))
    all_goals (try ((show (_ : Nat) ≤ _ ∧ (_ : Nat) ≤ _); (simp <;> omega)))
    all_goals (try ((show (_ : Int) ≤ _ ∧ (_ : Int) ≤ _ ∧ (_ : Int) ≤ _ ∧ (_ : Int) ≤ _); (simp <;> omega)))
    all_goals (try simp only [Int.toNat_natCast] at *)
    all_goals (try (have hp : k < l.length := by have h := of_decide_eq_true ‹decide ((k : Int) < (l.length : Int)) = true›; omega))
    all_goals (try (exact absurd ((sameBad _).symm.trans ‹_›) (by decide)))
    refine Rnd.mk ⟨k + 1, ⟨by omega, by omega, ?_⟩⟩
    repeat' ((conv => whnf); first | (with_reducible rfl) | exact True.intro | (with_reducible exact absTF) | (with_reducible exact absFT) | intro _ | refine And.intro ?_ ?_ | refine Fin.mk ?_ | refine CallG.plain rfl ?_ ?_ | refine CallG.mk rfl ?_ ?_ | refine CallG.nwl rfl ?_ ?_ | refine CallG.nw ?_ ?_ | refine CallF.nwl rfl ?_ ?_ | refine CallF.nw ?_ ?_ | refine AppN.mk ?_ | (refine CallS.q ?_; (conv => whnf); first | refine CallG.plain rfl ?_ ?_ | refine CallG.mk rfl ?_ ?_) | (refine CallS.m ?_; (conv => whnf); refine CallM.mk rfl ?_ ?_) | (refine CallS.h ?_; (conv => whnf); refine CallM.mk rfl ?_ ?_) | (refine CallS.b ?_; (conv => whnf); refine CallM.mk rfl ?_ ?_) | (refine CallS.z ?_; (conv => whnf); refine CallM.mk rfl ?_ ?_))
    all_goals (try (conv => whnf))
    all_goals (try (exact Ob.mk (u8_bnd _)))
    all_goals (try (refine Ob.mk ?_; first | exact True.intro | assumption | omega | (try simp only [decide_eq_true_eq, decide_eq_false_iff_not, beq_iff_eq, beq_eq_false_iff_ne, bne_iff_ne, bne_eq_false_iff_eq, ne_eq, Bool.and_eq_true, Bool.or_eq_true, Bool.not_eq_true, Bool.not_eq_false, Bool.not_eq_true', Bool.not_eq_false', Int.toNat_natCast, Int.not_lt, Int.not_le, UInt8.ofNat_toNat, cast_eq] at *; omega)))
    all_goals (try ((show (_:Int) = _); omega))
    all_goals (try (show tupSV _ = _; with_unfolding_all rfl))
    all_goals (try ((show (_ : Nat) ≤ _); (simp <;> omega)))
    all_goals (try ((show (_ : Nat) ≤ _ ∧ (_ : Nat) ≤ _); (simp <;> omega)))
    all_goals (try ((show (_ : Int) ≤ _ ∧ (_ : Int) ≤ _ ∧ (_ : Int) ≤ _ ∧ (_ : Int) ≤ _); (simp <;> omega)))
    all_goals rfl
instance gSame8 (k : Int) (n d : List UInt8) (b : Bool) (l : List AttrD) : FnM BB 9 [.agg [.int .i64 k, .str n, .own 0, .bool b, .str d], .agg [.int .i64 k, .str n, .own 1, .bool b, .str d]] [(0, .own attrTy l), (1, .own attrTy l)] (l.length ≤ 100000) (.bool true) [(0, .own attrTy l), (1, .own attrTy l)] := by
  refine FnM.intro (N := 38) [0, 1, 2, 3, 4] [] 2 Try.call9 Try.func9 rfl rfl (by kernel_rfl) (fun hpre => ?_)
  repeat' ((conv => whnf); first | (with_reducible rfl) | exact True.intro | (with_reducible exact absTF) | (with_reducible exact absFT) | intro _ | refine And.intro ?_ ?_ | refine Fin.mk ?_ | refine CallG.plain rfl ?_ ?_ | refine CallG.mk rfl ?_ ?_ | refine CallG.nwl rfl ?_ ?_ | refine CallG.nw ?_ ?_ | refine CallF.nwl rfl ?_ ?_ | refine CallF.nw ?_ ?_ | refine AppN.mk ?_ | (refine CallS.q ?_; (conv => whnf); first | refine CallG.plain rfl ?_ ?_ | refine CallG.mk rfl ?_ ?_) | (refine CallS.m ?_; (conv => whnf); refine CallM.mk rfl ?_ ?_) | (refine CallS.h ?_; (conv => whnf); refine CallM.mk rfl ?_ ?_) | (refine CallS.b ?_; (conv => whnf); refine CallM.mk rfl ?_ ?_) | (refine CallS.z ?_; (conv => whnf); refine CallM.mk rfl ?_ ?_))
  all_goals (try (conv => whnf))
  all_goals (try (exact Ob.mk (u8_bnd _)))
  all_goals (try (refine Ob.mk ?_; first | exact True.intro | assumption | omega | (try simp only [decide_eq_true_eq, decide_eq_false_iff_not, beq_iff_eq, beq_eq_false_iff_ne, bne_iff_ne, bne_eq_false_iff_eq, ne_eq, Bool.and_eq_true, Bool.or_eq_true, Bool.not_eq_true, Bool.not_eq_false, Bool.not_eq_true', Bool.not_eq_false', Int.toNat_natCast, Int.not_lt, Int.not_le, UInt8.ofNat_toNat, cast_eq] at *; omega)))
  all_goals (try ((show (_:Int) = _); omega))
  all_goals (try (show tupSV _ = _; with_unfolding_all rfl))
  all_goals (try ((show (_ : Nat) ≤ _); (simp <;> omega)))
  all_goals (try ((show (_ : Nat) ≤ _ ∧ (_ : Nat) ≤ _); (simp <;> omega)))
  all_goals (try ((show (_ : Int) ≤ _ ∧ (_ : Int) ≤ _ ∧ (_ : Int) ≤ _ ∧ (_ : Int) ≤ _); (simp <;> omega)))
  all_goals (try simp; done)
  all_goals trace_state
end Go.Vc

namespace Go.Vc
open Go.Proofs
set_option linter.unusedVariables false
set_option maxRecDepth 10000
set_option linter.unusedSimpArgs false
set_option maxHeartbeats 8000000
def clC (s nm : List UInt8) : Bool := nm == [] || decide ((s.length : Int) ≤ (nm.length : Int) + 2) || !begP s [60, 47] || !(lowL ((s.take (nm.length + 2)).drop 2) == lowL nm)
def clS (s nm : List UInt8) : Bool :=
  if clC s nm then false
  else W.isSp ((s.getD (nm.length + 2) 0).toNat : Int) || ((s.getD (nm.length + 2) 0).toNat : Int) == 47 || ((s.getD (nm.length + 2) 0).toNat : Int) == 62
theorem clSn {s nm : List UInt8} (h : clC s nm = false) : clS s nm = (W.isSp ((s.getD (nm.length + 2) 0).toNat : Int) || ((s.getD (nm.length + 2) 0).toNat : Int) == 47 || ((s.getD (nm.length + 2) 0).toNat : Int) == 62) := by
  unfold clS
  rw [if_neg (by rw [h]; exact Bool.false_ne_true)]
theorem nm2 (nm : List UInt8) : ((nm.length : Int) + 2).toNat = nm.length + 2 := by omega
instance gClo (s nm : List UInt8) : Fn BB 10 [.str s, .str nm] (s.length ≤ 100000 ∧ nm.length ≤ 100000) (.bool (clS s nm)) := by
  refine Fn.intro (N := 46) [0, 1, 4, 5, 29] [] Try.call10 Try.func10 rfl rfl (by kernel_rfl) (fun hpre => ?_)
  repeat' ((conv => whnf); first | (with_reducible rfl) | exact True.intro | (with_reducible exact absTF) | (with_reducible exact absFT) | intro _ | refine And.intro ?_ ?_ | refine Fin.mk ?_ | refine CallG.plain rfl ?_ ?_ | refine CallG.mk rfl ?_ ?_ | refine CallG.nwl rfl ?_ ?_ | refine CallG.nw ?_ ?_ | refine CallF.nwl rfl ?_ ?_ | refine CallF.nw ?_ ?_ | refine AppN.mk ?_ | (refine CallS.q ?_; (conv => whnf); first | refine CallG.plain rfl ?_ ?_ | refine CallG.mk rfl ?_ ?_) | (refine CallS.m ?_; (conv => whnf); refine CallM.mk rfl ?_ ?_) | (refine CallS.h ?_; (conv => whnf); refine CallM.mk rfl ?_ ?_) | (refine CallS.b ?_; (conv => whnf); refine CallM.mk rfl ?_ ?_) | (refine CallS.z ?_; (conv => whnf); refine CallM.mk rfl ?_ ?_))
  all_goals (try (conv => whnf))
  all_goals (try (exact Ob.mk (u8_bnd _)))
  all_goals (try (refine Ob.mk ?_; first | exact True.intro | assumption | omega | (try simp only [decide_eq_true_eq, decide_eq_false_iff_not, beq_iff_eq, beq_eq_false_iff_ne, bne_iff_ne, bne_eq_false_iff_eq, ne_eq, Bool.and_eq_true, Bool.or_eq_true, Bool.not_eq_true, Bool.not_eq_false, Bool.not_eq_true', Bool.not_eq_false', Int.toNat_natCast, Int.not_lt, Int.not_le, UInt8.ofNat_toNat, cast_eq] at *; omega)))
  all_goals (try ((show (_:Int) = _); omega))
  all_goals (try (show tupSV _ = _; with_unfolding_all rfl))
  all_goals (try ((show (_ : Nat) ≤ _); (simp <;> omega)))
  all_goals (try ((show (_ : Nat) ≤ _ ∧ (_ : Nat) ≤ _); (simp <;> omega)))
  all_goals (try ((show (_ : Int) ≤ _ ∧ (_ : Int) ≤ _ ∧ (_ : Int) ≤ _ ∧ (_ : Int) ≤ _); (simp <;> omega)))
  all_goals (try (simp only [nm2, show Int.toNat 2 = 2 from rfl] at *))
  all_goals (try ((have hh : clC s nm = true := by unfold clC; assumption); unfold clS; rw [hh]; rfl; done))
  all_goals (try (refine (clSn ?_).symm; unfold clC; assumption))
  all_goals (try (simp only [Bool.or_eq_false_iff, decide_eq_false_iff_not] at *; omega))
end Go.Vc

namespace Go.Vc
open Go.Proofs
set_option linter.unusedVariables false
set_option maxRecDepth 10000
set_option linter.unusedSimpArgs false
set_option maxHeartbeats 8000000
instance tAwake : Fn BB 6 [] True (.bool true) := by
  refine Fn.intro (N := 61) [0, 1, 2, 3, 5, 6] [] Try.call6 Try.func6 rfl rfl (by kernel_rfl) (fun hpre => ?_)
  repeat' ((conv => whnf); first | (with_reducible rfl) | exact True.intro | (with_reducible exact absTF) | (with_reducible exact absFT) | intro _ | refine And.intro ?_ ?_ | refine Fin.mk ?_ | refine CallG.plain rfl ?_ ?_ | refine CallG.mk rfl ?_ ?_ | refine CallG.nwl rfl ?_ ?_ | refine CallG.nw ?_ ?_ | refine CallF.nwl rfl ?_ ?_ | refine CallF.nw ?_ ?_ | refine AppN.mk ?_ | (refine CallS.q ?_; (conv => whnf); first | refine CallG.plain rfl ?_ ?_ | refine CallG.mk rfl ?_ ?_) | (refine CallS.m ?_; (conv => whnf); refine CallM.mk rfl ?_ ?_) | (refine CallS.h ?_; (conv => whnf); refine CallM.mk rfl ?_ ?_) | (refine CallS.b ?_; (conv => whnf); refine CallM.mk rfl ?_ ?_) | (refine CallS.z ?_; (conv => whnf); refine CallM.mk rfl ?_ ?_))
  all_goals (try (conv => whnf))
  all_goals (try (exact Ob.mk (u8_bnd _)))
  all_goals (try (refine Ob.mk ?_; first | exact True.intro | assumption | omega | (try simp only [decide_eq_true_eq, decide_eq_false_iff_not, beq_iff_eq, beq_eq_false_iff_ne, bne_iff_ne, bne_eq_false_iff_eq, ne_eq, Bool.and_eq_true, Bool.or_eq_true, Bool.not_eq_true, Bool.not_eq_false, Bool.not_eq_true', Bool.not_eq_false', Int.toNat_natCast, Int.not_lt, Int.not_le, UInt8.ofNat_toNat, cast_eq] at *; omega)))
  all_goals (try ((show (_:Int) = _); omega))
  all_goals (try (show tupSV _ = _; with_unfolding_all rfl))
  all_goals (try ((show (_ : Nat) ≤ _); (simp <;> omega)))
  all_goals (try ((show (_ : Nat) ≤ _ ∧ (_ : Nat) ≤ _); (simp <;> omega)))
  all_goals (try ((show (_ : Int) ≤ _ ∧ (_ : Int) ≤ _ ∧ (_ : Int) ≤ _ ∧ (_ : Int) ≤ _); (simp <;> omega)))
  all_goals (try (decide +kernel))
  all_goals trace_state
end Go.Vc

namespace Go.Vc
open Go.Proofs
set_option linter.unusedVariables false
set_option maxRecDepth 10000
set_option linter.unusedSimpArgs false
set_option maxHeartbeats 8000000
/-- no name twice -/
def nod (l : List AttrD) : Prop := (l.map (·.1)).Nodup
end Go.Vc

namespace Go.Vc
set_option autoImplicit false
/-- what stands for a byte; [] : itself -/
def refB (q : Bool) (c : UInt8) : List UInt8 :=
  bif c == 38 then [38, 97, 109, 112, 59] else bif c == 60 then [38, 108, 116, 59] else bif c == 62 then [38, 103, 116, 59] else bif c == 34 && q then [38, 113, 117, 111, 116, 59] else []
def oneB (q : Bool) (c : UInt8) : List UInt8 := bif (refB q c).isEmpty then [c] else refB q c
def nbsp : List UInt8 := [38, 110, 98, 115, 112, 59]
/-- a text, written -/
def escL (q : Bool) : List UInt8 → List UInt8
  | [] => []
  | [c] => oneB q c
  | c :: d :: r => bif c == 194 && d == 160 then nbsp ++ escL q r else oneB q c ++ escL q (d :: r)
theorem oneB_len (q : Bool) (c : UInt8) : (oneB q c).length ≤ 6 ∧ 1 ≤ (oneB q c).length := by
  unfold oneB refB
  cases c == 38 <;> cases c == 60 <;> cases c == 62 <;> cases c == 34 <;> cases q <;> simp
theorem escL_len (q : Bool) : ∀ l : List UInt8, (escL q l).length ≤ 6 * l.length
  | [] => by simp [escL]
  | [c] => by have := oneB_len q c; simp [escL]; omega
  | c :: d :: r => by
    have h1 := oneB_len q c
    have h2 := escL_len q r
    have h3 := escL_len q (d :: r)
    unfold escL
    cases c == 194 && d == 160
    · simp at h3 ⊢; omega
    · simp [nbsp]; omega
theorem escL_ne (q : Bool) (l : List UInt8) (h : l ≠ []) : escL q l ≠ [] := by
  match l, h with
  | [c], _ => have := oneB_len q c; intro h0; simp only [escL] at h0; rw [h0] at this; simp at this
  | c :: d :: r, _ =>
    unfold escL
    cases c == 194 && d == 160
    · have := oneB_len q c
      intro h0
      simp at h0
      rw [h0.1] at this; simp at this
    · simp [nbsp]
theorem drop_cons' (s : List UInt8) (i : Nat) (h : i < s.length) : s.drop i = s.getD i 0 :: s.drop (i + 1) := by
  rw [List.drop_eq_getElem_cons h]
  simp [List.getD, List.getElem?_eq_getElem h]
/-- at a place -/
theorem escL_at (q : Bool) (s : List UInt8) (i : Nat) (h : i < s.length) :
    escL q (s.drop i) = if s.getD i 0 = 194 ∧ i + 1 < s.length ∧ s.getD (i + 1) 0 = 160 then nbsp ++ escL q (s.drop (i + 2)) else oneB q (s.getD i 0) ++ escL q (s.drop (i + 1)) := by
  rw [drop_cons' s i h]
  by_cases h1 : i + 1 < s.length
  · rw [drop_cons' s (i + 1) h1]
    simp only [escL]
    by_cases h2 : s.getD i 0 = 194 ∧ s.getD (i + 1) 0 = 160
    · rw [if_pos ⟨h2.1, h1, h2.2⟩, h2.1, h2.2]; rfl
    · rw [if_neg (fun h => h2 ⟨h.1, h.2.2⟩)]
      have : (s.getD i 0 == 194 && s.getD (i + 1) 0 == 160) = false := by
        rw [Bool.eq_false_iff]; intro hc; simp only [Bool.and_eq_true, beq_iff_eq] at hc; exact h2 hc
      rw [this]; rfl
  · rw [if_neg (fun h => h1 h.2.1)]
    have : s.drop (i + 1) = [] := List.drop_eq_nil_of_le (by omega)
    rw [this]
    simp [escL]
theorem escL_end (q : Bool) (s : List UInt8) : escL q (s.drop s.length) = [] := by simp [escL]
/-- how many bytes a byte takes -/
def wB (c : UInt8) : Nat := bif c == 38 then 5 else bif c == 60 then 4 else bif c == 62 then 4 else bif c == 34 then 6 else 1
def wL : List UInt8 → Nat
  | [] => 0
  | c :: r => wB c + wL r
theorem wB_one (c : UInt8) : wB c = (oneB true c).length := by
  unfold wB oneB refB
  cases c == 38 <;> cases c == 60 <;> cases c == 62 <;> cases c == 34 <;> simp
abbrev nb2 : List UInt8 := [194, 160]
theorem cnt_nil : Lib.count [] nb2 = 0 := rfl
theorem cnt_cons (b : UInt8) (l : List UInt8) : Lib.count (b :: l) nb2 = bif nb2.isPrefixOf (b :: l) then 1 + Lib.count (l.drop 1) nb2 else Lib.count l nb2 := by
  cases hp : nb2.isPrefixOf (b :: l) with
  | true =>
    have : Lib.index (b :: l) nb2 = ((0 : Nat) : Int) := by unfold Lib.index; rw [if_pos hp]; rfl
    rw [Lib.count_hit (by simp) this]
    rfl
  | false =>
    rcases (by omega : Lib.index l nb2 < 0 ∨ 0 ≤ Lib.index l nb2) with h | h
    · have h1 : Lib.index l nb2 = -1 := by have := Lib.index_ge l nb2; omega
      have : Lib.index (b :: l) nb2 = -1 := by unfold Lib.index; rw [if_neg (by rw [hp]; simp), if_pos (by rw [h1]; rfl)]
      rw [Lib.count_miss this, cond_false, Lib.count_miss h1]
    · obtain ⟨i, hi⟩ := Int.eq_ofNat_of_zero_le h
      have : Lib.index (b :: l) nb2 = ((i + 1 : Nat) : Int) := by
        unfold Lib.index
        rw [if_neg (by rw [hp]; simp), if_neg (by rw [hi]; simp), hi]
        simp
      rw [Lib.count_hit (by simp) this, cond_false, Lib.count_hit (by simp) hi]
      rw [show i + 1 + nb2.length = (i + nb2.length) + 1 by omega, List.drop_succ_cons]
/-- the size of a value, written -/
theorem size_law : ∀ l : List UInt8, wL l + 4 * Lib.count l nb2 = (escL true l).length
  | [] => rfl
  | [c] => by
    have : nb2.isPrefixOf [c] = false := by simp [List.isPrefixOf]
    rw [cnt_cons, this, cond_false, cnt_nil]
    simp [wL, escL, wB_one]
  | c :: d :: r => by
    have h1 := size_law r
    have h2 := size_law (d :: r)
    rw [cnt_cons]
    have hp : nb2.isPrefixOf (c :: d :: r) = (c == 194 && d == 160) := by
      simp only [List.isPrefixOf, Bool.and_true]
      rw [show ((194 : UInt8) == c) = (c == 194) from BEq.comm, show ((160 : UInt8) == d) = (d == 160) from BEq.comm]
    rw [hp]
    unfold escL
    cases hc : (c == 194 && d == 160) with
    | true =>
      simp only [Bool.and_eq_true, beq_iff_eq] at hc
      obtain ⟨rfl, rfl⟩ := hc
      simp only [cond_true, wL, List.drop_succ_cons, List.drop_zero, List.length_append]
      have : wB 194 = 1 ∧ wB 160 = 1 := ⟨rfl, rfl⟩
      simp [this, nbsp]
      omega
    | false =>
      simp only [cond_false, List.length_append]
      rw [← h2, ← wB_one]
      simp only [wL]
      omega
theorem wL_le (l : List UInt8) : wL l ≤ 6 * l.length := by
  induction l with
  | nil => simp [wL]
  | cons c r ih => have := oneB_len true c; rw [← wB_one] at this; simp [wL]; omega
theorem wL_take (l : List UInt8) (i : Nat) (h : i < l.length) : wL (l.take (i + 1)) = wL (l.take i) + wB (l.getD i 0) := by
  induction l generalizing i with
  | nil => simp at h
  | cons c r ih =>
    cases i with
    | zero => simp [wL]
    | succ i => have := ih i (by simpa using h); simp only [List.take_succ_cons, wL, this]; simp [List.getD]; omega
end Go.Vc

namespace Go.Vc
set_option autoImplicit false
set_option maxRecDepth 10000
theorem upto_app (x r : List UInt8) (n : Nat) (h : n + 1 ≤ x.length) : upto (x ++ r) n = upto x n := by
  unfold upto
  rw [List.take_append_of_le_length h]
/-- a written reference is read as its character -/
theorem rd_ref (nm r : List UInt8) (v : Bool) (k : Nat) (c : UInt8) (hk : nm.length = k + 3) (h0 : nm.getD 0 0 = 38) (h1 : nm.getD 1 0 ≠ 35) (hal : ∀ j < k + 1, anB (nm.getD (j + 1) 0) = true) (hk8 : k + 1 < 8)
    (h59 : nm.getD (k + 2) 0 = 59) (hn : named (upto nm (k + 2)) = ([c], true)) : rdP (nm ++ r) v = ([c], (k : Int) + 3) := by
  have hget : ∀ j, j < k + 3 → (nm ++ r).getD j 0 = nm.getD j 0 := fun j hj => by
    simp only [List.getD]; rw [List.getElem?_append_left (by omega)]
  have hlen : (nm ++ r).length = k + 3 + r.length := by simp [hk]
  have hd : ∀ j, ((nm ++ r).drop 1).getD j 0 = (nm ++ r).getD (j + 1) 0 := fun j => by simp [List.getD, Nat.add_comm]
  have hL : letN 8 ((nm ++ r).drop 1) = k + 1 := by
    have l1 := letN_max (k := 8) (l := (nm ++ r).drop 1) (n := k + 1) (by omega) (by rw [List.length_drop]; omega) (fun j hj => by rw [hd, hget _ (by omega)]; exact hal j hj)
    have l2 := (letN_le 8 ((nm ++ r).drop 1)).2.2
    rcases Nat.lt_or_ge (k + 1) (letN 8 ((nm ++ r).drop 1)) with h | h
    · have := l2 (k + 1) h
      rw [hd, hget _ (by omega), h59] at this
      exact absurd this (by decide)
    · omega
  have hs : semiOk (nm ++ r) (k + 1) = true := by
    unfold semiOk
    rw [upto_app nm r _ (by omega), hn, hget _ (by omega), h59]
    simp
    omega
  unfold rdP
  rw [if_neg (by rw [hget 0 (by omega), h0]; simp; omega), hget 1 (by omega), if_neg h1, hL, if_pos hs, upto_app nm r _ (by omega), hn]
  simp; omega
theorem dec_ref (nm r : List UInt8) (v : Bool) (k : Nat) (c : UInt8) (hk : nm.length = k + 3) (h0 : nm.getD 0 0 = 38) (h1 : nm.getD 1 0 ≠ 35) (hal : ∀ j < k + 1, anB (nm.getD (j + 1) 0) = true) (hk8 : k + 1 < 8)
    (h59 : nm.getD (k + 2) 0 = 59) (hn : named (upto nm (k + 2)) = ([c], true)) : decF (nm ++ r) v = c :: decF r v := by
  have e := rd_ref nm r v k c hk h0 h1 hal hk8 h59 hn
  have hne : nm ++ r ≠ [] := fun h => by have := congrArg List.length h; simp at this; simp [this.1] at hk
  rw [decF_step v hne, e]
  have : ((k : Int) + 3).toNat = nm.length := by omega
  rw [if_neg (by simp; omega)]
  simp only [this, List.drop_left]
  rfl
theorem encN_38 : encN 38 = [38] := by decide +kernel
theorem encN_60 : encN 60 = [60] := by decide +kernel
theorem encN_62 : encN 62 = [62] := by decide +kernel
theorem encN_34 : encN 34 = [34] := by decide +kernel
theorem encN_160 : encN 160 = [194, 160] := by decide +kernel
theorem dec_amp (r : List UInt8) (v : Bool) : decF ([38, 97, 109, 112, 59] ++ r) v = 38 :: decF r v :=
  dec_ref _ r v 2 38 rfl rfl (by decide) (by decide) (by decide) rfl (by decide +kernel)
theorem dec_lt (r : List UInt8) (v : Bool) : decF ([38, 108, 116, 59] ++ r) v = 60 :: decF r v :=
  dec_ref _ r v 1 60 rfl rfl (by decide) (by decide) (by decide) rfl (by decide +kernel)
theorem dec_gt (r : List UInt8) (v : Bool) : decF ([38, 103, 116, 59] ++ r) v = 62 :: decF r v :=
  dec_ref _ r v 1 62 rfl rfl (by decide) (by decide) (by decide) rfl (by decide +kernel)
theorem dec_quot (r : List UInt8) (v : Bool) : decF ([38, 113, 117, 111, 116, 59] ++ r) v = 34 :: decF r v :=
  dec_ref _ r v 3 34 rfl rfl (by decide) (by decide) (by decide) rfl (by decide +kernel)
theorem dec_nbsp (r : List UInt8) (v : Bool) : decF (nbsp ++ r) v = 194 :: 160 :: decF r v := by
  have e : rdP (nbsp ++ r) v = ([194, 160], 6) := by
    have hL : letN 8 ((nbsp ++ r).drop 1) = 4 := by
      show letN 8 (110 :: 98 :: 115 :: 112 :: 59 :: r) = 4
      have a1 : anB 110 = true := by decide
      have a2 : anB 98 = true := by decide
      have a3 : anB 115 = true := by decide
      have a4 : anB 112 = true := by decide
      have a5 : anB 59 = false := by decide
      simp [letN, a1, a2, a3, a4, a5]
    have hn : named (upto (nbsp ++ r) 5) = ([194, 160], true) := by
      rw [upto_app nbsp r _ (by decide)]; decide +kernel
    have hs : semiOk (nbsp ++ r) 4 = true := by
      unfold semiOk
      rw [hn]
      simp [nbsp]
    unfold rdP
    rw [if_neg (by simp [nbsp]), if_neg (by simp [nbsp]), hL, if_pos hs, hn]
    rfl
  have hne : nbsp ++ r ≠ [] := by simp [nbsp]
  rw [decF_step v hne, e, if_neg (by decide)]
  rfl
theorem dec_plain (c : UInt8) (r : List UInt8) (v : Bool) (h : c ≠ 38) : decF (c :: r) v = c :: decF r v := by
  have e : rdP (c :: r) v = ([], 0) := by
    unfold rdP; rw [if_pos (.inr (by simpa using h))]
  rw [decF_step v (by simp), e]
  rfl
theorem dec_one (q v : Bool) (c : UInt8) (r : List UInt8) : decF (oneB q c ++ r) v = c :: decF r v := by
  unfold oneB refB
  by_cases h1 : c = 38
  · subst h1; exact dec_amp r v
  · have e1 : (c == 38) = false := beq_eq_false_iff_ne.2 h1
    rw [e1]
    by_cases h2 : c = 60
    · subst h2; exact dec_lt r v
    · have e2 : (c == 60) = false := beq_eq_false_iff_ne.2 h2
      rw [e2]
      by_cases h3 : c = 62
      · subst h3; exact dec_gt r v
      · have e3 : (c == 62) = false := beq_eq_false_iff_ne.2 h3
        rw [e3]
        cases h4 : (c == 34 && q)
        · exact dec_plain c r v h1
        · have : c = 34 := by simp at h4; exact h4.1
          subst this
          exact dec_quot r v
/-- what was written is read as it was -/
theorem dec_esc (q v : Bool) : ∀ l : List UInt8, decF (escL q l) v = l
  | [] => rfl
  | [c] => by
    have := dec_one q v c []
    rw [List.append_nil] at this
    exact this
  | c :: d :: r => by
    have h1 := dec_esc q v r
    have h2 := dec_esc q v (d :: r)
    unfold escL
    cases h : (c == 194 && d == 160)
    · rw [cond_false, dec_one, h2]
    · simp only [Bool.and_eq_true, beq_iff_eq] at h
      obtain ⟨rfl, rfl⟩ := h
      rw [cond_true, dec_nbsp, h1]
/-- no sign is left -/
theorem esc_free (q : Bool) (cs : List UInt8) (hcs : ∀ c ∈ cs, c = 60 ∨ c = 62 ∨ (c = 34 ∧ q = true)) : ∀ (l : List UInt8), ∀ b ∈ escL q l, cs.contains b = false
  | [], b, hb => by cases hb
  | [c], b, hb => one c b hb
  | c :: d :: r, b, hb => by
    have h1 := esc_free q cs hcs r
    have h2 := esc_free q cs hcs (d :: r)
    unfold escL at hb
    cases h : (c == 194 && d == 160)
    · rw [h, cond_false, List.mem_append] at hb
      rcases hb with hb | hb
      · exact one c b hb
      · exact h2 b hb
    · rw [h, cond_true, List.mem_append] at hb
      rcases hb with hb | hb
      · refine fr b ?_ ?_
        all_goals (revert hb; simp only [nbsp, List.mem_cons, List.not_mem_nil, or_false]; rintro (rfl | rfl | rfl | rfl | rfl | rfl) <;> simp)
      · exact h1 b hb
where
  fr (b : UInt8) (h1 : b ≠ 60 ∧ b ≠ 62) (h2 : b = 34 → q = false) : cs.contains b = false := by
    rw [Bool.eq_false_iff]
    intro h
    rw [List.contains_iff_mem] at h
    rcases hcs b h with e | e | ⟨e, e'⟩
    · exact h1.1 e
    · exact h1.2 e
    · rw [h2 e] at e'; cases e'
  one (c b : UInt8) (hb : b ∈ oneB q c) : cs.contains b = false := by
    unfold oneB refB at hb
    by_cases h1 : c = 38
    · subst h1
      refine fr b ?_ ?_
      all_goals (revert hb; simp; rintro (rfl | rfl | rfl | rfl | rfl) <;> simp)
    · have e1 : (c == 38) = false := beq_eq_false_iff_ne.2 h1
      rw [e1] at hb
      by_cases h2 : c = 60
      · subst h2
        refine fr b ?_ ?_
        all_goals (revert hb; simp; rintro (rfl | rfl | rfl | rfl) <;> simp)
      · have e2 : (c == 60) = false := beq_eq_false_iff_ne.2 h2
        rw [e2] at hb
        by_cases h3 : c = 62
        · subst h3
          refine fr b ?_ ?_
          all_goals (revert hb; simp; rintro (rfl | rfl | rfl | rfl) <;> simp)
        · have e3 : (c == 62) = false := beq_eq_false_iff_ne.2 h3
          rw [e3] at hb
          cases h4 : (c == 34 && q)
          · rw [h4] at hb
            simp at hb
            subst hb
            refine fr b ⟨h2, h3⟩ (fun e => ?_)
            subst e; simpa using h4
          · rw [h4] at hb
            refine fr b ?_ ?_
            all_goals (revert hb; simp; rintro (rfl | rfl | rfl | rfl | rfl | rfl) <;> simp)
end Go.Vc

namespace Go.Vc
open Go.Proofs
set_option linter.unusedVariables false
set_option maxRecDepth 10000
set_option linter.unusedSimpArgs false
set_option maxHeartbeats 8000000
/-- may a byte be in a name; z: the first one -/
def fcB (z : Bool) (c : UInt8) : Bool := (decide (97 ≤ c.toNat) && decide (c.toNat ≤ 122)) || (!z && (c == 45 || (decide (48 ≤ c.toNat) && decide (c.toNat ≤ 57))))
def fairB (s : List UInt8) : Bool := (match s with | [] => false | c :: r => fcB true c && r.all (fcB false)) && decide (s.length ≤ 30)
theorem fc_any {z : Bool} {c : UInt8} (h : fcB z c = true) : fcB false c = true := by
  cases z
  · exact h
  · have key : ∀ k : _root_.Fin 256, fcB true (UInt8.ofNat k.val) = true → fcB false (UInt8.ofNat k.val) = true := by decide +kernel
    have := key ⟨c.toNat, c.toNat_lt⟩
    simp only [UInt8.ofNat_toNat] at this
    exact this h
theorem fc_st {c : UInt8} (h : fcB false c = true) : stP [47, 62, 61] c = true ∧ stP [47, 62] c = true ∧ lowB c = c ∧ blB c = false ∧ c ≠ 62 ∧ c ≠ 47 := by
  have key : ∀ k : _root_.Fin 256, fcB false (UInt8.ofNat k.val) = true → stP [47, 62, 61] (UInt8.ofNat k.val) = true ∧ stP [47, 62] (UInt8.ofNat k.val) = true ∧ lowB (UInt8.ofNat k.val) = UInt8.ofNat k.val ∧ blB (UInt8.ofNat k.val) = false ∧ UInt8.ofNat k.val ≠ 62 ∧ UInt8.ofNat k.val ≠ 47 := by decide +kernel
  have := key ⟨c.toNat, c.toNat_lt⟩
  simp only [UInt8.ofNat_toNat] at this
  exact this h
theorem fc_al {c : UInt8} (h : fcB true c = true) : alB c = true := by
  have key : ∀ k : _root_.Fin 256, fcB true (UInt8.ofNat k.val) = true → alB (UInt8.ofNat k.val) = true := by decide +kernel
  have := key ⟨c.toNat, c.toNat_lt⟩
  simp only [UInt8.ofNat_toNat] at this
  exact this h
theorem fair_all {s : List UInt8} (h : fairB s = true) : ∀ c ∈ s, fcB false c = true := by
  unfold fairB at h
  rw [Bool.and_eq_true] at h
  match s, h with
  | c :: r, h =>
    have h1 := h.1
    rw [Bool.and_eq_true, List.all_eq_true] at h1
    intro d hd
    rcases List.mem_cons.1 hd with e | e
    · subst e; exact fc_any h1.1
    · exact h1.2 d e
theorem fair_ne {s : List UInt8} (h : fairB s = true) : ∃ c r, s = c :: r ∧ fcB true c = true := by
  unfold fairB at h
  rw [Bool.and_eq_true] at h
  match s, h with
  | c :: r, h =>
    have h1 := h.1
    rw [Bool.and_eq_true] at h1
    exact ⟨c, r, rfl, h1.1⟩
theorem fair_low {s : List UInt8} (h : fairB s = true) : lowL s = s := by
  have := fair_all h
  unfold lowL
  rw [List.map_congr_left (g := id) (fun c hc => (fc_st (this c hc)).2.2.1), List.map_id]
/-- an attribute, written -/
def attT (a : AttrD) : List UInt8 := 32 :: a.1 ++ 61 :: 34 :: escL true a.2 ++ [34]
def attsT (l : List AttrD) : List UInt8 := (l.map attT).flatten
theorem attsT_cons (a : AttrD) (l : List AttrD) : attsT (a :: l) = attT a ++ attsT l := by unfold attsT; rw [List.map_cons, List.flatten_cons]
theorem attsT_snoc (l : List AttrD) (a : AttrD) : attsT (l ++ [a]) = attsT l ++ attT a := by unfold attsT; rw [List.map_append, List.flatten_append]; simp
def slT (b : Bool) : List UInt8 := if b = true then [47] else []
theorem upTo_app {p : UInt8 → Bool} {s w r : List UInt8} {i : Nat} {c : UInt8} (h : s.drop i = w ++ c :: r) (hw : ∀ b ∈ w, p b = true) (hc : p c = false) : upTo p s i = i + w.length := by
  unfold upTo twN
  rw [h, List.takeWhile_append_of_pos hw, List.takeWhile_cons, hc]
  simp
theorem getD_drop {s w : List UInt8} {i : Nat} {c : UInt8} (h : s.drop i = c :: w) : s.getD i 0 = c := by
  have := congrArg (fun l => l.getD 0 0) h
  simpa [List.getD] using this
theorem drop_more {s w r : List UInt8} {i : Nat} (h : s.drop i = w ++ r) : s.drop (i + w.length) = r := by
  rw [← List.drop_drop, h, List.drop_left]
theorem lt_drop {s w : List UInt8} {i : Nat} {c : UInt8} (h : s.drop i = c :: w) : i < s.length := by
  rcases Nat.lt_or_ge i s.length with q | q
  · exact q
  · rw [List.drop_eq_nil_of_le q] at h; cases h
theorem take_drop {s w r : List UInt8} {i : Nat} (h : s.drop i = w ++ r) : (s.take (i + w.length)).drop i = w := by
  rw [List.drop_take, h, Nat.add_sub_cancel_left, List.take_left]
theorem ixb_app {w r : List UInt8} {c : UInt8} (hw : c ∉ w) : Lib.indexByte (w ++ c :: r) c = w.length := by
  induction w with
  | nil => unfold Lib.indexByte; simp
  | cons b w ih =>
    have h1 : b ≠ c := fun e => hw (by rw [e]; exact List.mem_cons_self)
    have h2 := ih (fun e => hw (List.mem_cons_of_mem _ e))
    show Lib.indexByte (b :: (w ++ c :: r)) c = _
    unfold Lib.indexByte
    have e1 : (b == c) = false := beq_eq_false_iff_ne.2 h1
    rw [e1, h2]
    simp only [Bool.false_eq_true, if_false]
    have : ((w.length : Int) == -1) = false := beq_eq_false_iff_ne.2 (by omega)
    rw [this]
    simp
theorem addL_new {l : List AttrD} {a : AttrD} (h : ∀ x ∈ l, x.1 ≠ a.1) : addL l a = l ++ [a] := by
  unfold addL
  rw [if_neg]
  intro q
  obtain ⟨x, hx, e⟩ := List.any_eq_true.1 q
  exact h x hx (by unfold hitN at e; exact eq_of_beq e)
theorem runT_back (s : List UInt8) (sf : Bool) (behind : List UInt8) : ∀ (l acc : List AttrD) (x : List UInt8) (f i : Nat), l.length < f → s.drop i = attsT l ++ (slT sf ++ 62 :: behind) → (∀ a ∈ l, fairB a.1 = true) → nod (acc ++ l) →
    ∃ y, runT s f i acc x = (true, i + (attsT l ++ slT sf).length + 1, acc ++ l, sf, y) := by
  intro l
  induction l with
  | nil =>
    intro acc x f i hf hd hfr hn
    obtain ⟨f, rfl⟩ : ∃ g, f = g + 1 := ⟨f - 1, by simp at hf; omega⟩
    refine ⟨x, ?_⟩
    rw [List.append_nil]
    cases sf with
    | false =>
      have hd : s.drop i = [] ++ 62 :: behind := hd
      have u : upTo blB s i = i := upTo_app hd (by intro b hb; cases hb) (by decide)
      have g : s.getD i 0 = 62 := getD_drop hd
      have hl := lt_drop hd
      rw [runT, u, if_neg (by omega), if_pos g]
      rfl
    | true =>
      have hd : s.drop i = [] ++ 47 :: 62 :: behind := hd
      have u : upTo blB s i = i := upTo_app hd (by intro b hb; cases hb) (by decide)
      have g : s.getD i 0 = 47 := getD_drop hd
      have hd2 : s.drop (i + 1) = 62 :: behind := drop_more (w := [47]) hd
      have g2 : s.getD (i + 1) 0 = 62 := getD_drop hd2
      have hl := lt_drop hd2
      rw [runT, u, if_neg (by omega), if_neg (by rw [g]; decide), if_pos g, if_pos ⟨hl, g2⟩]
      rfl
  | cons a l ih =>
    intro acc x f i hf hd hfr hn
    obtain ⟨f, rfl⟩ : ∃ g, f = g + 1 := ⟨f - 1, by simp at hf; omega⟩
    have hfa := hfr a List.mem_cons_self
    obtain ⟨c, r, hcr, hc1⟩ := fair_ne hfa
    have hall := fair_all hfa
    have hc := hall c (by rw [hcr]; exact List.mem_cons_self)
    have hcs := fc_st hc
    generalize hT : attsT l ++ (slT sf ++ 62 :: behind) = T at *
    have hd0 : s.drop i = [32] ++ c :: (r ++ 61 :: 34 :: (escL true a.2 ++ 34 :: T)) := by
      rw [hd, attsT_cons, List.append_assoc, hT]
      unfold attT
      rw [hcr]
      simp
    have u1 : upTo blB s i = i + 1 := upTo_app hd0 (by intro b hb; rw [List.mem_singleton.1 hb]; decide) hcs.2.2.2.1
    have hd1 : s.drop (i + 1) = a.1 ++ 61 :: 34 :: (escL true a.2 ++ 34 :: T) := by
      have := drop_more (w := [32]) hd0
      rw [hcr]; exact this
    have g1 : s.getD (i + 1) 0 = c := getD_drop (by rw [hd1, hcr]; rfl)
    have l1 : i + 1 < s.length := lt_drop (c := c) (by rw [hd1, hcr]; rfl)
    have hd2 : s.drop (i + 1 + 1) = r ++ 61 :: 34 :: (escL true a.2 ++ 34 :: T) := by
      refine drop_more (w := [c]) ?_
      rw [hd1, hcr]; rfl
    have u2 : upTo (stP [47, 62, 61]) s (i + 1 + 1) = i + 1 + a.1.length := by
      rw [upTo_app hd2 (fun b hb => (fc_st (hall b (by rw [hcr]; exact List.mem_cons_of_mem _ hb))).1) (by decide), hcr]
      simp; omega
    have hd3 : s.drop (i + 1 + a.1.length) = [] ++ 61 :: (34 :: (escL true a.2 ++ 34 :: T)) := drop_more hd1
    have u3 : upTo blB s (i + 1 + a.1.length) = i + 1 + a.1.length := upTo_app hd3 (by intro b hb; cases hb) (by decide)
    have g3 : s.getD (i + 1 + a.1.length) 0 = 61 := getD_drop hd3
    have l3 := lt_drop hd3
    have hd4 : s.drop (i + 1 + a.1.length + 1) = [] ++ 34 :: (escL true a.2 ++ 34 :: T) := drop_more (w := [61]) hd3
    have u4 : upTo blB s (i + 1 + a.1.length + 1) = i + 1 + a.1.length + 1 := upTo_app hd4 (by intro b hb; cases hb) (by decide)
    have g4 : s.getD (i + 1 + a.1.length + 1) 0 = 34 := getD_drop hd4
    have l4 := lt_drop hd4
    have hd5 : s.drop (i + 1 + a.1.length + 1 + 1) = escL true a.2 ++ 34 :: T := drop_more (w := [34]) hd4
    have hne : (34 : UInt8) ∉ escL true a.2 := by
      intro h
      have := esc_free true [34] (by intro c hc; rw [List.mem_singleton.1 hc]; right; right; exact ⟨rfl, rfl⟩) a.2 34 h
      simp at this
    have hv : valS s (i + 1 + a.1.length + 1) = (escL true a.2, i + 1 + a.1.length + 1 + (escL true a.2).length + 2, true) := by
      unfold valS
      rw [g4, if_pos (by decide), hd5, ixb_app hne, if_neg (by omega)]
      simp
    have nm : lowL ((s.take (i + 1 + a.1.length)).drop (i + 1)) = a.1 := by
      rw [take_drop hd1, fair_low hfa]
    have hnew : ∀ x ∈ acc, x.1 ≠ a.1 := by
      intro z hz e
      unfold nod at hn
      rw [List.map_append, List.nodup_append] at hn
      exact hn.2.2 z.1 (List.mem_map_of_mem hz) a.1 (List.mem_map_of_mem List.mem_cons_self) e
    have hd6 : s.drop (i + 1 + a.1.length + 1 + (escL true a.2).length + 2) = T := by
      have := drop_more (w := escL true a.2 ++ [34]) (r := T) (i := i + 1 + a.1.length + 1 + 1) (by rw [hd5]; simp)
      rw [← this]; congr 1; simp; omega
    obtain ⟨y, hy⟩ := ih (acc ++ [a]) a.1 f (i + 1 + a.1.length + 1 + (escL true a.2).length + 2) (by simp at hf; omega) hd6 (fun b hb => hfr b (List.mem_cons_of_mem _ hb)) (by rw [List.append_assoc]; exact hn)
    refine ⟨y, ?_⟩
    rw [runT, u1, if_neg (by omega), g1, if_neg hcs.2.2.2.2.1, if_neg hcs.2.2.2.2.2, u2]
    unfold runT.atT
    rw [u3, if_neg (fun q => q ⟨l3, g3⟩), u4, if_neg (by omega), hv, if_neg (fun h => Bool.noConfusion h), nm, dec_esc, addL_new hnew]
    show runT s f _ _ _ = _
    rw [hy, List.append_assoc, attsT_cons]
    unfold attT
    simp
    omega
def tagT (nm : List UInt8) (l : List AttrD) (sf : Bool) : List UInt8 := 60 :: (nm ++ (attsT l ++ slT sf))
theorem tagP_back (nm : List UInt8) (l : List AttrD) (sf : Bool) (behind : List UInt8) (hnm : fairB nm = true) (hl : ∀ a ∈ l, fairB a.1 = true) (hn : nod l) :
    tagP (tagT nm l sf ++ 62 :: behind) = (1, nm, l, sf, ((tagT nm l sf).length : Int) + 1, true) := by
  obtain ⟨c, r, hcr, hc1⟩ := fair_ne hnm
  have hall := fair_all hnm
  have hc := fc_st (hall c (by rw [hcr]; exact List.mem_cons_self))
  generalize hs : tagT nm l sf ++ 62 :: behind = s
  have hs0 : s = 60 :: (nm ++ (attsT l ++ (slT sf ++ 62 :: behind))) := by rw [← hs]; unfold tagT; simp
  have d1 : s.drop 1 = nm ++ (attsT l ++ (slT sf ++ 62 :: behind)) := by rw [hs0]; rfl
  have hb : ¬ begP s [60, 47] = true := by
    unfold begP
    intro h
    rw [Bool.and_eq_true, beq_iff_eq] at h
    have h2 := h.2
    rw [hs0, hcr] at h2
    simp at h2
    exact hc.2.2.2.2.2 h2
  have hb0 : ∃ b w, attsT l ++ (slT sf ++ 62 :: behind) = b :: w ∧ stP [47, 62] b = false := by
    cases l with
    | nil => cases sf
             · exact ⟨62, behind, rfl, by decide⟩
             · exact ⟨47, 62 :: behind, rfl, by decide⟩
    | cons a l => rw [attsT_cons]; unfold attT; exact ⟨32, _, rfl, by decide⟩
  obtain ⟨b, w, hbw, hbs⟩ := hb0
  have u : upTo (stP [47, 62]) s 1 = 1 + nm.length := by
    refine upTo_app (c := b) (r := w) (by rw [d1, hbw]) (fun b hb => (fc_st (hall b hb)).2.1) hbs
  have d2 : s.drop (1 + nm.length) = attsT l ++ (slT sf ++ 62 :: behind) := drop_more d1
  have hlen : l.length ≤ (attsT l).length := by
    clear hl hn hs hs0 d1 hbw u d2 hb
    induction l with
    | nil => exact Nat.zero_le _
    | cons a l ih => rw [attsT_cons]; unfold attT; simp at ih ⊢; omega
  have hsl : s.length = 1 + nm.length + (attsT l).length + (slT sf).length + 1 + behind.length := by rw [hs0]; simp; omega
  obtain ⟨y, hy⟩ := runT_back s sf behind l [] [] (s.length + 1) (1 + nm.length) (by omega) d2 hl hn
  have hrn : rnG s 1 = (true, 1 + nm.length + (attsT l ++ slT sf).length + 1, l, sf, y) := by
    unfold rnG; rw [u, hy]; rfl
  have hnmG : nmG s 1 = nm := by
    unfold nmG; rw [u, take_drop d1, fair_low hnm]
  unfold tagP
  rw [if_neg hb]
  unfold tagAt
  rw [if_neg, hrn, hnmG, if_neg (fun h => Bool.noConfusion h), if_neg (fun h => Bool.noConfusion h)]
  · unfold tagT
    simp; omega
  · rintro (q | q | q | q)
    · rw [hs0] at q; cases q
    · rw [hs0] at q; exact q rfl
    · rw [hs0] at q; rw [hcr] at q; simp at q; 
    · rw [show s.getD 1 0 = c from getD_drop (by rw [d1, hcr]; rfl), fc_al hc1] at q; cases q
end Go.Vc

namespace Go.Vc
open Go.Proofs
set_option linter.unusedVariables false
set_option maxRecDepth 10000
set_option linter.unusedSimpArgs false
set_option maxHeartbeats 8000000
instance gSame8r (k : Int) (n d : List UInt8) (b : Bool) (l : List AttrD) : Fn BB 9 [.agg [.int .i64 k, .str n, .rd attrTy l, .bool b, .str d], .agg [.int .i64 k, .str n, .rd attrTy l, .bool b, .str d]] (l.length ≤ 100000) (.bool true) := by
  refine Fn.intro (N := 38) [0, 1, 2, 3, 4] [] Try.call9 Try.func9 rfl rfl (by kernel_rfl) (fun hpre => ?_)
  repeat' ((conv => whnf); first | (with_reducible rfl) | exact True.intro | (with_reducible exact absTF) | (with_reducible exact absFT) | intro _ | refine And.intro ?_ ?_ | refine Fin.mk ?_ | refine CallG.plain rfl ?_ ?_ | refine CallG.mk rfl ?_ ?_ | refine CallG.nwl rfl ?_ ?_ | refine CallG.nw ?_ ?_ | refine CallF.nwl rfl ?_ ?_ | refine CallF.nw ?_ ?_ | refine AppN.mk ?_ | (refine CallS.q ?_; (conv => whnf); first | refine CallG.plain rfl ?_ ?_ | refine CallG.mk rfl ?_ ?_) | (refine CallS.m ?_; (conv => whnf); refine CallM.mk rfl ?_ ?_) | (refine CallS.h ?_; (conv => whnf); refine CallM.mk rfl ?_ ?_) | (refine CallS.b ?_; (conv => whnf); refine CallM.mk rfl ?_ ?_) | (refine CallS.z ?_; (conv => whnf); refine CallM.mk rfl ?_ ?_))
  all_goals (try (conv => whnf))
  all_goals (try (exact Ob.mk (u8_bnd _)))
  all_goals (try (refine Ob.mk ?_; first | exact True.intro | assumption | omega | (try simp only [decide_eq_true_eq, decide_eq_false_iff_not, beq_iff_eq, beq_eq_false_iff_ne, bne_iff_ne, bne_eq_false_iff_eq, ne_eq, Bool.and_eq_true, Bool.or_eq_true, Bool.not_eq_true, Bool.not_eq_false, Bool.not_eq_true', Bool.not_eq_false', Int.toNat_natCast, Int.not_lt, Int.not_le, UInt8.ofNat_toNat, cast_eq] at *; omega)))
  all_goals (try ((show (_:Int) = _); omega))
  all_goals (try (show tupSV _ = _; with_unfolding_all rfl))
  all_goals (try ((show (_ : Nat) ≤ _); (simp <;> omega)))
  all_goals (try ((show (_ : Nat) ≤ _ ∧ (_ : Nat) ≤ _); (simp <;> omega)))
  all_goals (try ((show (_ : Int) ≤ _ ∧ (_ : Int) ≤ _ ∧ (_ : Int) ≤ _ ∧ (_ : Int) ≤ _); (simp <;> omega)))
  all_goals (try simp; done)
theorem or_ff {a b : Bool} (h : (a || b) = false) : a = false ∧ b = false := Bool.or_eq_false_iff.1 h
end Go.Vc

namespace Go.Vc
open Go.Proofs
set_option linter.unusedVariables false
set_option maxRecDepth 10000
set_option linter.unusedSimpArgs false
set_option maxHeartbeats 2000000
/-- a writer: its own address, its bytes, a flag -/
abbrev wrB (a b : SV) (q : Bool) : Chunk := .bx (some 57) [a, b, .bool q]
abbrev nilP : SV := .v (.pointer none)
instance eCCa (q : Bool) : FnM BB 54 [.loc 0 0] [(0, wrB nilP .nils q)] True (.tup []) [(0, wrB (.loc 0 0) .nils q)] := by
  refine FnM.intro (N := 20) [0, 6, 19] [] 1 Try.call54 Try.func54 rfl rfl (by kernel_rfl) (fun hpre => ?_)
  repeat' ((conv => whnf); first | (with_reducible rfl) | exact True.intro | (with_reducible exact absTF) | (with_reducible exact absFT) | intro _ | refine And.intro ?_ ?_ | refine Fin.mk ?_ | refine CallG.plain rfl ?_ ?_ | refine CallG.mk rfl ?_ ?_ | refine CallG.nwl rfl ?_ ?_ | refine CallG.nw ?_ ?_ | refine CallF.nwl rfl ?_ ?_ | refine CallF.nw ?_ ?_ | refine AppN.mk ?_ | (refine CallS.q ?_; (conv => whnf); first | refine CallG.plain rfl ?_ ?_ | refine CallG.mk rfl ?_ ?_) | (refine CallS.m ?_; (conv => whnf); refine CallM.mk rfl ?_ ?_) | (refine CallS.h ?_; (conv => whnf); refine CallM.mk rfl ?_ ?_) | (refine CallS.b ?_; (conv => whnf); refine CallM.mk rfl ?_ ?_) | (refine CallS.z ?_; (conv => whnf); refine CallM.mk rfl ?_ ?_))
  all_goals (try (conv => whnf))
  all_goals (try (exact Ob.mk (by kernel_rfl)))
  all_goals (try (exact Ob.mk (u8_bnd _)))
  all_goals (try (refine Ob.mk ?_; first | exact True.intro | assumption | omega | (try simp only [decide_eq_true_eq, decide_eq_false_iff_not, beq_iff_eq, beq_eq_false_iff_ne, bne_iff_ne, bne_eq_false_iff_eq, ne_eq, Bool.and_eq_true, Bool.or_eq_true, Bool.not_eq_true, Bool.not_eq_false, Bool.not_eq_true', Bool.not_eq_false', Int.toNat_natCast, Int.not_lt, Int.not_le, UInt8.ofNat_toNat, cast_eq] at *; omega)))
  all_goals (try ((show (_:Int) = _); omega))
  all_goals (try (show tupSV _ = _; with_unfolding_all rfl))
  all_goals (try ((show (_ : Nat) ≤ _); (simp <;> omega)))
  all_goals (try ((show (_ : Nat) ≤ _ ∧ (_ : Nat) ≤ _); (simp <;> omega)))
  all_goals (try ((show (_ : Int) ≤ _ ∧ (_ : Int) ≤ _ ∧ (_ : Int) ≤ _ ∧ (_ : Int) ≤ _); (simp <;> omega)))
instance eCCb (q : Bool) : FnM BB 54 [.loc 0 0] [(0, wrB (.loc 0 0) .nils q)] True (.tup []) [(0, wrB (.loc 0 0) .nils q)] := by
  refine FnM.intro (N := 20) [0, 6, 19] [] 1 Try.call54 Try.func54 rfl rfl (by kernel_rfl) (fun hpre => ?_)
  repeat' ((conv => whnf); first | (with_reducible rfl) | exact True.intro | (with_reducible exact absTF) | (with_reducible exact absFT) | intro _ | refine And.intro ?_ ?_ | refine Fin.mk ?_ | refine CallG.plain rfl ?_ ?_ | refine CallG.mk rfl ?_ ?_ | refine CallG.nwl rfl ?_ ?_ | refine CallG.nw ?_ ?_ | refine CallF.nwl rfl ?_ ?_ | refine CallF.nw ?_ ?_ | refine AppN.mk ?_ | (refine CallS.q ?_; (conv => whnf); first | refine CallG.plain rfl ?_ ?_ | refine CallG.mk rfl ?_ ?_) | (refine CallS.m ?_; (conv => whnf); refine CallM.mk rfl ?_ ?_) | (refine CallS.h ?_; (conv => whnf); refine CallM.mk rfl ?_ ?_) | (refine CallS.b ?_; (conv => whnf); refine CallM.mk rfl ?_ ?_) | (refine CallS.z ?_; (conv => whnf); refine CallM.mk rfl ?_ ?_))
  all_goals (try (conv => whnf))
  all_goals (try (exact Ob.mk (u8_bnd _)))
  all_goals (try (refine Ob.mk ?_; first | exact True.intro | assumption | omega | (try simp only [decide_eq_true_eq, decide_eq_false_iff_not, beq_iff_eq, beq_eq_false_iff_ne, bne_iff_ne, bne_eq_false_iff_eq, ne_eq, Bool.and_eq_true, Bool.or_eq_true, Bool.not_eq_true, Bool.not_eq_false, Bool.not_eq_true', Bool.not_eq_false', Int.toNat_natCast, Int.not_lt, Int.not_le, UInt8.ofNat_toNat, cast_eq] at *; omega)))
  all_goals (try ((show (_:Int) = _); omega))
  all_goals (try (show tupSV _ = _; with_unfolding_all rfl))
  all_goals (try ((show (_ : Nat) ≤ _); (simp <;> omega)))
  all_goals (try ((show (_ : Nat) ≤ _ ∧ (_ : Nat) ≤ _); (simp <;> omega)))
  all_goals (try ((show (_ : Int) ≤ _ ∧ (_ : Int) ≤ _ ∧ (_ : Int) ≤ _ ∧ (_ : Int) ≤ _); (simp <;> omega)))
  all_goals (try (rename_i h; exact absurd h (by decide)))
instance eCCc (q : Bool) (l : List UInt8) : FnM BB 54 [.loc 0 0] [(0, wrB (.loc 0 0) (.own 1) q), (1, .own .byte l)] True (.tup []) [(0, wrB (.loc 0 0) (.own 1) q), (1, .own .byte l)] := by
  refine FnM.intro (N := 20) [0, 6, 19] [] 2 Try.call54 Try.func54 rfl rfl (by kernel_rfl) (fun hpre => ?_)
  repeat' ((conv => whnf); first | (with_reducible rfl) | exact True.intro | (with_reducible exact absTF) | (with_reducible exact absFT) | intro _ | refine And.intro ?_ ?_ | refine Fin.mk ?_ | refine CallG.plain rfl ?_ ?_ | refine CallG.mk rfl ?_ ?_ | refine CallG.nwl rfl ?_ ?_ | refine CallG.nw ?_ ?_ | refine CallF.nwl rfl ?_ ?_ | refine CallF.nw ?_ ?_ | refine AppN.mk ?_ | (refine CallS.q ?_; (conv => whnf); first | refine CallG.plain rfl ?_ ?_ | refine CallG.mk rfl ?_ ?_) | (refine CallS.m ?_; (conv => whnf); refine CallM.mk rfl ?_ ?_) | (refine CallS.h ?_; (conv => whnf); refine CallM.mk rfl ?_ ?_) | (refine CallS.b ?_; (conv => whnf); refine CallM.mk rfl ?_ ?_) | (refine CallS.z ?_; (conv => whnf); refine CallM.mk rfl ?_ ?_))
  all_goals (try (conv => whnf))
  all_goals (try (exact Ob.mk (u8_bnd _)))
  all_goals (try (refine Ob.mk ?_; first | exact True.intro | assumption | omega | (try simp only [decide_eq_true_eq, decide_eq_false_iff_not, beq_iff_eq, beq_eq_false_iff_ne, bne_iff_ne, bne_eq_false_iff_eq, ne_eq, Bool.and_eq_true, Bool.or_eq_true, Bool.not_eq_true, Bool.not_eq_false, Bool.not_eq_true', Bool.not_eq_false', Int.toNat_natCast, Int.not_lt, Int.not_le, UInt8.ofNat_toNat, cast_eq] at *; omega)))
  all_goals (try ((show (_:Int) = _); omega))
  all_goals (try (show tupSV _ = _; with_unfolding_all rfl))
  all_goals (try ((show (_ : Nat) ≤ _); (simp <;> omega)))
  all_goals (try ((show (_ : Nat) ≤ _ ∧ (_ : Nat) ≤ _); (simp <;> omega)))
  all_goals (try ((show (_ : Int) ≤ _ ∧ (_ : Int) ≤ _ ∧ (_ : Int) ≤ _ ∧ (_ : Int) ≤ _); (simp <;> omega)))
  all_goals (try (rename_i h; exact absurd h (by decide)))
instance eWSa (q : Bool) (x : List UInt8) : FnM BB 46 [.loc 0 0, .str x] [(0, wrB nilP .nils q)] (x ≠ [] ∧ x.length ≤ 1000000) (.tup [.int .i64 x.length, .v .nilIface]) [(0, wrB (.loc 0 0) (.own 1) q), (1, .own .byte x)] := by
  refine FnM.intro (N := 19) [0, 1, 4, 5] [] 1 Try.call46 Try.func46 rfl rfl (by kernel_rfl) (fun hpre => ?_)
  obtain ⟨hp1, hp2⟩ := hpre
  repeat' ((conv => whnf); first | (with_reducible rfl) | exact True.intro | (with_reducible exact absTF) | (with_reducible exact absFT) | intro _ | refine And.intro ?_ ?_ | refine Fin.mk ?_ | refine CallG.plain rfl ?_ ?_ | refine CallG.mk rfl ?_ ?_ | refine CallG.nwl rfl ?_ ?_ | refine CallG.nw ?_ ?_ | refine CallF.nwl rfl ?_ ?_ | refine CallF.nw ?_ ?_ | refine AppN.mk ?_ | (refine CallS.q ?_; (conv => whnf); first | refine CallG.plain rfl ?_ ?_ | refine CallG.mk rfl ?_ ?_) | (refine CallS.m ?_; (conv => whnf); refine CallM.mk rfl ?_ ?_) | (refine CallS.h ?_; (conv => whnf); refine CallM.mk rfl ?_ ?_) | (refine CallS.b ?_; (conv => whnf); refine CallM.mk rfl ?_ ?_) | (refine CallS.z ?_; (conv => whnf); refine CallM.mk rfl ?_ ?_))
  all_goals (try (conv => whnf))
  all_goals (try (exact Ob.mk (u8_bnd _)))
  all_goals (try (refine Ob.mk ?_; first | exact True.intro | assumption | omega | (try simp only [decide_eq_true_eq, decide_eq_false_iff_not, beq_iff_eq, beq_eq_false_iff_ne, bne_iff_ne, bne_eq_false_iff_eq, ne_eq, Bool.and_eq_true, Bool.or_eq_true, Bool.not_eq_true, Bool.not_eq_false, Bool.not_eq_true', Bool.not_eq_false', Int.toNat_natCast, Int.not_lt, Int.not_le, UInt8.ofNat_toNat, cast_eq] at *; omega)))
  all_goals (try ((show (_:Int) = _); omega))
  all_goals (try (show tupSV _ = _; with_unfolding_all rfl))
  all_goals (try ((show (_ : Nat) ≤ _); (simp <;> omega)))
  all_goals (try ((show (_ : Nat) ≤ _ ∧ (_ : Nat) ≤ _); (simp <;> omega)))
  all_goals (try ((show (_ : Int) ≤ _ ∧ (_ : Int) ≤ _ ∧ (_ : Int) ≤ _ ∧ (_ : Int) ≤ _); (simp <;> omega)))
instance eWSb (q : Bool) (x : List UInt8) : FnM BB 46 [.loc 0 0, .str x] [(0, wrB (.loc 0 0) .nils q)] (x ≠ [] ∧ x.length ≤ 1000000) (.tup [.int .i64 x.length, .v .nilIface]) [(0, wrB (.loc 0 0) (.own 1) q), (1, .own .byte x)] := by
  refine FnM.intro (N := 19) [0, 1, 4, 5] [] 1 Try.call46 Try.func46 rfl rfl (by kernel_rfl) (fun hpre => ?_)
  obtain ⟨hp1, hp2⟩ := hpre
  repeat' ((conv => whnf); first | (with_reducible rfl) | exact True.intro | (with_reducible exact absTF) | (with_reducible exact absFT) | intro _ | refine And.intro ?_ ?_ | refine Fin.mk ?_ | refine CallG.plain rfl ?_ ?_ | refine CallG.mk rfl ?_ ?_ | refine CallG.nwl rfl ?_ ?_ | refine CallG.nw ?_ ?_ | refine CallF.nwl rfl ?_ ?_ | refine CallF.nw ?_ ?_ | refine AppN.mk ?_ | (refine CallS.q ?_; (conv => whnf); first | refine CallG.plain rfl ?_ ?_ | refine CallG.mk rfl ?_ ?_) | (refine CallS.m ?_; (conv => whnf); refine CallM.mk rfl ?_ ?_) | (refine CallS.h ?_; (conv => whnf); refine CallM.mk rfl ?_ ?_) | (refine CallS.b ?_; (conv => whnf); refine CallM.mk rfl ?_ ?_) | (refine CallS.z ?_; (conv => whnf); refine CallM.mk rfl ?_ ?_))
  all_goals (try (conv => whnf))
  all_goals (try (exact Ob.mk (u8_bnd _)))
  all_goals (try (refine Ob.mk ?_; first | exact True.intro | assumption | omega | (try simp only [decide_eq_true_eq, decide_eq_false_iff_not, beq_iff_eq, beq_eq_false_iff_ne, bne_iff_ne, bne_eq_false_iff_eq, ne_eq, Bool.and_eq_true, Bool.or_eq_true, Bool.not_eq_true, Bool.not_eq_false, Bool.not_eq_true', Bool.not_eq_false', Int.toNat_natCast, Int.not_lt, Int.not_le, UInt8.ofNat_toNat, cast_eq] at *; omega)))
  all_goals (try ((show (_:Int) = _); omega))
  all_goals (try (show tupSV _ = _; with_unfolding_all rfl))
  all_goals (try ((show (_ : Nat) ≤ _); (simp <;> omega)))
  all_goals (try ((show (_ : Nat) ≤ _ ∧ (_ : Nat) ≤ _); (simp <;> omega)))
  all_goals (try ((show (_ : Int) ≤ _ ∧ (_ : Int) ≤ _ ∧ (_ : Int) ≤ _ ∧ (_ : Int) ≤ _); (simp <;> omega)))
instance eWSc (q : Bool) (x l : List UInt8) : FnM BB 46 [.loc 0 0, .str x] [(0, wrB (.loc 0 0) (.own 1) q), (1, .own .byte l)] (l.length ≤ 1000000 ∧ x.length ≤ 1000000) (.tup [.int .i64 x.length, .v .nilIface]) [(0, wrB (.loc 0 0) (.own 1) q), (1, .own .byte (l ++ x))] := by
  refine FnM.intro (N := 19) [0, 1, 4, 5] [] 2 Try.call46 Try.func46 rfl rfl (by kernel_rfl) (fun hpre => ?_)
  obtain ⟨hp1, hp2⟩ := hpre
  repeat' ((conv => whnf); first | (with_reducible rfl) | exact True.intro | (with_reducible exact absTF) | (with_reducible exact absFT) | intro _ | refine And.intro ?_ ?_ | refine Fin.mk ?_ | refine CallG.plain rfl ?_ ?_ | refine CallG.mk rfl ?_ ?_ | refine CallG.nwl rfl ?_ ?_ | refine CallG.nw ?_ ?_ | refine CallF.nwl rfl ?_ ?_ | refine CallF.nw ?_ ?_ | refine AppN.mk ?_ | (refine CallS.q ?_; (conv => whnf); first | refine CallG.plain rfl ?_ ?_ | refine CallG.mk rfl ?_ ?_) | (refine CallS.m ?_; (conv => whnf); refine CallM.mk rfl ?_ ?_) | (refine CallS.h ?_; (conv => whnf); refine CallM.mk rfl ?_ ?_) | (refine CallS.b ?_; (conv => whnf); refine CallM.mk rfl ?_ ?_) | (refine CallS.z ?_; (conv => whnf); refine CallM.mk rfl ?_ ?_))
  all_goals (try (conv => whnf))
  all_goals (try (exact Ob.mk (u8_bnd _)))
  all_goals (try (refine Ob.mk ?_; first | exact True.intro | assumption | omega | (try simp only [decide_eq_true_eq, decide_eq_false_iff_not, beq_iff_eq, beq_eq_false_iff_ne, bne_iff_ne, bne_eq_false_iff_eq, ne_eq, Bool.and_eq_true, Bool.or_eq_true, Bool.not_eq_true, Bool.not_eq_false, Bool.not_eq_true', Bool.not_eq_false', Int.toNat_natCast, Int.not_lt, Int.not_le, UInt8.ofNat_toNat, cast_eq] at *; omega)))
  all_goals (try ((show (_:Int) = _); omega))
  all_goals (try (show tupSV _ = _; with_unfolding_all rfl))
  all_goals (try ((show (_ : Nat) ≤ _); (simp <;> omega)))
  all_goals (try ((show (_ : Nat) ≤ _ ∧ (_ : Nat) ≤ _); (simp <;> omega)))
  all_goals (try ((show (_ : Int) ≤ _ ∧ (_ : Int) ≤ _ ∧ (_ : Int) ≤ _ ∧ (_ : Int) ≤ _); (simp <;> omega)))
theorem eWSn (q : Bool) (p : SV) (hp : p = nilP ∨ p = .loc 0 0) : FnM BB 46 [.loc 0 0, .str []] [(0, wrB p .nils q)] True (.tup [.int .i64 0, .v .nilIface]) [(0, wrB (.loc 0 0) .nils q)] := by
  rcases hp with rfl | rfl
  · refine FnM.intro (N := 19) [0, 1, 4, 5] [] 1 Try.call46 Try.func46 rfl rfl (by kernel_rfl) (fun hpre => ?_)
    repeat' ((conv => whnf); first | (with_reducible rfl) | exact True.intro | (with_reducible exact absTF) | (with_reducible exact absFT) | intro _ | refine And.intro ?_ ?_ | refine Fin.mk ?_ | refine CallG.plain rfl ?_ ?_ | refine CallG.mk rfl ?_ ?_ | refine CallG.nwl rfl ?_ ?_ | refine CallG.nw ?_ ?_ | refine CallF.nwl rfl ?_ ?_ | refine CallF.nw ?_ ?_ | refine AppN.nl (by kernel_rfl) rfl ?_ | (refine CallS.q ?_; (conv => whnf); first | refine CallG.plain rfl ?_ ?_ | refine CallG.mk rfl ?_ ?_) | (refine CallS.m ?_; (conv => whnf); refine CallM.mk rfl ?_ ?_) | (refine CallS.h ?_; (conv => whnf); refine CallM.mk rfl ?_ ?_) | (refine CallS.b ?_; (conv => whnf); refine CallM.mk rfl ?_ ?_) | (refine CallS.z ?_; (conv => whnf); refine CallM.mk rfl ?_ ?_))
    all_goals (try (conv => whnf))
    all_goals (try (exact Ob.mk (u8_bnd _)))
    all_goals (try (refine Ob.mk ?_; first | exact True.intro | assumption | omega | (try simp only [decide_eq_true_eq, decide_eq_false_iff_not, beq_iff_eq, beq_eq_false_iff_ne, bne_iff_ne, bne_eq_false_iff_eq, ne_eq, Bool.and_eq_true, Bool.or_eq_true, Bool.not_eq_true, Bool.not_eq_false, Bool.not_eq_true', Bool.not_eq_false', Int.toNat_natCast, Int.not_lt, Int.not_le, UInt8.ofNat_toNat, cast_eq] at *; omega)))
    all_goals (try ((show (_:Int) = _); omega))
    all_goals (try (show tupSV _ = _; with_unfolding_all rfl))
    all_goals (try ((show (_ : Nat) ≤ _); (simp <;> omega)))
    all_goals (try ((show (_ : Nat) ≤ _ ∧ (_ : Nat) ≤ _); (simp <;> omega)))
    all_goals (try ((show (_ : Int) ≤ _ ∧ (_ : Int) ≤ _ ∧ (_ : Int) ≤ _ ∧ (_ : Int) ≤ _); (simp <;> omega)))
    all_goals (try rfl)
  · refine FnM.intro (N := 19) [0, 1, 4, 5] [] 1 Try.call46 Try.func46 rfl rfl (by kernel_rfl) (fun hpre => ?_)
    repeat' ((conv => whnf); first | (with_reducible rfl) | exact True.intro | (with_reducible exact absTF) | (with_reducible exact absFT) | intro _ | refine And.intro ?_ ?_ | refine Fin.mk ?_ | refine CallG.plain rfl ?_ ?_ | refine CallG.mk rfl ?_ ?_ | refine CallG.nwl rfl ?_ ?_ | refine CallG.nw ?_ ?_ | refine CallF.nwl rfl ?_ ?_ | refine CallF.nw ?_ ?_ | refine AppN.nl (by kernel_rfl) rfl ?_ | (refine CallS.q ?_; (conv => whnf); first | refine CallG.plain rfl ?_ ?_ | refine CallG.mk rfl ?_ ?_) | (refine CallS.m ?_; (conv => whnf); refine CallM.mk rfl ?_ ?_) | (refine CallS.h ?_; (conv => whnf); refine CallM.mk rfl ?_ ?_) | (refine CallS.b ?_; (conv => whnf); refine CallM.mk rfl ?_ ?_) | (refine CallS.z ?_; (conv => whnf); refine CallM.mk rfl ?_ ?_))
    all_goals (try (conv => whnf))
    all_goals (try (exact Ob.mk (u8_bnd _)))
    all_goals (try (refine Ob.mk ?_; first | exact True.intro | assumption | omega | (try simp only [decide_eq_true_eq, decide_eq_false_iff_not, beq_iff_eq, beq_eq_false_iff_ne, bne_iff_ne, bne_eq_false_iff_eq, ne_eq, Bool.and_eq_true, Bool.or_eq_true, Bool.not_eq_true, Bool.not_eq_false, Bool.not_eq_true', Bool.not_eq_false', Int.toNat_natCast, Int.not_lt, Int.not_le, UInt8.ofNat_toNat, cast_eq] at *; omega)))
    all_goals (try ((show (_:Int) = _); omega))
    all_goals (try (show tupSV _ = _; with_unfolding_all rfl))
    all_goals (try ((show (_ : Nat) ≤ _); (simp <;> omega)))
    all_goals (try ((show (_ : Nat) ≤ _ ∧ (_ : Nat) ≤ _); (simp <;> omega)))
    all_goals (try ((show (_ : Int) ≤ _ ∧ (_ : Int) ≤ _ ∧ (_ : Int) ≤ _ ∧ (_ : Int) ≤ _); (simp <;> omega)))
    all_goals (try rfl)
end Go.Vc

namespace Go.Vc
open Go.Proofs
set_option linter.unusedVariables false
set_option maxRecDepth 10000
set_option linter.unusedSimpArgs false
set_option maxHeartbeats 4000000
instance ePutA (q : Bool) (x y : List UInt8) : FnM BB 40 [.loc 0 0, .str x, .str y] [(0, wrB nilP .nils q)] (y ≠ [] ∧ x.length ≤ 1000000 ∧ y.length ≤ 1000000) (.tup []) [(0, wrB (.loc 0 0) (.own 1) q), (1, .own .byte (x ++ y))] := by
  refine FnM.intro (N := 16) [0, 1, 2] [] 1 Try.call40 Try.func40 rfl rfl (by kernel_rfl) (fun hpre => ?_)
  obtain ⟨hp1, hp2, hp3⟩ := hpre
  by_cases hx : x = []
  · subst hx
    haveI := eWSn q nilP (.inl rfl)
    repeat' ((conv => whnf); first | (with_reducible rfl) | exact True.intro | (with_reducible exact absTF) | (with_reducible exact absFT) | intro _ | refine And.intro ?_ ?_ | refine Fin.mk ?_ | refine CallG.plain rfl ?_ ?_ | refine CallG.mk rfl ?_ ?_ | refine CallG.nwl rfl ?_ ?_ | refine CallG.nw ?_ ?_ | refine CallF.nwl rfl ?_ ?_ | refine CallF.nw ?_ ?_ | refine AppN.mk ?_ | (refine CallS.q ?_; (conv => whnf); first | refine CallG.plain rfl ?_ ?_ | refine CallG.mk rfl ?_ ?_) | (refine CallS.m ?_; (conv => whnf); refine CallM.mk rfl ?_ ?_) | (refine CallS.h ?_; (conv => whnf); refine CallM.mk rfl ?_ ?_) | (refine CallS.b ?_; (conv => whnf); refine CallM.mk rfl ?_ ?_) | (refine CallS.z ?_; (conv => whnf); refine CallM.mk rfl ?_ ?_))
    all_goals (try (conv => whnf))
    all_goals (try (exact Ob.mk (u8_bnd _)))
    all_goals (try (refine Ob.mk ?_; first | exact True.intro | assumption | omega | (try simp only [decide_eq_true_eq, decide_eq_false_iff_not, beq_iff_eq, beq_eq_false_iff_ne, bne_iff_ne, bne_eq_false_iff_eq, ne_eq, Bool.and_eq_true, Bool.or_eq_true, Bool.not_eq_true, Bool.not_eq_false, Bool.not_eq_true', Bool.not_eq_false', Int.toNat_natCast, Int.not_lt, Int.not_le, UInt8.ofNat_toNat, cast_eq] at *; omega)))
    all_goals (try ((show (_:Int) = _); omega))
    all_goals (try (show tupSV _ = _; with_unfolding_all rfl))
    all_goals (try ((show (_ : Nat) ≤ _); (simp <;> omega)))
    all_goals (try ((show (_ : Nat) ≤ _ ∧ (_ : Nat) ≤ _); (simp <;> omega)))
    all_goals (try ((show (_ : Int) ≤ _ ∧ (_ : Int) ≤ _ ∧ (_ : Int) ≤ _ ∧ (_ : Int) ≤ _); (simp <;> omega)))
    all_goals (first | exact ⟨hp1, hp3⟩ | rfl | skip)
  · repeat' ((conv => whnf); first | (with_reducible rfl) | exact True.intro | (with_reducible exact absTF) | (with_reducible exact absFT) | intro _ | refine And.intro ?_ ?_ | refine Fin.mk ?_ | refine CallG.plain rfl ?_ ?_ | refine CallG.mk rfl ?_ ?_ | refine CallG.nwl rfl ?_ ?_ | refine CallG.nw ?_ ?_ | refine CallF.nwl rfl ?_ ?_ | refine CallF.nw ?_ ?_ | refine AppN.mk ?_ | (refine CallS.q ?_; (conv => whnf); first | refine CallG.plain rfl ?_ ?_ | refine CallG.mk rfl ?_ ?_) | (refine CallS.m ?_; (conv => whnf); refine CallM.mk rfl ?_ ?_) | (refine CallS.h ?_; (conv => whnf); refine CallM.mk rfl ?_ ?_) | (refine CallS.b ?_; (conv => whnf); refine CallM.mk rfl ?_ ?_) | (refine CallS.z ?_; (conv => whnf); refine CallM.mk rfl ?_ ?_))
    all_goals (try (conv => whnf))
    all_goals (try (exact Ob.mk (u8_bnd _)))
    all_goals (try (refine Ob.mk ?_; first | exact True.intro | assumption | omega | (try simp only [decide_eq_true_eq, decide_eq_false_iff_not, beq_iff_eq, beq_eq_false_iff_ne, bne_iff_ne, bne_eq_false_iff_eq, ne_eq, Bool.and_eq_true, Bool.or_eq_true, Bool.not_eq_true, Bool.not_eq_false, Bool.not_eq_true', Bool.not_eq_false', Int.toNat_natCast, Int.not_lt, Int.not_le, UInt8.ofNat_toNat, cast_eq] at *; omega)))
    all_goals (try ((show (_:Int) = _); omega))
    all_goals (try (show tupSV _ = _; with_unfolding_all rfl))
    all_goals (try ((show (_ : Nat) ≤ _); (simp <;> omega)))
    all_goals (try ((show (_ : Nat) ≤ _ ∧ (_ : Nat) ≤ _); (simp <;> omega)))
    all_goals (try ((show (_ : Int) ≤ _ ∧ (_ : Int) ≤ _ ∧ (_ : Int) ≤ _ ∧ (_ : Int) ≤ _); (simp <;> omega)))
    all_goals (first | exact ⟨hx, hp2⟩ | exact ⟨hp2, hp3⟩ | skip)
instance ePutB (q : Bool) (x : List UInt8) : FnM BB 40 [.loc 0 0, .str x, .str []] [(0, wrB nilP .nils q)] (x ≠ [] ∧ x.length ≤ 1000000) (.tup []) [(0, wrB (.loc 0 0) (.own 1) q), (1, .own .byte x)] := by
  refine FnM.intro (N := 16) [0, 1, 2] [] 1 Try.call40 Try.func40 rfl rfl (by kernel_rfl) (fun hpre => ?_)
  obtain ⟨hp1, hp2⟩ := hpre
  repeat' ((conv => whnf); first | (with_reducible rfl) | exact True.intro | (with_reducible exact absTF) | (with_reducible exact absFT) | intro _ | refine And.intro ?_ ?_ | refine Fin.mk ?_ | refine CallG.plain rfl ?_ ?_ | refine CallG.mk rfl ?_ ?_ | refine CallG.nwl rfl ?_ ?_ | refine CallG.nw ?_ ?_ | refine CallF.nwl rfl ?_ ?_ | refine CallF.nw ?_ ?_ | refine AppN.mk ?_ | (refine CallS.q ?_; (conv => whnf); first | refine CallG.plain rfl ?_ ?_ | refine CallG.mk rfl ?_ ?_) | (refine CallS.m ?_; (conv => whnf); refine CallM.mk rfl ?_ ?_) | (refine CallS.h ?_; (conv => whnf); refine CallM.mk rfl ?_ ?_) | (refine CallS.b ?_; (conv => whnf); refine CallM.mk rfl ?_ ?_) | (refine CallS.z ?_; (conv => whnf); refine CallM.mk rfl ?_ ?_))
  all_goals (try (conv => whnf))
  all_goals (try (exact Ob.mk (u8_bnd _)))
  all_goals (try (refine Ob.mk ?_; first | exact True.intro | assumption | omega | (try simp only [decide_eq_true_eq, decide_eq_false_iff_not, beq_iff_eq, beq_eq_false_iff_ne, bne_iff_ne, bne_eq_false_iff_eq, ne_eq, Bool.and_eq_true, Bool.or_eq_true, Bool.not_eq_true, Bool.not_eq_false, Bool.not_eq_true', Bool.not_eq_false', Int.toNat_natCast, Int.not_lt, Int.not_le, UInt8.ofNat_toNat, cast_eq] at *; omega)))
  all_goals (try ((show (_:Int) = _); omega))
  all_goals (try (show tupSV _ = _; with_unfolding_all rfl))
  all_goals (try ((show (_ : Nat) ≤ _); (simp <;> omega)))
  all_goals (try ((show (_ : Nat) ≤ _ ∧ (_ : Nat) ≤ _); (simp <;> omega)))
  all_goals (try ((show (_ : Int) ≤ _ ∧ (_ : Int) ≤ _ ∧ (_ : Int) ≤ _ ∧ (_ : Int) ≤ _); (simp <;> omega)))
  all_goals (first | exact ⟨hp1, hp2⟩ | simp | skip)
instance ePutC (q : Bool) (x y l : List UInt8) : FnM BB 40 [.loc 0 0, .str x, .str y] [(0, wrB (.loc 0 0) (.own 1) q), (1, .own .byte l)] (l.length + x.length ≤ 1000000 ∧ y.length ≤ 1000000) (.tup []) [(0, wrB (.loc 0 0) (.own 1) q), (1, .own .byte (l ++ x ++ y))] := by
  refine FnM.intro (N := 16) [0, 1, 2] [] 2 Try.call40 Try.func40 rfl rfl (by kernel_rfl) (fun hpre => ?_)
  obtain ⟨hp1, hp2⟩ := hpre
  repeat' ((conv => whnf); first | (with_reducible rfl) | exact True.intro | (with_reducible exact absTF) | (with_reducible exact absFT) | intro _ | refine And.intro ?_ ?_ | refine Fin.mk ?_ | refine CallG.plain rfl ?_ ?_ | refine CallG.mk rfl ?_ ?_ | refine CallG.nwl rfl ?_ ?_ | refine CallG.nw ?_ ?_ | refine CallF.nwl rfl ?_ ?_ | refine CallF.nw ?_ ?_ | refine AppN.mk ?_ | (refine CallS.q ?_; (conv => whnf); first | refine CallG.plain rfl ?_ ?_ | refine CallG.mk rfl ?_ ?_) | (refine CallS.m ?_; (conv => whnf); refine CallM.mk rfl ?_ ?_) | (refine CallS.h ?_; (conv => whnf); refine CallM.mk rfl ?_ ?_) | (refine CallS.b ?_; (conv => whnf); refine CallM.mk rfl ?_ ?_) | (refine CallS.z ?_; (conv => whnf); refine CallM.mk rfl ?_ ?_))
  all_goals (try (conv => whnf))
  all_goals (try (exact Ob.mk (u8_bnd _)))
  all_goals (try (refine Ob.mk ?_; first | exact True.intro | assumption | omega | (try simp only [decide_eq_true_eq, decide_eq_false_iff_not, beq_iff_eq, beq_eq_false_iff_ne, bne_iff_ne, bne_eq_false_iff_eq, ne_eq, Bool.and_eq_true, Bool.or_eq_true, Bool.not_eq_true, Bool.not_eq_false, Bool.not_eq_true', Bool.not_eq_false', Int.toNat_natCast, Int.not_lt, Int.not_le, UInt8.ofNat_toNat, cast_eq] at *; omega)))
  all_goals (try ((show (_:Int) = _); omega))
  all_goals (try (show tupSV _ = _; with_unfolding_all rfl))
  all_goals (try ((show (_ : Nat) ≤ _); (simp <;> omega)))
  all_goals (try ((show (_ : Nat) ≤ _ ∧ (_ : Nat) ≤ _); (simp <;> omega)))
  all_goals (try ((show (_ : Int) ≤ _ ∧ (_ : Int) ≤ _ ∧ (_ : Int) ≤ _ ∧ (_ : Int) ≤ _); (simp <;> omega)))
  all_goals (try (constructor <;> (try simp) <;> omega))
theorem ePutN (q : Bool) : FnM BB 40 [.loc 0 0, .str [], .str []] [(0, wrB nilP .nils q)] True (.tup []) [(0, wrB (.loc 0 0) .nils q)] := by
  refine FnM.intro (N := 16) [0, 1, 2] [] 1 Try.call40 Try.func40 rfl rfl (by kernel_rfl) (fun hpre => ?_)
  haveI := eWSn q nilP (.inl rfl)
  haveI := eWSn q (.loc 0 0) (.inr rfl)
  repeat' ((conv => whnf); first | (with_reducible rfl) | exact True.intro | (with_reducible exact absTF) | (with_reducible exact absFT) | intro _ | refine And.intro ?_ ?_ | refine Fin.mk ?_ | refine CallG.plain rfl ?_ ?_ | refine CallG.mk rfl ?_ ?_ | refine CallG.nwl rfl ?_ ?_ | refine CallG.nw ?_ ?_ | refine CallF.nwl rfl ?_ ?_ | refine CallF.nw ?_ ?_ | refine AppN.mk ?_ | (refine CallS.q ?_; (conv => whnf); first | refine CallG.plain rfl ?_ ?_ | refine CallG.mk rfl ?_ ?_) | (refine CallS.m ?_; (conv => whnf); refine CallM.mk rfl ?_ ?_) | (refine CallS.h ?_; (conv => whnf); refine CallM.mk rfl ?_ ?_) | (refine CallS.b ?_; (conv => whnf); refine CallM.mk rfl ?_ ?_) | (refine CallS.z ?_; (conv => whnf); refine CallM.mk rfl ?_ ?_))
  all_goals (try (conv => whnf))
  all_goals (try (exact Ob.mk (u8_bnd _)))
  all_goals (try (refine Ob.mk ?_; first | exact True.intro | assumption | omega | (try simp only [decide_eq_true_eq, decide_eq_false_iff_not, beq_iff_eq, beq_eq_false_iff_ne, bne_iff_ne, bne_eq_false_iff_eq, ne_eq, Bool.and_eq_true, Bool.or_eq_true, Bool.not_eq_true, Bool.not_eq_false, Bool.not_eq_true', Bool.not_eq_false', Int.toNat_natCast, Int.not_lt, Int.not_le, UInt8.ofNat_toNat, cast_eq] at *; omega)))
  all_goals (try ((show (_:Int) = _); omega))
  all_goals (try (show tupSV _ = _; with_unfolding_all rfl))
  all_goals (try ((show (_ : Nat) ≤ _); (simp <;> omega)))
  all_goals (try ((show (_ : Nat) ≤ _ ∧ (_ : Nat) ≤ _); (simp <;> omega)))
  all_goals (try ((show (_ : Int) ≤ _ ∧ (_ : Int) ≤ _ ∧ (_ : Int) ≤ _ ∧ (_ : Int) ≤ _); (simp <;> omega)))
instance eStr (q : Bool) (l : List UInt8) : FnM BB 41 [.loc 0 0] [(0, wrB (.loc 0 0) (.own 1) q), (1, .own .byte l)] (l ≠ []) (.str l) [(0, wrB (.loc 0 0) .und q)] := by
  refine FnM.intro (N := 14) [0, 2] [(1, [0, 0, 0, 4, 4, 0, 0, 0, 4, 4, 4, 4])] 2 Try.call41 Try.func41 rfl rfl (by kernel_rfl) (fun hpre => ?_)
  repeat' ((conv => whnf); first | (with_reducible rfl) | exact True.intro | (with_reducible exact absTF) | (with_reducible exact absFT) | intro _ | refine And.intro ?_ ?_ | refine Fin.mk ?_ | refine CallG.plain rfl ?_ ?_ | refine CallG.mk rfl ?_ ?_ | refine CallG.nwl rfl ?_ ?_ | refine CallG.nw ?_ ?_ | refine CallF.nwl rfl ?_ ?_ | refine CallF.nw ?_ ?_ | refine AppN.mk ?_ | (refine CallS.q ?_; (conv => whnf); first | refine CallG.plain rfl ?_ ?_ | refine CallG.mk rfl ?_ ?_) | (refine CallS.m ?_; (conv => whnf); refine CallM.mk rfl ?_ ?_) | (refine CallS.h ?_; (conv => whnf); refine CallM.mk rfl ?_ ?_) | (refine CallS.b ?_; (conv => whnf); refine CallM.mk rfl ?_ ?_) | (refine CallS.z ?_; (conv => whnf); refine CallM.mk rfl ?_ ?_))
  all_goals (try (conv => whnf))
  all_goals (try (exact Ob.mk (u8_bnd _)))
  all_goals (try (refine Ob.mk ?_; first | exact True.intro | assumption | omega | (try simp only [decide_eq_true_eq, decide_eq_false_iff_not, beq_iff_eq, beq_eq_false_iff_ne, bne_iff_ne, bne_eq_false_iff_eq, ne_eq, Bool.and_eq_true, Bool.or_eq_true, Bool.not_eq_true, Bool.not_eq_false, Bool.not_eq_true', Bool.not_eq_false', Int.toNat_natCast, Int.not_lt, Int.not_le, UInt8.ofNat_toNat, cast_eq] at *; omega)))
  all_goals (try ((show (_:Int) = _); omega))
  all_goals (try (show tupSV _ = _; with_unfolding_all rfl))
  all_goals (try ((show (_ : Nat) ≤ _); (simp <;> omega)))
  all_goals (try ((show (_ : Nat) ≤ _ ∧ (_ : Nat) ≤ _); (simp <;> omega)))
  all_goals (try ((show (_ : Int) ≤ _ ∧ (_ : Int) ≤ _ ∧ (_ : Int) ≤ _ ∧ (_ : Int) ≤ _); (simp <;> omega)))
  all_goals (exact ⟨rfl, hpre⟩)
instance eStrN (q : Bool) : FnM BB 41 [.loc 0 0] [(0, wrB (.loc 0 0) .nils q)] True (.str []) [(0, wrB (.loc 0 0) .nils q)] := by
  refine FnM.intro (N := 14) [0, 2] [(1, [0, 0, 0, 4, 4, 0, 0, 0, 4, 4, 4, 4])] 2 Try.call41 Try.func41 rfl rfl (by kernel_rfl) (fun hpre => ?_)
  repeat' ((conv => whnf); first | (with_reducible rfl) | exact True.intro | (with_reducible exact absTF) | (with_reducible exact absFT) | intro _ | refine And.intro ?_ ?_ | refine Fin.mk ?_ | refine CallG.plain rfl ?_ ?_ | refine CallG.mk rfl ?_ ?_ | refine CallG.nwl rfl ?_ ?_ | refine CallG.nw ?_ ?_ | refine CallF.nwl rfl ?_ ?_ | refine CallF.nw ?_ ?_ | refine AppN.mk ?_ | (refine CallS.q ?_; (conv => whnf); first | refine CallG.plain rfl ?_ ?_ | refine CallG.mk rfl ?_ ?_) | (refine CallS.m ?_; (conv => whnf); refine CallM.mk rfl ?_ ?_) | (refine CallS.h ?_; (conv => whnf); refine CallM.mk rfl ?_ ?_) | (refine CallS.b ?_; (conv => whnf); refine CallM.mk rfl ?_ ?_) | (refine CallS.z ?_; (conv => whnf); refine CallM.mk rfl ?_ ?_))
  all_goals (try (conv => whnf))
  all_goals (try (exact Ob.mk (u8_bnd _)))
  all_goals (try (refine Ob.mk ?_; first | exact True.intro | assumption | omega | (try simp only [decide_eq_true_eq, decide_eq_false_iff_not, beq_iff_eq, beq_eq_false_iff_ne, bne_iff_ne, bne_eq_false_iff_eq, ne_eq, Bool.and_eq_true, Bool.or_eq_true, Bool.not_eq_true, Bool.not_eq_false, Bool.not_eq_true', Bool.not_eq_false', Int.toNat_natCast, Int.not_lt, Int.not_le, UInt8.ofNat_toNat, cast_eq] at *; omega)))
  all_goals (try ((show (_:Int) = _); omega))
  all_goals (try (show tupSV _ = _; with_unfolding_all rfl))
  all_goals (try ((show (_ : Nat) ≤ _); (simp <;> omega)))
  all_goals (try ((show (_ : Nat) ≤ _ ∧ (_ : Nat) ≤ _); (simp <;> omega)))
  all_goals (try ((show (_ : Int) ≤ _ ∧ (_ : Int) ≤ _ ∧ (_ : Int) ≤ _ ∧ (_ : Int) ≤ _); (simp <;> omega)))
end Go.Vc
