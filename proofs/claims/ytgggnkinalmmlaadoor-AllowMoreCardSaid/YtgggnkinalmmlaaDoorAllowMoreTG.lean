/- A part of the proof: lemmas and walks that the last text of the claim joins; no condition. -/
import Derived.Test.YtgggnkinalmmlaaDoorAllowMoreTF
import Derived.Lib.DecodeN
import Derived.Lib.TrimU
import Derived.Shelf.SlGeneric
import Derived.Shelf.Spec.DecodeRune
import Derived.Shelf.Strings.IndexAny
import Derived.Shelf.Strings.IndexAnyAll
import Derived.Test.YtgggnkinalmmlaaDoorProg
import Derived.Shelf.Spec.SlicesGrow
import Derived.Shelf.Unicode.ValidAny
import Derived.Lib.LaidU8T
import Derived.PinnedBridge
import Derived.Test.YtgggnkinalmmlaaDoorRows
set_option linter.unusedVariables false
set_option linter.unusedSimpArgs false
namespace Go.Vc
open Go.Proofs
open Go.Vc.W
set_option linter.unusedVariables false
set_option maxRecDepth 10000
set_option linter.unusedSimpArgs false
set_option maxHeartbeats 4000000
theorem mget_mem {α : Type} {κ : KTy} {k : κ.T} {v : α} : ∀ {l : List (κ.T × α)}, mget κ l k = some v → (k, v) ∈ l := by
  intro l
  induction l with
  | nil => intro h; cases h
  | cons x r ih =>
    intro h
    obtain ⟨k', v'⟩ := x
    unfold mget at h
    cases hb : κ.beq k k' with
    | true =>
      rw [hb] at h
      cases h
      rw [(kbeq_iff k k').1 hb]
      exact List.mem_cons_self
    | false =>
      rw [hb] at h
      exact List.mem_cons_of_mem _ (ih h)
theorem own_len {nm o : List UInt8} (h : mget .w ownT nm = some o) : o.length ≤ 1000 := by
  have key : ∀ p ∈ ownT, p.2.length ≤ 1000 := by decide
  exact key _ (mget_mem h)
instance kOwn : FnM BB 93 [] [] True (.mref 0) [(0, .mp .w .str ownT)] := by
  refine FnM.intro (N := 12) [0] [] 0 Tryd.call93 Tryd.func93 rfl rfl (by kernel_rfl) (fun hpre => ?_)
  repeat' ((conv => whnf); first | (with_reducible rfl) | exact True.intro | (with_reducible exact absTF) | (with_reducible exact absFT) | intro _ | refine And.intro ?_ ?_ | refine Fin.mk ?_ | refine CallG.plain rfl ?_ ?_ | refine CallG.mk rfl ?_ ?_ | refine CallG.nwl rfl ?_ ?_ | refine CallG.nw ?_ ?_ | refine CallF.nwl rfl ?_ ?_ | refine CallF.nw ?_ ?_ | refine AppN.mk ?_ | (refine CallS.q ?_; (conv => whnf); first | refine CallG.plain rfl ?_ ?_ | refine CallG.mk rfl ?_ ?_) | (refine CallS.m ?_; (conv => whnf); refine CallM.mk rfl ?_ ?_) | (refine CallS.h ?_; (conv => whnf); refine CallM.mk rfl ?_ ?_) | (refine CallS.b ?_; (conv => whnf); refine CallM.mk rfl ?_ ?_) | (refine CallS.z ?_; (conv => whnf); refine CallM.mk rfl ?_ ?_))
  all_goals (try (conv => whnf))
  all_goals (try (exact Ob.mk (u8_bnd _)))
  all_goals (try (refine Ob.mk ?_; first | exact True.intro | assumption | omega | (try simp only [decide_eq_true_eq, decide_eq_false_iff_not, beq_iff_eq, beq_eq_false_iff_ne, bne_iff_ne, bne_eq_false_iff_eq, ne_eq, Bool.and_eq_true, Bool.or_eq_true, Bool.not_eq_true, Bool.not_eq_false, Bool.not_eq_true', Bool.not_eq_false', Int.toNat_natCast, Int.not_lt, Int.not_le, UInt8.ofNat_toNat, cast_eq] at *; omega)))
  all_goals (try ((show (_:Int) = _); omega))
  all_goals (try (show tupSV _ = _; with_unfolding_all rfl))
  all_goals (try ((show (_ : Nat) ≤ _); (simp <;> omega)))
  all_goals (try ((show (_ : Nat) ≤ _ ∧ (_ : Nat) ≤ _); (simp <;> omega)))
  all_goals (try ((show (_ : Int) ≤ _ ∧ (_ : Int) ≤ _ ∧ (_ : Int) ≤ _ ∧ (_ : Int) ≤ _); (simp <;> omega)))
  exact congrArg (Chunk.mp KTy.w Ty.str) (by kernel_rfl)
def restP (s : Int) (nn nm : List UInt8) : Bool := if nm = vbT ∨ nm = parT then s == 1 else if nm = encT then s == 2 && nn == axT else true
def fitsP (k s : Int) (nn nm : List UInt8) : Bool :=
  k == 1 && match mget (α := List UInt8) .w ownT nm with
  | some o => s == 0 && (spl o).contains nn
  | none => restP s nn nm
theorem fits_k {k s : Int} {nn nm : List UInt8} (h : ¬ k = 1) : fitsP k s nn nm = false := by rw [fitsP, beq_eq_false_iff_ne.mpr h]; rfl
theorem fits_s {s : Int} {nn nm o : List UInt8} (h : mget .w ownT nm = some o) : fitsP 1 s nn nm = (s == 0 && (spl o).contains nn) := by
  rw [fitsP, h]; rfl
theorem fits_n {s : Int} {nn nm : List UInt8} (h : mget (α := List UInt8) .w ownT nm = none) : fitsP 1 s nn nm = restP s nn nm := by
  rw [fitsP, h]; rfl
theorem rest_v {s : Int} {nn nm : List UInt8} (h : nm = vbT ∨ nm = parT) : restP s nn nm = (s == 1) := by rw [restP, if_pos h]
theorem rest_e {s : Int} {nn : List UInt8} : restP s nn encT = (s == 2 && nn == axT) := by
  rw [restP, if_neg (by decide), if_pos rfl]
theorem rest_x {s : Int} {nn nm : List UInt8} (h1 : ¬ nm = vbT) (h2 : ¬ nm = parT) (h3 : ¬ nm = encT) : restP s nn nm = true := by
  rw [restP, if_neg (by rintro (h | h) <;> contradiction), if_neg h3]
instance kFits (k s : Int) (nn : List UInt8) (at_ : List attrTy.T) (dt : List UInt8) (up : Int) (kids : List Int) (nm : List UInt8) :
    Fn BB 48 [.agg [.int .i64 k, .int .i64 s, .str nn, .rd attrTy at_, .str dt, .int .i64 up, .rd intTy kids], .str nm] (nn.length ≤ 1000) (.bool (fitsP k s nn nm)) := by
  refine Fn.intro (N := 44) [0, 1, 2, 4, 5, 6, 9, 16, 27, 28, 34] [] Tryd.call48 Tryd.func48 rfl rfl (by kernel_rfl) (fun hpre => ?_)
  repeat' ((conv => whnf); first | (with_reducible rfl) | exact True.intro | (with_reducible exact absTF) | (with_reducible exact absFT) | intro _ | refine And.intro ?_ ?_ | refine Fin.mk ?_ | refine CallG.plain rfl ?_ ?_ | refine CallG.mk rfl ?_ ?_ | refine CallG.nwl rfl ?_ ?_ | refine CallG.nw ?_ ?_ | refine CallF.nwl rfl ?_ ?_ | refine CallF.nw ?_ ?_ | refine AppN.mk ?_ | (refine CallS.q ?_; (conv => whnf); first | refine CallG.plain rfl ?_ ?_ | refine CallG.mk rfl ?_ ?_) | (refine CallS.m ?_; (conv => whnf); refine CallM.mk rfl ?_ ?_) | (refine CallS.h ?_; (conv => whnf); refine CallM.mk rfl ?_ ?_) | (refine CallS.b ?_; (conv => whnf); refine CallM.mk rfl ?_ ?_) | (refine CallS.z ?_; (conv => whnf); refine CallM.mk rfl ?_ ?_))
  all_goals (try (conv => whnf))
  all_goals (try (exact Ob.mk (u8_bnd _)))
  all_goals (try (refine Ob.mk ?_; first | exact True.intro | assumption | omega | (try simp only [decide_eq_true_eq, decide_eq_false_iff_not, beq_iff_eq, beq_eq_false_iff_ne, bne_iff_ne, bne_eq_false_iff_eq, ne_eq, Bool.and_eq_true, Bool.or_eq_true, Bool.not_eq_true, Bool.not_eq_false, Bool.not_eq_true', Bool.not_eq_false', Int.toNat_natCast, Int.not_lt, Int.not_le, UInt8.ofNat_toNat, cast_eq] at *; omega)))
  all_goals (try ((show (_:Int) = _); omega))
  all_goals (try (show tupSV _ = _; with_unfolding_all rfl))
  all_goals (try ((show (_ : Nat) ≤ _); (simp <;> omega)))
  all_goals (try ((show (_ : Nat) ≤ _ ∧ (_ : Nat) ≤ _); (simp <;> omega)))
  all_goals (try ((show (_ : Int) ≤ _ ∧ (_ : Int) ≤ _ ∧ (_ : Int) ≤ _ ∧ (_ : Int) ≤ _); (simp <;> omega)))
  all_goals (try simp only [decide_eq_true_eq, decide_eq_false_iff_not, beq_iff_eq, beq_eq_false_iff_ne, bne_iff_ne, bne_eq_false_iff_eq, ne_eq, Bool.and_eq_true, Bool.or_eq_true, Bool.and_eq_false_iff, Bool.or_eq_false_iff, Bool.not_eq_true, Bool.not_eq_false, Bool.not_eq_true', Bool.not_eq_false', Int.toNat_natCast, Int.not_lt, Int.not_le, ge_iff_le, gt_iff_lt, UInt8.ofNat_toNat, cast_eq] at *)
  all_goals (try contradiction)
  all_goals (try (rw [fits_k ‹_›]; done))
  all_goals (have hk : k = 1 := ‹_›; subst hk)
  · obtain ⟨o, ho⟩ := Option.isSome_iff_exists.1 ‹_›
    rw [ho]
    have := own_len ho
    exact ⟨by show o.length ≤ _; omega, by omega⟩
  · obtain ⟨o, ho⟩ := Option.isSome_iff_exists.1 ‹_›
    rw [fits_s ho, ho]; rfl
  all_goals (have hn : mget (α := List UInt8) .w ownT nm = none := Option.isSome_eq_false_iff.1 ‹_› |> Option.isNone_iff_eq_none.1)
  all_goals rw [fits_n hn]
  · subst ‹nm = _›; exact (rest_v (nm := vbT) (.inl rfl)).symm
  · subst ‹nm = _›; exact (rest_v (nm := parT) (.inr rfl)).symm
  · subst ‹nm = _›; exact rest_e.symm
  · exact (rest_x ‹_› ‹_› ‹_›).symm
end Go.Vc

/-! Law 02, in plain Lean: bytes as text, by the document. -/
namespace Go.Vc
set_option autoImplicit false
def mU (c : Nat) : Nat := if c < 194 ∨ c > 244 then 0 else if c < 224 then 1 else if c < 240 then 2 else 3
def loU (c : Nat) : Nat := if c < 194 ∨ c > 244 then 0 else if c = 224 then 160 else if c = 240 then 144 else 128
def hiU (c : Nat) : Nat := if c < 194 ∨ c > 244 then 0 else if c = 237 then 159 else if c = 244 then 143 else 191
def cutN (n b0 b1 b2 b3 : Nat) : Nat :=
  if 1 ≤ mU b0 ∧ 1 < n ∧ loU b0 ≤ b1 ∧ b1 ≤ hiU b0 then
    if 2 ≤ mU b0 ∧ 2 < n ∧ 128 ≤ b2 ∧ b2 ≤ 191 then
      if 3 ≤ mU b0 ∧ 3 < n ∧ 128 ≤ b3 ∧ b3 ≤ 191 then 4 else 3
    else 2
  else 1
def okN (n b0 b1 b2 b3 : Nat) : Prop := b0 < 128 ∨ (1 ≤ mU b0 ∧ cutN n b0 b1 b2 b3 = mU b0 + 1)
instance (n b0 b1 b2 b3 : Nat) : Decidable (okN n b0 b1 b2 b3) := by unfold okN; infer_instance
set_option maxHeartbeats 4000000
theorem cutN_bnd (n b0 b1 b2 b3 : Nat) (h : 1 ≤ n) : 1 ≤ cutN n b0 b1 b2 b3 ∧ cutN n b0 b1 b2 b3 ≤ n ∧ cutN n b0 b1 b2 b3 ≤ 4 ∧ cutN n b0 b1 b2 b3 ≤ mU b0 + 1 := by
  unfold cutN; repeat' split
  all_goals omega
theorem cutN_small (n b0 b1 b2 b3 : Nat) (h : b0 < 128) : cutN n b0 b1 b2 b3 = 1 := by
  have : mU b0 = 0 := by unfold mU; rw [if_pos (by omega)]
  unfold cutN; rw [if_neg (by omega)]
theorem dec_bad (n b0 b1 b2 b3 : Nat) (h : ¬ okN n b0 b1 b2 b3) (h0 : b0 < 256) (h1 : b1 < 256) (h2 : b2 < 256) (h3 : b3 < 256) : Lib.decodeN n b0 b1 b2 b3 = (65533, 1) := by
  unfold okN at h
  unfold Lib.decodeN
  rw [if_neg (by omega)]
  unfold cutN at h
  unfold mU loU hiU at h
  repeat' (split)
  all_goals first | rfl | (exfalso; apply h; clear h; right; (repeat' split) <;> omega)
theorem dec_ok (n b0 b1 b2 b3 : Nat) (h : okN n b0 b1 b2 b3) (h0 : b0 < 256) (h1 : b1 < 256) (h2 : b2 < 256) (h3 : b3 < 256) :
    (Lib.decodeN n b0 b1 b2 b3).2 = cutN n b0 b1 b2 b3 ∧ (b0 < 128 → (Lib.decodeN n b0 b1 b2 b3).1 = b0) ∧ (128 ≤ b0 → 2 ≤ cutN n b0 b1 b2 b3 ∧ 128 ≤ (Lib.decodeN n b0 b1 b2 b3).1) := by
  by_cases hb : b0 < 128
  · have : Lib.decodeN n b0 b1 b2 b3 = (b0, 1) := by unfold Lib.decodeN; rw [if_pos hb]
    rw [this, cutN_small _ _ _ _ _ hb]
    exact ⟨rfl, fun _ => rfl, fun h => absurd h (by omega)⟩
  · rcases h with h | ⟨hm, hc⟩
    · omega
    · have hm3 : mU b0 = 1 ∧ 194 ≤ b0 ∧ b0 ≤ 223 ∨ mU b0 = 2 ∧ 224 ≤ b0 ∧ b0 ≤ 239 ∨ mU b0 = 3 ∧ 240 ≤ b0 ∧ b0 ≤ 244 := by
        unfold mU at *; (repeat' split) <;> simp_all <;> omega
      clear hm
      unfold cutN at hc ⊢
      unfold Lib.decodeN
      rw [if_neg hb]
      have hl : ∀ x, loU b0 = x → x = 128 ∨ x = 160 ∨ x = 144 := by unfold loU; intro x hx; (repeat' split at hx) <;> omega
      rcases hm3 with ⟨hm1, hm2⟩ | ⟨hm1, hm2⟩ | ⟨hm1, hm2⟩
      · have e1 : loU b0 = 128 := by unfold loU; (repeat' split) <;> omega
        have e2 : hiU b0 = 191 := by unfold hiU; (repeat' split) <;> omega
        rw [hm1, e1, e2] at hc ⊢
        rw [if_neg (by omega : ¬ (2 ≤ 1 ∧ 2 < n ∧ 128 ≤ b2 ∧ b2 ≤ 191))] at hc ⊢
        split at hc
        · rename_i hq
          rw [if_pos hq, if_pos (by omega), if_pos (by omega)]
          refine ⟨rfl, fun h => absurd h hb, fun _ => ⟨by omega, ?_⟩⟩
          show 128 ≤ b0 % 32 * 64 + b1 % 64
          omega
        · omega
      · rw [hm1] at hc ⊢
        rw [if_neg (by omega : ¬ (3 ≤ 2 ∧ 3 < n ∧ 128 ≤ b3 ∧ b3 ≤ 191))] at hc ⊢
        split at hc
        · rename_i hq
          split at hc
          · rename_i hq2
            have e1 : b0 = 224 ∧ 160 ≤ b1 ∧ b1 ≤ 191 ∨ b0 = 237 ∧ 128 ≤ b1 ∧ b1 ≤ 159 ∨ (b0 ≠ 224 ∧ b0 ≠ 237) ∧ 128 ≤ b1 ∧ b1 ≤ 191 := by
              unfold loU hiU at hq
              revert hq
              (repeat' split) <;> omega
            rw [if_pos hq, if_pos hq2, if_neg (by omega), if_pos (by omega), if_pos (by omega)]
            refine ⟨rfl, fun h => absurd h hb, fun _ => ⟨by omega, ?_⟩⟩
            show 128 ≤ b0 % 16 * 4096 + b1 % 64 * 64 + b2 % 64
            omega
          · omega
        · omega
      · rw [hm1] at hc ⊢
        split at hc
        · rename_i hq
          split at hc
          · rename_i hq2
            split at hc
            · rename_i hq3
              have e1 : b0 = 240 ∧ 144 ≤ b1 ∧ b1 ≤ 191 ∨ b0 = 244 ∧ 128 ≤ b1 ∧ b1 ≤ 143 ∨ (b0 ≠ 240 ∧ b0 ≠ 244) ∧ 128 ≤ b1 ∧ b1 ≤ 191 := by
                unfold loU hiU at hq
                revert hq
                (repeat' split) <;> omega
              rw [if_pos hq, if_pos hq2, if_pos hq3, if_neg (by omega), if_neg (by omega), if_pos (by omega), if_pos (by omega)]
              refine ⟨rfl, fun h => absurd h hb, fun _ => ⟨by omega, ?_⟩⟩
              show 128 ≤ b0 % 8 * 262144 + b1 % 64 * 4096 + b2 % 64 * 64 + b3 % 64
              omega
            · omega
          · omega
        · omega
/-- how many bytes at the beginning are one, character or not -/
def cutU (l : List UInt8) : Nat := cutN l.length (l.getD 0 0).toNat (l.getD 1 0).toNat (l.getD 2 0).toNat (l.getD 3 0).toNat
def okU (l : List UInt8) : Bool := decide (okN l.length (l.getD 0 0).toNat (l.getD 1 0).toNat (l.getD 2 0).toNat (l.getD 3 0).toNat)
theorem cutU_bnd (l : List UInt8) (h : l ≠ []) : 1 ≤ cutU l ∧ cutU l ≤ l.length ∧ cutU l ≤ 4 := by
  have : 1 ≤ l.length := List.length_pos_iff.mpr h
  have := cutN_bnd l.length (l.getD 0 0).toNat (l.getD 1 0).toNat (l.getD 2 0).toNat (l.getD 3 0).toNat this
  exact ⟨this.1, this.2.1, this.2.2.1⟩
def oddU : List UInt8 := [239, 191, 189]
/-- how far the step goes -/
def stepU (l : List UInt8) : Nat :=
  if okU l = true ∧ l.getD 0 0 = 13 ∧ 1 < l.length ∧ l.getD 1 0 = 10 then 2 else cutU l
def chrU (l : List UInt8) : List UInt8 :=
  if okU l = false ∨ l.getD 0 0 = 0 then oddU else if l.getD 0 0 = 13 then [10] else l.take (cutU l)
theorem stepU_bnd (l : List UInt8) (h : l ≠ []) : 1 ≤ stepU l ∧ stepU l ≤ l.length := by
  have := cutU_bnd l h
  unfold stepU; split <;> omega
/-- bytes as text -/
def decU (l : List UInt8) : List UInt8 :=
  if h : l = [] then [] else chrU l ++ decU (l.drop (stepU l))
termination_by l.length
decreasing_by
  have := stepU_bnd l h
  have : 0 < l.length := List.length_pos_iff.mpr h
  rw [List.length_drop]; omega
theorem decU_nil : decU [] = [] := by rw [decU]; rfl
theorem decU_eq (l : List UInt8) (h : l ≠ []) : decU l = chrU l ++ decU (l.drop (stepU l)) := by rw [decU, dif_neg h]
theorem chrU_len (l : List UInt8) (h : l ≠ []) : 1 ≤ (chrU l).length ∧ (chrU l).length ≤ 3 * stepU l := by
  have h1 := cutU_bnd l h
  have h2 := stepU_bnd l h
  unfold chrU
  split
  · simp only [oddU, List.length_cons, List.length_nil]; omega
  · split
    · simp; omega
    · rename_i h3 h4
      have : stepU l = cutU l := by unfold stepU; rw [if_neg (fun h => h4 h.2.1)]
      rw [List.length_take]; omega
theorem decU_len (l : List UInt8) : (decU l).length ≤ 3 * l.length := by
  induction hn : l.length using Nat.strongRecOn generalizing l with
  | _ n ih =>
    subst hn
    by_cases h : l = []
    · subst h; rw [decU_nil]; simp
    · have h1 := chrU_len l h
      have h2 := stepU_bnd l h
      rw [decU_eq l h, List.length_append]
      have := ih _ (by rw [List.length_drop]; omega : (l.drop (stepU l)).length < l.length) _ rfl
      rw [List.length_drop] at this
      omega
end Go.Vc

/-
  DERIVED: THE SHELF's CONTRACTS AT THIS DUMP, IN PLAIN WORDS (tools/lay-plain.mjs out of 'TryhShelf.lean', which tools/lay-shelf.mjs wrote): THE SAME DECLARATIONS UNDER THE SAME NAMES: 'import', 'namespace', 'open', 'def', 'theorem' AND NOTHING ELSE: no command of the shelf's: FOR A HAND-IN. Each laying: the table of numbers ('.._ren') and one theorem, a field a fact of the dump's own or the kernel's comparison; each contract: ONE APPLICATION.
-/
namespace Go.Proofs
open Go.Shelf
def Tryd.laysS32_ren : Go.Shelf.Ren := ⟨fun | 32 => 64 | 49 => 102 | n => n, fun | 30 => 32 | 21 => 21 | 3 => 3 | 0 => 0 | 5 => 5 | 4 => 4 | 33 => 77 | 66 => 110 | 25 => 114 | 69 => 113 | 68 => 112 | n => n, fun | 2 => 0 | 3 => 1 | n => n⟩
theorem Tryd.laysS32 : Go.Proofs.Lays7.n32 Tryd.prog Tryd.laysS32_ren := {
  mixed := by kernel_rfl
  f32 := Tryd.func64.trans (congrArg some (by kernel_rfl))
  f49 := Tryd.func102.trans (congrArg some (by kernel_rfl))
  t0 := Tryd.underlying0
  a0 := Tryd.isAgg0
  z0 := Tryd.sizeOf0
  v0 := Tryd.zeroValue0
  i0 := by kernel_rfl
  t3 := Tryd.underlying3
  a3 := Tryd.isAgg3
  z3 := Tryd.sizeOf3
  v3 := Tryd.zeroValue3
  i3 := by kernel_rfl
  t4 := Tryd.underlying4
  a4 := Tryd.isAgg4
  z4 := Tryd.sizeOf4
  v4 := Tryd.zeroValue4
  i4 := by kernel_rfl
  t5 := Tryd.underlying5
  a5 := Tryd.isAgg5
  z5 := Tryd.sizeOf5
  v5 := Tryd.zeroValue5
  i5 := by kernel_rfl
  t21 := Tryd.underlying21
  a21 := Tryd.isAgg21
  z21 := Tryd.sizeOf21
  v21 := Tryd.zeroValue21
  i21 := by kernel_rfl
  t25 := Tryd.underlying114
  a25 := Tryd.isAgg114
  z25 := Tryd.sizeOf114
  v25 := Tryd.zeroValue114
  i25 := by kernel_rfl
  t30 := Tryd.underlying32
  a30 := Tryd.isAgg32
  z30 := Tryd.sizeOf32
  v30 := Tryd.zeroValue32
  i30 := by kernel_rfl
  t33 := Tryd.underlying77
  a33 := Tryd.isAgg77
  z33 := Tryd.sizeOf77
  v33 := Tryd.zeroValue77
  i33 := by kernel_rfl
  t66 := Tryd.underlying110
  a66 := Tryd.isAgg110
  z66 := Tryd.sizeOf110
  t68 := Tryd.underlying112
  a68 := Tryd.isAgg112
  z68 := Tryd.sizeOf112
  v68 := Tryd.zeroValue112
  i68 := by kernel_rfl
  t69 := Tryd.underlying113
  a69 := Tryd.isAgg113
  z69 := Tryd.sizeOf113
  v69 := Tryd.zeroValue113
  i69 := by kernel_rfl
  g2 := by kernel_rfl
  g3 := by kernel_rfl }
end Go.Proofs

namespace Go.Vc
open Go.Proofs
set_option linter.unusedVariables false
set_option maxRecDepth 10000
set_option linter.unusedSimpArgs false
set_option maxHeartbeats 4000000
theorem rel_bytes {r : Mem} {β : Bind} {l : List UInt8} {v : Value} {w : World} (hv : ∀ b o, r b = some o → w.heap[b]? = some o) (h : Rel r β (.rd .byte l) v) :
    (l = [] ∧ ∃ a c, v = .slice a 0 c) ∨ ∃ b off cap, v = .slice (some ⟨b, off, none⟩) l.length cap ∧ l.length ≤ cap ∧ l.length ≤ 9223372036854775807 ∧ b < w.heap.size ∧
      ∀ (j : Nat) (x : UInt8), l[j]? = some x → w.cell? ⟨b, off + j, none⟩ = some (.int .u8 x.toNat) := by
  cases h with
  | rd h =>
    generalize hm : l.map (Ty.enc .byte) = rows at h
    cases h with
    | litsE => left; exact ⟨by simpa using hm, _, _, rfl⟩
    | @lits _ _ _ b off cap c T fr hb hn hcap hrow ho hc hr =>
      right
      have hlen : rows.length = l.length := by rw [← hm]; simp
      refine ⟨b, off, cap, by rw [hlen], by omega, by omega, lt_of_heap (hv b _ hb), fun j x hj => ?_⟩
      have hj' : rows[j]? = some [SV.int .u8 x.toNat] := by rw [← hm]; simp [hj, Ty.enc]
      have hlt : j < rows.length := by
        rcases Nat.lt_or_ge j rows.length with h | h
        · exact h
        · rw [List.getElem?_eq_none h] at hj'; cases hj'
      have hz : Ty.byte.size = 1 := rfl
      rw [hz] at hc hr
      have hin : off + j < c.size := by omega
      have hcell : c[off + j * 1 + 0]? = some c[off + j] := by simp [hin]
      have := hr j _ 0 _ _ hj' rfl hcell
      generalize hcv : c[off + j] = cv at this hcell
      cases this
      simp only [World.cell?, hv b _ hb]
      simpa using hcell
instance fDR (l : List UInt8) : Fn BB 64 [.rd .byte l] (l ≠ []) (.tup [.int .i32 (Lib.decodeL l).1, .int .i64 (Lib.decodeL l).2]) := by
  refine Fn.liftB Tryd.call64 fun hp r β w vs hG m hl => ?_
  obtain ⟨v1, vs1, rfl, h1, hl⟩ := hl.uncons
  obtain rfl := hl.nil_inv
  rcases rel_bytes m.vis h1 with ⟨h0, _⟩ | ⟨b, off, cap, rfl, hcap, hmax, hb, hc⟩
  · exact absurd h0 hp
  have hs : (⟨l.toArray⟩ : ByteArray).size = l.length := by show l.toArray.size = _; simp
  have h0 : (⟨l.toArray⟩ : ByteArray).size ≠ 0 := by rw [hs]; intro h; exact hp (List.length_eq_zero_iff.1 h)
  have hd : Lib.decodeGo ⟨l.toArray⟩ = Lib.decodeL l := by unfold Lib.decodeGo Lib.decodeL; rw [if_neg h0]
  have := Any7.utf8_DecodeRune Tryd.laysS32 ⟨l.toArray⟩ b off cap w (hG.tabs m.vis) (fun j hj => by
    rw [hs] at hj
    refine hc j _ ?_
    rw [List.getElem?_eq_getElem hj]
    congr 1
    show l[j] = l.toArray[j]!
    simp [hj])
  rw [hd, hs] at this
  exact ⟨_, this, tup2 .int .int⟩
theorem decL_U (l : List UInt8) : Lib.decodeL l = Lib.decodeN l.length (l.getD 0 0).toNat (l.getD 1 0).toNat (l.getD 2 0).toNat (l.getD 3 0).toNat := by
  unfold Lib.decodeL
  rw [Lib.decode_at]
  have hs : (⟨l.toArray⟩ : ByteArray).size = l.length := by show l.toArray.size = _; simp
  have hg : ∀ k, (⟨l.toArray⟩ : ByteArray).get! k = l.getD k 0 := fun k => by
    show l.toArray[k]! = _
    simp [List.getD]; rfl
  rw [hs, hg, hg, hg, hg]; rfl
theorem decL_bad {l : List UInt8} (h : okU l = false) : Lib.decodeL l = (65533, 1) := by
  rw [decL_U]
  exact dec_bad _ _ _ _ _ (of_decide_eq_false h) (UInt8.toNat_lt _) (UInt8.toNat_lt _) (UInt8.toNat_lt _) (UInt8.toNat_lt _)
theorem decL_ok {l : List UInt8} (h : okU l = true) : (Lib.decodeL l).2 = cutU l ∧ ((l.getD 0 0).toNat < 128 → (Lib.decodeL l).1 = (l.getD 0 0).toNat ∧ cutU l = 1) ∧ (128 ≤ (l.getD 0 0).toNat → 2 ≤ cutU l ∧ 128 ≤ (Lib.decodeL l).1) := by
  rw [decL_U]
  have := dec_ok _ _ _ _ _ (of_decide_eq_true h) (UInt8.toNat_lt _) (UInt8.toNat_lt _) (UInt8.toNat_lt _) (UInt8.toNat_lt _)
  exact ⟨this.1, fun hh => ⟨this.2.1 hh, cutN_small _ _ _ _ _ hh⟩, this.2.2⟩
instance fBounds (c : Int) : Fn BB 103 [.int .u8 c] (0 ≤ c ∧ c ≤ 255) (.tup [.int .i64 (mU c.toNat), .int .u8 (loU c.toNat), .int .u8 (hiU c.toNat)]) := by
  refine Fn.intro (N := 30) [0, 2, 3, 4, 5, 12, 15, 18, 19, 21, 23, 25] [] Tryd.call103 Tryd.func103 rfl rfl (by kernel_rfl) (fun hpre => ?_)
  obtain ⟨k, rfl⟩ := Int.eq_ofNat_of_zero_le hpre.1
  rw [Int.toNat_natCast]
  repeat' ((conv => whnf); first | (with_reducible rfl) | exact True.intro | (with_reducible exact absTF) | (with_reducible exact absFT) | intro _ | refine And.intro ?_ ?_ | refine Fin.mk ?_ | refine CallG.plain rfl ?_ ?_ | refine CallG.mk rfl ?_ ?_ | refine CallG.nwl rfl ?_ ?_ | refine CallG.nw ?_ ?_ | refine CallF.nwl rfl ?_ ?_ | refine CallF.nw ?_ ?_ | refine AppN.mk ?_ | (refine CallS.q ?_; (conv => whnf); first | refine CallG.plain rfl ?_ ?_ | refine CallG.mk rfl ?_ ?_) | (refine CallS.m ?_; (conv => whnf); refine CallM.mk rfl ?_ ?_) | (refine CallS.h ?_; (conv => whnf); refine CallM.mk rfl ?_ ?_) | (refine CallS.b ?_; (conv => whnf); refine CallM.mk rfl ?_ ?_) | (refine CallS.z ?_; (conv => whnf); refine CallM.mk rfl ?_ ?_))
  all_goals (try (conv => whnf))
  all_goals (try (exact Ob.mk (u8_bnd _)))
  all_goals (try (refine Ob.mk ?_; first | exact True.intro | assumption | omega | (try simp only [decide_eq_true_eq, decide_eq_false_iff_not, beq_iff_eq, beq_eq_false_iff_ne, bne_iff_ne, bne_eq_false_iff_eq, ne_eq, Bool.and_eq_true, Bool.or_eq_true, Bool.not_eq_true, Bool.not_eq_false, Bool.not_eq_true', Bool.not_eq_false', Int.toNat_natCast, Int.not_lt, Int.not_le, UInt8.ofNat_toNat, cast_eq] at *; omega)))
  all_goals (try ((show (_:Int) = _); omega))
  all_goals (try (show tupSV _ = _; with_unfolding_all rfl))
  all_goals (try ((show (_ : Nat) ≤ _); (simp <;> omega)))
  all_goals (try ((show (_ : Nat) ≤ _ ∧ (_ : Nat) ≤ _); (simp <;> omega)))
  all_goals (try ((show (_ : Int) ≤ _ ∧ (_ : Int) ≤ _ ∧ (_ : Int) ≤ _ ∧ (_ : Int) ≤ _); (simp <;> omega)))
  all_goals (try simp only [decide_eq_true_eq, decide_eq_false_iff_not, beq_iff_eq, beq_eq_false_iff_ne, bne_iff_ne, bne_eq_false_iff_eq, ne_eq, Bool.and_eq_true, Bool.or_eq_true, Bool.and_eq_false_iff, Bool.or_eq_false_iff, Bool.not_eq_true, Bool.not_eq_false, Bool.not_eq_true', Bool.not_eq_false', Int.toNat_natCast, Int.not_lt, Int.not_le, ge_iff_le, gt_iff_lt, UInt8.ofNat_toNat, cast_eq] at *)
  all_goals (try (simp only [mU, loU, hiU]))
  all_goals ((repeat' split) <;> omega)
theorem cutN_of (N b0 b1 b2 b3 k : Nat) (h1 : 1 ≤ k) (h2 : k ≤ mU b0 + 1) (h3 : k ≤ N)
    (ha : 2 ≤ k → loU b0 ≤ b1 ∧ b1 ≤ hiU b0) (hb : 3 ≤ k → 128 ≤ b2 ∧ b2 ≤ 191) (hc : 4 ≤ k → 128 ≤ b3 ∧ b3 ≤ 191)
    (he : k = mU b0 + 1 ∨ k = N ∨ (k = 1 ∧ ¬ (loU b0 ≤ b1 ∧ b1 ≤ hiU b0)) ∨ (k = 2 ∧ ¬ (128 ≤ b2 ∧ b2 ≤ 191)) ∨ (k = 3 ∧ ¬ (128 ≤ b3 ∧ b3 ≤ 191))) : cutN N b0 b1 b2 b3 = k := by
  have hm : mU b0 ≤ 3 := by unfold mU; (repeat' split) <;> omega
  unfold cutN
  repeat' split
  all_goals omega
def loW (l : List UInt8) (k : Nat) : Nat := if k = 1 then loU (l.getD 0 0).toNat else 128
def hiW (l : List UInt8) (k : Nat) : Nat := if k = 1 then hiU (l.getD 0 0).toNat else 191
def okW (l : List UInt8) (k : Nat) : Prop := loW l k ≤ (l.getD k 0).toNat ∧ (l.getD k 0).toNat ≤ hiW l k
theorem cutU_of {l : List UInt8} {k : Nat} (h1 : 1 ≤ k) (h2 : k ≤ mU (l.getD 0 0).toNat + 1) (h3 : k ≤ l.length) (h : ∀ j, 1 ≤ j → j < k → okW l j)
    (he : k = mU (l.getD 0 0).toNat + 1 ∨ k = l.length ∨ ¬ okW l k) : cutU l = k := by
  have hm : mU (l.getD 0 0).toNat ≤ 3 := by unfold mU; (repeat' split) <;> omega
  refine cutN_of _ _ _ _ _ k h1 h2 h3 (fun q => by simpa [okW, loW, hiW] using h 1 (by omega) (by omega)) (fun q => by simpa [okW, loW, hiW] using h 2 (by omega) (by omega)) (fun q => by simpa [okW, loW, hiW] using h 3 (by omega) (by omega)) ?_
  rcases he with he | he | he
  · exact .inl he
  · exact .inr (.inl he)
  · have hk : k = 1 ∨ k = 2 ∨ k = 3 ∨ k = 4 := by omega
    rcases hk with rfl | rfl | rfl | rfl
    · right; right; left; exact ⟨rfl, by simpa [okW, loW, hiW] using he⟩
    · right; right; right; left; exact ⟨rfl, by simpa [okW, loW, hiW] using he⟩
    · right; right; right; right; exact ⟨rfl, by simpa [okW, loW, hiW] using he⟩
    · left; omega
instance fCut (l : List UInt8) : Fn BB 65 [.rd .byte l] (l ≠ [] ∧ l.length ≤ 1000000) (.int .i64 (cutU l)) := by
  refine Fn.intro (N := 43) [0, 2, 3, 4, 5, 6, 39] [] Tryd.call65 Tryd.func65 rfl rfl (by kernel_rfl) (fun hpre => ?_)
  obtain ⟨hp1, hp2⟩ := hpre
  have hlen : 1 ≤ l.length := List.length_pos_iff.mpr hp1
  repeat' ((conv => whnf); first | (with_reducible rfl) | exact True.intro | (with_reducible exact absTF) | (with_reducible exact absFT) | intro _ | refine And.intro ?_ ?_ | refine Fin.mk ?_ | refine CallG.plain rfl ?_ ?_ | refine CallG.mk rfl ?_ ?_ | refine CallG.nwl rfl ?_ ?_ | refine CallG.nw ?_ ?_ | refine CallF.nwl rfl ?_ ?_ | refine CallF.nw ?_ ?_ | refine AppN.mk ?_ | (refine CallS.q ?_; (conv => whnf); first | refine CallG.plain rfl ?_ ?_ | refine CallG.mk rfl ?_ ?_) | (refine CallS.m ?_; (conv => whnf); refine CallM.mk rfl ?_ ?_) | (refine CallS.h ?_; (conv => whnf); refine CallM.mk rfl ?_ ?_) | (refine CallS.b ?_; (conv => whnf); refine CallM.mk rfl ?_ ?_) | (refine CallS.z ?_; (conv => whnf); refine CallM.mk rfl ?_ ?_))
  all_goals (try (conv => whnf))
  all_goals (try (exact Ob.mk (u8_bnd _)))
  all_goals (try (refine Ob.mk ?_; first | exact True.intro | assumption | omega | (try simp only [decide_eq_true_eq, decide_eq_false_iff_not, beq_iff_eq, beq_eq_false_iff_ne, bne_iff_ne, bne_eq_false_iff_eq, ne_eq, Bool.and_eq_true, Bool.or_eq_true, Bool.not_eq_true, Bool.not_eq_false, Bool.not_eq_true', Bool.not_eq_false', Int.toNat_natCast, Int.not_lt, Int.not_le, UInt8.ofNat_toNat, cast_eq] at *; omega)))
  all_goals (try ((show (_:Int) = _); omega))
  all_goals (try (show tupSV _ = _; with_unfolding_all rfl))
  all_goals (try ((show (_ : Nat) ≤ _); (simp <;> omega)))
  all_goals (try ((show (_ : Nat) ≤ _ ∧ (_ : Nat) ≤ _); (simp <;> omega)))
  all_goals (try ((show (_ : Int) ≤ _ ∧ (_ : Int) ≤ _ ∧ (_ : Int) ≤ _ ∧ (_ : Int) ≤ _); (simp <;> omega)))
  refine LoopStop.mk (α := Nat) (fun k => [(6, .int .i64 k), (4, .int .u8 (loW l k)), (5, .int .u8 (hiW l k))]) (fun i => []) 40 (fun k => 1 ≤ k ∧ k ≤ l.length ∧ k ≤ mU (l.getD 0 0).toNat + 1 ∧ ∀ j, 1 ≤ j → j < k → okW l j) (fun k => l.length - k) 1 ⟨by omega, by omega, by omega, fun j _ _ => by omega⟩ ?_ (fun k hk => ?_)
  · repeat' ((conv => whnf); first | (with_reducible rfl) | exact True.intro | (with_reducible exact absTF) | (with_reducible exact absFT) | intro _ | refine And.intro ?_ ?_ | refine Fin.mk ?_ | refine CallG.plain rfl ?_ ?_ | refine CallG.mk rfl ?_ ?_ | refine CallG.nwl rfl ?_ ?_ | refine CallG.nw ?_ ?_ | refine CallF.nwl rfl ?_ ?_ | refine CallF.nw ?_ ?_ | refine AppN.mk ?_ | (refine CallS.q ?_; (conv => whnf); first | refine CallG.plain rfl ?_ ?_ | refine CallG.mk rfl ?_ ?_) | (refine CallS.m ?_; (conv => whnf); refine CallM.mk rfl ?_ ?_) | (refine CallS.h ?_; (conv => whnf); refine CallM.mk rfl ?_ ?_) | (refine CallS.b ?_; (conv => whnf); refine CallM.mk rfl ?_ ?_) | (refine CallS.z ?_; (conv => whnf); refine CallM.mk rfl ?_ ?_))
    all_goals (try (conv => whnf))
    all_goals (try (exact Ob.mk (u8_bnd _)))
    all_goals (try (refine Ob.mk ?_; first | exact True.intro | assumption | omega | (try simp only [decide_eq_true_eq, decide_eq_false_iff_not, beq_iff_eq, beq_eq_false_iff_ne, bne_iff_ne, bne_eq_false_iff_eq, ne_eq, Bool.and_eq_true, Bool.or_eq_true, Bool.not_eq_true, Bool.not_eq_false, Bool.not_eq_true', Bool.not_eq_false', Int.toNat_natCast, Int.not_lt, Int.not_le, UInt8.ofNat_toNat, cast_eq] at *; omega)))
    all_goals (try ((show (_:Int) = _); omega))
    all_goals (try (show tupSV _ = _; with_unfolding_all rfl))
    all_goals (try ((show (_ : Nat) ≤ _); (simp <;> omega)))
    all_goals (try ((show (_ : Nat) ≤ _ ∧ (_ : Nat) ≤ _); (simp <;> omega)))
    all_goals (try ((show (_ : Int) ≤ _ ∧ (_ : Int) ≤ _ ∧ (_ : Int) ≤ _ ∧ (_ : Int) ≤ _); (simp <;> omega)))
    all_goals rfl
  · obtain ⟨h1, h2, h3, h4⟩ := hk
    repeat' ((conv => whnf); first | (with_reducible rfl) | exact True.intro | (with_reducible exact absTF) | (with_reducible exact absFT) | intro _ | refine And.intro ?_ ?_ | refine Fin.mk ?_ | refine CallG.plain rfl ?_ ?_ | refine CallG.mk rfl ?_ ?_ | refine CallG.nwl rfl ?_ ?_ | refine CallG.nw ?_ ?_ | refine CallF.nwl rfl ?_ ?_ | refine CallF.nw ?_ ?_ | refine AppN.mk ?_ | (refine CallS.q ?_; (conv => whnf); first | refine CallG.plain rfl ?_ ?_ | refine CallG.mk rfl ?_ ?_) | (refine CallS.m ?_; (conv => whnf); refine CallM.mk rfl ?_ ?_) | (refine CallS.h ?_; (conv => whnf); refine CallM.mk rfl ?_ ?_) | (refine CallS.b ?_; (conv => whnf); refine CallM.mk rfl ?_ ?_) | (refine CallS.z ?_; (conv => whnf); refine CallM.mk rfl ?_ ?_))
    all_goals (try (conv => whnf))
    all_goals (try (exact Ob.mk (u8_bnd _)))
    all_goals (try (refine Ob.mk ?_; first | exact True.intro | assumption | omega | (try simp only [decide_eq_true_eq, decide_eq_false_iff_not, beq_iff_eq, beq_eq_false_iff_ne, bne_iff_ne, bne_eq_false_iff_eq, ne_eq, Bool.and_eq_true, Bool.or_eq_true, Bool.not_eq_true, Bool.not_eq_false, Bool.not_eq_true', Bool.not_eq_false', Int.toNat_natCast, Int.not_lt, Int.not_le, UInt8.ofNat_toNat, cast_eq] at *; omega)))
    all_goals (try ((show (_:Int) = _); omega))
    all_goals (try (show tupSV _ = _; with_unfolding_all rfl))
    all_goals (try ((show (_ : Nat) ≤ _); (simp <;> omega)))
    all_goals (try ((show (_ : Nat) ≤ _ ∧ (_ : Nat) ≤ _); (simp <;> omega)))
    all_goals (try ((show (_ : Int) ≤ _ ∧ (_ : Int) ≤ _ ∧ (_ : Int) ≤ _ ∧ (_ : Int) ≤ _); (simp <;> omega)))
    all_goals (try (simp only [Int.toNat_natCast, Int.reduceToNat, Ty.dflt, cast_eq] at *))
    all_goals (try simp only [decide_eq_true_eq, decide_eq_false_iff_not, beq_iff_eq, beq_eq_false_iff_ne, bne_iff_ne, bne_eq_false_iff_eq, ne_eq, Bool.and_eq_true, Bool.or_eq_true, Bool.and_eq_false_iff, Bool.or_eq_false_iff, Bool.not_eq_true, Bool.not_eq_false, Bool.not_eq_true', Bool.not_eq_false', Int.toNat_natCast, Int.not_lt, Int.not_le, ge_iff_le, gt_iff_lt, UInt8.ofNat_toNat, cast_eq] at *)
    all_goals (try simp only [decide_eq_true_eq, decide_eq_false_iff_not] at *)
    · rename_i q
      obtain ⟨⟨⟨q1, q2⟩, q3⟩, q4⟩ := q
      replace q1 := of_decide_eq_true q1
      replace q3 := of_decide_eq_true q3
      replace q4 := of_decide_eq_true q4
      refine Rnd.mk ⟨k + 1, ⟨by omega, by omega, by omega, fun j hj1 hj2 => ?_⟩, by omega, ?_⟩
      · rcases Nat.lt_or_ge j k with hh | hh
        · exact h4 j hj1 hh
        · obtain rfl : j = k := by omega
          exact ⟨by omega, by omega⟩
      · repeat' ((conv => whnf); first | (with_reducible rfl) | exact True.intro | (with_reducible exact absTF) | (with_reducible exact absFT) | intro _ | refine And.intro ?_ ?_ | refine Fin.mk ?_ | refine CallG.plain rfl ?_ ?_ | refine CallG.mk rfl ?_ ?_ | refine CallG.nwl rfl ?_ ?_ | refine CallG.nw ?_ ?_ | refine CallF.nwl rfl ?_ ?_ | refine CallF.nw ?_ ?_ | refine AppN.mk ?_ | (refine CallS.q ?_; (conv => whnf); first | refine CallG.plain rfl ?_ ?_ | refine CallG.mk rfl ?_ ?_) | (refine CallS.m ?_; (conv => whnf); refine CallM.mk rfl ?_ ?_) | (refine CallS.h ?_; (conv => whnf); refine CallM.mk rfl ?_ ?_) | (refine CallS.b ?_; (conv => whnf); refine CallM.mk rfl ?_ ?_) | (refine CallS.z ?_; (conv => whnf); refine CallM.mk rfl ?_ ?_))
        all_goals (try (conv => whnf))
        all_goals (try (exact Ob.mk (u8_bnd _)))
        all_goals (try (refine Ob.mk ?_; first | exact True.intro | assumption | omega | (try simp only [decide_eq_true_eq, decide_eq_false_iff_not, beq_iff_eq, beq_eq_false_iff_ne, bne_iff_ne, bne_eq_false_iff_eq, ne_eq, Bool.and_eq_true, Bool.or_eq_true, Bool.not_eq_true, Bool.not_eq_false, Bool.not_eq_true', Bool.not_eq_false', Int.toNat_natCast, Int.not_lt, Int.not_le, UInt8.ofNat_toNat, cast_eq] at *; omega)))
        all_goals (try ((show (_:Int) = _); omega))
        all_goals (try (show tupSV _ = _; with_unfolding_all rfl))
        all_goals (try ((show (_ : Nat) ≤ _); (simp <;> omega)))
        all_goals (try ((show (_ : Nat) ≤ _ ∧ (_ : Nat) ≤ _); (simp <;> omega)))
        all_goals (try ((show (_ : Int) ≤ _ ∧ (_ : Int) ≤ _ ∧ (_ : Int) ≤ _ ∧ (_ : Int) ≤ _); (simp <;> omega)))
        all_goals (try (have e1 : loW l (k + 1) = 128 := by unfold loW; rw [if_neg (by omega)]))
        all_goals (try (have e2 : hiW l (k + 1) = 191 := by unfold hiW; rw [if_neg (by omega)]))
        all_goals (try rw [e1])
        all_goals (try rw [e2])
        all_goals (try rfl)
        all_goals (try (congr 1; omega))
    · rename_i q
      congr 1
      symm
      refine cutU_of h1 h3 h2 h4 ?_
      unfold okW
      rcases q with ((q | q) | q) | q
      · have := of_decide_eq_false q; omega
      · omega
      · have := of_decide_eq_false q; omega
      · have := of_decide_eq_false q; omega
end Go.Vc

namespace Go.Vc
open Go.Proofs
set_option linter.unusedVariables false
set_option maxRecDepth 10000
set_option linter.unusedSimpArgs false
set_option maxHeartbeats 4000000
/-- a writer: its own address, its bytes -/
abbrev wrU (a b : SV) : Chunk := .bx (some 76) [a, b]
abbrev nilU : SV := .v (.pointer none)
instance uCCa : FnM BB 104 [.loc 0 0] [(0, wrU nilU .nils)] True (.tup []) [(0, wrU (.loc 0 0) .nils)] := by
  refine FnM.intro (N := 20) [0, 6, 19] [] 1 Tryd.call104 Tryd.func104 rfl rfl (by kernel_rfl) (fun hpre => ?_)
  repeat' ((conv => whnf); first | (with_reducible rfl) | exact True.intro | (with_reducible exact absTF) | (with_reducible exact absFT) | intro _ | refine And.intro ?_ ?_ | refine Fin.mk ?_ | refine CallG.plain rfl ?_ ?_ | refine CallG.mk rfl ?_ ?_ | refine CallG.nwl rfl ?_ ?_ | refine CallG.nw ?_ ?_ | refine CallF.nwl rfl ?_ ?_ | refine CallF.nw ?_ ?_ | refine AppN.mk ?_ | (refine CallS.q ?_; (conv => whnf); first | refine CallG.plain rfl ?_ ?_ | refine CallG.mk rfl ?_ ?_) | (refine CallS.m ?_; (conv => whnf); refine CallM.mk rfl ?_ ?_) | (refine CallS.h ?_; (conv => whnf); refine CallM.mk rfl ?_ ?_) | (refine CallS.b ?_; (conv => whnf); refine CallM.mk rfl ?_ ?_) | (refine CallS.z ?_; (conv => whnf); refine CallM.mk rfl ?_ ?_))
  all_goals (try (conv => whnf))
  all_goals (try (exact Ob.mk (by kernel_rfl)))
  all_goals (try (exact Ob.mk (u8_bnd _)))
  all_goals (try (refine Ob.mk ?_; first | exact True.intro | assumption | omega | (try simp only [decide_eq_true_eq, decide_eq_false_iff_not, beq_iff_eq, beq_eq_false_iff_ne, bne_iff_ne, bne_eq_false_iff_eq, ne_eq, Bool.and_eq_true, Bool.or_eq_true, Bool.not_eq_true, Bool.not_eq_false, Bool.not_eq_true', Bool.not_eq_false', Int.toNat_natCast, Int.not_lt, Int.not_le, UInt8.ofNat_toNat, cast_eq] at *; omega)))
  all_goals (try ((show (_:Int) = _); omega))
  all_goals (try (show tupSV _ = _; with_unfolding_all rfl))
  all_goals (try ((show (_ : Nat) ≤ _); (simp <;> omega)))
  all_goals (try ((show (_ : Nat) ≤ _ ∧ (_ : Nat) ≤ _); (simp <;> omega)))
  all_goals (try ((show (_ : Int) ≤ _ ∧ (_ : Int) ≤ _ ∧ (_ : Int) ≤ _ ∧ (_ : Int) ≤ _); (simp <;> omega)))
instance uCCc (l : List UInt8) : FnM BB 104 [.loc 0 0] [(0, wrU (.loc 0 0) (.own 1)), (1, .own .byte l)] True (.tup []) [(0, wrU (.loc 0 0) (.own 1)), (1, .own .byte l)] := by
  refine FnM.intro (N := 20) [0, 6, 19] [] 2 Tryd.call104 Tryd.func104 rfl rfl (by kernel_rfl) (fun hpre => ?_)
  repeat' ((conv => whnf); first | (with_reducible rfl) | exact True.intro | (with_reducible exact absTF) | (with_reducible exact absFT) | intro _ | refine And.intro ?_ ?_ | refine Fin.mk ?_ | refine CallG.plain rfl ?_ ?_ | refine CallG.mk rfl ?_ ?_ | refine CallG.nwl rfl ?_ ?_ | refine CallG.nw ?_ ?_ | refine CallF.nwl rfl ?_ ?_ | refine CallF.nw ?_ ?_ | refine AppN.mk ?_ | (refine CallS.q ?_; (conv => whnf); first | refine CallG.plain rfl ?_ ?_ | refine CallG.mk rfl ?_ ?_) | (refine CallS.m ?_; (conv => whnf); refine CallM.mk rfl ?_ ?_) | (refine CallS.h ?_; (conv => whnf); refine CallM.mk rfl ?_ ?_) | (refine CallS.b ?_; (conv => whnf); refine CallM.mk rfl ?_ ?_) | (refine CallS.z ?_; (conv => whnf); refine CallM.mk rfl ?_ ?_))
  all_goals (try (conv => whnf))
  all_goals (try (exact Ob.mk (u8_bnd _)))
  all_goals (try (refine Ob.mk ?_; first | exact True.intro | assumption | omega | (try simp only [decide_eq_true_eq, decide_eq_false_iff_not, beq_iff_eq, beq_eq_false_iff_ne, bne_iff_ne, bne_eq_false_iff_eq, ne_eq, Bool.and_eq_true, Bool.or_eq_true, Bool.not_eq_true, Bool.not_eq_false, Bool.not_eq_true', Bool.not_eq_false', Int.toNat_natCast, Int.not_lt, Int.not_le, UInt8.ofNat_toNat, cast_eq] at *; omega)))
  all_goals (try ((show (_:Int) = _); omega))
  all_goals (try (show tupSV _ = _; with_unfolding_all rfl))
  all_goals (try ((show (_ : Nat) ≤ _); (simp <;> omega)))
  all_goals (try ((show (_ : Nat) ≤ _ ∧ (_ : Nat) ≤ _); (simp <;> omega)))
  all_goals (try ((show (_ : Int) ≤ _ ∧ (_ : Int) ≤ _ ∧ (_ : Int) ≤ _ ∧ (_ : Int) ≤ _); (simp <;> omega)))
  all_goals (try (rename_i h; exact absurd h (by decide)))
instance uWSa (x : List UInt8) : FnM BB 66 [.loc 0 0, .str x] [(0, wrU nilU .nils)] (x ≠ [] ∧ x.length ≤ 1000000) (.tup [.int .i64 x.length, .v .nilIface]) [(0, wrU (.loc 0 0) (.own 1)), (1, .own .byte x)] := by
  refine FnM.intro (N := 19) [0, 1, 4, 5] [] 1 Tryd.call66 Tryd.func66 rfl rfl (by kernel_rfl) (fun hpre => ?_)
  obtain ⟨hp1, hp2⟩ := hpre
  repeat' ((conv => whnf); first | (with_reducible rfl) | exact True.intro | (with_reducible exact absTF) | (with_reducible exact absFT) | intro _ | refine And.intro ?_ ?_ | refine Fin.mk ?_ | refine CallG.plain rfl ?_ ?_ | refine CallG.mk rfl ?_ ?_ | refine CallG.nwl rfl ?_ ?_ | refine CallG.nw ?_ ?_ | refine CallF.nwl rfl ?_ ?_ | refine CallF.nw ?_ ?_ | refine AppN.mk ?_ | (refine CallS.q ?_; (conv => whnf); first | refine CallG.plain rfl ?_ ?_ | refine CallG.mk rfl ?_ ?_) | (refine CallS.m ?_; (conv => whnf); refine CallM.mk rfl ?_ ?_) | (refine CallS.h ?_; (conv => whnf); refine CallM.mk rfl ?_ ?_) | (refine CallS.b ?_; (conv => whnf); refine CallM.mk rfl ?_ ?_) | (refine CallS.z ?_; (conv => whnf); refine CallM.mk rfl ?_ ?_))
  all_goals (try (conv => whnf))
  all_goals (try (exact Ob.mk (u8_bnd _)))
  all_goals (try (refine Ob.mk ?_; first | exact True.intro | assumption | omega | (try simp only [decide_eq_true_eq, decide_eq_false_iff_not, beq_iff_eq, beq_eq_false_iff_ne, bne_iff_ne, bne_eq_false_iff_eq, ne_eq, Bool.and_eq_true, Bool.or_eq_true, Bool.not_eq_true, Bool.not_eq_false, Bool.not_eq_true', Bool.not_eq_false', Int.toNat_natCast, Int.not_lt, Int.not_le, UInt8.ofNat_toNat, cast_eq] at *; omega)))
  all_goals (try ((show (_:Int) = _); omega))
  all_goals (try (show tupSV _ = _; with_unfolding_all rfl))
  all_goals (try ((show (_ : Nat) ≤ _); (simp <;> omega)))
  all_goals (try ((show (_ : Nat) ≤ _ ∧ (_ : Nat) ≤ _); (simp <;> omega)))
  all_goals (try ((show (_ : Int) ≤ _ ∧ (_ : Int) ≤ _ ∧ (_ : Int) ≤ _ ∧ (_ : Int) ≤ _); (simp <;> omega)))
instance uWSc (x l : List UInt8) : FnM BB 66 [.loc 0 0, .str x] [(0, wrU (.loc 0 0) (.own 1)), (1, .own .byte l)] (l.length ≤ 1000000 ∧ x.length ≤ 1000000) (.tup [.int .i64 x.length, .v .nilIface]) [(0, wrU (.loc 0 0) (.own 1)), (1, .own .byte (l ++ x))] := by
  refine FnM.intro (N := 19) [0, 1, 4, 5] [] 2 Tryd.call66 Tryd.func66 rfl rfl (by kernel_rfl) (fun hpre => ?_)
  obtain ⟨hp1, hp2⟩ := hpre
  repeat' ((conv => whnf); first | (with_reducible rfl) | exact True.intro | (with_reducible exact absTF) | (with_reducible exact absFT) | intro _ | refine And.intro ?_ ?_ | refine Fin.mk ?_ | refine CallG.plain rfl ?_ ?_ | refine CallG.mk rfl ?_ ?_ | refine CallG.nwl rfl ?_ ?_ | refine CallG.nw ?_ ?_ | refine CallF.nwl rfl ?_ ?_ | refine CallF.nw ?_ ?_ | refine AppN.mk ?_ | (refine CallS.q ?_; (conv => whnf); first | refine CallG.plain rfl ?_ ?_ | refine CallG.mk rfl ?_ ?_) | (refine CallS.m ?_; (conv => whnf); refine CallM.mk rfl ?_ ?_) | (refine CallS.h ?_; (conv => whnf); refine CallM.mk rfl ?_ ?_) | (refine CallS.b ?_; (conv => whnf); refine CallM.mk rfl ?_ ?_) | (refine CallS.z ?_; (conv => whnf); refine CallM.mk rfl ?_ ?_))
  all_goals (try (conv => whnf))
  all_goals (try (exact Ob.mk (u8_bnd _)))
  all_goals (try (refine Ob.mk ?_; first | exact True.intro | assumption | omega | (try simp only [decide_eq_true_eq, decide_eq_false_iff_not, beq_iff_eq, beq_eq_false_iff_ne, bne_iff_ne, bne_eq_false_iff_eq, ne_eq, Bool.and_eq_true, Bool.or_eq_true, Bool.not_eq_true, Bool.not_eq_false, Bool.not_eq_true', Bool.not_eq_false', Int.toNat_natCast, Int.not_lt, Int.not_le, UInt8.ofNat_toNat, cast_eq] at *; omega)))
  all_goals (try ((show (_:Int) = _); omega))
  all_goals (try (show tupSV _ = _; with_unfolding_all rfl))
  all_goals (try ((show (_ : Nat) ≤ _); (simp <;> omega)))
  all_goals (try ((show (_ : Nat) ≤ _ ∧ (_ : Nat) ≤ _); (simp <;> omega)))
  all_goals (try ((show (_ : Int) ≤ _ ∧ (_ : Int) ≤ _ ∧ (_ : Int) ≤ _ ∧ (_ : Int) ≤ _); (simp <;> omega)))
instance uWa (x : List UInt8) : FnM BB 68 [.loc 0 0, .rd .byte x] [(0, wrU nilU .nils)] (x ≠ [] ∧ x.length ≤ 1000000) (.tup [.int .i64 x.length, .v .nilIface]) [(0, wrU (.loc 0 0) (.own 1)), (1, .own .byte x)] := by
  refine FnM.intro (N := 19) [0, 1, 4, 5] [] 1 Tryd.call68 Tryd.func68 rfl rfl (by kernel_rfl) (fun hpre => ?_)
  obtain ⟨hp1, hp2⟩ := hpre
  repeat' ((conv => whnf); first | (with_reducible rfl) | exact True.intro | (with_reducible exact absTF) | (with_reducible exact absFT) | intro _ | refine And.intro ?_ ?_ | refine Fin.mk ?_ | refine CallG.plain rfl ?_ ?_ | refine CallG.mk rfl ?_ ?_ | refine CallG.nwl rfl ?_ ?_ | refine CallG.nw ?_ ?_ | refine CallF.nwl rfl ?_ ?_ | refine CallF.nw ?_ ?_ | refine AppN.mk ?_ | (refine CallS.q ?_; (conv => whnf); first | refine CallG.plain rfl ?_ ?_ | refine CallG.mk rfl ?_ ?_) | (refine CallS.m ?_; (conv => whnf); refine CallM.mk rfl ?_ ?_) | (refine CallS.h ?_; (conv => whnf); refine CallM.mk rfl ?_ ?_) | (refine CallS.b ?_; (conv => whnf); refine CallM.mk rfl ?_ ?_) | (refine CallS.z ?_; (conv => whnf); refine CallM.mk rfl ?_ ?_))
  all_goals (try (conv => whnf))
  all_goals (try (exact Ob.mk (u8_bnd _)))
  all_goals (try (refine Ob.mk ?_; first | exact True.intro | assumption | omega | (try simp only [decide_eq_true_eq, decide_eq_false_iff_not, beq_iff_eq, beq_eq_false_iff_ne, bne_iff_ne, bne_eq_false_iff_eq, ne_eq, Bool.and_eq_true, Bool.or_eq_true, Bool.not_eq_true, Bool.not_eq_false, Bool.not_eq_true', Bool.not_eq_false', Int.toNat_natCast, Int.not_lt, Int.not_le, UInt8.ofNat_toNat, cast_eq] at *; omega)))
  all_goals (try ((show (_:Int) = _); omega))
  all_goals (try (show tupSV _ = _; with_unfolding_all rfl))
  all_goals (try ((show (_ : Nat) ≤ _); (simp <;> omega)))
  all_goals (try ((show (_ : Nat) ≤ _ ∧ (_ : Nat) ≤ _); (simp <;> omega)))
  all_goals (try ((show (_ : Int) ≤ _ ∧ (_ : Int) ≤ _ ∧ (_ : Int) ≤ _ ∧ (_ : Int) ≤ _); (simp <;> omega)))
instance uWc (x l : List UInt8) : FnM BB 68 [.loc 0 0, .rd .byte x] [(0, wrU (.loc 0 0) (.own 1)), (1, .own .byte l)] (l.length ≤ 1000000 ∧ x.length ≤ 1000000) (.tup [.int .i64 x.length, .v .nilIface]) [(0, wrU (.loc 0 0) (.own 1)), (1, .own .byte (l ++ x))] := by
  refine FnM.intro (N := 19) [0, 1, 4, 5] [] 2 Tryd.call68 Tryd.func68 rfl rfl (by kernel_rfl) (fun hpre => ?_)
  obtain ⟨hp1, hp2⟩ := hpre
  repeat' ((conv => whnf); first | (with_reducible rfl) | exact True.intro | (with_reducible exact absTF) | (with_reducible exact absFT) | intro _ | refine And.intro ?_ ?_ | refine Fin.mk ?_ | refine CallG.plain rfl ?_ ?_ | refine CallG.mk rfl ?_ ?_ | refine CallG.nwl rfl ?_ ?_ | refine CallG.nw ?_ ?_ | refine CallF.nwl rfl ?_ ?_ | refine CallF.nw ?_ ?_ | refine AppN.mk ?_ | (refine CallS.q ?_; (conv => whnf); first | refine CallG.plain rfl ?_ ?_ | refine CallG.mk rfl ?_ ?_) | (refine CallS.m ?_; (conv => whnf); refine CallM.mk rfl ?_ ?_) | (refine CallS.h ?_; (conv => whnf); refine CallM.mk rfl ?_ ?_) | (refine CallS.b ?_; (conv => whnf); refine CallM.mk rfl ?_ ?_) | (refine CallS.z ?_; (conv => whnf); refine CallM.mk rfl ?_ ?_))
  all_goals (try (conv => whnf))
  all_goals (try (exact Ob.mk (u8_bnd _)))
  all_goals (try (refine Ob.mk ?_; first | exact True.intro | assumption | omega | (try simp only [decide_eq_true_eq, decide_eq_false_iff_not, beq_iff_eq, beq_eq_false_iff_ne, bne_iff_ne, bne_eq_false_iff_eq, ne_eq, Bool.and_eq_true, Bool.or_eq_true, Bool.not_eq_true, Bool.not_eq_false, Bool.not_eq_true', Bool.not_eq_false', Int.toNat_natCast, Int.not_lt, Int.not_le, UInt8.ofNat_toNat, cast_eq] at *; omega)))
  all_goals (try ((show (_:Int) = _); omega))
  all_goals (try (show tupSV _ = _; with_unfolding_all rfl))
  all_goals (try ((show (_ : Nat) ≤ _); (simp <;> omega)))
  all_goals (try ((show (_ : Nat) ≤ _ ∧ (_ : Nat) ≤ _); (simp <;> omega)))
  all_goals (try ((show (_ : Int) ≤ _ ∧ (_ : Int) ≤ _ ∧ (_ : Int) ≤ _ ∧ (_ : Int) ≤ _); (simp <;> omega)))
instance uWBa (c : Int) : FnM BB 67 [.loc 0 0, .int .u8 c] [(0, wrU nilU .nils)] (0 ≤ c ∧ c ≤ 255) (.v .nilIface) [(0, wrU (.loc 0 0) (.own 1)), (1, .own .byte [UInt8.ofNat c.toNat])] := by
  refine FnM.intro (N := 17) [0, 1, 4] [] 1 Tryd.call67 Tryd.func67 rfl rfl (by kernel_rfl) (fun hpre => ?_)
  repeat' ((conv => whnf); first | (with_reducible rfl) | exact True.intro | (with_reducible exact absTF) | (with_reducible exact absFT) | intro _ | refine And.intro ?_ ?_ | refine Fin.mk ?_ | refine CallG.plain rfl ?_ ?_ | refine CallG.mk rfl ?_ ?_ | refine CallG.nwl rfl ?_ ?_ | refine CallG.nw ?_ ?_ | refine CallF.nwl rfl ?_ ?_ | refine CallF.nw ?_ ?_ | refine AppN.mk ?_ | (refine CallS.q ?_; (conv => whnf); first | refine CallG.plain rfl ?_ ?_ | refine CallG.mk rfl ?_ ?_) | (refine CallS.m ?_; (conv => whnf); refine CallM.mk rfl ?_ ?_) | (refine CallS.h ?_; (conv => whnf); refine CallM.mk rfl ?_ ?_) | (refine CallS.b ?_; (conv => whnf); refine CallM.mk rfl ?_ ?_) | (refine CallS.z ?_; (conv => whnf); refine CallM.mk rfl ?_ ?_))
  all_goals (try (conv => whnf))
  all_goals (try (exact Ob.mk (u8_bnd _)))
  all_goals (try (refine Ob.mk ?_; first | exact True.intro | assumption | omega | (try simp only [decide_eq_true_eq, decide_eq_false_iff_not, beq_iff_eq, beq_eq_false_iff_ne, bne_iff_ne, bne_eq_false_iff_eq, ne_eq, Bool.and_eq_true, Bool.or_eq_true, Bool.not_eq_true, Bool.not_eq_false, Bool.not_eq_true', Bool.not_eq_false', Int.toNat_natCast, Int.not_lt, Int.not_le, UInt8.ofNat_toNat, cast_eq] at *; omega)))
  all_goals (try ((show (_:Int) = _); omega))
  all_goals (try (show tupSV _ = _; with_unfolding_all rfl))
  all_goals (try ((show (_ : Nat) ≤ _); (simp <;> omega)))
  all_goals (try ((show (_ : Nat) ≤ _ ∧ (_ : Nat) ≤ _); (simp <;> omega)))
  all_goals (try ((show (_ : Int) ≤ _ ∧ (_ : Int) ≤ _ ∧ (_ : Int) ≤ _ ∧ (_ : Int) ≤ _); (simp <;> omega)))
instance uWBc (c : Int) (l : List UInt8) : FnM BB 67 [.loc 0 0, .int .u8 c] [(0, wrU (.loc 0 0) (.own 1)), (1, .own .byte l)] (0 ≤ c ∧ c ≤ 255 ∧ l.length ≤ 1000000) (.v .nilIface) [(0, wrU (.loc 0 0) (.own 1)), (1, .own .byte (l ++ [UInt8.ofNat c.toNat]))] := by
  refine FnM.intro (N := 17) [0, 1, 4] [] 2 Tryd.call67 Tryd.func67 rfl rfl (by kernel_rfl) (fun hpre => ?_)
  repeat' ((conv => whnf); first | (with_reducible rfl) | exact True.intro | (with_reducible exact absTF) | (with_reducible exact absFT) | intro _ | refine And.intro ?_ ?_ | refine Fin.mk ?_ | refine CallG.plain rfl ?_ ?_ | refine CallG.mk rfl ?_ ?_ | refine CallG.nwl rfl ?_ ?_ | refine CallG.nw ?_ ?_ | refine CallF.nwl rfl ?_ ?_ | refine CallF.nw ?_ ?_ | refine AppN.mk ?_ | (refine CallS.q ?_; (conv => whnf); first | refine CallG.plain rfl ?_ ?_ | refine CallG.mk rfl ?_ ?_) | (refine CallS.m ?_; (conv => whnf); refine CallM.mk rfl ?_ ?_) | (refine CallS.h ?_; (conv => whnf); refine CallM.mk rfl ?_ ?_) | (refine CallS.b ?_; (conv => whnf); refine CallM.mk rfl ?_ ?_) | (refine CallS.z ?_; (conv => whnf); refine CallM.mk rfl ?_ ?_))
  all_goals (try (conv => whnf))
  all_goals (try (exact Ob.mk (u8_bnd _)))
  all_goals (try (refine Ob.mk ?_; first | exact True.intro | assumption | omega | (try simp only [decide_eq_true_eq, decide_eq_false_iff_not, beq_iff_eq, beq_eq_false_iff_ne, bne_iff_ne, bne_eq_false_iff_eq, ne_eq, Bool.and_eq_true, Bool.or_eq_true, Bool.not_eq_true, Bool.not_eq_false, Bool.not_eq_true', Bool.not_eq_false', Int.toNat_natCast, Int.not_lt, Int.not_le, UInt8.ofNat_toNat, cast_eq] at *; omega)))
  all_goals (try ((show (_:Int) = _); omega))
  all_goals (try (show tupSV _ = _; with_unfolding_all rfl))
  all_goals (try ((show (_ : Nat) ≤ _); (simp <;> omega)))
  all_goals (try ((show (_ : Nat) ≤ _ ∧ (_ : Nat) ≤ _); (simp <;> omega)))
  all_goals (try ((show (_ : Int) ≤ _ ∧ (_ : Int) ≤ _ ∧ (_ : Int) ≤ _ ∧ (_ : Int) ≤ _); (simp <;> omega)))
instance uStr (l : List UInt8) : FnM BB 69 [.loc 0 0] [(0, wrU (.loc 0 0) (.own 1)), (1, .own .byte l)] (l ≠ []) (.str l) [(0, wrU (.loc 0 0) .und)] := by
  refine FnM.intro (N := 14) [0, 2] [(1, [0, 0, 0, 4, 4, 0, 0, 0, 4, 4, 4, 4])] 2 Tryd.call69 Tryd.func69 rfl rfl (by kernel_rfl) (fun hpre => ?_)
  repeat' ((conv => whnf); first | (with_reducible rfl) | exact True.intro | (with_reducible exact absTF) | (with_reducible exact absFT) | intro _ | refine And.intro ?_ ?_ | refine Fin.mk ?_ | refine CallG.plain rfl ?_ ?_ | refine CallG.mk rfl ?_ ?_ | refine CallG.nwl rfl ?_ ?_ | refine CallG.nw ?_ ?_ | refine CallF.nwl rfl ?_ ?_ | refine CallF.nw ?_ ?_ | refine AppN.mk ?_ | (refine CallS.q ?_; (conv => whnf); first | refine CallG.plain rfl ?_ ?_ | refine CallG.mk rfl ?_ ?_) | (refine CallS.m ?_; (conv => whnf); refine CallM.mk rfl ?_ ?_) | (refine CallS.h ?_; (conv => whnf); refine CallM.mk rfl ?_ ?_) | (refine CallS.b ?_; (conv => whnf); refine CallM.mk rfl ?_ ?_) | (refine CallS.z ?_; (conv => whnf); refine CallM.mk rfl ?_ ?_))
  all_goals (try (conv => whnf))
  all_goals (try (exact Ob.mk (u8_bnd _)))
  all_goals (try (refine Ob.mk ?_; first | exact True.intro | assumption | omega | (try simp only [decide_eq_true_eq, decide_eq_false_iff_not, beq_iff_eq, beq_eq_false_iff_ne, bne_iff_ne, bne_eq_false_iff_eq, ne_eq, Bool.and_eq_true, Bool.or_eq_true, Bool.not_eq_true, Bool.not_eq_false, Bool.not_eq_true', Bool.not_eq_false', Int.toNat_natCast, Int.not_lt, Int.not_le, UInt8.ofNat_toNat, cast_eq] at *; omega)))
  all_goals (try ((show (_:Int) = _); omega))
  all_goals (try (show tupSV _ = _; with_unfolding_all rfl))
  all_goals (try ((show (_ : Nat) ≤ _); (simp <;> omega)))
  all_goals (try ((show (_ : Nat) ≤ _ ∧ (_ : Nat) ≤ _); (simp <;> omega)))
  all_goals (try ((show (_ : Int) ≤ _ ∧ (_ : Int) ≤ _ ∧ (_ : Int) ≤ _ ∧ (_ : Int) ≤ _); (simp <;> omega)))
  all_goals (exact ⟨rfl, hpre⟩)
instance uStrN : FnM BB 69 [.loc 0 0] [(0, wrU nilU .nils)] True (.str []) [(0, wrU nilU .nils)] := by
  refine FnM.intro (N := 14) [0, 2] [(1, [0, 0, 0, 4, 4, 0, 0, 0, 4, 4, 4, 4])] 2 Tryd.call69 Tryd.func69 rfl rfl (by kernel_rfl) (fun hpre => ?_)
  repeat' ((conv => whnf); first | (with_reducible rfl) | exact True.intro | (with_reducible exact absTF) | (with_reducible exact absFT) | intro _ | refine And.intro ?_ ?_ | refine Fin.mk ?_ | refine CallG.plain rfl ?_ ?_ | refine CallG.mk rfl ?_ ?_ | refine CallG.nwl rfl ?_ ?_ | refine CallG.nw ?_ ?_ | refine CallF.nwl rfl ?_ ?_ | refine CallF.nw ?_ ?_ | refine AppN.mk ?_ | (refine CallS.q ?_; (conv => whnf); first | refine CallG.plain rfl ?_ ?_ | refine CallG.mk rfl ?_ ?_) | (refine CallS.m ?_; (conv => whnf); refine CallM.mk rfl ?_ ?_) | (refine CallS.h ?_; (conv => whnf); refine CallM.mk rfl ?_ ?_) | (refine CallS.b ?_; (conv => whnf); refine CallM.mk rfl ?_ ?_) | (refine CallS.z ?_; (conv => whnf); refine CallM.mk rfl ?_ ?_))
  all_goals (try (conv => whnf))
  all_goals (try (exact Ob.mk (u8_bnd _)))
  all_goals (try (refine Ob.mk ?_; first | exact True.intro | assumption | omega | (try simp only [decide_eq_true_eq, decide_eq_false_iff_not, beq_iff_eq, beq_eq_false_iff_ne, bne_iff_ne, bne_eq_false_iff_eq, ne_eq, Bool.and_eq_true, Bool.or_eq_true, Bool.not_eq_true, Bool.not_eq_false, Bool.not_eq_true', Bool.not_eq_false', Int.toNat_natCast, Int.not_lt, Int.not_le, UInt8.ofNat_toNat, cast_eq] at *; omega)))
  all_goals (try ((show (_:Int) = _); omega))
  all_goals (try (show tupSV _ = _; with_unfolding_all rfl))
  all_goals (try ((show (_ : Nat) ≤ _); (simp <;> omega)))
  all_goals (try ((show (_ : Nat) ≤ _ ∧ (_ : Nat) ≤ _); (simp <;> omega)))
  all_goals (try ((show (_ : Int) ≤ _ ∧ (_ : Int) ≤ _ ∧ (_ : Int) ≤ _ ∧ (_ : Int) ≤ _); (simp <;> omega)))
end Go.Vc

namespace Go.Vc
open Go.Proofs
set_option linter.unusedVariables false
set_option maxRecDepth 10000
set_option linter.unusedSimpArgs false
set_option maxHeartbeats 8000000
def wuF (u : Bool) (b : List UInt8) : Phi :=
  match u with
  | false => [(0, wrU nilU .nils)]
  | true => [(0, wrU (.loc 0 0) (.own 1)), (1, .own .byte b)]
structure UI (l : List UInt8) (u : Bool) (i : Nat) (b : List UInt8) : Prop where
  hi : i ≤ l.length
  h0 : u = false → i = 0 ∧ b = []
  h1 : u = true → b ≠ []
  eq : b ++ decU (l.drop i) = decU l
  bnd : b.length ≤ 3 * i
theorem UI.step {l u i b} (h : UI l u i b) (hl : i < l.length) {c : List UInt8} {k : Nat} (hc : chrU (l.drop i) = c) (hk : stepU (l.drop i) = k) : UI l true (i + k) (b ++ c) := by
  subst hc; subst hk
  obtain ⟨hi, h0, h1, eq, bnd⟩ := h
  have hd : l.drop i ≠ [] := by intro h; have := congrArg List.length h; rw [List.length_drop] at this; simp at this; omega
  have hs := stepU_bnd _ hd
  have hc := chrU_len _ hd
  have hld : (l.drop i).length = l.length - i := List.length_drop
  refine ⟨by omega, (fun h => by cases h), fun _ h => ?_, ?_, ?_⟩
  · have := congrArg List.length h; rw [List.length_append] at this; simp only [List.length_nil] at this; omega
  · rw [← eq, decU_eq _ hd, List.drop_drop, List.append_assoc]
  · rw [List.length_append]; omega
theorem decU3 (d : List UInt8) : (okU d = false ∧ Lib.decodeL d = (65533, 1)) ∨ (okU d = true ∧ (Lib.decodeL d).2 = cutU d ∧ (((d.getD 0 0).toNat < 128 ∧ (Lib.decodeL d).1 = (d.getD 0 0).toNat ∧ cutU d = 1) ∨ (128 ≤ (d.getD 0 0).toNat ∧ 2 ≤ cutU d ∧ 128 ≤ (Lib.decodeL d).1))) := by
  cases h : okU d with
  | false => exact .inl ⟨rfl, decL_bad h⟩
  | true =>
    obtain ⟨h1, h2, h3⟩ := decL_ok h
    refine .inr ⟨rfl, h1, ?_⟩
    rcases Nat.lt_or_ge (d.getD 0 0).toNat 128 with hh | hh
    · exact .inl ⟨hh, h2 hh⟩
    · exact .inr ⟨hh, h3 hh⟩
theorem st_bad {d : List UInt8} (h : okU d = false) : stepU d = cutU d ∧ chrU d = oddU := by
  refine ⟨?_, ?_⟩
  · unfold stepU; rw [if_neg (by rw [h]; simp)]
  · unfold chrU; rw [if_pos (.inl h)]
theorem b_of {c : UInt8} (k : Nat) (h : c.toNat = k) : c = UInt8.ofNat k := by rw [← h, UInt8.ofNat_toNat]
theorem st_nul {d : List UInt8} (h : okU d = true) (h0 : (d.getD 0 0).toNat = 0) : stepU d = cutU d ∧ chrU d = oddU := by
  have h0 : d.getD 0 0 = 0 := b_of 0 h0
  refine ⟨?_, ?_⟩
  · unfold stepU; rw [if_neg (by rw [h0]; rintro ⟨_, h, _⟩; cases h)]
  · unfold chrU; rw [if_pos (.inr h0)]
theorem st_cr {d : List UInt8} (h : okU d = true) (h0 : (d.getD 0 0).toNat = 13) : stepU d = (if 1 < d.length ∧ (d.getD 1 0).toNat = 10 then 2 else cutU d) ∧ chrU d = [10] := by
  have h0 : d.getD 0 0 = 13 := b_of 13 h0
  refine ⟨?_, ?_⟩
  · unfold stepU
    have : d.getD 1 0 = 10 ↔ (d.getD 1 0).toNat = 10 := ⟨fun h => by rw [h]; rfl, fun h => b_of 10 h⟩
    simp only [this, h, h0, true_and]
  · unfold chrU; rw [if_neg (by rw [h, h0]; simp), if_pos h0]
theorem st_any {d : List UInt8} (h : okU d = true) (h0 : (d.getD 0 0).toNat ≠ 0) (h1 : (d.getD 0 0).toNat ≠ 13) : stepU d = cutU d ∧ chrU d = d.take (cutU d) := by
  have h0 : d.getD 0 0 ≠ 0 := fun h => h0 (by rw [h]; rfl)
  have h1 : d.getD 0 0 ≠ 13 := fun h => h1 (by rw [h]; rfl)
  refine ⟨?_, ?_⟩
  · unfold stepU; rw [if_neg (fun h => h1 h.2.1)]
  · unfold chrU; rw [if_neg (fun q => q.elim (fun q => by rw [h] at q; cases q) h0), if_neg h1]
theorem q1t {d : List UInt8} (h : (((Lib.decodeL d).1 : Int) == 65533 && ((Lib.decodeL d).2 : Int) == 1) = true) : okU d = false := by
  simp only [Bool.and_eq_true, beq_iff_eq] at h
  rcases decU3 d with ⟨h1, h2⟩ | ⟨h1, h2, h3 | h3⟩
  · exact h1
  · omega
  · omega
theorem q1f {d : List UInt8} (h : (((Lib.decodeL d).1 : Int) == 65533 && ((Lib.decodeL d).2 : Int) == 1) = false) : okU d = true ∧ (Lib.decodeL d).2 = cutU d := by
  rcases decU3 d with ⟨h1, h2⟩ | ⟨h1, h2, h3⟩
  · rw [h2] at h; exact absurd h (by decide)
  · exact ⟨h1, h2⟩
theorem q2 {d : List UInt8} (h : okU d = true) {k : Nat} (hk : k < 128) : (((Lib.decodeL d).1 : Int) == (k : Int)) = decide ((d.getD 0 0).toNat = k) := by
  rw [Bool.eq_iff_iff, beq_iff_eq, decide_eq_true_eq]
  rcases decU3 d with ⟨h1, h2⟩ | ⟨h1, h2, h3 | h3⟩
  · rw [h] at h1; cases h1
  · omega
  · omega
theorem q2t {d : List UInt8} (h : okU d = true) {k : Nat} (hk : k < 128) (hh : (((Lib.decodeL d).1 : Int) == (k : Int)) = true) : (d.getD 0 0).toNat = k := by
  rw [q2 h hk] at hh; exact of_decide_eq_true hh
theorem q2f {d : List UInt8} (h : okU d = true) {k : Nat} (hk : k < 128) (hh : (((Lib.decodeL d).1 : Int) == (k : Int)) = false) : (d.getD 0 0).toNat ≠ k := by
  rw [q2 h hk] at hh; exact of_decide_eq_false hh
theorem dec_n (d : List UInt8) (h : d ≠ []) : 1 ≤ (Lib.decodeL d).2 ∧ (Lib.decodeL d).2 ≤ d.length ∧ (Lib.decodeL d).2 ≤ 4 := by
  have := cutU_bnd d h
  have hl : 1 ≤ d.length := List.length_pos_iff.mpr h
  rcases decU3 d with ⟨h1, h2⟩ | ⟨h1, h2, h3⟩
  · rw [h2]; exact ⟨by decide, hl, by decide⟩
  · omega
instance fDecode (l : List UInt8) : Fn BB 25 [.rd .byte l] (l.length ≤ 100000) (.str (decU l)) := by
  refine Fn.intro (N := 49) [0, 2, 3, 4, 5, 8, 18, 28, 32, 44] [] Tryd.call25 Tryd.func25 rfl rfl (by kernel_rfl) (fun hpre => ?_)
  repeat' ((conv => whnf); first | (with_reducible rfl) | exact True.intro | (with_reducible exact absTF) | (with_reducible exact absFT) | intro _ | refine And.intro ?_ ?_ | refine Fin.mk ?_ | refine CallG.plain rfl ?_ ?_ | refine CallG.mk rfl ?_ ?_ | refine CallG.nwl rfl ?_ ?_ | refine CallG.nw ?_ ?_ | refine CallF.nwl rfl ?_ ?_ | refine CallF.nw ?_ ?_ | refine AppN.mk ?_ | (refine CallS.q ?_; (conv => whnf); first | refine CallG.plain rfl ?_ ?_ | refine CallG.mk rfl ?_ ?_) | (refine CallS.m ?_; (conv => whnf); refine CallM.mk rfl ?_ ?_) | (refine CallS.h ?_; (conv => whnf); refine CallM.mk rfl ?_ ?_) | (refine CallS.b ?_; (conv => whnf); refine CallM.mk rfl ?_ ?_) | (refine CallS.z ?_; (conv => whnf); refine CallM.mk rfl ?_ ?_))
  all_goals (try (conv => whnf))
  all_goals (try (exact Ob.mk (u8_bnd _)))
  all_goals (try (refine Ob.mk ?_; first | exact True.intro | assumption | omega | (try simp only [decide_eq_true_eq, decide_eq_false_iff_not, beq_iff_eq, beq_eq_false_iff_ne, bne_iff_ne, bne_eq_false_iff_eq, ne_eq, Bool.and_eq_true, Bool.or_eq_true, Bool.not_eq_true, Bool.not_eq_false, Bool.not_eq_true', Bool.not_eq_false', Int.toNat_natCast, Int.not_lt, Int.not_le, UInt8.ofNat_toNat, cast_eq] at *; omega)))
  all_goals (try ((show (_:Int) = _); omega))
  all_goals (try (show tupSV _ = _; with_unfolding_all rfl))
  all_goals (try ((show (_ : Nat) ≤ _); (simp <;> omega)))
  all_goals (try ((show (_ : Nat) ≤ _ ∧ (_ : Nat) ≤ _); (simp <;> omega)))
  all_goals (try ((show (_ : Int) ≤ _ ∧ (_ : Int) ≤ _ ∧ (_ : Int) ≤ _ ∧ (_ : Int) ≤ _); (simp <;> omega)))
  refine LoopStop.mk (α := Bool × Nat × List UInt8) (fun a => [(0, .rd .byte (l.drop a.2.1))]) (fun a => wuF a.1 a.2.2) 20 (fun a => UI l a.1 a.2.1 a.2.2) (fun a => l.length - a.2.1) (false, 0, [])
    ⟨by simp, fun _ => ⟨rfl, rfl⟩, (fun h => by cases h), by simp, by simp⟩ ?_ (fun a ha => ?_)
  · repeat' ((conv => whnf); first | (with_reducible rfl) | exact True.intro | (with_reducible exact absTF) | (with_reducible exact absFT) | intro _ | refine And.intro ?_ ?_ | refine Fin.mk ?_ | refine CallG.plain rfl ?_ ?_ | refine CallG.mk rfl ?_ ?_ | refine CallG.nwl rfl ?_ ?_ | refine CallG.nw ?_ ?_ | refine CallF.nwl rfl ?_ ?_ | refine CallF.nw ?_ ?_ | refine AppN.mk ?_ | (refine CallS.q ?_; (conv => whnf); first | refine CallG.plain rfl ?_ ?_ | refine CallG.mk rfl ?_ ?_) | (refine CallS.m ?_; (conv => whnf); refine CallM.mk rfl ?_ ?_) | (refine CallS.h ?_; (conv => whnf); refine CallM.mk rfl ?_ ?_) | (refine CallS.b ?_; (conv => whnf); refine CallM.mk rfl ?_ ?_) | (refine CallS.z ?_; (conv => whnf); refine CallM.mk rfl ?_ ?_))
    all_goals (try (conv => whnf))
    all_goals (try (exact Ob.mk (u8_bnd _)))
    all_goals (try (refine Ob.mk ?_; first | exact True.intro | assumption | omega | (try simp only [decide_eq_true_eq, decide_eq_false_iff_not, beq_iff_eq, beq_eq_false_iff_ne, bne_iff_ne, bne_eq_false_iff_eq, ne_eq, Bool.and_eq_true, Bool.or_eq_true, Bool.not_eq_true, Bool.not_eq_false, Bool.not_eq_true', Bool.not_eq_false', Int.toNat_natCast, Int.not_lt, Int.not_le, UInt8.ofNat_toNat, cast_eq] at *; omega)))
    all_goals (try ((show (_:Int) = _); omega))
    all_goals (try (show tupSV _ = _; with_unfolding_all rfl))
    all_goals (try ((show (_ : Nat) ≤ _); (simp <;> omega)))
    all_goals (try ((show (_ : Nat) ≤ _ ∧ (_ : Nat) ≤ _); (simp <;> omega)))
    all_goals (try ((show (_ : Int) ≤ _ ∧ (_ : Int) ≤ _ ∧ (_ : Int) ≤ _ ∧ (_ : Int) ≤ _); (simp <;> omega)))
    all_goals rfl
  · obtain ⟨u, i, b⟩ := a
    have hi : i ≤ l.length := ha.hi
    have hbn : b.length ≤ 3 * i := ha.bnd
    replace ha : UI l u i b := ha
    have hld : (l.drop i).length = l.length - i := List.length_drop
    rcases Nat.lt_or_ge i l.length with hl | hl
    · have hd : l.drop i ≠ [] := by intro h; have := congrArg List.length h; rw [hld] at this; simp at this; omega
      have hcb := cutU_bnd _ hd
      have hdn := dec_n _ hd
      cases u
      · obtain ⟨rfl, rfl⟩ : i = 0 ∧ b = [] := ha.h0 rfl
        repeat' ((conv => whnf); first | (with_reducible rfl) | exact True.intro | (with_reducible exact absTF) | (with_reducible exact absFT) | intro _ | refine And.intro ?_ ?_ | refine Fin.mk ?_ | refine CallG.plain rfl ?_ ?_ | refine CallG.mk rfl ?_ ?_ | refine CallG.nwl rfl ?_ ?_ | refine CallG.nw ?_ ?_ | refine CallF.nwl rfl ?_ ?_ | refine CallF.nw ?_ ?_ | refine AppN.mk ?_ | (refine CallS.q ?_; (conv => whnf); first | refine CallG.plain rfl ?_ ?_ | refine CallG.mk rfl ?_ ?_) | (refine CallS.m ?_; (conv => whnf); refine CallM.mk rfl ?_ ?_) | (refine CallS.h ?_; (conv => whnf); refine CallM.mk rfl ?_ ?_) | (refine CallS.b ?_; (conv => whnf); refine CallM.mk rfl ?_ ?_) | (refine CallS.z ?_; (conv => whnf); refine CallM.mk rfl ?_ ?_))
        all_goals (try (conv => whnf))
        all_goals (try (exact Ob.mk (u8_bnd _)))
        all_goals (try (refine Ob.mk ?_; first | exact True.intro | assumption | omega | (try simp only [decide_eq_true_eq, decide_eq_false_iff_not, beq_iff_eq, beq_eq_false_iff_ne, bne_iff_ne, bne_eq_false_iff_eq, ne_eq, Bool.and_eq_true, Bool.or_eq_true, Bool.not_eq_true, Bool.not_eq_false, Bool.not_eq_true', Bool.not_eq_false', Int.toNat_natCast, Int.not_lt, Int.not_le, UInt8.ofNat_toNat, cast_eq] at *; omega)))
        all_goals (try ((show (_:Int) = _); omega))
        all_goals (try (show tupSV _ = _; with_unfolding_all rfl))
        all_goals (try ((show (_ : Nat) ≤ _); (simp <;> omega)))
        all_goals (try ((show (_ : Nat) ≤ _ ∧ (_ : Nat) ≤ _); (simp <;> omega)))
        all_goals (try ((show (_ : Int) ≤ _ ∧ (_ : Int) ≤ _ ∧ (_ : Int) ≤ _ ∧ (_ : Int) ≤ _); (simp <;> omega)))
        all_goals (try simp only [Int.toNat_natCast] at *)
        all_goals (try (first | exact hd | exact ⟨hd, by omega⟩ | exact ⟨by decide, by decide⟩ | (exfalso; have := of_decide_eq_false ‹decide (((List.drop 0 l).length : Int) > 0) = false›; omega)))
        all_goals (try (first | omega | (constructor <;> omega)))
        all_goals (try exact ⟨by decide, by omega⟩)
        all_goals (try (exact ⟨by decide, by decide, by omega⟩))
        all_goals (try (exact ⟨by omega, by decide⟩))
        · rename_i q1
          have ho := q1t q1
          refine Rnd.mk ⟨(true, 0 + cutU (l.drop 0), [] ++ oddU), ha.step hl (st_bad ho).2 (st_bad ho).1, by simp only []; omega, ?_⟩
          repeat' ((conv => whnf); first | (with_reducible rfl) | exact True.intro | (with_reducible exact absTF) | (with_reducible exact absFT) | intro _ | refine And.intro ?_ ?_ | refine Fin.mk ?_ | refine CallG.plain rfl ?_ ?_ | refine CallG.mk rfl ?_ ?_ | refine CallG.nwl rfl ?_ ?_ | refine CallG.nw ?_ ?_ | refine CallF.nwl rfl ?_ ?_ | refine CallF.nw ?_ ?_ | refine AppN.mk ?_ | (refine CallS.q ?_; (conv => whnf); first | refine CallG.plain rfl ?_ ?_ | refine CallG.mk rfl ?_ ?_) | (refine CallS.m ?_; (conv => whnf); refine CallM.mk rfl ?_ ?_) | (refine CallS.h ?_; (conv => whnf); refine CallM.mk rfl ?_ ?_) | (refine CallS.b ?_; (conv => whnf); refine CallM.mk rfl ?_ ?_) | (refine CallS.z ?_; (conv => whnf); refine CallM.mk rfl ?_ ?_))
          all_goals (try (conv => whnf))
          all_goals (try (exact Ob.mk (u8_bnd _)))
          all_goals (try (refine Ob.mk ?_; first | exact True.intro | assumption | omega | (try simp only [decide_eq_true_eq, decide_eq_false_iff_not, beq_iff_eq, beq_eq_false_iff_ne, bne_iff_ne, bne_eq_false_iff_eq, ne_eq, Bool.and_eq_true, Bool.or_eq_true, Bool.not_eq_true, Bool.not_eq_false, Bool.not_eq_true', Bool.not_eq_false', Int.toNat_natCast, Int.not_lt, Int.not_le, UInt8.ofNat_toNat, cast_eq] at *; omega)))
          all_goals (try ((show (_:Int) = _); omega))
          all_goals (try (show tupSV _ = _; with_unfolding_all rfl))
          all_goals (try ((show (_ : Nat) ≤ _); (simp <;> omega)))
          all_goals (try ((show (_ : Nat) ≤ _ ∧ (_ : Nat) ≤ _); (simp <;> omega)))
          all_goals (try ((show (_ : Int) ≤ _ ∧ (_ : Int) ≤ _ ∧ (_ : Int) ≤ _ ∧ (_ : Int) ≤ _); (simp <;> omega)))
          all_goals (first | rfl | (rw [List.drop_drop]; done) | (simp only [List.drop_drop]; done) | (show SV.rd _ (List.drop 2 (List.drop _ _)) = SV.rd _ _; rw [List.drop_drop]; done) | skip)
        · rename_i q1 q2
          obtain ⟨ho, en⟩ := q1f q1
          have h0 := q2t ho (k := 0) (by omega) q2
          rw [en] at *
          refine Rnd.mk ⟨(true, 0 + cutU (l.drop 0), [] ++ oddU), ha.step hl (st_nul ho h0).2 (st_nul ho h0).1, by simp only []; omega, ?_⟩
          repeat' ((conv => whnf); first | (with_reducible rfl) | exact True.intro | (with_reducible exact absTF) | (with_reducible exact absFT) | intro _ | refine And.intro ?_ ?_ | refine Fin.mk ?_ | refine CallG.plain rfl ?_ ?_ | refine CallG.mk rfl ?_ ?_ | refine CallG.nwl rfl ?_ ?_ | refine CallG.nw ?_ ?_ | refine CallF.nwl rfl ?_ ?_ | refine CallF.nw ?_ ?_ | refine AppN.mk ?_ | (refine CallS.q ?_; (conv => whnf); first | refine CallG.plain rfl ?_ ?_ | refine CallG.mk rfl ?_ ?_) | (refine CallS.m ?_; (conv => whnf); refine CallM.mk rfl ?_ ?_) | (refine CallS.h ?_; (conv => whnf); refine CallM.mk rfl ?_ ?_) | (refine CallS.b ?_; (conv => whnf); refine CallM.mk rfl ?_ ?_) | (refine CallS.z ?_; (conv => whnf); refine CallM.mk rfl ?_ ?_))
          all_goals (try (conv => whnf))
          all_goals (try (exact Ob.mk (u8_bnd _)))
          all_goals (try (refine Ob.mk ?_; first | exact True.intro | assumption | omega | (try simp only [decide_eq_true_eq, decide_eq_false_iff_not, beq_iff_eq, beq_eq_false_iff_ne, bne_iff_ne, bne_eq_false_iff_eq, ne_eq, Bool.and_eq_true, Bool.or_eq_true, Bool.not_eq_true, Bool.not_eq_false, Bool.not_eq_true', Bool.not_eq_false', Int.toNat_natCast, Int.not_lt, Int.not_le, UInt8.ofNat_toNat, cast_eq] at *; omega)))
          all_goals (try ((show (_:Int) = _); omega))
          all_goals (try (show tupSV _ = _; with_unfolding_all rfl))
          all_goals (try ((show (_ : Nat) ≤ _); (simp <;> omega)))
          all_goals (try ((show (_ : Nat) ≤ _ ∧ (_ : Nat) ≤ _); (simp <;> omega)))
          all_goals (try ((show (_ : Int) ≤ _ ∧ (_ : Int) ≤ _ ∧ (_ : Int) ≤ _ ∧ (_ : Int) ≤ _); (simp <;> omega)))
          all_goals (first | rfl | (rw [List.drop_drop]; done) | (simp only [List.drop_drop]; done) | (show SV.rd _ (List.drop 2 (List.drop _ _)) = SV.rd _ _; rw [List.drop_drop]; done) | skip)
        · rename_i q1 q2 q3 q5 q4
          obtain ⟨ho, en⟩ := q1f q1
          have h0 := q2t ho (k := 13) (by omega) q3
          simp only [Bool.and_eq_true, decide_eq_true_eq, beq_iff_eq] at q4
          have q4 : 1 < (l.drop 0).length ∧ ((l.drop 0).getD 1 0).toNat = 10 := ⟨by omega, by have := q4.2; exact Int.ofNat_inj.1 this⟩
          refine Rnd.mk ⟨(true, 0 + 2, [] ++ [10]), ha.step hl (st_cr ho h0).2 ((st_cr ho h0).1.trans (if_pos q4)), by simp only []; omega, ?_⟩
          repeat' ((conv => whnf); first | (with_reducible rfl) | exact True.intro | (with_reducible exact absTF) | (with_reducible exact absFT) | intro _ | refine And.intro ?_ ?_ | refine Fin.mk ?_ | refine CallG.plain rfl ?_ ?_ | refine CallG.mk rfl ?_ ?_ | refine CallG.nwl rfl ?_ ?_ | refine CallG.nw ?_ ?_ | refine CallF.nwl rfl ?_ ?_ | refine CallF.nw ?_ ?_ | refine AppN.mk ?_ | (refine CallS.q ?_; (conv => whnf); first | refine CallG.plain rfl ?_ ?_ | refine CallG.mk rfl ?_ ?_) | (refine CallS.m ?_; (conv => whnf); refine CallM.mk rfl ?_ ?_) | (refine CallS.h ?_; (conv => whnf); refine CallM.mk rfl ?_ ?_) | (refine CallS.b ?_; (conv => whnf); refine CallM.mk rfl ?_ ?_) | (refine CallS.z ?_; (conv => whnf); refine CallM.mk rfl ?_ ?_))
          all_goals (try (conv => whnf))
          all_goals (try (exact Ob.mk (u8_bnd _)))
          all_goals (try (refine Ob.mk ?_; first | exact True.intro | assumption | omega | (try simp only [decide_eq_true_eq, decide_eq_false_iff_not, beq_iff_eq, beq_eq_false_iff_ne, bne_iff_ne, bne_eq_false_iff_eq, ne_eq, Bool.and_eq_true, Bool.or_eq_true, Bool.not_eq_true, Bool.not_eq_false, Bool.not_eq_true', Bool.not_eq_false', Int.toNat_natCast, Int.not_lt, Int.not_le, UInt8.ofNat_toNat, cast_eq] at *; omega)))
          all_goals (try ((show (_:Int) = _); omega))
          all_goals (try (show tupSV _ = _; with_unfolding_all rfl))
          all_goals (try ((show (_ : Nat) ≤ _); (simp <;> omega)))
          all_goals (try ((show (_ : Nat) ≤ _ ∧ (_ : Nat) ≤ _); (simp <;> omega)))
          all_goals (try ((show (_ : Int) ≤ _ ∧ (_ : Int) ≤ _ ∧ (_ : Int) ≤ _ ∧ (_ : Int) ≤ _); (simp <;> omega)))
          all_goals (first | rfl | (rw [List.drop_drop]; done) | (simp only [List.drop_drop]; done) | (show SV.rd _ (List.drop 2 (List.drop _ _)) = SV.rd _ _; rw [List.drop_drop]; done) | skip)
        · rename_i q1 q2 q3 q5 q4
          obtain ⟨ho, en⟩ := q1f q1
          have h0 := q2t ho (k := 13) (by omega) q3
          have q4 : ¬ (1 < (l.drop 0).length ∧ ((l.drop 0).getD 1 0).toNat = 10) := by
            rintro ⟨h1, h2⟩
            simp only [Bool.and_eq_false_iff, decide_eq_false_iff_not, beq_eq_false_iff_ne] at q4
            rcases q4 with q | q
            · omega
            · exact q (by show (((l.drop 0).getD 1 0).toNat : Int) = 10; omega)
          rw [en] at *
          refine Rnd.mk ⟨(true, 0 + cutU (l.drop 0), [] ++ [10]), ha.step hl (st_cr ho h0).2 ((st_cr ho h0).1.trans (if_neg q4)), by simp only []; omega, ?_⟩
          repeat' ((conv => whnf); first | (with_reducible rfl) | exact True.intro | (with_reducible exact absTF) | (with_reducible exact absFT) | intro _ | refine And.intro ?_ ?_ | refine Fin.mk ?_ | refine CallG.plain rfl ?_ ?_ | refine CallG.mk rfl ?_ ?_ | refine CallG.nwl rfl ?_ ?_ | refine CallG.nw ?_ ?_ | refine CallF.nwl rfl ?_ ?_ | refine CallF.nw ?_ ?_ | refine AppN.mk ?_ | (refine CallS.q ?_; (conv => whnf); first | refine CallG.plain rfl ?_ ?_ | refine CallG.mk rfl ?_ ?_) | (refine CallS.m ?_; (conv => whnf); refine CallM.mk rfl ?_ ?_) | (refine CallS.h ?_; (conv => whnf); refine CallM.mk rfl ?_ ?_) | (refine CallS.b ?_; (conv => whnf); refine CallM.mk rfl ?_ ?_) | (refine CallS.z ?_; (conv => whnf); refine CallM.mk rfl ?_ ?_))
          all_goals (try (conv => whnf))
          all_goals (try (exact Ob.mk (u8_bnd _)))
          all_goals (try (refine Ob.mk ?_; first | exact True.intro | assumption | omega | (try simp only [decide_eq_true_eq, decide_eq_false_iff_not, beq_iff_eq, beq_eq_false_iff_ne, bne_iff_ne, bne_eq_false_iff_eq, ne_eq, Bool.and_eq_true, Bool.or_eq_true, Bool.not_eq_true, Bool.not_eq_false, Bool.not_eq_true', Bool.not_eq_false', Int.toNat_natCast, Int.not_lt, Int.not_le, UInt8.ofNat_toNat, cast_eq] at *; omega)))
          all_goals (try ((show (_:Int) = _); omega))
          all_goals (try (show tupSV _ = _; with_unfolding_all rfl))
          all_goals (try ((show (_ : Nat) ≤ _); (simp <;> omega)))
          all_goals (try ((show (_ : Nat) ≤ _ ∧ (_ : Nat) ≤ _); (simp <;> omega)))
          all_goals (try ((show (_ : Int) ≤ _ ∧ (_ : Int) ≤ _ ∧ (_ : Int) ≤ _ ∧ (_ : Int) ≤ _); (simp <;> omega)))
          all_goals (first | rfl | (rw [List.drop_drop]; done) | (simp only [List.drop_drop]; done) | (show SV.rd _ (List.drop 2 (List.drop _ _)) = SV.rd _ _; rw [List.drop_drop]; done) | skip)
        · refine ⟨fun h => ?_, by rw [List.length_take]; omega⟩
          have := congrArg List.length h
          rw [List.length_take] at this
          simp only [List.length_nil] at this
          omega
        · rename_i q1 q2 q3
          obtain ⟨ho, en⟩ := q1f q1
          have h0 := q2f ho (k := 0) (by omega) q2
          have h1 := q2f ho (k := 13) (by omega) q3
          rw [en] at *
          refine Rnd.mk ⟨(true, 0 + cutU (l.drop 0), [] ++ (l.drop 0).take (cutU (l.drop 0))), ha.step hl (st_any ho h0 h1).2 (st_any ho h0 h1).1, by simp only []; omega, ?_⟩
          repeat' ((conv => whnf); first | (with_reducible rfl) | exact True.intro | (with_reducible exact absTF) | (with_reducible exact absFT) | intro _ | refine And.intro ?_ ?_ | refine Fin.mk ?_ | refine CallG.plain rfl ?_ ?_ | refine CallG.mk rfl ?_ ?_ | refine CallG.nwl rfl ?_ ?_ | refine CallG.nw ?_ ?_ | refine CallF.nwl rfl ?_ ?_ | refine CallF.nw ?_ ?_ | refine AppN.mk ?_ | (refine CallS.q ?_; (conv => whnf); first | refine CallG.plain rfl ?_ ?_ | refine CallG.mk rfl ?_ ?_) | (refine CallS.m ?_; (conv => whnf); refine CallM.mk rfl ?_ ?_) | (refine CallS.h ?_; (conv => whnf); refine CallM.mk rfl ?_ ?_) | (refine CallS.b ?_; (conv => whnf); refine CallM.mk rfl ?_ ?_) | (refine CallS.z ?_; (conv => whnf); refine CallM.mk rfl ?_ ?_))
          all_goals (try (conv => whnf))
          all_goals (try (exact Ob.mk (u8_bnd _)))
          all_goals (try (refine Ob.mk ?_; first | exact True.intro | assumption | omega | (try simp only [decide_eq_true_eq, decide_eq_false_iff_not, beq_iff_eq, beq_eq_false_iff_ne, bne_iff_ne, bne_eq_false_iff_eq, ne_eq, Bool.and_eq_true, Bool.or_eq_true, Bool.not_eq_true, Bool.not_eq_false, Bool.not_eq_true', Bool.not_eq_false', Int.toNat_natCast, Int.not_lt, Int.not_le, UInt8.ofNat_toNat, cast_eq] at *; omega)))
          all_goals (try ((show (_:Int) = _); omega))
          all_goals (try (show tupSV _ = _; with_unfolding_all rfl))
          all_goals (try ((show (_ : Nat) ≤ _); (simp <;> omega)))
          all_goals (try ((show (_ : Nat) ≤ _ ∧ (_ : Nat) ≤ _); (simp <;> omega)))
          all_goals (try ((show (_ : Int) ≤ _ ∧ (_ : Int) ≤ _ ∧ (_ : Int) ≤ _ ∧ (_ : Int) ≤ _); (simp <;> omega)))
          all_goals (first | rfl | (rw [List.drop_drop]; done) | (simp only [List.drop_drop]; done) | (show SV.rd _ (List.drop 2 (List.drop _ _)) = SV.rd _ _; rw [List.drop_drop]; done) | skip)
      · have hb0 := ha.h1 rfl
        repeat' ((conv => whnf); first | (with_reducible rfl) | exact True.intro | (with_reducible exact absTF) | (with_reducible exact absFT) | intro _ | refine And.intro ?_ ?_ | refine Fin.mk ?_ | refine CallG.plain rfl ?_ ?_ | refine CallG.mk rfl ?_ ?_ | refine CallG.nwl rfl ?_ ?_ | refine CallG.nw ?_ ?_ | refine CallF.nwl rfl ?_ ?_ | refine CallF.nw ?_ ?_ | refine AppN.mk ?_ | (refine CallS.q ?_; (conv => whnf); first | refine CallG.plain rfl ?_ ?_ | refine CallG.mk rfl ?_ ?_) | (refine CallS.m ?_; (conv => whnf); refine CallM.mk rfl ?_ ?_) | (refine CallS.h ?_; (conv => whnf); refine CallM.mk rfl ?_ ?_) | (refine CallS.b ?_; (conv => whnf); refine CallM.mk rfl ?_ ?_) | (refine CallS.z ?_; (conv => whnf); refine CallM.mk rfl ?_ ?_))
        all_goals (try (conv => whnf))
        all_goals (try (exact Ob.mk (u8_bnd _)))
        all_goals (try (refine Ob.mk ?_; first | exact True.intro | assumption | omega | (try simp only [decide_eq_true_eq, decide_eq_false_iff_not, beq_iff_eq, beq_eq_false_iff_ne, bne_iff_ne, bne_eq_false_iff_eq, ne_eq, Bool.and_eq_true, Bool.or_eq_true, Bool.not_eq_true, Bool.not_eq_false, Bool.not_eq_true', Bool.not_eq_false', Int.toNat_natCast, Int.not_lt, Int.not_le, UInt8.ofNat_toNat, cast_eq] at *; omega)))
        all_goals (try ((show (_:Int) = _); omega))
        all_goals (try (show tupSV _ = _; with_unfolding_all rfl))
        all_goals (try ((show (_ : Nat) ≤ _); (simp <;> omega)))
        all_goals (try ((show (_ : Nat) ≤ _ ∧ (_ : Nat) ≤ _); (simp <;> omega)))
        all_goals (try ((show (_ : Int) ≤ _ ∧ (_ : Int) ≤ _ ∧ (_ : Int) ≤ _ ∧ (_ : Int) ≤ _); (simp <;> omega)))
        all_goals (try simp only [Int.toNat_natCast] at *)
        all_goals (try (first | exact hd | exact ⟨hd, by omega⟩ | exact ⟨by decide, by decide⟩ | exact ⟨by omega, by decide⟩ |  (exfalso; have := of_decide_eq_false ‹decide (((List.drop i l).length : Int) > 0) = false›; omega)))
        all_goals (try (first | omega | (constructor <;> omega)))
        all_goals (try exact ⟨by decide, by omega⟩)
        all_goals (try (exact ⟨by decide, by decide, by omega⟩))
        all_goals (try (exact ⟨by omega, by decide⟩))
        · rename_i q1
          have ho := q1t q1
          refine Rnd.mk ⟨(true, i + cutU (l.drop i), b ++ oddU), ha.step hl (st_bad ho).2 (st_bad ho).1, by simp only []; omega, ?_⟩
          repeat' ((conv => whnf); first | (with_reducible rfl) | exact True.intro | (with_reducible exact absTF) | (with_reducible exact absFT) | intro _ | refine And.intro ?_ ?_ | refine Fin.mk ?_ | refine CallG.plain rfl ?_ ?_ | refine CallG.mk rfl ?_ ?_ | refine CallG.nwl rfl ?_ ?_ | refine CallG.nw ?_ ?_ | refine CallF.nwl rfl ?_ ?_ | refine CallF.nw ?_ ?_ | refine AppN.mk ?_ | (refine CallS.q ?_; (conv => whnf); first | refine CallG.plain rfl ?_ ?_ | refine CallG.mk rfl ?_ ?_) | (refine CallS.m ?_; (conv => whnf); refine CallM.mk rfl ?_ ?_) | (refine CallS.h ?_; (conv => whnf); refine CallM.mk rfl ?_ ?_) | (refine CallS.b ?_; (conv => whnf); refine CallM.mk rfl ?_ ?_) | (refine CallS.z ?_; (conv => whnf); refine CallM.mk rfl ?_ ?_))
          all_goals (try (conv => whnf))
          all_goals (try (exact Ob.mk (u8_bnd _)))
          all_goals (try (refine Ob.mk ?_; first | exact True.intro | assumption | omega | (try simp only [decide_eq_true_eq, decide_eq_false_iff_not, beq_iff_eq, beq_eq_false_iff_ne, bne_iff_ne, bne_eq_false_iff_eq, ne_eq, Bool.and_eq_true, Bool.or_eq_true, Bool.not_eq_true, Bool.not_eq_false, Bool.not_eq_true', Bool.not_eq_false', Int.toNat_natCast, Int.not_lt, Int.not_le, UInt8.ofNat_toNat, cast_eq] at *; omega)))
          all_goals (try ((show (_:Int) = _); omega))
          all_goals (try (show tupSV _ = _; with_unfolding_all rfl))
          all_goals (try ((show (_ : Nat) ≤ _); (simp <;> omega)))
          all_goals (try ((show (_ : Nat) ≤ _ ∧ (_ : Nat) ≤ _); (simp <;> omega)))
          all_goals (try ((show (_ : Int) ≤ _ ∧ (_ : Int) ≤ _ ∧ (_ : Int) ≤ _ ∧ (_ : Int) ≤ _); (simp <;> omega)))
          all_goals (first | rfl | (rw [List.drop_drop]; done) | (simp only [List.drop_drop]; done) | (show SV.rd _ (List.drop 2 (List.drop _ _)) = SV.rd _ _; rw [List.drop_drop]; done) | skip)
        · rename_i q1 q2
          obtain ⟨ho, en⟩ := q1f q1
          have h0 := q2t ho (k := 0) (by omega) q2
          rw [en] at *
          refine Rnd.mk ⟨(true, i + cutU (l.drop i), b ++ oddU), ha.step hl (st_nul ho h0).2 (st_nul ho h0).1, by simp only []; omega, ?_⟩
          repeat' ((conv => whnf); first | (with_reducible rfl) | exact True.intro | (with_reducible exact absTF) | (with_reducible exact absFT) | intro _ | refine And.intro ?_ ?_ | refine Fin.mk ?_ | refine CallG.plain rfl ?_ ?_ | refine CallG.mk rfl ?_ ?_ | refine CallG.nwl rfl ?_ ?_ | refine CallG.nw ?_ ?_ | refine CallF.nwl rfl ?_ ?_ | refine CallF.nw ?_ ?_ | refine AppN.mk ?_ | (refine CallS.q ?_; (conv => whnf); first | refine CallG.plain rfl ?_ ?_ | refine CallG.mk rfl ?_ ?_) | (refine CallS.m ?_; (conv => whnf); refine CallM.mk rfl ?_ ?_) | (refine CallS.h ?_; (conv => whnf); refine CallM.mk rfl ?_ ?_) | (refine CallS.b ?_; (conv => whnf); refine CallM.mk rfl ?_ ?_) | (refine CallS.z ?_; (conv => whnf); refine CallM.mk rfl ?_ ?_))
          all_goals (try (conv => whnf))
          all_goals (try (exact Ob.mk (u8_bnd _)))
          all_goals (try (refine Ob.mk ?_; first | exact True.intro | assumption | omega | (try simp only [decide_eq_true_eq, decide_eq_false_iff_not, beq_iff_eq, beq_eq_false_iff_ne, bne_iff_ne, bne_eq_false_iff_eq, ne_eq, Bool.and_eq_true, Bool.or_eq_true, Bool.not_eq_true, Bool.not_eq_false, Bool.not_eq_true', Bool.not_eq_false', Int.toNat_natCast, Int.not_lt, Int.not_le, UInt8.ofNat_toNat, cast_eq] at *; omega)))
          all_goals (try ((show (_:Int) = _); omega))
          all_goals (try (show tupSV _ = _; with_unfolding_all rfl))
          all_goals (try ((show (_ : Nat) ≤ _); (simp <;> omega)))
          all_goals (try ((show (_ : Nat) ≤ _ ∧ (_ : Nat) ≤ _); (simp <;> omega)))
          all_goals (try ((show (_ : Int) ≤ _ ∧ (_ : Int) ≤ _ ∧ (_ : Int) ≤ _ ∧ (_ : Int) ≤ _); (simp <;> omega)))
          all_goals (first | rfl | (rw [List.drop_drop]; done) | (simp only [List.drop_drop]; done) | (show SV.rd _ (List.drop 2 (List.drop _ _)) = SV.rd _ _; rw [List.drop_drop]; done) | skip)
        · rename_i q1 q2 q3 q5 q4
          obtain ⟨ho, en⟩ := q1f q1
          have h0 := q2t ho (k := 13) (by omega) q3
          simp only [Bool.and_eq_true, decide_eq_true_eq, beq_iff_eq] at q4
          have q4 : 1 < (l.drop i).length ∧ ((l.drop i).getD 1 0).toNat = 10 := ⟨by omega, by have := q4.2; exact Int.ofNat_inj.1 this⟩
          refine Rnd.mk ⟨(true, i + 2, b ++ [10]), ha.step hl (st_cr ho h0).2 ((st_cr ho h0).1.trans (if_pos q4)), by simp only []; omega, ?_⟩
          repeat' ((conv => whnf); first | (with_reducible rfl) | exact True.intro | (with_reducible exact absTF) | (with_reducible exact absFT) | intro _ | refine And.intro ?_ ?_ | refine Fin.mk ?_ | refine CallG.plain rfl ?_ ?_ | refine CallG.mk rfl ?_ ?_ | refine CallG.nwl rfl ?_ ?_ | refine CallG.nw ?_ ?_ | refine CallF.nwl rfl ?_ ?_ | refine CallF.nw ?_ ?_ | refine AppN.mk ?_ | (refine CallS.q ?_; (conv => whnf); first | refine CallG.plain rfl ?_ ?_ | refine CallG.mk rfl ?_ ?_) | (refine CallS.m ?_; (conv => whnf); refine CallM.mk rfl ?_ ?_) | (refine CallS.h ?_; (conv => whnf); refine CallM.mk rfl ?_ ?_) | (refine CallS.b ?_; (conv => whnf); refine CallM.mk rfl ?_ ?_) | (refine CallS.z ?_; (conv => whnf); refine CallM.mk rfl ?_ ?_))
          all_goals (try (conv => whnf))
          all_goals (try (exact Ob.mk (u8_bnd _)))
          all_goals (try (refine Ob.mk ?_; first | exact True.intro | assumption | omega | (try simp only [decide_eq_true_eq, decide_eq_false_iff_not, beq_iff_eq, beq_eq_false_iff_ne, bne_iff_ne, bne_eq_false_iff_eq, ne_eq, Bool.and_eq_true, Bool.or_eq_true, Bool.not_eq_true, Bool.not_eq_false, Bool.not_eq_true', Bool.not_eq_false', Int.toNat_natCast, Int.not_lt, Int.not_le, UInt8.ofNat_toNat, cast_eq] at *; omega)))
          all_goals (try ((show (_:Int) = _); omega))
          all_goals (try (show tupSV _ = _; with_unfolding_all rfl))
          all_goals (try ((show (_ : Nat) ≤ _); (simp <;> omega)))
          all_goals (try ((show (_ : Nat) ≤ _ ∧ (_ : Nat) ≤ _); (simp <;> omega)))
          all_goals (try ((show (_ : Int) ≤ _ ∧ (_ : Int) ≤ _ ∧ (_ : Int) ≤ _ ∧ (_ : Int) ≤ _); (simp <;> omega)))
          all_goals (first | rfl | (rw [List.drop_drop]; done) | (simp only [List.drop_drop]; done) | (show SV.rd _ (List.drop 2 (List.drop _ _)) = SV.rd _ _; rw [List.drop_drop]; done) | skip)
        · rename_i q1 q2 q3 q5 q4
          obtain ⟨ho, en⟩ := q1f q1
          have h0 := q2t ho (k := 13) (by omega) q3
          have q4 : ¬ (1 < (l.drop i).length ∧ ((l.drop i).getD 1 0).toNat = 10) := by
            rintro ⟨h1, h2⟩
            simp only [Bool.and_eq_false_iff, decide_eq_false_iff_not, beq_eq_false_iff_ne] at q4
            rcases q4 with q | q
            · omega
            · exact q (by show (((l.drop i).getD 1 0).toNat : Int) = 10; omega)
          rw [en] at *
          refine Rnd.mk ⟨(true, i + cutU (l.drop i), b ++ [10]), ha.step hl (st_cr ho h0).2 ((st_cr ho h0).1.trans (if_neg q4)), by simp only []; omega, ?_⟩
          repeat' ((conv => whnf); first | (with_reducible rfl) | exact True.intro | (with_reducible exact absTF) | (with_reducible exact absFT) | intro _ | refine And.intro ?_ ?_ | refine Fin.mk ?_ | refine CallG.plain rfl ?_ ?_ | refine CallG.mk rfl ?_ ?_ | refine CallG.nwl rfl ?_ ?_ | refine CallG.nw ?_ ?_ | refine CallF.nwl rfl ?_ ?_ | refine CallF.nw ?_ ?_ | refine AppN.mk ?_ | (refine CallS.q ?_; (conv => whnf); first | refine CallG.plain rfl ?_ ?_ | refine CallG.mk rfl ?_ ?_) | (refine CallS.m ?_; (conv => whnf); refine CallM.mk rfl ?_ ?_) | (refine CallS.h ?_; (conv => whnf); refine CallM.mk rfl ?_ ?_) | (refine CallS.b ?_; (conv => whnf); refine CallM.mk rfl ?_ ?_) | (refine CallS.z ?_; (conv => whnf); refine CallM.mk rfl ?_ ?_))
          all_goals (try (conv => whnf))
          all_goals (try (exact Ob.mk (u8_bnd _)))
          all_goals (try (refine Ob.mk ?_; first | exact True.intro | assumption | omega | (try simp only [decide_eq_true_eq, decide_eq_false_iff_not, beq_iff_eq, beq_eq_false_iff_ne, bne_iff_ne, bne_eq_false_iff_eq, ne_eq, Bool.and_eq_true, Bool.or_eq_true, Bool.not_eq_true, Bool.not_eq_false, Bool.not_eq_true', Bool.not_eq_false', Int.toNat_natCast, Int.not_lt, Int.not_le, UInt8.ofNat_toNat, cast_eq] at *; omega)))
          all_goals (try ((show (_:Int) = _); omega))
          all_goals (try (show tupSV _ = _; with_unfolding_all rfl))
          all_goals (try ((show (_ : Nat) ≤ _); (simp <;> omega)))
          all_goals (try ((show (_ : Nat) ≤ _ ∧ (_ : Nat) ≤ _); (simp <;> omega)))
          all_goals (try ((show (_ : Int) ≤ _ ∧ (_ : Int) ≤ _ ∧ (_ : Int) ≤ _ ∧ (_ : Int) ≤ _); (simp <;> omega)))
          all_goals (first | rfl | (rw [List.drop_drop]; done) | (simp only [List.drop_drop]; done) | (show SV.rd _ (List.drop 2 (List.drop _ _)) = SV.rd _ _; rw [List.drop_drop]; done) | skip)
        · rename_i q1 q2 q3
          obtain ⟨ho, en⟩ := q1f q1
          have h0 := q2f ho (k := 0) (by omega) q2
          have h1 := q2f ho (k := 13) (by omega) q3
          rw [en] at *
          refine Rnd.mk ⟨(true, i + cutU (l.drop i), b ++ (l.drop i).take (cutU (l.drop i))), ha.step hl (st_any ho h0 h1).2 (st_any ho h0 h1).1, by simp only []; omega, ?_⟩
          repeat' ((conv => whnf); first | (with_reducible rfl) | exact True.intro | (with_reducible exact absTF) | (with_reducible exact absFT) | intro _ | refine And.intro ?_ ?_ | refine Fin.mk ?_ | refine CallG.plain rfl ?_ ?_ | refine CallG.mk rfl ?_ ?_ | refine CallG.nwl rfl ?_ ?_ | refine CallG.nw ?_ ?_ | refine CallF.nwl rfl ?_ ?_ | refine CallF.nw ?_ ?_ | refine AppN.mk ?_ | (refine CallS.q ?_; (conv => whnf); first | refine CallG.plain rfl ?_ ?_ | refine CallG.mk rfl ?_ ?_) | (refine CallS.m ?_; (conv => whnf); refine CallM.mk rfl ?_ ?_) | (refine CallS.h ?_; (conv => whnf); refine CallM.mk rfl ?_ ?_) | (refine CallS.b ?_; (conv => whnf); refine CallM.mk rfl ?_ ?_) | (refine CallS.z ?_; (conv => whnf); refine CallM.mk rfl ?_ ?_))
          all_goals (try (conv => whnf))
          all_goals (try (exact Ob.mk (u8_bnd _)))
          all_goals (try (refine Ob.mk ?_; first | exact True.intro | assumption | omega | (try simp only [decide_eq_true_eq, decide_eq_false_iff_not, beq_iff_eq, beq_eq_false_iff_ne, bne_iff_ne, bne_eq_false_iff_eq, ne_eq, Bool.and_eq_true, Bool.or_eq_true, Bool.not_eq_true, Bool.not_eq_false, Bool.not_eq_true', Bool.not_eq_false', Int.toNat_natCast, Int.not_lt, Int.not_le, UInt8.ofNat_toNat, cast_eq] at *; omega)))
          all_goals (try ((show (_:Int) = _); omega))
          all_goals (try (show tupSV _ = _; with_unfolding_all rfl))
          all_goals (try ((show (_ : Nat) ≤ _); (simp <;> omega)))
          all_goals (try ((show (_ : Nat) ≤ _ ∧ (_ : Nat) ≤ _); (simp <;> omega)))
          all_goals (try ((show (_ : Int) ≤ _ ∧ (_ : Int) ≤ _ ∧ (_ : Int) ≤ _ ∧ (_ : Int) ≤ _); (simp <;> omega)))
          all_goals (first | rfl | (rw [List.drop_drop]; done) | (simp only [List.drop_drop]; done) | (show SV.rd _ (List.drop 2 (List.drop _ _)) = SV.rd _ _; rw [List.drop_drop]; done) | skip)
    · have hil : i = l.length := by omega
      have hd : l.drop i = [] := List.drop_eq_nil_of_le (by omega)
      have heq := ha.eq
      rw [hd, decU_nil, List.append_nil] at heq
      cases u
      · obtain ⟨rfl, rfl⟩ : i = 0 ∧ b = [] := ha.h0 rfl
        repeat' ((conv => whnf); first | (with_reducible rfl) | exact True.intro | (with_reducible exact absTF) | (with_reducible exact absFT) | intro _ | refine And.intro ?_ ?_ | refine Fin.mk ?_ | refine CallG.plain rfl ?_ ?_ | refine CallG.mk rfl ?_ ?_ | refine CallG.nwl rfl ?_ ?_ | refine CallG.nw ?_ ?_ | refine CallF.nwl rfl ?_ ?_ | refine CallF.nw ?_ ?_ | refine AppN.mk ?_ | (refine CallS.q ?_; (conv => whnf); first | refine CallG.plain rfl ?_ ?_ | refine CallG.mk rfl ?_ ?_) | (refine CallS.m ?_; (conv => whnf); refine CallM.mk rfl ?_ ?_) | (refine CallS.h ?_; (conv => whnf); refine CallM.mk rfl ?_ ?_) | (refine CallS.b ?_; (conv => whnf); refine CallM.mk rfl ?_ ?_) | (refine CallS.z ?_; (conv => whnf); refine CallM.mk rfl ?_ ?_))
        all_goals (try (conv => whnf))
        all_goals (try (exact Ob.mk (u8_bnd _)))
        all_goals (try (refine Ob.mk ?_; first | exact True.intro | assumption | omega | (try simp only [decide_eq_true_eq, decide_eq_false_iff_not, beq_iff_eq, beq_eq_false_iff_ne, bne_iff_ne, bne_eq_false_iff_eq, ne_eq, Bool.and_eq_true, Bool.or_eq_true, Bool.not_eq_true, Bool.not_eq_false, Bool.not_eq_true', Bool.not_eq_false', Int.toNat_natCast, Int.not_lt, Int.not_le, UInt8.ofNat_toNat, cast_eq] at *; omega)))
        all_goals (try ((show (_:Int) = _); omega))
        all_goals (try (show tupSV _ = _; with_unfolding_all rfl))
        all_goals (try ((show (_ : Nat) ≤ _); (simp <;> omega)))
        all_goals (try ((show (_ : Nat) ≤ _ ∧ (_ : Nat) ≤ _); (simp <;> omega)))
        all_goals (try ((show (_ : Int) ≤ _ ∧ (_ : Int) ≤ _ ∧ (_ : Int) ≤ _ ∧ (_ : Int) ≤ _); (simp <;> omega)))
        all_goals (try (exfalso; have := of_decide_eq_true ‹decide (((List.drop 0 l).length : Int) > 0) = true›; omega))
        all_goals (try (rw [← heq]))
      · have hb0 := ha.h1 rfl
        repeat' ((conv => whnf); first | (with_reducible rfl) | exact True.intro | (with_reducible exact absTF) | (with_reducible exact absFT) | intro _ | refine And.intro ?_ ?_ | refine Fin.mk ?_ | refine CallG.plain rfl ?_ ?_ | refine CallG.mk rfl ?_ ?_ | refine CallG.nwl rfl ?_ ?_ | refine CallG.nw ?_ ?_ | refine CallF.nwl rfl ?_ ?_ | refine CallF.nw ?_ ?_ | refine AppN.mk ?_ | (refine CallS.q ?_; (conv => whnf); first | refine CallG.plain rfl ?_ ?_ | refine CallG.mk rfl ?_ ?_) | (refine CallS.m ?_; (conv => whnf); refine CallM.mk rfl ?_ ?_) | (refine CallS.h ?_; (conv => whnf); refine CallM.mk rfl ?_ ?_) | (refine CallS.b ?_; (conv => whnf); refine CallM.mk rfl ?_ ?_) | (refine CallS.z ?_; (conv => whnf); refine CallM.mk rfl ?_ ?_))
        all_goals (try (conv => whnf))
        all_goals (try (exact Ob.mk (u8_bnd _)))
        all_goals (try (refine Ob.mk ?_; first | exact True.intro | assumption | omega | (try simp only [decide_eq_true_eq, decide_eq_false_iff_not, beq_iff_eq, beq_eq_false_iff_ne, bne_iff_ne, bne_eq_false_iff_eq, ne_eq, Bool.and_eq_true, Bool.or_eq_true, Bool.not_eq_true, Bool.not_eq_false, Bool.not_eq_true', Bool.not_eq_false', Int.toNat_natCast, Int.not_lt, Int.not_le, UInt8.ofNat_toNat, cast_eq] at *; omega)))
        all_goals (try ((show (_:Int) = _); omega))
        all_goals (try (show tupSV _ = _; with_unfolding_all rfl))
        all_goals (try ((show (_ : Nat) ≤ _); (simp <;> omega)))
        all_goals (try ((show (_ : Nat) ≤ _ ∧ (_ : Nat) ≤ _); (simp <;> omega)))
        all_goals (try ((show (_ : Int) ≤ _ ∧ (_ : Int) ≤ _ ∧ (_ : Int) ≤ _ ∧ (_ : Int) ≤ _); (simp <;> omega)))
        all_goals (try (exfalso; have := of_decide_eq_true ‹decide (((List.drop i l).length : Int) > 0) = true›; omega))
        all_goals (try (first | exact hb0 | (rw [← heq])))
end Go.Vc

namespace Go.Vc
open Go.Proofs
set_option linter.unusedVariables false
set_option maxRecDepth 10000
set_option linter.unusedSimpArgs false
set_option maxHeartbeats 8000000
structure RI (l : List UInt8) (i : Nat) (b : List UInt8) : Prop where
  hi : i ≤ l.length
  eq : b ++ decU (l.drop i) = decU l
  bnd : b.length ≤ 3 * i
theorem RI.step {l i b} (h : RI l i b) (hl : i < l.length) {c : List UInt8} {k : Nat} (hc : chrU (l.drop i) = c) (hk : stepU (l.drop i) = k) : RI l (i + k) (b ++ c) := by
  subst hc; subst hk
  obtain ⟨hi, eq, bnd⟩ := h
  have hd : l.drop i ≠ [] := by intro h; have := congrArg List.length h; rw [List.length_drop] at this; simp at this; omega
  have hs := stepU_bnd _ hd
  have hc := chrU_len _ hd
  have hld : (l.drop i).length = l.length - i := List.length_drop
  refine ⟨by omega, ?_, by rw [List.length_append]; omega⟩
  rw [← eq, decU_eq _ hd, List.drop_drop, List.append_assoc]
end Go.Vc

namespace Go.Vc
open Go.Proofs
open Go.Vc.W
set_option linter.unusedVariables false
set_option maxRecDepth 10000
set_option linter.unusedSimpArgs false
set_option maxHeartbeats 4000000
theorem take_all {α : Type} (p : α → Bool) (l : List α) (i : Nat) (d : α) (h : i < l.length) : (l.take (i + 1)).all p = ((l.take i).all p && p (l.getD i d)) := by
  rw [List.take_succ_eq_append_getElem h, List.all_append]; simp [List.getD, List.getElem?_eq_getElem h]
theorem all_false_at {α : Type} {p : α → Bool} {l : List α} {i : Nat} {d : α} (h : i < l.length) (hp : p (l.getD i d) = false) : l.all p = false := by
  rw [List.all_eq_false]
  refine ⟨l.getD i d, ?_, by rw [hp]; simp⟩
  simp [List.getD, List.getElem?_eq_getElem h]
abbrev AttrD := attrTy.T
def attrsOk (l : List AttrD) : Bool := decide (l.length ≤ 14) && l.all fun a => decide (a.1.length ≤ 40) && decide (a.2.length ≤ 150)
instance f33 (l : List AttrD) : Fn BB 40 [.rd attrTy l] True (.bool (attrsOk l)) := by
  refine Fn.intro (N := 25) [0, 2, 4, 7, 8, 9, 10, 11, 23] [] Tryd.call40 Tryd.func40 rfl rfl (by kernel_rfl) (fun hpre => ?_)
  repeat' ((conv => whnf); first | (with_reducible rfl) | exact True.intro | (with_reducible exact absTF) | (with_reducible exact absFT) | intro _ | refine And.intro ?_ ?_ | refine Fin.mk ?_ | refine CallG.plain rfl ?_ ?_ | refine CallG.mk rfl ?_ ?_ | refine CallG.nwl rfl ?_ ?_ | refine CallG.nw ?_ ?_ | refine CallF.nwl rfl ?_ ?_ | refine CallF.nw ?_ ?_ | refine AppN.mk ?_ | (refine CallS.q ?_; (conv => whnf); first | refine CallG.plain rfl ?_ ?_ | refine CallG.mk rfl ?_ ?_) | (refine CallS.m ?_; (conv => whnf); refine CallM.mk rfl ?_ ?_) | (refine CallS.h ?_; (conv => whnf); refine CallM.mk rfl ?_ ?_) | (refine CallS.b ?_; (conv => whnf); refine CallM.mk rfl ?_ ?_) | (refine CallS.z ?_; (conv => whnf); refine CallM.mk rfl ?_ ?_))
  all_goals (try (conv => whnf))
  · simp only [attrsOk, decide_eq_true_eq] at *
    rw [decide_eq_false (by omega)]; rfl
  · refine LoopStop.mk (α := Nat) (fun i => [(10, .int .i64 i)]) (fun _ => []) 0 (fun i => i ≤ l.length ∧ (l.take i).all (fun a => decide (a.1.length ≤ 40) && decide (a.2.length ≤ 150)) = true) (fun i => l.length - i) 0 (by simp) ?_ (fun i hi => ?_)
    · repeat' ((conv => whnf); first | (with_reducible rfl) | exact True.intro | (with_reducible exact absTF) | (with_reducible exact absFT) | intro _ | refine And.intro ?_ ?_ | refine Fin.mk ?_ | refine CallG.plain rfl ?_ ?_ | refine CallG.mk rfl ?_ ?_ | refine CallG.nwl rfl ?_ ?_ | refine CallG.nw ?_ ?_ | refine CallF.nwl rfl ?_ ?_ | refine CallF.nw ?_ ?_ | refine AppN.mk ?_ | (refine CallS.q ?_; (conv => whnf); first | refine CallG.plain rfl ?_ ?_ | refine CallG.mk rfl ?_ ?_) | (refine CallS.m ?_; (conv => whnf); refine CallM.mk rfl ?_ ?_) | (refine CallS.h ?_; (conv => whnf); refine CallM.mk rfl ?_ ?_) | (refine CallS.b ?_; (conv => whnf); refine CallM.mk rfl ?_ ?_) | (refine CallS.z ?_; (conv => whnf); refine CallM.mk rfl ?_ ?_))
      all_goals (try (conv => whnf))
      all_goals (try rfl)
    · obtain ⟨hi, ha⟩ := hi
      repeat' ((conv => whnf); first | (with_reducible rfl) | exact True.intro | (with_reducible exact absTF) | (with_reducible exact absFT) | intro _ | refine And.intro ?_ ?_ | refine Fin.mk ?_ | refine CallG.plain rfl ?_ ?_ | refine CallG.mk rfl ?_ ?_ | refine CallG.nwl rfl ?_ ?_ | refine CallG.nw ?_ ?_ | refine CallF.nwl rfl ?_ ?_ | refine CallF.nw ?_ ?_ | refine AppN.mk ?_ | (refine CallS.q ?_; (conv => whnf); first | refine CallG.plain rfl ?_ ?_ | refine CallG.mk rfl ?_ ?_) | (refine CallS.m ?_; (conv => whnf); refine CallM.mk rfl ?_ ?_) | (refine CallS.h ?_; (conv => whnf); refine CallM.mk rfl ?_ ?_) | (refine CallS.b ?_; (conv => whnf); refine CallM.mk rfl ?_ ?_) | (refine CallS.z ?_; (conv => whnf); refine CallM.mk rfl ?_ ?_))
      all_goals (try (conv => whnf))
      all_goals (try (exact Ob.mk (u8_bnd _)))
      all_goals (try (refine Ob.mk ?_; first | exact True.intro | assumption | omega | (try simp only [decide_eq_true_eq, decide_eq_false_iff_not, beq_iff_eq, beq_eq_false_iff_ne, bne_iff_ne, bne_eq_false_iff_eq, ne_eq, Bool.and_eq_true, Bool.or_eq_true, Bool.not_eq_true, Bool.not_eq_false, Bool.not_eq_true', Bool.not_eq_false', Int.toNat_natCast, Int.not_lt, Int.not_le, UInt8.ofNat_toNat, cast_eq] at *; omega)))
      all_goals (try ((show (_:Int) = _); omega))
      all_goals (try (show tupSV _ = _; with_unfolding_all rfl))
      all_goals (try ((show (_ : Nat) ≤ _); (simp <;> omega)))
      all_goals (try ((show (_ : Nat) ≤ _ ∧ (_ : Nat) ≤ _); (simp <;> omega)))
      all_goals (try ((show (_ : Int) ≤ _ ∧ (_ : Int) ≤ _ ∧ (_ : Int) ≤ _ ∧ (_ : Int) ≤ _); (simp <;> omega)))
      all_goals (try simp only [decide_eq_true_eq, decide_eq_false_iff_not, beq_iff_eq, beq_eq_false_iff_ne, bne_iff_ne, bne_eq_false_iff_eq, ne_eq, Bool.and_eq_true, Bool.or_eq_true, Bool.not_eq_true, Bool.not_eq_false, Bool.not_eq_true', Bool.not_eq_false', Int.toNat_natCast, Int.not_lt, Int.not_le, UInt8.ofNat_toNat, cast_eq] at *)
      · have h : i < l.length := by omega
        rw [attrsOk, all_false_at h (d := attrTy.dflt)]
        · simp
        · simp_all; omega
      · have h : i < l.length := by omega
        refine Rnd.mk ⟨i + 1, ?_, ?_, ?_⟩
        · refine ⟨by omega, ?_⟩
          rw [take_all _ l i attrTy.dflt h, ha]
          simp_all
          omega
        · omega
        · repeat' ((conv => whnf); first | (with_reducible rfl) | exact True.intro | (with_reducible exact absTF) | (with_reducible exact absFT) | intro _ | refine And.intro ?_ ?_ | refine Fin.mk ?_ | refine CallG.plain rfl ?_ ?_ | refine CallG.mk rfl ?_ ?_ | refine CallG.nwl rfl ?_ ?_ | refine CallG.nw ?_ ?_ | refine CallF.nwl rfl ?_ ?_ | refine CallF.nw ?_ ?_ | refine AppN.mk ?_ | (refine CallS.q ?_; (conv => whnf); first | refine CallG.plain rfl ?_ ?_ | refine CallG.mk rfl ?_ ?_) | (refine CallS.m ?_; (conv => whnf); refine CallM.mk rfl ?_ ?_) | (refine CallS.h ?_; (conv => whnf); refine CallM.mk rfl ?_ ?_) | (refine CallS.b ?_; (conv => whnf); refine CallM.mk rfl ?_ ?_) | (refine CallS.z ?_; (conv => whnf); refine CallM.mk rfl ?_ ?_))
          all_goals (try (conv => whnf))
          all_goals (try (exact Ob.mk (u8_bnd _)))
          all_goals (try (refine Ob.mk ?_; first | exact True.intro | assumption | omega | (try simp only [decide_eq_true_eq, decide_eq_false_iff_not, beq_iff_eq, beq_eq_false_iff_ne, bne_iff_ne, bne_eq_false_iff_eq, ne_eq, Bool.and_eq_true, Bool.or_eq_true, Bool.not_eq_true, Bool.not_eq_false, Bool.not_eq_true', Bool.not_eq_false', Int.toNat_natCast, Int.not_lt, Int.not_le, UInt8.ofNat_toNat, cast_eq] at *; omega)))
          all_goals (try ((show (_:Int) = _); omega))
          all_goals (try (show tupSV _ = _; with_unfolding_all rfl))
          all_goals (try ((show (_ : Nat) ≤ _); (simp <;> omega)))
          all_goals (try ((show (_ : Nat) ≤ _ ∧ (_ : Nat) ≤ _); (simp <;> omega)))
          all_goals (try ((show (_ : Int) ≤ _ ∧ (_ : Int) ≤ _ ∧ (_ : Int) ≤ _ ∧ (_ : Int) ≤ _); (simp <;> omega)))
      · have : i = l.length := by omega
        subst this
        rw [List.take_length] at ha
        rw [attrsOk, ha, decide_eq_true (by omega)]; rfl
def nodeOk (n : nodeTy.T) : Bool := decide ((n.2.2.1.length : Int) ≤ 40) && decide ((n.2.2.2.2.1.length : Int) ≤ 300) && decide ((n.2.2.2.2.2.2.length : Int) ≤ 60) && attrsOk n.2.2.2.1
instance f9 (k s : Int) (nm : List UInt8) (at_ : List AttrD) (d : List UInt8) (up : Int) (kids : List Int) :
    Fn BB 39 [.agg [.int .i64 k, .int .i64 s, .str nm, .rd attrTy at_, .str d, .int .i64 up, .rd intTy kids]] True (.bool (nodeOk (k, s, nm, at_, d, up, kids))) := by
  refine Fn.intro (N := 24) [0, 1, 2] [] Tryd.call39 Tryd.func39 rfl rfl (by kernel_rfl) (fun hpre => ?_)
  repeat' ((conv => whnf); first | (with_reducible rfl) | exact True.intro | (with_reducible exact absTF) | (with_reducible exact absFT) | intro _ | refine And.intro ?_ ?_ | refine Fin.mk ?_ | refine CallG.plain rfl ?_ ?_ | refine CallG.mk rfl ?_ ?_ | refine CallG.nwl rfl ?_ ?_ | refine CallG.nw ?_ ?_ | refine CallF.nwl rfl ?_ ?_ | refine CallF.nw ?_ ?_ | refine AppN.mk ?_ | (refine CallS.q ?_; (conv => whnf); first | refine CallG.plain rfl ?_ ?_ | refine CallG.mk rfl ?_ ?_) | (refine CallS.m ?_; (conv => whnf); refine CallM.mk rfl ?_ ?_) | (refine CallS.h ?_; (conv => whnf); refine CallM.mk rfl ?_ ?_) | (refine CallS.b ?_; (conv => whnf); refine CallM.mk rfl ?_ ?_) | (refine CallS.z ?_; (conv => whnf); refine CallM.mk rfl ?_ ?_))
  all_goals (try (conv => whnf))
  all_goals (try (exact Ob.mk (u8_bnd _)))
  all_goals (try (refine Ob.mk ?_; first | exact True.intro | assumption | omega | (try simp only [decide_eq_true_eq, decide_eq_false_iff_not, beq_iff_eq, beq_eq_false_iff_ne, bne_iff_ne, bne_eq_false_iff_eq, ne_eq, Bool.and_eq_true, Bool.or_eq_true, Bool.not_eq_true, Bool.not_eq_false, Bool.not_eq_true', Bool.not_eq_false', Int.toNat_natCast, Int.not_lt, Int.not_le, UInt8.ofNat_toNat, cast_eq] at *; omega)))
  all_goals (try ((show (_:Int) = _); omega))
  all_goals (try (show tupSV _ = _; with_unfolding_all rfl))
  all_goals (try ((show (_ : Nat) ≤ _); (simp <;> omega)))
  all_goals (try ((show (_ : Nat) ≤ _ ∧ (_ : Nat) ≤ _); (simp <;> omega)))
  all_goals (try ((show (_ : Int) ≤ _ ∧ (_ : Int) ≤ _ ∧ (_ : Int) ≤ _ ∧ (_ : Int) ≤ _); (simp <;> omega)))
  all_goals (try rfl)

def polOk (px : List UInt8) (rs es as_ ss : List (List UInt8)) : Bool := decide ((px.length : Int) ≤ 40) && wordsB rs 250 && wordsB es 250 && wordsB as_ 250 && wordsB ss 250
instance kPol (px : List UInt8) (rs es as_ ss : List (List UInt8)) (a b c d e : Int) (u : Bool) : Fn BB 38 [.agg [.str px, .rd .str rs, .rd .str es, .rd .str as_, .rd .str ss, .int .i64 a, .int .i64 b, .int .i64 c, .int .i64 d, .int .i64 e, .bool u]] True (.bool (polOk px rs es as_ ss)) := by
  refine Fn.intro (N := 27) [0, 1, 2] [] Tryd.call38 Tryd.func38 rfl rfl (by kernel_rfl) (fun hpre => ?_)
  repeat' ((conv => whnf); first | (with_reducible rfl) | exact True.intro | (with_reducible exact absTF) | (with_reducible exact absFT) | intro _ | refine And.intro ?_ ?_ | refine Fin.mk ?_ | refine CallG.plain rfl ?_ ?_ | refine CallG.mk rfl ?_ ?_ | refine CallG.nwl rfl ?_ ?_ | refine CallG.nw ?_ ?_ | refine CallF.nwl rfl ?_ ?_ | refine CallF.nw ?_ ?_ | refine AppN.mk ?_ | (refine CallS.q ?_; (conv => whnf); first | refine CallG.plain rfl ?_ ?_ | refine CallG.mk rfl ?_ ?_) | (refine CallS.m ?_; (conv => whnf); refine CallM.mk rfl ?_ ?_) | (refine CallS.h ?_; (conv => whnf); refine CallM.mk rfl ?_ ?_) | (refine CallS.b ?_; (conv => whnf); refine CallM.mk rfl ?_ ?_) | (refine CallS.z ?_; (conv => whnf); refine CallM.mk rfl ?_ ?_))
  all_goals (try (conv => whnf))
  all_goals (try (exact Ob.mk (u8_bnd _)))
  all_goals (try (refine Ob.mk ?_; first | exact True.intro | assumption | omega | (try simp only [decide_eq_true_eq, decide_eq_false_iff_not, beq_iff_eq, beq_eq_false_iff_ne, bne_iff_ne, bne_eq_false_iff_eq, ne_eq, Bool.and_eq_true, Bool.or_eq_true, Bool.not_eq_true, Bool.not_eq_false, Bool.not_eq_true', Bool.not_eq_false', Int.toNat_natCast, Int.not_lt, Int.not_le, UInt8.ofNat_toNat, cast_eq] at *; omega)))
  all_goals (try ((show (_:Int) = _); omega))
  all_goals (try (show tupSV _ = _; with_unfolding_all rfl))
  all_goals (try ((show (_ : Nat) ≤ _); (simp <;> omega)))
  all_goals (try ((show (_ : Nat) ≤ _ ∧ (_ : Nat) ≤ _); (simp <;> omega)))
  all_goals (try ((show (_ : Int) ≤ _ ∧ (_ : Int) ≤ _ ∧ (_ : Int) ≤ _ ∧ (_ : Int) ≤ _); (simp <;> omega)))
  all_goals rfl
def attrB (as_ ss : List (List UInt8)) (k s : Int) (nn nm v : List UInt8) : Bool :=
  (as_.contains nm && fitsP k s nn nm) && (!(decU v == [] && emptyP nm) && !(leadsP nm && !alwL ss (decU v)))
def attrP (as_ ss : List (List UInt8)) (k s : Int) (nn nm v : List UInt8) : AttrD × Bool :=
  if attrB as_ ss k s nn nm v = true then ((nm, decU v), true) else (([], []), false)
theorem attr_t {as_ ss : List (List UInt8)} {k s : Int} {nn nm v : List UInt8} (h : attrB as_ ss k s nn nm v = true) : attrP as_ ss k s nn nm v = ((nm, decU v), true) := by rw [attrP, if_pos h]
theorem attr_f {as_ ss : List (List UInt8)} {k s : Int} {nn nm v : List UInt8} (h : attrB as_ ss k s nn nm v = false) : attrP as_ ss k s nn nm v = (([], []), false) := by rw [attrP, if_neg (by rw [h]; decide)]
theorem ix_neg {l : List (List UInt8)} {w : List UInt8} : (ixOf l w < 0) ↔ l.contains w = false := by
  have := ixOf_has l w
  cases h : l.contains w <;> rw [h] at this <;> simp at this <;> simp [this] <;> omega
theorem ab1 {as_ ss : List (List UInt8)} {k s : Int} {nn nm v : List UInt8} (h : as_.contains nm = false ∨ fitsP k s nn nm = false) : attrB as_ ss k s nn nm v = false := by
  unfold attrB
  rcases h with h | h <;> rw [h] <;> simp
theorem ab2 {as_ ss : List (List UInt8)} {k s : Int} {nn nm v : List UInt8} (h : decU v = [] ∧ emptyP nm = true) : attrB as_ ss k s nn nm v = false := by
  unfold attrB
  rw [h.1, h.2]; simp
theorem ab3 {as_ ss : List (List UInt8)} {k s : Int} {nn nm v : List UInt8} (h : leadsP nm = true ∧ alwL ss (decU v) = false) : attrB as_ ss k s nn nm v = false := by
  unfold attrB
  rw [h.1, h.2]; simp
theorem ab4 {as_ ss : List (List UInt8)} {k s : Int} {nn nm v : List UInt8} (h1 : as_.contains nm = true ∧ fitsP k s nn nm = true) (h2 : ¬ decU v = [] ∨ emptyP nm = false) (h3 : leadsP nm = false ∨ alwL ss (decU v) = true) : attrB as_ ss k s nn nm v = true := by
  unfold attrB
  rw [h1.1, h1.2]
  have e2 : (decU v == [] && emptyP nm) = false := by
    rcases h2 with h | h
    · rw [beq_eq_false_iff_ne.mpr h]; rfl
    · rw [h, Bool.and_false]
  have e3 : (leadsP nm && !alwL ss (decU v)) = false := by
    rcases h3 with h | h <;> rw [h] <;> simp
  rw [e2, e3]; rfl
instance kAttr1 (px : List UInt8) (rs es as_ ss : List (List UInt8)) (a b c d e : Int) (u : Bool) (k s : Int) (nn : List UInt8) (at_ : List attrTy.T) (dt : List UInt8) (up : Int) (kids : List Int) (nm v : List UInt8) :
    Fn BB 42 [.agg [.str px, .rd .str rs, .rd .str es, .rd .str as_, .rd .str ss, .int .i64 a, .int .i64 b, .int .i64 c, .int .i64 d, .int .i64 e, .bool u], .agg [.int .i64 k, .int .i64 s, .str nn, .rd attrTy at_, .str dt, .int .i64 up, .rd intTy kids], .agg [.str nm, .str v]]
      (nn.length ≤ 1000 ∧ v.length ≤ 1000 ∧ nm.length ≤ 1000) (.tup [.agg [.str (attrP as_ ss k s nn nm v).1.1, .str (attrP as_ ss k s nn nm v).1.2], .bool (attrP as_ ss k s nn nm v).2]) := by
  refine Fn.intro (N := 51) [0, 1, 2, 3, 4, 5, 6, 7, 8, 17, 31, 39] [] Tryd.call42 Tryd.func42 rfl rfl (by kernel_rfl) (fun hpre => ?_)
  repeat' ((conv => whnf); first | (with_reducible rfl) | exact True.intro | (with_reducible exact absTF) | (with_reducible exact absFT) | intro _ | refine And.intro ?_ ?_ | refine Fin.mk ?_ | refine CallG.plain rfl ?_ ?_ | refine CallG.mk rfl ?_ ?_ | refine CallG.nwl rfl ?_ ?_ | refine CallG.nw ?_ ?_ | refine CallF.nwl rfl ?_ ?_ | refine CallF.nw ?_ ?_ | refine AppN.mk ?_ | (refine CallS.q ?_; (conv => whnf); first | refine CallG.plain rfl ?_ ?_ | refine CallG.mk rfl ?_ ?_) | (refine CallS.m ?_; (conv => whnf); refine CallM.mk rfl ?_ ?_) | (refine CallS.h ?_; (conv => whnf); refine CallM.mk rfl ?_ ?_) | (refine CallS.b ?_; (conv => whnf); refine CallM.mk rfl ?_ ?_) | (refine CallS.z ?_; (conv => whnf); refine CallM.mk rfl ?_ ?_))
  all_goals (try (conv => whnf))
  all_goals (try (exact Ob.mk (u8_bnd _)))
  all_goals (try (refine Ob.mk ?_; first | exact True.intro | assumption | omega | (try simp only [decide_eq_true_eq, decide_eq_false_iff_not, beq_iff_eq, beq_eq_false_iff_ne, bne_iff_ne, bne_eq_false_iff_eq, ne_eq, Bool.and_eq_true, Bool.or_eq_true, Bool.not_eq_true, Bool.not_eq_false, Bool.not_eq_true', Bool.not_eq_false', Int.toNat_natCast, Int.not_lt, Int.not_le, UInt8.ofNat_toNat, cast_eq] at *; omega)))
  all_goals (try ((show (_:Int) = _); omega))
  all_goals (try (show tupSV _ = _; with_unfolding_all rfl))
  all_goals (try ((show (_ : Nat) ≤ _); (simp <;> omega)))
  all_goals (try ((show (_ : Nat) ≤ _ ∧ (_ : Nat) ≤ _); (simp <;> omega)))
  all_goals (try ((show (_ : Int) ≤ _ ∧ (_ : Int) ≤ _ ∧ (_ : Int) ≤ _ ∧ (_ : Int) ≤ _); (simp <;> omega)))
  all_goals (try simp only [decide_eq_true_eq, decide_eq_false_iff_not, beq_iff_eq, beq_eq_false_iff_ne, bne_iff_ne, bne_eq_false_iff_eq, ne_eq, Bool.and_eq_true, Bool.or_eq_true, Bool.and_eq_false_iff, Bool.or_eq_false_iff, Bool.not_eq_true, Bool.not_eq_false, Bool.not_eq_true', Bool.not_eq_false', Int.toNat_natCast, Int.not_lt, Int.not_le, ge_iff_le, gt_iff_lt, UInt8.ofNat_toNat, cast_eq] at *)
  all_goals (try simp only [ix_neg] at *)
  all_goals (try (rw [attr_f (ab1 ‹_›)]; done))
  all_goals (try (rw [attr_f (ab2 ‹_›)]; done))
  all_goals (try (rw [attr_f (ab3 ‹_›)]; done))
  · have := decU_len v; omega
  all_goals (have h1 : 0 ≤ ixOf as_ nm ∧ fitsP k s nn nm = true := ‹_›)
  all_goals (have h2 : as_.contains nm = true := by (cases hc : as_.contains nm; (have := ix_neg.2 hc; omega); rfl))
  all_goals rw [attr_t (ab4 ⟨h2, h1.2⟩ ‹_› ‹_›)]
end Go.Vc

namespace Go.Vc
open Go.Proofs
set_option linter.unusedVariables false
set_option maxRecDepth 10000
set_option linter.unusedSimpArgs false
set_option maxHeartbeats 4000000
theorem Fn.wk {B : Base} {f : FuncId} {args args' : List SV} {pre : Prop} {res : SV} (F : Fn B f args pre res) (h : ∀ r β vs, RelL r β args' vs → RelL r β args vs) : Fn B f args' pre res :=
  ⟨F.call, fun hp r β w vs hG m hl => F.ok hp r β w vs hG m (h r β vs hl)⟩
theorem nils_rd {r β v} {τ : Ty} (h : Rel r β .nils v) : Rel r β (.rd τ []) v := by cases h; exact .rd .litsE
end Go.Vc

namespace Go.Vc
open Go.Proofs
open Go.Vc.W
set_option linter.unusedVariables false
set_option maxRecDepth 10000
set_option linter.unusedSimpArgs false
set_option maxHeartbeats 4000000
def sp3 : List (List UInt8) := [htmlT, svgT, mathT]
def usM (i : Nat) : List (List UInt8) := spl (sp3.getD i [])
def usL (i : Nat) : List (List UInt8) := ((List.range i).map fun j => (usM j).map (keyP j)).flatten
def usE : List (List UInt8) := usL 3
theorem usM_len : ∀ i < 3, (usM i).length ≤ 200 ∧ (usL i).length ≤ 400 := by
  intro i hi
  match i, hi with
  | 0, _ => exact ⟨by decide +kernel, by decide +kernel⟩
  | 1, _ => exact ⟨by decide +kernel, by decide +kernel⟩
  | 2, _ => exact ⟨by decide +kernel, by decide +kernel⟩
theorem usM_nm : ∀ i < 3, ∀ w ∈ usM i, w.length ≤ 1000 := by
  intro i hi
  match i, hi with
  | 0, _ => decide +kernel
  | 1, _ => decide +kernel
  | 2, _ => decide +kernel
theorem usM_at {i j : Nat} (hi : i < 3) (hj : j < (usM i).length) : ((usM i).getD j []).length ≤ 1000 := usM_nm i hi _ (by simp [List.getD, List.getElem?_eq_getElem hj])
theorem mapk_take (i : Nat) (l : List (List UInt8)) (j : Nat) (h : j < l.length) : (l.take (j + 1)).map (keyP i) = (l.take j).map (keyP i) ++ [keyP i (l.getD j [])] := by
  rw [List.take_succ_eq_append_getElem h, List.map_append]; simp [List.getD, List.getElem?_eq_getElem h]
def usR : List (List UInt8) := [[99, 111, 110, 102, 105, 103], [97, 100, 109, 105, 110], [108, 111, 99, 97, 116, 105, 111, 110]]
def usS : List (List UInt8) := [[104, 116, 116, 112], [104, 116, 116, 112, 115], [109, 97, 105, 108, 116, 111]]
abbrev usBox (id : Nat) : Chunk := .box [.str [117, 99], .own 1, .own id, .rd .str (spl attrsT), .own 2, .int .i64 65536, .int .i64 4096, .int .i64 256, .int .i64 50, .int .i64 3, .bool false]
instance kUsual : Fn BB 51 [] True (.agg [.str [117, 99], .rd .str usR, .rd .str usE, .rd .str (spl attrsT), .rd .str usS, .int .i64 65536, .int .i64 4096, .int .i64 256, .int .i64 50, .int .i64 3, .bool false]) := by
  refine Fn.intro (N := 35) [0, 1, 2, 3, 5, 10, 11, 12, 13, 18, 19, 20, 21] [(8, [0, 1, 0, 0, 1, 1, 3, 0, 3])] Tryd.call51 Tryd.func51 rfl rfl (by kernel_rfl) (fun hpre => ?_)
  repeat' ((conv => whnf); first | (with_reducible rfl) | exact True.intro | (with_reducible exact absTF) | (with_reducible exact absFT) | intro _ | refine And.intro ?_ ?_ | refine Fin.mk ?_ | refine CallG.plain rfl ?_ ?_ | refine CallG.mk rfl ?_ ?_ | refine CallG.nwl rfl ?_ ?_ | refine CallG.nw ?_ ?_ | refine CallF.nwl rfl ?_ ?_ | refine CallF.nw ?_ ?_ | refine AppN.mk ?_ | (refine CallS.q ?_; (conv => whnf); first | refine CallG.plain rfl ?_ ?_ | refine CallG.mk rfl ?_ ?_) | (refine CallS.m ?_; (conv => whnf); refine CallM.mk rfl ?_ ?_) | (refine CallS.h ?_; (conv => whnf); refine CallM.mk rfl ?_ ?_) | (refine CallS.b ?_; (conv => whnf); refine CallM.mk rfl ?_ ?_) | (refine CallS.z ?_; (conv => whnf); refine CallM.mk rfl ?_ ?_))
  all_goals (try (conv => whnf))
  all_goals (try (exact Ob.mk (u8_bnd _)))
  all_goals (try (refine Ob.mk ?_; first | exact True.intro | assumption | omega | (try simp only [decide_eq_true_eq, decide_eq_false_iff_not, beq_iff_eq, beq_eq_false_iff_ne, bne_iff_ne, bne_eq_false_iff_eq, ne_eq, Bool.and_eq_true, Bool.or_eq_true, Bool.not_eq_true, Bool.not_eq_false, Bool.not_eq_true', Bool.not_eq_false', Int.toNat_natCast, Int.not_lt, Int.not_le, UInt8.ofNat_toNat, cast_eq] at *; omega)))
  all_goals (try ((show (_:Int) = _); omega))
  all_goals (try (show tupSV _ = _; with_unfolding_all rfl))
  all_goals (try ((show (_ : Nat) ≤ _); (simp <;> omega)))
  all_goals (try ((show (_ : Nat) ≤ _ ∧ (_ : Nat) ≤ _); (simp <;> omega)))
  all_goals (try ((show (_ : Int) ≤ _ ∧ (_ : Int) ≤ _ ∧ (_ : Int) ≤ _ ∧ (_ : Int) ≤ _); (simp <;> omega)))
  all_goals (try decide)
  refine LoopStop.mk (α := Nat) (fun i => [(12, .int .i64 i)]) (fun i => [(3, usBox 20), (20, .own .str (usL i))]) 30 (fun i => i ≤ 3) (fun i => 3 - i) 0 (by omega) ?_ (fun i hi => ?_)
  · repeat' ((conv => whnf); first | (with_reducible rfl) | exact True.intro | (with_reducible exact absTF) | (with_reducible exact absFT) | intro _ | refine And.intro ?_ ?_ | refine Fin.mk ?_ | refine CallG.plain rfl ?_ ?_ | refine CallG.mk rfl ?_ ?_ | refine CallG.nwl rfl ?_ ?_ | refine CallG.nw ?_ ?_ | refine CallF.nwl rfl ?_ ?_ | refine CallF.nw ?_ ?_ | refine AppN.mk ?_ | (refine CallS.q ?_; (conv => whnf); first | refine CallG.plain rfl ?_ ?_ | refine CallG.mk rfl ?_ ?_) | (refine CallS.m ?_; (conv => whnf); refine CallM.mk rfl ?_ ?_) | (refine CallS.h ?_; (conv => whnf); refine CallM.mk rfl ?_ ?_) | (refine CallS.b ?_; (conv => whnf); refine CallM.mk rfl ?_ ?_) | (refine CallS.z ?_; (conv => whnf); refine CallM.mk rfl ?_ ?_))
    all_goals (try (conv => whnf))
    all_goals (try (exact Ob.mk (u8_bnd _)))
    all_goals (try (refine Ob.mk ?_; first | exact True.intro | assumption | omega | (try simp only [decide_eq_true_eq, decide_eq_false_iff_not, beq_iff_eq, beq_eq_false_iff_ne, bne_iff_ne, bne_eq_false_iff_eq, ne_eq, Bool.and_eq_true, Bool.or_eq_true, Bool.not_eq_true, Bool.not_eq_false, Bool.not_eq_true', Bool.not_eq_false', Int.toNat_natCast, Int.not_lt, Int.not_le, UInt8.ofNat_toNat, cast_eq] at *; omega)))
    all_goals (try ((show (_:Int) = _); omega))
    all_goals (try (show tupSV _ = _; with_unfolding_all rfl))
    all_goals (try ((show (_ : Nat) ≤ _); (simp <;> omega)))
    all_goals (try ((show (_ : Nat) ≤ _ ∧ (_ : Nat) ≤ _); (simp <;> omega)))
    all_goals (try ((show (_ : Int) ≤ _ ∧ (_ : Int) ≤ _ ∧ (_ : Int) ≤ _ ∧ (_ : Int) ≤ _); (simp <;> omega)))
    all_goals (try kernel_rfl)
    all_goals (try rfl)
    all_goals trace_state
  · rcases (by omega : i = 0 ∨ i = 1 ∨ i = 2 ∨ i = 3) with rfl | rfl | rfl | rfl
    · obtain ⟨q1, q2⟩ := usM_len 0 (by omega)
      repeat' ((conv => whnf); first | (with_reducible rfl) | exact True.intro | (with_reducible exact absTF) | (with_reducible exact absFT) | intro _ | refine And.intro ?_ ?_ | refine Fin.mk ?_ | refine CallG.plain rfl ?_ ?_ | refine CallG.mk rfl ?_ ?_ | refine CallG.nwl rfl ?_ ?_ | refine CallG.nw ?_ ?_ | refine CallF.nwl rfl ?_ ?_ | refine CallF.nw ?_ ?_ | refine AppN.mk ?_ | (refine CallS.q ?_; (conv => whnf); first | refine CallG.plain rfl ?_ ?_ | refine CallG.mk rfl ?_ ?_) | (refine CallS.m ?_; (conv => whnf); refine CallM.mk rfl ?_ ?_) | (refine CallS.h ?_; (conv => whnf); refine CallM.mk rfl ?_ ?_) | (refine CallS.b ?_; (conv => whnf); refine CallM.mk rfl ?_ ?_) | (refine CallS.z ?_; (conv => whnf); refine CallM.mk rfl ?_ ?_))
      all_goals (try (conv => whnf))
      all_goals (try (exact Ob.mk (u8_bnd _)))
      all_goals (try (refine Ob.mk ?_; first | exact True.intro | assumption | omega | (try simp only [decide_eq_true_eq, decide_eq_false_iff_not, beq_iff_eq, beq_eq_false_iff_ne, bne_iff_ne, bne_eq_false_iff_eq, ne_eq, Bool.and_eq_true, Bool.or_eq_true, Bool.not_eq_true, Bool.not_eq_false, Bool.not_eq_true', Bool.not_eq_false', Int.toNat_natCast, Int.not_lt, Int.not_le, UInt8.ofNat_toNat, cast_eq] at *; omega)))
      all_goals (try ((show (_:Int) = _); omega))
      all_goals (try (show tupSV _ = _; with_unfolding_all rfl))
      all_goals (try ((show (_ : Nat) ≤ _); (simp <;> omega)))
      all_goals (try ((show (_ : Nat) ≤ _ ∧ (_ : Nat) ≤ _); (simp <;> omega)))
      all_goals (try ((show (_ : Int) ≤ _ ∧ (_ : Int) ≤ _ ∧ (_ : Int) ≤ _ ∧ (_ : Int) ≤ _); (simp <;> omega)))
      all_goals (try decide)
      all_goals (try (exfalso; have h : decide (((0 : Nat) : Int) < (3 : Int)) = false := ‹_›; revert h; decide))
      refine LoopStop.mk (α := Nat) (fun j => [(2, .int .i64 ((0 : Nat) : Int)), (18, .rd .str (usM 0)), (19, .int .i64 (usM 0).length), (20, .int .i64 j)]) (fun j => [(3, usBox 20), (20, .own .str (usL 0 ++ ((usM 0).take j).map (keyP (0 : Nat))))]) 60 (fun j => j ≤ (usM 0).length) (fun j => (usM 0).length - j) 0 (Nat.zero_le _) ?_ (fun j hj => ?_)
      · repeat' ((conv => whnf); first | (with_reducible rfl) | exact True.intro | (with_reducible exact absTF) | (with_reducible exact absFT) | intro _ | refine And.intro ?_ ?_ | refine Fin.mk ?_ | refine CallG.plain rfl ?_ ?_ | refine CallG.mk rfl ?_ ?_ | refine CallG.nwl rfl ?_ ?_ | refine CallG.nw ?_ ?_ | refine CallF.nwl rfl ?_ ?_ | refine CallF.nw ?_ ?_ | refine AppN.mk ?_ | (refine CallS.q ?_; (conv => whnf); first | refine CallG.plain rfl ?_ ?_ | refine CallG.mk rfl ?_ ?_) | (refine CallS.m ?_; (conv => whnf); refine CallM.mk rfl ?_ ?_) | (refine CallS.h ?_; (conv => whnf); refine CallM.mk rfl ?_ ?_) | (refine CallS.b ?_; (conv => whnf); refine CallM.mk rfl ?_ ?_) | (refine CallS.z ?_; (conv => whnf); refine CallM.mk rfl ?_ ?_))
        all_goals (try (conv => whnf))
        all_goals (try (exact Ob.mk (u8_bnd _)))
        all_goals (try (refine Ob.mk ?_; first | exact True.intro | assumption | omega | (try simp only [decide_eq_true_eq, decide_eq_false_iff_not, beq_iff_eq, beq_eq_false_iff_ne, bne_iff_ne, bne_eq_false_iff_eq, ne_eq, Bool.and_eq_true, Bool.or_eq_true, Bool.not_eq_true, Bool.not_eq_false, Bool.not_eq_true', Bool.not_eq_false', Int.toNat_natCast, Int.not_lt, Int.not_le, UInt8.ofNat_toNat, cast_eq] at *; omega)))
        all_goals (try ((show (_:Int) = _); omega))
        all_goals (try (show tupSV _ = _; with_unfolding_all rfl))
        all_goals (try ((show (_ : Nat) ≤ _); (simp <;> omega)))
        all_goals (try ((show (_ : Nat) ≤ _ ∧ (_ : Nat) ≤ _); (simp <;> omega)))
        all_goals (try ((show (_ : Int) ≤ _ ∧ (_ : Int) ≤ _ ∧ (_ : Int) ≤ _ ∧ (_ : Int) ≤ _); (simp <;> omega)))
        all_goals (try kernel_rfl)
        all_goals (try rfl)
        all_goals trace_state
      · repeat' ((conv => whnf); first | (with_reducible rfl) | exact True.intro | (with_reducible exact absTF) | (with_reducible exact absFT) | intro _ | refine And.intro ?_ ?_ | refine Fin.mk ?_ | refine CallG.plain rfl ?_ ?_ | refine CallG.mk rfl ?_ ?_ | refine CallG.nwl rfl ?_ ?_ | refine CallG.nw ?_ ?_ | refine CallF.nwl rfl ?_ ?_ | refine CallF.nw ?_ ?_ | refine AppN.mk ?_ | (refine CallS.q ?_; (conv => whnf); first | refine CallG.plain rfl ?_ ?_ | refine CallG.mk rfl ?_ ?_) | (refine CallS.m ?_; (conv => whnf); refine CallM.mk rfl ?_ ?_) | (refine CallS.h ?_; (conv => whnf); refine CallM.mk rfl ?_ ?_) | (refine CallS.b ?_; (conv => whnf); refine CallM.mk rfl ?_ ?_) | (refine CallS.z ?_; (conv => whnf); refine CallM.mk rfl ?_ ?_))
        all_goals (try (conv => whnf))
        all_goals (try (exact Ob.mk (u8_bnd _)))
        all_goals (try (refine Ob.mk ?_; first | exact True.intro | assumption | omega | (try simp only [decide_eq_true_eq, decide_eq_false_iff_not, beq_iff_eq, beq_eq_false_iff_ne, bne_iff_ne, bne_eq_false_iff_eq, ne_eq, Bool.and_eq_true, Bool.or_eq_true, Bool.not_eq_true, Bool.not_eq_false, Bool.not_eq_true', Bool.not_eq_false', Int.toNat_natCast, Int.not_lt, Int.not_le, UInt8.ofNat_toNat, cast_eq] at *; omega)))
        all_goals (try ((show (_:Int) = _); omega))
        all_goals (try (show tupSV _ = _; with_unfolding_all rfl))
        all_goals (try ((show (_ : Nat) ≤ _); (simp <;> omega)))
        all_goals (try ((show (_ : Nat) ≤ _ ∧ (_ : Nat) ≤ _); (simp <;> omega)))
        all_goals (try ((show (_ : Int) ≤ _ ∧ (_ : Int) ≤ _ ∧ (_ : Int) ≤ _ ∧ (_ : Int) ≤ _); (simp <;> omega)))
        all_goals (try simp only [Int.toNat_natCast] at *)
        · have hlt : j < (usM 0).length := by have h := of_decide_eq_true ‹decide ((j : Int) < ((usM 0).length : Int)) = true›; omega
          have := usM_at (i := 0) (by omega) hlt
          show ((usM 0).getD j []).length ≤ 100000
          omega
        · have hlt : j < (usM 0).length := by have h := of_decide_eq_true ‹decide ((j : Int) < ((usM 0).length : Int)) = true›; omega
          refine Rnd.mk ⟨j + 1, ⟨by omega, by omega, ?_⟩⟩
          repeat' ((conv => whnf); first | (with_reducible rfl) | exact True.intro | (with_reducible exact absTF) | (with_reducible exact absFT) | intro _ | refine And.intro ?_ ?_ | refine Fin.mk ?_ | refine CallG.plain rfl ?_ ?_ | refine CallG.mk rfl ?_ ?_ | refine CallG.nwl rfl ?_ ?_ | refine CallG.nw ?_ ?_ | refine CallF.nwl rfl ?_ ?_ | refine CallF.nw ?_ ?_ | refine AppN.mk ?_ | (refine CallS.q ?_; (conv => whnf); first | refine CallG.plain rfl ?_ ?_ | refine CallG.mk rfl ?_ ?_) | (refine CallS.m ?_; (conv => whnf); refine CallM.mk rfl ?_ ?_) | (refine CallS.h ?_; (conv => whnf); refine CallM.mk rfl ?_ ?_) | (refine CallS.b ?_; (conv => whnf); refine CallM.mk rfl ?_ ?_) | (refine CallS.z ?_; (conv => whnf); refine CallM.mk rfl ?_ ?_))
          all_goals (try (conv => whnf))
          all_goals (try (exact Ob.mk (u8_bnd _)))
          all_goals (try (refine Ob.mk ?_; first | exact True.intro | assumption | omega | (try simp only [decide_eq_true_eq, decide_eq_false_iff_not, beq_iff_eq, beq_eq_false_iff_ne, bne_iff_ne, bne_eq_false_iff_eq, ne_eq, Bool.and_eq_true, Bool.or_eq_true, Bool.not_eq_true, Bool.not_eq_false, Bool.not_eq_true', Bool.not_eq_false', Int.toNat_natCast, Int.not_lt, Int.not_le, UInt8.ofNat_toNat, cast_eq] at *; omega)))
          all_goals (try ((show (_:Int) = _); omega))
          all_goals (try (show tupSV _ = _; with_unfolding_all rfl))
          all_goals (try ((show (_ : Nat) ≤ _); (simp <;> omega)))
          all_goals (try ((show (_ : Nat) ≤ _ ∧ (_ : Nat) ≤ _); (simp <;> omega)))
          all_goals (try ((show (_ : Int) ≤ _ ∧ (_ : Int) ≤ _ ∧ (_ : Int) ≤ _ ∧ (_ : Int) ≤ _); (simp <;> omega)))
          all_goals (try rfl)
          · show Chunk.own Ty.str _ = Chunk.own Ty.str _
            rw [mapk_take 0 _ j hlt, ← List.append_assoc]; rfl
        · have hlt : j = (usM 0).length := by have h := of_decide_eq_false ‹decide ((j : Int) < ((usM 0).length : Int)) = false›; omega
          subst hlt
          refine Rnd.mk ⟨0 + 1, ⟨by omega, by omega, ?_⟩⟩
          repeat' ((conv => whnf); first | (with_reducible rfl) | exact True.intro | (with_reducible exact absTF) | (with_reducible exact absFT) | intro _ | refine And.intro ?_ ?_ | refine Fin.mk ?_ | refine CallG.plain rfl ?_ ?_ | refine CallG.mk rfl ?_ ?_ | refine CallG.nwl rfl ?_ ?_ | refine CallG.nw ?_ ?_ | refine CallF.nwl rfl ?_ ?_ | refine CallF.nw ?_ ?_ | refine AppN.mk ?_ | (refine CallS.q ?_; (conv => whnf); first | refine CallG.plain rfl ?_ ?_ | refine CallG.mk rfl ?_ ?_) | (refine CallS.m ?_; (conv => whnf); refine CallM.mk rfl ?_ ?_) | (refine CallS.h ?_; (conv => whnf); refine CallM.mk rfl ?_ ?_) | (refine CallS.b ?_; (conv => whnf); refine CallM.mk rfl ?_ ?_) | (refine CallS.z ?_; (conv => whnf); refine CallM.mk rfl ?_ ?_))
          all_goals (try (conv => whnf))
          all_goals (try (exact Ob.mk (u8_bnd _)))
          all_goals (try (refine Ob.mk ?_; first | exact True.intro | assumption | omega | (try simp only [decide_eq_true_eq, decide_eq_false_iff_not, beq_iff_eq, beq_eq_false_iff_ne, bne_iff_ne, bne_eq_false_iff_eq, ne_eq, Bool.and_eq_true, Bool.or_eq_true, Bool.not_eq_true, Bool.not_eq_false, Bool.not_eq_true', Bool.not_eq_false', Int.toNat_natCast, Int.not_lt, Int.not_le, UInt8.ofNat_toNat, cast_eq] at *; omega)))
          all_goals (try ((show (_:Int) = _); omega))
          all_goals (try (show tupSV _ = _; with_unfolding_all rfl))
          all_goals (try ((show (_ : Nat) ≤ _); (simp <;> omega)))
          all_goals (try ((show (_ : Nat) ≤ _ ∧ (_ : Nat) ≤ _); (simp <;> omega)))
          all_goals (try ((show (_ : Int) ≤ _ ∧ (_ : Int) ≤ _ ∧ (_ : Int) ≤ _ ∧ (_ : Int) ≤ _); (simp <;> omega)))
          all_goals (try rfl)
    · obtain ⟨q1, q2⟩ := usM_len 1 (by omega)
      repeat' ((conv => whnf); first | (with_reducible rfl) | exact True.intro | (with_reducible exact absTF) | (with_reducible exact absFT) | intro _ | refine And.intro ?_ ?_ | refine Fin.mk ?_ | refine CallG.plain rfl ?_ ?_ | refine CallG.mk rfl ?_ ?_ | refine CallG.nwl rfl ?_ ?_ | refine CallG.nw ?_ ?_ | refine CallF.nwl rfl ?_ ?_ | refine CallF.nw ?_ ?_ | refine AppN.mk ?_ | (refine CallS.q ?_; (conv => whnf); first | refine CallG.plain rfl ?_ ?_ | refine CallG.mk rfl ?_ ?_) | (refine CallS.m ?_; (conv => whnf); refine CallM.mk rfl ?_ ?_) | (refine CallS.h ?_; (conv => whnf); refine CallM.mk rfl ?_ ?_) | (refine CallS.b ?_; (conv => whnf); refine CallM.mk rfl ?_ ?_) | (refine CallS.z ?_; (conv => whnf); refine CallM.mk rfl ?_ ?_))
      all_goals (try (conv => whnf))
      all_goals (try (exact Ob.mk (u8_bnd _)))
      all_goals (try (refine Ob.mk ?_; first | exact True.intro | assumption | omega | (try simp only [decide_eq_true_eq, decide_eq_false_iff_not, beq_iff_eq, beq_eq_false_iff_ne, bne_iff_ne, bne_eq_false_iff_eq, ne_eq, Bool.and_eq_true, Bool.or_eq_true, Bool.not_eq_true, Bool.not_eq_false, Bool.not_eq_true', Bool.not_eq_false', Int.toNat_natCast, Int.not_lt, Int.not_le, UInt8.ofNat_toNat, cast_eq] at *; omega)))
      all_goals (try ((show (_:Int) = _); omega))
      all_goals (try (show tupSV _ = _; with_unfolding_all rfl))
      all_goals (try ((show (_ : Nat) ≤ _); (simp <;> omega)))
      all_goals (try ((show (_ : Nat) ≤ _ ∧ (_ : Nat) ≤ _); (simp <;> omega)))
      all_goals (try ((show (_ : Int) ≤ _ ∧ (_ : Int) ≤ _ ∧ (_ : Int) ≤ _ ∧ (_ : Int) ≤ _); (simp <;> omega)))
      all_goals (try decide)
      all_goals (try (exfalso; have h : decide (((1 : Nat) : Int) < (3 : Int)) = false := ‹_›; revert h; decide))
      refine LoopStop.mk (α := Nat) (fun j => [(2, .int .i64 ((1 : Nat) : Int)), (18, .rd .str (usM 1)), (19, .int .i64 (usM 1).length), (20, .int .i64 j)]) (fun j => [(3, usBox 20), (20, .own .str (usL 1 ++ ((usM 1).take j).map (keyP (1 : Nat))))]) 60 (fun j => j ≤ (usM 1).length) (fun j => (usM 1).length - j) 0 (Nat.zero_le _) ?_ (fun j hj => ?_)
      · repeat' ((conv => whnf); first | (with_reducible rfl) | exact True.intro | (with_reducible exact absTF) | (with_reducible exact absFT) | intro _ | refine And.intro ?_ ?_ | refine Fin.mk ?_ | refine CallG.plain rfl ?_ ?_ | refine CallG.mk rfl ?_ ?_ | refine CallG.nwl rfl ?_ ?_ | refine CallG.nw ?_ ?_ | refine CallF.nwl rfl ?_ ?_ | refine CallF.nw ?_ ?_ | refine AppN.mk ?_ | (refine CallS.q ?_; (conv => whnf); first | refine CallG.plain rfl ?_ ?_ | refine CallG.mk rfl ?_ ?_) | (refine CallS.m ?_; (conv => whnf); refine CallM.mk rfl ?_ ?_) | (refine CallS.h ?_; (conv => whnf); refine CallM.mk rfl ?_ ?_) | (refine CallS.b ?_; (conv => whnf); refine CallM.mk rfl ?_ ?_) | (refine CallS.z ?_; (conv => whnf); refine CallM.mk rfl ?_ ?_))
        all_goals (try (conv => whnf))
        all_goals (try (exact Ob.mk (u8_bnd _)))
        all_goals (try (refine Ob.mk ?_; first | exact True.intro | assumption | omega | (try simp only [decide_eq_true_eq, decide_eq_false_iff_not, beq_iff_eq, beq_eq_false_iff_ne, bne_iff_ne, bne_eq_false_iff_eq, ne_eq, Bool.and_eq_true, Bool.or_eq_true, Bool.not_eq_true, Bool.not_eq_false, Bool.not_eq_true', Bool.not_eq_false', Int.toNat_natCast, Int.not_lt, Int.not_le, UInt8.ofNat_toNat, cast_eq] at *; omega)))
        all_goals (try ((show (_:Int) = _); omega))
        all_goals (try (show tupSV _ = _; with_unfolding_all rfl))
        all_goals (try ((show (_ : Nat) ≤ _); (simp <;> omega)))
        all_goals (try ((show (_ : Nat) ≤ _ ∧ (_ : Nat) ≤ _); (simp <;> omega)))
        all_goals (try ((show (_ : Int) ≤ _ ∧ (_ : Int) ≤ _ ∧ (_ : Int) ≤ _ ∧ (_ : Int) ≤ _); (simp <;> omega)))
        all_goals (try kernel_rfl)
        all_goals (try rfl)
        all_goals trace_state
      · repeat' ((conv => whnf); first | (with_reducible rfl) | exact True.intro | (with_reducible exact absTF) | (with_reducible exact absFT) | intro _ | refine And.intro ?_ ?_ | refine Fin.mk ?_ | refine CallG.plain rfl ?_ ?_ | refine CallG.mk rfl ?_ ?_ | refine CallG.nwl rfl ?_ ?_ | refine CallG.nw ?_ ?_ | refine CallF.nwl rfl ?_ ?_ | refine CallF.nw ?_ ?_ | refine AppN.mk ?_ | (refine CallS.q ?_; (conv => whnf); first | refine CallG.plain rfl ?_ ?_ | refine CallG.mk rfl ?_ ?_) | (refine CallS.m ?_; (conv => whnf); refine CallM.mk rfl ?_ ?_) | (refine CallS.h ?_; (conv => whnf); refine CallM.mk rfl ?_ ?_) | (refine CallS.b ?_; (conv => whnf); refine CallM.mk rfl ?_ ?_) | (refine CallS.z ?_; (conv => whnf); refine CallM.mk rfl ?_ ?_))
        all_goals (try (conv => whnf))
        all_goals (try (exact Ob.mk (u8_bnd _)))
        all_goals (try (refine Ob.mk ?_; first | exact True.intro | assumption | omega | (try simp only [decide_eq_true_eq, decide_eq_false_iff_not, beq_iff_eq, beq_eq_false_iff_ne, bne_iff_ne, bne_eq_false_iff_eq, ne_eq, Bool.and_eq_true, Bool.or_eq_true, Bool.not_eq_true, Bool.not_eq_false, Bool.not_eq_true', Bool.not_eq_false', Int.toNat_natCast, Int.not_lt, Int.not_le, UInt8.ofNat_toNat, cast_eq] at *; omega)))
        all_goals (try ((show (_:Int) = _); omega))
        all_goals (try (show tupSV _ = _; with_unfolding_all rfl))
        all_goals (try ((show (_ : Nat) ≤ _); (simp <;> omega)))
        all_goals (try ((show (_ : Nat) ≤ _ ∧ (_ : Nat) ≤ _); (simp <;> omega)))
        all_goals (try ((show (_ : Int) ≤ _ ∧ (_ : Int) ≤ _ ∧ (_ : Int) ≤ _ ∧ (_ : Int) ≤ _); (simp <;> omega)))
        all_goals (try simp only [Int.toNat_natCast] at *)
        · have hlt : j < (usM 1).length := by have h := of_decide_eq_true ‹decide ((j : Int) < ((usM 1).length : Int)) = true›; omega
          have := usM_at (i := 1) (by omega) hlt
          show ((usM 1).getD j []).length ≤ 100000
          omega
        · have hlt : j < (usM 1).length := by have h := of_decide_eq_true ‹decide ((j : Int) < ((usM 1).length : Int)) = true›; omega
          refine Rnd.mk ⟨j + 1, ⟨by omega, by omega, ?_⟩⟩
          repeat' ((conv => whnf); first | (with_reducible rfl) | exact True.intro | (with_reducible exact absTF) | (with_reducible exact absFT) | intro _ | refine And.intro ?_ ?_ | refine Fin.mk ?_ | refine CallG.plain rfl ?_ ?_ | refine CallG.mk rfl ?_ ?_ | refine CallG.nwl rfl ?_ ?_ | refine CallG.nw ?_ ?_ | refine CallF.nwl rfl ?_ ?_ | refine CallF.nw ?_ ?_ | refine AppN.mk ?_ | (refine CallS.q ?_; (conv => whnf); first | refine CallG.plain rfl ?_ ?_ | refine CallG.mk rfl ?_ ?_) | (refine CallS.m ?_; (conv => whnf); refine CallM.mk rfl ?_ ?_) | (refine CallS.h ?_; (conv => whnf); refine CallM.mk rfl ?_ ?_) | (refine CallS.b ?_; (conv => whnf); refine CallM.mk rfl ?_ ?_) | (refine CallS.z ?_; (conv => whnf); refine CallM.mk rfl ?_ ?_))
          all_goals (try (conv => whnf))
          all_goals (try (exact Ob.mk (u8_bnd _)))
          all_goals (try (refine Ob.mk ?_; first | exact True.intro | assumption | omega | (try simp only [decide_eq_true_eq, decide_eq_false_iff_not, beq_iff_eq, beq_eq_false_iff_ne, bne_iff_ne, bne_eq_false_iff_eq, ne_eq, Bool.and_eq_true, Bool.or_eq_true, Bool.not_eq_true, Bool.not_eq_false, Bool.not_eq_true', Bool.not_eq_false', Int.toNat_natCast, Int.not_lt, Int.not_le, UInt8.ofNat_toNat, cast_eq] at *; omega)))
          all_goals (try ((show (_:Int) = _); omega))
          all_goals (try (show tupSV _ = _; with_unfolding_all rfl))
          all_goals (try ((show (_ : Nat) ≤ _); (simp <;> omega)))
          all_goals (try ((show (_ : Nat) ≤ _ ∧ (_ : Nat) ≤ _); (simp <;> omega)))
          all_goals (try ((show (_ : Int) ≤ _ ∧ (_ : Int) ≤ _ ∧ (_ : Int) ≤ _ ∧ (_ : Int) ≤ _); (simp <;> omega)))
          all_goals (try rfl)
          · show Chunk.own Ty.str _ = Chunk.own Ty.str _
            rw [mapk_take 1 _ j hlt, ← List.append_assoc]; rfl
        · have hlt : j = (usM 1).length := by have h := of_decide_eq_false ‹decide ((j : Int) < ((usM 1).length : Int)) = false›; omega
          subst hlt
          refine Rnd.mk ⟨1 + 1, ⟨by omega, by omega, ?_⟩⟩
          repeat' ((conv => whnf); first | (with_reducible rfl) | exact True.intro | (with_reducible exact absTF) | (with_reducible exact absFT) | intro _ | refine And.intro ?_ ?_ | refine Fin.mk ?_ | refine CallG.plain rfl ?_ ?_ | refine CallG.mk rfl ?_ ?_ | refine CallG.nwl rfl ?_ ?_ | refine CallG.nw ?_ ?_ | refine CallF.nwl rfl ?_ ?_ | refine CallF.nw ?_ ?_ | refine AppN.mk ?_ | (refine CallS.q ?_; (conv => whnf); first | refine CallG.plain rfl ?_ ?_ | refine CallG.mk rfl ?_ ?_) | (refine CallS.m ?_; (conv => whnf); refine CallM.mk rfl ?_ ?_) | (refine CallS.h ?_; (conv => whnf); refine CallM.mk rfl ?_ ?_) | (refine CallS.b ?_; (conv => whnf); refine CallM.mk rfl ?_ ?_) | (refine CallS.z ?_; (conv => whnf); refine CallM.mk rfl ?_ ?_))
          all_goals (try (conv => whnf))
          all_goals (try (exact Ob.mk (u8_bnd _)))
          all_goals (try (refine Ob.mk ?_; first | exact True.intro | assumption | omega | (try simp only [decide_eq_true_eq, decide_eq_false_iff_not, beq_iff_eq, beq_eq_false_iff_ne, bne_iff_ne, bne_eq_false_iff_eq, ne_eq, Bool.and_eq_true, Bool.or_eq_true, Bool.not_eq_true, Bool.not_eq_false, Bool.not_eq_true', Bool.not_eq_false', Int.toNat_natCast, Int.not_lt, Int.not_le, UInt8.ofNat_toNat, cast_eq] at *; omega)))
          all_goals (try ((show (_:Int) = _); omega))
          all_goals (try (show tupSV _ = _; with_unfolding_all rfl))
          all_goals (try ((show (_ : Nat) ≤ _); (simp <;> omega)))
          all_goals (try ((show (_ : Nat) ≤ _ ∧ (_ : Nat) ≤ _); (simp <;> omega)))
          all_goals (try ((show (_ : Int) ≤ _ ∧ (_ : Int) ≤ _ ∧ (_ : Int) ≤ _ ∧ (_ : Int) ≤ _); (simp <;> omega)))
          all_goals (try rfl)
    · obtain ⟨q1, q2⟩ := usM_len 2 (by omega)
      repeat' ((conv => whnf); first | (with_reducible rfl) | exact True.intro | (with_reducible exact absTF) | (with_reducible exact absFT) | intro _ | refine And.intro ?_ ?_ | refine Fin.mk ?_ | refine CallG.plain rfl ?_ ?_ | refine CallG.mk rfl ?_ ?_ | refine CallG.nwl rfl ?_ ?_ | refine CallG.nw ?_ ?_ | refine CallF.nwl rfl ?_ ?_ | refine CallF.nw ?_ ?_ | refine AppN.mk ?_ | (refine CallS.q ?_; (conv => whnf); first | refine CallG.plain rfl ?_ ?_ | refine CallG.mk rfl ?_ ?_) | (refine CallS.m ?_; (conv => whnf); refine CallM.mk rfl ?_ ?_) | (refine CallS.h ?_; (conv => whnf); refine CallM.mk rfl ?_ ?_) | (refine CallS.b ?_; (conv => whnf); refine CallM.mk rfl ?_ ?_) | (refine CallS.z ?_; (conv => whnf); refine CallM.mk rfl ?_ ?_))
      all_goals (try (conv => whnf))
      all_goals (try (exact Ob.mk (u8_bnd _)))
      all_goals (try (refine Ob.mk ?_; first | exact True.intro | assumption | omega | (try simp only [decide_eq_true_eq, decide_eq_false_iff_not, beq_iff_eq, beq_eq_false_iff_ne, bne_iff_ne, bne_eq_false_iff_eq, ne_eq, Bool.and_eq_true, Bool.or_eq_true, Bool.not_eq_true, Bool.not_eq_false, Bool.not_eq_true', Bool.not_eq_false', Int.toNat_natCast, Int.not_lt, Int.not_le, UInt8.ofNat_toNat, cast_eq] at *; omega)))
      all_goals (try ((show (_:Int) = _); omega))
      all_goals (try (show tupSV _ = _; with_unfolding_all rfl))
      all_goals (try ((show (_ : Nat) ≤ _); (simp <;> omega)))
      all_goals (try ((show (_ : Nat) ≤ _ ∧ (_ : Nat) ≤ _); (simp <;> omega)))
      all_goals (try ((show (_ : Int) ≤ _ ∧ (_ : Int) ≤ _ ∧ (_ : Int) ≤ _ ∧ (_ : Int) ≤ _); (simp <;> omega)))
      all_goals (try decide)
      all_goals (try (exfalso; have h : decide (((2 : Nat) : Int) < (3 : Int)) = false := ‹_›; revert h; decide))
      refine LoopStop.mk (α := Nat) (fun j => [(2, .int .i64 ((2 : Nat) : Int)), (18, .rd .str (usM 2)), (19, .int .i64 (usM 2).length), (20, .int .i64 j)]) (fun j => [(3, usBox 20), (20, .own .str (usL 2 ++ ((usM 2).take j).map (keyP (2 : Nat))))]) 60 (fun j => j ≤ (usM 2).length) (fun j => (usM 2).length - j) 0 (Nat.zero_le _) ?_ (fun j hj => ?_)
      · repeat' ((conv => whnf); first | (with_reducible rfl) | exact True.intro | (with_reducible exact absTF) | (with_reducible exact absFT) | intro _ | refine And.intro ?_ ?_ | refine Fin.mk ?_ | refine CallG.plain rfl ?_ ?_ | refine CallG.mk rfl ?_ ?_ | refine CallG.nwl rfl ?_ ?_ | refine CallG.nw ?_ ?_ | refine CallF.nwl rfl ?_ ?_ | refine CallF.nw ?_ ?_ | refine AppN.mk ?_ | (refine CallS.q ?_; (conv => whnf); first | refine CallG.plain rfl ?_ ?_ | refine CallG.mk rfl ?_ ?_) | (refine CallS.m ?_; (conv => whnf); refine CallM.mk rfl ?_ ?_) | (refine CallS.h ?_; (conv => whnf); refine CallM.mk rfl ?_ ?_) | (refine CallS.b ?_; (conv => whnf); refine CallM.mk rfl ?_ ?_) | (refine CallS.z ?_; (conv => whnf); refine CallM.mk rfl ?_ ?_))
        all_goals (try (conv => whnf))
        all_goals (try (exact Ob.mk (u8_bnd _)))
        all_goals (try (refine Ob.mk ?_; first | exact True.intro | assumption | omega | (try simp only [decide_eq_true_eq, decide_eq_false_iff_not, beq_iff_eq, beq_eq_false_iff_ne, bne_iff_ne, bne_eq_false_iff_eq, ne_eq, Bool.and_eq_true, Bool.or_eq_true, Bool.not_eq_true, Bool.not_eq_false, Bool.not_eq_true', Bool.not_eq_false', Int.toNat_natCast, Int.not_lt, Int.not_le, UInt8.ofNat_toNat, cast_eq] at *; omega)))
        all_goals (try ((show (_:Int) = _); omega))
        all_goals (try (show tupSV _ = _; with_unfolding_all rfl))
        all_goals (try ((show (_ : Nat) ≤ _); (simp <;> omega)))
        all_goals (try ((show (_ : Nat) ≤ _ ∧ (_ : Nat) ≤ _); (simp <;> omega)))
        all_goals (try ((show (_ : Int) ≤ _ ∧ (_ : Int) ≤ _ ∧ (_ : Int) ≤ _ ∧ (_ : Int) ≤ _); (simp <;> omega)))
        all_goals (try kernel_rfl)
        all_goals (try rfl)
        all_goals trace_state
      · repeat' ((conv => whnf); first | (with_reducible rfl) | exact True.intro | (with_reducible exact absTF) | (with_reducible exact absFT) | intro _ | refine And.intro ?_ ?_ | refine Fin.mk ?_ | refine CallG.plain rfl ?_ ?_ | refine CallG.mk rfl ?_ ?_ | refine CallG.nwl rfl ?_ ?_ | refine CallG.nw ?_ ?_ | refine CallF.nwl rfl ?_ ?_ | refine CallF.nw ?_ ?_ | refine AppN.mk ?_ | (refine CallS.q ?_; (conv => whnf); first | refine CallG.plain rfl ?_ ?_ | refine CallG.mk rfl ?_ ?_) | (refine CallS.m ?_; (conv => whnf); refine CallM.mk rfl ?_ ?_) | (refine CallS.h ?_; (conv => whnf); refine CallM.mk rfl ?_ ?_) | (refine CallS.b ?_; (conv => whnf); refine CallM.mk rfl ?_ ?_) | (refine CallS.z ?_; (conv => whnf); refine CallM.mk rfl ?_ ?_))
        all_goals (try (conv => whnf))
        all_goals (try (exact Ob.mk (u8_bnd _)))
        all_goals (try (refine Ob.mk ?_; first | exact True.intro | assumption | omega | (try simp only [decide_eq_true_eq, decide_eq_false_iff_not, beq_iff_eq, beq_eq_false_iff_ne, bne_iff_ne, bne_eq_false_iff_eq, ne_eq, Bool.and_eq_true, Bool.or_eq_true, Bool.not_eq_true, Bool.not_eq_false, Bool.not_eq_true', Bool.not_eq_false', Int.toNat_natCast, Int.not_lt, Int.not_le, UInt8.ofNat_toNat, cast_eq] at *; omega)))
        all_goals (try ((show (_:Int) = _); omega))
        all_goals (try (show tupSV _ = _; with_unfolding_all rfl))
        all_goals (try ((show (_ : Nat) ≤ _); (simp <;> omega)))
        all_goals (try ((show (_ : Nat) ≤ _ ∧ (_ : Nat) ≤ _); (simp <;> omega)))
        all_goals (try ((show (_ : Int) ≤ _ ∧ (_ : Int) ≤ _ ∧ (_ : Int) ≤ _ ∧ (_ : Int) ≤ _); (simp <;> omega)))
        all_goals (try simp only [Int.toNat_natCast] at *)
        · have hlt : j < (usM 2).length := by have h := of_decide_eq_true ‹decide ((j : Int) < ((usM 2).length : Int)) = true›; omega
          have := usM_at (i := 2) (by omega) hlt
          show ((usM 2).getD j []).length ≤ 100000
          omega
        · have hlt : j < (usM 2).length := by have h := of_decide_eq_true ‹decide ((j : Int) < ((usM 2).length : Int)) = true›; omega
          refine Rnd.mk ⟨j + 1, ⟨by omega, by omega, ?_⟩⟩
          repeat' ((conv => whnf); first | (with_reducible rfl) | exact True.intro | (with_reducible exact absTF) | (with_reducible exact absFT) | intro _ | refine And.intro ?_ ?_ | refine Fin.mk ?_ | refine CallG.plain rfl ?_ ?_ | refine CallG.mk rfl ?_ ?_ | refine CallG.nwl rfl ?_ ?_ | refine CallG.nw ?_ ?_ | refine CallF.nwl rfl ?_ ?_ | refine CallF.nw ?_ ?_ | refine AppN.mk ?_ | (refine CallS.q ?_; (conv => whnf); first | refine CallG.plain rfl ?_ ?_ | refine CallG.mk rfl ?_ ?_) | (refine CallS.m ?_; (conv => whnf); refine CallM.mk rfl ?_ ?_) | (refine CallS.h ?_; (conv => whnf); refine CallM.mk rfl ?_ ?_) | (refine CallS.b ?_; (conv => whnf); refine CallM.mk rfl ?_ ?_) | (refine CallS.z ?_; (conv => whnf); refine CallM.mk rfl ?_ ?_))
          all_goals (try (conv => whnf))
          all_goals (try (exact Ob.mk (u8_bnd _)))
          all_goals (try (refine Ob.mk ?_; first | exact True.intro | assumption | omega | (try simp only [decide_eq_true_eq, decide_eq_false_iff_not, beq_iff_eq, beq_eq_false_iff_ne, bne_iff_ne, bne_eq_false_iff_eq, ne_eq, Bool.and_eq_true, Bool.or_eq_true, Bool.not_eq_true, Bool.not_eq_false, Bool.not_eq_true', Bool.not_eq_false', Int.toNat_natCast, Int.not_lt, Int.not_le, UInt8.ofNat_toNat, cast_eq] at *; omega)))
          all_goals (try ((show (_:Int) = _); omega))
          all_goals (try (show tupSV _ = _; with_unfolding_all rfl))
          all_goals (try ((show (_ : Nat) ≤ _); (simp <;> omega)))
          all_goals (try ((show (_ : Nat) ≤ _ ∧ (_ : Nat) ≤ _); (simp <;> omega)))
          all_goals (try ((show (_ : Int) ≤ _ ∧ (_ : Int) ≤ _ ∧ (_ : Int) ≤ _ ∧ (_ : Int) ≤ _); (simp <;> omega)))
          all_goals (try rfl)
          · show Chunk.own Ty.str _ = Chunk.own Ty.str _
            rw [mapk_take 2 _ j hlt, ← List.append_assoc]; rfl
        · have hlt : j = (usM 2).length := by have h := of_decide_eq_false ‹decide ((j : Int) < ((usM 2).length : Int)) = false›; omega
          subst hlt
          refine Rnd.mk ⟨2 + 1, ⟨by omega, by omega, ?_⟩⟩
          repeat' ((conv => whnf); first | (with_reducible rfl) | exact True.intro | (with_reducible exact absTF) | (with_reducible exact absFT) | intro _ | refine And.intro ?_ ?_ | refine Fin.mk ?_ | refine CallG.plain rfl ?_ ?_ | refine CallG.mk rfl ?_ ?_ | refine CallG.nwl rfl ?_ ?_ | refine CallG.nw ?_ ?_ | refine CallF.nwl rfl ?_ ?_ | refine CallF.nw ?_ ?_ | refine AppN.mk ?_ | (refine CallS.q ?_; (conv => whnf); first | refine CallG.plain rfl ?_ ?_ | refine CallG.mk rfl ?_ ?_) | (refine CallS.m ?_; (conv => whnf); refine CallM.mk rfl ?_ ?_) | (refine CallS.h ?_; (conv => whnf); refine CallM.mk rfl ?_ ?_) | (refine CallS.b ?_; (conv => whnf); refine CallM.mk rfl ?_ ?_) | (refine CallS.z ?_; (conv => whnf); refine CallM.mk rfl ?_ ?_))
          all_goals (try (conv => whnf))
          all_goals (try (exact Ob.mk (u8_bnd _)))
          all_goals (try (refine Ob.mk ?_; first | exact True.intro | assumption | omega | (try simp only [decide_eq_true_eq, decide_eq_false_iff_not, beq_iff_eq, beq_eq_false_iff_ne, bne_iff_ne, bne_eq_false_iff_eq, ne_eq, Bool.and_eq_true, Bool.or_eq_true, Bool.not_eq_true, Bool.not_eq_false, Bool.not_eq_true', Bool.not_eq_false', Int.toNat_natCast, Int.not_lt, Int.not_le, UInt8.ofNat_toNat, cast_eq] at *; omega)))
          all_goals (try ((show (_:Int) = _); omega))
          all_goals (try (show tupSV _ = _; with_unfolding_all rfl))
          all_goals (try ((show (_ : Nat) ≤ _); (simp <;> omega)))
          all_goals (try ((show (_ : Nat) ≤ _ ∧ (_ : Nat) ≤ _); (simp <;> omega)))
          all_goals (try ((show (_ : Int) ≤ _ ∧ (_ : Int) ≤ _ ∧ (_ : Int) ≤ _ ∧ (_ : Int) ≤ _); (simp <;> omega)))
          all_goals (try rfl)
    · repeat' ((conv => whnf); first | (with_reducible rfl) | exact True.intro | (with_reducible exact absTF) | (with_reducible exact absFT) | intro _ | refine And.intro ?_ ?_ | refine Fin.mk ?_ | refine CallG.plain rfl ?_ ?_ | refine CallG.mk rfl ?_ ?_ | refine CallG.nwl rfl ?_ ?_ | refine CallG.nw ?_ ?_ | refine CallF.nwl rfl ?_ ?_ | refine CallF.nw ?_ ?_ | refine AppN.mk ?_ | (refine CallS.q ?_; (conv => whnf); first | refine CallG.plain rfl ?_ ?_ | refine CallG.mk rfl ?_ ?_) | (refine CallS.m ?_; (conv => whnf); refine CallM.mk rfl ?_ ?_) | (refine CallS.h ?_; (conv => whnf); refine CallM.mk rfl ?_ ?_) | (refine CallS.b ?_; (conv => whnf); refine CallM.mk rfl ?_ ?_) | (refine CallS.z ?_; (conv => whnf); refine CallM.mk rfl ?_ ?_))
      all_goals (try (conv => whnf))
      all_goals (try (exact Ob.mk (u8_bnd _)))
      all_goals (try (refine Ob.mk ?_; first | exact True.intro | assumption | omega | (try simp only [decide_eq_true_eq, decide_eq_false_iff_not, beq_iff_eq, beq_eq_false_iff_ne, bne_iff_ne, bne_eq_false_iff_eq, ne_eq, Bool.and_eq_true, Bool.or_eq_true, Bool.not_eq_true, Bool.not_eq_false, Bool.not_eq_true', Bool.not_eq_false', Int.toNat_natCast, Int.not_lt, Int.not_le, UInt8.ofNat_toNat, cast_eq] at *; omega)))
      all_goals (try ((show (_:Int) = _); omega))
      all_goals (try (show tupSV _ = _; with_unfolding_all rfl))
      all_goals (try ((show (_ : Nat) ≤ _); (simp <;> omega)))
      all_goals (try ((show (_ : Nat) ≤ _ ∧ (_ : Nat) ≤ _); (simp <;> omega)))
      all_goals (try ((show (_ : Int) ≤ _ ∧ (_ : Int) ≤ _ ∧ (_ : Int) ≤ _ ∧ (_ : Int) ≤ _); (simp <;> omega)))
      all_goals (try (exfalso; have h : decide (((3 : Nat) : Int) < (3 : Int)) = true := ‹_›; revert h; decide))
      all_goals rfl
end Go.Vc

namespace Go.Vc
open Go.Proofs
open Go.Vc.W
set_option linter.unusedVariables false
set_option maxRecDepth 10000
set_option linter.unusedSimpArgs false
set_option maxHeartbeats 4000000
theorem agg_nils {r : Mem} {β : Bind} {v : Value} {a b c e f : SV} (h : Rel r β (.agg [a, b, c, .nils, e, f, .nils]) v) : Rel r β (.agg [a, b, c, .rd attrTy [], e, f, .rd intTy []]) v := by
  cases h with
  | agg hl h =>
    refine .agg hl fun i sv v h1 h2 => ?_
    match i, h1 with
    | 0, h1 => exact h 0 _ _ h1 h2
    | 1, h1 => exact h 1 _ _ h1 h2
    | 2, h1 => exact h 2 _ _ h1 h2
    | 3, h1 => cases h1; exact nils_rd (h 3 _ _ rfl h2)
    | 4, h1 => exact h 4 _ _ h1 h2
    | 5, h1 => exact h 5 _ _ h1 h2
    | 6, h1 => cases h1; exact nils_rd (h 6 _ _ rfl h2)
    | n + 7, h1 => cases h1
theorem relL_at {r : Mem} {β : Bind} {xs ys : List SV} (hl : xs.length = ys.length) (h : ∀ (i : Nat) (x y : SV), xs[i]? = some x → ys[i]? = some y → ∀ v, Rel r β x v → Rel r β y v) (vs : List Value) (q : RelL r β xs vs) : RelL r β ys vs := by
  refine ⟨by rw [q.1, hl], fun i y v h1 h2 => ?_⟩
  have hi : i < ys.length := by
    rcases Nat.lt_or_ge i ys.length with h | h
    · exact h
    · rw [List.getElem?_eq_none h] at h1; cases h1
  exact h i (xs[i]'(by omega)) y (List.getElem?_eq_getElem _) h1 v (q.2 i _ v (List.getElem?_eq_getElem _) h2)
instance nElem (px : List UInt8) (rs es as_ ss : List (List UInt8)) (a b c d e : Int) (u : Bool) (k s : Int) (nn : List UInt8) (dt : List UInt8) (up : Int) : Fn BB 44 [.agg [.str px, .rd .str rs, .rd .str es, .rd .str as_, .rd .str ss, .int .i64 a, .int .i64 b, .int .i64 c, .int .i64 d, .int .i64 e, .bool u], .agg [.int .i64 k, .int .i64 s, .str nn, .nils, .str dt, .int .i64 up, .nils]] (nn.length ≤ 1000) (.bool (k == 1 && knownP s nn && es.contains (keyP s nn))) :=
  Fn.wk (kElem px rs es as_ ss a b c d e u k s nn [] dt up []) fun r β => relL_at rfl fun i x y h1 h2 v hv => by
    match i, h1, h2 with
    | 0, h1, h2 => cases h1; cases h2; exact hv
    | 1, h1, h2 => cases h1; cases h2; exact agg_nils hv
instance nGone (k s : Int) (nn : List UInt8) (dt : List UInt8) (up : Int) : Fn BB 46 [.agg [.int .i64 k, .int .i64 s, .str nn, .nils, .str dt, .int .i64 up, .nils]] (nn.length ≤ 1000) (.bool (goneP k s nn)) :=
  Fn.wk (kGone k s nn [] dt up []) fun r β => relL_at rfl fun i x y h1 h2 v hv => by
    match i, h1, h2 with
    | 0, h1, h2 => cases h1; cases h2; exact agg_nils hv
instance nFits (k s : Int) (nn : List UInt8) (dt : List UInt8) (up : Int) (nm : List UInt8) : Fn BB 48 [.agg [.int .i64 k, .int .i64 s, .str nn, .nils, .str dt, .int .i64 up, .nils], .str nm] (nn.length ≤ 1000) (.bool (fitsP k s nn nm)) :=
  Fn.wk (kFits k s nn [] dt up [] nm) fun r β => relL_at rfl fun i x y h1 h2 v hv => by
    match i, h1, h2 with
    | 0, h1, h2 => cases h1; cases h2; exact agg_nils hv
    | 1, h1, h2 => cases h1; cases h2; exact hv
instance nAttr (px : List UInt8) (rs es as_ ss : List (List UInt8)) (a b c d e : Int) (u : Bool) (k s : Int) (nn : List UInt8) (dt : List UInt8) (up : Int) (nm v : List UInt8) : Fn BB 42 [.agg [.str px, .rd .str rs, .rd .str es, .rd .str as_, .rd .str ss, .int .i64 a, .int .i64 b, .int .i64 c, .int .i64 d, .int .i64 e, .bool u], .agg [.int .i64 k, .int .i64 s, .str nn, .nils, .str dt, .int .i64 up, .nils], .agg [.str nm, .str v]] (nn.length ≤ 1000 ∧ v.length ≤ 1000 ∧ nm.length ≤ 1000) (.tup [.agg [.str (attrP as_ ss k s nn nm v).1.1, .str (attrP as_ ss k s nn nm v).1.2], .bool (attrP as_ ss k s nn nm v).2]) :=
  Fn.wk (kAttr1 px rs es as_ ss a b c d e u k s nn [] dt up [] nm v) fun r β => relL_at rfl fun i x y h1 h2 v hv => by
    match i, h1, h2 with
    | 0, h1, h2 => cases h1; cases h2; exact hv
    | 1, h1, h2 => cases h1; cases h2; exact agg_nils hv
    | 2, h1, h2 => cases h1; cases h2; exact hv
def decUG : Nat → List UInt8 → List UInt8
  | 0, _ => []
  | n + 1, l => if l = [] then [] else chrU l ++ decUG n (l.drop (stepU l))
theorem decUG_eq (n : Nat) (l : List UInt8) (h : l.length ≤ n) : decU l = decUG n l := by
  induction n generalizing l with
  | zero => rw [List.length_eq_zero_iff.1 (by omega : l.length = 0), decU_nil]; rfl
  | succ n ih =>
    unfold decUG
    by_cases h0 : l = []
    · subst h0; rw [if_pos rfl, decU_nil]
    · have hs := stepU_bnd l h0
      have : (l.drop (stepU l)).length ≤ n := by rw [List.length_drop]; omega
      rw [if_neg h0, decU_eq l h0, ih _ this]
theorem dA : decU [106, 97, 118, 97, 115, 99, 114, 105, 112, 116, 58, 120] = [106, 97, 118, 97, 115, 99, 114, 105, 112, 116, 58, 120] := by rw [decUG_eq 12 _ (by decide)]; decide +kernel
theorem dB : decU [35, 120] = [35, 120] := by rw [decUG_eq 2 _ (by decide)]; decide +kernel
instance kAwake : Fn BB 41 [] True (.bool true) := by
  refine Fn.intro (N := 51) [0, 1, 2, 4, 5, 6] [] Tryd.call41 Tryd.func41 rfl rfl (by kernel_rfl) (fun hpre => ?_)
  repeat' ((conv => whnf); first | (with_reducible rfl) | exact True.intro | (with_reducible exact absTF) | (with_reducible exact absFT) | intro _ | refine And.intro ?_ ?_ | refine Fin.mk ?_ | refine CallG.plain rfl ?_ ?_ | refine CallG.mk rfl ?_ ?_ | refine CallG.nwl rfl ?_ ?_ | refine CallG.nw ?_ ?_ | refine CallF.nwl rfl ?_ ?_ | refine CallF.nw ?_ ?_ | refine AppN.mk ?_ | (refine CallS.q ?_; (conv => whnf); first | refine CallG.plain rfl ?_ ?_ | refine CallG.mk rfl ?_ ?_) | (refine CallS.m ?_; (conv => whnf); refine CallM.mk rfl ?_ ?_) | (refine CallS.h ?_; (conv => whnf); refine CallM.mk rfl ?_ ?_) | (refine CallS.b ?_; (conv => whnf); refine CallM.mk rfl ?_ ?_) | (refine CallS.z ?_; (conv => whnf); refine CallM.mk rfl ?_ ?_))
  all_goals (try (conv => whnf))
  all_goals (try (exact Ob.mk (u8_bnd _)))
  all_goals (try (refine Ob.mk ?_; first | exact True.intro | assumption | omega | (try simp only [decide_eq_true_eq, decide_eq_false_iff_not, beq_iff_eq, beq_eq_false_iff_ne, bne_iff_ne, bne_eq_false_iff_eq, ne_eq, Bool.and_eq_true, Bool.or_eq_true, Bool.not_eq_true, Bool.not_eq_false, Bool.not_eq_true', Bool.not_eq_false', Int.toNat_natCast, Int.not_lt, Int.not_le, UInt8.ofNat_toNat, cast_eq] at *; omega)))
  all_goals (try ((show (_:Int) = _); omega))
  all_goals (try (show tupSV _ = _; with_unfolding_all rfl))
  all_goals (try ((show (_ : Nat) ≤ _); (simp <;> omega)))
  all_goals (try ((show (_ : Nat) ≤ _ ∧ (_ : Nat) ≤ _); (simp <;> omega)))
  all_goals (try ((show (_ : Int) ≤ _ ∧ (_ : Int) ≤ _ ∧ (_ : Int) ≤ _ ∧ (_ : Int) ≤ _); (simp <;> omega)))
  · decide
  · decide
  · unfold attrP attrB
    rw [dA, dB]
    decide +kernel
end Go.Vc

namespace Go.Vc
open Go.Proofs
open Go.Vc.W
set_option linter.unusedVariables false
set_option maxRecDepth 10000
set_option linter.unusedSimpArgs false
set_option maxHeartbeats 4000000
abbrev polTy : Ty := .pr .str (.pr (.sl .str) (.pr (.sl .str) (.pr (.sl .str) (.pr (.sl .str) (.pr intTy (.pr intTy (.pr intTy (.pr intTy (.pr intTy .bool)))))))))
theorem and5 {k s : Int} {nn nm v : List UInt8} {at_ : List AttrD} {dt : List UInt8} {up : Int} {kids : List Int} (h1 : nodeOk (k, s, nn, at_, dt, up, kids) = true) (h2 : attrsOk [(nm, v)] = true) : nn.length ≤ 1000 ∧ v.length ≤ 1000 ∧ nm.length ≤ 1000 := by
  unfold nodeOk at h1
  unfold attrsOk at h2
  simp only [Bool.and_eq_true, decide_eq_true_eq, List.all_cons, List.all_nil, Bool.and_true] at h1 h2
  obtain ⟨⟨⟨a1, a2⟩, a3⟩, a4⟩ := h1
  obtain ⟨b1, b2, b3⟩ := h2
  have a1 : (nn.length : Int) ≤ 40 := a1
  have b2 : nm.length ≤ 40 := b2
  have b3 : v.length ≤ 150 := b3
  omega
theorem notf {b : Bool} (h : (!b) = false) : b = true := by cases b <;> simp_all
end Go.Vc

/-
  DERIVED: THE SHELF's CONTRACTS AT THIS DUMP, IN PLAIN WORDS (tools/lay-plain.mjs out of 'TrygShelf.lean', which tools/lay-shelf.mjs wrote): THE SAME DECLARATIONS UNDER THE SAME NAMES: 'import', 'namespace', 'open', 'def', 'theorem' AND NOTHING ELSE: no command of the shelf's: FOR A HAND-IN. Each laying: the table of numbers ('.._ren') and one theorem, a field a fact of the dump's own or the kernel's comparison; each contract: ONE APPLICATION.
-/
namespace Go.Proofs
open Go.Shelf
def Tryd.laysG62_ren : Go.Shelf.Ren := ⟨fun | 4 => 62 | n => n, fun | 22 => 22 | 25 => 9 | 3 => 3 | 4 => 4 | 9 => 9 | 20 => 20 | 0 => 0 | n => n, fun | n => n⟩
theorem Tryd.laysG62 : Go.Proofs.Lays8.n4 Tryd.prog Tryd.laysG62_ren := {
  mixed := by kernel_rfl
  f4 := ⟨Tryd.f62.name, by decide, Tryd.func62.trans (congrArg some (by kernel_rfl))⟩
  t0 := Tryd.underlying0
  a0 := Tryd.isAgg0
  z0 := Tryd.sizeOf0
  v0 := Tryd.zeroValue0
  t3 := Tryd.underlying3
  a3 := Tryd.isAgg3
  z3 := Tryd.sizeOf3
  v3 := Tryd.zeroValue3
  t4 := Tryd.underlying4
  a4 := Tryd.isAgg4
  z4 := Tryd.sizeOf4
  v4 := Tryd.zeroValue4
  t9 := Tryd.underlying9
  a9 := Tryd.isAgg9
  z9 := Tryd.sizeOf9
  v9 := Tryd.zeroValue9
  t20 := Tryd.underlying20
  a20 := Tryd.isAgg20
  z20 := Tryd.sizeOf20
  v20 := Tryd.zeroValue20
  t22 := Tryd.underlying22
  a22 := Tryd.isAgg22
  z22 := Tryd.sizeOf22
  v22 := Tryd.zeroValue22 }
end Go.Proofs

namespace Go.Vc
open Go.Proofs
set_option linter.unusedVariables false
set_option maxRecDepth 10000
set_option linter.unusedSimpArgs false
set_option maxHeartbeats 4000000
theorem hid_new0 {r : Mem} {β : Bind} {w w' : World} {ch : Chunk} {v : Value} (m : MemSat r β [] w) (hg : Grows w w') (hblk : ∀ b, ch.blk v = some b → w.heap.size ≤ b) (hch : ch.Sat r (setB β 0 v) w' v) : MemSat r (setB β 0 v) [(0, ch)] w' ∧ Hid r β [] w r (setB β 0 v) [(0, ch)] w' :=
  mem_new (n := 0) m rfl hg hblk hch
instance lGrow (n : Int) : FnM BB 62 [.nils, .int .i64 n] [] (0 ≤ n ∧ n ≤ 100000) (.own 0) [(0, .own .str [])] := by
  refine ⟨Tryd.call62, fun hp r β w vs hG m hl => ?_⟩
  obtain ⟨v1, vs1, rfl, h1, hl⟩ := hl.uncons
  obtain ⟨v2, vs2, rfl, h2, hl⟩ := hl.uncons
  obtain rfl := hl.nil_inv
  cases h1; cases h2
  obtain ⟨hp1, hp2⟩ := hp
  obtain ⟨k, rfl⟩ := Int.eq_ofNat_of_zero_le hp1
  rcases Nat.eq_zero_or_pos k with h0 | h0
  · subst h0
    refine (Any8.slices_Grow_room Tryd.laysG62 none 0 0 0 w (by omega) (by omega) (by omega) (by omega)).mono fun e w' hh => ?_
    obtain ⟨rfl, rfl⟩ := hh
    obtain ⟨a1, a2⟩ := hid_new0 (ch := .own .str []) (v := .slice none 0 0) m ⟨rfl, rfl, rfl, Nat.le_refl _, fun _ _ => rfl⟩ (fun b hb => by cases hb) (.own (.inl ⟨none, rfl, rfl⟩))
    exact ⟨_, _, r, _, _, rfl, ⟨rfl, rfl⟩, own_rel rfl, a1, Mem.le_refl r, a2⟩
  · have h9 : (Tryd.prog.info? 9).map (fun i => (i.zero, i.size, i.bytes)) = some (some (.string ⟨#[]⟩), 1, 16) := by kernel_rfl
    obtain ⟨i0, hi0, he⟩ := Option.map_eq_some_iff.1 h9
    simp only [Prod.mk.injEq] at he
    obtain ⟨hz0, hs0, hb0⟩ := he
    refine (Any8.slices_Grow_grow Tryd.laysG62 i0 (.string ⟨#[]⟩) hi0 hz0 (by omega) none 0 0 k [] w (by omega) (by omega) (by rw [hb0]; omega) (by omega) (by simp) (fun _ => rfl) (fun a h => by cases h)).mono fun e w' hh => ?_
    obtain ⟨rfl, rfl⟩ := hh
    have hge := grownCap_ge w (0 + k) 0 9
    have hle := grownCap_le_maxLen w (0 + k) 0 9 (by show 0 + k ≤ 2 ^ 63 - 1; omega)
    have e9 : Tryd.laysG62_ren.t 25 = 9 := rfl
    rw [e9]
    generalize grownCap w (0 + k) 0 9 = cap at *
    have hle : cap ≤ 9223372036854775807 := hle
    obtain ⟨a1, a2⟩ := hid_new0 (ch := .own .str []) (v := .slice (some ⟨w.heap.size, 0, none⟩) 0 cap) (w' := w.drew.alloc (.cells ((([] : List Value).toArray) ++ Builtin.zeroCells (Value.string ⟨#[]⟩).cells (0 + k - 0) ++ Builtin.zeroCells (Value.string ⟨#[]⟩).cells (cap - (0 + k))) 9)) m
      ⟨rfl, rfl, rfl, by show w.heap.size ≤ (w.heap.push _).size; simp, fun b hb => by show (w.heap.push _)[b]? = _; rw [Array.getElem?_push, if_neg (by omega)]⟩
      (fun b hb => by
        simp only [Chunk.blk] at hb
        cases hq : Nat.beq cap 0 with
        | true => rw [hq] at hb; cases hb
        | false => rw [hq] at hb; simp at hb; omega)
      (.own (.inr ⟨w.heap.size, 0, cap, (([] : List Value).toArray) ++ Builtin.zeroCells (Value.string ⟨#[]⟩).cells (0 + k - 0) ++ Builtin.zeroCells (Value.string ⟨#[]⟩).cells (cap - (0 + k)), 9, (0, 0), rfl, by omega, heap_alloc_eq (w := w.drew), ⟨(fun h => by cases h), .inl rfl⟩, hle, by simp, by
        have hz : ∀ n, (Builtin.zeroCells (Value.string ⟨#[]⟩).cells n).size = n := fun n => by simp [Builtin.zeroCells, Value.cells]
        show 0 + cap * 1 ≤ ((([] : List Value).toArray) ++ Builtin.zeroCells (Value.string ⟨#[]⟩).cells (0 + k - 0) ++ Builtin.zeroCells (Value.string ⟨#[]⟩).cells (cap - (0 + k))).size
        rw [Array.size_append, Array.size_append, hz, hz]
        simp
        omega, fun i row h => by simp at h, fun i row j sv h => by simp at h, fun i row j sv v h => by simp at h⟩))
    exact ⟨_, _, r, _, _, rfl, ⟨rfl, rfl⟩, own_rel rfl, a1, Mem.le_refl r, a2⟩
def sumL : List (List (List UInt8)) → Nat
  | [] => 0
  | x :: r => x.length + sumL r
theorem sumL_take : ∀ (LL : List (List (List UInt8))) (i : Nat), i < LL.length → sumL (LL.take (i + 1)) = sumL (LL.take i) + (LL.getD i []).length
  | [], i, h => by simp at h
  | x :: r, 0, _ => by simp [sumL]
  | x :: r, i + 1, h => by
    have := sumL_take r i (by simpa using h)
    rw [List.take_succ_cons, List.take_succ_cons, sumL, sumL, this]
    simp only [List.getD, List.getElem?_cons_succ]
    omega
theorem flat_take : ∀ (LL : List (List (List UInt8))) (i : Nat), i < LL.length → (LL.take (i + 1)).flatten = (LL.take i).flatten ++ LL.getD i []
  | [], i, h => by simp at h
  | x :: r, 0, _ => by simp
  | x :: r, i + 1, h => by
    have := flat_take r i (by simpa using h)
    rw [List.take_succ_cons, List.take_succ_cons, List.flatten_cons, List.flatten_cons, this, List.append_assoc]
    rfl
theorem sumL_le : ∀ (LL : List (List (List UInt8))) (i : Nat), sumL (LL.take i) ≤ sumL LL
  | [], i => by simp
  | x :: r, 0 => by simp [sumL]
  | x :: r, i + 1 => by
    have := sumL_le r i
    rw [List.take_succ_cons, sumL, sumL]
    omega
theorem flat_len : ∀ LL : List (List (List UInt8)), LL.flatten.length = sumL LL
  | [] => rfl
  | x :: r => by rw [List.flatten_cons, List.length_append, flat_len r, sumL]
instance lConcat (LL : List (List (List UInt8))) : FnM BB 22 [.rd (.sl .str) LL] [] (sumL LL ≤ 100000 ∧ LL.length ≤ 100000) (.own 0) [(0, .own .str LL.flatten)] := by
  refine FnM.intro (N := 36) [0, 2, 3, 5, 6, 8, 9, 10, 11, 12, 20, 25, 26, 27, 28] [] 0 Tryd.call22 Tryd.func22 rfl rfl (by kernel_rfl) (fun hpre => ?_)
  obtain ⟨hp1, hp2⟩ := hpre
  repeat' ((conv => whnf); first | (with_reducible rfl) | exact True.intro | (with_reducible exact absTF) | (with_reducible exact absFT) | intro _ | refine And.intro ?_ ?_ | refine Fin.mk ?_ | refine CallG.plain rfl ?_ ?_ | refine CallG.mk rfl ?_ ?_ | refine CallG.nwl rfl ?_ ?_ | refine CallG.nw ?_ ?_ | refine CallF.nwl rfl ?_ ?_ | refine CallF.nw ?_ ?_ | refine AppN.mk ?_ | (refine CallS.q ?_; (conv => whnf); first | refine CallG.plain rfl ?_ ?_ | refine CallG.mk rfl ?_ ?_) | (refine CallS.m ?_; (conv => whnf); refine CallM.mk rfl ?_ ?_) | (refine CallS.h ?_; (conv => whnf); refine CallM.mk rfl ?_ ?_) | (refine CallS.b ?_; (conv => whnf); refine CallM.mk rfl ?_ ?_) | (refine CallS.z ?_; (conv => whnf); refine CallM.mk rfl ?_ ?_))
  all_goals (try (conv => whnf))
  all_goals (try (exact Ob.mk (u8_bnd _)))
  all_goals (try (refine Ob.mk ?_; first | exact True.intro | assumption | omega | (try simp only [decide_eq_true_eq, decide_eq_false_iff_not, beq_iff_eq, beq_eq_false_iff_ne, bne_iff_ne, bne_eq_false_iff_eq, ne_eq, Bool.and_eq_true, Bool.or_eq_true, Bool.not_eq_true, Bool.not_eq_false, Bool.not_eq_true', Bool.not_eq_false', Int.toNat_natCast, Int.not_lt, Int.not_le, UInt8.ofNat_toNat, cast_eq] at *; omega)))
  all_goals (try ((show (_:Int) = _); omega))
  all_goals (try (show tupSV _ = _; with_unfolding_all rfl))
  all_goals (try ((show (_ : Nat) ≤ _); (simp <;> omega)))
  all_goals (try ((show (_ : Nat) ≤ _ ∧ (_ : Nat) ≤ _); (simp <;> omega)))
  all_goals (try ((show (_ : Int) ≤ _ ∧ (_ : Int) ≤ _ ∧ (_ : Int) ≤ _ ∧ (_ : Int) ≤ _); (simp <;> omega)))
  refine LoopStop.mk (α := Nat) (fun i => [(11, .int .i64 i), (3, .int .i64 (sumL (LL.take i)))]) (fun i => []) 20 (fun i => i ≤ LL.length) (fun i => LL.length + 1 - i) 0 (by simp) ?_ (fun i hi => ?_)
  · repeat' ((conv => whnf); first | (with_reducible rfl) | exact True.intro | (with_reducible exact absTF) | (with_reducible exact absFT) | intro _ | refine And.intro ?_ ?_ | refine Fin.mk ?_ | refine CallG.plain rfl ?_ ?_ | refine CallG.mk rfl ?_ ?_ | refine CallG.nwl rfl ?_ ?_ | refine CallG.nw ?_ ?_ | refine CallF.nwl rfl ?_ ?_ | refine CallF.nw ?_ ?_ | refine AppN.mk ?_ | (refine CallS.q ?_; (conv => whnf); first | refine CallG.plain rfl ?_ ?_ | refine CallG.mk rfl ?_ ?_) | (refine CallS.m ?_; (conv => whnf); refine CallM.mk rfl ?_ ?_) | (refine CallS.h ?_; (conv => whnf); refine CallM.mk rfl ?_ ?_) | (refine CallS.b ?_; (conv => whnf); refine CallM.mk rfl ?_ ?_) | (refine CallS.z ?_; (conv => whnf); refine CallM.mk rfl ?_ ?_))
    all_goals (try (conv => whnf))
    all_goals (try (exact Ob.mk (u8_bnd _)))
    all_goals (try (refine Ob.mk ?_; first | exact True.intro | assumption | omega | (try simp only [decide_eq_true_eq, decide_eq_false_iff_not, beq_iff_eq, beq_eq_false_iff_ne, bne_iff_ne, bne_eq_false_iff_eq, ne_eq, Bool.and_eq_true, Bool.or_eq_true, Bool.not_eq_true, Bool.not_eq_false, Bool.not_eq_true', Bool.not_eq_false', Int.toNat_natCast, Int.not_lt, Int.not_le, UInt8.ofNat_toNat, cast_eq] at *; omega)))
    all_goals (try ((show (_:Int) = _); omega))
    all_goals (try (show tupSV _ = _; with_unfolding_all rfl))
    all_goals (try ((show (_ : Nat) ≤ _); (simp <;> omega)))
    all_goals (try ((show (_ : Nat) ≤ _ ∧ (_ : Nat) ≤ _); (simp <;> omega)))
    all_goals (try ((show (_ : Int) ≤ _ ∧ (_ : Int) ≤ _ ∧ (_ : Int) ≤ _ ∧ (_ : Int) ≤ _); (simp <;> omega)))
    all_goals rfl
  · have hst := fun h => sumL_take LL i h
    have hle := sumL_le LL i
    have hle' := sumL_le LL (i + 1)
    repeat' ((conv => whnf); first | (with_reducible rfl) | exact True.intro | (with_reducible exact absTF) | (with_reducible exact absFT) | intro _ | refine And.intro ?_ ?_ | refine Fin.mk ?_ | refine CallG.plain rfl ?_ ?_ | refine CallG.mk rfl ?_ ?_ | refine CallG.nwl rfl ?_ ?_ | refine CallG.nw ?_ ?_ | refine CallF.nwl rfl ?_ ?_ | refine CallF.nw ?_ ?_ | refine AppN.mk ?_ | (refine CallS.q ?_; (conv => whnf); first | refine CallG.plain rfl ?_ ?_ | refine CallG.mk rfl ?_ ?_) | (refine CallS.m ?_; (conv => whnf); refine CallM.mk rfl ?_ ?_) | (refine CallS.h ?_; (conv => whnf); refine CallM.mk rfl ?_ ?_) | (refine CallS.b ?_; (conv => whnf); refine CallM.mk rfl ?_ ?_) | (refine CallS.z ?_; (conv => whnf); refine CallM.mk rfl ?_ ?_))
    all_goals (try (conv => whnf))
    all_goals (try (exact Ob.mk (u8_bnd _)))
    all_goals (try (refine Ob.mk ?_; first | exact True.intro | assumption | omega | (try simp only [decide_eq_true_eq, decide_eq_false_iff_not, beq_iff_eq, beq_eq_false_iff_ne, bne_iff_ne, bne_eq_false_iff_eq, ne_eq, Bool.and_eq_true, Bool.or_eq_true, Bool.not_eq_true, Bool.not_eq_false, Bool.not_eq_true', Bool.not_eq_false', Int.toNat_natCast, Int.not_lt, Int.not_le, UInt8.ofNat_toNat, cast_eq] at *; omega)))
    all_goals (try ((show (_:Int) = _); omega))
    all_goals (try (show tupSV _ = _; with_unfolding_all rfl))
    all_goals (try ((show (_ : Nat) ≤ _); (simp <;> omega)))
    all_goals (try ((show (_ : Nat) ≤ _ ∧ (_ : Nat) ≤ _); (simp <;> omega)))
    all_goals (try ((show (_ : Int) ≤ _ ∧ (_ : Int) ≤ _ ∧ (_ : Int) ≤ _ ∧ (_ : Int) ≤ _); (simp <;> omega)))
    all_goals (try simp only [Int.toNat_natCast, Ty.dflt] at *)
    all_goals (try (
      have hl := of_decide_eq_true ‹decide ((i : Int) < (LL.length : Int)) = true›
      have hst := hst (by omega)
      first
        | (show InI64 _; constructor <;> omega)
        | (exfalso; have h := of_decide_eq_true ‹decide (((sumL (LL.take i) : Nat) : Int) + ((List.length (LL.getD i []) : Nat) : Int) < 0) = true›; omega)))
    · have hl := of_decide_eq_true ‹decide ((i : Int) < (LL.length : Int)) = true›
      have hst := hst (by omega)
      refine Rnd.mk ⟨i + 1, by omega, by omega, ?_⟩
      repeat' ((conv => whnf); first | (with_reducible rfl) | exact True.intro | (with_reducible exact absTF) | (with_reducible exact absFT) | intro _ | refine And.intro ?_ ?_ | refine Fin.mk ?_ | refine CallG.plain rfl ?_ ?_ | refine CallG.mk rfl ?_ ?_ | refine CallG.nwl rfl ?_ ?_ | refine CallG.nw ?_ ?_ | refine CallF.nwl rfl ?_ ?_ | refine CallF.nw ?_ ?_ | refine AppN.mk ?_ | (refine CallS.q ?_; (conv => whnf); first | refine CallG.plain rfl ?_ ?_ | refine CallG.mk rfl ?_ ?_) | (refine CallS.m ?_; (conv => whnf); refine CallM.mk rfl ?_ ?_) | (refine CallS.h ?_; (conv => whnf); refine CallM.mk rfl ?_ ?_) | (refine CallS.b ?_; (conv => whnf); refine CallM.mk rfl ?_ ?_) | (refine CallS.z ?_; (conv => whnf); refine CallM.mk rfl ?_ ?_))
      all_goals (try (conv => whnf))
      all_goals (try (exact Ob.mk (u8_bnd _)))
      all_goals (try (refine Ob.mk ?_; first | exact True.intro | assumption | omega | (try simp only [decide_eq_true_eq, decide_eq_false_iff_not, beq_iff_eq, beq_eq_false_iff_ne, bne_iff_ne, bne_eq_false_iff_eq, ne_eq, Bool.and_eq_true, Bool.or_eq_true, Bool.not_eq_true, Bool.not_eq_false, Bool.not_eq_true', Bool.not_eq_false', Int.toNat_natCast, Int.not_lt, Int.not_le, UInt8.ofNat_toNat, cast_eq] at *; omega)))
      all_goals (try ((show (_:Int) = _); omega))
      all_goals (try (show tupSV _ = _; with_unfolding_all rfl))
      all_goals (try ((show (_ : Nat) ≤ _); (simp <;> omega)))
      all_goals (try ((show (_ : Nat) ≤ _ ∧ (_ : Nat) ≤ _); (simp <;> omega)))
      all_goals (try ((show (_ : Int) ≤ _ ∧ (_ : Int) ≤ _ ∧ (_ : Int) ≤ _ ∧ (_ : Int) ≤ _); (simp <;> omega)))
      all_goals (rw [hst]; simp)
    · have hl := of_decide_eq_false ‹decide ((i : Int) < (LL.length : Int)) = false›
      have : i = LL.length := by omega
      subst this
      rw [List.take_length] at *
      refine LoopStop.mk (α := Nat) (fun i => [(27, .int .i64 i)]) (fun i => [(20, .own .str (LL.take i).flatten)]) 40 (fun i => i ≤ LL.length) (fun i => LL.length + 1 - i) 0 (by simp) ?_ (fun i hi => ?_)
      · repeat' ((conv => whnf); first | (with_reducible rfl) | exact True.intro | (with_reducible exact absTF) | (with_reducible exact absFT) | intro _ | refine And.intro ?_ ?_ | refine Fin.mk ?_ | refine CallG.plain rfl ?_ ?_ | refine CallG.mk rfl ?_ ?_ | refine CallG.nwl rfl ?_ ?_ | refine CallG.nw ?_ ?_ | refine CallF.nwl rfl ?_ ?_ | refine CallF.nw ?_ ?_ | refine AppN.mk ?_ | (refine CallS.q ?_; (conv => whnf); first | refine CallG.plain rfl ?_ ?_ | refine CallG.mk rfl ?_ ?_) | (refine CallS.m ?_; (conv => whnf); refine CallM.mk rfl ?_ ?_) | (refine CallS.h ?_; (conv => whnf); refine CallM.mk rfl ?_ ?_) | (refine CallS.b ?_; (conv => whnf); refine CallM.mk rfl ?_ ?_) | (refine CallS.z ?_; (conv => whnf); refine CallM.mk rfl ?_ ?_))
        all_goals (try (conv => whnf))
        all_goals (try (exact Ob.mk (u8_bnd _)))
        all_goals (try (refine Ob.mk ?_; first | exact True.intro | assumption | omega | (try simp only [decide_eq_true_eq, decide_eq_false_iff_not, beq_iff_eq, beq_eq_false_iff_ne, bne_iff_ne, bne_eq_false_iff_eq, ne_eq, Bool.and_eq_true, Bool.or_eq_true, Bool.not_eq_true, Bool.not_eq_false, Bool.not_eq_true', Bool.not_eq_false', Int.toNat_natCast, Int.not_lt, Int.not_le, UInt8.ofNat_toNat, cast_eq] at *; omega)))
        all_goals (try ((show (_:Int) = _); omega))
        all_goals (try (show tupSV _ = _; with_unfolding_all rfl))
        all_goals (try ((show (_ : Nat) ≤ _); (simp <;> omega)))
        all_goals (try ((show (_ : Nat) ≤ _ ∧ (_ : Nat) ≤ _); (simp <;> omega)))
        all_goals (try ((show (_ : Int) ≤ _ ∧ (_ : Int) ≤ _ ∧ (_ : Int) ≤ _ ∧ (_ : Int) ≤ _); (simp <;> omega)))
        all_goals rfl
      · have hft := fun h => flat_take LL i h
        have hfl := flat_len (LL.take i)
        have hfl2 := flat_len (LL.take (i + 1))
        have hle := sumL_le LL i
        have hle' := sumL_le LL (i + 1)
        repeat' ((conv => whnf); first | (with_reducible rfl) | exact True.intro | (with_reducible exact absTF) | (with_reducible exact absFT) | intro _ | refine And.intro ?_ ?_ | refine Fin.mk ?_ | refine CallG.plain rfl ?_ ?_ | refine CallG.mk rfl ?_ ?_ | refine CallG.nwl rfl ?_ ?_ | refine CallG.nw ?_ ?_ | refine CallF.nwl rfl ?_ ?_ | refine CallF.nw ?_ ?_ | refine AppN.mk ?_ | (refine CallS.q ?_; (conv => whnf); first | refine CallG.plain rfl ?_ ?_ | refine CallG.mk rfl ?_ ?_) | (refine CallS.m ?_; (conv => whnf); refine CallM.mk rfl ?_ ?_) | (refine CallS.h ?_; (conv => whnf); refine CallM.mk rfl ?_ ?_) | (refine CallS.b ?_; (conv => whnf); refine CallM.mk rfl ?_ ?_) | (refine CallS.z ?_; (conv => whnf); refine CallM.mk rfl ?_ ?_))
        all_goals (try (conv => whnf))
        all_goals (try (exact Ob.mk (u8_bnd _)))
        all_goals (try (refine Ob.mk ?_; first | exact True.intro | assumption | omega | (try simp only [decide_eq_true_eq, decide_eq_false_iff_not, beq_iff_eq, beq_eq_false_iff_ne, bne_iff_ne, bne_eq_false_iff_eq, ne_eq, Bool.and_eq_true, Bool.or_eq_true, Bool.not_eq_true, Bool.not_eq_false, Bool.not_eq_true', Bool.not_eq_false', Int.toNat_natCast, Int.not_lt, Int.not_le, UInt8.ofNat_toNat, cast_eq] at *; omega)))
        all_goals (try ((show (_:Int) = _); omega))
        all_goals (try (show tupSV _ = _; with_unfolding_all rfl))
        all_goals (try ((show (_ : Nat) ≤ _); (simp <;> omega)))
        all_goals (try ((show (_ : Nat) ≤ _ ∧ (_ : Nat) ≤ _); (simp <;> omega)))
        all_goals (try ((show (_ : Int) ≤ _ ∧ (_ : Int) ≤ _ ∧ (_ : Int) ≤ _ ∧ (_ : Int) ≤ _); (simp <;> omega)))
        all_goals (try simp only [Int.toNat_natCast, Ty.dflt] at *)
        · have hl := of_decide_eq_true ‹decide ((i : Int) < (LL.length : Int)) = true›
          have hft := hft (by omega)
          have hle3 : ((LL.take (i + 1)).flatten).length ≤ 100000 := by omega
          rw [hft, List.length_append] at hle3
          have hb9 : bytesT Tryd.prog 9 = 16 := rfl
          rw [hb9]
          constructor <;> omega
        · have hl := of_decide_eq_true ‹decide ((i : Int) < (LL.length : Int)) = true›
          have hft := hft (by omega)
          refine Rnd.mk ⟨i + 1, by omega, by omega, ?_⟩
          repeat' ((conv => whnf); first | (with_reducible rfl) | exact True.intro | (with_reducible exact absTF) | (with_reducible exact absFT) | intro _ | refine And.intro ?_ ?_ | refine Fin.mk ?_ | refine CallG.plain rfl ?_ ?_ | refine CallG.mk rfl ?_ ?_ | refine CallG.nwl rfl ?_ ?_ | refine CallG.nw ?_ ?_ | refine CallF.nwl rfl ?_ ?_ | refine CallF.nw ?_ ?_ | refine AppN.mk ?_ | (refine CallS.q ?_; (conv => whnf); first | refine CallG.plain rfl ?_ ?_ | refine CallG.mk rfl ?_ ?_) | (refine CallS.m ?_; (conv => whnf); refine CallM.mk rfl ?_ ?_) | (refine CallS.h ?_; (conv => whnf); refine CallM.mk rfl ?_ ?_) | (refine CallS.b ?_; (conv => whnf); refine CallM.mk rfl ?_ ?_) | (refine CallS.z ?_; (conv => whnf); refine CallM.mk rfl ?_ ?_))
          all_goals (try (conv => whnf))
          all_goals (try (exact Ob.mk (u8_bnd _)))
          all_goals (try (refine Ob.mk ?_; first | exact True.intro | assumption | omega | (try simp only [decide_eq_true_eq, decide_eq_false_iff_not, beq_iff_eq, beq_eq_false_iff_ne, bne_iff_ne, bne_eq_false_iff_eq, ne_eq, Bool.and_eq_true, Bool.or_eq_true, Bool.not_eq_true, Bool.not_eq_false, Bool.not_eq_true', Bool.not_eq_false', Int.toNat_natCast, Int.not_lt, Int.not_le, UInt8.ofNat_toNat, cast_eq] at *; omega)))
          all_goals (try ((show (_:Int) = _); omega))
          all_goals (try (show tupSV _ = _; with_unfolding_all rfl))
          all_goals (try ((show (_ : Nat) ≤ _); (simp <;> omega)))
          all_goals (try ((show (_ : Nat) ≤ _ ∧ (_ : Nat) ≤ _); (simp <;> omega)))
          all_goals (try ((show (_ : Int) ≤ _ ∧ (_ : Int) ≤ _ ∧ (_ : Int) ≤ _ ∧ (_ : Int) ≤ _); (simp <;> omega)))
          all_goals (rw [hft])
        · have hl := of_decide_eq_false ‹decide ((i : Int) < (LL.length : Int)) = false›
          have : i = LL.length := by omega
          rw [this, List.take_length]
end Go.Vc

namespace Go.Vc
open Go.Proofs
open Go.Vc.W
set_option linter.unusedVariables false
set_option maxRecDepth 10000
set_option linter.unusedSimpArgs false
set_option maxHeartbeats 4000000
theorem ors4 {p q r t : Bool} (h : (p || q || r || t) = false) : p = false ∧ q = false ∧ r = false ∧ t = false := by
  cases p <;> cases q <;> cases r <;> cases t <;> simp_all
theorem cat_has (l m : List (List UInt8)) (w : List UInt8) : [l, m].flatten.contains w = (l.contains w || m.contains w) := by
  simp only [List.flatten_cons, List.flatten_nil, List.append_nil]
  rw [List.contains_append]
theorem alw_cat (L M : List (List UInt8)) (x : List UInt8) : alwL [L, M].flatten x = (alwL L x || alwL M x) := by
  unfold alwL
  rw [cat_has]
  cases (schL (bareL x)).2 <;> simp
theorem attrB_mono {l m ss ts : List (List UInt8)} {k s : Int} {nn nm v : List UInt8} (h : attrB l ss k s nn nm v = true) : attrB [l, m].flatten [ss, ts].flatten k s nn nm v = true := by
  unfold attrB at h ⊢
  rw [cat_has, alw_cat]
  revert h
  cases l.contains nm <;> cases m.contains nm <;> cases alwL ss (decU v) <;> cases alwL ts (decU v) <;> cases leadsP nm <;> cases fitsP k s nn nm <;> cases (decU v == [] && emptyP nm) <;> simp
theorem pol_len {px : List UInt8} {rs es as_ ss : List (List UInt8)} (h : polOk px rs es as_ ss = true) : es.length ≤ 250 ∧ as_.length ≤ 250 ∧ ss.length ≤ 250 := by
  unfold polOk at h
  simp only [Bool.and_eq_true] at h
  have h1 := (wordsB_spec h.1.1.2).1
  have h2 := (wordsB_spec h.1.2).1
  have h3 := (wordsB_spec h.2).1
  omega
instance kMore (px : List UInt8) (rs es as_ ss : List (List UInt8)) (a b c d e : Int) (u : Bool) (px' : List UInt8) (rs' es' as_' ss' : List (List UInt8)) (a' b' c' d' e' : Int) (u' : Bool) (k s : Int) (nn : List UInt8) (at_ : List attrTy.T) (dt : List UInt8) (up : Int) (kids : List Int) (nm v : List UInt8) : Fn BB 11 [.agg [.str px, .rd .str rs, .rd .str es, .rd .str as_, .rd .str ss, .int .i64 a, .int .i64 b, .int .i64 c, .int .i64 d, .int .i64 e, .bool u], .agg [.str px', .rd .str rs', .rd .str es', .rd .str as_', .rd .str ss', .int .i64 a', .int .i64 b', .int .i64 c', .int .i64 d', .int .i64 e', .bool u'], .agg [.int .i64 k, .int .i64 s, .str nn, .rd attrTy at_, .str dt, .int .i64 up, .rd intTy kids], .agg [.str nm, .str v]] True (.bool true) := by
  refine Fn.intro (N := 94) [0, 1, 2, 3, 4, 5, 6, 7, 8, 9, 10, 11, 12, 13, 32] [(4, [0, 1, 0, 1, 1, 1, 0, 1, 0, 1, 1, 1, 0, 1, 0, 1, 1, 3, 0, 3, 0, 3, 0, 3])] Tryd.call11 Tryd.func11 rfl rfl (by kernel_rfl) (fun hpre => ?_)
  repeat' ((conv => whnf); first | (with_reducible rfl) | exact True.intro | (with_reducible exact absTF) | (with_reducible exact absFT) | intro _ | refine And.intro ?_ ?_ | refine Fin.mk ?_ | refine CallG.plain rfl ?_ ?_ | refine CallG.mk rfl ?_ ?_ | refine CallG.nwl rfl ?_ ?_ | refine CallG.nw ?_ ?_ | refine CallF.nwl rfl ?_ ?_ | refine CallF.nw ?_ ?_ | refine AppN.mk ?_ | (refine CallS.q ?_; (conv => whnf); first | refine CallG.plain rfl ?_ ?_ | refine CallG.mk rfl ?_ ?_) | (refine CallS.m ?_; (conv => whnf); refine CallM.mk rfl ?_ ?_) | (refine CallS.h ?_; (conv => whnf); refine CallM.mk rfl ?_ ?_) | (refine CallS.b ?_; (conv => whnf); refine CallM.mk rfl ?_ ?_) | (refine CallS.z ?_; (conv => whnf); refine CallM.mk rfl ?_ ?_))
  all_goals (try (conv => whnf))
  all_goals (try (exact Ob.mk (u8_bnd _)))
  all_goals (try (refine Ob.mk ?_; first | exact True.intro | assumption | omega | (try simp only [decide_eq_true_eq, decide_eq_false_iff_not, beq_iff_eq, beq_eq_false_iff_ne, bne_iff_ne, bne_eq_false_iff_eq, ne_eq, Bool.and_eq_true, Bool.or_eq_true, Bool.not_eq_true, Bool.not_eq_false, Bool.not_eq_true', Bool.not_eq_false', Int.toNat_natCast, Int.not_lt, Int.not_le, UInt8.ofNat_toNat, cast_eq] at *; omega)))
  all_goals (try ((show (_:Int) = _); omega))
  all_goals (try (show tupSV _ = _; with_unfolding_all rfl))
  all_goals (try ((show (_ : Nat) ≤ _); (simp <;> omega)))
  all_goals (try ((show (_ : Nat) ≤ _ ∧ (_ : Nat) ≤ _); (simp <;> omega)))
  all_goals (try ((show (_ : Int) ≤ _ ∧ (_ : Int) ≤ _ ∧ (_ : Int) ≤ _ ∧ (_ : Int) ≤ _); (simp <;> omega)))
  all_goals (have hh := ors4 (by assumption : (!polOk px rs es as_ ss || !polOk px' rs' es' as_' ss' || !nodeOk (k, s, nn, at_, dt, up, kids) || !attrsOk [(nm, v)]) = false))
  all_goals (have h5 := and5 (notf hh.2.2.1) (notf hh.2.2.2))
  all_goals (have l1 := pol_len (notf hh.1))
  all_goals (have l2 := pol_len (notf hh.2.1))
  all_goals (try exact h5)
  all_goals (try exact h5.1)
  all_goals (try (show sumL [_, _] ≤ 100000 ∧ _; refine ⟨?_, by simp⟩; simp only [sumL]; omega))
  rw [cat_has]
  have e1 : ((!(k == 1 && knownP s nn && es.contains (keyP s nn)) || (k == 1 && knownP s nn && (es.contains (keyP s nn) || es'.contains (keyP s nn))))) = true := by
    cases (k == 1 && knownP s nn) <;> cases es.contains (keyP s nn) <;> cases es'.contains (keyP s nn) <;> rfl
  rw [e1]
  cases hb : attrB as_ ss k s nn nm v with
  | false => rw [attr_f hb]; rfl
  | true => rw [attr_t hb, attr_t (attrB_mono hb)]; simp
end Go.Vc

namespace Go.Vc
open Go.Proofs
set_option maxRecDepth 100000
abbrev laidD : List (String × DataW Unit) := [("unicode/utf8.acceptRanges", YtgggnkinalmmlaaDoor.Rows.laid_unicode_utf8_acceptRanges), ("unicode/utf8.first", YtgggnkinalmmlaaDoor.Rows.laid_unicode_utf8_first)]
theorem acc_eq : (YtgggnkinalmmlaaDoor.Rows.laid_unicode_utf8_acceptRanges : DataW Unit) = Lib.acceptData := by kernel_rfl
theorem cellR_of (W : World) (b o : Nat) (v : Value) (h : W.cell? ⟨b, o, none⟩ = some v) : cellR (fun b => W.heap[b]?) b o = some v := by
  unfold cellR
  simp only [World.cell?] at h
  cases hb : W.heap[b]? with
  | none => rw [hb] at h; cases h
  | some x =>
    rw [hb] at h
    simp only [hb]
    cases x <;> first | exact h | (cases h)
theorem base_ok (W : World) (hL : laidMetH Tryd.prog laidD W) (hsh : W.ShapedOpen Tryd.prog) : BB.G fun b => W.heap[b]? := by
  have h3 := Lib.laidMet.reads hL (.tail _ (.head _))
  have h4 := Lib.laidMet.reads hL (.head _)
  have h3' : Lib.VarReads Tryd.prog W "unicode/utf8.first" Lib.firstData := by
    have e : (YtgggnkinalmmlaaDoor.Rows.laid_unicode_utf8_first : DataW Unit) = Lib.firstData := Pinned.utf8First_eq
    rw [← e]; exact h3
  have h4' : Lib.VarReads Tryd.prog W "unicode/utf8.acceptRanges" Lib.acceptData := by rw [← acc_eq]; exact h4
  have ht : Lib.Utf8Tabs 0 1 W := utf8Tabs_of_readsT (ρ := Tryd.lays260_ren) (U8Types.of260 Tryd.lays260) ⟨by kernel_rfl, by kernel_rfl, by kernel_rfl, by kernel_rfl, by kernel_rfl, by kernel_rfl, by kernel_rfl⟩ h3' h4'
  obtain ⟨m, hm⟩ := Tryd.laysM143.s1_3 W hsh
  exact ⟨fun c hc => cellR_of W _ _ _ (ht.1 c hc), fun i hi => ⟨cellR_of W _ _ _ (ht.2 i hi).1, cellR_of W _ _ _ (ht.2 i hi).2⟩, ⟨m, cellR_of W _ _ _ hm⟩⟩
end Go.Vc
