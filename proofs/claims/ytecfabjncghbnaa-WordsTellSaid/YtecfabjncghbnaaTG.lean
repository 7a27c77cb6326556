/- A part of the proof: lemmas and walks that the last text of the claim joins; no condition. -/
import Derived.Test.YtecfabjncghbnaaVcF
import Derived.Test.YtecfabjncghbnaaChecked
set_option linter.unusedVariables false
set_option linter.unusedSimpArgs false
namespace Go.Vc
open Go.Proofs
set_option linter.unusedVariables false
theorem mixed : Try.prog.follows .mixedOrders = true := by kernel_rfl
abbrev intTy : Ty := .int .i64
abbrev spTy : Ty := .pr intTy intTy
def tyB (t : TypeId) : Option Ty :=
  bif Nat.beq t 3 then some intTy else bif Nat.beq t 9 then some .str else bif Nat.beq t 5 then some .byte else bif Nat.beq t 70 then some spTy else none
def eqsB (t : TypeId) : Bool := false
theorem eqsB_ok : ∀ t, eqsB t = true → Try.prog.stoodInHeld t = false ∧ Try.prog.eqGuardType Try.prog.depth t = false ∧ ((Try.prog.fieldsOf t).toList.all fun f => f.name != "_") = true := fun t h => by cases h
noncomputable abbrev BB : Base := ⟨Try.prog, mixed, fun r => ∃ c T fr m, r 0 = some (.cells c T fr) ∧ c[0]? = some (.int .i64 m), fun r r' h ⟨c, T, fr, m, h1, h2⟩ => ⟨c, T, fr, m, h 0 _ h1, h2⟩, tyB, eqsB, eqsB_ok⟩

@[simp] theorem bytes1 : bytesT Try.prog 1 = 8 := rfl
@[simp] theorem bytesB1 : bytesT BB.P 1 = 8 := rfl
@[simp] theorem bytes2 : bytesT Try.prog 2 = 8 := rfl
@[simp] theorem bytesB2 : bytesT BB.P 2 = 8 := rfl
@[simp] theorem bytes3 : bytesT Try.prog 3 = 8 := rfl
@[simp] theorem bytesB3 : bytesT BB.P 3 = 8 := rfl
@[simp] theorem bytes4 : bytesT Try.prog 4 = 1 := rfl
@[simp] theorem bytesB4 : bytesT BB.P 4 = 1 := rfl
@[simp] theorem bytes5 : bytesT Try.prog 5 = 1 := rfl
@[simp] theorem bytesB5 : bytesT BB.P 5 = 1 := rfl
@[simp] theorem bytes6 : bytesT Try.prog 6 = 1 := rfl
@[simp] theorem bytesB6 : bytesT BB.P 6 = 1 := rfl
@[simp] theorem bytes7 : bytesT Try.prog 7 = 24 := rfl
@[simp] theorem bytesB7 : bytesT BB.P 7 = 24 := rfl
@[simp] theorem bytes8 : bytesT Try.prog 8 = 24 := rfl
@[simp] theorem bytesB8 : bytesT BB.P 8 = 24 := rfl
@[simp] theorem bytes9 : bytesT Try.prog 9 = 16 := rfl
@[simp] theorem bytesB9 : bytesT BB.P 9 = 16 := rfl
@[simp] theorem bytes10 : bytesT Try.prog 10 = 16 := rfl
@[simp] theorem bytesB10 : bytesT BB.P 10 = 16 := rfl
@[simp] theorem bytes11 : bytesT Try.prog 11 = 16 := rfl
@[simp] theorem bytesB11 : bytesT BB.P 11 = 16 := rfl
@[simp] theorem bytes12 : bytesT Try.prog 12 = 8 := rfl
@[simp] theorem bytesB12 : bytesT BB.P 12 = 8 := rfl
@[simp] theorem bytes13 : bytesT Try.prog 13 = 24 := rfl
@[simp] theorem bytesB13 : bytesT BB.P 13 = 24 := rfl
@[simp] theorem bytes14 : bytesT Try.prog 14 = 24 := rfl
@[simp] theorem bytesB14 : bytesT BB.P 14 = 24 := rfl
@[simp] theorem bytes15 : bytesT Try.prog 15 = 8 := rfl
@[simp] theorem bytesB15 : bytesT BB.P 15 = 8 := rfl
@[simp] theorem bytes16 : bytesT Try.prog 16 = 8 := rfl
@[simp] theorem bytesB16 : bytesT BB.P 16 = 8 := rfl
@[simp] theorem bytes17 : bytesT Try.prog 17 = 8 := rfl
@[simp] theorem bytesB17 : bytesT BB.P 17 = 8 := rfl
@[simp] theorem bytes18 : bytesT Try.prog 18 = 8 := rfl
@[simp] theorem bytesB18 : bytesT BB.P 18 = 8 := rfl
@[simp] theorem bytes19 : bytesT Try.prog 19 = 8 := rfl
@[simp] theorem bytesB19 : bytesT BB.P 19 = 8 := rfl
@[simp] theorem bytes20 : bytesT Try.prog 20 = 16 := rfl
@[simp] theorem bytesB20 : bytesT BB.P 20 = 16 := rfl
@[simp] theorem bytes21 : bytesT Try.prog 21 = 4 := rfl
@[simp] theorem bytesB21 : bytesT BB.P 21 = 4 := rfl
@[simp] theorem bytes22 : bytesT Try.prog 22 = 8 := rfl
@[simp] theorem bytesB22 : bytesT BB.P 22 = 8 := rfl
@[simp] theorem bytes23 : bytesT Try.prog 23 = 8 := rfl
@[simp] theorem bytesB23 : bytesT BB.P 23 = 8 := rfl
@[simp] theorem bytes24 : bytesT Try.prog 24 = 8 := rfl
@[simp] theorem bytesB24 : bytesT BB.P 24 = 8 := rfl
@[simp] theorem bytes25 : bytesT Try.prog 25 = 8 := rfl
@[simp] theorem bytesB25 : bytesT BB.P 25 = 8 := rfl
@[simp] theorem bytes27 : bytesT Try.prog 27 = 8 := rfl
@[simp] theorem bytesB27 : bytesT BB.P 27 = 8 := rfl
@[simp] theorem bytes29 : bytesT Try.prog 29 = 8 := rfl
@[simp] theorem bytesB29 : bytesT BB.P 29 = 8 := rfl
@[simp] theorem bytes30 : bytesT Try.prog 30 = 8 := rfl
@[simp] theorem bytesB30 : bytesT BB.P 30 = 8 := rfl
@[simp] theorem bytes31 : bytesT Try.prog 31 = 8 := rfl
@[simp] theorem bytesB31 : bytesT BB.P 31 = 8 := rfl
@[simp] theorem bytes32 : bytesT Try.prog 32 = 8 := rfl
@[simp] theorem bytesB32 : bytesT BB.P 32 = 8 := rfl
@[simp] theorem bytes33 : bytesT Try.prog 33 = 8 := rfl
@[simp] theorem bytesB33 : bytesT BB.P 33 = 8 := rfl
@[simp] theorem bytes34 : bytesT Try.prog 34 = 24 := rfl
@[simp] theorem bytesB34 : bytesT BB.P 34 = 24 := rfl
@[simp] theorem bytes35 : bytesT Try.prog 35 = 8 := rfl
@[simp] theorem bytesB35 : bytesT BB.P 35 = 8 := rfl
@[simp] theorem bytes36 : bytesT Try.prog 36 = 8 := rfl
@[simp] theorem bytesB36 : bytesT BB.P 36 = 8 := rfl
@[simp] theorem bytes37 : bytesT Try.prog 37 = 8 := rfl
@[simp] theorem bytesB37 : bytesT BB.P 37 = 8 := rfl
@[simp] theorem bytes38 : bytesT Try.prog 38 = 8 := rfl
@[simp] theorem bytesB38 : bytesT BB.P 38 = 8 := rfl
@[simp] theorem bytes39 : bytesT Try.prog 39 = 8 := rfl
@[simp] theorem bytesB39 : bytesT BB.P 39 = 8 := rfl
@[simp] theorem bytes40 : bytesT Try.prog 40 = 8 := rfl
@[simp] theorem bytesB40 : bytesT BB.P 40 = 8 := rfl
@[simp] theorem bytes41 : bytesT Try.prog 41 = 8 := rfl
@[simp] theorem bytesB41 : bytesT BB.P 41 = 8 := rfl
@[simp] theorem bytes42 : bytesT Try.prog 42 = 8 := rfl
@[simp] theorem bytesB42 : bytesT BB.P 42 = 8 := rfl
@[simp] theorem bytes43 : bytesT Try.prog 43 = 8 := rfl
@[simp] theorem bytesB43 : bytesT BB.P 43 = 8 := rfl
@[simp] theorem bytes44 : bytesT Try.prog 44 = 24 := rfl
@[simp] theorem bytesB44 : bytesT BB.P 44 = 24 := rfl
@[simp] theorem bytes46 : bytesT Try.prog 46 = 8 := rfl
@[simp] theorem bytesB46 : bytesT BB.P 46 = 8 := rfl
@[simp] theorem bytes47 : bytesT Try.prog 47 = 8 := rfl
@[simp] theorem bytesB47 : bytesT BB.P 47 = 8 := rfl
@[simp] theorem bytes48 : bytesT Try.prog 48 = 8 := rfl
@[simp] theorem bytesB48 : bytesT BB.P 48 = 8 := rfl
@[simp] theorem bytes49 : bytesT Try.prog 49 = 256 := rfl
@[simp] theorem bytesB49 : bytesT BB.P 49 = 256 := rfl
@[simp] theorem bytes50 : bytesT Try.prog 50 = 8 := rfl
@[simp] theorem bytesB50 : bytesT BB.P 50 = 8 := rfl
@[simp] theorem bytes51 : bytesT Try.prog 51 = 24 := rfl
@[simp] theorem bytesB51 : bytesT BB.P 51 = 24 := rfl
@[simp] theorem bytes52 : bytesT Try.prog 52 = 8 := rfl
@[simp] theorem bytesB52 : bytesT BB.P 52 = 8 := rfl
@[simp] theorem bytes53 : bytesT Try.prog 53 = 8 := rfl
@[simp] theorem bytesB53 : bytesT BB.P 53 = 8 := rfl
@[simp] theorem bytes54 : bytesT Try.prog 54 = 8 := rfl
@[simp] theorem bytesB54 : bytesT BB.P 54 = 8 := rfl
@[simp] theorem bytes55 : bytesT Try.prog 55 = 8 := rfl
@[simp] theorem bytesB55 : bytesT BB.P 55 = 8 := rfl
@[simp] theorem bytes56 : bytesT Try.prog 56 = 8 := rfl
@[simp] theorem bytesB56 : bytesT BB.P 56 = 8 := rfl
@[simp] theorem bytes57 : bytesT Try.prog 57 = 8 := rfl
@[simp] theorem bytesB57 : bytesT BB.P 57 = 8 := rfl
@[simp] theorem bytes58 : bytesT Try.prog 58 = 32 := rfl
@[simp] theorem bytesB58 : bytesT BB.P 58 = 32 := rfl
@[simp] theorem bytes59 : bytesT Try.prog 59 = 32 := rfl
@[simp] theorem bytesB59 : bytesT BB.P 59 = 32 := rfl
@[simp] theorem bytes60 : bytesT Try.prog 60 = 40 := rfl
@[simp] theorem bytesB60 : bytesT BB.P 60 = 40 := rfl
@[simp] theorem bytes61 : bytesT Try.prog 61 = 40 := rfl
@[simp] theorem bytesB61 : bytesT BB.P 61 = 40 := rfl
@[simp] theorem bytes62 : bytesT Try.prog 62 = 8 := rfl
@[simp] theorem bytesB62 : bytesT BB.P 62 = 8 := rfl
@[simp] theorem bytes63 : bytesT Try.prog 63 = 8 := rfl
@[simp] theorem bytesB63 : bytesT BB.P 63 = 8 := rfl
@[simp] theorem bytes64 : bytesT Try.prog 64 = 8 := rfl
@[simp] theorem bytesB64 : bytesT BB.P 64 = 8 := rfl
@[simp] theorem bytes66 : bytesT Try.prog 66 = 8 := rfl
@[simp] theorem bytesB66 : bytesT BB.P 66 = 8 := rfl
@[simp] theorem bytes67 : bytesT Try.prog 67 = 8 := rfl
@[simp] theorem bytesB67 : bytesT BB.P 67 = 8 := rfl
@[simp] theorem bytes68 : bytesT Try.prog 68 = 24 := rfl
@[simp] theorem bytesB68 : bytesT BB.P 68 = 24 := rfl
@[simp] theorem bytes69 : bytesT Try.prog 69 = 16 := rfl
@[simp] theorem bytesB69 : bytesT BB.P 69 = 16 := rfl
@[simp] theorem bytes70 : bytesT Try.prog 70 = 16 := rfl
@[simp] theorem bytesB70 : bytesT BB.P 70 = 16 := rfl
@[simp] theorem bytes71 : bytesT Try.prog 71 = 8 := rfl
@[simp] theorem bytesB71 : bytesT BB.P 71 = 8 := rfl
@[simp] theorem bytes72 : bytesT Try.prog 72 = 8 := rfl
@[simp] theorem bytesB72 : bytesT BB.P 72 = 8 := rfl
@[simp] theorem bytes73 : bytesT Try.prog 73 = 16 := rfl
@[simp] theorem bytesB73 : bytesT BB.P 73 = 16 := rfl
@[simp] theorem bytes74 : bytesT Try.prog 74 = 16 := rfl
@[simp] theorem bytesB74 : bytesT BB.P 74 = 16 := rfl
@[simp] theorem bytes76 : bytesT Try.prog 76 = 8 := rfl
@[simp] theorem bytesB76 : bytesT BB.P 76 = 8 := rfl
@[simp] theorem bytes77 : bytesT Try.prog 77 = 8 := rfl
@[simp] theorem bytesB77 : bytesT BB.P 77 = 8 := rfl
@[simp] theorem bytes78 : bytesT Try.prog 78 = 8 := rfl
@[simp] theorem bytesB78 : bytesT BB.P 78 = 8 := rfl
@[simp] theorem bytes79 : bytesT Try.prog 79 = 256 := rfl
@[simp] theorem bytesB79 : bytesT BB.P 79 = 256 := rfl
@[simp] theorem bytes80 : bytesT Try.prog 80 = 256 := rfl
@[simp] theorem bytesB80 : bytesT BB.P 80 = 256 := rfl
@[simp] theorem bytes82 : bytesT Try.prog 82 = 8 := rfl
@[simp] theorem bytesB82 : bytesT BB.P 82 = 8 := rfl
@[simp] theorem bytes83 : bytesT Try.prog 83 = 8 := rfl
@[simp] theorem bytesB83 : bytesT BB.P 83 = 8 := rfl
@[simp] theorem bytes84 : bytesT Try.prog 84 = 8 := rfl
@[simp] theorem bytesB84 : bytesT BB.P 84 = 8 := rfl
@[simp] theorem bytes85 : bytesT Try.prog 85 = 8 := rfl
@[simp] theorem bytesB85 : bytesT BB.P 85 = 8 := rfl
@[simp] theorem bytes86 : bytesT Try.prog 86 = 8 := rfl
@[simp] theorem bytesB86 : bytesT BB.P 86 = 8 := rfl
@[simp] theorem bytes87 : bytesT Try.prog 87 = 8 := rfl
@[simp] theorem bytesB87 : bytesT BB.P 87 = 8 := rfl
@[simp] theorem bytes88 : bytesT Try.prog 88 = 4 := rfl
@[simp] theorem bytesB88 : bytesT BB.P 88 = 4 := rfl
@[simp] theorem bytes90 : bytesT Try.prog 90 = 8 := rfl
@[simp] theorem bytesB90 : bytesT BB.P 90 = 8 := rfl
@[simp] theorem bytes91 : bytesT Try.prog 91 = 8 := rfl
@[simp] theorem bytesB91 : bytesT BB.P 91 = 8 := rfl
@[simp] theorem bytes92 : bytesT Try.prog 92 = 8 := rfl
@[simp] theorem bytesB92 : bytesT BB.P 92 = 8 := rfl
@[simp] theorem bytes93 : bytesT Try.prog 93 = 8 := rfl
@[simp] theorem bytesB93 : bytesT BB.P 93 = 8 := rfl
@[simp] theorem bytes94 : bytesT Try.prog 94 = 40 := rfl
@[simp] theorem bytesB94 : bytesT BB.P 94 = 40 := rfl
@[simp] theorem bytes95 : bytesT Try.prog 95 = 40 := rfl
@[simp] theorem bytesB95 : bytesT BB.P 95 = 40 := rfl
@[simp] theorem bytes99 : bytesT Try.prog 99 = 8 := rfl
@[simp] theorem bytesB99 : bytesT BB.P 99 = 8 := rfl
@[simp] theorem bytes100 : bytesT Try.prog 100 = 1 := rfl
@[simp] theorem bytesB100 : bytesT BB.P 100 = 1 := rfl
@[simp] theorem bytes101 : bytesT Try.prog 101 = 1 := rfl
@[simp] theorem bytesB101 : bytesT BB.P 101 = 1 := rfl
@[simp] theorem bytes102 : bytesT Try.prog 102 = 8 := rfl
@[simp] theorem bytesB102 : bytesT BB.P 102 = 8 := rfl
@[simp] theorem bytes103 : bytesT Try.prog 103 = 4 := rfl
@[simp] theorem bytesB103 : bytesT BB.P 103 = 4 := rfl
@[simp] theorem bytes104 : bytesT Try.prog 104 = 4 := rfl
@[simp] theorem bytesB104 : bytesT BB.P 104 = 4 := rfl
@[simp] theorem bytes105 : bytesT Try.prog 105 = 48 := rfl
@[simp] theorem bytesB105 : bytesT BB.P 105 = 48 := rfl
@[simp] theorem bytes106 : bytesT Try.prog 106 = 48 := rfl
@[simp] theorem bytesB106 : bytesT BB.P 106 = 48 := rfl

def isSp (c : Int) : Bool := c == 9 || c == 10 || c == 12 || c == 13 || c == 32
theorem u8_bnd (x : UInt8) : 0 ≤ (x.toNat : Int) ∧ (x.toNat : Int) ≤ 255 := by have := x.toNat_lt; omega
set_option maxRecDepth 10000
set_option linter.unusedSimpArgs false
instance f31 (c : Int) : Fn BB 51 [.int .u8 c] True (.bool (isSp c)) := by
  refine Fn.intro (N := 10) [0, 2, 3, 4] [] Try.call51 Try.func51 rfl rfl (by kernel_rfl) (fun hpre => ?_)
  repeat' ((conv => whnf); first | (with_reducible rfl) | exact True.intro | (with_reducible exact absTF) | (with_reducible exact absFT) | intro _ | refine And.intro ?_ ?_ | refine Fin.mk ?_ | refine CallG.plain rfl ?_ ?_ | refine CallG.mk rfl ?_ ?_ | refine CallG.nwl rfl ?_ ?_ | refine CallG.nw ?_ ?_ | refine CallF.nwl rfl ?_ ?_ | refine CallF.nw ?_ ?_ | (refine CallS.q ?_; (conv => whnf); first | refine CallG.plain rfl ?_ ?_ | refine CallG.mk rfl ?_ ?_) | (refine CallS.m ?_; (conv => whnf); refine CallM.mk rfl ?_ ?_) | (refine CallS.h ?_; (conv => whnf); refine CallM.mk rfl ?_ ?_) | (refine CallS.b ?_; (conv => whnf); refine CallM.mk rfl ?_ ?_) | (refine CallS.z ?_; (conv => whnf); refine CallM.mk rfl ?_ ?_))
  all_goals (try (conv => whnf))
  all_goals (simp_all [isSp]; done)
instance f40 (c : Int) : Fn BB 52 [.int .u8 c] True (.bool (isSp c)) := by
  refine Fn.intro (N := 21) [0, 2] [] Try.call52 Try.func52 rfl rfl (by kernel_rfl) (fun hpre => ?_)
  repeat' ((conv => whnf); first | (with_reducible rfl) | exact True.intro | (with_reducible exact absTF) | (with_reducible exact absFT) | intro _ | refine And.intro ?_ ?_ | refine Fin.mk ?_ | refine CallG.plain rfl ?_ ?_ | refine CallG.mk rfl ?_ ?_ | refine CallG.nwl rfl ?_ ?_ | refine CallG.nw ?_ ?_ | refine CallF.nwl rfl ?_ ?_ | refine CallF.nw ?_ ?_ | (refine CallS.q ?_; (conv => whnf); first | refine CallG.plain rfl ?_ ?_ | refine CallG.mk rfl ?_ ?_) | (refine CallS.m ?_; (conv => whnf); refine CallM.mk rfl ?_ ?_) | (refine CallS.h ?_; (conv => whnf); refine CallM.mk rfl ?_ ?_) | (refine CallS.b ?_; (conv => whnf); refine CallM.mk rfl ?_ ?_) | (refine CallS.z ?_; (conv => whnf); refine CallM.mk rfl ?_ ?_))
  all_goals (try (conv => whnf))
  all_goals (simp_all [isSp]; done)

theorem take_snoc {α : Type} (l : List α) (i : Nat) (d : α) (h : i < l.length) : l.take (i + 1) = l.take i ++ [l.getD i d] := by
  rw [List.take_succ_eq_append_getElem h]; simp [List.getD, List.getElem?_eq_getElem h]

theorem take_has (l : List (List UInt8)) (i : Nat) (w : List UInt8) (h : i < l.length) : (l.take (i+1)).contains w = ((l.take i).contains w || (l.getD i [] == w)) := by
  rw [take_snoc l i [] h]
  simp only [List.contains_eq_any_beq, List.any_append, List.any_cons, List.any_nil, Bool.or_false]
  congr 1
  exact Bool.beq_comm

/-- Has -/
instance f34 (l : List (List UInt8)) (w : List UInt8) : Fn BB 55 [.rd .str l, .str w] True (.bool (l.contains w)) := by
  refine Fn.intro (N := 18) [0, 1, 4, 5, 9, 17] [] Try.call55 Try.func55 rfl rfl (by kernel_rfl) (fun hpre => ?_)
  (conv => whnf)
  refine LoopStop.mk (α := Nat) (fun i => [(5, .int .i64 i)]) (fun _ => []) 0 (fun i => i ≤ l.length ∧ (l.take i).contains w = false) (fun i => l.length - i) 0 (by simp) ?_ (fun i hi => ?_)
  · repeat' ((conv => whnf); first | (with_reducible rfl) | exact True.intro | (with_reducible exact absTF) | (with_reducible exact absFT) | intro _ | refine And.intro ?_ ?_ | refine Fin.mk ?_ | refine CallG.plain rfl ?_ ?_ | refine CallG.mk rfl ?_ ?_ | refine CallG.nwl rfl ?_ ?_ | refine CallG.nw ?_ ?_ | refine CallF.nwl rfl ?_ ?_ | refine CallF.nw ?_ ?_ | (refine CallS.q ?_; (conv => whnf); first | refine CallG.plain rfl ?_ ?_ | refine CallG.mk rfl ?_ ?_) | (refine CallS.m ?_; (conv => whnf); refine CallM.mk rfl ?_ ?_) | (refine CallS.h ?_; (conv => whnf); refine CallM.mk rfl ?_ ?_) | (refine CallS.b ?_; (conv => whnf); refine CallM.mk rfl ?_ ?_) | (refine CallS.z ?_; (conv => whnf); refine CallM.mk rfl ?_ ?_))
    all_goals (try (conv => whnf))
    all_goals (try rfl)
  · repeat' ((conv => whnf); first | (with_reducible rfl) | exact True.intro | (with_reducible exact absTF) | (with_reducible exact absFT) | intro _ | refine And.intro ?_ ?_ | refine Fin.mk ?_ | refine CallG.plain rfl ?_ ?_ | refine CallG.mk rfl ?_ ?_ | refine CallG.nwl rfl ?_ ?_ | refine CallG.nw ?_ ?_ | refine CallF.nwl rfl ?_ ?_ | refine CallF.nw ?_ ?_ | (refine CallS.q ?_; (conv => whnf); first | refine CallG.plain rfl ?_ ?_ | refine CallG.mk rfl ?_ ?_) | (refine CallS.m ?_; (conv => whnf); refine CallM.mk rfl ?_ ?_) | (refine CallS.h ?_; (conv => whnf); refine CallM.mk rfl ?_ ?_) | (refine CallS.b ?_; (conv => whnf); refine CallM.mk rfl ?_ ?_) | (refine CallS.z ?_; (conv => whnf); refine CallM.mk rfl ?_ ?_))
    all_goals (try (conv => whnf))
    all_goals (try (exact Ob.mk (u8_bnd _)))
    all_goals (try (refine Ob.mk ?_; first | exact True.intro | assumption | omega | (try simp only [decide_eq_true_eq, decide_eq_false_iff_not, beq_iff_eq, beq_eq_false_iff_ne, bne_iff_ne, bne_eq_false_iff_eq, ne_eq, Bool.and_eq_true, Bool.or_eq_true, Bool.not_eq_true, Bool.not_eq_false, Bool.not_eq_true', Bool.not_eq_false', Int.toNat_natCast, Int.not_lt, Int.not_le, UInt8.ofNat_toNat, cast_eq] at *; omega)))
    all_goals (try ((show (_:Int) = _); omega))
    all_goals (try (show tupSV _ = _; with_unfolding_all rfl))
    all_goals (try ((show (_ : Nat) ≤ _); (simp <;> omega)))
    all_goals (try ((show (_ : Nat) ≤ _ ∧ (_ : Nat) ≤ _); (simp <;> omega)))
    all_goals (try ((show (_ : Int) ≤ _ ∧ (_ : Int) ≤ _ ∧ (_ : Int) ≤ _ ∧ (_ : Int) ≤ _); (simp <;> omega)))
    all_goals (try simp only [decide_eq_true_eq, decide_eq_false_iff_not, beq_iff_eq, beq_eq_false_iff_ne, bne_iff_ne, bne_eq_false_iff_eq, ne_eq, Bool.and_eq_true, Bool.or_eq_true, Bool.not_eq_true, Bool.not_eq_false, Bool.not_eq_true', Bool.not_eq_false', Int.toNat_natCast, Int.not_lt, Int.not_le, UInt8.ofNat_toNat, cast_eq] at *)
    · rename_i h1 h2 h3
      have h4 : i < l.length := by omega
      rw [← h3]; simp [List.getD, List.getElem?_eq_getElem h4]
    · rename_i h1 h2 h3
      have h4 : i < l.length := by omega
      refine Rnd.mk ⟨i + 1, ?_, ?_, ?_⟩
      · refine ⟨by omega, ?_⟩
        rw [take_has l i w h4, hi.2, Bool.false_or]; exact beq_eq_false_iff_ne.mpr h3
      · omega
      · repeat' ((conv => whnf); first | (with_reducible rfl) | exact True.intro | (with_reducible exact absTF) | (with_reducible exact absFT) | intro _ | refine And.intro ?_ ?_ | refine Fin.mk ?_ | refine CallG.plain rfl ?_ ?_ | refine CallG.mk rfl ?_ ?_ | refine CallG.nwl rfl ?_ ?_ | refine CallG.nw ?_ ?_ | refine CallF.nwl rfl ?_ ?_ | refine CallF.nw ?_ ?_ | (refine CallS.q ?_; (conv => whnf); first | refine CallG.plain rfl ?_ ?_ | refine CallG.mk rfl ?_ ?_) | (refine CallS.m ?_; (conv => whnf); refine CallM.mk rfl ?_ ?_) | (refine CallS.h ?_; (conv => whnf); refine CallM.mk rfl ?_ ?_) | (refine CallS.b ?_; (conv => whnf); refine CallM.mk rfl ?_ ?_) | (refine CallS.z ?_; (conv => whnf); refine CallM.mk rfl ?_ ?_))
        all_goals (try (conv => whnf))
        all_goals (try (exact Ob.mk (u8_bnd _)))
        all_goals (try (refine Ob.mk ?_; first | exact True.intro | assumption | omega | (try simp only [decide_eq_true_eq, decide_eq_false_iff_not, beq_iff_eq, beq_eq_false_iff_ne, bne_iff_ne, bne_eq_false_iff_eq, ne_eq, Bool.and_eq_true, Bool.or_eq_true, Bool.not_eq_true, Bool.not_eq_false, Bool.not_eq_true', Bool.not_eq_false', Int.toNat_natCast, Int.not_lt, Int.not_le, UInt8.ofNat_toNat, cast_eq] at *; omega)))
        all_goals (try ((show (_:Int) = _); omega))
        all_goals (try (show tupSV _ = _; with_unfolding_all rfl))
        all_goals (try ((show (_ : Nat) ≤ _); (simp <;> omega)))
        all_goals (try ((show (_ : Nat) ≤ _ ∧ (_ : Nat) ≤ _); (simp <;> omega)))
        all_goals (try ((show (_ : Int) ≤ _ ∧ (_ : Int) ≤ _ ∧ (_ : Int) ≤ _ ∧ (_ : Int) ≤ _); (simp <;> omega)))
    · rename_i h1 h2
      have : i = l.length := by omega
      subst this; simp_all
end Go.Vc

namespace Go.Vc
open Go.Proofs
set_option linter.unusedVariables false
set_option maxRecDepth 10000
set_option linter.unusedSimpArgs false

def spStep (p : List (List UInt8) × List UInt8) (c : UInt8) : List (List UInt8) × List UInt8 :=
  if isSp c.toNat then (if p.2 = [] then (p.1, []) else (p.1 ++ [p.2], [])) else (p.1, p.2 ++ [c])
def spFin (p : List (List UInt8) × List UInt8) : List (List UInt8) := if p.2 = [] then p.1 else p.1 ++ [p.2]
def spl (s : List UInt8) : List (List UInt8) := spFin (s.foldl spStep ([], []))
def spAt (s : List UInt8) (i : Nat) : List (List UInt8) × List UInt8 := (s.take i).foldl spStep ([], [])

theorem spAt_succ (s : List UInt8) (i : Nat) (h : i < s.length) : spAt s (i + 1) = spStep (spAt s i) (s.getD i 0) := by
  unfold spAt; rw [take_snoc s i 0 h, List.foldl_append]; rfl
theorem spAt_all (s : List UInt8) (i : Nat) (h : s.length ≤ i) : spAt s i = s.foldl spStep ([], []) := by
  unfold spAt; rw [List.take_of_length_le h]
theorem spStep_len (p : List (List UInt8) × List UInt8) (c : UInt8) : (spStep p c).1.length + (spStep p c).2.length ≤ p.1.length + p.2.length + 1 := by
  unfold spStep
  by_cases h : isSp c.toNat = true
  · by_cases h2 : p.2 = []
    · simp [h, h2]
    · have := List.length_pos_iff.mpr h2
      simp [h, h2]
  · simp [h]; omega
theorem spAt_len (s : List UInt8) (i : Nat) : (spAt s i).1.length + (spAt s i).2.length ≤ i := by
  induction i with
  | zero => simp [spAt]
  | succ i ih =>
    by_cases h : i < s.length
    · rw [spAt_succ s i h]; have := spStep_len (spAt s i) (s.getD i 0); omega
    · have e : spAt s (i+1) = spAt s i := by rw [spAt_all s (i+1) (by omega), spAt_all s i (by omega)]
      rw [e]; exact Nat.le_succ_of_le ih
theorem drop_take_one (s : List UInt8) (i : Nat) (h : i < s.length) : (s.take (i+1)).drop i = [s.getD i 0] := by
  rw [take_snoc s i 0 h, List.drop_append, List.length_take, Nat.min_eq_left (by omega)]; simp
theorem toNat_add_one (i : Nat) : ((i:Int)+1).toNat = i+1 := by omega
theorem spl_w {s : List UInt8} {i : Nat} (h : s.length ≤ i) (h2 : ¬ (spAt s i).2 = []) : spl s = (spAt s i).1 ++ [(spAt s i).2] := by
  unfold spl; rw [← spAt_all s i h]; simp [spFin, h2]
theorem spl_e {s : List UInt8} {i : Nat} (h : s.length ≤ i) (h2 : (spAt s i).2 = []) : spl s = (spAt s i).1 := by
  unfold spl; rw [← spAt_all s i h]; simp [spFin, h2]

theorem spStep_no {p : List (List UInt8) × List UInt8} {c : UInt8} (h : isSp c.toNat = false) : spStep p c = (p.1, p.2 ++ [c]) := by
  simp [spStep, h]
theorem spStep_sp {p : List (List UInt8) × List UInt8} {c : UInt8} (h : isSp c.toNat = true) (h2 : p.2 = []) : spStep p c = (p.1, []) := by
  simp [spStep, h, h2]
theorem spStep_spw {p : List (List UInt8) × List UInt8} {c : UInt8} (h : isSp c.toNat = true) (h2 : ¬ p.2 = []) : spStep p c = (p.1 ++ [p.2], []) := by
  simp [spStep, h, h2]

/-- ref03.Split -/
instance f35 (s : List UInt8) : Fn BB 28 [.str s] (s.length ≤ 100000) (.rd .str (spl s)) := by
  refine Fn.intro (N := 37) [0, 2, 3, 4, 5, 9, 16, 25, 31] [] Try.call28 Try.func28 rfl rfl (by kernel_rfl) (fun hpre => ?_)
  (conv => whnf)
  refine LoopStop.mk (α := Nat) (fun i => [(3, .own 0), (4, .str (spAt s i).2), (5, .int .i64 i)]) (fun i => [(0, .own .str (spAt s i).1)]) 1 (fun i => i ≤ s.length) (fun i => s.length - i) 0 (by simp) ?_ (fun i hi => ?_)
  · repeat' ((conv => whnf); first | (with_reducible rfl) | exact True.intro | (with_reducible exact absTF) | (with_reducible exact absFT) | intro _ | refine And.intro ?_ ?_ | refine Fin.mk ?_ | refine CallG.plain rfl ?_ ?_ | refine CallG.mk rfl ?_ ?_ | refine CallG.nwl rfl ?_ ?_ | refine CallG.nw ?_ ?_ | refine CallF.nwl rfl ?_ ?_ | refine CallF.nw ?_ ?_ | (refine CallS.q ?_; (conv => whnf); first | refine CallG.plain rfl ?_ ?_ | refine CallG.mk rfl ?_ ?_) | (refine CallS.m ?_; (conv => whnf); refine CallM.mk rfl ?_ ?_) | (refine CallS.h ?_; (conv => whnf); refine CallM.mk rfl ?_ ?_) | (refine CallS.b ?_; (conv => whnf); refine CallM.mk rfl ?_ ?_) | (refine CallS.z ?_; (conv => whnf); refine CallM.mk rfl ?_ ?_))
    all_goals (try (conv => whnf))
    all_goals (try rfl)
  · have hl := spAt_len s i
    repeat' ((conv => whnf); first | (with_reducible rfl) | exact True.intro | (with_reducible exact absTF) | (with_reducible exact absFT) | intro _ | refine And.intro ?_ ?_ | refine Fin.mk ?_ | refine CallG.plain rfl ?_ ?_ | refine CallG.mk rfl ?_ ?_ | refine CallG.nwl rfl ?_ ?_ | refine CallG.nw ?_ ?_ | refine CallF.nwl rfl ?_ ?_ | refine CallF.nw ?_ ?_ | (refine CallS.q ?_; (conv => whnf); first | refine CallG.plain rfl ?_ ?_ | refine CallG.mk rfl ?_ ?_) | (refine CallS.m ?_; (conv => whnf); refine CallM.mk rfl ?_ ?_) | (refine CallS.h ?_; (conv => whnf); refine CallM.mk rfl ?_ ?_) | (refine CallS.b ?_; (conv => whnf); refine CallM.mk rfl ?_ ?_) | (refine CallS.z ?_; (conv => whnf); refine CallM.mk rfl ?_ ?_))
    all_goals (try (conv => whnf))
    all_goals (try (exact Ob.mk (u8_bnd _)))
    all_goals (try (refine Ob.mk ?_; first | exact True.intro | assumption | omega | (try simp only [decide_eq_true_eq, decide_eq_false_iff_not, beq_iff_eq, beq_eq_false_iff_ne, bne_iff_ne, bne_eq_false_iff_eq, ne_eq, Bool.and_eq_true, Bool.or_eq_true, Bool.not_eq_true, Bool.not_eq_false, Bool.not_eq_true', Bool.not_eq_false', Int.toNat_natCast, Int.not_lt, Int.not_le, UInt8.ofNat_toNat, cast_eq] at *; omega)))
    all_goals (try ((show (_:Int) = _); omega))
    all_goals (try (show tupSV _ = _; with_unfolding_all rfl))
    all_goals (try ((show (_ : Nat) ≤ _); (simp <;> omega)))
    all_goals (try ((show (_ : Nat) ≤ _ ∧ (_ : Nat) ≤ _); (simp <;> omega)))
    all_goals (try ((show (_ : Int) ≤ _ ∧ (_ : Int) ≤ _ ∧ (_ : Int) ≤ _ ∧ (_ : Int) ≤ _); (simp <;> omega)))
    all_goals (try simp only [decide_eq_true_eq, decide_eq_false_iff_not, beq_iff_eq, beq_eq_false_iff_ne, bne_iff_ne, bne_eq_false_iff_eq, ne_eq, Bool.and_eq_true, Bool.or_eq_true, Bool.not_eq_true, Bool.not_eq_false, Bool.not_eq_true', Bool.not_eq_false', Int.toNat_natCast, Int.not_lt, Int.not_le, UInt8.ofNat_toNat, cast_eq] at *)
    · have h : i < s.length := by omega
      have e := spAt_succ s i h
      rw [spStep_no ‹_›] at e
      refine Rnd.mk ⟨i + 1, ?_, ?_, ?_⟩
      · exact h
      · omega
      · repeat' ((conv => whnf); first | (with_reducible rfl) | exact True.intro | (with_reducible exact absTF) | (with_reducible exact absFT) | intro _ | refine And.intro ?_ ?_ | refine Fin.mk ?_ | refine CallG.plain rfl ?_ ?_ | refine CallG.mk rfl ?_ ?_ | refine CallG.nwl rfl ?_ ?_ | refine CallG.nw ?_ ?_ | refine CallF.nwl rfl ?_ ?_ | refine CallF.nw ?_ ?_ | (refine CallS.q ?_; (conv => whnf); first | refine CallG.plain rfl ?_ ?_ | refine CallG.mk rfl ?_ ?_) | (refine CallS.m ?_; (conv => whnf); refine CallM.mk rfl ?_ ?_) | (refine CallS.h ?_; (conv => whnf); refine CallM.mk rfl ?_ ?_) | (refine CallS.b ?_; (conv => whnf); refine CallM.mk rfl ?_ ?_) | (refine CallS.z ?_; (conv => whnf); refine CallM.mk rfl ?_ ?_))
        all_goals (try (conv => whnf))
        all_goals (try (exact Ob.mk (u8_bnd _)))
        all_goals (try (refine Ob.mk ?_; first | exact True.intro | assumption | omega | (try simp only [decide_eq_true_eq, decide_eq_false_iff_not, beq_iff_eq, beq_eq_false_iff_ne, bne_iff_ne, bne_eq_false_iff_eq, ne_eq, Bool.and_eq_true, Bool.or_eq_true, Bool.not_eq_true, Bool.not_eq_false, Bool.not_eq_true', Bool.not_eq_false', Int.toNat_natCast, Int.not_lt, Int.not_le, UInt8.ofNat_toNat, cast_eq] at *; omega)))
        all_goals (try ((show (_:Int) = _); omega))
        all_goals (try (show tupSV _ = _; with_unfolding_all rfl))
        all_goals (try ((show (_ : Nat) ≤ _); (simp <;> omega)))
        all_goals (try ((show (_ : Nat) ≤ _ ∧ (_ : Nat) ≤ _); (simp <;> omega)))
        all_goals (try ((show (_ : Int) ≤ _ ∧ (_ : Int) ≤ _ ∧ (_ : Int) ≤ _ ∧ (_ : Int) ≤ _); (simp <;> omega)))
        all_goals (simp only [e, toNat_add_one, drop_take_one s i h]; done)
    · skip
      have h : i < s.length := by omega
      have e := spAt_succ s i h
      rw [spStep_spw ‹_› ‹_›] at e
      repeat' ((conv => whnf); first | (with_reducible rfl) | exact True.intro | (with_reducible exact absTF) | (with_reducible exact absFT) | intro _ | refine And.intro ?_ ?_ | refine Fin.mk ?_ | refine CallG.plain rfl ?_ ?_ | refine CallG.mk rfl ?_ ?_ | refine CallG.nwl rfl ?_ ?_ | refine CallG.nw ?_ ?_ | refine CallF.nwl rfl ?_ ?_ | refine CallF.nw ?_ ?_ | (refine CallS.q ?_; (conv => whnf); first | refine CallG.plain rfl ?_ ?_ | refine CallG.mk rfl ?_ ?_) | (refine CallS.m ?_; (conv => whnf); refine CallM.mk rfl ?_ ?_) | (refine CallS.h ?_; (conv => whnf); refine CallM.mk rfl ?_ ?_) | (refine CallS.b ?_; (conv => whnf); refine CallM.mk rfl ?_ ?_) | (refine CallS.z ?_; (conv => whnf); refine CallM.mk rfl ?_ ?_))
      all_goals (try (conv => whnf))
      all_goals (try (exact Ob.mk (u8_bnd _)))
      all_goals (try (refine Ob.mk ?_; first | exact True.intro | assumption | omega | (try simp only [decide_eq_true_eq, decide_eq_false_iff_not, beq_iff_eq, beq_eq_false_iff_ne, bne_iff_ne, bne_eq_false_iff_eq, ne_eq, Bool.and_eq_true, Bool.or_eq_true, Bool.not_eq_true, Bool.not_eq_false, Bool.not_eq_true', Bool.not_eq_false', Int.toNat_natCast, Int.not_lt, Int.not_le, UInt8.ofNat_toNat, cast_eq] at *; omega)))
      all_goals (try ((show (_:Int) = _); omega))
      all_goals (try (show tupSV _ = _; with_unfolding_all rfl))
      all_goals (try ((show (_ : Nat) ≤ _); (simp <;> omega)))
      all_goals (try ((show (_ : Nat) ≤ _ ∧ (_ : Nat) ≤ _); (simp <;> omega)))
      all_goals (try ((show (_ : Int) ≤ _ ∧ (_ : Int) ≤ _ ∧ (_ : Int) ≤ _ ∧ (_ : Int) ≤ _); (simp <;> omega)))
      refine Rnd.mk ⟨i + 1, ?_, ?_, ?_⟩
      · exact h
      · omega
      · repeat' ((conv => whnf); first | (with_reducible rfl) | exact True.intro | (with_reducible exact absTF) | (with_reducible exact absFT) | intro _ | refine And.intro ?_ ?_ | refine Fin.mk ?_ | refine CallG.plain rfl ?_ ?_ | refine CallG.mk rfl ?_ ?_ | refine CallG.nwl rfl ?_ ?_ | refine CallG.nw ?_ ?_ | refine CallF.nwl rfl ?_ ?_ | refine CallF.nw ?_ ?_ | (refine CallS.q ?_; (conv => whnf); first | refine CallG.plain rfl ?_ ?_ | refine CallG.mk rfl ?_ ?_) | (refine CallS.m ?_; (conv => whnf); refine CallM.mk rfl ?_ ?_) | (refine CallS.h ?_; (conv => whnf); refine CallM.mk rfl ?_ ?_) | (refine CallS.b ?_; (conv => whnf); refine CallM.mk rfl ?_ ?_) | (refine CallS.z ?_; (conv => whnf); refine CallM.mk rfl ?_ ?_))
        all_goals (try (conv => whnf))
        all_goals (try (exact Ob.mk (u8_bnd _)))
        all_goals (try (refine Ob.mk ?_; first | exact True.intro | assumption | omega | (try simp only [decide_eq_true_eq, decide_eq_false_iff_not, beq_iff_eq, beq_eq_false_iff_ne, bne_iff_ne, bne_eq_false_iff_eq, ne_eq, Bool.and_eq_true, Bool.or_eq_true, Bool.not_eq_true, Bool.not_eq_false, Bool.not_eq_true', Bool.not_eq_false', Int.toNat_natCast, Int.not_lt, Int.not_le, UInt8.ofNat_toNat, cast_eq] at *; omega)))
        all_goals (try ((show (_:Int) = _); omega))
        all_goals (try (show tupSV _ = _; with_unfolding_all rfl))
        all_goals (try ((show (_ : Nat) ≤ _); (simp <;> omega)))
        all_goals (try ((show (_ : Nat) ≤ _ ∧ (_ : Nat) ≤ _); (simp <;> omega)))
        all_goals (try ((show (_ : Int) ≤ _ ∧ (_ : Int) ≤ _ ∧ (_ : Int) ≤ _ ∧ (_ : Int) ≤ _); (simp <;> omega)))
        all_goals (simp only [e]; done)
    · have h : i < s.length := by omega
      have e := spAt_succ s i h
      rw [spStep_sp ‹_› ‹_›] at e
      refine Rnd.mk ⟨i + 1, ?_, ?_, ?_⟩
      · exact h
      · omega
      · repeat' ((conv => whnf); first | (with_reducible rfl) | exact True.intro | (with_reducible exact absTF) | (with_reducible exact absFT) | intro _ | refine And.intro ?_ ?_ | refine Fin.mk ?_ | refine CallG.plain rfl ?_ ?_ | refine CallG.mk rfl ?_ ?_ | refine CallG.nwl rfl ?_ ?_ | refine CallG.nw ?_ ?_ | refine CallF.nwl rfl ?_ ?_ | refine CallF.nw ?_ ?_ | (refine CallS.q ?_; (conv => whnf); first | refine CallG.plain rfl ?_ ?_ | refine CallG.mk rfl ?_ ?_) | (refine CallS.m ?_; (conv => whnf); refine CallM.mk rfl ?_ ?_) | (refine CallS.h ?_; (conv => whnf); refine CallM.mk rfl ?_ ?_) | (refine CallS.b ?_; (conv => whnf); refine CallM.mk rfl ?_ ?_) | (refine CallS.z ?_; (conv => whnf); refine CallM.mk rfl ?_ ?_))
        all_goals (try (conv => whnf))
        all_goals (try (exact Ob.mk (u8_bnd _)))
        all_goals (try (refine Ob.mk ?_; first | exact True.intro | assumption | omega | (try simp only [decide_eq_true_eq, decide_eq_false_iff_not, beq_iff_eq, beq_eq_false_iff_ne, bne_iff_ne, bne_eq_false_iff_eq, ne_eq, Bool.and_eq_true, Bool.or_eq_true, Bool.not_eq_true, Bool.not_eq_false, Bool.not_eq_true', Bool.not_eq_false', Int.toNat_natCast, Int.not_lt, Int.not_le, UInt8.ofNat_toNat, cast_eq] at *; omega)))
        all_goals (try ((show (_:Int) = _); omega))
        all_goals (try (show tupSV _ = _; with_unfolding_all rfl))
        all_goals (try ((show (_ : Nat) ≤ _); (simp <;> omega)))
        all_goals (try ((show (_ : Nat) ≤ _ ∧ (_ : Nat) ≤ _); (simp <;> omega)))
        all_goals (try ((show (_ : Int) ≤ _ ∧ (_ : Int) ≤ _ ∧ (_ : Int) ≤ _ ∧ (_ : Int) ≤ _); (simp <;> omega)))
        all_goals (simp only [e]; done)
    · skip
      repeat' ((conv => whnf); first | (with_reducible rfl) | exact True.intro | (with_reducible exact absTF) | (with_reducible exact absFT) | intro _ | refine And.intro ?_ ?_ | refine Fin.mk ?_ | refine CallG.plain rfl ?_ ?_ | refine CallG.mk rfl ?_ ?_ | refine CallG.nwl rfl ?_ ?_ | refine CallG.nw ?_ ?_ | refine CallF.nwl rfl ?_ ?_ | refine CallF.nw ?_ ?_ | (refine CallS.q ?_; (conv => whnf); first | refine CallG.plain rfl ?_ ?_ | refine CallG.mk rfl ?_ ?_) | (refine CallS.m ?_; (conv => whnf); refine CallM.mk rfl ?_ ?_) | (refine CallS.h ?_; (conv => whnf); refine CallM.mk rfl ?_ ?_) | (refine CallS.b ?_; (conv => whnf); refine CallM.mk rfl ?_ ?_) | (refine CallS.z ?_; (conv => whnf); refine CallM.mk rfl ?_ ?_))
      all_goals (try (conv => whnf))
      rw [spl_w (i := i) (by omega) ‹_›]
    · rw [spl_e (i := i) (by omega) ‹_›]
end Go.Vc

namespace Go.Vc
open Go.Proofs
set_option linter.unusedVariables false
set_option maxRecDepth 10000
set_option linter.unusedSimpArgs false

instance f29 (s w : List UInt8) : Fn BB 30 [.str s, .str w] (s.length ≤ 100000) (.bool ((spl s).contains w)) := by
  refine Fn.intro (N := 9) [0, 1, 4] [] Try.call30 Try.func30 rfl rfl (by kernel_rfl) (fun hpre => ?_)
  repeat' ((conv => whnf); first | (with_reducible rfl) | exact True.intro | (with_reducible exact absTF) | (with_reducible exact absFT) | intro _ | refine And.intro ?_ ?_ | refine Fin.mk ?_ | refine CallG.plain rfl ?_ ?_ | refine CallG.mk rfl ?_ ?_ | refine CallG.nwl rfl ?_ ?_ | refine CallG.nw ?_ ?_ | refine CallF.nwl rfl ?_ ?_ | refine CallF.nw ?_ ?_ | (refine CallS.q ?_; (conv => whnf); first | refine CallG.plain rfl ?_ ?_ | refine CallG.mk rfl ?_ ?_) | (refine CallS.m ?_; (conv => whnf); refine CallM.mk rfl ?_ ?_) | (refine CallS.h ?_; (conv => whnf); refine CallM.mk rfl ?_ ?_) | (refine CallS.b ?_; (conv => whnf); refine CallM.mk rfl ?_ ?_) | (refine CallS.z ?_; (conv => whnf); refine CallM.mk rfl ?_ ?_))
  all_goals (try (conv => whnf))
  all_goals (try (exact Ob.mk (u8_bnd _)))
  all_goals (try (refine Ob.mk ?_; first | exact True.intro | assumption | omega | (try simp only [decide_eq_true_eq, decide_eq_false_iff_not, beq_iff_eq, beq_eq_false_iff_ne, bne_iff_ne, bne_eq_false_iff_eq, ne_eq, Bool.and_eq_true, Bool.or_eq_true, Bool.not_eq_true, Bool.not_eq_false, Bool.not_eq_true', Bool.not_eq_false', Int.toNat_natCast, Int.not_lt, Int.not_le, UInt8.ofNat_toNat, cast_eq] at *; omega)))
  all_goals (try ((show (_:Int) = _); omega))
  all_goals (try (show tupSV _ = _; with_unfolding_all rfl))
  all_goals (try ((show (_ : Nat) ≤ _); (simp <;> omega)))
  all_goals (try ((show (_ : Nat) ≤ _ ∧ (_ : Nat) ≤ _); (simp <;> omega)))
  all_goals (try ((show (_ : Int) ≤ _ ∧ (_ : Int) ≤ _ ∧ (_ : Int) ≤ _ ∧ (_ : Int) ≤ _); (simp <;> omega)))
theorem contains_of_getD {l : List (List UInt8)} {i : Nat} (h : i < l.length) : l.contains (l.getD i []) = true := by
  simp [List.getD, List.getElem?_eq_getElem h]
def ixOf (l : List (List UInt8)) (w : List UInt8) : Int := if l.contains w then (l.idxOf w : Int) else -1
theorem ixOf_none {l : List (List UInt8)} {w : List UInt8} (h : l.contains w = false) : ixOf l w = -1 := by rw [ixOf, h]; rfl
theorem ixOf_at {l : List (List UInt8)} {w : List UInt8} {i : Nat} (h : i < l.length) (h1 : (l.take i).contains w = false) (h2 : w = l.getD i []) : ixOf l w = i := by
  rw [ixOf, h2, contains_of_getD h, ← h2, if_pos rfl]
  have e := List.take_append_drop i l
  rw [← e, List.idxOf_append, if_neg (by simpa using h1), List.length_take, Nat.min_eq_left (by omega)]
  have e2 : l.drop i = w :: l.drop (i+1) := by rw [List.drop_eq_getElem_cons h, h2]; simp [List.getD, List.getElem?_eq_getElem h]
  rw [e2, List.idxOf_cons_self]; simp
instance f37 (l : List (List UInt8)) (w : List UInt8) : Fn BB 69 [.rd .str l, .str w] True (.int .i64 (ixOf l w)) := by
  refine Fn.intro (N := 19) [0, 1, 4, 5, 7, 8, 9, 16] [] Try.call69 Try.func69 rfl rfl (by kernel_rfl) (fun hpre => ?_)
  (conv => whnf)
  intro hlen
  (conv => whnf)
  refine LoopStop.mk (α := Nat) (fun i => [(8, .int .i64 i)]) (fun i => []) 0 (fun i => i ≤ l.length ∧ (l.take i).contains w = false) (fun i => l.length - i) 0 (by simp) ?_ (fun i hi => ?_)
  · repeat' ((conv => whnf); first | (with_reducible rfl) | exact True.intro | (with_reducible exact absTF) | (with_reducible exact absFT) | intro _ | refine And.intro ?_ ?_ | refine Fin.mk ?_ | refine CallG.plain rfl ?_ ?_ | refine CallG.mk rfl ?_ ?_ | refine CallG.nwl rfl ?_ ?_ | refine CallG.nw ?_ ?_ | refine CallF.nwl rfl ?_ ?_ | refine CallF.nw ?_ ?_ | (refine CallS.q ?_; (conv => whnf); first | refine CallG.plain rfl ?_ ?_ | refine CallG.mk rfl ?_ ?_) | (refine CallS.m ?_; (conv => whnf); refine CallM.mk rfl ?_ ?_) | (refine CallS.h ?_; (conv => whnf); refine CallM.mk rfl ?_ ?_) | (refine CallS.b ?_; (conv => whnf); refine CallM.mk rfl ?_ ?_) | (refine CallS.z ?_; (conv => whnf); refine CallM.mk rfl ?_ ?_))
    all_goals (try (conv => whnf))
    all_goals (try rfl)
  · repeat' ((conv => whnf); first | (with_reducible rfl) | exact True.intro | (with_reducible exact absTF) | (with_reducible exact absFT) | intro _ | refine And.intro ?_ ?_ | refine Fin.mk ?_ | refine CallG.plain rfl ?_ ?_ | refine CallG.mk rfl ?_ ?_ | refine CallG.nwl rfl ?_ ?_ | refine CallG.nw ?_ ?_ | refine CallF.nwl rfl ?_ ?_ | refine CallF.nw ?_ ?_ | (refine CallS.q ?_; (conv => whnf); first | refine CallG.plain rfl ?_ ?_ | refine CallG.mk rfl ?_ ?_) | (refine CallS.m ?_; (conv => whnf); refine CallM.mk rfl ?_ ?_) | (refine CallS.h ?_; (conv => whnf); refine CallM.mk rfl ?_ ?_) | (refine CallS.b ?_; (conv => whnf); refine CallM.mk rfl ?_ ?_) | (refine CallS.z ?_; (conv => whnf); refine CallM.mk rfl ?_ ?_))
    all_goals (try (conv => whnf))
    all_goals (try (exact Ob.mk (u8_bnd _)))
    all_goals (try (refine Ob.mk ?_; first | exact True.intro | assumption | omega | (try simp only [decide_eq_true_eq, decide_eq_false_iff_not, beq_iff_eq, beq_eq_false_iff_ne, bne_iff_ne, bne_eq_false_iff_eq, ne_eq, Bool.and_eq_true, Bool.or_eq_true, Bool.not_eq_true, Bool.not_eq_false, Bool.not_eq_true', Bool.not_eq_false', Int.toNat_natCast, Int.not_lt, Int.not_le, UInt8.ofNat_toNat, cast_eq] at *; omega)))
    all_goals (try ((show (_:Int) = _); omega))
    all_goals (try (show tupSV _ = _; with_unfolding_all rfl))
    all_goals (try ((show (_ : Nat) ≤ _); (simp <;> omega)))
    all_goals (try ((show (_ : Nat) ≤ _ ∧ (_ : Nat) ≤ _); (simp <;> omega)))
    all_goals (try ((show (_ : Int) ≤ _ ∧ (_ : Int) ≤ _ ∧ (_ : Int) ≤ _ ∧ (_ : Int) ≤ _); (simp <;> omega)))
    all_goals (try simp only [decide_eq_true_eq, decide_eq_false_iff_not, beq_iff_eq, beq_eq_false_iff_ne, bne_iff_ne, bne_eq_false_iff_eq, ne_eq, Bool.and_eq_true, Bool.or_eq_true, Bool.not_eq_true, Bool.not_eq_false, Bool.not_eq_true', Bool.not_eq_false', Int.toNat_natCast, Int.not_lt, Int.not_le, UInt8.ofNat_toNat, cast_eq] at *)
    · rw [ixOf_at (by omega) hi.2 ‹_›]
    · have h : i < l.length := by omega
      refine Rnd.mk ⟨i + 1, ?_, ?_, ?_⟩
      · refine ⟨by omega, ?_⟩
        rw [take_has l i w h, hi.2, Bool.false_or]; exact beq_eq_false_iff_ne.mpr (fun e => by simp_all)
      · omega
      · repeat' ((conv => whnf); first | (with_reducible rfl) | exact True.intro | (with_reducible exact absTF) | (with_reducible exact absFT) | intro _ | refine And.intro ?_ ?_ | refine Fin.mk ?_ | refine CallG.plain rfl ?_ ?_ | refine CallG.mk rfl ?_ ?_ | refine CallG.nwl rfl ?_ ?_ | refine CallG.nw ?_ ?_ | refine CallF.nwl rfl ?_ ?_ | refine CallF.nw ?_ ?_ | (refine CallS.q ?_; (conv => whnf); first | refine CallG.plain rfl ?_ ?_ | refine CallG.mk rfl ?_ ?_) | (refine CallS.m ?_; (conv => whnf); refine CallM.mk rfl ?_ ?_) | (refine CallS.h ?_; (conv => whnf); refine CallM.mk rfl ?_ ?_) | (refine CallS.b ?_; (conv => whnf); refine CallM.mk rfl ?_ ?_) | (refine CallS.z ?_; (conv => whnf); refine CallM.mk rfl ?_ ?_))
        all_goals (try (conv => whnf))
        all_goals (try (exact Ob.mk (u8_bnd _)))
        all_goals (try (refine Ob.mk ?_; first | exact True.intro | assumption | omega | (try simp only [decide_eq_true_eq, decide_eq_false_iff_not, beq_iff_eq, beq_eq_false_iff_ne, bne_iff_ne, bne_eq_false_iff_eq, ne_eq, Bool.and_eq_true, Bool.or_eq_true, Bool.not_eq_true, Bool.not_eq_false, Bool.not_eq_true', Bool.not_eq_false', Int.toNat_natCast, Int.not_lt, Int.not_le, UInt8.ofNat_toNat, cast_eq] at *; omega)))
        all_goals (try ((show (_:Int) = _); omega))
        all_goals (try (show tupSV _ = _; with_unfolding_all rfl))
        all_goals (try ((show (_ : Nat) ≤ _); (simp <;> omega)))
        all_goals (try ((show (_ : Nat) ≤ _ ∧ (_ : Nat) ≤ _); (simp <;> omega)))
        all_goals (try ((show (_ : Int) ≤ _ ∧ (_ : Int) ≤ _ ∧ (_ : Int) ≤ _ ∧ (_ : Int) ≤ _); (simp <;> omega)))
    · have : i = l.length := by omega
      subst this
      rw [ixOf_none (by simpa using hi.2)]
instance f32 (l : List (List UInt8)) (w : List UInt8) : Fn BB 54 [.rd .str l, .str w] True (.bool (decide (ixOf l w ≥ 0))) := by
  refine Fn.intro (N := 9) [0, 1, 4] [] Try.call54 Try.func54 rfl rfl (by kernel_rfl) (fun hpre => ?_)
  repeat' ((conv => whnf); first | (with_reducible rfl) | exact True.intro | (with_reducible exact absTF) | (with_reducible exact absFT) | intro _ | refine And.intro ?_ ?_ | refine Fin.mk ?_ | refine CallG.plain rfl ?_ ?_ | refine CallG.mk rfl ?_ ?_ | refine CallG.nwl rfl ?_ ?_ | refine CallG.nw ?_ ?_ | refine CallF.nwl rfl ?_ ?_ | refine CallF.nw ?_ ?_ | (refine CallS.q ?_; (conv => whnf); first | refine CallG.plain rfl ?_ ?_ | refine CallG.mk rfl ?_ ?_) | (refine CallS.m ?_; (conv => whnf); refine CallM.mk rfl ?_ ?_) | (refine CallS.h ?_; (conv => whnf); refine CallM.mk rfl ?_ ?_) | (refine CallS.b ?_; (conv => whnf); refine CallM.mk rfl ?_ ?_) | (refine CallS.z ?_; (conv => whnf); refine CallM.mk rfl ?_ ?_))
  all_goals (try (conv => whnf))
  all_goals (try (exact Ob.mk (u8_bnd _)))
  all_goals (try (refine Ob.mk ?_; first | exact True.intro | assumption | omega | (try simp only [decide_eq_true_eq, decide_eq_false_iff_not, beq_iff_eq, beq_eq_false_iff_ne, bne_iff_ne, bne_eq_false_iff_eq, ne_eq, Bool.and_eq_true, Bool.or_eq_true, Bool.not_eq_true, Bool.not_eq_false, Bool.not_eq_true', Bool.not_eq_false', Int.toNat_natCast, Int.not_lt, Int.not_le, UInt8.ofNat_toNat, cast_eq] at *; omega)))
  all_goals (try ((show (_:Int) = _); omega))
  all_goals (try (show tupSV _ = _; with_unfolding_all rfl))
  all_goals (try ((show (_ : Nat) ≤ _); (simp <;> omega)))
  all_goals (try ((show (_ : Nat) ≤ _ ∧ (_ : Nat) ≤ _); (simp <;> omega)))
  all_goals (try ((show (_ : Int) ≤ _ ∧ (_ : Int) ≤ _ ∧ (_ : Int) ≤ _ ∧ (_ : Int) ≤ _); (simp <;> omega)))
end Go.Vc

namespace Go.Vc
open Go.Proofs
set_option linter.unusedVariables false
set_option maxRecDepth 10000
set_option linter.unusedSimpArgs false
def spR (r : Int) : Bool := decide (r < 128) && isSp (IntKind.u8.wrap r)
instance f39 (r : Int) : Fn BB 50 [.int .i32 r] (0 ≤ r) (.bool (spR r)) := by
  refine Fn.intro (N := 10) [0, 2] [] Try.call50 Try.func50 rfl rfl (by kernel_rfl) (fun hpre => ?_)
  repeat' ((conv => whnf); first | (with_reducible rfl) | exact True.intro | (with_reducible exact absTF) | (with_reducible exact absFT) | intro _ | refine And.intro ?_ ?_ | refine Fin.mk ?_ | refine CallG.plain rfl ?_ ?_ | refine CallG.mk rfl ?_ ?_ | refine CallG.nwl rfl ?_ ?_ | refine CallG.nw ?_ ?_ | refine CallF.nwl rfl ?_ ?_ | refine CallF.nw ?_ ?_ | (refine CallS.q ?_; (conv => whnf); first | refine CallG.plain rfl ?_ ?_ | refine CallG.mk rfl ?_ ?_) | (refine CallS.m ?_; (conv => whnf); refine CallM.mk rfl ?_ ?_) | (refine CallS.h ?_; (conv => whnf); refine CallM.mk rfl ?_ ?_) | (refine CallS.b ?_; (conv => whnf); refine CallM.mk rfl ?_ ?_) | (refine CallS.z ?_; (conv => whnf); refine CallM.mk rfl ?_ ?_))
  all_goals (try (conv => whnf))
  all_goals (try (exact Ob.mk (u8_bnd _)))
  all_goals (try (refine Ob.mk ?_; first | exact True.intro | assumption | omega | (try simp only [decide_eq_true_eq, decide_eq_false_iff_not, beq_iff_eq, beq_eq_false_iff_ne, bne_iff_ne, bne_eq_false_iff_eq, ne_eq, Bool.and_eq_true, Bool.or_eq_true, Bool.not_eq_true, Bool.not_eq_false, Bool.not_eq_true', Bool.not_eq_false', Int.toNat_natCast, Int.not_lt, Int.not_le, UInt8.ofNat_toNat, cast_eq] at *; omega)))
  all_goals (try ((show (_:Int) = _); omega))
  all_goals (try (show tupSV _ = _; with_unfolding_all rfl))
  all_goals (try ((show (_ : Nat) ≤ _); (simp <;> omega)))
  all_goals (try ((show (_ : Nat) ≤ _ ∧ (_ : Nat) ≤ _); (simp <;> omega)))
  all_goals (try ((show (_ : Int) ≤ _ ∧ (_ : Int) ≤ _ ∧ (_ : Int) ≤ _ ∧ (_ : Int) ≤ _); (simp <;> omega)))
  all_goals rfl

theorem getB (s : List UInt8) (j : Nat) : (ByteArray.get! ⟨s.toArray⟩ j) = s.getD j 0 := by
  by_cases h : j < s.length
  · have : j < s.toArray.size := by simpa using h
    simp [ByteArray.get!, List.getD, h]
  · simp [ByteArray.get!, List.getD, h]; rfl
theorem decL_pos (s : List UInt8) (pos : Nat) (h : pos < s.length) : 1 ≤ (decL s pos).2 ∧ pos + (decL s pos).2 ≤ s.length ∧
    (if (decL s pos).1 < 128 then (decL s pos).2 = 1 ∧ (decL s pos).1 = (s.getD pos 0).toNat else ∀ j, pos ≤ j → j < pos + (decL s pos).2 → 128 ≤ (s.getD j 0).toNat) := by
  have hsz : ByteArray.size ⟨s.toArray⟩ = s.length := by simp [ByteArray.size]
  have hb : ∀ j, (s.getD j 0).toNat < 256 := fun j => UInt8.toNat_lt _
  unfold decL Utf8.decode
  simp only [getB, hsz, Nat.add_zero]
  generalize e0 : (s.getD pos 0).toNat = b0
  generalize e1 : (s.getD (pos+1) 0).toNat = b1
  generalize e2 : (s.getD (pos+2) 0).toNat = b2
  generalize e3 : (s.getD (pos+3) 0).toNat = b3
  have k0 := hb pos
  have k1 := hb (pos+1)
  have k2 := hb (pos+2)
  have k3 := hb (pos+3)
  rw [e0] at k0; rw [e1] at k1; rw [e2] at k2; rw [e3] at k3
  have one : ∀ j, pos ≤ j → j < pos + 1 → (s.getD j 0).toNat = b0 := fun j h1 h2 => by
    have : j = pos := by omega
    subst this; exact e0
  split
  · simp; omega
  · rename_i hb0
    have fallb : ∀ j, pos ≤ j → j < pos + 1 → 128 ≤ (s.getD j 0).toNat := fun j h1 h2 => by rw [one j h1 h2]; omega
    have err : 1 ≤ ((Utf8.runeError, 1) : Nat × Nat).2 ∧ pos + ((Utf8.runeError, 1) : Nat × Nat).2 ≤ s.length ∧ (if ((Utf8.runeError, 1) : Nat × Nat).1 < 128 then ((Utf8.runeError, 1) : Nat × Nat).2 = 1 ∧ ((Utf8.runeError, 1) : Nat × Nat).1 = b0 else ∀ j, pos ≤ j → j < pos + ((Utf8.runeError, 1) : Nat × Nat).2 → 128 ≤ (s.getD j 0).toNat) := by
      refine ⟨Nat.le_refl _, h, ?_⟩
      rw [if_neg (by decide)]; exact fallb
    split
    · rename_i h2
      simp only [Bool.and_eq_true, decide_eq_true_eq, beq_iff_eq] at h2
      split
      · refine ⟨by simp, by simp; omega, ?_⟩
        rw [if_neg (by simp; omega)]
        intro j h3 h4
        have : j = pos ∨ j = pos + 1 := by simp at h4; omega
        rcases this with rfl | rfl
        · rw [e0]; omega
        · rw [e1]; omega
      · exact err
    · split
      · rename_i h2
        simp only [Bool.and_eq_true, decide_eq_true_eq, beq_iff_eq] at h2
        split
        · rename_i h5
          simp only [Bool.and_eq_true, decide_eq_true_eq, beq_iff_eq] at h5
          refine ⟨by simp, by simp; omega, ?_⟩
          rw [if_neg (by simp; omega)]
          intro j h3 h4
          have : j = pos ∨ j = pos + 1 ∨ j = pos + 2 := by simp at h4; omega
          rcases this with rfl | rfl | rfl
          · rw [e0]; omega
          · rw [e1]; omega
          · rw [e2]; omega
        · exact err
      · split
        · rename_i h2
          simp only [Bool.and_eq_true, decide_eq_true_eq, beq_iff_eq] at h2
          split
          · rename_i h5
            simp only [Bool.and_eq_true, decide_eq_true_eq, beq_iff_eq] at h5
            refine ⟨by simp, by simp; omega, ?_⟩
            rw [if_neg (by simp; omega)]
            intro j h3 h4
            have : j = pos ∨ j = pos + 1 ∨ j = pos + 2 ∨ j = pos + 3 := by simp at h4; omega
            rcases this with rfl | rfl | rfl | rfl
            · rw [e0]; omega
            · rw [e1]; omega
            · rw [e2]; omega
            · rw [e3]; omega
          · exact err
        · exact err
def cut (s : List UInt8) (p : Int × Int) : List UInt8 := (s.take p.2.toNat).drop p.1.toNat
theorem isSp_high {c : Nat} (h : 128 ≤ c) : isSp c = false := by
  simp only [isSp, Bool.or_eq_false_iff, beq_eq_false_iff_ne]; omega
theorem cut_more (s : List UInt8) (i pos : Nat) (h : i ≤ pos) (h2 : pos < s.length) : cut s (i, (pos+1:Nat)) = cut s (i, pos) ++ [s.getD pos 0] := by
  unfold cut
  simp only [Int.toNat_natCast]
  rw [take_snoc s pos 0 h2, List.drop_append_of_le_length (by rw [List.length_take]; omega)]
theorem spAt_run (s : List UInt8) (pos k : Nat) (h : pos + k ≤ s.length) (hh : ∀ j, pos ≤ j → j < pos + k → isSp (s.getD j 0).toNat = false) :
    spAt s (pos + k) = ((spAt s pos).1, (spAt s pos).2 ++ cut s (pos, (pos + k : Nat))) := by
  induction k with
  | zero => simp [cut]
  | succ k ih =>
    rw [← Nat.add_assoc, spAt_succ s _ (by omega), spStep_no (hh _ (by omega) (by omega)), ih (by omega) (fun j h1 h2 => hh j h1 (by omega)), cut_more s pos (pos+k) (by omega) (by omega)]
    simp
theorem cut_cat (s : List UInt8) (i j k : Nat) (h : i ≤ j) (h2 : j ≤ k) (h3 : k ≤ s.length) : cut s (i, j) ++ cut s (j, k) = cut s (i, k) := by
  induction k with
  | zero => have : j = 0 := by omega
            have : i = 0 := by omega
            subst_vars; simp [cut]
  | succ k ih =>
    by_cases e : j = k + 1
    · subst e; simp [cut]
    · rw [cut_more s j k (by omega) (by omega), cut_more s i k (by omega) (by omega), ← List.append_assoc, ih (by omega) (by omega)]
end Go.Vc

namespace Go.Vc
open Go.Proofs
set_option linter.unusedVariables false
set_option maxRecDepth 10000
set_option linter.unusedSimpArgs false
structure FS where
  pos : Nat
  spans : List (Int × Int)
  start : Int
abbrev encP (p : Int × Int) : List SV := [.int .i64 p.1, .int .i64 p.2]
structure FSok (s : List UInt8) (a : FS) : Prop where
  hp : a.pos ≤ s.length
  hs : a.spans.map (cut s) = (spAt s a.pos).1
  hr : ∀ p ∈ a.spans, 0 ≤ p.1 ∧ p.1 ≤ p.2 ∧ p.2 ≤ s.length
  hb : -(s.length : Int) - 1 ≤ a.start ∧ a.start ≤ s.length
  hw : if a.start < 0 then (spAt s a.pos).2 = [] else a.start < a.pos ∧ (spAt s a.pos).2 = cut s (a.start, a.pos)
theorem FSok.len {s : List UInt8} {a : FS} (h : FSok s a) : a.spans.length ≤ a.pos := by
  have := spAt_len s a.pos
  rw [← h.hs, List.length_map] at this; omega
theorem cut_ne {s : List UInt8} {i : Int} {j : Nat} (h0 : 0 ≤ i) (h : i < j) (h2 : j ≤ s.length) : ¬ cut s (i, j) = [] := by
  intro e
  have := congrArg List.length e
  simp [cut] at this
  omega
theorem spR_eq {s : List UInt8} {pos : Nat} (h : pos < s.length) :
    (spR (decL s pos).1 = true → (decL s pos).2 = 1 ∧ isSp (s.getD pos 0).toNat = true) ∧
    (spR (decL s pos).1 = false → pos < pos + (decL s pos).2 ∧ pos + (decL s pos).2 ≤ s.length ∧ ∀ j, pos ≤ j → j < pos + (decL s pos).2 → isSp (s.getD j 0).toNat = false) := by
  have ⟨d1, d2, d3⟩ := decL_pos s pos h
  have hw : (decL s pos).1 < 128 → IntKind.u8.wrap ((decL s pos).1 : Int) = (decL s pos).1 := fun hh => by
    simp [IntKind.wrap, IntKind.signed, IntKind.bits]; omega
  by_cases hh : (decL s pos).1 < 128
  · rw [if_pos hh] at d3
    have e : spR (decL s pos).1 = isSp (s.getD pos 0).toNat := by
      unfold spR; rw [hw hh, decide_eq_true (by omega), Bool.true_and, d3.2]
    rw [e]
    refine ⟨fun k => ⟨d3.1, k⟩, fun k => ⟨by omega, d2, fun j h1 h2 => ?_⟩⟩
    have : j = pos := by omega
    subst this; exact k
  · rw [if_neg hh] at d3
    have e : spR (decL s pos).1 = false := by unfold spR; simp; intro k; omega
    rw [e]
    refine ⟨fun k => (nomatch k), fun _ => ⟨by omega, d2, fun j h1 h2 => isSp_high (d3 j h1 h2)⟩⟩
theorem fs_sp1 {s : List UInt8} {a : FS} (h : FSok s a) (h1 : a.pos < s.length) (h2 : spR (decL s a.pos).1 = true) (h3 : 0 ≤ a.start) :
    FSok s ⟨a.pos + (decL s a.pos).2, a.spans ++ [(a.start, (a.pos:Int))], -a.start - 1⟩ := by
  have ⟨e1, e2⟩ := (spR_eq h1).1 h2
  have hw := h.hw; rw [if_neg (by omega)] at hw
  have hb := h.hb
  have e := spAt_succ s a.pos h1
  rw [spStep_spw e2 (by rw [hw.2]; exact cut_ne h3 hw.1 h.hp)] at e
  constructor
  · simp only [e1]; omega
  · simp only [e1, e, List.map_append, h.hs, hw.2]; rfl
  · intro p hp
    rcases List.mem_append.mp hp with hp | hp
    · exact h.hr p hp
    · simp at hp; subst hp; simp; omega
  · simp; omega
  · rw [if_pos (by simp; omega)]; simp only [e1, e]
theorem fs_sp0 {s : List UInt8} {a : FS} (h : FSok s a) (h1 : a.pos < s.length) (h2 : spR (decL s a.pos).1 = true) (h3 : a.start < 0) :
    FSok s ⟨a.pos + (decL s a.pos).2, a.spans, a.start⟩ := by
  have ⟨e1, e2⟩ := (spR_eq h1).1 h2
  have hw := h.hw; rw [if_pos (by omega)] at hw
  have e := spAt_succ s a.pos h1
  rw [spStep_sp e2 hw] at e
  constructor
  · simp only [e1]; omega
  · simp only [e1, e, h.hs]
  · exact h.hr
  · exact h.hb
  · rw [if_pos (by simpa using h3)]; simp only [e1, e]
theorem fs_no1 {s : List UInt8} {a : FS} (h : FSok s a) (h1 : a.pos < s.length) (h2 : spR (decL s a.pos).1 = false) (h3 : 0 ≤ a.start) :
    FSok s ⟨a.pos + (decL s a.pos).2, a.spans, a.start⟩ := by
  have ⟨e0, e1, e2⟩ := (spR_eq h1).2 h2
  have hw := h.hw; rw [if_neg (by omega)] at hw
  have e := spAt_run s a.pos _ e1 e2
  constructor
  · exact e1
  · simp only [e, h.hs]
  · exact h.hr
  · exact h.hb
  · rw [if_neg (by simp; omega)]; simp only [e]
    refine ⟨by omega, ?_⟩
    rw [hw.2]
    obtain ⟨i, hi⟩ : ∃ i : Nat, a.start = i := ⟨a.start.toNat, by omega⟩
    rw [hi, cut_cat s i a.pos _ (by omega) (by omega) e1]
theorem fs_no0 {s : List UInt8} {a : FS} (h : FSok s a) (h1 : a.pos < s.length) (h2 : spR (decL s a.pos).1 = false) (h3 : a.start < 0) :
    FSok s ⟨a.pos + (decL s a.pos).2, a.spans, (a.pos : Int)⟩ := by
  have ⟨e0, e1, e2⟩ := (spR_eq h1).2 h2
  have hw := h.hw; rw [if_pos (by omega)] at hw
  have e := spAt_run s a.pos _ e1 e2
  constructor
  · exact e1
  · simp only [e, h.hs]
  · exact h.hr
  · simp; omega
  · rw [if_neg (by simp)]; simp only [e]
    refine ⟨by omega, ?_⟩
    rw [hw]; rfl
theorem fs_end1 {s : List UInt8} {a : FS} (h : FSok s a) (h1 : ¬ a.pos < s.length) (h3 : 0 ≤ a.start) :
    (a.spans ++ [(a.start, (s.length:Int))]).map (cut s) = spl s ∧ ∀ p ∈ (a.spans ++ [(a.start, (s.length:Int))]), 0 ≤ p.1 ∧ p.1 ≤ p.2 ∧ p.2 ≤ s.length := by
  have hp := h.hp
  have e : a.pos = s.length := by omega
  have hw := h.hw; rw [if_neg (by omega)] at hw
  have hb := h.hb
  refine ⟨?_, ?_⟩
  · rw [spl_w (i := a.pos) (by omega) (by rw [hw.2]; exact cut_ne h3 hw.1 h.hp), hw.2, ← h.hs, e, List.map_append]; rfl
  · intro p hp
    rcases List.mem_append.mp hp with hp | hp
    · exact h.hr p hp
    · simp at hp; subst hp; simp; omega
theorem fs_end0 {s : List UInt8} {a : FS} (h : FSok s a) (h1 : ¬ a.pos < s.length) (h3 : a.start < 0) :
    a.spans.map (cut s) = spl s ∧ ∀ p ∈ a.spans, 0 ≤ p.1 ∧ p.1 ≤ p.2 ∧ p.2 ≤ s.length := by
  have hp := h.hp
  have e : a.pos = s.length := by omega
  have hw := h.hw; rw [if_pos (by omega)] at hw
  exact ⟨by rw [spl_e (i := a.pos) (by omega) hw, h.hs], h.hr⟩
end Go.Vc

namespace Go.Vc
open Go.Proofs
set_option linter.unusedVariables false
set_option maxRecDepth 10000
set_option linter.unusedSimpArgs false
theorem bits_not (x : Int) (h : -100001 ≤ x ∧ x ≤ 100000) : bitsI BinOp.xor IntKind.i64 (if IntKind.i64.signed = true then -1 else IntKind.i64.max) x = -x - 1 := by
  have e : (if IntKind.i64.signed = true then (-1:Int) else IntKind.i64.max) = -1 := rfl
  rw [e]
  show IntKind.wrap .i64 ((BitVec.ofInt 64 (-1) ^^^ BitVec.ofInt 64 x).toNat : Int) = _
  have e2 : BitVec.ofInt 64 (-1) = BitVec.allOnes 64 := by decide
  rw [e2, BitVec.allOnes_xor, BitVec.toNat_not, BitVec.toNat_ofInt]
  simp [IntKind.wrap, IntKind.signed, IntKind.bits]
  omega
def fin2 (s : List UInt8) (sp : List (Int × Int)) (i : Nat) : List (List UInt8) := (sp.take i).map (cut s) ++ List.replicate (sp.length - i) []
theorem fin2_len (s : List UInt8) (sp : List (Int × Int)) (i : Nat) (h : i ≤ sp.length) : (fin2 s sp i).length = sp.length := by
  simp [fin2]; omega
theorem fin2_set (s : List UInt8) (sp : List (Int × Int)) (i : Nat) (h : i < sp.length) : (fin2 s sp i).set i (cut s (sp.getD i (0,0))) = fin2 s sp (i+1) := by
  unfold fin2
  rw [take_snoc sp i (0,0) h]
  have e : sp.length - i = (sp.length - (i+1)) + 1 := by omega
  rw [e, List.replicate_succ, List.set_append_right _ _ (by simp; omega)]
  simp
  have : i - min i sp.length = 0 := by omega
  rw [this]; simp
theorem fin2_end (s : List UInt8) (sp : List (Int × Int)) (i : Nat) (h : sp.length ≤ i) : fin2 s sp i = sp.map (cut s) := by
  unfold fin2; rw [List.take_of_length_le h]; simp; omega
theorem getD_mem' {α : Type} {l : List α} {i : Nat} {d : α} (h : i < l.length) : l.getD i d ∈ l := by
  simp [List.getD, List.getElem?_eq_getElem h]
instance f38 (s : List UInt8) : Fn BB 49 [.str s, .fn 50 []] (s.length ≤ 100000) (.rd .str (spl s)) := by
  refine Fn.intro (N := 65) [0, 1, 4, 5, 6, 7, 8, 9, 10, 11, 14, 15, 16, 21, 23, 33, 36, 47, 48, 49, 50] [] Try.call49 Try.func49 rfl rfl (by kernel_rfl) (fun hpre => ?_)
  repeat' ((conv => whnf); first | (with_reducible rfl) | exact True.intro | (with_reducible exact absTF) | (with_reducible exact absFT) | intro _ | refine And.intro ?_ ?_ | refine Fin.mk ?_ | refine CallG.plain rfl ?_ ?_ | refine CallG.mk rfl ?_ ?_ | refine CallG.nwl rfl ?_ ?_ | refine CallG.nw ?_ ?_ | refine CallF.nwl rfl ?_ ?_ | refine CallF.nw ?_ ?_ | (refine CallS.q ?_; (conv => whnf); first | refine CallG.plain rfl ?_ ?_ | refine CallG.mk rfl ?_ ?_) | (refine CallS.m ?_; (conv => whnf); refine CallM.mk rfl ?_ ?_) | (refine CallS.h ?_; (conv => whnf); refine CallM.mk rfl ?_ ?_) | (refine CallS.b ?_; (conv => whnf); refine CallM.mk rfl ?_ ?_) | (refine CallS.z ?_; (conv => whnf); refine CallM.mk rfl ?_ ?_))
  all_goals (try (conv => whnf))
  all_goals (try (exact Ob.mk (u8_bnd _)))
  all_goals (try (refine Ob.mk ?_; first | exact True.intro | assumption | omega | (try simp only [decide_eq_true_eq, decide_eq_false_iff_not, beq_iff_eq, beq_eq_false_iff_ne, bne_iff_ne, bne_eq_false_iff_eq, ne_eq, Bool.and_eq_true, Bool.or_eq_true, Bool.not_eq_true, Bool.not_eq_false, Bool.not_eq_true', Bool.not_eq_false', Int.toNat_natCast, Int.not_lt, Int.not_le, UInt8.ofNat_toNat, cast_eq] at *; omega)))
  all_goals (try ((show (_:Int) = _); omega))
  all_goals (try (show tupSV _ = _; with_unfolding_all rfl))
  all_goals (try ((show (_ : Nat) ≤ _); (simp <;> omega)))
  all_goals (try ((show (_ : Nat) ≤ _ ∧ (_ : Nat) ≤ _); (simp <;> omega)))
  all_goals (try ((show (_ : Int) ≤ _ ∧ (_ : Int) ≤ _ ∧ (_ : Int) ≤ _ ∧ (_ : Int) ≤ _); (simp <;> omega)))
  repeat' ((conv => whnf); first | (with_reducible rfl) | exact True.intro | (with_reducible exact absTF) | (with_reducible exact absFT) | intro _ | refine And.intro ?_ ?_ | refine Fin.mk ?_ | refine CallG.plain rfl ?_ ?_ | refine CallG.mk rfl ?_ ?_ | refine CallG.nwl rfl ?_ ?_ | refine CallG.nw ?_ ?_ | refine CallF.nwl rfl ?_ ?_ | refine CallF.nw ?_ ?_ | (refine CallS.q ?_; (conv => whnf); first | refine CallG.plain rfl ?_ ?_ | refine CallG.mk rfl ?_ ?_) | (refine CallS.m ?_; (conv => whnf); refine CallM.mk rfl ?_ ?_) | (refine CallS.h ?_; (conv => whnf); refine CallM.mk rfl ?_ ?_) | (refine CallS.b ?_; (conv => whnf); refine CallM.mk rfl ?_ ?_) | (refine CallS.z ?_; (conv => whnf); refine CallM.mk rfl ?_ ?_))
  all_goals (try (conv => whnf))
  refine LoopStop.mk (α := FS) (fun a => [(5, .own 0), (6, .int .i64 a.start)]) (fun a => [(0, .own spTy a.spans), (1, .iter s a.pos)]) 2 (FSok s) (fun a => s.length - a.pos) ⟨0, [], -1⟩ ⟨by simp, by simp [spAt], by simp, by simp; omega, by simp [spAt]⟩ ?_ (fun a ha => ?_)
  · repeat' ((conv => whnf); first | (with_reducible rfl) | exact True.intro | (with_reducible exact absTF) | (with_reducible exact absFT) | intro _ | refine And.intro ?_ ?_ | refine Fin.mk ?_ | refine CallG.plain rfl ?_ ?_ | refine CallG.mk rfl ?_ ?_ | refine CallG.nwl rfl ?_ ?_ | refine CallG.nw ?_ ?_ | refine CallF.nwl rfl ?_ ?_ | refine CallF.nw ?_ ?_ | (refine CallS.q ?_; (conv => whnf); first | refine CallG.plain rfl ?_ ?_ | refine CallG.mk rfl ?_ ?_) | (refine CallS.m ?_; (conv => whnf); refine CallM.mk rfl ?_ ?_) | (refine CallS.h ?_; (conv => whnf); refine CallM.mk rfl ?_ ?_) | (refine CallS.b ?_; (conv => whnf); refine CallM.mk rfl ?_ ?_) | (refine CallS.z ?_; (conv => whnf); refine CallM.mk rfl ?_ ?_))
    all_goals (try (conv => whnf))
    all_goals (try rfl)
    all_goals trace_state
  · have hl := ha.len
    have h1 := ha.hp
    have h2 := ha.hb
    repeat' ((conv => whnf); first | (with_reducible rfl) | exact True.intro | (with_reducible exact absTF) | (with_reducible exact absFT) | intro _ | refine And.intro ?_ ?_ | refine Fin.mk ?_ | refine CallG.plain rfl ?_ ?_ | refine CallG.mk rfl ?_ ?_ | refine CallG.nwl rfl ?_ ?_ | refine CallG.nw ?_ ?_ | refine CallF.nwl rfl ?_ ?_ | refine CallF.nw ?_ ?_ | (refine CallS.q ?_; (conv => whnf); first | refine CallG.plain rfl ?_ ?_ | refine CallG.mk rfl ?_ ?_) | (refine CallS.m ?_; (conv => whnf); refine CallM.mk rfl ?_ ?_) | (refine CallS.h ?_; (conv => whnf); refine CallM.mk rfl ?_ ?_) | (refine CallS.b ?_; (conv => whnf); refine CallM.mk rfl ?_ ?_) | (refine CallS.z ?_; (conv => whnf); refine CallM.mk rfl ?_ ?_))
    all_goals (try (conv => whnf))
    all_goals (try (exact Ob.mk (u8_bnd _)))
    all_goals (try (refine Ob.mk ?_; first | exact True.intro | assumption | omega | (try simp only [decide_eq_true_eq, decide_eq_false_iff_not, beq_iff_eq, beq_eq_false_iff_ne, bne_iff_ne, bne_eq_false_iff_eq, ne_eq, Bool.and_eq_true, Bool.or_eq_true, Bool.not_eq_true, Bool.not_eq_false, Bool.not_eq_true', Bool.not_eq_false', Int.toNat_natCast, Int.not_lt, Int.not_le, UInt8.ofNat_toNat, cast_eq] at *; omega)))
    all_goals (try ((show (_:Int) = _); omega))
    all_goals (try (show tupSV _ = _; with_unfolding_all rfl))
    all_goals (try ((show (_ : Nat) ≤ _); (simp <;> omega)))
    all_goals (try ((show (_ : Nat) ≤ _ ∧ (_ : Nat) ≤ _); (simp <;> omega)))
    all_goals (try ((show (_ : Int) ≤ _ ∧ (_ : Int) ≤ _ ∧ (_ : Int) ≤ _ ∧ (_ : Int) ≤ _); (simp <;> omega)))
    all_goals (try simp only [decide_eq_true_eq, decide_eq_false_iff_not, beq_iff_eq, beq_eq_false_iff_ne, bne_iff_ne, bne_eq_false_iff_eq, ne_eq, Bool.and_eq_true, Bool.or_eq_true, Bool.not_eq_true, Bool.not_eq_false, Bool.not_eq_true', Bool.not_eq_false', Int.toNat_natCast, Int.not_lt, Int.not_le, UInt8.ofNat_toNat, cast_eq] at *)
    · skip
      repeat' ((conv => whnf); first | (with_reducible rfl) | exact True.intro | (with_reducible exact absTF) | (with_reducible exact absFT) | intro _ | refine And.intro ?_ ?_ | refine Fin.mk ?_ | refine CallG.plain rfl ?_ ?_ | refine CallG.mk rfl ?_ ?_ | refine CallG.nwl rfl ?_ ?_ | refine CallG.nw ?_ ?_ | refine CallF.nwl rfl ?_ ?_ | refine CallF.nw ?_ ?_ | (refine CallS.q ?_; (conv => whnf); first | refine CallG.plain rfl ?_ ?_ | refine CallG.mk rfl ?_ ?_) | (refine CallS.m ?_; (conv => whnf); refine CallM.mk rfl ?_ ?_) | (refine CallS.h ?_; (conv => whnf); refine CallM.mk rfl ?_ ?_) | (refine CallS.b ?_; (conv => whnf); refine CallM.mk rfl ?_ ?_) | (refine CallS.z ?_; (conv => whnf); refine CallM.mk rfl ?_ ?_))
      all_goals (try (conv => whnf))
      all_goals (try (exact Ob.mk (u8_bnd _)))
      all_goals (try (refine Ob.mk ?_; first | exact True.intro | assumption | omega | (try simp only [decide_eq_true_eq, decide_eq_false_iff_not, beq_iff_eq, beq_eq_false_iff_ne, bne_iff_ne, bne_eq_false_iff_eq, ne_eq, Bool.and_eq_true, Bool.or_eq_true, Bool.not_eq_true, Bool.not_eq_false, Bool.not_eq_true', Bool.not_eq_false', Int.toNat_natCast, Int.not_lt, Int.not_le, UInt8.ofNat_toNat, cast_eq] at *; omega)))
      all_goals (try ((show (_:Int) = _); omega))
      all_goals (try (show tupSV _ = _; with_unfolding_all rfl))
      all_goals (try ((show (_ : Nat) ≤ _); (simp <;> omega)))
      all_goals (try ((show (_ : Nat) ≤ _ ∧ (_ : Nat) ≤ _); (simp <;> omega)))
      all_goals (try ((show (_ : Int) ≤ _ ∧ (_ : Int) ≤ _ ∧ (_ : Int) ≤ _ ∧ (_ : Int) ≤ _); (simp <;> omega)))
      refine Rnd.mk ⟨⟨a.pos + (decL s a.pos).2, a.spans ++ [(a.start, (a.pos:Int))], -a.start - 1⟩, ?_, ?_, ?_⟩
      · exact fs_sp1 ha ‹_› ‹_› (by omega)
      · have := (decL_pos s a.pos ‹_›).1; simp; omega
      · repeat' ((conv => whnf); first | (with_reducible rfl) | exact True.intro | (with_reducible exact absTF) | (with_reducible exact absFT) | intro _ | refine And.intro ?_ ?_ | refine Fin.mk ?_ | refine CallG.plain rfl ?_ ?_ | refine CallG.mk rfl ?_ ?_ | refine CallG.nwl rfl ?_ ?_ | refine CallG.nw ?_ ?_ | refine CallF.nwl rfl ?_ ?_ | refine CallF.nw ?_ ?_ | (refine CallS.q ?_; (conv => whnf); first | refine CallG.plain rfl ?_ ?_ | refine CallG.mk rfl ?_ ?_) | (refine CallS.m ?_; (conv => whnf); refine CallM.mk rfl ?_ ?_) | (refine CallS.h ?_; (conv => whnf); refine CallM.mk rfl ?_ ?_) | (refine CallS.b ?_; (conv => whnf); refine CallM.mk rfl ?_ ?_) | (refine CallS.z ?_; (conv => whnf); refine CallM.mk rfl ?_ ?_))
        all_goals (try (conv => whnf))
        all_goals (try (exact Ob.mk (u8_bnd _)))
        all_goals (try (refine Ob.mk ?_; first | exact True.intro | assumption | omega | (try simp only [decide_eq_true_eq, decide_eq_false_iff_not, beq_iff_eq, beq_eq_false_iff_ne, bne_iff_ne, bne_eq_false_iff_eq, ne_eq, Bool.and_eq_true, Bool.or_eq_true, Bool.not_eq_true, Bool.not_eq_false, Bool.not_eq_true', Bool.not_eq_false', Int.toNat_natCast, Int.not_lt, Int.not_le, UInt8.ofNat_toNat, cast_eq] at *; omega)))
        all_goals (try ((show (_:Int) = _); omega))
        all_goals (try (show tupSV _ = _; with_unfolding_all rfl))
        all_goals (try ((show (_ : Nat) ≤ _); (simp <;> omega)))
        all_goals (try ((show (_ : Nat) ≤ _ ∧ (_ : Nat) ≤ _); (simp <;> omega)))
        all_goals (try ((show (_ : Int) ≤ _ ∧ (_ : Int) ≤ _ ∧ (_ : Int) ≤ _ ∧ (_ : Int) ≤ _); (simp <;> omega)))
        all_goals (first | (rw [bits_not _ (by omega)]; done) | skip)
        all_goals trace_state
    · have := (decL_pos s a.pos ‹_›).1
      refine Rnd.mk ⟨⟨a.pos + (decL s a.pos).2, a.spans, a.start⟩, ?_, ?_, ?_⟩
      · exact fs_sp0 ha ‹_› ‹_› (by omega)
      · simp; omega
      · repeat' ((conv => whnf); first | (with_reducible rfl) | exact True.intro | (with_reducible exact absTF) | (with_reducible exact absFT) | intro _ | refine And.intro ?_ ?_ | refine Fin.mk ?_ | refine CallG.plain rfl ?_ ?_ | refine CallG.mk rfl ?_ ?_ | refine CallG.nwl rfl ?_ ?_ | refine CallG.nw ?_ ?_ | refine CallF.nwl rfl ?_ ?_ | refine CallF.nw ?_ ?_ | (refine CallS.q ?_; (conv => whnf); first | refine CallG.plain rfl ?_ ?_ | refine CallG.mk rfl ?_ ?_) | (refine CallS.m ?_; (conv => whnf); refine CallM.mk rfl ?_ ?_) | (refine CallS.h ?_; (conv => whnf); refine CallM.mk rfl ?_ ?_) | (refine CallS.b ?_; (conv => whnf); refine CallM.mk rfl ?_ ?_) | (refine CallS.z ?_; (conv => whnf); refine CallM.mk rfl ?_ ?_))
        all_goals (try (conv => whnf))
        all_goals (try (exact Ob.mk (u8_bnd _)))
        all_goals (try (refine Ob.mk ?_; first | exact True.intro | assumption | omega | (try simp only [decide_eq_true_eq, decide_eq_false_iff_not, beq_iff_eq, beq_eq_false_iff_ne, bne_iff_ne, bne_eq_false_iff_eq, ne_eq, Bool.and_eq_true, Bool.or_eq_true, Bool.not_eq_true, Bool.not_eq_false, Bool.not_eq_true', Bool.not_eq_false', Int.toNat_natCast, Int.not_lt, Int.not_le, UInt8.ofNat_toNat, cast_eq] at *; omega)))
        all_goals (try ((show (_:Int) = _); omega))
        all_goals (try (show tupSV _ = _; with_unfolding_all rfl))
        all_goals (try ((show (_ : Nat) ≤ _); (simp <;> omega)))
        all_goals (try ((show (_ : Nat) ≤ _ ∧ (_ : Nat) ≤ _); (simp <;> omega)))
        all_goals (try ((show (_ : Int) ≤ _ ∧ (_ : Int) ≤ _ ∧ (_ : Int) ≤ _ ∧ (_ : Int) ≤ _); (simp <;> omega)))
        all_goals trace_state
    · have := (decL_pos s a.pos ‹_›).1
      refine Rnd.mk ⟨⟨a.pos + (decL s a.pos).2, a.spans, a.pos⟩, ?_, ?_, ?_⟩
      · exact fs_no0 ha ‹_› ‹_› (by omega)
      · simp; omega
      · repeat' ((conv => whnf); first | (with_reducible rfl) | exact True.intro | (with_reducible exact absTF) | (with_reducible exact absFT) | intro _ | refine And.intro ?_ ?_ | refine Fin.mk ?_ | refine CallG.plain rfl ?_ ?_ | refine CallG.mk rfl ?_ ?_ | refine CallG.nwl rfl ?_ ?_ | refine CallG.nw ?_ ?_ | refine CallF.nwl rfl ?_ ?_ | refine CallF.nw ?_ ?_ | (refine CallS.q ?_; (conv => whnf); first | refine CallG.plain rfl ?_ ?_ | refine CallG.mk rfl ?_ ?_) | (refine CallS.m ?_; (conv => whnf); refine CallM.mk rfl ?_ ?_) | (refine CallS.h ?_; (conv => whnf); refine CallM.mk rfl ?_ ?_) | (refine CallS.b ?_; (conv => whnf); refine CallM.mk rfl ?_ ?_) | (refine CallS.z ?_; (conv => whnf); refine CallM.mk rfl ?_ ?_))
        all_goals (try (conv => whnf))
        all_goals (try (exact Ob.mk (u8_bnd _)))
        all_goals (try (refine Ob.mk ?_; first | exact True.intro | assumption | omega | (try simp only [decide_eq_true_eq, decide_eq_false_iff_not, beq_iff_eq, beq_eq_false_iff_ne, bne_iff_ne, bne_eq_false_iff_eq, ne_eq, Bool.and_eq_true, Bool.or_eq_true, Bool.not_eq_true, Bool.not_eq_false, Bool.not_eq_true', Bool.not_eq_false', Int.toNat_natCast, Int.not_lt, Int.not_le, UInt8.ofNat_toNat, cast_eq] at *; omega)))
        all_goals (try ((show (_:Int) = _); omega))
        all_goals (try (show tupSV _ = _; with_unfolding_all rfl))
        all_goals (try ((show (_ : Nat) ≤ _); (simp <;> omega)))
        all_goals (try ((show (_ : Nat) ≤ _ ∧ (_ : Nat) ≤ _); (simp <;> omega)))
        all_goals (try ((show (_ : Int) ≤ _ ∧ (_ : Int) ≤ _ ∧ (_ : Int) ≤ _ ∧ (_ : Int) ≤ _); (simp <;> omega)))
        all_goals trace_state
    · have := (decL_pos s a.pos ‹_›).1
      refine Rnd.mk ⟨⟨a.pos + (decL s a.pos).2, a.spans, a.start⟩, ?_, ?_, ?_⟩
      · exact fs_no1 ha ‹_› ‹_› (by omega)
      · simp; omega
      · repeat' ((conv => whnf); first | (with_reducible rfl) | exact True.intro | (with_reducible exact absTF) | (with_reducible exact absFT) | intro _ | refine And.intro ?_ ?_ | refine Fin.mk ?_ | refine CallG.plain rfl ?_ ?_ | refine CallG.mk rfl ?_ ?_ | refine CallG.nwl rfl ?_ ?_ | refine CallG.nw ?_ ?_ | refine CallF.nwl rfl ?_ ?_ | refine CallF.nw ?_ ?_ | (refine CallS.q ?_; (conv => whnf); first | refine CallG.plain rfl ?_ ?_ | refine CallG.mk rfl ?_ ?_) | (refine CallS.m ?_; (conv => whnf); refine CallM.mk rfl ?_ ?_) | (refine CallS.h ?_; (conv => whnf); refine CallM.mk rfl ?_ ?_) | (refine CallS.b ?_; (conv => whnf); refine CallM.mk rfl ?_ ?_) | (refine CallS.z ?_; (conv => whnf); refine CallM.mk rfl ?_ ?_))
        all_goals (try (conv => whnf))
        all_goals (try (exact Ob.mk (u8_bnd _)))
        all_goals (try (refine Ob.mk ?_; first | exact True.intro | assumption | omega | (try simp only [decide_eq_true_eq, decide_eq_false_iff_not, beq_iff_eq, beq_eq_false_iff_ne, bne_iff_ne, bne_eq_false_iff_eq, ne_eq, Bool.and_eq_true, Bool.or_eq_true, Bool.not_eq_true, Bool.not_eq_false, Bool.not_eq_true', Bool.not_eq_false', Int.toNat_natCast, Int.not_lt, Int.not_le, UInt8.ofNat_toNat, cast_eq] at *; omega)))
        all_goals (try ((show (_:Int) = _); omega))
        all_goals (try (show tupSV _ = _; with_unfolding_all rfl))
        all_goals (try ((show (_ : Nat) ≤ _); (simp <;> omega)))
        all_goals (try ((show (_ : Nat) ≤ _ ∧ (_ : Nat) ≤ _); (simp <;> omega)))
        all_goals (try ((show (_ : Int) ≤ _ ∧ (_ : Int) ≤ _ ∧ (_ : Int) ≤ _ ∧ (_ : Int) ≤ _); (simp <;> omega)))
        all_goals trace_state
    · skip
      have hh := fs_end1 ha ‹_› (by omega)
      have hlen : (a.spans ++ [(a.start, (s.length:Int))]).length ≤ s.length + 1 := by simp; omega
      revert hh hlen
      generalize a.spans ++ [(a.start, (s.length:Int))] = sp
      intro hh hlen
      repeat' ((conv => whnf); first | (with_reducible rfl) | exact True.intro | (with_reducible exact absTF) | (with_reducible exact absFT) | intro _ | refine And.intro ?_ ?_ | refine Fin.mk ?_ | refine CallG.plain rfl ?_ ?_ | refine CallG.mk rfl ?_ ?_ | refine CallG.nwl rfl ?_ ?_ | refine CallG.nw ?_ ?_ | refine CallF.nwl rfl ?_ ?_ | refine CallF.nw ?_ ?_ | (refine CallS.q ?_; (conv => whnf); first | refine CallG.plain rfl ?_ ?_ | refine CallG.mk rfl ?_ ?_) | (refine CallS.m ?_; (conv => whnf); refine CallM.mk rfl ?_ ?_) | (refine CallS.h ?_; (conv => whnf); refine CallM.mk rfl ?_ ?_) | (refine CallS.b ?_; (conv => whnf); refine CallM.mk rfl ?_ ?_) | (refine CallS.z ?_; (conv => whnf); refine CallM.mk rfl ?_ ?_))
      all_goals (try (conv => whnf))
      all_goals (try (exact Ob.mk (u8_bnd _)))
      all_goals (try (refine Ob.mk ?_; first | exact True.intro | assumption | omega | (try simp only [decide_eq_true_eq, decide_eq_false_iff_not, beq_iff_eq, beq_eq_false_iff_ne, bne_iff_ne, bne_eq_false_iff_eq, ne_eq, Bool.and_eq_true, Bool.or_eq_true, Bool.not_eq_true, Bool.not_eq_false, Bool.not_eq_true', Bool.not_eq_false', Int.toNat_natCast, Int.not_lt, Int.not_le, UInt8.ofNat_toNat, cast_eq] at *; omega)))
      all_goals (try ((show (_:Int) = _); omega))
      all_goals (try (show tupSV _ = _; with_unfolding_all rfl))
      all_goals (try ((show (_ : Nat) ≤ _); (simp <;> omega)))
      all_goals (try ((show (_ : Nat) ≤ _ ∧ (_ : Nat) ≤ _); (simp <;> omega)))
      all_goals (try ((show (_ : Int) ≤ _ ∧ (_ : Int) ≤ _ ∧ (_ : Int) ≤ _ ∧ (_ : Int) ≤ _); (simp <;> omega)))
      repeat' ((conv => whnf); first | (with_reducible rfl) | exact True.intro | (with_reducible exact absTF) | (with_reducible exact absFT) | intro _ | refine And.intro ?_ ?_ | refine Fin.mk ?_ | refine CallG.plain rfl ?_ ?_ | refine CallG.mk rfl ?_ ?_ | refine CallG.nwl rfl ?_ ?_ | refine CallG.nw ?_ ?_ | refine CallF.nwl rfl ?_ ?_ | refine CallF.nw ?_ ?_ | (refine CallS.q ?_; (conv => whnf); first | refine CallG.plain rfl ?_ ?_ | refine CallG.mk rfl ?_ ?_) | (refine CallS.m ?_; (conv => whnf); refine CallM.mk rfl ?_ ?_) | (refine CallS.h ?_; (conv => whnf); refine CallM.mk rfl ?_ ?_) | (refine CallS.b ?_; (conv => whnf); refine CallM.mk rfl ?_ ?_) | (refine CallS.z ?_; (conv => whnf); refine CallM.mk rfl ?_ ?_))
      all_goals (try (conv => whnf))
      refine LoopStop.mk (α := Nat) (fun i => [(49, .int .i64 i)]) (fun i => [(3, .own .str (fin2 s sp i))]) 20 (fun i => i ≤ sp.length) (fun i => sp.length - i) 0 (by simp) ?_ (fun i hi => ?_)
      · repeat' ((conv => whnf); first | (with_reducible rfl) | exact True.intro | (with_reducible exact absTF) | (with_reducible exact absFT) | intro _ | refine And.intro ?_ ?_ | refine Fin.mk ?_ | refine CallG.plain rfl ?_ ?_ | refine CallG.mk rfl ?_ ?_ | refine CallG.nwl rfl ?_ ?_ | refine CallG.nw ?_ ?_ | refine CallF.nwl rfl ?_ ?_ | refine CallF.nw ?_ ?_ | (refine CallS.q ?_; (conv => whnf); first | refine CallG.plain rfl ?_ ?_ | refine CallG.mk rfl ?_ ?_) | (refine CallS.m ?_; (conv => whnf); refine CallM.mk rfl ?_ ?_) | (refine CallS.h ?_; (conv => whnf); refine CallM.mk rfl ?_ ?_) | (refine CallS.b ?_; (conv => whnf); refine CallM.mk rfl ?_ ?_) | (refine CallS.z ?_; (conv => whnf); refine CallM.mk rfl ?_ ?_))
        all_goals (try (conv => whnf))
        all_goals (try rfl)
        all_goals trace_state
      · repeat' ((conv => whnf); first | (with_reducible rfl) | exact True.intro | (with_reducible exact absTF) | (with_reducible exact absFT) | intro _ | refine And.intro ?_ ?_ | refine Fin.mk ?_ | refine CallG.plain rfl ?_ ?_ | refine CallG.mk rfl ?_ ?_ | refine CallG.nwl rfl ?_ ?_ | refine CallG.nw ?_ ?_ | refine CallF.nwl rfl ?_ ?_ | refine CallF.nw ?_ ?_ | (refine CallS.q ?_; (conv => whnf); first | refine CallG.plain rfl ?_ ?_ | refine CallG.mk rfl ?_ ?_) | (refine CallS.m ?_; (conv => whnf); refine CallM.mk rfl ?_ ?_) | (refine CallS.h ?_; (conv => whnf); refine CallM.mk rfl ?_ ?_) | (refine CallS.b ?_; (conv => whnf); refine CallM.mk rfl ?_ ?_) | (refine CallS.z ?_; (conv => whnf); refine CallM.mk rfl ?_ ?_))
        all_goals (try (conv => whnf))
        all_goals (try (exact Ob.mk (u8_bnd _)))
        all_goals (try (refine Ob.mk ?_; first | exact True.intro | assumption | omega | (try simp only [decide_eq_true_eq, decide_eq_false_iff_not, beq_iff_eq, beq_eq_false_iff_ne, bne_iff_ne, bne_eq_false_iff_eq, ne_eq, Bool.and_eq_true, Bool.or_eq_true, Bool.not_eq_true, Bool.not_eq_false, Bool.not_eq_true', Bool.not_eq_false', Int.toNat_natCast, Int.not_lt, Int.not_le, UInt8.ofNat_toNat, cast_eq] at *; omega)))
        all_goals (try ((show (_:Int) = _); omega))
        all_goals (try (show tupSV _ = _; with_unfolding_all rfl))
        all_goals (try ((show (_ : Nat) ≤ _); (simp <;> omega)))
        all_goals (try ((show (_ : Nat) ≤ _ ∧ (_ : Nat) ≤ _); (simp <;> omega)))
        all_goals (try ((show (_ : Int) ≤ _ ∧ (_ : Int) ≤ _ ∧ (_ : Int) ≤ _ ∧ (_ : Int) ≤ _); (simp <;> omega)))
        all_goals (try simp only [decide_eq_true_eq, decide_eq_false_iff_not, beq_iff_eq, beq_eq_false_iff_ne, bne_iff_ne, bne_eq_false_iff_eq, ne_eq, Bool.and_eq_true, Bool.or_eq_true, Bool.not_eq_true, Bool.not_eq_false, Bool.not_eq_true', Bool.not_eq_false', Int.toNat_natCast, Int.not_lt, Int.not_le, UInt8.ofNat_toNat, cast_eq] at *)
        · exact hh.2 _ (getD_mem' (by omega))
        · rw [fin2_len s sp i hi]; omega
        · rw [fin2_len s sp i hi]; omega
        · skip
          have e := fin2_set s sp i (by omega)
          repeat' ((conv => whnf); first | (with_reducible rfl) | exact True.intro | (with_reducible exact absTF) | (with_reducible exact absFT) | intro _ | refine And.intro ?_ ?_ | refine Fin.mk ?_ | refine CallG.plain rfl ?_ ?_ | refine CallG.mk rfl ?_ ?_ | refine CallG.nwl rfl ?_ ?_ | refine CallG.nw ?_ ?_ | refine CallF.nwl rfl ?_ ?_ | refine CallF.nw ?_ ?_ | (refine CallS.q ?_; (conv => whnf); first | refine CallG.plain rfl ?_ ?_ | refine CallG.mk rfl ?_ ?_) | (refine CallS.m ?_; (conv => whnf); refine CallM.mk rfl ?_ ?_) | (refine CallS.h ?_; (conv => whnf); refine CallM.mk rfl ?_ ?_) | (refine CallS.b ?_; (conv => whnf); refine CallM.mk rfl ?_ ?_) | (refine CallS.z ?_; (conv => whnf); refine CallM.mk rfl ?_ ?_))
          all_goals (try (conv => whnf))
          all_goals (try (exact Ob.mk (u8_bnd _)))
          all_goals (try (refine Ob.mk ?_; first | exact True.intro | assumption | omega | (try simp only [decide_eq_true_eq, decide_eq_false_iff_not, beq_iff_eq, beq_eq_false_iff_ne, bne_iff_ne, bne_eq_false_iff_eq, ne_eq, Bool.and_eq_true, Bool.or_eq_true, Bool.not_eq_true, Bool.not_eq_false, Bool.not_eq_true', Bool.not_eq_false', Int.toNat_natCast, Int.not_lt, Int.not_le, UInt8.ofNat_toNat, cast_eq] at *; omega)))
          all_goals (try ((show (_:Int) = _); omega))
          all_goals (try (show tupSV _ = _; with_unfolding_all rfl))
          all_goals (try ((show (_ : Nat) ≤ _); (simp <;> omega)))
          all_goals (try ((show (_ : Nat) ≤ _ ∧ (_ : Nat) ≤ _); (simp <;> omega)))
          all_goals (try ((show (_ : Int) ≤ _ ∧ (_ : Int) ≤ _ ∧ (_ : Int) ≤ _ ∧ (_ : Int) ≤ _); (simp <;> omega)))
          refine Rnd.mk ⟨i + 1, ?_, ?_, ?_⟩
          · omega
          · omega
          · repeat' ((conv => whnf); first | (with_reducible rfl) | exact True.intro | (with_reducible exact absTF) | (with_reducible exact absFT) | intro _ | refine And.intro ?_ ?_ | refine Fin.mk ?_ | refine CallG.plain rfl ?_ ?_ | refine CallG.mk rfl ?_ ?_ | refine CallG.nwl rfl ?_ ?_ | refine CallG.nw ?_ ?_ | refine CallF.nwl rfl ?_ ?_ | refine CallF.nw ?_ ?_ | (refine CallS.q ?_; (conv => whnf); first | refine CallG.plain rfl ?_ ?_ | refine CallG.mk rfl ?_ ?_) | (refine CallS.m ?_; (conv => whnf); refine CallM.mk rfl ?_ ?_) | (refine CallS.h ?_; (conv => whnf); refine CallM.mk rfl ?_ ?_) | (refine CallS.b ?_; (conv => whnf); refine CallM.mk rfl ?_ ?_) | (refine CallS.z ?_; (conv => whnf); refine CallM.mk rfl ?_ ?_))
            all_goals (try (conv => whnf))
            all_goals (try (exact Ob.mk (u8_bnd _)))
            all_goals (try (refine Ob.mk ?_; first | exact True.intro | assumption | omega | (try simp only [decide_eq_true_eq, decide_eq_false_iff_not, beq_iff_eq, beq_eq_false_iff_ne, bne_iff_ne, bne_eq_false_iff_eq, ne_eq, Bool.and_eq_true, Bool.or_eq_true, Bool.not_eq_true, Bool.not_eq_false, Bool.not_eq_true', Bool.not_eq_false', Int.toNat_natCast, Int.not_lt, Int.not_le, UInt8.ofNat_toNat, cast_eq] at *; omega)))
            all_goals (try ((show (_:Int) = _); omega))
            all_goals (try (show tupSV _ = _; with_unfolding_all rfl))
            all_goals (try ((show (_ : Nat) ≤ _); (simp <;> omega)))
            all_goals (try ((show (_ : Nat) ≤ _ ∧ (_ : Nat) ≤ _); (simp <;> omega)))
            all_goals (try ((show (_ : Int) ≤ _ ∧ (_ : Int) ≤ _ ∧ (_ : Int) ≤ _ ∧ (_ : Int) ≤ _); (simp <;> omega)))
            all_goals (rw [← e]; rfl)
        · rw [fin2_end s sp i (by omega), hh.1]
    · have hh := fs_end0 ha ‹_› (by omega)
      have hlen : a.spans.length ≤ s.length + 1 := by omega
      revert hh hlen
      generalize a.spans = sp
      intro hh hlen
      repeat' ((conv => whnf); first | (with_reducible rfl) | exact True.intro | (with_reducible exact absTF) | (with_reducible exact absFT) | intro _ | refine And.intro ?_ ?_ | refine Fin.mk ?_ | refine CallG.plain rfl ?_ ?_ | refine CallG.mk rfl ?_ ?_ | refine CallG.nwl rfl ?_ ?_ | refine CallG.nw ?_ ?_ | refine CallF.nwl rfl ?_ ?_ | refine CallF.nw ?_ ?_ | (refine CallS.q ?_; (conv => whnf); first | refine CallG.plain rfl ?_ ?_ | refine CallG.mk rfl ?_ ?_) | (refine CallS.m ?_; (conv => whnf); refine CallM.mk rfl ?_ ?_) | (refine CallS.h ?_; (conv => whnf); refine CallM.mk rfl ?_ ?_) | (refine CallS.b ?_; (conv => whnf); refine CallM.mk rfl ?_ ?_) | (refine CallS.z ?_; (conv => whnf); refine CallM.mk rfl ?_ ?_))
      all_goals (try (conv => whnf))
      refine LoopStop.mk (α := Nat) (fun i => [(49, .int .i64 i)]) (fun i => [(2, .own .str (fin2 s sp i))]) 3 (fun i => i ≤ sp.length) (fun i => sp.length - i) 0 (by simp) ?_ (fun i hi => ?_)
      · repeat' ((conv => whnf); first | (with_reducible rfl) | exact True.intro | (with_reducible exact absTF) | (with_reducible exact absFT) | intro _ | refine And.intro ?_ ?_ | refine Fin.mk ?_ | refine CallG.plain rfl ?_ ?_ | refine CallG.mk rfl ?_ ?_ | refine CallG.nwl rfl ?_ ?_ | refine CallG.nw ?_ ?_ | refine CallF.nwl rfl ?_ ?_ | refine CallF.nw ?_ ?_ | (refine CallS.q ?_; (conv => whnf); first | refine CallG.plain rfl ?_ ?_ | refine CallG.mk rfl ?_ ?_) | (refine CallS.m ?_; (conv => whnf); refine CallM.mk rfl ?_ ?_) | (refine CallS.h ?_; (conv => whnf); refine CallM.mk rfl ?_ ?_) | (refine CallS.b ?_; (conv => whnf); refine CallM.mk rfl ?_ ?_) | (refine CallS.z ?_; (conv => whnf); refine CallM.mk rfl ?_ ?_))
        all_goals (try (conv => whnf))
        all_goals (try rfl)
        all_goals trace_state
      · repeat' ((conv => whnf); first | (with_reducible rfl) | exact True.intro | (with_reducible exact absTF) | (with_reducible exact absFT) | intro _ | refine And.intro ?_ ?_ | refine Fin.mk ?_ | refine CallG.plain rfl ?_ ?_ | refine CallG.mk rfl ?_ ?_ | refine CallG.nwl rfl ?_ ?_ | refine CallG.nw ?_ ?_ | refine CallF.nwl rfl ?_ ?_ | refine CallF.nw ?_ ?_ | (refine CallS.q ?_; (conv => whnf); first | refine CallG.plain rfl ?_ ?_ | refine CallG.mk rfl ?_ ?_) | (refine CallS.m ?_; (conv => whnf); refine CallM.mk rfl ?_ ?_) | (refine CallS.h ?_; (conv => whnf); refine CallM.mk rfl ?_ ?_) | (refine CallS.b ?_; (conv => whnf); refine CallM.mk rfl ?_ ?_) | (refine CallS.z ?_; (conv => whnf); refine CallM.mk rfl ?_ ?_))
        all_goals (try (conv => whnf))
        all_goals (try (exact Ob.mk (u8_bnd _)))
        all_goals (try (refine Ob.mk ?_; first | exact True.intro | assumption | omega | (try simp only [decide_eq_true_eq, decide_eq_false_iff_not, beq_iff_eq, beq_eq_false_iff_ne, bne_iff_ne, bne_eq_false_iff_eq, ne_eq, Bool.and_eq_true, Bool.or_eq_true, Bool.not_eq_true, Bool.not_eq_false, Bool.not_eq_true', Bool.not_eq_false', Int.toNat_natCast, Int.not_lt, Int.not_le, UInt8.ofNat_toNat, cast_eq] at *; omega)))
        all_goals (try ((show (_:Int) = _); omega))
        all_goals (try (show tupSV _ = _; with_unfolding_all rfl))
        all_goals (try ((show (_ : Nat) ≤ _); (simp <;> omega)))
        all_goals (try ((show (_ : Nat) ≤ _ ∧ (_ : Nat) ≤ _); (simp <;> omega)))
        all_goals (try ((show (_ : Int) ≤ _ ∧ (_ : Int) ≤ _ ∧ (_ : Int) ≤ _ ∧ (_ : Int) ≤ _); (simp <;> omega)))
        all_goals (try simp only [decide_eq_true_eq, decide_eq_false_iff_not, beq_iff_eq, beq_eq_false_iff_ne, bne_iff_ne, bne_eq_false_iff_eq, ne_eq, Bool.and_eq_true, Bool.or_eq_true, Bool.not_eq_true, Bool.not_eq_false, Bool.not_eq_true', Bool.not_eq_false', Int.toNat_natCast, Int.not_lt, Int.not_le, UInt8.ofNat_toNat, cast_eq] at *)
        · exact hh.2 _ (getD_mem' (by omega))
        · rw [fin2_len s sp i hi]; omega
        · rw [fin2_len s sp i hi]; omega
        · skip
          have e := fin2_set s sp i (by omega)
          repeat' ((conv => whnf); first | (with_reducible rfl) | exact True.intro | (with_reducible exact absTF) | (with_reducible exact absFT) | intro _ | refine And.intro ?_ ?_ | refine Fin.mk ?_ | refine CallG.plain rfl ?_ ?_ | refine CallG.mk rfl ?_ ?_ | refine CallG.nwl rfl ?_ ?_ | refine CallG.nw ?_ ?_ | refine CallF.nwl rfl ?_ ?_ | refine CallF.nw ?_ ?_ | (refine CallS.q ?_; (conv => whnf); first | refine CallG.plain rfl ?_ ?_ | refine CallG.mk rfl ?_ ?_) | (refine CallS.m ?_; (conv => whnf); refine CallM.mk rfl ?_ ?_) | (refine CallS.h ?_; (conv => whnf); refine CallM.mk rfl ?_ ?_) | (refine CallS.b ?_; (conv => whnf); refine CallM.mk rfl ?_ ?_) | (refine CallS.z ?_; (conv => whnf); refine CallM.mk rfl ?_ ?_))
          all_goals (try (conv => whnf))
          all_goals (try (exact Ob.mk (u8_bnd _)))
          all_goals (try (refine Ob.mk ?_; first | exact True.intro | assumption | omega | (try simp only [decide_eq_true_eq, decide_eq_false_iff_not, beq_iff_eq, beq_eq_false_iff_ne, bne_iff_ne, bne_eq_false_iff_eq, ne_eq, Bool.and_eq_true, Bool.or_eq_true, Bool.not_eq_true, Bool.not_eq_false, Bool.not_eq_true', Bool.not_eq_false', Int.toNat_natCast, Int.not_lt, Int.not_le, UInt8.ofNat_toNat, cast_eq] at *; omega)))
          all_goals (try ((show (_:Int) = _); omega))
          all_goals (try (show tupSV _ = _; with_unfolding_all rfl))
          all_goals (try ((show (_ : Nat) ≤ _); (simp <;> omega)))
          all_goals (try ((show (_ : Nat) ≤ _ ∧ (_ : Nat) ≤ _); (simp <;> omega)))
          all_goals (try ((show (_ : Int) ≤ _ ∧ (_ : Int) ≤ _ ∧ (_ : Int) ≤ _ ∧ (_ : Int) ≤ _); (simp <;> omega)))
          refine Rnd.mk ⟨i + 1, ?_, ?_, ?_⟩
          · omega
          · omega
          · repeat' ((conv => whnf); first | (with_reducible rfl) | exact True.intro | (with_reducible exact absTF) | (with_reducible exact absFT) | intro _ | refine And.intro ?_ ?_ | refine Fin.mk ?_ | refine CallG.plain rfl ?_ ?_ | refine CallG.mk rfl ?_ ?_ | refine CallG.nwl rfl ?_ ?_ | refine CallG.nw ?_ ?_ | refine CallF.nwl rfl ?_ ?_ | refine CallF.nw ?_ ?_ | (refine CallS.q ?_; (conv => whnf); first | refine CallG.plain rfl ?_ ?_ | refine CallG.mk rfl ?_ ?_) | (refine CallS.m ?_; (conv => whnf); refine CallM.mk rfl ?_ ?_) | (refine CallS.h ?_; (conv => whnf); refine CallM.mk rfl ?_ ?_) | (refine CallS.b ?_; (conv => whnf); refine CallM.mk rfl ?_ ?_) | (refine CallS.z ?_; (conv => whnf); refine CallM.mk rfl ?_ ?_))
            all_goals (try (conv => whnf))
            all_goals (try (exact Ob.mk (u8_bnd _)))
            all_goals (try (refine Ob.mk ?_; first | exact True.intro | assumption | omega | (try simp only [decide_eq_true_eq, decide_eq_false_iff_not, beq_iff_eq, beq_eq_false_iff_ne, bne_iff_ne, bne_eq_false_iff_eq, ne_eq, Bool.and_eq_true, Bool.or_eq_true, Bool.not_eq_true, Bool.not_eq_false, Bool.not_eq_true', Bool.not_eq_false', Int.toNat_natCast, Int.not_lt, Int.not_le, UInt8.ofNat_toNat, cast_eq] at *; omega)))
            all_goals (try ((show (_:Int) = _); omega))
            all_goals (try (show tupSV _ = _; with_unfolding_all rfl))
            all_goals (try ((show (_ : Nat) ≤ _); (simp <;> omega)))
            all_goals (try ((show (_ : Nat) ≤ _ ∧ (_ : Nat) ≤ _); (simp <;> omega)))
            all_goals (try ((show (_ : Int) ≤ _ ∧ (_ : Int) ≤ _ ∧ (_ : Int) ≤ _ ∧ (_ : Int) ≤ _); (simp <;> omega)))
            all_goals (rw [← e]; rfl)
        · rw [fin2_end s sp i (by omega), hh.1]
end Go.Vc
