/- A part of the proof: lemmas and walks that the last text of the claim joins; no condition. -/
import Derived.Test.YtgggnkinalmmlaaDoorAllowAgainVE
import Derived.Laws.Externs
import Derived.Shelf.Unicode.DecodeSlow
import Derived.Test.YtgggnkinalmmlaaDoorChecked
import Derived.Shelf.Spec.SlicesInsert
import Derived.Shelf.Spec.SlicesInsertGrow
import Derived.Shelf.Strings.Builder1
import Derived.Shelf.Strings.Builder2
import Derived.Shelf.Small.Utf8
import Derived.Shelf.Small.Strs
import Derived.Shelf.Utf8.RuneCount
import Derived.Shelf.Strings.Builder2Cap
import Derived.Shelf.Strings.Search1
import Derived.Shelf.Strings.Search2
import Derived.Shelf.Strings.Search3
import Derived.Shelf.Strings.Cut
import Derived.Shelf.Strings.Count
import Derived.Shelf.LaysM
import Derived.Shelf.Strings.Shaped
import Derived.Shelf.Strings.Split
import Derived.Shelf.Strings.Replace
import Derived.Shelf.Strings.SplitShaped
import Derived.Shelf.Unicode.Decode
import Derived.Shelf.Strings.Runes
import Derived.Shelf.Strings.RuneCount
import Derived.Shelf.Strings.IndexAny
import Derived.Shelf.Strings.AsciiSet
import Derived.Shelf.Strings.IndexAnyAll
import Derived.Shelf.Unicode.DecodeAny
import Derived.Shelf.Unicode.DecodeLast
import Derived.Shelf.Slices.Turned
import Derived.Test.YtgggnkinalmmlaaDoorProg
import Derived.Lib.TrimUEq
import Derived.Lib.TrimU
import GoSem.Core.Utf8
import Derived.Lib.IndexMore
set_option linter.unusedVariables false
set_option linter.unusedSimpArgs false
namespace Go.Vc
open Go.Proofs
set_option linter.unusedVariables false
theorem mixed : Tryd.prog.follows .mixedOrders = true := by kernel_rfl
abbrev intTy : Ty := .int .i64
abbrev spTy : Ty := .pr intTy intTy
abbrev attrTy : Ty := .pr .str .str
abbrev nodeTy : Ty := .pr intTy (.pr intTy (.pr .str (.pr (.sl attrTy) (.pr .str (.pr intTy (.sl intTy))))))
def tyB (t : TypeId) : Option Ty :=
  bif Nat.beq t 3 then some intTy else bif Nat.beq t 4 then some .bool else bif Nat.beq t 5 then some .byte else bif Nat.beq t 9 then some .str else bif Nat.beq t 101 then some .str else bif Nat.beq t 51 then some attrTy else bif Nat.beq t 49 then some nodeTy else bif Nat.beq t 141 then some spTy else bif Nat.beq t 22 then some (.sl .str) else none
def eqsB (t : TypeId) : Bool := Nat.beq t 51
theorem eqsB_ok : ∀ t, eqsB t = true → Tryd.prog.stoodInHeld t = false ∧ Tryd.prog.eqGuardType Tryd.prog.depth t = false ∧ ((Tryd.prog.fieldsOf t).toList.all fun f => f.name != "_") = true := by
  intro t h
  obtain rfl := beq_of h
  exact ⟨by kernel_rfl, by kernel_rfl, by kernel_rfl⟩
def neB (f : FuncId) : Bool := Nat.beq f 130
theorem neB_ok : ∀ f, neB f = true → ∀ (x : Value) (w : World), (callFunc f #[x]).run Tryd.prog w = .ok (.value x) w := by
  intro f h x w
  obtain rfl := beq_of h
  rw [run_callFunc_extern Tryd.func130 (by kernel_rfl) (by kernel_rfl) (by kernel_rfl) (e := Extern.AbiNoEscape.same) (by kernel_rfl)]
  rfl
def tbB (t : TypeId) : Bool := Nat.beq t 76
/-- a cell of the memory that does not change -/
def cellR (r : Mem) (b o : Nat) : Option Value := match r b with | some (.cells c _ _) => c[o]? | _ => none
theorem cellR_le {r r' : Mem} (h : r.le r') {b o v} (hc : cellR r b o = some v) : cellR r' b o = some v := by
  unfold cellR at hc ⊢
  cases hr : r b with
  | none => rw [hr] at hc; cases hc
  | some x => rw [hr] at hc; rw [h b x hr]; exact hc
theorem cellR_at {r : Mem} {w : World} (hv : ∀ b o, r b = some o → w.heap[b]? = some o) {b o v} (hc : cellR r b o = some v) : w.cell? ⟨b, o, none⟩ = some v := by
  unfold cellR at hc
  cases hr : r b with
  | none => rw [hr] at hc; cases hc
  | some x =>
    rw [hr] at hc
    have := hv b x hr
    cases x <;> simp only at hc <;> first | (cases hc; done) | skip
    simp only [World.cell?, this]
    exact hc
/-- the library's two tables, and a number -/
structure GB (r : Mem) : Prop where
  first : ∀ c, c < 256 → cellR r 0 c = some (.int .u8 (Lib.firstT c))
  acc : ∀ i, i < 16 → cellR r 1 (2 * i) = some (.int .u8 (Lib.accLo i)) ∧ cellR r 1 (2 * i + 1) = some (.int .u8 (Lib.accHi i))
  len : ∃ m : Int, cellR r 2 0 = some (.int .i64 m)
theorem GB.le {r r' : Mem} (h : r.le r') (g : GB r) : GB r' :=
  ⟨fun c hc => cellR_le h (g.first c hc), fun i hi => ⟨cellR_le h (g.acc i hi).1, cellR_le h (g.acc i hi).2⟩, g.len.elim fun m hm => ⟨m, cellR_le h hm⟩⟩
theorem GB.tabs {r : Mem} {w : World} (g : GB r) (hv : ∀ b o, r b = some o → w.heap[b]? = some o) : Lib.Utf8Tabs 0 1 w :=
  ⟨fun c hc => cellR_at hv (g.first c hc), fun i hi => ⟨cellR_at hv (g.acc i hi).1, cellR_at hv (g.acc i hi).2⟩⟩
noncomputable abbrev BB : Base := { P := Tryd.prog, mixed := mixed, G := GB, mono := fun r r' h g => g.le h, ty0 := tyB, eqs := eqsB, eqs_ok := eqsB_ok, ne := neB, ne_ok := neB_ok, tb := tbB }

set_option maxRecDepth 10000
@[simp] theorem bytes1 : bytesT Tryd.prog 1 = 8 := rfl
@[simp] theorem bytesB1 : bytesT BB.P 1 = 8 := rfl
@[simp] theorem bytes2 : bytesT Tryd.prog 2 = 8 := rfl
@[simp] theorem bytesB2 : bytesT BB.P 2 = 8 := rfl
@[simp] theorem bytes3 : bytesT Tryd.prog 3 = 8 := rfl
@[simp] theorem bytesB3 : bytesT BB.P 3 = 8 := rfl
@[simp] theorem bytes4 : bytesT Tryd.prog 4 = 1 := rfl
@[simp] theorem bytesB4 : bytesT BB.P 4 = 1 := rfl
@[simp] theorem bytes5 : bytesT Tryd.prog 5 = 1 := rfl
@[simp] theorem bytesB5 : bytesT BB.P 5 = 1 := rfl
@[simp] theorem bytes6 : bytesT Tryd.prog 6 = 1 := rfl
@[simp] theorem bytesB6 : bytesT BB.P 6 = 1 := rfl
@[simp] theorem bytes7 : bytesT Tryd.prog 7 = 24 := rfl
@[simp] theorem bytesB7 : bytesT BB.P 7 = 24 := rfl
@[simp] theorem bytes8 : bytesT Tryd.prog 8 = 24 := rfl
@[simp] theorem bytesB8 : bytesT BB.P 8 = 24 := rfl
@[simp] theorem bytes9 : bytesT Tryd.prog 9 = 16 := rfl
@[simp] theorem bytesB9 : bytesT BB.P 9 = 16 := rfl
@[simp] theorem bytes10 : bytesT Tryd.prog 10 = 16 := rfl
@[simp] theorem bytesB10 : bytesT BB.P 10 = 16 := rfl
@[simp] theorem bytes11 : bytesT Tryd.prog 11 = 16 := rfl
@[simp] theorem bytesB11 : bytesT BB.P 11 = 16 := rfl
@[simp] theorem bytes12 : bytesT Tryd.prog 12 = 8 := rfl
@[simp] theorem bytesB12 : bytesT BB.P 12 = 8 := rfl
@[simp] theorem bytes13 : bytesT Tryd.prog 13 = 24 := rfl
@[simp] theorem bytesB13 : bytesT BB.P 13 = 24 := rfl
@[simp] theorem bytes14 : bytesT Tryd.prog 14 = 24 := rfl
@[simp] theorem bytesB14 : bytesT BB.P 14 = 24 := rfl
@[simp] theorem bytes15 : bytesT Tryd.prog 15 = 8 := rfl
@[simp] theorem bytesB15 : bytesT BB.P 15 = 8 := rfl
@[simp] theorem bytes16 : bytesT Tryd.prog 16 = 8 := rfl
@[simp] theorem bytesB16 : bytesT BB.P 16 = 8 := rfl
@[simp] theorem bytes17 : bytesT Tryd.prog 17 = 8 := rfl
@[simp] theorem bytesB17 : bytesT BB.P 17 = 8 := rfl
@[simp] theorem bytes18 : bytesT Tryd.prog 18 = 8 := rfl
@[simp] theorem bytesB18 : bytesT BB.P 18 = 8 := rfl
@[simp] theorem bytes19 : bytesT Tryd.prog 19 = 8 := rfl
@[simp] theorem bytesB19 : bytesT BB.P 19 = 8 := rfl
@[simp] theorem bytes20 : bytesT Tryd.prog 20 = 16 := rfl
@[simp] theorem bytesB20 : bytesT BB.P 20 = 16 := rfl
@[simp] theorem bytes21 : bytesT Tryd.prog 21 = 4 := rfl
@[simp] theorem bytesB21 : bytesT BB.P 21 = 4 := rfl
@[simp] theorem bytes22 : bytesT Tryd.prog 22 = 24 := rfl
@[simp] theorem bytesB22 : bytesT BB.P 22 = 24 := rfl
@[simp] theorem bytes23 : bytesT Tryd.prog 23 = 8 := rfl
@[simp] theorem bytesB23 : bytesT BB.P 23 = 8 := rfl
@[simp] theorem bytes24 : bytesT Tryd.prog 24 = 8 := rfl
@[simp] theorem bytesB24 : bytesT BB.P 24 = 8 := rfl
@[simp] theorem bytes26 : bytesT Tryd.prog 26 = 8 := rfl
@[simp] theorem bytesB26 : bytesT BB.P 26 = 8 := rfl
@[simp] theorem bytes27 : bytesT Tryd.prog 27 = 8 := rfl
@[simp] theorem bytesB27 : bytesT BB.P 27 = 8 := rfl
@[simp] theorem bytes28 : bytesT Tryd.prog 28 = 8 := rfl
@[simp] theorem bytesB28 : bytesT BB.P 28 = 8 := rfl
@[simp] theorem bytes29 : bytesT Tryd.prog 29 = 8 := rfl
@[simp] theorem bytesB29 : bytesT BB.P 29 = 8 := rfl
@[simp] theorem bytes30 : bytesT Tryd.prog 30 = 8 := rfl
@[simp] theorem bytesB30 : bytesT BB.P 30 = 8 := rfl
@[simp] theorem bytes31 : bytesT Tryd.prog 31 = 8 := rfl
@[simp] theorem bytesB31 : bytesT BB.P 31 = 8 := rfl
@[simp] theorem bytes32 : bytesT Tryd.prog 32 = 24 := rfl
@[simp] theorem bytesB32 : bytesT BB.P 32 = 24 := rfl
@[simp] theorem bytes33 : bytesT Tryd.prog 33 = 8 := rfl
@[simp] theorem bytesB33 : bytesT BB.P 33 = 8 := rfl
@[simp] theorem bytes34 : bytesT Tryd.prog 34 = 8 := rfl
@[simp] theorem bytesB34 : bytesT BB.P 34 = 8 := rfl
@[simp] theorem bytes35 : bytesT Tryd.prog 35 = 8 := rfl
@[simp] theorem bytesB35 : bytesT BB.P 35 = 8 := rfl
@[simp] theorem bytes36 : bytesT Tryd.prog 36 = 8 := rfl
@[simp] theorem bytesB36 : bytesT BB.P 36 = 8 := rfl
@[simp] theorem bytes37 : bytesT Tryd.prog 37 = 8 := rfl
@[simp] theorem bytesB37 : bytesT BB.P 37 = 8 := rfl
@[simp] theorem bytes38 : bytesT Tryd.prog 38 = 8 := rfl
@[simp] theorem bytesB38 : bytesT BB.P 38 = 8 := rfl
@[simp] theorem bytes39 : bytesT Tryd.prog 39 = 8 := rfl
@[simp] theorem bytesB39 : bytesT BB.P 39 = 8 := rfl
@[simp] theorem bytes40 : bytesT Tryd.prog 40 = 8 := rfl
@[simp] theorem bytesB40 : bytesT BB.P 40 = 8 := rfl
@[simp] theorem bytes41 : bytesT Tryd.prog 41 = 8 := rfl
@[simp] theorem bytesB41 : bytesT BB.P 41 = 8 := rfl
@[simp] theorem bytes42 : bytesT Tryd.prog 42 = 8 := rfl
@[simp] theorem bytesB42 : bytesT BB.P 42 = 8 := rfl
@[simp] theorem bytes43 : bytesT Tryd.prog 43 = 8 := rfl
@[simp] theorem bytesB43 : bytesT BB.P 43 = 8 := rfl
@[simp] theorem bytes44 : bytesT Tryd.prog 44 = 160 := rfl
@[simp] theorem bytesB44 : bytesT BB.P 44 = 160 := rfl
@[simp] theorem bytes45 : bytesT Tryd.prog 45 = 160 := rfl
@[simp] theorem bytesB45 : bytesT BB.P 45 = 160 := rfl
@[simp] theorem bytes46 : bytesT Tryd.prog 46 = 24 := rfl
@[simp] theorem bytesB46 : bytesT BB.P 46 = 24 := rfl
@[simp] theorem bytes47 : bytesT Tryd.prog 47 = 24 := rfl
@[simp] theorem bytesB47 : bytesT BB.P 47 = 24 := rfl
@[simp] theorem bytes48 : bytesT Tryd.prog 48 = 104 := rfl
@[simp] theorem bytesB48 : bytesT BB.P 48 = 104 := rfl
@[simp] theorem bytes49 : bytesT Tryd.prog 49 = 104 := rfl
@[simp] theorem bytesB49 : bytesT BB.P 49 = 104 := rfl
@[simp] theorem bytes50 : bytesT Tryd.prog 50 = 32 := rfl
@[simp] theorem bytesB50 : bytesT BB.P 50 = 32 := rfl
@[simp] theorem bytes51 : bytesT Tryd.prog 51 = 32 := rfl
@[simp] theorem bytesB51 : bytesT BB.P 51 = 32 := rfl
@[simp] theorem bytes52 : bytesT Tryd.prog 52 = 8 := rfl
@[simp] theorem bytesB52 : bytesT BB.P 52 = 8 := rfl
@[simp] theorem bytes53 : bytesT Tryd.prog 53 = 8 := rfl
@[simp] theorem bytesB53 : bytesT BB.P 53 = 8 := rfl
@[simp] theorem bytes54 : bytesT Tryd.prog 54 = 8 := rfl
@[simp] theorem bytesB54 : bytesT BB.P 54 = 8 := rfl
@[simp] theorem bytes56 : bytesT Tryd.prog 56 = 8 := rfl
@[simp] theorem bytesB56 : bytesT BB.P 56 = 8 := rfl
@[simp] theorem bytes57 : bytesT Tryd.prog 57 = 8 := rfl
@[simp] theorem bytesB57 : bytesT BB.P 57 = 8 := rfl
@[simp] theorem bytes58 : bytesT Tryd.prog 58 = 8 := rfl
@[simp] theorem bytesB58 : bytesT BB.P 58 = 8 := rfl
@[simp] theorem bytes59 : bytesT Tryd.prog 59 = 8 := rfl
@[simp] theorem bytesB59 : bytesT BB.P 59 = 8 := rfl
@[simp] theorem bytes60 : bytesT Tryd.prog 60 = 8 := rfl
@[simp] theorem bytesB60 : bytesT BB.P 60 = 8 := rfl
@[simp] theorem bytes61 : bytesT Tryd.prog 61 = 8 := rfl
@[simp] theorem bytesB61 : bytesT BB.P 61 = 8 := rfl
@[simp] theorem bytes62 : bytesT Tryd.prog 62 = 8 := rfl
@[simp] theorem bytesB62 : bytesT BB.P 62 = 8 := rfl
@[simp] theorem bytes63 : bytesT Tryd.prog 63 = 8 := rfl
@[simp] theorem bytesB63 : bytesT BB.P 63 = 8 := rfl
@[simp] theorem bytes65 : bytesT Tryd.prog 65 = 8 := rfl
@[simp] theorem bytesB65 : bytesT BB.P 65 = 8 := rfl
@[simp] theorem bytes66 : bytesT Tryd.prog 66 = 8 := rfl
@[simp] theorem bytesB66 : bytesT BB.P 66 = 8 := rfl
@[simp] theorem bytes67 : bytesT Tryd.prog 67 = 8 := rfl
@[simp] theorem bytesB67 : bytesT BB.P 67 = 8 := rfl
@[simp] theorem bytes68 : bytesT Tryd.prog 68 = 8 := rfl
@[simp] theorem bytesB68 : bytesT BB.P 68 = 8 := rfl
@[simp] theorem bytes69 : bytesT Tryd.prog 69 = 8 := rfl
@[simp] theorem bytesB69 : bytesT BB.P 69 = 8 := rfl
@[simp] theorem bytes70 : bytesT Tryd.prog 70 = 8 := rfl
@[simp] theorem bytesB70 : bytesT BB.P 70 = 8 := rfl
@[simp] theorem bytes71 : bytesT Tryd.prog 71 = 24 := rfl
@[simp] theorem bytesB71 : bytesT BB.P 71 = 24 := rfl
@[simp] theorem bytes72 : bytesT Tryd.prog 72 = 8 := rfl
@[simp] theorem bytesB72 : bytesT BB.P 72 = 8 := rfl
@[simp] theorem bytes73 : bytesT Tryd.prog 73 = 8 := rfl
@[simp] theorem bytesB73 : bytesT BB.P 73 = 8 := rfl
@[simp] theorem bytes74 : bytesT Tryd.prog 74 = 8 := rfl
@[simp] theorem bytesB74 : bytesT BB.P 74 = 8 := rfl
@[simp] theorem bytes75 : bytesT Tryd.prog 75 = 32 := rfl
@[simp] theorem bytesB75 : bytesT BB.P 75 = 32 := rfl
@[simp] theorem bytes76 : bytesT Tryd.prog 76 = 32 := rfl
@[simp] theorem bytesB76 : bytesT BB.P 76 = 32 := rfl
@[simp] theorem bytes78 : bytesT Tryd.prog 78 = 8 := rfl
@[simp] theorem bytesB78 : bytesT BB.P 78 = 8 := rfl
@[simp] theorem bytes79 : bytesT Tryd.prog 79 = 8 := rfl
@[simp] theorem bytesB79 : bytesT BB.P 79 = 8 := rfl
@[simp] theorem bytes80 : bytesT Tryd.prog 80 = 16 := rfl
@[simp] theorem bytesB80 : bytesT BB.P 80 = 16 := rfl
@[simp] theorem bytes81 : bytesT Tryd.prog 81 = 16 := rfl
@[simp] theorem bytesB81 : bytesT BB.P 81 = 16 := rfl
@[simp] theorem bytes83 : bytesT Tryd.prog 83 = 8 := rfl
@[simp] theorem bytesB83 : bytesT BB.P 83 = 8 := rfl
@[simp] theorem bytes84 : bytesT Tryd.prog 84 = 8 := rfl
@[simp] theorem bytesB84 : bytesT BB.P 84 = 8 := rfl
@[simp] theorem bytes85 : bytesT Tryd.prog 85 = 8 := rfl
@[simp] theorem bytesB85 : bytesT BB.P 85 = 8 := rfl
@[simp] theorem bytes86 : bytesT Tryd.prog 86 = 8 := rfl
@[simp] theorem bytesB86 : bytesT BB.P 86 = 8 := rfl
@[simp] theorem bytes88 : bytesT Tryd.prog 88 = 8 := rfl
@[simp] theorem bytesB88 : bytesT BB.P 88 = 8 := rfl
@[simp] theorem bytes89 : bytesT Tryd.prog 89 = 8 := rfl
@[simp] theorem bytesB89 : bytesT BB.P 89 = 8 := rfl
@[simp] theorem bytes91 : bytesT Tryd.prog 91 = 8 := rfl
@[simp] theorem bytesB91 : bytesT BB.P 91 = 8 := rfl
@[simp] theorem bytes92 : bytesT Tryd.prog 92 = 8 := rfl
@[simp] theorem bytesB92 : bytesT BB.P 92 = 8 := rfl
@[simp] theorem bytes93 : bytesT Tryd.prog 93 = 8 := rfl
@[simp] theorem bytesB93 : bytesT BB.P 93 = 8 := rfl
@[simp] theorem bytes94 : bytesT Tryd.prog 94 = 8 := rfl
@[simp] theorem bytesB94 : bytesT BB.P 94 = 8 := rfl
@[simp] theorem bytes95 : bytesT Tryd.prog 95 = 8 := rfl
@[simp] theorem bytesB95 : bytesT BB.P 95 = 8 := rfl
@[simp] theorem bytes96 : bytesT Tryd.prog 96 = 8 := rfl
@[simp] theorem bytesB96 : bytesT BB.P 96 = 8 := rfl
@[simp] theorem bytes97 : bytesT Tryd.prog 97 = 8 := rfl
@[simp] theorem bytesB97 : bytesT BB.P 97 = 8 := rfl
@[simp] theorem bytes98 : bytesT Tryd.prog 98 = 8 := rfl
@[simp] theorem bytesB98 : bytesT BB.P 98 = 8 := rfl
@[simp] theorem bytes99 : bytesT Tryd.prog 99 = 8 := rfl
@[simp] theorem bytesB99 : bytesT BB.P 99 = 8 := rfl
@[simp] theorem bytes100 : bytesT Tryd.prog 100 = 16 := rfl
@[simp] theorem bytesB100 : bytesT BB.P 100 = 16 := rfl
@[simp] theorem bytes101 : bytesT Tryd.prog 101 = 16 := rfl
@[simp] theorem bytesB101 : bytesT BB.P 101 = 16 := rfl
@[simp] theorem bytes103 : bytesT Tryd.prog 103 = 8 := rfl
@[simp] theorem bytesB103 : bytesT BB.P 103 = 8 := rfl
@[simp] theorem bytes104 : bytesT Tryd.prog 104 = 8 := rfl
@[simp] theorem bytesB104 : bytesT BB.P 104 = 8 := rfl
@[simp] theorem bytes105 : bytesT Tryd.prog 105 = 8 := rfl
@[simp] theorem bytesB105 : bytesT BB.P 105 = 8 := rfl
@[simp] theorem bytes107 : bytesT Tryd.prog 107 = 8 := rfl
@[simp] theorem bytesB107 : bytesT BB.P 107 = 8 := rfl
@[simp] theorem bytes108 : bytesT Tryd.prog 108 = 8 := rfl
@[simp] theorem bytesB108 : bytesT BB.P 108 = 8 := rfl
@[simp] theorem bytes109 : bytesT Tryd.prog 109 = 8 := rfl
@[simp] theorem bytesB109 : bytesT BB.P 109 = 8 := rfl
@[simp] theorem bytes110 : bytesT Tryd.prog 110 = 256 := rfl
@[simp] theorem bytesB110 : bytesT BB.P 110 = 256 := rfl
@[simp] theorem bytes111 : bytesT Tryd.prog 111 = 2 := rfl
@[simp] theorem bytesB111 : bytesT BB.P 111 = 2 := rfl
@[simp] theorem bytes112 : bytesT Tryd.prog 112 = 2 := rfl
@[simp] theorem bytesB112 : bytesT BB.P 112 = 2 := rfl
@[simp] theorem bytes113 : bytesT Tryd.prog 113 = 32 := rfl
@[simp] theorem bytesB113 : bytesT BB.P 113 = 32 := rfl
@[simp] theorem bytes114 : bytesT Tryd.prog 114 = 8 := rfl
@[simp] theorem bytesB114 : bytesT BB.P 114 = 8 := rfl
@[simp] theorem bytes115 : bytesT Tryd.prog 115 = 8 := rfl
@[simp] theorem bytesB115 : bytesT BB.P 115 = 8 := rfl
@[simp] theorem bytes116 : bytesT Tryd.prog 116 = 8 := rfl
@[simp] theorem bytesB116 : bytesT BB.P 116 = 8 := rfl
@[simp] theorem bytes117 : bytesT Tryd.prog 117 = 256 := rfl
@[simp] theorem bytesB117 : bytesT BB.P 117 = 256 := rfl
@[simp] theorem bytes118 : bytesT Tryd.prog 118 = 8 := rfl
@[simp] theorem bytesB118 : bytesT BB.P 118 = 8 := rfl
@[simp] theorem bytes119 : bytesT Tryd.prog 119 = 8 := rfl
@[simp] theorem bytesB119 : bytesT BB.P 119 = 8 := rfl
@[simp] theorem bytes120 : bytesT Tryd.prog 120 = 48 := rfl
@[simp] theorem bytesB120 : bytesT BB.P 120 = 48 := rfl
@[simp] theorem bytes121 : bytesT Tryd.prog 121 = 8 := rfl
@[simp] theorem bytesB121 : bytesT BB.P 121 = 8 := rfl
@[simp] theorem bytes122 : bytesT Tryd.prog 122 = 8 := rfl
@[simp] theorem bytesB122 : bytesT BB.P 122 = 8 := rfl
@[simp] theorem bytes124 : bytesT Tryd.prog 124 = 8 := rfl
@[simp] theorem bytesB124 : bytesT BB.P 124 = 8 := rfl
@[simp] theorem bytes125 : bytesT Tryd.prog 125 = 8 := rfl
@[simp] theorem bytesB125 : bytesT BB.P 125 = 8 := rfl
@[simp] theorem bytes126 : bytesT Tryd.prog 126 = 8 := rfl
@[simp] theorem bytesB126 : bytesT BB.P 126 = 8 := rfl
@[simp] theorem bytes127 : bytesT Tryd.prog 127 = 8 := rfl
@[simp] theorem bytesB127 : bytesT BB.P 127 = 8 := rfl
@[simp] theorem bytes128 : bytesT Tryd.prog 128 = 8 := rfl
@[simp] theorem bytesB128 : bytesT BB.P 128 = 8 := rfl
@[simp] theorem bytes129 : bytesT Tryd.prog 129 = 8 := rfl
@[simp] theorem bytesB129 : bytesT BB.P 129 = 8 := rfl
@[simp] theorem bytes130 : bytesT Tryd.prog 130 = 8 := rfl
@[simp] theorem bytesB130 : bytesT BB.P 130 = 8 := rfl
@[simp] theorem bytes131 : bytesT Tryd.prog 131 = 256 := rfl
@[simp] theorem bytesB131 : bytesT BB.P 131 = 256 := rfl
@[simp] theorem bytes132 : bytesT Tryd.prog 132 = 256 := rfl
@[simp] theorem bytesB132 : bytesT BB.P 132 = 256 := rfl
@[simp] theorem bytes134 : bytesT Tryd.prog 134 = 8 := rfl
@[simp] theorem bytesB134 : bytesT BB.P 134 = 8 := rfl
@[simp] theorem bytes136 : bytesT Tryd.prog 136 = 8 := rfl
@[simp] theorem bytesB136 : bytesT BB.P 136 = 8 := rfl
@[simp] theorem bytes137 : bytesT Tryd.prog 137 = 8 := rfl
@[simp] theorem bytesB137 : bytesT BB.P 137 = 8 := rfl
@[simp] theorem bytes138 : bytesT Tryd.prog 138 = 4 := rfl
@[simp] theorem bytesB138 : bytesT BB.P 138 = 4 := rfl
@[simp] theorem bytes139 : bytesT Tryd.prog 139 = 24 := rfl
@[simp] theorem bytesB139 : bytesT BB.P 139 = 24 := rfl
@[simp] theorem bytes140 : bytesT Tryd.prog 140 = 16 := rfl
@[simp] theorem bytesB140 : bytesT BB.P 140 = 16 := rfl
@[simp] theorem bytes141 : bytesT Tryd.prog 141 = 16 := rfl
@[simp] theorem bytesB141 : bytesT BB.P 141 = 16 := rfl
@[simp] theorem bytes142 : bytesT Tryd.prog 142 = 8 := rfl
@[simp] theorem bytesB142 : bytesT BB.P 142 = 8 := rfl
@[simp] theorem bytes143 : bytesT Tryd.prog 143 = 8 := rfl
@[simp] theorem bytesB143 : bytesT BB.P 143 = 8 := rfl
@[simp] theorem bytes144 : bytesT Tryd.prog 144 = 8 := rfl
@[simp] theorem bytesB144 : bytesT BB.P 144 = 8 := rfl
@[simp] theorem bytes146 : bytesT Tryd.prog 146 = 8 := rfl
@[simp] theorem bytesB146 : bytesT BB.P 146 = 8 := rfl
@[simp] theorem bytes147 : bytesT Tryd.prog 147 = 40 := rfl
@[simp] theorem bytesB147 : bytesT BB.P 147 = 40 := rfl
@[simp] theorem bytes148 : bytesT Tryd.prog 148 = 40 := rfl
@[simp] theorem bytesB148 : bytesT BB.P 148 = 40 := rfl
@[simp] theorem bytes152 : bytesT Tryd.prog 152 = 1 := rfl
@[simp] theorem bytesB152 : bytesT BB.P 152 = 1 := rfl
@[simp] theorem bytes153 : bytesT Tryd.prog 153 = 1 := rfl
@[simp] theorem bytesB153 : bytesT BB.P 153 = 1 := rfl
@[simp] theorem bytes154 : bytesT Tryd.prog 154 = 8 := rfl
@[simp] theorem bytesB154 : bytesT BB.P 154 = 8 := rfl
@[simp] theorem bytes155 : bytesT Tryd.prog 155 = 4 := rfl
@[simp] theorem bytesB155 : bytesT BB.P 155 = 4 := rfl
@[simp] theorem bytes156 : bytesT Tryd.prog 156 = 4 := rfl
@[simp] theorem bytesB156 : bytesT BB.P 156 = 4 := rfl
@[simp] theorem bytes157 : bytesT Tryd.prog 157 = 48 := rfl
@[simp] theorem bytesB157 : bytesT BB.P 157 = 48 := rfl
@[simp] theorem bytes158 : bytesT Tryd.prog 158 = 48 := rfl
@[simp] theorem bytesB158 : bytesT BB.P 158 = 48 := rfl
theorem u8_bnd (x : UInt8) : 0 ≤ (x.toNat : Int) ∧ (x.toNat : Int) ≤ 255 := by have := x.toNat_lt; omega
end Go.Vc

namespace Go.Vc
open Go.Proofs
set_option linter.unusedVariables false
set_option linter.unusedSimpArgs false
theorem tup2 {r : Mem} {β : Bind} {a b : SV} {x y : Value} (h1 : Rel r β a x) (h2 : Rel r β b y) : Rel r β (.tup [a, b]) (.tuple #[x, y]) := by
  refine Rel.tup (cs := [x, y]) rfl fun i sv v q1 q2 => ?_
  match i, q1, q2 with
  | 0, q1, q2 => simp at q1 q2; subst q1; subst q2; exact h1
  | 1, q1, q2 => simp at q1 q2; subst q1; subst q2; exact h2
end Go.Vc

/-
  DERIVED: THE SHELF's CONTRACTS AT THIS DUMP, IN PLAIN WORDS (tools/lay-plain.mjs out of 'TrydShelf.lean', which tools/lay-shelf.mjs wrote): THE SAME DECLARATIONS UNDER THE SAME NAMES: 'import', 'namespace', 'open', 'def', 'theorem' AND NOTHING ELSE: no command of the shelf's: FOR A HAND-IN. Each laying: the table of numbers ('.._ren') and one theorem, a field a fact of the dump's own or the kernel's comparison; each contract: ONE APPLICATION.
-/
namespace Go.Proofs
open Go.Shelf
def Tryd.lays137_ren : Go.Shelf.Ren := ⟨fun | 137 => 55 | 217 => 98 | 266 => 126 | n => n, fun | 9 => 9 | 5 => 5 | 3 => 3 | n => n, fun | n => n⟩
theorem Tryd.lays137 : Go.Proofs.Lays.n137 Tryd.prog Tryd.lays137_ren := {
  mixed := by kernel_rfl
  f137 := Tryd.func55.trans (congrArg some (by kernel_rfl))
  f217 := Tryd.func98.trans (congrArg some (by kernel_rfl))
  f266 := Tryd.func126.trans (congrArg some (by kernel_rfl))
  t3 := Tryd.underlying3
  a3 := Tryd.isAgg3
  z3 := Tryd.sizeOf3
  v3 := Tryd.zeroValue3
  t5 := Tryd.underlying5
  a5 := Tryd.isAgg5
  z5 := Tryd.sizeOf5
  v5 := Tryd.zeroValue5
  t9 := Tryd.underlying9
  a9 := Tryd.isAgg9
  z9 := Tryd.sizeOf9
  v9 := Tryd.zeroValue9 }
open Go.RowKit in
/-- strings.IndexByte: "IndexByte returns the index of the first instance of c in s, or -1 if c is not present in s.": IT RETURNS 'Lib.indexByte s c'; the world is as it was. (LAID: no walk: one application.) -/
theorem Tryd.strings_IndexByte (s : ByteArray) (c : Int) (w : World) :
    Calls Tryd.prog 55 #[.string s, .int .u8 c] w fun e w' => e = .returned (.int .i64 (Lib.indexByte s.data.toList c.toNat.toUInt8)) ∧ w' = w := Any.strings_IndexByte Tryd.lays137 s c w
def Tryd.lays219_ren : Go.Shelf.Ren := ⟨fun | 219 => 125 | 217 => 98 | 225 => 141 | 224 => 142 | 267 => 143 | 266 => 126 | 314 => 147 | n => n, fun | 9 => 9 | 3 => 3 | 4 => 4 | 5 => 5 | 46 => 114 | 146 => 145 | 51 => 138 | n => n, fun | 1 => 2 | n => n⟩
def Tryd.lays143_ren : Go.Shelf.Ren := ⟨fun | 143 => 113 | 219 => 125 | 217 => 98 | 225 => 141 | 224 => 142 | 267 => 143 | 266 => 126 | 314 => 147 | n => n, fun | 9 => 9 | 3 => 3 | 4 => 4 | 5 => 5 | 46 => 114 | 146 => 145 | 51 => 138 | n => n, fun | 1 => 2 | n => n⟩
theorem Tryd.lays143 : Go.Proofs.Lays.n143 Tryd.prog Tryd.lays143_ren := {
  mixed := by kernel_rfl
  f143 := Tryd.func113.trans (congrArg some (by kernel_rfl))
  f217 := Tryd.func98.trans (congrArg some (by kernel_rfl))
  f219 := Tryd.func125.trans (congrArg some (by kernel_rfl))
  f224 := Tryd.func142.trans (congrArg some (by kernel_rfl))
  f225 := Tryd.func141.trans (congrArg some (by kernel_rfl))
  f266 := Tryd.func126.trans (congrArg some (by kernel_rfl))
  f267 := Tryd.func143.trans (congrArg some (by kernel_rfl))
  f314 := Tryd.func147.trans (congrArg some (by kernel_rfl))
  t3 := Tryd.underlying3
  a3 := Tryd.isAgg3
  z3 := Tryd.sizeOf3
  v3 := Tryd.zeroValue3
  t4 := Tryd.underlying4
  a4 := Tryd.isAgg4
  z4 := Tryd.sizeOf4
  v4 := Tryd.zeroValue4
  t5 := Tryd.underlying5
  a5 := Tryd.isAgg5
  z5 := Tryd.sizeOf5
  v5 := Tryd.zeroValue5
  t9 := Tryd.underlying9
  a9 := Tryd.isAgg9
  z9 := Tryd.sizeOf9
  v9 := Tryd.zeroValue9
  t46 := Tryd.underlying114
  a46 := Tryd.isAgg114
  z46 := Tryd.sizeOf114
  v46 := Tryd.zeroValue114
  t51 := Tryd.underlying138
  a51 := Tryd.isAgg138
  z51 := Tryd.sizeOf138
  v51 := Tryd.zeroValue138
  t146 := Tryd.underlying145
  a146 := Tryd.isAgg145
  z146 := Tryd.sizeOf145
  v146 := Tryd.zeroValue145
  g1 := by kernel_rfl }
open Go.RowKit Go.Lib in
/-- strings.Index: "Index returns the index of the first instance of substr in s, or -1 if substr is not present in s.": IT RETURNS 'Lib.index s substr'; the world is as it was. (LAID: no walk: one application.) -/
theorem Tryd.strings_Index (s sub : ByteArray) (m : Int) (w : World) (hs : s.size < 4294967281) (hm : w.cell? ⟨2, 0, none⟩ = some (.int .i64 m)) :
    Calls Tryd.prog 113 #[.string s, .string sub] w fun e w' => e = .returned (.int .i64 (Lib.index s.data.toList sub.data.toList)) ∧ w' = w := Any.strings_Index Tryd.lays143 s sub m w hs hm
def Tryd.lays145_ren : Go.Shelf.Ren := ⟨fun | 145 => 53 | 220 => 97 | 219 => 125 | 217 => 98 | 225 => 141 | 224 => 142 | 267 => 143 | 266 => 126 | 314 => 147 | n => n, fun | 9 => 9 | 4 => 4 | 59 => 64 | 3 => 3 | 5 => 5 | 46 => 114 | 146 => 145 | 51 => 138 | n => n, fun | 1 => 2 | n => n⟩
theorem Tryd.lays145 : Go.Proofs.Lays.n145 Tryd.prog Tryd.lays145_ren := {
  mixed := by kernel_rfl
  f145 := Tryd.func53.trans (congrArg some (by kernel_rfl))
  f217 := Tryd.func98.trans (congrArg some (by kernel_rfl))
  f219 := Tryd.func125.trans (congrArg some (by kernel_rfl))
  f220 := Tryd.func97.trans (congrArg some (by kernel_rfl))
  f224 := Tryd.func142.trans (congrArg some (by kernel_rfl))
  f225 := Tryd.func141.trans (congrArg some (by kernel_rfl))
  f266 := Tryd.func126.trans (congrArg some (by kernel_rfl))
  f267 := Tryd.func143.trans (congrArg some (by kernel_rfl))
  f314 := Tryd.func147.trans (congrArg some (by kernel_rfl))
  t3 := Tryd.underlying3
  a3 := Tryd.isAgg3
  z3 := Tryd.sizeOf3
  v3 := Tryd.zeroValue3
  t4 := Tryd.underlying4
  a4 := Tryd.isAgg4
  z4 := Tryd.sizeOf4
  v4 := Tryd.zeroValue4
  t5 := Tryd.underlying5
  a5 := Tryd.isAgg5
  z5 := Tryd.sizeOf5
  v5 := Tryd.zeroValue5
  t9 := Tryd.underlying9
  a9 := Tryd.isAgg9
  z9 := Tryd.sizeOf9
  v9 := Tryd.zeroValue9
  t46 := Tryd.underlying114
  a46 := Tryd.isAgg114
  z46 := Tryd.sizeOf114
  v46 := Tryd.zeroValue114
  t51 := Tryd.underlying138
  a51 := Tryd.isAgg138
  z51 := Tryd.sizeOf138
  v51 := Tryd.zeroValue138
  t59 := Tryd.underlying64
  a59 := Tryd.isAgg64
  z59 := Tryd.sizeOf64
  v59 := Tryd.zeroValue64
  t146 := Tryd.underlying145
  a146 := Tryd.isAgg145
  z146 := Tryd.sizeOf145
  v146 := Tryd.zeroValue145
  g1 := by kernel_rfl }
open Go.RowKit Go.Lib in
/-- strings.Cut: "Cut slices s around the first instance of sep, returning the text before and after sep. The found result reports whether sep appears in s. If sep does not appear in s, cut returns s, "", false.": IT RETURNS 'Lib.cut s sep'; the world is as it was but for the count of draws. (LAID: no walk: one application.) -/
theorem Tryd.strings_Cut (s sep : ByteArray) (m : Int) (w : World) (hs : s.size < 4294967281) (hm : w.cell? ⟨2, 0, none⟩ = some (.int .i64 m)) :
    Calls Tryd.prog 53 #[.string s, .string sep] w fun e w' => e = .returned (.tuple #[.string ⟨(Lib.cut s.data.toList sep.data.toList).1.toArray⟩, .string ⟨(Lib.cut s.data.toList sep.data.toList).2.1.toArray⟩, .bool (Lib.cut s.data.toList sep.data.toList).2.2]) ∧ ∃ n, w' = w.drewN n := Any.strings_Cut Tryd.lays145 s sep m w hs hm
def Tryd.laysM143_ren : Go.Shelf.Ren := ⟨fun | 143 => 113 | 219 => 125 | 217 => 98 | 225 => 141 | 224 => 142 | 267 => 143 | 266 => 126 | 314 => 147 | n => n, fun | 9 => 9 | 3 => 3 | 4 => 4 | 5 => 5 | 46 => 114 | 146 => 145 | 51 => 138 | n => n, fun | 1 => 2 | n => n⟩
theorem Tryd.laysM143 : Go.Proofs.LaysM.n143 Tryd.prog Tryd.laysM143_ren := {
  mixed := by kernel_rfl
  f143 := Tryd.func113.trans (congrArg some (by kernel_rfl))
  f217 := Tryd.func98.trans (congrArg some (by kernel_rfl))
  f219 := Tryd.func125.trans (congrArg some (by kernel_rfl))
  f224 := Tryd.func142.trans (congrArg some (by kernel_rfl))
  f225 := Tryd.func141.trans (congrArg some (by kernel_rfl))
  f266 := Tryd.func126.trans (congrArg some (by kernel_rfl))
  f267 := Tryd.func143.trans (congrArg some (by kernel_rfl))
  f314 := Tryd.func147.trans (congrArg some (by kernel_rfl))
  t3 := Tryd.underlying3
  a3 := Tryd.isAgg3
  z3 := Tryd.sizeOf3
  v3 := Tryd.zeroValue3
  t4 := Tryd.underlying4
  a4 := Tryd.isAgg4
  z4 := Tryd.sizeOf4
  v4 := Tryd.zeroValue4
  t5 := Tryd.underlying5
  a5 := Tryd.isAgg5
  z5 := Tryd.sizeOf5
  v5 := Tryd.zeroValue5
  t9 := Tryd.underlying9
  a9 := Tryd.isAgg9
  z9 := Tryd.sizeOf9
  v9 := Tryd.zeroValue9
  t46 := Tryd.underlying114
  a46 := Tryd.isAgg114
  z46 := Tryd.sizeOf114
  v46 := Tryd.zeroValue114
  t51 := Tryd.underlying138
  a51 := Tryd.isAgg138
  z51 := Tryd.sizeOf138
  v51 := Tryd.zeroValue138
  t146 := Tryd.underlying145
  a146 := Tryd.isAgg145
  z146 := Tryd.sizeOf145
  v146 := Tryd.zeroValue145
  g1 := by kernel_rfl
  i3 := by kernel_rfl
  i4 := by kernel_rfl
  i5 := by kernel_rfl
  i9 := by kernel_rfl
  i46 := by kernel_rfl
  i51 := by kernel_rfl
  i146 := by kernel_rfl
  m1 := by kernel_rfl
  s1_3 := fun w h => Go.Proofs.cell_of_shapedOpen_int (zero := #[.int .i64 0]) (t := 3) h (of_decide_eq_true (by kernel_rfl)) (by kernel_rfl) rfl (by kernel_rfl) (by kernel_rfl) Tryd.underlying3 }
def Tryd.lays197_ren : Go.Shelf.Ren := ⟨fun | 197 => 79 | 260 => 114 | n => n, fun | 9 => 9 | 21 => 21 | 3 => 3 | 4 => 4 | 5 => 5 | 105 => 77 | 119 => 110 | 0 => 0 | 46 => 114 | 139 => 113 | 138 => 112 | n => n, fun | 3 => 0 | 4 => 1 | n => n⟩
theorem Tryd.lays197 : Go.Proofs.Lays.n197 Tryd.prog Tryd.lays197_ren := {
  mixed := by kernel_rfl
  f197 := Tryd.func79.trans (congrArg some (by kernel_rfl))
  f260 := Tryd.func114.trans (congrArg some (by kernel_rfl))
  t0 := Tryd.underlying0
  a0 := Tryd.isAgg0
  z0 := Tryd.sizeOf0
  v0 := Tryd.zeroValue0
  t3 := Tryd.underlying3
  a3 := Tryd.isAgg3
  z3 := Tryd.sizeOf3
  v3 := Tryd.zeroValue3
  t4 := Tryd.underlying4
  a4 := Tryd.isAgg4
  z4 := Tryd.sizeOf4
  v4 := Tryd.zeroValue4
  t5 := Tryd.underlying5
  a5 := Tryd.isAgg5
  z5 := Tryd.sizeOf5
  v5 := Tryd.zeroValue5
  t9 := Tryd.underlying9
  a9 := Tryd.isAgg9
  z9 := Tryd.sizeOf9
  v9 := Tryd.zeroValue9
  t21 := Tryd.underlying21
  a21 := Tryd.isAgg21
  z21 := Tryd.sizeOf21
  v21 := Tryd.zeroValue21
  t46 := Tryd.underlying114
  a46 := Tryd.isAgg114
  z46 := Tryd.sizeOf114
  v46 := Tryd.zeroValue114
  t105 := Tryd.underlying77
  a105 := Tryd.isAgg77
  z105 := Tryd.sizeOf77
  v105 := Tryd.zeroValue77
  t119 := Tryd.underlying110
  a119 := Tryd.isAgg110
  z119 := Tryd.sizeOf110
  t138 := Tryd.underlying112
  a138 := Tryd.isAgg112
  z138 := Tryd.sizeOf112
  v138 := Tryd.zeroValue112
  t139 := Tryd.underlying113
  a139 := Tryd.isAgg113
  z139 := Tryd.sizeOf113
  v139 := Tryd.zeroValue113
  g3 := by kernel_rfl
  g4 := by kernel_rfl }
def Tryd.lays260_ren : Go.Shelf.Ren := ⟨fun | 260 => 114 | n => n, fun | 9 => 9 | 21 => 21 | 3 => 3 | 4 => 4 | 5 => 5 | 119 => 110 | 0 => 0 | 46 => 114 | 139 => 113 | 138 => 112 | n => n, fun | 3 => 0 | 4 => 1 | n => n⟩
theorem Tryd.lays260 : Go.Proofs.Lays.n260 Tryd.prog Tryd.lays260_ren := {
  mixed := by kernel_rfl
  f260 := Tryd.func114.trans (congrArg some (by kernel_rfl))
  t0 := Tryd.underlying0
  a0 := Tryd.isAgg0
  z0 := Tryd.sizeOf0
  v0 := Tryd.zeroValue0
  t3 := Tryd.underlying3
  a3 := Tryd.isAgg3
  z3 := Tryd.sizeOf3
  v3 := Tryd.zeroValue3
  t4 := Tryd.underlying4
  a4 := Tryd.isAgg4
  z4 := Tryd.sizeOf4
  v4 := Tryd.zeroValue4
  t5 := Tryd.underlying5
  a5 := Tryd.isAgg5
  z5 := Tryd.sizeOf5
  v5 := Tryd.zeroValue5
  t9 := Tryd.underlying9
  a9 := Tryd.isAgg9
  z9 := Tryd.sizeOf9
  v9 := Tryd.zeroValue9
  t21 := Tryd.underlying21
  a21 := Tryd.isAgg21
  z21 := Tryd.sizeOf21
  v21 := Tryd.zeroValue21
  t46 := Tryd.underlying114
  a46 := Tryd.isAgg114
  z46 := Tryd.sizeOf114
  v46 := Tryd.zeroValue114
  t119 := Tryd.underlying110
  a119 := Tryd.isAgg110
  z119 := Tryd.sizeOf110
  t138 := Tryd.underlying112
  a138 := Tryd.isAgg112
  z138 := Tryd.sizeOf112
  v138 := Tryd.zeroValue112
  t139 := Tryd.underlying113
  a139 := Tryd.isAgg113
  z139 := Tryd.sizeOf113
  v139 := Tryd.zeroValue113
  g3 := by kernel_rfl
  g4 := by kernel_rfl }
open Go.RowKit Go.Lib in
/-- **unicode/utf8.DecodeRuneInString AT EVERY STRING.** (LAID: no walk: one application.) -/
theorem Tryd.utf8_DecodeRuneInString (s : ByteArray) (w : World) (hT : Lib.Utf8Tabs 0 1 w) :
    Calls Tryd.prog 79 #[.string s] w fun e w' => e = .returned (.tuple #[.int .i32 (Lib.decodeGo s).1, .int .i64 (Lib.decodeGo s).2]) ∧ Below w.heap.size w w' := Any.utf8_DecodeRuneInString Tryd.lays197 s w hT
def Tryd.lays271_ren : Go.Shelf.Ren := ⟨fun | 271 => 145 | 120 => 148 | 197 => 79 | 260 => 114 | n => n, fun | 9 => 9 | 21 => 21 | 3 => 3 | 4 => 4 | 5 => 5 | 105 => 77 | 119 => 110 | 0 => 0 | 46 => 114 | 139 => 113 | 138 => 112 | n => n, fun | 3 => 0 | 4 => 1 | n => n⟩
theorem Tryd.lays271 : Go.Proofs.Lays.n271 Tryd.prog Tryd.lays271_ren := {
  mixed := by kernel_rfl
  f120 := Tryd.func148.trans (congrArg some (by kernel_rfl))
  f197 := Tryd.func79.trans (congrArg some (by kernel_rfl))
  f260 := Tryd.func114.trans (congrArg some (by kernel_rfl))
  f271 := Tryd.func145.trans (congrArg some (by kernel_rfl))
  t0 := Tryd.underlying0
  a0 := Tryd.isAgg0
  z0 := Tryd.sizeOf0
  v0 := Tryd.zeroValue0
  t3 := Tryd.underlying3
  a3 := Tryd.isAgg3
  z3 := Tryd.sizeOf3
  v3 := Tryd.zeroValue3
  t4 := Tryd.underlying4
  a4 := Tryd.isAgg4
  z4 := Tryd.sizeOf4
  v4 := Tryd.zeroValue4
  t5 := Tryd.underlying5
  a5 := Tryd.isAgg5
  z5 := Tryd.sizeOf5
  v5 := Tryd.zeroValue5
  t9 := Tryd.underlying9
  a9 := Tryd.isAgg9
  z9 := Tryd.sizeOf9
  v9 := Tryd.zeroValue9
  t21 := Tryd.underlying21
  a21 := Tryd.isAgg21
  z21 := Tryd.sizeOf21
  v21 := Tryd.zeroValue21
  t46 := Tryd.underlying114
  a46 := Tryd.isAgg114
  z46 := Tryd.sizeOf114
  v46 := Tryd.zeroValue114
  t105 := Tryd.underlying77
  a105 := Tryd.isAgg77
  z105 := Tryd.sizeOf77
  v105 := Tryd.zeroValue77
  t119 := Tryd.underlying110
  a119 := Tryd.isAgg110
  z119 := Tryd.sizeOf110
  t138 := Tryd.underlying112
  a138 := Tryd.isAgg112
  z138 := Tryd.sizeOf112
  v138 := Tryd.zeroValue112
  t139 := Tryd.underlying113
  a139 := Tryd.isAgg113
  z139 := Tryd.sizeOf113
  v139 := Tryd.zeroValue113
  g3 := by kernel_rfl
  g4 := by kernel_rfl }
open Go.RowKit Go.Lib in
/-- **unicode/utf8.DecodeLastRuneInString AT EVERY STRING.** (LAID: no walk: one application.) -/
theorem Tryd.utf8_DecodeLastRuneInString (s : ByteArray) (w : World) (hs : s.size ≤ 9223372036854775807) (hT : Lib.Utf8Tabs 0 1 w) :
    Calls Tryd.prog 145 #[.string s] w fun e w' => e = .returned (.tuple #[.int .i32 (Lib.decodeLastL s.data.toList).1, .int .i64 (Lib.decodeLastL s.data.toList).2]) ∧ Below w.heap.size w w' := Any.utf8_DecodeLastRuneInString Tryd.lays271 s w hs hT
end Go.Proofs

namespace Go.Vc
set_option autoImplicit false
open Go.Lib
def leB (c : UInt8) : Bool := decide (c.toNat ≤ 32)
def trL (l : List UInt8) : List UInt8 := l.dropWhile leB
def trR (l : List UInt8) : List UInt8 := (l.reverse.dropWhile leB).reverse
def okC (c : UInt8) : Bool := !(c == 9 || (c == 10 || c == 13))
def bareL (l : List UInt8) : List UInt8 := (trR (trL l)).filter okC
/-- the place of the first that counts -/
def idxL (l : List UInt8) : Int := bif l.all leB then -1 else ((l.takeWhile leB).length : Int)
theorem tw_len : ∀ (s : List UInt8) (p : Nat), p < s.length → (∀ j, j < p → leB (s.getD j 0) = true) → leB (s.getD p 0) = false → (s.takeWhile leB).length = p ∧ s.all leB = false
  | [], p, h, _, _ => by simp at h
  | c :: r, 0, _, _, h => by
    have h : leB c = false := h
    simp [List.takeWhile_cons, h]
  | c :: r, p + 1, h, ha, hb => by
    have h0 : leB c = true := ha 0 (by omega)
    obtain ⟨h1, h2⟩ := tw_len r p (by simpa using h) (fun j hj => by have := ha (j + 1) (by omega); simpa using this) (by simpa using hb)
    simp [List.takeWhile_cons, h0, h1, h2]
theorem all_of (s : List UInt8) (h : ∀ j, j < s.length → leB (s.getD j 0) = true) : s.all leB = true := by
  rw [List.all_eq_true]
  intro x hx
  obtain ⟨i, hi, rfl⟩ := List.getElem_of_mem hx
  have := h i hi
  simpa [List.getD, List.getElem?_eq_getElem hi] using this
theorem trL_idx (s : List UInt8) : (idxL s = -1 ∧ trL s = []) ∨ (∃ p : Nat, idxL s = p ∧ p < s.length ∧ trL s = s.drop p) := by
  unfold idxL trL
  cases h : s.all leB with
  | true =>
    left
    refine ⟨rfl, ?_⟩
    rw [List.all_eq_true] at h
    induction s with
    | nil => rfl
    | cons c r ih => rw [List.dropWhile_cons, h c (by simp)]; exact ih (fun x hx => h x (by simp [hx]))
  | false =>
    right
    refine ⟨(s.takeWhile leB).length, rfl, ?_, ?_⟩
    · induction s with
      | nil => simp at h
      | cons c r ih =>
        rw [List.takeWhile_cons]
        cases hc : leB c with
        | false => simp
        | true =>
          have : r.all leB = false := by simpa [hc] using h
          have := ih this
          simp; omega
    · clear h
      induction s with
      | nil => rfl
      | cons c r ih =>
        rw [List.takeWhile_cons, List.dropWhile_cons]
        cases hc : leB c <;> simp [ih]
theorem trR_snoc (l : List UInt8) (c : UInt8) : trR (l ++ [c]) = bif leB c then trR l else l ++ [c] := by
  unfold trR
  rw [List.reverse_append, List.reverse_singleton, List.singleton_append, List.dropWhile_cons]
  cases leB c <;> simp
theorem trR_take (s : List UInt8) (i : Nat) (h : i < s.length) : trR (s.take (i + 1)) = bif leB (s.getD i 0) then trR (s.take i) else s.take (i + 1) := by
  rw [List.take_succ_eq_append_getElem h, trR_snoc]
  have : s.getD i 0 = s[i] := by simp [List.getD, List.getElem?_eq_getElem h]
  rw [this]
/-- the decoder -/
theorem decodeN_small (n b0 b1 b2 b3 : Nat) (h : (decodeN n b0 b1 b2 b3).1 < 128) : (decodeN n b0 b1 b2 b3).2 = 1 ∧ (decodeN n b0 b1 b2 b3).1 = b0 ∧ b0 < 128 := by
  revert h
  unfold decodeN
  repeat' split
  all_goals (intro h; first | exact ⟨rfl, rfl, by omega⟩ | (exfalso; simp only at h; omega))
theorem decodeN_asc (n b0 b1 b2 b3 : Nat) (h : b0 < 128) : decodeN n b0 b1 b2 b3 = (b0, 1) := by unfold decodeN; rw [if_pos h]
theorem decL_N (s : List UInt8) (pos : Nat) : Utf8.decode ⟨s.toArray⟩ pos = decodeN (s.length - pos) (s.getD pos 0).toNat (s.getD (pos + 1) 0).toNat (s.getD (pos + 2) 0).toNat (s.getD (pos + 3) 0).toNat := by
  have := decode_N ⟨s.toArray⟩ pos
  simpa using this
theorem decodeN_width (n b0 b1 b2 b3 : Nat) (hn : 1 ≤ n) : 1 ≤ (decodeN n b0 b1 b2 b3).2 ∧ (decodeN n b0 b1 b2 b3).2 ≤ n ∧ (decodeN n b0 b1 b2 b3).2 ≤ 4 := by
  unfold decodeN
  repeat' split
  all_goals (simp only; omega)
/-- a small rune at a place is that byte; any other byte makes a great one -/
theorem dec_le (s : List UInt8) (pos : Nat) : (Utf8.decode ⟨s.toArray⟩ pos).1 ≤ 32 ↔ leB (s.getD pos 0) = true := by
  rw [decL_N, leB, decide_eq_true_eq]
  constructor
  · intro h
    obtain ⟨_, h2, _⟩ := decodeN_small _ _ _ _ _ (Nat.lt_of_le_of_lt h (by decide))
    omega
  · intro h
    rw [decodeN_asc _ _ _ _ _ (by omega)]
    exact h
theorem dec_w1 (s : List UInt8) (pos : Nat) (h : leB (s.getD pos 0) = true) : (Utf8.decode ⟨s.toArray⟩ pos).2 = 1 := by
  rw [leB, decide_eq_true_eq] at h
  rw [decL_N, decodeN_asc _ _ _ _ _ (by omega)]
/-- of a list that is not empty -/
theorem last_le (t : List UInt8) (h : t ≠ []) : ((decodeLastL t).1 ≤ 32 ↔ leB (t.getD (t.length - 1) 0) = true) ∧ (leB (t.getD (t.length - 1) 0) = true → (decodeLastL t).2 = 1) := by
  have hl : 0 < t.length := List.length_pos_iff.2 h
  by_cases ha : (t.getD (t.length - 1) 0).toNat < 128
  · have e : decodeLastL t = ((t.getD (t.length - 1) 0).toNat, 1) := by unfold decodeLastL; rw [if_neg h, if_pos ha]
    rw [e]
    simp [leB]
  · have hf : leB (t.getD (t.length - 1) 0) = false := by rw [leB, decide_eq_false_iff_not]; omega
    rw [hf]
    refine ⟨⟨fun hh => ?_, fun hh => by cases hh⟩, fun hh => by cases hh⟩
    exfalso
    revert hh
    unfold decodeLastL
    rw [if_neg h, if_neg ha]
    simp only
    split
    · rename_i hc
      intro hh
      rw [decodeL_N] at hh hc
      obtain ⟨h1, h2, h3⟩ := decodeN_small _ _ _ _ _ (Nat.lt_of_le_of_lt hh (by decide))
      rw [h1] at hc
      have : (t.drop (lastStart t)).getD 0 0 = t.getD (t.length - 1) 0 := by
        rw [getD_dropU]
        congr 1
        omega
      rw [this] at h3
      omega
    · intro hh; simp [Utf8.runeError] at hh
theorem dec1 (m a0 c0 c1 c2 : Nat) (h : c0 < 128) : (decodeN (1 + m) a0 c0 c1 c2).2 = 1 := by
  unfold decodeN
  repeat' split
  all_goals first | rfl | (exfalso; omega)
theorem dec2 (m a0 a1 x y c0 c1 : Nat) (h : (decodeN 2 a0 a1 x y).2 = 2) : (decodeN (2 + m) a0 a1 c0 c1).2 = 2 := by
  have : ¬ a0 < 128 ∧ (a0 / 32 = 6 ∧ a1 / 64 = 2) ∧ a0 % 32 * 64 + a1 % 64 ≥ 128 := by
    revert h
    unfold decodeN
    repeat' split
    all_goals (intro h; simp only at h; first | (exfalso; omega) | omega)
  unfold decodeN
  rw [if_neg this.1, if_pos ⟨this.2.1.1, by omega, this.2.1.2⟩, if_pos this.2.2]
theorem dec3 (m a0 a1 a2 y c0 : Nat) (h : (decodeN 3 a0 a1 a2 y).2 = 3) : (decodeN (3 + m) a0 a1 a2 c0).2 = 3 := by
  revert h
  unfold decodeN
  repeat' split
  all_goals first | (intro h; first | rfl | exact h) | (intro h; exfalso; simp only at h; omega)
theorem dec4 (m a0 a1 a2 a3 : Nat) (h : (decodeN 4 a0 a1 a2 a3).2 = 4) : (decodeN (4 + m) a0 a1 a2 a3).2 = 4 := by
  revert h
  unfold decodeN
  repeat' split
  all_goals first | (intro h; first | rfl | exact h) | (intro h; exfalso; simp only at h; omega)
/-- from where the last rune begins on, it is decoded alike, whatever small bytes stand behind -/
theorem dec_app (v u : List UInt8) (hv : v ≠ []) (hw : (decodeL v).2 = v.length) (hu : ∀ j, (u.getD j 0).toNat < 128) : (decodeL (v ++ u)).2 = v.length := by
  have hl : 0 < v.length := List.length_pos_iff.2 hv
  have h4 : v.length ≤ 4 := by
    rw [← hw, decodeL_N]; exact (decodeN_width _ _ _ _ _ (by omega)).2.2
  have g : ∀ k, (v ++ u).getD k 0 = if k < v.length then v.getD k 0 else u.getD (k - v.length) 0 := by
    intro k
    simp only [List.getD]
    rw [List.getElem?_append]
    split <;> rfl
  have u0 := hu 0
  rw [decodeL_N] at hw ⊢
  have n : v.length = 1 ∨ v.length = 2 ∨ v.length = 3 ∨ v.length = 4 := by omega
  rw [g, g, g, g, List.length_append]
  rcases n with n | n | n | n <;> rw [n] at hw ⊢ <;> simp only [Nat.reduceLT, Nat.lt_irrefl, Nat.reduceSub, if_true, if_false]
  · exact dec1 _ _ _ _ _ u0
  · exact dec2 _ _ _ _ _ _ _ hw
  · exact dec3 _ _ _ _ _ _ hw
  · exact dec4 _ _ _ _ _ hw
/-- where the last rune begins -/
theorem last_dec (t : List UInt8) (h : t ≠ []) : 1 ≤ (decodeLastL t).2 ∧ (decodeLastL t).2 ≤ t.length ∧ (decodeL (t.drop (t.length - (decodeLastL t).2))).2 = (decodeLastL t).2 := by
  have hl : 0 < t.length := List.length_pos_iff.2 h
  obtain ⟨h1, h2⟩ := decodeLastL_width t hl
  refine ⟨h1, h2, ?_⟩
  have one : ∀ x : List UInt8, x.length = 1 → (decodeL x).2 = 1 := by
    intro x hx
    rw [decodeL_N, hx]
    exact Nat.le_antisymm (decodeN_width 1 _ _ _ _ (Nat.le_refl 1)).2.1 (decodeN_width 1 _ _ _ _ (Nat.le_refl 1)).1
  by_cases ha : (t.getD (t.length - 1) 0).toNat < 128
  · have e : decodeLastL t = ((t.getD (t.length - 1) 0).toNat, 1) := by unfold decodeLastL; rw [if_neg h, if_pos ha]
    rw [e]
    exact one _ (by simp; omega)
  · by_cases hc : lastStart t + (decodeL (t.drop (lastStart t))).2 = t.length
    · have e : decodeLastL t = decodeL (t.drop (lastStart t)) := by unfold decodeLastL; rw [if_neg h, if_neg ha]; simp only; rw [if_pos hc]
      rw [e]
      have : t.length - (decodeL (t.drop (lastStart t))).2 = lastStart t := by omega
      rw [this]
    · have e : decodeLastL t = (Utf8.runeError, 1) := by unfold decodeLastL; rw [if_neg h, if_neg ha]; simp only; rw [if_neg hc]
      rw [e]
      exact one _ (by simp; omega)
theorem mem_tw : ∀ (l : List UInt8) (x : UInt8), x ∈ l.takeWhile leB → leB x = true
  | [], x, h => by simp at h
  | c :: r, x, h => by
    rw [List.takeWhile_cons] at h
    cases hc : leB c with
    | false => rw [hc] at h; simp at h
    | true =>
      rw [hc] at h
      simp only [if_true, List.mem_cons] at h
      rcases h with rfl | h
      · exact hc
      · exact mem_tw r x h
theorem trR_split (s : List UInt8) : ∃ u, s = trR s ++ u ∧ u.all leB = true := by
  refine ⟨(s.reverse.takeWhile leB).reverse, ?_, ?_⟩
  · unfold trR
    rw [← List.reverse_append, List.takeWhile_append_dropWhile, List.reverse_reverse]
  · rw [List.all_reverse, List.all_eq_true]
    intro x hx
    exact mem_tw _ x hx
/-- where the last one that counts begins; -1: there is none -/
def lixL (s : List UInt8) : Int := if trR s = [] then -1 else ((trR s).length : Int) - ((decodeLastL (trR s)).2 : Int)
theorem small_of (u : List UInt8) (h : u.all leB = true) (j : Nat) : (u.getD j 0).toNat < 128 := by
  rcases Nat.lt_or_ge j u.length with h1 | h1
  · rw [List.all_eq_true] at h
    have := h u[j] (List.getElem_mem h1)
    rw [leB, decide_eq_true_eq] at this
    simp only [List.getD, List.getElem?_eq_getElem h1, Option.getD_some]
    omega
  · simp [List.getD, List.getElem?_eq_none h1]
/-- what is left of a text that is trimmed at its end -/
theorem trR_end (s : List UInt8) (h : trR s ≠ []) : 0 ≤ lixL s ∧ lixL s ≤ s.length ∧ lixL s + ((decodeL (s.drop (lixL s).toNat)).2 : Int) = (trR s).length ∧ s.take (trR s).length = trR s ∧ s.drop (lixL s).toNat ≠ [] := by
  obtain ⟨u, hu, hall⟩ := trR_split s
  have e : lixL s = ((trR s).length : Int) - ((decodeLastL (trR s)).2 : Int) := by unfold lixL; rw [if_neg h]
  obtain ⟨h1, h2, h3⟩ := last_dec (trR s) h
  generalize trR s = t at *
  generalize (decodeLastL t).2 = d at *
  have hl : 0 < t.length := List.length_pos_iff.2 h
  have hle : t.length ≤ s.length := by rw [hu]; simp
  have en : (lixL s).toNat = t.length - d := by omega
  have ed : s.drop (lixL s).toNat = t.drop (t.length - d) ++ u := by
    rw [en, hu, List.drop_append_of_le_length (by omega)]
  have hvl : (t.drop (t.length - d)).length = d := by rw [List.length_drop]; omega
  have hv : t.drop (t.length - d) ≠ [] := by
    intro h0
    rw [h0] at hvl
    simp at hvl
    omega
  have hd : (decodeL (s.drop (lixL s).toNat)).2 = d := by rw [ed, dec_app _ u hv (by rw [h3, hvl]) (small_of u hall), hvl]
  refine ⟨by omega, by omega, by rw [hd]; omega, by rw [hu]; simp, ?_⟩
  rw [ed]; simp [hv]
end Go.Vc

namespace Go.Vc
open Go.Proofs
set_option linter.unusedVariables false
set_option maxRecDepth 10000
set_option linter.unusedSimpArgs false
set_option maxHeartbeats 2000000
instance lDL (s : List UInt8) : Fn BB 145 [.str s] True (.tup [.int .i32 (Lib.decodeLastL s).1, .int .i64 (Lib.decodeLastL s).2]) := by
  refine Fn.liftB Tryd.call145 fun hp r β w vs hG m hl => ?_
  obtain ⟨rfl, h1⟩ := hl.str1
  exact ⟨_, Tryd.utf8_DecodeLastRuneInString ⟨s.toArray⟩ w (by simpa [ByteArray.size] using h1) (hG.tabs m.vis), tup2 .int .int⟩
instance lDR (s : List UInt8) : Fn BB 79 [.str s] (s ≠ []) (.tup [.int .i32 (Lib.decodeL s).1, .int .i64 (Lib.decodeL s).2]) := by
  refine Fn.liftB Tryd.call79 fun hp r β w vs hG m hl => ?_
  obtain ⟨rfl, h1⟩ := hl.str1
  have e : Lib.decodeGo ⟨s.toArray⟩ = Lib.decodeL s := by
    unfold Lib.decodeGo Lib.decodeL
    rw [if_neg (by simp [ByteArray.size]; exact hp)]
  have := Tryd.utf8_DecodeRuneInString ⟨s.toArray⟩ w (hG.tabs m.vis)
  rw [e] at this
  exact ⟨_, this, tup2 .int .int⟩
instance lBlank (r : Int) : Fn BB 61 [.int .i32 r] True (.bool (decide (r ≤ 32))) := by
  refine Fn.intro (N := 5) [0, 2] [] Tryd.call61 Tryd.func61 rfl rfl (by kernel_rfl) (fun hpre => ?_)
  repeat' ((conv => whnf); first | (with_reducible rfl) | exact True.intro | (with_reducible exact absTF) | (with_reducible exact absFT) | intro _ | refine And.intro ?_ ?_ | refine Fin.mk ?_ | refine CallG.plain rfl ?_ ?_ | refine CallG.mk rfl ?_ ?_ | refine CallG.nwl rfl ?_ ?_ | refine CallG.nw ?_ ?_ | refine CallF.nwl rfl ?_ ?_ | refine CallF.nw ?_ ?_ | refine AppN.mk ?_ | (refine CallS.q ?_; (conv => whnf); first | refine CallG.plain rfl ?_ ?_ | refine CallG.mk rfl ?_ ?_) | (refine CallS.m ?_; (conv => whnf); refine CallM.mk rfl ?_ ?_) | (refine CallS.h ?_; (conv => whnf); refine CallM.mk rfl ?_ ?_) | (refine CallS.b ?_; (conv => whnf); refine CallM.mk rfl ?_ ?_) | (refine CallS.z ?_; (conv => whnf); refine CallM.mk rfl ?_ ?_))
  all_goals (try (conv => whnf))
instance lIdx (s : List UInt8) : Fn BB 129 [.str s, .fn 61 [], .bool false] (s.length ≤ 100000) (.int .i64 (idxL s)) := by
  refine Fn.intro (N := 21) [0, 1, 2, 6, 7, 8, 10, 11, 12, 19] [] Tryd.call129 Tryd.func129 rfl rfl (by kernel_rfl) (fun hpre => ?_)
  repeat' ((conv => whnf); first | (with_reducible rfl) | exact True.intro | (with_reducible exact absTF) | (with_reducible exact absFT) | intro _ | refine And.intro ?_ ?_ | refine Fin.mk ?_ | refine CallG.plain rfl ?_ ?_ | refine CallG.mk rfl ?_ ?_ | refine CallG.nwl rfl ?_ ?_ | refine CallG.nw ?_ ?_ | refine CallF.nwl rfl ?_ ?_ | refine CallF.nw ?_ ?_ | refine AppN.mk ?_ | (refine CallS.q ?_; (conv => whnf); first | refine CallG.plain rfl ?_ ?_ | refine CallG.mk rfl ?_ ?_) | (refine CallS.m ?_; (conv => whnf); refine CallM.mk rfl ?_ ?_) | (refine CallS.h ?_; (conv => whnf); refine CallM.mk rfl ?_ ?_) | (refine CallS.b ?_; (conv => whnf); refine CallM.mk rfl ?_ ?_) | (refine CallS.z ?_; (conv => whnf); refine CallM.mk rfl ?_ ?_))
  all_goals (try (conv => whnf))
  all_goals (try (exact Ob.mk (u8_bnd _)))
  all_goals (try (refine Ob.mk ?_; first | exact True.intro | assumption | omega | (try simp only [decide_eq_true_eq, decide_eq_false_iff_not, beq_iff_eq, beq_eq_false_iff_ne, bne_iff_ne, bne_eq_false_iff_eq, ne_eq, Bool.and_eq_true, Bool.or_eq_true, Bool.not_eq_true, Bool.not_eq_false, Bool.not_eq_true', Bool.not_eq_false', Int.toNat_natCast, Int.not_lt, Int.not_le, UInt8.ofNat_toNat, cast_eq] at *; omega)))
  all_goals (try ((show (_:Int) = _); omega))
  all_goals (try (show tupSV _ = _; with_unfolding_all rfl))
  all_goals (try ((show (_ : Nat) ≤ _); (simp <;> omega)))
  all_goals (try ((show (_ : Nat) ≤ _ ∧ (_ : Nat) ≤ _); (simp <;> omega)))
  all_goals (try ((show (_ : Int) ≤ _ ∧ (_ : Int) ≤ _ ∧ (_ : Int) ≤ _ ∧ (_ : Int) ≤ _); (simp <;> omega)))
  refine LoopStop.mk (α := Nat) (fun p => []) (fun p => [(0, .iter s p)]) 20 (fun p => p ≤ s.length ∧ ∀ j, j < p → leB (s.getD j 0) = true) (fun p => s.length + 1 - p) 0 ⟨by simp, fun j hj => absurd hj (by omega)⟩ ?_ (fun p hp => ?_)
  · repeat' ((conv => whnf); first | (with_reducible rfl) | exact True.intro | (with_reducible exact absTF) | (with_reducible exact absFT) | intro _ | refine And.intro ?_ ?_ | refine Fin.mk ?_ | refine CallG.plain rfl ?_ ?_ | refine CallG.mk rfl ?_ ?_ | refine CallG.nwl rfl ?_ ?_ | refine CallG.nw ?_ ?_ | refine CallF.nwl rfl ?_ ?_ | refine CallF.nw ?_ ?_ | refine AppN.mk ?_ | (refine CallS.q ?_; (conv => whnf); first | refine CallG.plain rfl ?_ ?_ | refine CallG.mk rfl ?_ ?_) | (refine CallS.m ?_; (conv => whnf); refine CallM.mk rfl ?_ ?_) | (refine CallS.h ?_; (conv => whnf); refine CallM.mk rfl ?_ ?_) | (refine CallS.b ?_; (conv => whnf); refine CallM.mk rfl ?_ ?_) | (refine CallS.z ?_; (conv => whnf); refine CallM.mk rfl ?_ ?_))
    all_goals (try (conv => whnf))
    all_goals (try (exact Ob.mk (u8_bnd _)))
    all_goals (try (refine Ob.mk ?_; first | exact True.intro | assumption | omega | (try simp only [decide_eq_true_eq, decide_eq_false_iff_not, beq_iff_eq, beq_eq_false_iff_ne, bne_iff_ne, bne_eq_false_iff_eq, ne_eq, Bool.and_eq_true, Bool.or_eq_true, Bool.not_eq_true, Bool.not_eq_false, Bool.not_eq_true', Bool.not_eq_false', Int.toNat_natCast, Int.not_lt, Int.not_le, UInt8.ofNat_toNat, cast_eq] at *; omega)))
    all_goals (try ((show (_:Int) = _); omega))
    all_goals (try (show tupSV _ = _; with_unfolding_all rfl))
    all_goals (try ((show (_ : Nat) ≤ _); (simp <;> omega)))
    all_goals (try ((show (_ : Nat) ≤ _ ∧ (_ : Nat) ≤ _); (simp <;> omega)))
    all_goals (try ((show (_ : Int) ≤ _ ∧ (_ : Int) ≤ _ ∧ (_ : Int) ≤ _ ∧ (_ : Int) ≤ _); (simp <;> omega)))
  · obtain ⟨hp1, hp2⟩ := hp
    repeat' ((conv => whnf); first | (with_reducible rfl) | exact True.intro | (with_reducible exact absTF) | (with_reducible exact absFT) | intro _ | refine And.intro ?_ ?_ | refine Fin.mk ?_ | refine CallG.plain rfl ?_ ?_ | refine CallG.mk rfl ?_ ?_ | refine CallG.nwl rfl ?_ ?_ | refine CallG.nw ?_ ?_ | refine CallF.nwl rfl ?_ ?_ | refine CallF.nw ?_ ?_ | refine AppN.mk ?_ | (refine CallS.q ?_; (conv => whnf); first | refine CallG.plain rfl ?_ ?_ | refine CallG.mk rfl ?_ ?_) | (refine CallS.m ?_; (conv => whnf); refine CallM.mk rfl ?_ ?_) | (refine CallS.h ?_; (conv => whnf); refine CallM.mk rfl ?_ ?_) | (refine CallS.b ?_; (conv => whnf); refine CallM.mk rfl ?_ ?_) | (refine CallS.z ?_; (conv => whnf); refine CallM.mk rfl ?_ ?_))
    all_goals (try (conv => whnf))
    all_goals (try (exact Ob.mk (u8_bnd _)))
    all_goals (try (refine Ob.mk ?_; first | exact True.intro | assumption | omega | (try simp only [decide_eq_true_eq, decide_eq_false_iff_not, beq_iff_eq, beq_eq_false_iff_ne, bne_iff_ne, bne_eq_false_iff_eq, ne_eq, Bool.and_eq_true, Bool.or_eq_true, Bool.not_eq_true, Bool.not_eq_false, Bool.not_eq_true', Bool.not_eq_false', Int.toNat_natCast, Int.not_lt, Int.not_le, UInt8.ofNat_toNat, cast_eq] at *; omega)))
    all_goals (try ((show (_:Int) = _); omega))
    all_goals (try (show tupSV _ = _; with_unfolding_all rfl))
    all_goals (try ((show (_ : Nat) ≤ _); (simp <;> omega)))
    all_goals (try ((show (_ : Nat) ≤ _ ∧ (_ : Nat) ≤ _); (simp <;> omega)))
    all_goals (try ((show (_ : Int) ≤ _ ∧ (_ : Int) ≤ _ ∧ (_ : Int) ≤ _ ∧ (_ : Int) ≤ _); (simp <;> omega)))
    · rename_i hl _ hb
      have hb1 : leB (s.getD p 0) = false := by
        rw [Bool.eq_false_iff]
        intro hc
        have := (dec_le s p).2 hc
        have h2 : decide (((decL s p).1 : Int) ≤ 32) = true := decide_eq_true (by have : (decL s p).1 ≤ 32 := this; omega)
        rw [h2] at hb; cases hb
      obtain ⟨e1, e2⟩ := tw_len s p hl hp2 hb1
      rw [idxL, e2, e1]; rfl
    · rename_i hl _ hb
      have hb0 : decide (((decL s p).1 : Int) ≤ 32) = true := by simpa using hb
      have hb1 : leB (s.getD p 0) = true := (dec_le s p).1 (by have h3 := of_decide_eq_true hb0; show (decL s p).1 ≤ 32; omega)
      have hw : (decL s p).2 = 1 := dec_w1 s p hb1
      refine Rnd.mk ⟨p + 1, ⟨by omega, fun j hj => ?_⟩, by omega, ?_⟩
      · by_cases h4 : j < p
        · exact hp2 j h4
        · have : j = p := by omega
          subst this; exact hb1
      · repeat' ((conv => whnf); first | (with_reducible rfl) | exact True.intro | (with_reducible exact absTF) | (with_reducible exact absFT) | intro _ | refine And.intro ?_ ?_ | refine Fin.mk ?_ | refine CallG.plain rfl ?_ ?_ | refine CallG.mk rfl ?_ ?_ | refine CallG.nwl rfl ?_ ?_ | refine CallG.nw ?_ ?_ | refine CallF.nwl rfl ?_ ?_ | refine CallF.nw ?_ ?_ | refine AppN.mk ?_ | (refine CallS.q ?_; (conv => whnf); first | refine CallG.plain rfl ?_ ?_ | refine CallG.mk rfl ?_ ?_) | (refine CallS.m ?_; (conv => whnf); refine CallM.mk rfl ?_ ?_) | (refine CallS.h ?_; (conv => whnf); refine CallM.mk rfl ?_ ?_) | (refine CallS.b ?_; (conv => whnf); refine CallM.mk rfl ?_ ?_) | (refine CallS.z ?_; (conv => whnf); refine CallM.mk rfl ?_ ?_))
        all_goals (try (conv => whnf))
        all_goals (try (exact Ob.mk (u8_bnd _)))
        all_goals (try (refine Ob.mk ?_; first | exact True.intro | assumption | omega | (try simp only [decide_eq_true_eq, decide_eq_false_iff_not, beq_iff_eq, beq_eq_false_iff_ne, bne_iff_ne, bne_eq_false_iff_eq, ne_eq, Bool.and_eq_true, Bool.or_eq_true, Bool.not_eq_true, Bool.not_eq_false, Bool.not_eq_true', Bool.not_eq_false', Int.toNat_natCast, Int.not_lt, Int.not_le, UInt8.ofNat_toNat, cast_eq] at *; omega)))
        all_goals (try ((show (_:Int) = _); omega))
        all_goals (try (show tupSV _ = _; with_unfolding_all rfl))
        all_goals (try ((show (_ : Nat) ≤ _); (simp <;> omega)))
        all_goals (try ((show (_ : Nat) ≤ _ ∧ (_ : Nat) ≤ _); (simp <;> omega)))
        all_goals (try ((show (_ : Int) ≤ _ ∧ (_ : Int) ≤ _ ∧ (_ : Int) ≤ _ ∧ (_ : Int) ≤ _); (simp <;> omega)))
        all_goals (rw [hw])
    · rename_i hl _
      have : p = s.length := by omega
      subst this
      rw [idxL, all_of s hp2]; rfl
instance lTL (s : List UInt8) : Fn BB 101 [.str s, .fn 61 []] (s.length ≤ 100000) (.str (trL s)) := by
  refine Fn.intro (N := 14) [0, 1, 4, 5, 10] [] Tryd.call101 Tryd.func101 rfl rfl (by kernel_rfl) (fun hpre => ?_)
  have hx := trL_idx s
  repeat' ((conv => whnf); first | (with_reducible rfl) | exact True.intro | (with_reducible exact absTF) | (with_reducible exact absFT) | intro _ | refine And.intro ?_ ?_ | refine Fin.mk ?_ | refine CallG.plain rfl ?_ ?_ | refine CallG.mk rfl ?_ ?_ | refine CallG.nwl rfl ?_ ?_ | refine CallG.nw ?_ ?_ | refine CallF.nwl rfl ?_ ?_ | refine CallF.nw ?_ ?_ | refine AppN.mk ?_ | (refine CallS.q ?_; (conv => whnf); first | refine CallG.plain rfl ?_ ?_ | refine CallG.mk rfl ?_ ?_) | (refine CallS.m ?_; (conv => whnf); refine CallM.mk rfl ?_ ?_) | (refine CallS.h ?_; (conv => whnf); refine CallM.mk rfl ?_ ?_) | (refine CallS.b ?_; (conv => whnf); refine CallM.mk rfl ?_ ?_) | (refine CallS.z ?_; (conv => whnf); refine CallM.mk rfl ?_ ?_))
  all_goals (try (conv => whnf))
  all_goals (try (exact Ob.mk (u8_bnd _)))
  all_goals (try (refine Ob.mk ?_; first | exact True.intro | assumption | omega | (try simp only [decide_eq_true_eq, decide_eq_false_iff_not, beq_iff_eq, beq_eq_false_iff_ne, bne_iff_ne, bne_eq_false_iff_eq, ne_eq, Bool.and_eq_true, Bool.or_eq_true, Bool.not_eq_true, Bool.not_eq_false, Bool.not_eq_true', Bool.not_eq_false', Int.toNat_natCast, Int.not_lt, Int.not_le, UInt8.ofNat_toNat, cast_eq] at *; omega)))
  all_goals (try ((show (_:Int) = _); omega))
  all_goals (try (show tupSV _ = _; with_unfolding_all rfl))
  all_goals (try ((show (_ : Nat) ≤ _); (simp <;> omega)))
  all_goals (try ((show (_ : Nat) ≤ _ ∧ (_ : Nat) ≤ _); (simp <;> omega)))
  all_goals (try ((show (_ : Int) ≤ _ ∧ (_ : Int) ≤ _ ∧ (_ : Int) ≤ _ ∧ (_ : Int) ≤ _); (simp <;> omega)))
  all_goals (rcases hx with ⟨hx, hx2⟩ | ⟨p, hx, hx1, hx2⟩)
  · rw [hx2]
  · rename_i h; rw [hx] at h; simp at h
  · rename_i h; rw [hx] at h; simp at h
  · rw [hx]; constructor <;> omega
  · rename_i h; rw [hx] at h; simp at h
  · rw [hx, hx2]; simp
instance lLix (s : List UInt8) : Fn BB 128 [.str s, .fn 61 [], .bool false] (s.length ≤ 100000) (.int .i64 (lixL s)) := by
  refine Fn.intro (N := 30) [0, 1, 2, 6, 7, 8, 9, 13, 28] [] Tryd.call128 Tryd.func128 rfl rfl (by kernel_rfl) (fun hpre => ?_)
  repeat' ((conv => whnf); first | (with_reducible rfl) | exact True.intro | (with_reducible exact absTF) | (with_reducible exact absFT) | intro _ | refine And.intro ?_ ?_ | refine Fin.mk ?_ | refine CallG.plain rfl ?_ ?_ | refine CallG.mk rfl ?_ ?_ | refine CallG.nwl rfl ?_ ?_ | refine CallG.nw ?_ ?_ | refine CallF.nwl rfl ?_ ?_ | refine CallF.nw ?_ ?_ | refine AppN.mk ?_ | (refine CallS.q ?_; (conv => whnf); first | refine CallG.plain rfl ?_ ?_ | refine CallG.mk rfl ?_ ?_) | (refine CallS.m ?_; (conv => whnf); refine CallM.mk rfl ?_ ?_) | (refine CallS.h ?_; (conv => whnf); refine CallM.mk rfl ?_ ?_) | (refine CallS.b ?_; (conv => whnf); refine CallM.mk rfl ?_ ?_) | (refine CallS.z ?_; (conv => whnf); refine CallM.mk rfl ?_ ?_))
  all_goals (try (conv => whnf))
  all_goals (try (exact Ob.mk (u8_bnd _)))
  all_goals (try (refine Ob.mk ?_; first | exact True.intro | assumption | omega | (try simp only [decide_eq_true_eq, decide_eq_false_iff_not, beq_iff_eq, beq_eq_false_iff_ne, bne_iff_ne, bne_eq_false_iff_eq, ne_eq, Bool.and_eq_true, Bool.or_eq_true, Bool.not_eq_true, Bool.not_eq_false, Bool.not_eq_true', Bool.not_eq_false', Int.toNat_natCast, Int.not_lt, Int.not_le, UInt8.ofNat_toNat, cast_eq] at *; omega)))
  all_goals (try ((show (_:Int) = _); omega))
  all_goals (try (show tupSV _ = _; with_unfolding_all rfl))
  all_goals (try ((show (_ : Nat) ≤ _); (simp <;> omega)))
  all_goals (try ((show (_ : Nat) ≤ _ ∧ (_ : Nat) ≤ _); (simp <;> omega)))
  all_goals (try ((show (_ : Int) ≤ _ ∧ (_ : Int) ≤ _ ∧ (_ : Int) ≤ _ ∧ (_ : Int) ≤ _); (simp <;> omega)))
  refine LoopStop.mk (α := Nat) (fun i => [(7, .int .i64 i)]) (fun p => []) 20 (fun i => i ≤ s.length ∧ trR s = trR (s.take i)) (fun i => i) s.length ⟨by simp, by rw [List.take_length]⟩ ?_ (fun i hi => ?_)
  · repeat' ((conv => whnf); first | (with_reducible rfl) | exact True.intro | (with_reducible exact absTF) | (with_reducible exact absFT) | intro _ | refine And.intro ?_ ?_ | refine Fin.mk ?_ | refine CallG.plain rfl ?_ ?_ | refine CallG.mk rfl ?_ ?_ | refine CallG.nwl rfl ?_ ?_ | refine CallG.nw ?_ ?_ | refine CallF.nwl rfl ?_ ?_ | refine CallF.nw ?_ ?_ | refine AppN.mk ?_ | (refine CallS.q ?_; (conv => whnf); first | refine CallG.plain rfl ?_ ?_ | refine CallG.mk rfl ?_ ?_) | (refine CallS.m ?_; (conv => whnf); refine CallM.mk rfl ?_ ?_) | (refine CallS.h ?_; (conv => whnf); refine CallM.mk rfl ?_ ?_) | (refine CallS.b ?_; (conv => whnf); refine CallM.mk rfl ?_ ?_) | (refine CallS.z ?_; (conv => whnf); refine CallM.mk rfl ?_ ?_))
    all_goals (try (conv => whnf))
    all_goals (try (exact Ob.mk (u8_bnd _)))
    all_goals (try (refine Ob.mk ?_; first | exact True.intro | assumption | omega | (try simp only [decide_eq_true_eq, decide_eq_false_iff_not, beq_iff_eq, beq_eq_false_iff_ne, bne_iff_ne, bne_eq_false_iff_eq, ne_eq, Bool.and_eq_true, Bool.or_eq_true, Bool.not_eq_true, Bool.not_eq_false, Bool.not_eq_true', Bool.not_eq_false', Int.toNat_natCast, Int.not_lt, Int.not_le, UInt8.ofNat_toNat, cast_eq] at *; omega)))
    all_goals (try ((show (_:Int) = _); omega))
    all_goals (try (show tupSV _ = _; with_unfolding_all rfl))
    all_goals (try ((show (_ : Nat) ≤ _); (simp <;> omega)))
    all_goals (try ((show (_ : Nat) ≤ _ ∧ (_ : Nat) ≤ _); (simp <;> omega)))
    all_goals (try ((show (_ : Int) ≤ _ ∧ (_ : Int) ≤ _ ∧ (_ : Int) ≤ _ ∧ (_ : Int) ≤ _); (simp <;> omega)))
  · obtain ⟨hi1, hi2⟩ := hi
    have hln := fun h : i ≠ 0 => last_le (s.take i) (by intro h0; have := congrArg List.length h0; rw [List.length_take] at this; simp only [List.length_nil] at this; omega)
    have hlw := fun h : i ≠ 0 => Lib.decodeLastL_width (s.take i) (by simp; omega)
    repeat' ((conv => whnf); first | (with_reducible rfl) | exact True.intro | (with_reducible exact absTF) | (with_reducible exact absFT) | intro _ | refine And.intro ?_ ?_ | refine Fin.mk ?_ | refine CallG.plain rfl ?_ ?_ | refine CallG.mk rfl ?_ ?_ | refine CallG.nwl rfl ?_ ?_ | refine CallG.nw ?_ ?_ | refine CallF.nwl rfl ?_ ?_ | refine CallF.nw ?_ ?_ | refine AppN.mk ?_ | (refine CallS.q ?_; (conv => whnf); first | refine CallG.plain rfl ?_ ?_ | refine CallG.mk rfl ?_ ?_) | (refine CallS.m ?_; (conv => whnf); refine CallM.mk rfl ?_ ?_) | (refine CallS.h ?_; (conv => whnf); refine CallM.mk rfl ?_ ?_) | (refine CallS.b ?_; (conv => whnf); refine CallM.mk rfl ?_ ?_) | (refine CallS.z ?_; (conv => whnf); refine CallM.mk rfl ?_ ?_))
    all_goals (try (conv => whnf))
    all_goals (try (exact Ob.mk (u8_bnd _)))
    all_goals (try (refine Ob.mk ?_; first | exact True.intro | assumption | omega | (try simp only [decide_eq_true_eq, decide_eq_false_iff_not, beq_iff_eq, beq_eq_false_iff_ne, bne_iff_ne, bne_eq_false_iff_eq, ne_eq, Bool.and_eq_true, Bool.or_eq_true, Bool.not_eq_true, Bool.not_eq_false, Bool.not_eq_true', Bool.not_eq_false', Int.toNat_natCast, Int.not_lt, Int.not_le, UInt8.ofNat_toNat, cast_eq] at *; omega)))
    all_goals (try ((show (_:Int) = _); omega))
    all_goals (try (show tupSV _ = _; with_unfolding_all rfl))
    all_goals (try ((show (_ : Nat) ≤ _); (simp <;> omega)))
    all_goals (try ((show (_ : Nat) ≤ _ ∧ (_ : Nat) ≤ _); (simp <;> omega)))
    all_goals (try ((show (_ : Int) ≤ _ ∧ (_ : Int) ≤ _ ∧ (_ : Int) ≤ _ ∧ (_ : Int) ≤ _); (simp <;> omega)))
    all_goals (try simp only [Int.toNat_natCast, Int.reduceToNat, List.drop_zero] at *)
    · have := hlw (by have := of_decide_eq_true ‹decide ((i : Int) > 0) = true›; omega)
      rw [List.length_take] at this
      constructor <;> omega
    · rename_i hi hb
      obtain ⟨k, rfl⟩ : ∃ k, i = k + 1 := ⟨i - 1, by have := of_decide_eq_true hi; omega⟩
      obtain ⟨q1, q2⟩ := hln (by omega)
      have e : (s.take (k + 1)).getD ((s.take (k + 1)).length - 1) 0 = s.getD k 0 := by
        have : (s.take (k + 1)).length - 1 = k := by rw [List.length_take]; omega
        rw [this]; simp [List.getD, List.getElem?_take]
      rw [e] at q1 q2
      have hb1 : leB (s.getD k 0) = false := by
        rw [Bool.eq_false_iff]
        intro hc
        have h2 : decide (((Lib.decodeLastL (s.take (k + 1))).1 : Int) ≤ 32) = true := decide_eq_true (by have := q1.2 hc; omega)
        rw [h2] at hb; cases hb
      have ht : trR s = s.take (k + 1) := by rw [hi2, trR_take s k (by omega), hb1]; rfl
      have hne : s.take (k + 1) ≠ [] := by intro h0; have := congrArg List.length h0; rw [List.length_take] at this; simp only [List.length_nil] at this; omega
      unfold lixL
      rw [ht, if_neg hne, List.length_take]
      omega
    · rename_i hi hb
      obtain ⟨k, rfl⟩ : ∃ k, i = k + 1 := ⟨i - 1, by have := of_decide_eq_true hi; omega⟩
      obtain ⟨q1, q2⟩ := hln (by omega)
      have e : (s.take (k + 1)).getD ((s.take (k + 1)).length - 1) 0 = s.getD k 0 := by
        have : (s.take (k + 1)).length - 1 = k := by rw [List.length_take]; omega
        rw [this]; simp [List.getD, List.getElem?_take]
      rw [e] at q1 q2
      have hb0 : decide (((Lib.decodeLastL (s.take (k + 1))).1 : Int) ≤ 32) = true := by simpa using hb
      have hb1 : leB (s.getD k 0) = true := q1.1 (by have := of_decide_eq_true hb0; omega)
      refine Rnd.mk ⟨k, ⟨by omega, by rw [hi2, trR_take s k (by omega), hb1]; rfl⟩, by omega, ?_⟩
      have hw := q2 hb1
      repeat' ((conv => whnf); first | (with_reducible rfl) | exact True.intro | (with_reducible exact absTF) | (with_reducible exact absFT) | intro _ | refine And.intro ?_ ?_ | refine Fin.mk ?_ | refine CallG.plain rfl ?_ ?_ | refine CallG.mk rfl ?_ ?_ | refine CallG.nwl rfl ?_ ?_ | refine CallG.nw ?_ ?_ | refine CallF.nwl rfl ?_ ?_ | refine CallF.nw ?_ ?_ | refine AppN.mk ?_ | (refine CallS.q ?_; (conv => whnf); first | refine CallG.plain rfl ?_ ?_ | refine CallG.mk rfl ?_ ?_) | (refine CallS.m ?_; (conv => whnf); refine CallM.mk rfl ?_ ?_) | (refine CallS.h ?_; (conv => whnf); refine CallM.mk rfl ?_ ?_) | (refine CallS.b ?_; (conv => whnf); refine CallM.mk rfl ?_ ?_) | (refine CallS.z ?_; (conv => whnf); refine CallM.mk rfl ?_ ?_))
      all_goals (try (conv => whnf))
      all_goals (try (exact Ob.mk (u8_bnd _)))
      all_goals (try (refine Ob.mk ?_; first | exact True.intro | assumption | omega | (try simp only [decide_eq_true_eq, decide_eq_false_iff_not, beq_iff_eq, beq_eq_false_iff_ne, bne_iff_ne, bne_eq_false_iff_eq, ne_eq, Bool.and_eq_true, Bool.or_eq_true, Bool.not_eq_true, Bool.not_eq_false, Bool.not_eq_true', Bool.not_eq_false', Int.toNat_natCast, Int.not_lt, Int.not_le, UInt8.ofNat_toNat, cast_eq] at *; omega)))
      all_goals (try ((show (_:Int) = _); omega))
      all_goals (try (show tupSV _ = _; with_unfolding_all rfl))
      all_goals (try ((show (_ : Nat) ≤ _); (simp <;> omega)))
      all_goals (try ((show (_ : Nat) ≤ _ ∧ (_ : Nat) ≤ _); (simp <;> omega)))
      all_goals (try ((show (_ : Int) ≤ _ ∧ (_ : Int) ≤ _ ∧ (_ : Int) ≤ _ ∧ (_ : Int) ≤ _); (simp <;> omega)))
      all_goals (show ((k + 1 : Nat) : Int) - ((Lib.decodeLastL (s.take (k + 1))).2 : Int) = (k : Int); rw [hw]; omega)
    · rename_i hi
      have : i = 0 := by have := of_decide_eq_false hi; omega
      subst this
      unfold lixL
      rw [hi2]; rfl
instance lTR (s : List UInt8) : Fn BB 100 [.str s, .fn 61 []] (s.length ≤ 100000) (.str (trR s)) := by
  refine Fn.intro (N := 28) [0, 1, 4, 5, 7, 12] [] Tryd.call100 Tryd.func100 rfl rfl (by kernel_rfl) (fun hpre => ?_)
  by_cases h : trR s = []
  · have e : lixL s = -1 := by unfold lixL; rw [if_pos h]
    rw [h]
    repeat' ((conv => whnf); first | (with_reducible rfl) | exact True.intro | (with_reducible exact absTF) | (with_reducible exact absFT) | intro _ | refine And.intro ?_ ?_ | refine Fin.mk ?_ | refine CallG.plain rfl ?_ ?_ | refine CallG.mk rfl ?_ ?_ | refine CallG.nwl rfl ?_ ?_ | refine CallG.nw ?_ ?_ | refine CallF.nwl rfl ?_ ?_ | refine CallF.nw ?_ ?_ | refine AppN.mk ?_ | (refine CallS.q ?_; (conv => whnf); first | refine CallG.plain rfl ?_ ?_ | refine CallG.mk rfl ?_ ?_) | (refine CallS.m ?_; (conv => whnf); refine CallM.mk rfl ?_ ?_) | (refine CallS.h ?_; (conv => whnf); refine CallM.mk rfl ?_ ?_) | (refine CallS.b ?_; (conv => whnf); refine CallM.mk rfl ?_ ?_) | (refine CallS.z ?_; (conv => whnf); refine CallM.mk rfl ?_ ?_))
    all_goals (try (conv => whnf))
    all_goals (try (exact Ob.mk (u8_bnd _)))
    all_goals (try (refine Ob.mk ?_; first | exact True.intro | assumption | omega | (try simp only [decide_eq_true_eq, decide_eq_false_iff_not, beq_iff_eq, beq_eq_false_iff_ne, bne_iff_ne, bne_eq_false_iff_eq, ne_eq, Bool.and_eq_true, Bool.or_eq_true, Bool.not_eq_true, Bool.not_eq_false, Bool.not_eq_true', Bool.not_eq_false', Int.toNat_natCast, Int.not_lt, Int.not_le, UInt8.ofNat_toNat, cast_eq] at *; omega)))
    all_goals (try ((show (_:Int) = _); omega))
    all_goals (try (show tupSV _ = _; with_unfolding_all rfl))
    all_goals (try ((show (_ : Nat) ≤ _); (simp <;> omega)))
    all_goals (try ((show (_ : Nat) ≤ _ ∧ (_ : Nat) ≤ _); (simp <;> omega)))
    all_goals (try ((show (_ : Int) ≤ _ ∧ (_ : Int) ≤ _ ∧ (_ : Int) ≤ _ ∧ (_ : Int) ≤ _); (simp <;> omega)))
    all_goals (try (exfalso; have hh : decide (lixL s ≥ 0) = true := ‹_›; rw [e] at hh; cases hh))
    all_goals (rw [e])
    all_goals (first | rfl | (constructor <;> omega) | (refine ⟨?_, ?_, ?_⟩ <;> omega) | (simp))
  · obtain ⟨h1, h2, h3, h4, h5⟩ := trR_end s h
    have hl : (trR s).length ≤ s.length := by have := congrArg List.length h4; rw [List.length_take] at this; omega
    repeat' ((conv => whnf); first | (with_reducible rfl) | exact True.intro | (with_reducible exact absTF) | (with_reducible exact absFT) | intro _ | refine And.intro ?_ ?_ | refine Fin.mk ?_ | refine CallG.plain rfl ?_ ?_ | refine CallG.mk rfl ?_ ?_ | refine CallG.nwl rfl ?_ ?_ | refine CallG.nw ?_ ?_ | refine CallF.nwl rfl ?_ ?_ | refine CallF.nw ?_ ?_ | refine AppN.mk ?_ | (refine CallS.q ?_; (conv => whnf); first | refine CallG.plain rfl ?_ ?_ | refine CallG.mk rfl ?_ ?_) | (refine CallS.m ?_; (conv => whnf); refine CallM.mk rfl ?_ ?_) | (refine CallS.h ?_; (conv => whnf); refine CallM.mk rfl ?_ ?_) | (refine CallS.b ?_; (conv => whnf); refine CallM.mk rfl ?_ ?_) | (refine CallS.z ?_; (conv => whnf); refine CallM.mk rfl ?_ ?_))
    all_goals (try (conv => whnf))
    all_goals (try (exact Ob.mk (u8_bnd _)))
    all_goals (try (refine Ob.mk ?_; first | exact True.intro | assumption | omega | (try simp only [decide_eq_true_eq, decide_eq_false_iff_not, beq_iff_eq, beq_eq_false_iff_ne, bne_iff_ne, bne_eq_false_iff_eq, ne_eq, Bool.and_eq_true, Bool.or_eq_true, Bool.not_eq_true, Bool.not_eq_false, Bool.not_eq_true', Bool.not_eq_false', Int.toNat_natCast, Int.not_lt, Int.not_le, UInt8.ofNat_toNat, cast_eq] at *; omega)))
    all_goals (try ((show (_:Int) = _); omega))
    all_goals (try (show tupSV _ = _; with_unfolding_all rfl))
    all_goals (try ((show (_ : Nat) ≤ _); (simp <;> omega)))
    all_goals (try ((show (_ : Nat) ≤ _ ∧ (_ : Nat) ≤ _); (simp <;> omega)))
    all_goals (try ((show (_ : Int) ≤ _ ∧ (_ : Int) ≤ _ ∧ (_ : Int) ≤ _ ∧ (_ : Int) ≤ _); (simp <;> omega)))
    all_goals (try (exfalso; have hh := of_decide_eq_false ‹decide (lixL s ≥ 0) = false›; exact hh h1))
    all_goals (rw [h3]; exact h4)
instance lTF (s : List UInt8) : Fn BB 60 [.str s, .fn 61 []] (s.length ≤ 100000) (.str (trR (trL s))) := by
  refine Fn.intro (N := 10) [0, 1, 4] [] Tryd.call60 Tryd.func60 rfl rfl (by kernel_rfl) (fun hpre => ?_)
  have hl : (trL s).length ≤ s.length := (List.dropWhile_suffix leB).length_le
  repeat' ((conv => whnf); first | (with_reducible rfl) | exact True.intro | (with_reducible exact absTF) | (with_reducible exact absFT) | intro _ | refine And.intro ?_ ?_ | refine Fin.mk ?_ | refine CallG.plain rfl ?_ ?_ | refine CallG.mk rfl ?_ ?_ | refine CallG.nwl rfl ?_ ?_ | refine CallG.nw ?_ ?_ | refine CallF.nwl rfl ?_ ?_ | refine CallF.nw ?_ ?_ | refine AppN.mk ?_ | (refine CallS.q ?_; (conv => whnf); first | refine CallG.plain rfl ?_ ?_ | refine CallG.mk rfl ?_ ?_) | (refine CallS.m ?_; (conv => whnf); refine CallM.mk rfl ?_ ?_) | (refine CallS.h ?_; (conv => whnf); refine CallM.mk rfl ?_ ?_) | (refine CallS.b ?_; (conv => whnf); refine CallM.mk rfl ?_ ?_) | (refine CallS.z ?_; (conv => whnf); refine CallM.mk rfl ?_ ?_))
  all_goals (try (conv => whnf))
  all_goals (try (exact Ob.mk (u8_bnd _)))
  all_goals (try (refine Ob.mk ?_; first | exact True.intro | assumption | omega | (try simp only [decide_eq_true_eq, decide_eq_false_iff_not, beq_iff_eq, beq_eq_false_iff_ne, bne_iff_ne, bne_eq_false_iff_eq, ne_eq, Bool.and_eq_true, Bool.or_eq_true, Bool.not_eq_true, Bool.not_eq_false, Bool.not_eq_true', Bool.not_eq_false', Int.toNat_natCast, Int.not_lt, Int.not_le, UInt8.ofNat_toNat, cast_eq] at *; omega)))
  all_goals (try ((show (_:Int) = _); omega))
  all_goals (try (show tupSV _ = _; with_unfolding_all rfl))
  all_goals (try ((show (_ : Nat) ≤ _); (simp <;> omega)))
  all_goals (try ((show (_ : Nat) ≤ _ ∧ (_ : Nat) ≤ _); (simp <;> omega)))
  all_goals (try ((show (_ : Int) ≤ _ ∧ (_ : Int) ≤ _ ∧ (_ : Int) ≤ _ ∧ (_ : Int) ≤ _); (simp <;> omega)))
theorem filt_step (s : List UInt8) (i : Nat) (h : i < s.length) : (s.take (i + 1)).filter okC = (s.take i).filter okC ++ (if okC (s.getD i 0) then [s.getD i 0] else []) := by
  rw [List.take_succ_eq_append_getElem h, List.filter_append]
  have : s.getD i 0 = s[i] := by simp [List.getD, List.getElem?_eq_getElem h]
  rw [this]
  by_cases hc : okC s[i] = true
  · rw [if_pos hc]; simp [List.filter_cons, hc]
  · rw [if_neg hc]; simp [List.filter_cons, hc]
theorem u8b (c : UInt8) (k : Nat) (hk : k < 256) : ((c.toNat : Int) == (k : Int)) = (c == UInt8.ofNat k) := by
  rw [Bool.eq_iff_iff, beq_iff_eq, beq_iff_eq]
  constructor
  · intro h; apply UInt8.toNat_inj.1; rw [UInt8.toNat_ofNat']; omega
  · rintro rfl; rw [UInt8.toNat_ofNat']; omega
theorem k9 (c : UInt8) : ((c.toNat : Int) == 9) = (c == 9) := u8b c 9 (by decide)
theorem k10 (c : UInt8) : ((c.toNat : Int) == 10) = (c == 10) := u8b c 10 (by decide)
theorem k13 (c : UInt8) : ((c.toNat : Int) == 13) = (c == 13) := u8b c 13 (by decide)
instance lBare (s : List UInt8) : Fn BB 18 [.str s] (s.length ≤ 100000) (.str (bareL s)) := by
  refine Fn.intro (N := 27) [0, 2, 3, 5, 9, 10, 11, 12, 15, 20] [] Tryd.call18 Tryd.func18 rfl rfl (by kernel_rfl) (fun hpre => ?_)
  have hl1 : (trL s).length ≤ s.length := (List.dropWhile_suffix leB).length_le
  have hl2 : (trR (trL s)).length ≤ (trL s).length := by obtain ⟨u, hu, _⟩ := trR_split (trL s); have := congrArg List.length hu; rw [List.length_append] at this; omega
  unfold bareL
  generalize ht : trR (trL s) = t at *
  repeat' ((conv => whnf); first | (with_reducible rfl) | exact True.intro | (with_reducible exact absTF) | (with_reducible exact absFT) | intro _ | refine And.intro ?_ ?_ | refine Fin.mk ?_ | refine CallG.plain rfl ?_ ?_ | refine CallG.mk rfl ?_ ?_ | refine CallG.nwl rfl ?_ ?_ | refine CallG.nw ?_ ?_ | refine CallF.nwl rfl ?_ ?_ | refine CallF.nw ?_ ?_ | refine AppN.mk ?_ | (refine CallS.q ?_; (conv => whnf); first | refine CallG.plain rfl ?_ ?_ | refine CallG.mk rfl ?_ ?_) | (refine CallS.m ?_; (conv => whnf); refine CallM.mk rfl ?_ ?_) | (refine CallS.h ?_; (conv => whnf); refine CallM.mk rfl ?_ ?_) | (refine CallS.b ?_; (conv => whnf); refine CallM.mk rfl ?_ ?_) | (refine CallS.z ?_; (conv => whnf); refine CallM.mk rfl ?_ ?_))
  all_goals (try (conv => whnf))
  all_goals (try (exact Ob.mk (u8_bnd _)))
  all_goals (try (refine Ob.mk ?_; first | exact True.intro | assumption | omega | (try simp only [decide_eq_true_eq, decide_eq_false_iff_not, beq_iff_eq, beq_eq_false_iff_ne, bne_iff_ne, bne_eq_false_iff_eq, ne_eq, Bool.and_eq_true, Bool.or_eq_true, Bool.not_eq_true, Bool.not_eq_false, Bool.not_eq_true', Bool.not_eq_false', Int.toNat_natCast, Int.not_lt, Int.not_le, UInt8.ofNat_toNat, cast_eq] at *; omega)))
  all_goals (try ((show (_:Int) = _); omega))
  all_goals (try (show tupSV _ = _; with_unfolding_all rfl))
  all_goals (try ((show (_ : Nat) ≤ _); (simp <;> omega)))
  all_goals (try ((show (_ : Nat) ≤ _ ∧ (_ : Nat) ≤ _); (simp <;> omega)))
  all_goals (try ((show (_ : Int) ≤ _ ∧ (_ : Int) ≤ _ ∧ (_ : Int) ≤ _ ∧ (_ : Int) ≤ _); (simp <;> omega)))
  rw [ht]
  refine LoopStop.mk (α := Nat) (fun i => [(11, .int .i64 i), (3, .own 1)]) (fun i => [(1, .own .byte ((t.take i).filter okC))]) 20 (fun i => i ≤ t.length) (fun i => t.length + 1 - i) 0 (by simp) ?_ (fun i hi => ?_)
  · repeat' ((conv => whnf); first | (with_reducible rfl) | exact True.intro | (with_reducible exact absTF) | (with_reducible exact absFT) | intro _ | refine And.intro ?_ ?_ | refine Fin.mk ?_ | refine CallG.plain rfl ?_ ?_ | refine CallG.mk rfl ?_ ?_ | refine CallG.nwl rfl ?_ ?_ | refine CallG.nw ?_ ?_ | refine CallF.nwl rfl ?_ ?_ | refine CallF.nw ?_ ?_ | refine AppN.mk ?_ | (refine CallS.q ?_; (conv => whnf); first | refine CallG.plain rfl ?_ ?_ | refine CallG.mk rfl ?_ ?_) | (refine CallS.m ?_; (conv => whnf); refine CallM.mk rfl ?_ ?_) | (refine CallS.h ?_; (conv => whnf); refine CallM.mk rfl ?_ ?_) | (refine CallS.b ?_; (conv => whnf); refine CallM.mk rfl ?_ ?_) | (refine CallS.z ?_; (conv => whnf); refine CallM.mk rfl ?_ ?_))
    all_goals (try (conv => whnf))
    all_goals (try (exact Ob.mk (u8_bnd _)))
    all_goals (try (refine Ob.mk ?_; first | exact True.intro | assumption | omega | (try simp only [decide_eq_true_eq, decide_eq_false_iff_not, beq_iff_eq, beq_eq_false_iff_ne, bne_iff_ne, bne_eq_false_iff_eq, ne_eq, Bool.and_eq_true, Bool.or_eq_true, Bool.not_eq_true, Bool.not_eq_false, Bool.not_eq_true', Bool.not_eq_false', Int.toNat_natCast, Int.not_lt, Int.not_le, UInt8.ofNat_toNat, cast_eq] at *; omega)))
    all_goals (try ((show (_:Int) = _); omega))
    all_goals (try (show tupSV _ = _; with_unfolding_all rfl))
    all_goals (try ((show (_ : Nat) ≤ _); (simp <;> omega)))
    all_goals (try ((show (_ : Nat) ≤ _ ∧ (_ : Nat) ≤ _); (simp <;> omega)))
    all_goals (try ((show (_ : Int) ≤ _ ∧ (_ : Int) ≤ _ ∧ (_ : Int) ≤ _ ∧ (_ : Int) ≤ _); (simp <;> omega)))
    all_goals rfl
  · have key : ∀ c : UInt8, okC c = !((c.toNat : Int) == 9 || ((c.toNat : Int) == 10 || (c.toNat : Int) == 13)) := fun c => by rw [k9, k10, k13]; rfl
    repeat' ((conv => whnf); first | (with_reducible rfl) | exact True.intro | (with_reducible exact absTF) | (with_reducible exact absFT) | intro _ | refine And.intro ?_ ?_ | refine Fin.mk ?_ | refine CallG.plain rfl ?_ ?_ | refine CallG.mk rfl ?_ ?_ | refine CallG.nwl rfl ?_ ?_ | refine CallG.nw ?_ ?_ | refine CallF.nwl rfl ?_ ?_ | refine CallF.nw ?_ ?_ | refine AppN.mk ?_ | (refine CallS.q ?_; (conv => whnf); first | refine CallG.plain rfl ?_ ?_ | refine CallG.mk rfl ?_ ?_) | (refine CallS.m ?_; (conv => whnf); refine CallM.mk rfl ?_ ?_) | (refine CallS.h ?_; (conv => whnf); refine CallM.mk rfl ?_ ?_) | (refine CallS.b ?_; (conv => whnf); refine CallM.mk rfl ?_ ?_) | (refine CallS.z ?_; (conv => whnf); refine CallM.mk rfl ?_ ?_))
    all_goals (try (conv => whnf))
    all_goals (try (exact Ob.mk (u8_bnd _)))
    all_goals (try (refine Ob.mk ?_; first | exact True.intro | assumption | omega | (try simp only [decide_eq_true_eq, decide_eq_false_iff_not, beq_iff_eq, beq_eq_false_iff_ne, bne_iff_ne, bne_eq_false_iff_eq, ne_eq, Bool.and_eq_true, Bool.or_eq_true, Bool.not_eq_true, Bool.not_eq_false, Bool.not_eq_true', Bool.not_eq_false', Int.toNat_natCast, Int.not_lt, Int.not_le, UInt8.ofNat_toNat, cast_eq] at *; omega)))
    all_goals (try ((show (_:Int) = _); omega))
    all_goals (try (show tupSV _ = _; with_unfolding_all rfl))
    all_goals (try ((show (_ : Nat) ≤ _); (simp <;> omega)))
    all_goals (try ((show (_ : Nat) ≤ _ ∧ (_ : Nat) ≤ _); (simp <;> omega)))
    all_goals (try ((show (_ : Int) ≤ _ ∧ (_ : Int) ≤ _ ∧ (_ : Int) ≤ _ ∧ (_ : Int) ≤ _); (simp <;> omega)))
    all_goals (try simp only [Int.toNat_natCast, Ty.dflt] at *)
    all_goals (try (exfalso; simp_all; done))
    all_goals (try (have hfl : ((t.take i).filter okC).length ≤ 100000 := Nat.le_trans (List.length_filter_le _ _) (by rw [List.length_take]; omega)))
    all_goals (try (have hl := of_decide_eq_true ‹decide ((i : Int) < (t.length : Int)) = true›))
    all_goals (try (have hst := filt_step t i (by omega)))
    · rename_i h
      have hk : okC (t.getD i 0) = false := by rw [key, h]; rfl
      rw [hk] at hst
      refine Rnd.mk ⟨i + 1, by omega, by omega, ?_⟩
      repeat' ((conv => whnf); first | (with_reducible rfl) | exact True.intro | (with_reducible exact absTF) | (with_reducible exact absFT) | intro _ | refine And.intro ?_ ?_ | refine Fin.mk ?_ | refine CallG.plain rfl ?_ ?_ | refine CallG.mk rfl ?_ ?_ | refine CallG.nwl rfl ?_ ?_ | refine CallG.nw ?_ ?_ | refine CallF.nwl rfl ?_ ?_ | refine CallF.nw ?_ ?_ | refine AppN.mk ?_ | (refine CallS.q ?_; (conv => whnf); first | refine CallG.plain rfl ?_ ?_ | refine CallG.mk rfl ?_ ?_) | (refine CallS.m ?_; (conv => whnf); refine CallM.mk rfl ?_ ?_) | (refine CallS.h ?_; (conv => whnf); refine CallM.mk rfl ?_ ?_) | (refine CallS.b ?_; (conv => whnf); refine CallM.mk rfl ?_ ?_) | (refine CallS.z ?_; (conv => whnf); refine CallM.mk rfl ?_ ?_))
      all_goals (try (conv => whnf))
      all_goals (try (exact Ob.mk (u8_bnd _)))
      all_goals (try (refine Ob.mk ?_; first | exact True.intro | assumption | omega | (try simp only [decide_eq_true_eq, decide_eq_false_iff_not, beq_iff_eq, beq_eq_false_iff_ne, bne_iff_ne, bne_eq_false_iff_eq, ne_eq, Bool.and_eq_true, Bool.or_eq_true, Bool.not_eq_true, Bool.not_eq_false, Bool.not_eq_true', Bool.not_eq_false', Int.toNat_natCast, Int.not_lt, Int.not_le, UInt8.ofNat_toNat, cast_eq] at *; omega)))
      all_goals (try ((show (_:Int) = _); omega))
      all_goals (try (show tupSV _ = _; with_unfolding_all rfl))
      all_goals (try ((show (_ : Nat) ≤ _); (simp <;> omega)))
      all_goals (try ((show (_ : Nat) ≤ _ ∧ (_ : Nat) ≤ _); (simp <;> omega)))
      all_goals (try ((show (_ : Int) ≤ _ ∧ (_ : Int) ≤ _ ∧ (_ : Int) ≤ _ ∧ (_ : Int) ≤ _); (simp <;> omega)))
      all_goals (rw [hst]; simp)
    · rename_i h1 _ h
      have hk : okC (t.getD i 0) = false := by rw [key, h1, h]; rfl
      rw [hk] at hst
      refine Rnd.mk ⟨i + 1, by omega, by omega, ?_⟩
      repeat' ((conv => whnf); first | (with_reducible rfl) | exact True.intro | (with_reducible exact absTF) | (with_reducible exact absFT) | intro _ | refine And.intro ?_ ?_ | refine Fin.mk ?_ | refine CallG.plain rfl ?_ ?_ | refine CallG.mk rfl ?_ ?_ | refine CallG.nwl rfl ?_ ?_ | refine CallG.nw ?_ ?_ | refine CallF.nwl rfl ?_ ?_ | refine CallF.nw ?_ ?_ | refine AppN.mk ?_ | (refine CallS.q ?_; (conv => whnf); first | refine CallG.plain rfl ?_ ?_ | refine CallG.mk rfl ?_ ?_) | (refine CallS.m ?_; (conv => whnf); refine CallM.mk rfl ?_ ?_) | (refine CallS.h ?_; (conv => whnf); refine CallM.mk rfl ?_ ?_) | (refine CallS.b ?_; (conv => whnf); refine CallM.mk rfl ?_ ?_) | (refine CallS.z ?_; (conv => whnf); refine CallM.mk rfl ?_ ?_))
      all_goals (try (conv => whnf))
      all_goals (try (exact Ob.mk (u8_bnd _)))
      all_goals (try (refine Ob.mk ?_; first | exact True.intro | assumption | omega | (try simp only [decide_eq_true_eq, decide_eq_false_iff_not, beq_iff_eq, beq_eq_false_iff_ne, bne_iff_ne, bne_eq_false_iff_eq, ne_eq, Bool.and_eq_true, Bool.or_eq_true, Bool.not_eq_true, Bool.not_eq_false, Bool.not_eq_true', Bool.not_eq_false', Int.toNat_natCast, Int.not_lt, Int.not_le, UInt8.ofNat_toNat, cast_eq] at *; omega)))
      all_goals (try ((show (_:Int) = _); omega))
      all_goals (try (show tupSV _ = _; with_unfolding_all rfl))
      all_goals (try ((show (_ : Nat) ≤ _); (simp <;> omega)))
      all_goals (try ((show (_ : Nat) ≤ _ ∧ (_ : Nat) ≤ _); (simp <;> omega)))
      all_goals (try ((show (_ : Int) ≤ _ ∧ (_ : Int) ≤ _ ∧ (_ : Int) ≤ _ ∧ (_ : Int) ≤ _); (simp <;> omega)))
      all_goals (rw [hst]; simp)
    · rename_i h1 h2 h
      have hk : okC (t.getD i 0) = false := by rw [key, h1, h2, h]; rfl
      rw [hk] at hst
      refine Rnd.mk ⟨i + 1, by omega, by omega, ?_⟩
      repeat' ((conv => whnf); first | (with_reducible rfl) | exact True.intro | (with_reducible exact absTF) | (with_reducible exact absFT) | intro _ | refine And.intro ?_ ?_ | refine Fin.mk ?_ | refine CallG.plain rfl ?_ ?_ | refine CallG.mk rfl ?_ ?_ | refine CallG.nwl rfl ?_ ?_ | refine CallG.nw ?_ ?_ | refine CallF.nwl rfl ?_ ?_ | refine CallF.nw ?_ ?_ | refine AppN.mk ?_ | (refine CallS.q ?_; (conv => whnf); first | refine CallG.plain rfl ?_ ?_ | refine CallG.mk rfl ?_ ?_) | (refine CallS.m ?_; (conv => whnf); refine CallM.mk rfl ?_ ?_) | (refine CallS.h ?_; (conv => whnf); refine CallM.mk rfl ?_ ?_) | (refine CallS.b ?_; (conv => whnf); refine CallM.mk rfl ?_ ?_) | (refine CallS.z ?_; (conv => whnf); refine CallM.mk rfl ?_ ?_))
      all_goals (try (conv => whnf))
      all_goals (try (exact Ob.mk (u8_bnd _)))
      all_goals (try (refine Ob.mk ?_; first | exact True.intro | assumption | omega | (try simp only [decide_eq_true_eq, decide_eq_false_iff_not, beq_iff_eq, beq_eq_false_iff_ne, bne_iff_ne, bne_eq_false_iff_eq, ne_eq, Bool.and_eq_true, Bool.or_eq_true, Bool.not_eq_true, Bool.not_eq_false, Bool.not_eq_true', Bool.not_eq_false', Int.toNat_natCast, Int.not_lt, Int.not_le, UInt8.ofNat_toNat, cast_eq] at *; omega)))
      all_goals (try ((show (_:Int) = _); omega))
      all_goals (try (show tupSV _ = _; with_unfolding_all rfl))
      all_goals (try ((show (_ : Nat) ≤ _); (simp <;> omega)))
      all_goals (try ((show (_ : Nat) ≤ _ ∧ (_ : Nat) ≤ _); (simp <;> omega)))
      all_goals (try ((show (_ : Int) ≤ _ ∧ (_ : Int) ≤ _ ∧ (_ : Int) ≤ _ ∧ (_ : Int) ≤ _); (simp <;> omega)))
      all_goals (rw [hst]; simp)
    · simp; omega
    · rename_i h1 h2 h
      have hk : okC (t.getD i 0) = true := by rw [key, h1, h2, h]; rfl
      rw [hk] at hst
      refine Rnd.mk ⟨i + 1, by omega, by omega, ?_⟩
      repeat' ((conv => whnf); first | (with_reducible rfl) | exact True.intro | (with_reducible exact absTF) | (with_reducible exact absFT) | intro _ | refine And.intro ?_ ?_ | refine Fin.mk ?_ | refine CallG.plain rfl ?_ ?_ | refine CallG.mk rfl ?_ ?_ | refine CallG.nwl rfl ?_ ?_ | refine CallG.nw ?_ ?_ | refine CallF.nwl rfl ?_ ?_ | refine CallF.nw ?_ ?_ | refine AppN.mk ?_ | (refine CallS.q ?_; (conv => whnf); first | refine CallG.plain rfl ?_ ?_ | refine CallG.mk rfl ?_ ?_) | (refine CallS.m ?_; (conv => whnf); refine CallM.mk rfl ?_ ?_) | (refine CallS.h ?_; (conv => whnf); refine CallM.mk rfl ?_ ?_) | (refine CallS.b ?_; (conv => whnf); refine CallM.mk rfl ?_ ?_) | (refine CallS.z ?_; (conv => whnf); refine CallM.mk rfl ?_ ?_))
      all_goals (try (conv => whnf))
      all_goals (try (exact Ob.mk (u8_bnd _)))
      all_goals (try (refine Ob.mk ?_; first | exact True.intro | assumption | omega | (try simp only [decide_eq_true_eq, decide_eq_false_iff_not, beq_iff_eq, beq_eq_false_iff_ne, bne_iff_ne, bne_eq_false_iff_eq, ne_eq, Bool.and_eq_true, Bool.or_eq_true, Bool.not_eq_true, Bool.not_eq_false, Bool.not_eq_true', Bool.not_eq_false', Int.toNat_natCast, Int.not_lt, Int.not_le, UInt8.ofNat_toNat, cast_eq] at *; omega)))
      all_goals (try ((show (_:Int) = _); omega))
      all_goals (try (show tupSV _ = _; with_unfolding_all rfl))
      all_goals (try ((show (_ : Nat) ≤ _); (simp <;> omega)))
      all_goals (try ((show (_ : Nat) ≤ _ ∧ (_ : Nat) ≤ _); (simp <;> omega)))
      all_goals (try ((show (_ : Int) ≤ _ ∧ (_ : Int) ≤ _ ∧ (_ : Int) ≤ _ ∧ (_ : Int) ≤ _); (simp <;> omega)))
      all_goals (rw [hst]; simp)
    · have hl := of_decide_eq_false ‹decide ((i : Int) < (t.length : Int)) = false›
      have : i = t.length := by omega
      rw [this, List.take_length]
end Go.Vc

/-! Law 04, in plain Lean: what the references stand for, by the program's road and by the document's. -/
namespace Go.Vc
set_option autoImplicit false

/-- a character's bytes -/
def encN (n : Int) : List UInt8 := (Utf8.encode (if n < 0 ∨ n > 1114111 ∨ (55296 ≤ n ∧ n ≤ 57343) then 65533 else n)).data.toList
theorem encN_len (n : Int) : (encN n).length ≤ 4 := by
  unfold encN
  generalize (if n < 0 ∨ n > 1114111 ∨ (55296 ≤ n ∧ n ≤ 57343) then (65533 : Int) else n) = c
  unfold Utf8.encode
  generalize (if Utf8.valid c then c.toNat else Utf8.runeError) = c
  dsimp only
  split
  · simp
  · split
    · simp
    · split <;> simp
def alI (c : Int) : Bool := (decide (65 ≤ c) && decide (c ≤ 90)) || (decide (97 ≤ c) && decide (c ≤ 122))
/-! Numbers. -/
/-! Names in a text. -/
/-! A text. -/
end Go.Vc

namespace Go.Vc.W
open Go.Proofs
set_option linter.unusedVariables false
def isSp (c : Int) : Bool := c == 9 || c == 10 || c == 12 || c == 13 || c == 32
set_option maxRecDepth 10000
set_option linter.unusedSimpArgs false
instance f31 (c : Int) : Fn BB 119 [.int .u8 c] True (.bool (isSp c)) := by
  refine Fn.intro (N := 10) [0, 2, 3, 4] [] Tryd.call119 Tryd.func119 rfl rfl (by kernel_rfl) (fun hpre => ?_)
  repeat' ((conv => whnf); first | (with_reducible rfl) | exact True.intro | (with_reducible exact absTF) | (with_reducible exact absFT) | intro _ | refine And.intro ?_ ?_ | refine Fin.mk ?_ | refine CallG.plain rfl ?_ ?_ | refine CallG.mk rfl ?_ ?_ | refine CallG.nwl rfl ?_ ?_ | refine CallG.nw ?_ ?_ | refine CallF.nwl rfl ?_ ?_ | refine CallF.nw ?_ ?_ | refine AppN.mk ?_ | (refine CallS.q ?_; (conv => whnf); first | refine CallG.plain rfl ?_ ?_ | refine CallG.mk rfl ?_ ?_) | (refine CallS.m ?_; (conv => whnf); refine CallM.mk rfl ?_ ?_) | (refine CallS.h ?_; (conv => whnf); refine CallM.mk rfl ?_ ?_) | (refine CallS.b ?_; (conv => whnf); refine CallM.mk rfl ?_ ?_) | (refine CallS.z ?_; (conv => whnf); refine CallM.mk rfl ?_ ?_))
  all_goals (try (conv => whnf))
  all_goals (simp_all [isSp]; done)
instance f40 (c : Int) : Fn BB 139 [.int .u8 c] True (.bool (isSp c)) := by
  refine Fn.intro (N := 21) [0, 2] [] Tryd.call139 Tryd.func139 rfl rfl (by kernel_rfl) (fun hpre => ?_)
  repeat' ((conv => whnf); first | (with_reducible rfl) | exact True.intro | (with_reducible exact absTF) | (with_reducible exact absFT) | intro _ | refine And.intro ?_ ?_ | refine Fin.mk ?_ | refine CallG.plain rfl ?_ ?_ | refine CallG.mk rfl ?_ ?_ | refine CallG.nwl rfl ?_ ?_ | refine CallG.nw ?_ ?_ | refine CallF.nwl rfl ?_ ?_ | refine CallF.nw ?_ ?_ | refine AppN.mk ?_ | (refine CallS.q ?_; (conv => whnf); first | refine CallG.plain rfl ?_ ?_ | refine CallG.mk rfl ?_ ?_) | (refine CallS.m ?_; (conv => whnf); refine CallM.mk rfl ?_ ?_) | (refine CallS.h ?_; (conv => whnf); refine CallM.mk rfl ?_ ?_) | (refine CallS.b ?_; (conv => whnf); refine CallM.mk rfl ?_ ?_) | (refine CallS.z ?_; (conv => whnf); refine CallM.mk rfl ?_ ?_))
  all_goals (try (conv => whnf))
  all_goals (simp_all [isSp]; done)

theorem take_snoc {α : Type} (l : List α) (i : Nat) (d : α) (h : i < l.length) : l.take (i + 1) = l.take i ++ [l.getD i d] := by
  rw [List.take_succ_eq_append_getElem h]; simp [List.getD, List.getElem?_eq_getElem h]

theorem take_has (l : List (List UInt8)) (i : Nat) (w : List UInt8) (h : i < l.length) : (l.take (i+1)).contains w = ((l.take i).contains w || (l.getD i [] == w)) := by
  rw [take_snoc l i [] h]
  simp only [List.contains_eq_any_beq, List.any_append, List.any_cons, List.any_nil, Bool.or_false]
  congr 1
  exact Bool.beq_comm

/-- Has -/
instance f34 (l : List (List UInt8)) (w : List UInt8) : Fn BB 86 [.rd .str l, .str w] True (.bool (l.contains w)) := by
  refine Fn.intro (N := 18) [0, 1, 4, 5, 9, 17] [] Tryd.call86 Tryd.func86 rfl rfl (by kernel_rfl) (fun hpre => ?_)
  (conv => whnf)
  refine LoopStop.mk (α := Nat) (fun i => [(5, .int .i64 i)]) (fun _ => []) 0 (fun i => i ≤ l.length ∧ (l.take i).contains w = false) (fun i => l.length - i) 0 (by simp) ?_ (fun i hi => ?_)
  · repeat' ((conv => whnf); first | (with_reducible rfl) | exact True.intro | (with_reducible exact absTF) | (with_reducible exact absFT) | intro _ | refine And.intro ?_ ?_ | refine Fin.mk ?_ | refine CallG.plain rfl ?_ ?_ | refine CallG.mk rfl ?_ ?_ | refine CallG.nwl rfl ?_ ?_ | refine CallG.nw ?_ ?_ | refine CallF.nwl rfl ?_ ?_ | refine CallF.nw ?_ ?_ | refine AppN.mk ?_ | (refine CallS.q ?_; (conv => whnf); first | refine CallG.plain rfl ?_ ?_ | refine CallG.mk rfl ?_ ?_) | (refine CallS.m ?_; (conv => whnf); refine CallM.mk rfl ?_ ?_) | (refine CallS.h ?_; (conv => whnf); refine CallM.mk rfl ?_ ?_) | (refine CallS.b ?_; (conv => whnf); refine CallM.mk rfl ?_ ?_) | (refine CallS.z ?_; (conv => whnf); refine CallM.mk rfl ?_ ?_))
    all_goals (try (conv => whnf))
    all_goals (try rfl)
  · repeat' ((conv => whnf); first | (with_reducible rfl) | exact True.intro | (with_reducible exact absTF) | (with_reducible exact absFT) | intro _ | refine And.intro ?_ ?_ | refine Fin.mk ?_ | refine CallG.plain rfl ?_ ?_ | refine CallG.mk rfl ?_ ?_ | refine CallG.nwl rfl ?_ ?_ | refine CallG.nw ?_ ?_ | refine CallF.nwl rfl ?_ ?_ | refine CallF.nw ?_ ?_ | refine AppN.mk ?_ | (refine CallS.q ?_; (conv => whnf); first | refine CallG.plain rfl ?_ ?_ | refine CallG.mk rfl ?_ ?_) | (refine CallS.m ?_; (conv => whnf); refine CallM.mk rfl ?_ ?_) | (refine CallS.h ?_; (conv => whnf); refine CallM.mk rfl ?_ ?_) | (refine CallS.b ?_; (conv => whnf); refine CallM.mk rfl ?_ ?_) | (refine CallS.z ?_; (conv => whnf); refine CallM.mk rfl ?_ ?_))
    all_goals (try (conv => whnf))
    all_goals (try (exact Ob.mk (u8_bnd _)))
    all_goals (try (refine Ob.mk ?_; first | exact True.intro | assumption | omega | (try simp only [decide_eq_true_eq, decide_eq_false_iff_not, beq_iff_eq, beq_eq_false_iff_ne, bne_iff_ne, bne_eq_false_iff_eq, ne_eq, Bool.and_eq_true, Bool.or_eq_true, Bool.not_eq_true, Bool.not_eq_false, Bool.not_eq_true', Bool.not_eq_false', Int.toNat_natCast, Int.not_lt, Int.not_le, UInt8.ofNat_toNat, cast_eq] at *; omega)))
    all_goals (try ((show (_:Int) = _); omega))
    all_goals (try (show tupSV _ = _; with_unfolding_all rfl))
    all_goals (try ((show (_ : Nat) ≤ _); (simp <;> omega)))
    all_goals (try ((show (_ : Nat) ≤ _ ∧ (_ : Nat) ≤ _); (simp <;> omega)))
    all_goals (try ((show (_ : Int) ≤ _ ∧ (_ : Int) ≤ _ ∧ (_ : Int) ≤ _ ∧ (_ : Int) ≤ _); (simp <;> omega)))
    all_goals (try simp only [decide_eq_true_eq, decide_eq_false_iff_not, beq_iff_eq, beq_eq_false_iff_ne, bne_iff_ne, bne_eq_false_iff_eq, ne_eq, Bool.and_eq_true, Bool.or_eq_true, Bool.not_eq_true, Bool.not_eq_false, Bool.not_eq_true', Bool.not_eq_false', Int.toNat_natCast, Int.not_lt, Int.not_le, UInt8.ofNat_toNat, cast_eq] at *)
    · rename_i h1 h2 h3
      have h4 : i < l.length := by omega
      rw [← h3]; simp [List.getD, List.getElem?_eq_getElem h4]
    · rename_i h1 h2 h3
      have h4 : i < l.length := by omega
      refine Rnd.mk ⟨i + 1, ?_, ?_, ?_⟩
      · refine ⟨by omega, ?_⟩
        rw [take_has l i w h4, hi.2, Bool.false_or]; exact beq_eq_false_iff_ne.mpr h3
      · omega
      · repeat' ((conv => whnf); first | (with_reducible rfl) | exact True.intro | (with_reducible exact absTF) | (with_reducible exact absFT) | intro _ | refine And.intro ?_ ?_ | refine Fin.mk ?_ | refine CallG.plain rfl ?_ ?_ | refine CallG.mk rfl ?_ ?_ | refine CallG.nwl rfl ?_ ?_ | refine CallG.nw ?_ ?_ | refine CallF.nwl rfl ?_ ?_ | refine CallF.nw ?_ ?_ | refine AppN.mk ?_ | (refine CallS.q ?_; (conv => whnf); first | refine CallG.plain rfl ?_ ?_ | refine CallG.mk rfl ?_ ?_) | (refine CallS.m ?_; (conv => whnf); refine CallM.mk rfl ?_ ?_) | (refine CallS.h ?_; (conv => whnf); refine CallM.mk rfl ?_ ?_) | (refine CallS.b ?_; (conv => whnf); refine CallM.mk rfl ?_ ?_) | (refine CallS.z ?_; (conv => whnf); refine CallM.mk rfl ?_ ?_))
        all_goals (try (conv => whnf))
        all_goals (try (exact Ob.mk (u8_bnd _)))
        all_goals (try (refine Ob.mk ?_; first | exact True.intro | assumption | omega | (try simp only [decide_eq_true_eq, decide_eq_false_iff_not, beq_iff_eq, beq_eq_false_iff_ne, bne_iff_ne, bne_eq_false_iff_eq, ne_eq, Bool.and_eq_true, Bool.or_eq_true, Bool.not_eq_true, Bool.not_eq_false, Bool.not_eq_true', Bool.not_eq_false', Int.toNat_natCast, Int.not_lt, Int.not_le, UInt8.ofNat_toNat, cast_eq] at *; omega)))
        all_goals (try ((show (_:Int) = _); omega))
        all_goals (try (show tupSV _ = _; with_unfolding_all rfl))
        all_goals (try ((show (_ : Nat) ≤ _); (simp <;> omega)))
        all_goals (try ((show (_ : Nat) ≤ _ ∧ (_ : Nat) ≤ _); (simp <;> omega)))
        all_goals (try ((show (_ : Int) ≤ _ ∧ (_ : Int) ≤ _ ∧ (_ : Int) ≤ _ ∧ (_ : Int) ≤ _); (simp <;> omega)))
    · rename_i h1 h2
      have : i = l.length := by omega
      subst this; simp_all
end Go.Vc.W

namespace Go.Vc.W
open Go.Proofs
set_option linter.unusedVariables false
set_option maxRecDepth 10000
set_option linter.unusedSimpArgs false

def spStep (p : List (List UInt8) × List UInt8) (c : UInt8) : List (List UInt8) × List UInt8 :=
  if isSp c.toNat then (if p.2 = [] then (p.1, []) else (p.1 ++ [p.2], [])) else (p.1, p.2 ++ [c])
def spFin (p : List (List UInt8) × List UInt8) : List (List UInt8) := if p.2 = [] then p.1 else p.1 ++ [p.2]
def spl (s : List UInt8) : List (List UInt8) := spFin (s.foldl spStep ([], []))
def spAt (s : List UInt8) (i : Nat) : List (List UInt8) × List UInt8 := (s.take i).foldl spStep ([], [])

theorem spAt_succ (s : List UInt8) (i : Nat) (h : i < s.length) : spAt s (i + 1) = spStep (spAt s i) (s.getD i 0) := by
  unfold spAt; rw [take_snoc s i 0 h, List.foldl_append]; rfl
theorem spAt_all (s : List UInt8) (i : Nat) (h : s.length ≤ i) : spAt s i = s.foldl spStep ([], []) := by
  unfold spAt; rw [List.take_of_length_le h]
theorem spStep_len (p : List (List UInt8) × List UInt8) (c : UInt8) : (spStep p c).1.length + (spStep p c).2.length ≤ p.1.length + p.2.length + 1 := by
  unfold spStep
  by_cases h : isSp c.toNat = true
  · by_cases h2 : p.2 = []
    · simp [h, h2]
    · have := List.length_pos_iff.mpr h2
      simp [h, h2]
  · simp [h]; omega
theorem spAt_len (s : List UInt8) (i : Nat) : (spAt s i).1.length + (spAt s i).2.length ≤ i := by
  induction i with
  | zero => simp [spAt]
  | succ i ih =>
    by_cases h : i < s.length
    · rw [spAt_succ s i h]; have := spStep_len (spAt s i) (s.getD i 0); omega
    · have e : spAt s (i+1) = spAt s i := by rw [spAt_all s (i+1) (by omega), spAt_all s i (by omega)]
      rw [e]; exact Nat.le_succ_of_le ih
theorem drop_take_one (s : List UInt8) (i : Nat) (h : i < s.length) : (s.take (i+1)).drop i = [s.getD i 0] := by
  rw [take_snoc s i 0 h, List.drop_append, List.length_take, Nat.min_eq_left (by omega)]; simp
theorem toNat_add_one (i : Nat) : ((i:Int)+1).toNat = i+1 := by omega
theorem spl_w {s : List UInt8} {i : Nat} (h : s.length ≤ i) (h2 : ¬ (spAt s i).2 = []) : spl s = (spAt s i).1 ++ [(spAt s i).2] := by
  unfold spl; rw [← spAt_all s i h]; simp [spFin, h2]
theorem spl_e {s : List UInt8} {i : Nat} (h : s.length ≤ i) (h2 : (spAt s i).2 = []) : spl s = (spAt s i).1 := by
  unfold spl; rw [← spAt_all s i h]; simp [spFin, h2]

theorem spStep_no {p : List (List UInt8) × List UInt8} {c : UInt8} (h : isSp c.toNat = false) : spStep p c = (p.1, p.2 ++ [c]) := by
  simp [spStep, h]
theorem spStep_sp {p : List (List UInt8) × List UInt8} {c : UInt8} (h : isSp c.toNat = true) (h2 : p.2 = []) : spStep p c = (p.1, []) := by
  simp [spStep, h, h2]
theorem spStep_spw {p : List (List UInt8) × List UInt8} {c : UInt8} (h : isSp c.toNat = true) (h2 : ¬ p.2 = []) : spStep p c = (p.1 ++ [p.2], []) := by
  simp [spStep, h, h2]

/-- ref03.Split -/
instance f35 (s : List UInt8) : Fn BB 117 [.str s] (s.length ≤ 100000) (.rd .str (spl s)) := by
  refine Fn.intro (N := 37) [0, 2, 3, 4, 5, 9, 16, 25, 31] [] Tryd.call117 Tryd.func117 rfl rfl (by kernel_rfl) (fun hpre => ?_)
  (conv => whnf)
  refine LoopStop.mk (α := Nat) (fun i => [(3, .own 0), (4, .str (spAt s i).2), (5, .int .i64 i)]) (fun i => [(0, .own .str (spAt s i).1)]) 1 (fun i => i ≤ s.length) (fun i => s.length - i) 0 (by simp) ?_ (fun i hi => ?_)
  · repeat' ((conv => whnf); first | (with_reducible rfl) | exact True.intro | (with_reducible exact absTF) | (with_reducible exact absFT) | intro _ | refine And.intro ?_ ?_ | refine Fin.mk ?_ | refine CallG.plain rfl ?_ ?_ | refine CallG.mk rfl ?_ ?_ | refine CallG.nwl rfl ?_ ?_ | refine CallG.nw ?_ ?_ | refine CallF.nwl rfl ?_ ?_ | refine CallF.nw ?_ ?_ | refine AppN.mk ?_ | (refine CallS.q ?_; (conv => whnf); first | refine CallG.plain rfl ?_ ?_ | refine CallG.mk rfl ?_ ?_) | (refine CallS.m ?_; (conv => whnf); refine CallM.mk rfl ?_ ?_) | (refine CallS.h ?_; (conv => whnf); refine CallM.mk rfl ?_ ?_) | (refine CallS.b ?_; (conv => whnf); refine CallM.mk rfl ?_ ?_) | (refine CallS.z ?_; (conv => whnf); refine CallM.mk rfl ?_ ?_))
    all_goals (try (conv => whnf))
    all_goals (try rfl)
  · have hl := spAt_len s i
    repeat' ((conv => whnf); first | (with_reducible rfl) | exact True.intro | (with_reducible exact absTF) | (with_reducible exact absFT) | intro _ | refine And.intro ?_ ?_ | refine Fin.mk ?_ | refine CallG.plain rfl ?_ ?_ | refine CallG.mk rfl ?_ ?_ | refine CallG.nwl rfl ?_ ?_ | refine CallG.nw ?_ ?_ | refine CallF.nwl rfl ?_ ?_ | refine CallF.nw ?_ ?_ | refine AppN.mk ?_ | (refine CallS.q ?_; (conv => whnf); first | refine CallG.plain rfl ?_ ?_ | refine CallG.mk rfl ?_ ?_) | (refine CallS.m ?_; (conv => whnf); refine CallM.mk rfl ?_ ?_) | (refine CallS.h ?_; (conv => whnf); refine CallM.mk rfl ?_ ?_) | (refine CallS.b ?_; (conv => whnf); refine CallM.mk rfl ?_ ?_) | (refine CallS.z ?_; (conv => whnf); refine CallM.mk rfl ?_ ?_))
    all_goals (try (conv => whnf))
    all_goals (try (exact Ob.mk (u8_bnd _)))
    all_goals (try (refine Ob.mk ?_; first | exact True.intro | assumption | omega | (try simp only [decide_eq_true_eq, decide_eq_false_iff_not, beq_iff_eq, beq_eq_false_iff_ne, bne_iff_ne, bne_eq_false_iff_eq, ne_eq, Bool.and_eq_true, Bool.or_eq_true, Bool.not_eq_true, Bool.not_eq_false, Bool.not_eq_true', Bool.not_eq_false', Int.toNat_natCast, Int.not_lt, Int.not_le, UInt8.ofNat_toNat, cast_eq] at *; omega)))
    all_goals (try ((show (_:Int) = _); omega))
    all_goals (try (show tupSV _ = _; with_unfolding_all rfl))
    all_goals (try ((show (_ : Nat) ≤ _); (simp <;> omega)))
    all_goals (try ((show (_ : Nat) ≤ _ ∧ (_ : Nat) ≤ _); (simp <;> omega)))
    all_goals (try ((show (_ : Int) ≤ _ ∧ (_ : Int) ≤ _ ∧ (_ : Int) ≤ _ ∧ (_ : Int) ≤ _); (simp <;> omega)))
    all_goals (try simp only [decide_eq_true_eq, decide_eq_false_iff_not, beq_iff_eq, beq_eq_false_iff_ne, bne_iff_ne, bne_eq_false_iff_eq, ne_eq, Bool.and_eq_true, Bool.or_eq_true, Bool.not_eq_true, Bool.not_eq_false, Bool.not_eq_true', Bool.not_eq_false', Int.toNat_natCast, Int.not_lt, Int.not_le, UInt8.ofNat_toNat, cast_eq] at *)
    · have h : i < s.length := by omega
      have e := spAt_succ s i h
      rw [spStep_no ‹_›] at e
      refine Rnd.mk ⟨i + 1, ?_, ?_, ?_⟩
      · exact h
      · omega
      · repeat' ((conv => whnf); first | (with_reducible rfl) | exact True.intro | (with_reducible exact absTF) | (with_reducible exact absFT) | intro _ | refine And.intro ?_ ?_ | refine Fin.mk ?_ | refine CallG.plain rfl ?_ ?_ | refine CallG.mk rfl ?_ ?_ | refine CallG.nwl rfl ?_ ?_ | refine CallG.nw ?_ ?_ | refine CallF.nwl rfl ?_ ?_ | refine CallF.nw ?_ ?_ | refine AppN.mk ?_ | (refine CallS.q ?_; (conv => whnf); first | refine CallG.plain rfl ?_ ?_ | refine CallG.mk rfl ?_ ?_) | (refine CallS.m ?_; (conv => whnf); refine CallM.mk rfl ?_ ?_) | (refine CallS.h ?_; (conv => whnf); refine CallM.mk rfl ?_ ?_) | (refine CallS.b ?_; (conv => whnf); refine CallM.mk rfl ?_ ?_) | (refine CallS.z ?_; (conv => whnf); refine CallM.mk rfl ?_ ?_))
        all_goals (try (conv => whnf))
        all_goals (try (exact Ob.mk (u8_bnd _)))
        all_goals (try (refine Ob.mk ?_; first | exact True.intro | assumption | omega | (try simp only [decide_eq_true_eq, decide_eq_false_iff_not, beq_iff_eq, beq_eq_false_iff_ne, bne_iff_ne, bne_eq_false_iff_eq, ne_eq, Bool.and_eq_true, Bool.or_eq_true, Bool.not_eq_true, Bool.not_eq_false, Bool.not_eq_true', Bool.not_eq_false', Int.toNat_natCast, Int.not_lt, Int.not_le, UInt8.ofNat_toNat, cast_eq] at *; omega)))
        all_goals (try ((show (_:Int) = _); omega))
        all_goals (try (show tupSV _ = _; with_unfolding_all rfl))
        all_goals (try ((show (_ : Nat) ≤ _); (simp <;> omega)))
        all_goals (try ((show (_ : Nat) ≤ _ ∧ (_ : Nat) ≤ _); (simp <;> omega)))
        all_goals (try ((show (_ : Int) ≤ _ ∧ (_ : Int) ≤ _ ∧ (_ : Int) ≤ _ ∧ (_ : Int) ≤ _); (simp <;> omega)))
        all_goals (simp only [e, toNat_add_one, drop_take_one s i h]; done)
    · skip
      have h : i < s.length := by omega
      have e := spAt_succ s i h
      rw [spStep_spw ‹_› ‹_›] at e
      repeat' ((conv => whnf); first | (with_reducible rfl) | exact True.intro | (with_reducible exact absTF) | (with_reducible exact absFT) | intro _ | refine And.intro ?_ ?_ | refine Fin.mk ?_ | refine CallG.plain rfl ?_ ?_ | refine CallG.mk rfl ?_ ?_ | refine CallG.nwl rfl ?_ ?_ | refine CallG.nw ?_ ?_ | refine CallF.nwl rfl ?_ ?_ | refine CallF.nw ?_ ?_ | refine AppN.mk ?_ | (refine CallS.q ?_; (conv => whnf); first | refine CallG.plain rfl ?_ ?_ | refine CallG.mk rfl ?_ ?_) | (refine CallS.m ?_; (conv => whnf); refine CallM.mk rfl ?_ ?_) | (refine CallS.h ?_; (conv => whnf); refine CallM.mk rfl ?_ ?_) | (refine CallS.b ?_; (conv => whnf); refine CallM.mk rfl ?_ ?_) | (refine CallS.z ?_; (conv => whnf); refine CallM.mk rfl ?_ ?_))
      all_goals (try (conv => whnf))
      all_goals (try (exact Ob.mk (u8_bnd _)))
      all_goals (try (refine Ob.mk ?_; first | exact True.intro | assumption | omega | (try simp only [decide_eq_true_eq, decide_eq_false_iff_not, beq_iff_eq, beq_eq_false_iff_ne, bne_iff_ne, bne_eq_false_iff_eq, ne_eq, Bool.and_eq_true, Bool.or_eq_true, Bool.not_eq_true, Bool.not_eq_false, Bool.not_eq_true', Bool.not_eq_false', Int.toNat_natCast, Int.not_lt, Int.not_le, UInt8.ofNat_toNat, cast_eq] at *; omega)))
      all_goals (try ((show (_:Int) = _); omega))
      all_goals (try (show tupSV _ = _; with_unfolding_all rfl))
      all_goals (try ((show (_ : Nat) ≤ _); (simp <;> omega)))
      all_goals (try ((show (_ : Nat) ≤ _ ∧ (_ : Nat) ≤ _); (simp <;> omega)))
      all_goals (try ((show (_ : Int) ≤ _ ∧ (_ : Int) ≤ _ ∧ (_ : Int) ≤ _ ∧ (_ : Int) ≤ _); (simp <;> omega)))
      refine Rnd.mk ⟨i + 1, ?_, ?_, ?_⟩
      · exact h
      · omega
      · repeat' ((conv => whnf); first | (with_reducible rfl) | exact True.intro | (with_reducible exact absTF) | (with_reducible exact absFT) | intro _ | refine And.intro ?_ ?_ | refine Fin.mk ?_ | refine CallG.plain rfl ?_ ?_ | refine CallG.mk rfl ?_ ?_ | refine CallG.nwl rfl ?_ ?_ | refine CallG.nw ?_ ?_ | refine CallF.nwl rfl ?_ ?_ | refine CallF.nw ?_ ?_ | refine AppN.mk ?_ | (refine CallS.q ?_; (conv => whnf); first | refine CallG.plain rfl ?_ ?_ | refine CallG.mk rfl ?_ ?_) | (refine CallS.m ?_; (conv => whnf); refine CallM.mk rfl ?_ ?_) | (refine CallS.h ?_; (conv => whnf); refine CallM.mk rfl ?_ ?_) | (refine CallS.b ?_; (conv => whnf); refine CallM.mk rfl ?_ ?_) | (refine CallS.z ?_; (conv => whnf); refine CallM.mk rfl ?_ ?_))
        all_goals (try (conv => whnf))
        all_goals (try (exact Ob.mk (u8_bnd _)))
        all_goals (try (refine Ob.mk ?_; first | exact True.intro | assumption | omega | (try simp only [decide_eq_true_eq, decide_eq_false_iff_not, beq_iff_eq, beq_eq_false_iff_ne, bne_iff_ne, bne_eq_false_iff_eq, ne_eq, Bool.and_eq_true, Bool.or_eq_true, Bool.not_eq_true, Bool.not_eq_false, Bool.not_eq_true', Bool.not_eq_false', Int.toNat_natCast, Int.not_lt, Int.not_le, UInt8.ofNat_toNat, cast_eq] at *; omega)))
        all_goals (try ((show (_:Int) = _); omega))
        all_goals (try (show tupSV _ = _; with_unfolding_all rfl))
        all_goals (try ((show (_ : Nat) ≤ _); (simp <;> omega)))
        all_goals (try ((show (_ : Nat) ≤ _ ∧ (_ : Nat) ≤ _); (simp <;> omega)))
        all_goals (try ((show (_ : Int) ≤ _ ∧ (_ : Int) ≤ _ ∧ (_ : Int) ≤ _ ∧ (_ : Int) ≤ _); (simp <;> omega)))
        all_goals (simp only [e]; done)
    · have h : i < s.length := by omega
      have e := spAt_succ s i h
      rw [spStep_sp ‹_› ‹_›] at e
      refine Rnd.mk ⟨i + 1, ?_, ?_, ?_⟩
      · exact h
      · omega
      · repeat' ((conv => whnf); first | (with_reducible rfl) | exact True.intro | (with_reducible exact absTF) | (with_reducible exact absFT) | intro _ | refine And.intro ?_ ?_ | refine Fin.mk ?_ | refine CallG.plain rfl ?_ ?_ | refine CallG.mk rfl ?_ ?_ | refine CallG.nwl rfl ?_ ?_ | refine CallG.nw ?_ ?_ | refine CallF.nwl rfl ?_ ?_ | refine CallF.nw ?_ ?_ | refine AppN.mk ?_ | (refine CallS.q ?_; (conv => whnf); first | refine CallG.plain rfl ?_ ?_ | refine CallG.mk rfl ?_ ?_) | (refine CallS.m ?_; (conv => whnf); refine CallM.mk rfl ?_ ?_) | (refine CallS.h ?_; (conv => whnf); refine CallM.mk rfl ?_ ?_) | (refine CallS.b ?_; (conv => whnf); refine CallM.mk rfl ?_ ?_) | (refine CallS.z ?_; (conv => whnf); refine CallM.mk rfl ?_ ?_))
        all_goals (try (conv => whnf))
        all_goals (try (exact Ob.mk (u8_bnd _)))
        all_goals (try (refine Ob.mk ?_; first | exact True.intro | assumption | omega | (try simp only [decide_eq_true_eq, decide_eq_false_iff_not, beq_iff_eq, beq_eq_false_iff_ne, bne_iff_ne, bne_eq_false_iff_eq, ne_eq, Bool.and_eq_true, Bool.or_eq_true, Bool.not_eq_true, Bool.not_eq_false, Bool.not_eq_true', Bool.not_eq_false', Int.toNat_natCast, Int.not_lt, Int.not_le, UInt8.ofNat_toNat, cast_eq] at *; omega)))
        all_goals (try ((show (_:Int) = _); omega))
        all_goals (try (show tupSV _ = _; with_unfolding_all rfl))
        all_goals (try ((show (_ : Nat) ≤ _); (simp <;> omega)))
        all_goals (try ((show (_ : Nat) ≤ _ ∧ (_ : Nat) ≤ _); (simp <;> omega)))
        all_goals (try ((show (_ : Int) ≤ _ ∧ (_ : Int) ≤ _ ∧ (_ : Int) ≤ _ ∧ (_ : Int) ≤ _); (simp <;> omega)))
        all_goals (simp only [e]; done)
    · skip
      repeat' ((conv => whnf); first | (with_reducible rfl) | exact True.intro | (with_reducible exact absTF) | (with_reducible exact absFT) | intro _ | refine And.intro ?_ ?_ | refine Fin.mk ?_ | refine CallG.plain rfl ?_ ?_ | refine CallG.mk rfl ?_ ?_ | refine CallG.nwl rfl ?_ ?_ | refine CallG.nw ?_ ?_ | refine CallF.nwl rfl ?_ ?_ | refine CallF.nw ?_ ?_ | refine AppN.mk ?_ | (refine CallS.q ?_; (conv => whnf); first | refine CallG.plain rfl ?_ ?_ | refine CallG.mk rfl ?_ ?_) | (refine CallS.m ?_; (conv => whnf); refine CallM.mk rfl ?_ ?_) | (refine CallS.h ?_; (conv => whnf); refine CallM.mk rfl ?_ ?_) | (refine CallS.b ?_; (conv => whnf); refine CallM.mk rfl ?_ ?_) | (refine CallS.z ?_; (conv => whnf); refine CallM.mk rfl ?_ ?_))
      all_goals (try (conv => whnf))
      rw [spl_w (i := i) (by omega) ‹_›]
    · rw [spl_e (i := i) (by omega) ‹_›]
end Go.Vc.W

namespace Go.Vc.W
open Go.Proofs
set_option linter.unusedVariables false
set_option maxRecDepth 10000
set_option linter.unusedSimpArgs false

instance f29 (s w : List UInt8) : Fn BB 87 [.str s, .str w] (s.length ≤ 100000) (.bool ((spl s).contains w)) := by
  refine Fn.intro (N := 9) [0, 1, 4] [] Tryd.call87 Tryd.func87 rfl rfl (by kernel_rfl) (fun hpre => ?_)
  repeat' ((conv => whnf); first | (with_reducible rfl) | exact True.intro | (with_reducible exact absTF) | (with_reducible exact absFT) | intro _ | refine And.intro ?_ ?_ | refine Fin.mk ?_ | refine CallG.plain rfl ?_ ?_ | refine CallG.mk rfl ?_ ?_ | refine CallG.nwl rfl ?_ ?_ | refine CallG.nw ?_ ?_ | refine CallF.nwl rfl ?_ ?_ | refine CallF.nw ?_ ?_ | refine AppN.mk ?_ | (refine CallS.q ?_; (conv => whnf); first | refine CallG.plain rfl ?_ ?_ | refine CallG.mk rfl ?_ ?_) | (refine CallS.m ?_; (conv => whnf); refine CallM.mk rfl ?_ ?_) | (refine CallS.h ?_; (conv => whnf); refine CallM.mk rfl ?_ ?_) | (refine CallS.b ?_; (conv => whnf); refine CallM.mk rfl ?_ ?_) | (refine CallS.z ?_; (conv => whnf); refine CallM.mk rfl ?_ ?_))
  all_goals (try (conv => whnf))
  all_goals (try (exact Ob.mk (u8_bnd _)))
  all_goals (try (refine Ob.mk ?_; first | exact True.intro | assumption | omega | (try simp only [decide_eq_true_eq, decide_eq_false_iff_not, beq_iff_eq, beq_eq_false_iff_ne, bne_iff_ne, bne_eq_false_iff_eq, ne_eq, Bool.and_eq_true, Bool.or_eq_true, Bool.not_eq_true, Bool.not_eq_false, Bool.not_eq_true', Bool.not_eq_false', Int.toNat_natCast, Int.not_lt, Int.not_le, UInt8.ofNat_toNat, cast_eq] at *; omega)))
  all_goals (try ((show (_:Int) = _); omega))
  all_goals (try (show tupSV _ = _; with_unfolding_all rfl))
  all_goals (try ((show (_ : Nat) ≤ _); (simp <;> omega)))
  all_goals (try ((show (_ : Nat) ≤ _ ∧ (_ : Nat) ≤ _); (simp <;> omega)))
  all_goals (try ((show (_ : Int) ≤ _ ∧ (_ : Int) ≤ _ ∧ (_ : Int) ≤ _ ∧ (_ : Int) ≤ _); (simp <;> omega)))
theorem contains_of_getD {l : List (List UInt8)} {i : Nat} (h : i < l.length) : l.contains (l.getD i []) = true := by
  simp [List.getD, List.getElem?_eq_getElem h]
def ixOf (l : List (List UInt8)) (w : List UInt8) : Int := if l.contains w then (l.idxOf w : Int) else -1
theorem ixOf_none {l : List (List UInt8)} {w : List UInt8} (h : l.contains w = false) : ixOf l w = -1 := by rw [ixOf, h]; rfl
theorem ixOf_at {l : List (List UInt8)} {w : List UInt8} {i : Nat} (h : i < l.length) (h1 : (l.take i).contains w = false) (h2 : w = l.getD i []) : ixOf l w = i := by
  rw [ixOf, h2, contains_of_getD h, ← h2, if_pos rfl]
  have e := List.take_append_drop i l
  rw [← e, List.idxOf_append, if_neg (by simpa using h1), List.length_take, Nat.min_eq_left (by omega)]
  have e2 : l.drop i = w :: l.drop (i+1) := by rw [List.drop_eq_getElem_cons h, h2]; simp [List.getD, List.getElem?_eq_getElem h]
  rw [e2, List.idxOf_cons_self]; simp
instance f37 (l : List (List UInt8)) (w : List UInt8) : Fn BB 63 [.rd .str l, .str w] True (.int .i64 (ixOf l w)) := by
  refine Fn.intro (N := 19) [0, 1, 4, 5, 7, 8, 9, 16] [] Tryd.call63 Tryd.func63 rfl rfl (by kernel_rfl) (fun hpre => ?_)
  (conv => whnf)
  intro hlen
  (conv => whnf)
  refine LoopStop.mk (α := Nat) (fun i => [(8, .int .i64 i)]) (fun i => []) 0 (fun i => i ≤ l.length ∧ (l.take i).contains w = false) (fun i => l.length - i) 0 (by simp) ?_ (fun i hi => ?_)
  · repeat' ((conv => whnf); first | (with_reducible rfl) | exact True.intro | (with_reducible exact absTF) | (with_reducible exact absFT) | intro _ | refine And.intro ?_ ?_ | refine Fin.mk ?_ | refine CallG.plain rfl ?_ ?_ | refine CallG.mk rfl ?_ ?_ | refine CallG.nwl rfl ?_ ?_ | refine CallG.nw ?_ ?_ | refine CallF.nwl rfl ?_ ?_ | refine CallF.nw ?_ ?_ | refine AppN.mk ?_ | (refine CallS.q ?_; (conv => whnf); first | refine CallG.plain rfl ?_ ?_ | refine CallG.mk rfl ?_ ?_) | (refine CallS.m ?_; (conv => whnf); refine CallM.mk rfl ?_ ?_) | (refine CallS.h ?_; (conv => whnf); refine CallM.mk rfl ?_ ?_) | (refine CallS.b ?_; (conv => whnf); refine CallM.mk rfl ?_ ?_) | (refine CallS.z ?_; (conv => whnf); refine CallM.mk rfl ?_ ?_))
    all_goals (try (conv => whnf))
    all_goals (try rfl)
  · repeat' ((conv => whnf); first | (with_reducible rfl) | exact True.intro | (with_reducible exact absTF) | (with_reducible exact absFT) | intro _ | refine And.intro ?_ ?_ | refine Fin.mk ?_ | refine CallG.plain rfl ?_ ?_ | refine CallG.mk rfl ?_ ?_ | refine CallG.nwl rfl ?_ ?_ | refine CallG.nw ?_ ?_ | refine CallF.nwl rfl ?_ ?_ | refine CallF.nw ?_ ?_ | refine AppN.mk ?_ | (refine CallS.q ?_; (conv => whnf); first | refine CallG.plain rfl ?_ ?_ | refine CallG.mk rfl ?_ ?_) | (refine CallS.m ?_; (conv => whnf); refine CallM.mk rfl ?_ ?_) | (refine CallS.h ?_; (conv => whnf); refine CallM.mk rfl ?_ ?_) | (refine CallS.b ?_; (conv => whnf); refine CallM.mk rfl ?_ ?_) | (refine CallS.z ?_; (conv => whnf); refine CallM.mk rfl ?_ ?_))
    all_goals (try (conv => whnf))
    all_goals (try (exact Ob.mk (u8_bnd _)))
    all_goals (try (refine Ob.mk ?_; first | exact True.intro | assumption | omega | (try simp only [decide_eq_true_eq, decide_eq_false_iff_not, beq_iff_eq, beq_eq_false_iff_ne, bne_iff_ne, bne_eq_false_iff_eq, ne_eq, Bool.and_eq_true, Bool.or_eq_true, Bool.not_eq_true, Bool.not_eq_false, Bool.not_eq_true', Bool.not_eq_false', Int.toNat_natCast, Int.not_lt, Int.not_le, UInt8.ofNat_toNat, cast_eq] at *; omega)))
    all_goals (try ((show (_:Int) = _); omega))
    all_goals (try (show tupSV _ = _; with_unfolding_all rfl))
    all_goals (try ((show (_ : Nat) ≤ _); (simp <;> omega)))
    all_goals (try ((show (_ : Nat) ≤ _ ∧ (_ : Nat) ≤ _); (simp <;> omega)))
    all_goals (try ((show (_ : Int) ≤ _ ∧ (_ : Int) ≤ _ ∧ (_ : Int) ≤ _ ∧ (_ : Int) ≤ _); (simp <;> omega)))
    all_goals (try simp only [decide_eq_true_eq, decide_eq_false_iff_not, beq_iff_eq, beq_eq_false_iff_ne, bne_iff_ne, bne_eq_false_iff_eq, ne_eq, Bool.and_eq_true, Bool.or_eq_true, Bool.not_eq_true, Bool.not_eq_false, Bool.not_eq_true', Bool.not_eq_false', Int.toNat_natCast, Int.not_lt, Int.not_le, UInt8.ofNat_toNat, cast_eq] at *)
    · rw [ixOf_at (by omega) hi.2 ‹_›]
    · have h : i < l.length := by omega
      refine Rnd.mk ⟨i + 1, ?_, ?_, ?_⟩
      · refine ⟨by omega, ?_⟩
        rw [take_has l i w h, hi.2, Bool.false_or]; exact beq_eq_false_iff_ne.mpr (fun e => by simp_all)
      · omega
      · repeat' ((conv => whnf); first | (with_reducible rfl) | exact True.intro | (with_reducible exact absTF) | (with_reducible exact absFT) | intro _ | refine And.intro ?_ ?_ | refine Fin.mk ?_ | refine CallG.plain rfl ?_ ?_ | refine CallG.mk rfl ?_ ?_ | refine CallG.nwl rfl ?_ ?_ | refine CallG.nw ?_ ?_ | refine CallF.nwl rfl ?_ ?_ | refine CallF.nw ?_ ?_ | refine AppN.mk ?_ | (refine CallS.q ?_; (conv => whnf); first | refine CallG.plain rfl ?_ ?_ | refine CallG.mk rfl ?_ ?_) | (refine CallS.m ?_; (conv => whnf); refine CallM.mk rfl ?_ ?_) | (refine CallS.h ?_; (conv => whnf); refine CallM.mk rfl ?_ ?_) | (refine CallS.b ?_; (conv => whnf); refine CallM.mk rfl ?_ ?_) | (refine CallS.z ?_; (conv => whnf); refine CallM.mk rfl ?_ ?_))
        all_goals (try (conv => whnf))
        all_goals (try (exact Ob.mk (u8_bnd _)))
        all_goals (try (refine Ob.mk ?_; first | exact True.intro | assumption | omega | (try simp only [decide_eq_true_eq, decide_eq_false_iff_not, beq_iff_eq, beq_eq_false_iff_ne, bne_iff_ne, bne_eq_false_iff_eq, ne_eq, Bool.and_eq_true, Bool.or_eq_true, Bool.not_eq_true, Bool.not_eq_false, Bool.not_eq_true', Bool.not_eq_false', Int.toNat_natCast, Int.not_lt, Int.not_le, UInt8.ofNat_toNat, cast_eq] at *; omega)))
        all_goals (try ((show (_:Int) = _); omega))
        all_goals (try (show tupSV _ = _; with_unfolding_all rfl))
        all_goals (try ((show (_ : Nat) ≤ _); (simp <;> omega)))
        all_goals (try ((show (_ : Nat) ≤ _ ∧ (_ : Nat) ≤ _); (simp <;> omega)))
        all_goals (try ((show (_ : Int) ≤ _ ∧ (_ : Int) ≤ _ ∧ (_ : Int) ≤ _ ∧ (_ : Int) ≤ _); (simp <;> omega)))
    · have : i = l.length := by omega
      subst this
      rw [ixOf_none (by simpa using hi.2)]
instance f32 (l : List (List UInt8)) (w : List UInt8) : Fn BB 23 [.rd .str l, .str w] True (.bool (decide (ixOf l w ≥ 0))) := by
  refine Fn.intro (N := 9) [0, 1, 4] [] Tryd.call23 Tryd.func23 rfl rfl (by kernel_rfl) (fun hpre => ?_)
  repeat' ((conv => whnf); first | (with_reducible rfl) | exact True.intro | (with_reducible exact absTF) | (with_reducible exact absFT) | intro _ | refine And.intro ?_ ?_ | refine Fin.mk ?_ | refine CallG.plain rfl ?_ ?_ | refine CallG.mk rfl ?_ ?_ | refine CallG.nwl rfl ?_ ?_ | refine CallG.nw ?_ ?_ | refine CallF.nwl rfl ?_ ?_ | refine CallF.nw ?_ ?_ | refine AppN.mk ?_ | (refine CallS.q ?_; (conv => whnf); first | refine CallG.plain rfl ?_ ?_ | refine CallG.mk rfl ?_ ?_) | (refine CallS.m ?_; (conv => whnf); refine CallM.mk rfl ?_ ?_) | (refine CallS.h ?_; (conv => whnf); refine CallM.mk rfl ?_ ?_) | (refine CallS.b ?_; (conv => whnf); refine CallM.mk rfl ?_ ?_) | (refine CallS.z ?_; (conv => whnf); refine CallM.mk rfl ?_ ?_))
  all_goals (try (conv => whnf))
  all_goals (try (exact Ob.mk (u8_bnd _)))
  all_goals (try (refine Ob.mk ?_; first | exact True.intro | assumption | omega | (try simp only [decide_eq_true_eq, decide_eq_false_iff_not, beq_iff_eq, beq_eq_false_iff_ne, bne_iff_ne, bne_eq_false_iff_eq, ne_eq, Bool.and_eq_true, Bool.or_eq_true, Bool.not_eq_true, Bool.not_eq_false, Bool.not_eq_true', Bool.not_eq_false', Int.toNat_natCast, Int.not_lt, Int.not_le, UInt8.ofNat_toNat, cast_eq] at *; omega)))
  all_goals (try ((show (_:Int) = _); omega))
  all_goals (try (show tupSV _ = _; with_unfolding_all rfl))
  all_goals (try ((show (_ : Nat) ≤ _); (simp <;> omega)))
  all_goals (try ((show (_ : Nat) ≤ _ ∧ (_ : Nat) ≤ _); (simp <;> omega)))
  all_goals (try ((show (_ : Int) ≤ _ ∧ (_ : Int) ≤ _ ∧ (_ : Int) ≤ _ ∧ (_ : Int) ≤ _); (simp <;> omega)))
end Go.Vc.W

namespace Go.Vc.W
open Go.Proofs
set_option linter.unusedVariables false
set_option maxRecDepth 10000
set_option linter.unusedSimpArgs false
def spR (r : Int) : Bool := decide (r < 128) && isSp (IntKind.u8.wrap r)
instance f39 (r : Int) : Fn BB 124 [.int .i32 r] (0 ≤ r) (.bool (spR r)) := by
  refine Fn.intro (N := 10) [0, 2] [] Tryd.call124 Tryd.func124 rfl rfl (by kernel_rfl) (fun hpre => ?_)
  repeat' ((conv => whnf); first | (with_reducible rfl) | exact True.intro | (with_reducible exact absTF) | (with_reducible exact absFT) | intro _ | refine And.intro ?_ ?_ | refine Fin.mk ?_ | refine CallG.plain rfl ?_ ?_ | refine CallG.mk rfl ?_ ?_ | refine CallG.nwl rfl ?_ ?_ | refine CallG.nw ?_ ?_ | refine CallF.nwl rfl ?_ ?_ | refine CallF.nw ?_ ?_ | refine AppN.mk ?_ | (refine CallS.q ?_; (conv => whnf); first | refine CallG.plain rfl ?_ ?_ | refine CallG.mk rfl ?_ ?_) | (refine CallS.m ?_; (conv => whnf); refine CallM.mk rfl ?_ ?_) | (refine CallS.h ?_; (conv => whnf); refine CallM.mk rfl ?_ ?_) | (refine CallS.b ?_; (conv => whnf); refine CallM.mk rfl ?_ ?_) | (refine CallS.z ?_; (conv => whnf); refine CallM.mk rfl ?_ ?_))
  all_goals (try (conv => whnf))
  all_goals (try (exact Ob.mk (u8_bnd _)))
  all_goals (try (refine Ob.mk ?_; first | exact True.intro | assumption | omega | (try simp only [decide_eq_true_eq, decide_eq_false_iff_not, beq_iff_eq, beq_eq_false_iff_ne, bne_iff_ne, bne_eq_false_iff_eq, ne_eq, Bool.and_eq_true, Bool.or_eq_true, Bool.not_eq_true, Bool.not_eq_false, Bool.not_eq_true', Bool.not_eq_false', Int.toNat_natCast, Int.not_lt, Int.not_le, UInt8.ofNat_toNat, cast_eq] at *; omega)))
  all_goals (try ((show (_:Int) = _); omega))
  all_goals (try (show tupSV _ = _; with_unfolding_all rfl))
  all_goals (try ((show (_ : Nat) ≤ _); (simp <;> omega)))
  all_goals (try ((show (_ : Nat) ≤ _ ∧ (_ : Nat) ≤ _); (simp <;> omega)))
  all_goals (try ((show (_ : Int) ≤ _ ∧ (_ : Int) ≤ _ ∧ (_ : Int) ≤ _ ∧ (_ : Int) ≤ _); (simp <;> omega)))
  all_goals rfl

theorem getB (s : List UInt8) (j : Nat) : (ByteArray.get! ⟨s.toArray⟩ j) = s.getD j 0 := by
  by_cases h : j < s.length
  · have : j < s.toArray.size := by simpa using h
    simp [ByteArray.get!, List.getD, h]
  · simp [ByteArray.get!, List.getD, h]; rfl
theorem decL_pos (s : List UInt8) (pos : Nat) (h : pos < s.length) : 1 ≤ (decL s pos).2 ∧ pos + (decL s pos).2 ≤ s.length ∧
    (if (decL s pos).1 < 128 then (decL s pos).2 = 1 ∧ (decL s pos).1 = (s.getD pos 0).toNat else ∀ j, pos ≤ j → j < pos + (decL s pos).2 → 128 ≤ (s.getD j 0).toNat) := by
  have hsz : ByteArray.size ⟨s.toArray⟩ = s.length := by simp [ByteArray.size]
  have hb : ∀ j, (s.getD j 0).toNat < 256 := fun j => UInt8.toNat_lt _
  unfold decL Utf8.decode
  simp only [getB, hsz, Nat.add_zero]
  generalize e0 : (s.getD pos 0).toNat = b0
  generalize e1 : (s.getD (pos+1) 0).toNat = b1
  generalize e2 : (s.getD (pos+2) 0).toNat = b2
  generalize e3 : (s.getD (pos+3) 0).toNat = b3
  have k0 := hb pos
  have k1 := hb (pos+1)
  have k2 := hb (pos+2)
  have k3 := hb (pos+3)
  rw [e0] at k0; rw [e1] at k1; rw [e2] at k2; rw [e3] at k3
  have one : ∀ j, pos ≤ j → j < pos + 1 → (s.getD j 0).toNat = b0 := fun j h1 h2 => by
    have : j = pos := by omega
    subst this; exact e0
  split
  · simp; omega
  · rename_i hb0
    have fallb : ∀ j, pos ≤ j → j < pos + 1 → 128 ≤ (s.getD j 0).toNat := fun j h1 h2 => by rw [one j h1 h2]; omega
    have err : 1 ≤ ((Utf8.runeError, 1) : Nat × Nat).2 ∧ pos + ((Utf8.runeError, 1) : Nat × Nat).2 ≤ s.length ∧ (if ((Utf8.runeError, 1) : Nat × Nat).1 < 128 then ((Utf8.runeError, 1) : Nat × Nat).2 = 1 ∧ ((Utf8.runeError, 1) : Nat × Nat).1 = b0 else ∀ j, pos ≤ j → j < pos + ((Utf8.runeError, 1) : Nat × Nat).2 → 128 ≤ (s.getD j 0).toNat) := by
      refine ⟨Nat.le_refl _, h, ?_⟩
      rw [if_neg (by decide)]; exact fallb
    split
    · rename_i h2
      simp only [Bool.and_eq_true, decide_eq_true_eq, beq_iff_eq] at h2
      split
      · refine ⟨by simp, by simp; omega, ?_⟩
        rw [if_neg (by simp; omega)]
        intro j h3 h4
        have : j = pos ∨ j = pos + 1 := by simp at h4; omega
        rcases this with rfl | rfl
        · rw [e0]; omega
        · rw [e1]; omega
      · exact err
    · split
      · rename_i h2
        simp only [Bool.and_eq_true, decide_eq_true_eq, beq_iff_eq] at h2
        split
        · rename_i h5
          simp only [Bool.and_eq_true, decide_eq_true_eq, beq_iff_eq] at h5
          refine ⟨by simp, by simp; omega, ?_⟩
          rw [if_neg (by simp; omega)]
          intro j h3 h4
          have : j = pos ∨ j = pos + 1 ∨ j = pos + 2 := by simp at h4; omega
          rcases this with rfl | rfl | rfl
          · rw [e0]; omega
          · rw [e1]; omega
          · rw [e2]; omega
        · exact err
      · split
        · rename_i h2
          simp only [Bool.and_eq_true, decide_eq_true_eq, beq_iff_eq] at h2
          split
          · rename_i h5
            simp only [Bool.and_eq_true, decide_eq_true_eq, beq_iff_eq] at h5
            refine ⟨by simp, by simp; omega, ?_⟩
            rw [if_neg (by simp; omega)]
            intro j h3 h4
            have : j = pos ∨ j = pos + 1 ∨ j = pos + 2 ∨ j = pos + 3 := by simp at h4; omega
            rcases this with rfl | rfl | rfl | rfl
            · rw [e0]; omega
            · rw [e1]; omega
            · rw [e2]; omega
            · rw [e3]; omega
          · exact err
        · exact err
def cut (s : List UInt8) (p : Int × Int) : List UInt8 := (s.take p.2.toNat).drop p.1.toNat
theorem isSp_high {c : Nat} (h : 128 ≤ c) : isSp c = false := by
  simp only [isSp, Bool.or_eq_false_iff, beq_eq_false_iff_ne]; omega
theorem cut_more (s : List UInt8) (i pos : Nat) (h : i ≤ pos) (h2 : pos < s.length) : cut s (i, (pos+1:Nat)) = cut s (i, pos) ++ [s.getD pos 0] := by
  unfold cut
  simp only [Int.toNat_natCast]
  rw [take_snoc s pos 0 h2, List.drop_append_of_le_length (by rw [List.length_take]; omega)]
theorem spAt_run (s : List UInt8) (pos k : Nat) (h : pos + k ≤ s.length) (hh : ∀ j, pos ≤ j → j < pos + k → isSp (s.getD j 0).toNat = false) :
    spAt s (pos + k) = ((spAt s pos).1, (spAt s pos).2 ++ cut s (pos, (pos + k : Nat))) := by
  induction k with
  | zero => simp [cut]
  | succ k ih =>
    rw [← Nat.add_assoc, spAt_succ s _ (by omega), spStep_no (hh _ (by omega) (by omega)), ih (by omega) (fun j h1 h2 => hh j h1 (by omega)), cut_more s pos (pos+k) (by omega) (by omega)]
    simp
theorem cut_cat (s : List UInt8) (i j k : Nat) (h : i ≤ j) (h2 : j ≤ k) (h3 : k ≤ s.length) : cut s (i, j) ++ cut s (j, k) = cut s (i, k) := by
  induction k with
  | zero => have : j = 0 := by omega
            have : i = 0 := by omega
            subst_vars; simp [cut]
  | succ k ih =>
    by_cases e : j = k + 1
    · subst e; simp [cut]
    · rw [cut_more s j k (by omega) (by omega), cut_more s i k (by omega) (by omega), ← List.append_assoc, ih (by omega) (by omega)]
end Go.Vc.W

namespace Go.Vc.W
open Go.Proofs
set_option linter.unusedVariables false
set_option maxRecDepth 10000
set_option linter.unusedSimpArgs false
structure FS where
  pos : Nat
  spans : List (Int × Int)
  start : Int
structure FSok (s : List UInt8) (a : FS) : Prop where
  hp : a.pos ≤ s.length
  hs : a.spans.map (cut s) = (spAt s a.pos).1
  hr : ∀ p ∈ a.spans, 0 ≤ p.1 ∧ p.1 ≤ p.2 ∧ p.2 ≤ s.length
  hb : -(s.length : Int) - 1 ≤ a.start ∧ a.start ≤ s.length
  hw : if a.start < 0 then (spAt s a.pos).2 = [] else a.start < a.pos ∧ (spAt s a.pos).2 = cut s (a.start, a.pos)
theorem FSok.len {s : List UInt8} {a : FS} (h : FSok s a) : a.spans.length ≤ a.pos := by
  have := spAt_len s a.pos
  rw [← h.hs, List.length_map] at this; omega
theorem cut_ne {s : List UInt8} {i : Int} {j : Nat} (h0 : 0 ≤ i) (h : i < j) (h2 : j ≤ s.length) : ¬ cut s (i, j) = [] := by
  intro e
  have := congrArg List.length e
  simp [cut] at this
  omega
theorem spR_eq {s : List UInt8} {pos : Nat} (h : pos < s.length) :
    (spR (decL s pos).1 = true → (decL s pos).2 = 1 ∧ isSp (s.getD pos 0).toNat = true) ∧
    (spR (decL s pos).1 = false → pos < pos + (decL s pos).2 ∧ pos + (decL s pos).2 ≤ s.length ∧ ∀ j, pos ≤ j → j < pos + (decL s pos).2 → isSp (s.getD j 0).toNat = false) := by
  have ⟨d1, d2, d3⟩ := decL_pos s pos h
  have hw : (decL s pos).1 < 128 → IntKind.u8.wrap ((decL s pos).1 : Int) = (decL s pos).1 := fun hh => by
    simp [IntKind.wrap, IntKind.signed, IntKind.bits]; omega
  by_cases hh : (decL s pos).1 < 128
  · rw [if_pos hh] at d3
    have e : spR (decL s pos).1 = isSp (s.getD pos 0).toNat := by
      unfold spR; rw [hw hh, decide_eq_true (by omega), Bool.true_and, d3.2]
    rw [e]
    refine ⟨fun k => ⟨d3.1, k⟩, fun k => ⟨by omega, d2, fun j h1 h2 => ?_⟩⟩
    have : j = pos := by omega
    subst this; exact k
  · rw [if_neg hh] at d3
    have e : spR (decL s pos).1 = false := by unfold spR; simp; intro k; omega
    rw [e]
    refine ⟨fun k => (nomatch k), fun _ => ⟨by omega, d2, fun j h1 h2 => isSp_high (d3 j h1 h2)⟩⟩
theorem fs_sp1 {s : List UInt8} {a : FS} (h : FSok s a) (h1 : a.pos < s.length) (h2 : spR (decL s a.pos).1 = true) (h3 : 0 ≤ a.start) :
    FSok s ⟨a.pos + (decL s a.pos).2, a.spans ++ [(a.start, (a.pos:Int))], -a.start - 1⟩ := by
  have ⟨e1, e2⟩ := (spR_eq h1).1 h2
  have hw := h.hw; rw [if_neg (by omega)] at hw
  have hb := h.hb
  have e := spAt_succ s a.pos h1
  rw [spStep_spw e2 (by rw [hw.2]; exact cut_ne h3 hw.1 h.hp)] at e
  constructor
  · simp only [e1]; omega
  · simp only [e1, e, List.map_append, h.hs, hw.2]; rfl
  · intro p hp
    rcases List.mem_append.mp hp with hp | hp
    · exact h.hr p hp
    · simp at hp; subst hp; simp; omega
  · simp; omega
  · rw [if_pos (by simp; omega)]; simp only [e1, e]
theorem fs_sp0 {s : List UInt8} {a : FS} (h : FSok s a) (h1 : a.pos < s.length) (h2 : spR (decL s a.pos).1 = true) (h3 : a.start < 0) :
    FSok s ⟨a.pos + (decL s a.pos).2, a.spans, a.start⟩ := by
  have ⟨e1, e2⟩ := (spR_eq h1).1 h2
  have hw := h.hw; rw [if_pos (by omega)] at hw
  have e := spAt_succ s a.pos h1
  rw [spStep_sp e2 hw] at e
  constructor
  · simp only [e1]; omega
  · simp only [e1, e, h.hs]
  · exact h.hr
  · exact h.hb
  · rw [if_pos (by simpa using h3)]; simp only [e1, e]
theorem fs_no1 {s : List UInt8} {a : FS} (h : FSok s a) (h1 : a.pos < s.length) (h2 : spR (decL s a.pos).1 = false) (h3 : 0 ≤ a.start) :
    FSok s ⟨a.pos + (decL s a.pos).2, a.spans, a.start⟩ := by
  have ⟨e0, e1, e2⟩ := (spR_eq h1).2 h2
  have hw := h.hw; rw [if_neg (by omega)] at hw
  have e := spAt_run s a.pos _ e1 e2
  constructor
  · exact e1
  · simp only [e, h.hs]
  · exact h.hr
  · exact h.hb
  · rw [if_neg (by simp; omega)]; simp only [e]
    refine ⟨by omega, ?_⟩
    rw [hw.2]
    obtain ⟨i, hi⟩ : ∃ i : Nat, a.start = i := ⟨a.start.toNat, by omega⟩
    rw [hi, cut_cat s i a.pos _ (by omega) (by omega) e1]
theorem fs_no0 {s : List UInt8} {a : FS} (h : FSok s a) (h1 : a.pos < s.length) (h2 : spR (decL s a.pos).1 = false) (h3 : a.start < 0) :
    FSok s ⟨a.pos + (decL s a.pos).2, a.spans, (a.pos : Int)⟩ := by
  have ⟨e0, e1, e2⟩ := (spR_eq h1).2 h2
  have hw := h.hw; rw [if_pos (by omega)] at hw
  have e := spAt_run s a.pos _ e1 e2
  constructor
  · exact e1
  · simp only [e, h.hs]
  · exact h.hr
  · simp; omega
  · rw [if_neg (by simp)]; simp only [e]
    refine ⟨by omega, ?_⟩
    rw [hw]; rfl
theorem fs_end1 {s : List UInt8} {a : FS} (h : FSok s a) (h1 : ¬ a.pos < s.length) (h3 : 0 ≤ a.start) :
    (a.spans ++ [(a.start, (s.length:Int))]).map (cut s) = spl s ∧ ∀ p ∈ (a.spans ++ [(a.start, (s.length:Int))]), 0 ≤ p.1 ∧ p.1 ≤ p.2 ∧ p.2 ≤ s.length := by
  have hp := h.hp
  have e : a.pos = s.length := by omega
  have hw := h.hw; rw [if_neg (by omega)] at hw
  have hb := h.hb
  refine ⟨?_, ?_⟩
  · rw [spl_w (i := a.pos) (by omega) (by rw [hw.2]; exact cut_ne h3 hw.1 h.hp), hw.2, ← h.hs, e, List.map_append]; rfl
  · intro p hp
    rcases List.mem_append.mp hp with hp | hp
    · exact h.hr p hp
    · simp at hp; subst hp; simp; omega
theorem fs_end0 {s : List UInt8} {a : FS} (h : FSok s a) (h1 : ¬ a.pos < s.length) (h3 : a.start < 0) :
    a.spans.map (cut s) = spl s ∧ ∀ p ∈ a.spans, 0 ≤ p.1 ∧ p.1 ≤ p.2 ∧ p.2 ≤ s.length := by
  have hp := h.hp
  have e : a.pos = s.length := by omega
  have hw := h.hw; rw [if_pos (by omega)] at hw
  exact ⟨by rw [spl_e (i := a.pos) (by omega) hw, h.hs], h.hr⟩
end Go.Vc.W

namespace Go.Vc.W
open Go.Proofs
set_option linter.unusedVariables false
set_option maxRecDepth 10000
set_option linter.unusedSimpArgs false
theorem bits_not (x : Int) (h : -100001 ≤ x ∧ x ≤ 100000) : bitsI BinOp.xor IntKind.i64 (if IntKind.i64.signed = true then -1 else IntKind.i64.max) x = -x - 1 := by
  have e : (if IntKind.i64.signed = true then (-1:Int) else IntKind.i64.max) = -1 := rfl
  rw [e]
  show IntKind.wrap .i64 ((BitVec.ofInt 64 (-1) ^^^ BitVec.ofInt 64 x).toNat : Int) = _
  have e2 : BitVec.ofInt 64 (-1) = BitVec.allOnes 64 := by decide
  rw [e2, BitVec.allOnes_xor, BitVec.toNat_not, BitVec.toNat_ofInt]
  simp [IntKind.wrap, IntKind.signed, IntKind.bits]
  omega
def fin2 (s : List UInt8) (sp : List (Int × Int)) (i : Nat) : List (List UInt8) := (sp.take i).map (cut s) ++ List.replicate (sp.length - i) []
theorem fin2_len (s : List UInt8) (sp : List (Int × Int)) (i : Nat) (h : i ≤ sp.length) : (fin2 s sp i).length = sp.length := by
  simp [fin2]; omega
theorem fin2_set (s : List UInt8) (sp : List (Int × Int)) (i : Nat) (h : i < sp.length) : (fin2 s sp i).set i (cut s (sp.getD i (0,0))) = fin2 s sp (i+1) := by
  unfold fin2
  rw [take_snoc sp i (0,0) h]
  have e : sp.length - i = (sp.length - (i+1)) + 1 := by omega
  rw [e, List.replicate_succ, List.set_append_right _ _ (by simp; omega)]
  simp
  have : i - min i sp.length = 0 := by omega
  rw [this]; simp
theorem fin2_end (s : List UInt8) (sp : List (Int × Int)) (i : Nat) (h : sp.length ≤ i) : fin2 s sp i = sp.map (cut s) := by
  unfold fin2; rw [List.take_of_length_le h]; simp; omega
theorem getD_mem' {α : Type} {l : List α} {i : Nat} {d : α} (h : i < l.length) : l.getD i d ∈ l := by
  simp [List.getD, List.getElem?_eq_getElem h]
instance f38 (s : List UInt8) : Fn BB 123 [.str s, .fn 124 []] (s.length ≤ 100000) (.rd .str (spl s)) := by
  refine Fn.intro (N := 65) [0, 1, 4, 5, 6, 7, 8, 9, 10, 11, 14, 15, 16, 21, 23, 33, 36, 47, 48, 49, 50] [] Tryd.call123 Tryd.func123 rfl rfl (by kernel_rfl) (fun hpre => ?_)
  repeat' ((conv => whnf); first | (with_reducible rfl) | exact True.intro | (with_reducible exact absTF) | (with_reducible exact absFT) | intro _ | refine And.intro ?_ ?_ | refine Fin.mk ?_ | refine CallG.plain rfl ?_ ?_ | refine CallG.mk rfl ?_ ?_ | refine CallG.nwl rfl ?_ ?_ | refine CallG.nw ?_ ?_ | refine CallF.nwl rfl ?_ ?_ | refine CallF.nw ?_ ?_ | refine AppN.mk ?_ | (refine CallS.q ?_; (conv => whnf); first | refine CallG.plain rfl ?_ ?_ | refine CallG.mk rfl ?_ ?_) | (refine CallS.m ?_; (conv => whnf); refine CallM.mk rfl ?_ ?_) | (refine CallS.h ?_; (conv => whnf); refine CallM.mk rfl ?_ ?_) | (refine CallS.b ?_; (conv => whnf); refine CallM.mk rfl ?_ ?_) | (refine CallS.z ?_; (conv => whnf); refine CallM.mk rfl ?_ ?_))
  all_goals (try (conv => whnf))
  all_goals (try (exact Ob.mk (u8_bnd _)))
  all_goals (try (refine Ob.mk ?_; first | exact True.intro | assumption | omega | (try simp only [decide_eq_true_eq, decide_eq_false_iff_not, beq_iff_eq, beq_eq_false_iff_ne, bne_iff_ne, bne_eq_false_iff_eq, ne_eq, Bool.and_eq_true, Bool.or_eq_true, Bool.not_eq_true, Bool.not_eq_false, Bool.not_eq_true', Bool.not_eq_false', Int.toNat_natCast, Int.not_lt, Int.not_le, UInt8.ofNat_toNat, cast_eq] at *; omega)))
  all_goals (try ((show (_:Int) = _); omega))
  all_goals (try (show tupSV _ = _; with_unfolding_all rfl))
  all_goals (try ((show (_ : Nat) ≤ _); (simp <;> omega)))
  all_goals (try ((show (_ : Nat) ≤ _ ∧ (_ : Nat) ≤ _); (simp <;> omega)))
  all_goals (try ((show (_ : Int) ≤ _ ∧ (_ : Int) ≤ _ ∧ (_ : Int) ≤ _ ∧ (_ : Int) ≤ _); (simp <;> omega)))
  repeat' ((conv => whnf); first | (with_reducible rfl) | exact True.intro | (with_reducible exact absTF) | (with_reducible exact absFT) | intro _ | refine And.intro ?_ ?_ | refine Fin.mk ?_ | refine CallG.plain rfl ?_ ?_ | refine CallG.mk rfl ?_ ?_ | refine CallG.nwl rfl ?_ ?_ | refine CallG.nw ?_ ?_ | refine CallF.nwl rfl ?_ ?_ | refine CallF.nw ?_ ?_ | refine AppN.mk ?_ | (refine CallS.q ?_; (conv => whnf); first | refine CallG.plain rfl ?_ ?_ | refine CallG.mk rfl ?_ ?_) | (refine CallS.m ?_; (conv => whnf); refine CallM.mk rfl ?_ ?_) | (refine CallS.h ?_; (conv => whnf); refine CallM.mk rfl ?_ ?_) | (refine CallS.b ?_; (conv => whnf); refine CallM.mk rfl ?_ ?_) | (refine CallS.z ?_; (conv => whnf); refine CallM.mk rfl ?_ ?_))
  all_goals (try (conv => whnf))
  refine LoopStop.mk (α := FS) (fun a => [(5, .own 0), (6, .int .i64 a.start)]) (fun a => [(0, .own spTy a.spans), (1, .iter s a.pos)]) 2 (FSok s) (fun a => s.length - a.pos) ⟨0, [], -1⟩ ⟨by simp, by simp [spAt], by simp, by simp; omega, by simp [spAt]⟩ ?_ (fun a ha => ?_)
  · repeat' ((conv => whnf); first | (with_reducible rfl) | exact True.intro | (with_reducible exact absTF) | (with_reducible exact absFT) | intro _ | refine And.intro ?_ ?_ | refine Fin.mk ?_ | refine CallG.plain rfl ?_ ?_ | refine CallG.mk rfl ?_ ?_ | refine CallG.nwl rfl ?_ ?_ | refine CallG.nw ?_ ?_ | refine CallF.nwl rfl ?_ ?_ | refine CallF.nw ?_ ?_ | refine AppN.mk ?_ | (refine CallS.q ?_; (conv => whnf); first | refine CallG.plain rfl ?_ ?_ | refine CallG.mk rfl ?_ ?_) | (refine CallS.m ?_; (conv => whnf); refine CallM.mk rfl ?_ ?_) | (refine CallS.h ?_; (conv => whnf); refine CallM.mk rfl ?_ ?_) | (refine CallS.b ?_; (conv => whnf); refine CallM.mk rfl ?_ ?_) | (refine CallS.z ?_; (conv => whnf); refine CallM.mk rfl ?_ ?_))
    all_goals (try (conv => whnf))
    all_goals (try rfl)
    all_goals trace_state
  · have hl := ha.len
    have h1 := ha.hp
    have h2 := ha.hb
    repeat' ((conv => whnf); first | (with_reducible rfl) | exact True.intro | (with_reducible exact absTF) | (with_reducible exact absFT) | intro _ | refine And.intro ?_ ?_ | refine Fin.mk ?_ | refine CallG.plain rfl ?_ ?_ | refine CallG.mk rfl ?_ ?_ | refine CallG.nwl rfl ?_ ?_ | refine CallG.nw ?_ ?_ | refine CallF.nwl rfl ?_ ?_ | refine CallF.nw ?_ ?_ | refine AppN.mk ?_ | (refine CallS.q ?_; (conv => whnf); first | refine CallG.plain rfl ?_ ?_ | refine CallG.mk rfl ?_ ?_) | (refine CallS.m ?_; (conv => whnf); refine CallM.mk rfl ?_ ?_) | (refine CallS.h ?_; (conv => whnf); refine CallM.mk rfl ?_ ?_) | (refine CallS.b ?_; (conv => whnf); refine CallM.mk rfl ?_ ?_) | (refine CallS.z ?_; (conv => whnf); refine CallM.mk rfl ?_ ?_))
    all_goals (try (conv => whnf))
    all_goals (try (exact Ob.mk (u8_bnd _)))
    all_goals (try (refine Ob.mk ?_; first | exact True.intro | assumption | omega | (try simp only [decide_eq_true_eq, decide_eq_false_iff_not, beq_iff_eq, beq_eq_false_iff_ne, bne_iff_ne, bne_eq_false_iff_eq, ne_eq, Bool.and_eq_true, Bool.or_eq_true, Bool.not_eq_true, Bool.not_eq_false, Bool.not_eq_true', Bool.not_eq_false', Int.toNat_natCast, Int.not_lt, Int.not_le, UInt8.ofNat_toNat, cast_eq] at *; omega)))
    all_goals (try ((show (_:Int) = _); omega))
    all_goals (try (show tupSV _ = _; with_unfolding_all rfl))
    all_goals (try ((show (_ : Nat) ≤ _); (simp <;> omega)))
    all_goals (try ((show (_ : Nat) ≤ _ ∧ (_ : Nat) ≤ _); (simp <;> omega)))
    all_goals (try ((show (_ : Int) ≤ _ ∧ (_ : Int) ≤ _ ∧ (_ : Int) ≤ _ ∧ (_ : Int) ≤ _); (simp <;> omega)))
    all_goals (try simp only [decide_eq_true_eq, decide_eq_false_iff_not, beq_iff_eq, beq_eq_false_iff_ne, bne_iff_ne, bne_eq_false_iff_eq, ne_eq, Bool.and_eq_true, Bool.or_eq_true, Bool.not_eq_true, Bool.not_eq_false, Bool.not_eq_true', Bool.not_eq_false', Int.toNat_natCast, Int.not_lt, Int.not_le, UInt8.ofNat_toNat, cast_eq] at *)
    · skip
      repeat' ((conv => whnf); first | (with_reducible rfl) | exact True.intro | (with_reducible exact absTF) | (with_reducible exact absFT) | intro _ | refine And.intro ?_ ?_ | refine Fin.mk ?_ | refine CallG.plain rfl ?_ ?_ | refine CallG.mk rfl ?_ ?_ | refine CallG.nwl rfl ?_ ?_ | refine CallG.nw ?_ ?_ | refine CallF.nwl rfl ?_ ?_ | refine CallF.nw ?_ ?_ | refine AppN.mk ?_ | (refine CallS.q ?_; (conv => whnf); first | refine CallG.plain rfl ?_ ?_ | refine CallG.mk rfl ?_ ?_) | (refine CallS.m ?_; (conv => whnf); refine CallM.mk rfl ?_ ?_) | (refine CallS.h ?_; (conv => whnf); refine CallM.mk rfl ?_ ?_) | (refine CallS.b ?_; (conv => whnf); refine CallM.mk rfl ?_ ?_) | (refine CallS.z ?_; (conv => whnf); refine CallM.mk rfl ?_ ?_))
      all_goals (try (conv => whnf))
      all_goals (try (exact Ob.mk (u8_bnd _)))
      all_goals (try (refine Ob.mk ?_; first | exact True.intro | assumption | omega | (try simp only [decide_eq_true_eq, decide_eq_false_iff_not, beq_iff_eq, beq_eq_false_iff_ne, bne_iff_ne, bne_eq_false_iff_eq, ne_eq, Bool.and_eq_true, Bool.or_eq_true, Bool.not_eq_true, Bool.not_eq_false, Bool.not_eq_true', Bool.not_eq_false', Int.toNat_natCast, Int.not_lt, Int.not_le, UInt8.ofNat_toNat, cast_eq] at *; omega)))
      all_goals (try ((show (_:Int) = _); omega))
      all_goals (try (show tupSV _ = _; with_unfolding_all rfl))
      all_goals (try ((show (_ : Nat) ≤ _); (simp <;> omega)))
      all_goals (try ((show (_ : Nat) ≤ _ ∧ (_ : Nat) ≤ _); (simp <;> omega)))
      all_goals (try ((show (_ : Int) ≤ _ ∧ (_ : Int) ≤ _ ∧ (_ : Int) ≤ _ ∧ (_ : Int) ≤ _); (simp <;> omega)))
      refine Rnd.mk ⟨⟨a.pos + (decL s a.pos).2, a.spans ++ [(a.start, (a.pos:Int))], -a.start - 1⟩, ?_, ?_, ?_⟩
      · exact fs_sp1 ha ‹_› ‹_› (by omega)
      · have := (decL_pos s a.pos ‹_›).1; simp; omega
      · repeat' ((conv => whnf); first | (with_reducible rfl) | exact True.intro | (with_reducible exact absTF) | (with_reducible exact absFT) | intro _ | refine And.intro ?_ ?_ | refine Fin.mk ?_ | refine CallG.plain rfl ?_ ?_ | refine CallG.mk rfl ?_ ?_ | refine CallG.nwl rfl ?_ ?_ | refine CallG.nw ?_ ?_ | refine CallF.nwl rfl ?_ ?_ | refine CallF.nw ?_ ?_ | refine AppN.mk ?_ | (refine CallS.q ?_; (conv => whnf); first | refine CallG.plain rfl ?_ ?_ | refine CallG.mk rfl ?_ ?_) | (refine CallS.m ?_; (conv => whnf); refine CallM.mk rfl ?_ ?_) | (refine CallS.h ?_; (conv => whnf); refine CallM.mk rfl ?_ ?_) | (refine CallS.b ?_; (conv => whnf); refine CallM.mk rfl ?_ ?_) | (refine CallS.z ?_; (conv => whnf); refine CallM.mk rfl ?_ ?_))
        all_goals (try (conv => whnf))
        all_goals (try (exact Ob.mk (u8_bnd _)))
        all_goals (try (refine Ob.mk ?_; first | exact True.intro | assumption | omega | (try simp only [decide_eq_true_eq, decide_eq_false_iff_not, beq_iff_eq, beq_eq_false_iff_ne, bne_iff_ne, bne_eq_false_iff_eq, ne_eq, Bool.and_eq_true, Bool.or_eq_true, Bool.not_eq_true, Bool.not_eq_false, Bool.not_eq_true', Bool.not_eq_false', Int.toNat_natCast, Int.not_lt, Int.not_le, UInt8.ofNat_toNat, cast_eq] at *; omega)))
        all_goals (try ((show (_:Int) = _); omega))
        all_goals (try (show tupSV _ = _; with_unfolding_all rfl))
        all_goals (try ((show (_ : Nat) ≤ _); (simp <;> omega)))
        all_goals (try ((show (_ : Nat) ≤ _ ∧ (_ : Nat) ≤ _); (simp <;> omega)))
        all_goals (try ((show (_ : Int) ≤ _ ∧ (_ : Int) ≤ _ ∧ (_ : Int) ≤ _ ∧ (_ : Int) ≤ _); (simp <;> omega)))
        all_goals (first | (rw [bits_not _ (by omega)]; done) | skip)
        all_goals trace_state
    · have := (decL_pos s a.pos ‹_›).1
      refine Rnd.mk ⟨⟨a.pos + (decL s a.pos).2, a.spans, a.start⟩, ?_, ?_, ?_⟩
      · exact fs_sp0 ha ‹_› ‹_› (by omega)
      · simp; omega
      · repeat' ((conv => whnf); first | (with_reducible rfl) | exact True.intro | (with_reducible exact absTF) | (with_reducible exact absFT) | intro _ | refine And.intro ?_ ?_ | refine Fin.mk ?_ | refine CallG.plain rfl ?_ ?_ | refine CallG.mk rfl ?_ ?_ | refine CallG.nwl rfl ?_ ?_ | refine CallG.nw ?_ ?_ | refine CallF.nwl rfl ?_ ?_ | refine CallF.nw ?_ ?_ | refine AppN.mk ?_ | (refine CallS.q ?_; (conv => whnf); first | refine CallG.plain rfl ?_ ?_ | refine CallG.mk rfl ?_ ?_) | (refine CallS.m ?_; (conv => whnf); refine CallM.mk rfl ?_ ?_) | (refine CallS.h ?_; (conv => whnf); refine CallM.mk rfl ?_ ?_) | (refine CallS.b ?_; (conv => whnf); refine CallM.mk rfl ?_ ?_) | (refine CallS.z ?_; (conv => whnf); refine CallM.mk rfl ?_ ?_))
        all_goals (try (conv => whnf))
        all_goals (try (exact Ob.mk (u8_bnd _)))
        all_goals (try (refine Ob.mk ?_; first | exact True.intro | assumption | omega | (try simp only [decide_eq_true_eq, decide_eq_false_iff_not, beq_iff_eq, beq_eq_false_iff_ne, bne_iff_ne, bne_eq_false_iff_eq, ne_eq, Bool.and_eq_true, Bool.or_eq_true, Bool.not_eq_true, Bool.not_eq_false, Bool.not_eq_true', Bool.not_eq_false', Int.toNat_natCast, Int.not_lt, Int.not_le, UInt8.ofNat_toNat, cast_eq] at *; omega)))
        all_goals (try ((show (_:Int) = _); omega))
        all_goals (try (show tupSV _ = _; with_unfolding_all rfl))
        all_goals (try ((show (_ : Nat) ≤ _); (simp <;> omega)))
        all_goals (try ((show (_ : Nat) ≤ _ ∧ (_ : Nat) ≤ _); (simp <;> omega)))
        all_goals (try ((show (_ : Int) ≤ _ ∧ (_ : Int) ≤ _ ∧ (_ : Int) ≤ _ ∧ (_ : Int) ≤ _); (simp <;> omega)))
        all_goals trace_state
    · have := (decL_pos s a.pos ‹_›).1
      refine Rnd.mk ⟨⟨a.pos + (decL s a.pos).2, a.spans, a.pos⟩, ?_, ?_, ?_⟩
      · exact fs_no0 ha ‹_› ‹_› (by omega)
      · simp; omega
      · repeat' ((conv => whnf); first | (with_reducible rfl) | exact True.intro | (with_reducible exact absTF) | (with_reducible exact absFT) | intro _ | refine And.intro ?_ ?_ | refine Fin.mk ?_ | refine CallG.plain rfl ?_ ?_ | refine CallG.mk rfl ?_ ?_ | refine CallG.nwl rfl ?_ ?_ | refine CallG.nw ?_ ?_ | refine CallF.nwl rfl ?_ ?_ | refine CallF.nw ?_ ?_ | refine AppN.mk ?_ | (refine CallS.q ?_; (conv => whnf); first | refine CallG.plain rfl ?_ ?_ | refine CallG.mk rfl ?_ ?_) | (refine CallS.m ?_; (conv => whnf); refine CallM.mk rfl ?_ ?_) | (refine CallS.h ?_; (conv => whnf); refine CallM.mk rfl ?_ ?_) | (refine CallS.b ?_; (conv => whnf); refine CallM.mk rfl ?_ ?_) | (refine CallS.z ?_; (conv => whnf); refine CallM.mk rfl ?_ ?_))
        all_goals (try (conv => whnf))
        all_goals (try (exact Ob.mk (u8_bnd _)))
        all_goals (try (refine Ob.mk ?_; first | exact True.intro | assumption | omega | (try simp only [decide_eq_true_eq, decide_eq_false_iff_not, beq_iff_eq, beq_eq_false_iff_ne, bne_iff_ne, bne_eq_false_iff_eq, ne_eq, Bool.and_eq_true, Bool.or_eq_true, Bool.not_eq_true, Bool.not_eq_false, Bool.not_eq_true', Bool.not_eq_false', Int.toNat_natCast, Int.not_lt, Int.not_le, UInt8.ofNat_toNat, cast_eq] at *; omega)))
        all_goals (try ((show (_:Int) = _); omega))
        all_goals (try (show tupSV _ = _; with_unfolding_all rfl))
        all_goals (try ((show (_ : Nat) ≤ _); (simp <;> omega)))
        all_goals (try ((show (_ : Nat) ≤ _ ∧ (_ : Nat) ≤ _); (simp <;> omega)))
        all_goals (try ((show (_ : Int) ≤ _ ∧ (_ : Int) ≤ _ ∧ (_ : Int) ≤ _ ∧ (_ : Int) ≤ _); (simp <;> omega)))
        all_goals trace_state
    · have := (decL_pos s a.pos ‹_›).1
      refine Rnd.mk ⟨⟨a.pos + (decL s a.pos).2, a.spans, a.start⟩, ?_, ?_, ?_⟩
      · exact fs_no1 ha ‹_› ‹_› (by omega)
      · simp; omega
      · repeat' ((conv => whnf); first | (with_reducible rfl) | exact True.intro | (with_reducible exact absTF) | (with_reducible exact absFT) | intro _ | refine And.intro ?_ ?_ | refine Fin.mk ?_ | refine CallG.plain rfl ?_ ?_ | refine CallG.mk rfl ?_ ?_ | refine CallG.nwl rfl ?_ ?_ | refine CallG.nw ?_ ?_ | refine CallF.nwl rfl ?_ ?_ | refine CallF.nw ?_ ?_ | refine AppN.mk ?_ | (refine CallS.q ?_; (conv => whnf); first | refine CallG.plain rfl ?_ ?_ | refine CallG.mk rfl ?_ ?_) | (refine CallS.m ?_; (conv => whnf); refine CallM.mk rfl ?_ ?_) | (refine CallS.h ?_; (conv => whnf); refine CallM.mk rfl ?_ ?_) | (refine CallS.b ?_; (conv => whnf); refine CallM.mk rfl ?_ ?_) | (refine CallS.z ?_; (conv => whnf); refine CallM.mk rfl ?_ ?_))
        all_goals (try (conv => whnf))
        all_goals (try (exact Ob.mk (u8_bnd _)))
        all_goals (try (refine Ob.mk ?_; first | exact True.intro | assumption | omega | (try simp only [decide_eq_true_eq, decide_eq_false_iff_not, beq_iff_eq, beq_eq_false_iff_ne, bne_iff_ne, bne_eq_false_iff_eq, ne_eq, Bool.and_eq_true, Bool.or_eq_true, Bool.not_eq_true, Bool.not_eq_false, Bool.not_eq_true', Bool.not_eq_false', Int.toNat_natCast, Int.not_lt, Int.not_le, UInt8.ofNat_toNat, cast_eq] at *; omega)))
        all_goals (try ((show (_:Int) = _); omega))
        all_goals (try (show tupSV _ = _; with_unfolding_all rfl))
        all_goals (try ((show (_ : Nat) ≤ _); (simp <;> omega)))
        all_goals (try ((show (_ : Nat) ≤ _ ∧ (_ : Nat) ≤ _); (simp <;> omega)))
        all_goals (try ((show (_ : Int) ≤ _ ∧ (_ : Int) ≤ _ ∧ (_ : Int) ≤ _ ∧ (_ : Int) ≤ _); (simp <;> omega)))
        all_goals trace_state
    · skip
      have hh := fs_end1 ha ‹_› (by omega)
      have hlen : (a.spans ++ [(a.start, (s.length:Int))]).length ≤ s.length + 1 := by simp; omega
      revert hh hlen
      generalize a.spans ++ [(a.start, (s.length:Int))] = sp
      intro hh hlen
      repeat' ((conv => whnf); first | (with_reducible rfl) | exact True.intro | (with_reducible exact absTF) | (with_reducible exact absFT) | intro _ | refine And.intro ?_ ?_ | refine Fin.mk ?_ | refine CallG.plain rfl ?_ ?_ | refine CallG.mk rfl ?_ ?_ | refine CallG.nwl rfl ?_ ?_ | refine CallG.nw ?_ ?_ | refine CallF.nwl rfl ?_ ?_ | refine CallF.nw ?_ ?_ | refine AppN.mk ?_ | (refine CallS.q ?_; (conv => whnf); first | refine CallG.plain rfl ?_ ?_ | refine CallG.mk rfl ?_ ?_) | (refine CallS.m ?_; (conv => whnf); refine CallM.mk rfl ?_ ?_) | (refine CallS.h ?_; (conv => whnf); refine CallM.mk rfl ?_ ?_) | (refine CallS.b ?_; (conv => whnf); refine CallM.mk rfl ?_ ?_) | (refine CallS.z ?_; (conv => whnf); refine CallM.mk rfl ?_ ?_))
      all_goals (try (conv => whnf))
      all_goals (try (exact Ob.mk (u8_bnd _)))
      all_goals (try (refine Ob.mk ?_; first | exact True.intro | assumption | omega | (try simp only [decide_eq_true_eq, decide_eq_false_iff_not, beq_iff_eq, beq_eq_false_iff_ne, bne_iff_ne, bne_eq_false_iff_eq, ne_eq, Bool.and_eq_true, Bool.or_eq_true, Bool.not_eq_true, Bool.not_eq_false, Bool.not_eq_true', Bool.not_eq_false', Int.toNat_natCast, Int.not_lt, Int.not_le, UInt8.ofNat_toNat, cast_eq] at *; omega)))
      all_goals (try ((show (_:Int) = _); omega))
      all_goals (try (show tupSV _ = _; with_unfolding_all rfl))
      all_goals (try ((show (_ : Nat) ≤ _); (simp <;> omega)))
      all_goals (try ((show (_ : Nat) ≤ _ ∧ (_ : Nat) ≤ _); (simp <;> omega)))
      all_goals (try ((show (_ : Int) ≤ _ ∧ (_ : Int) ≤ _ ∧ (_ : Int) ≤ _ ∧ (_ : Int) ≤ _); (simp <;> omega)))
      repeat' ((conv => whnf); first | (with_reducible rfl) | exact True.intro | (with_reducible exact absTF) | (with_reducible exact absFT) | intro _ | refine And.intro ?_ ?_ | refine Fin.mk ?_ | refine CallG.plain rfl ?_ ?_ | refine CallG.mk rfl ?_ ?_ | refine CallG.nwl rfl ?_ ?_ | refine CallG.nw ?_ ?_ | refine CallF.nwl rfl ?_ ?_ | refine CallF.nw ?_ ?_ | refine AppN.mk ?_ | (refine CallS.q ?_; (conv => whnf); first | refine CallG.plain rfl ?_ ?_ | refine CallG.mk rfl ?_ ?_) | (refine CallS.m ?_; (conv => whnf); refine CallM.mk rfl ?_ ?_) | (refine CallS.h ?_; (conv => whnf); refine CallM.mk rfl ?_ ?_) | (refine CallS.b ?_; (conv => whnf); refine CallM.mk rfl ?_ ?_) | (refine CallS.z ?_; (conv => whnf); refine CallM.mk rfl ?_ ?_))
      all_goals (try (conv => whnf))
      refine LoopStop.mk (α := Nat) (fun i => [(49, .int .i64 i)]) (fun i => [(3, .own .str (fin2 s sp i))]) 20 (fun i => i ≤ sp.length) (fun i => sp.length - i) 0 (by simp) ?_ (fun i hi => ?_)
      · repeat' ((conv => whnf); first | (with_reducible rfl) | exact True.intro | (with_reducible exact absTF) | (with_reducible exact absFT) | intro _ | refine And.intro ?_ ?_ | refine Fin.mk ?_ | refine CallG.plain rfl ?_ ?_ | refine CallG.mk rfl ?_ ?_ | refine CallG.nwl rfl ?_ ?_ | refine CallG.nw ?_ ?_ | refine CallF.nwl rfl ?_ ?_ | refine CallF.nw ?_ ?_ | refine AppN.mk ?_ | (refine CallS.q ?_; (conv => whnf); first | refine CallG.plain rfl ?_ ?_ | refine CallG.mk rfl ?_ ?_) | (refine CallS.m ?_; (conv => whnf); refine CallM.mk rfl ?_ ?_) | (refine CallS.h ?_; (conv => whnf); refine CallM.mk rfl ?_ ?_) | (refine CallS.b ?_; (conv => whnf); refine CallM.mk rfl ?_ ?_) | (refine CallS.z ?_; (conv => whnf); refine CallM.mk rfl ?_ ?_))
        all_goals (try (conv => whnf))
        all_goals (try rfl)
        all_goals trace_state
      · repeat' ((conv => whnf); first | (with_reducible rfl) | exact True.intro | (with_reducible exact absTF) | (with_reducible exact absFT) | intro _ | refine And.intro ?_ ?_ | refine Fin.mk ?_ | refine CallG.plain rfl ?_ ?_ | refine CallG.mk rfl ?_ ?_ | refine CallG.nwl rfl ?_ ?_ | refine CallG.nw ?_ ?_ | refine CallF.nwl rfl ?_ ?_ | refine CallF.nw ?_ ?_ | refine AppN.mk ?_ | (refine CallS.q ?_; (conv => whnf); first | refine CallG.plain rfl ?_ ?_ | refine CallG.mk rfl ?_ ?_) | (refine CallS.m ?_; (conv => whnf); refine CallM.mk rfl ?_ ?_) | (refine CallS.h ?_; (conv => whnf); refine CallM.mk rfl ?_ ?_) | (refine CallS.b ?_; (conv => whnf); refine CallM.mk rfl ?_ ?_) | (refine CallS.z ?_; (conv => whnf); refine CallM.mk rfl ?_ ?_))
        all_goals (try (conv => whnf))
        all_goals (try (exact Ob.mk (u8_bnd _)))
        all_goals (try (refine Ob.mk ?_; first | exact True.intro | assumption | omega | (try simp only [decide_eq_true_eq, decide_eq_false_iff_not, beq_iff_eq, beq_eq_false_iff_ne, bne_iff_ne, bne_eq_false_iff_eq, ne_eq, Bool.and_eq_true, Bool.or_eq_true, Bool.not_eq_true, Bool.not_eq_false, Bool.not_eq_true', Bool.not_eq_false', Int.toNat_natCast, Int.not_lt, Int.not_le, UInt8.ofNat_toNat, cast_eq] at *; omega)))
        all_goals (try ((show (_:Int) = _); omega))
        all_goals (try (show tupSV _ = _; with_unfolding_all rfl))
        all_goals (try ((show (_ : Nat) ≤ _); (simp <;> omega)))
        all_goals (try ((show (_ : Nat) ≤ _ ∧ (_ : Nat) ≤ _); (simp <;> omega)))
        all_goals (try ((show (_ : Int) ≤ _ ∧ (_ : Int) ≤ _ ∧ (_ : Int) ≤ _ ∧ (_ : Int) ≤ _); (simp <;> omega)))
        all_goals (try simp only [decide_eq_true_eq, decide_eq_false_iff_not, beq_iff_eq, beq_eq_false_iff_ne, bne_iff_ne, bne_eq_false_iff_eq, ne_eq, Bool.and_eq_true, Bool.or_eq_true, Bool.not_eq_true, Bool.not_eq_false, Bool.not_eq_true', Bool.not_eq_false', Int.toNat_natCast, Int.not_lt, Int.not_le, UInt8.ofNat_toNat, cast_eq] at *)
        · exact hh.2 _ (getD_mem' (by omega))
        · rw [fin2_len s sp i hi]; omega
        · rw [fin2_len s sp i hi]; omega
        · skip
          have e := fin2_set s sp i (by omega)
          repeat' ((conv => whnf); first | (with_reducible rfl) | exact True.intro | (with_reducible exact absTF) | (with_reducible exact absFT) | intro _ | refine And.intro ?_ ?_ | refine Fin.mk ?_ | refine CallG.plain rfl ?_ ?_ | refine CallG.mk rfl ?_ ?_ | refine CallG.nwl rfl ?_ ?_ | refine CallG.nw ?_ ?_ | refine CallF.nwl rfl ?_ ?_ | refine CallF.nw ?_ ?_ | refine AppN.mk ?_ | (refine CallS.q ?_; (conv => whnf); first | refine CallG.plain rfl ?_ ?_ | refine CallG.mk rfl ?_ ?_) | (refine CallS.m ?_; (conv => whnf); refine CallM.mk rfl ?_ ?_) | (refine CallS.h ?_; (conv => whnf); refine CallM.mk rfl ?_ ?_) | (refine CallS.b ?_; (conv => whnf); refine CallM.mk rfl ?_ ?_) | (refine CallS.z ?_; (conv => whnf); refine CallM.mk rfl ?_ ?_))
          all_goals (try (conv => whnf))
          all_goals (try (exact Ob.mk (u8_bnd _)))
          all_goals (try (refine Ob.mk ?_; first | exact True.intro | assumption | omega | (try simp only [decide_eq_true_eq, decide_eq_false_iff_not, beq_iff_eq, beq_eq_false_iff_ne, bne_iff_ne, bne_eq_false_iff_eq, ne_eq, Bool.and_eq_true, Bool.or_eq_true, Bool.not_eq_true, Bool.not_eq_false, Bool.not_eq_true', Bool.not_eq_false', Int.toNat_natCast, Int.not_lt, Int.not_le, UInt8.ofNat_toNat, cast_eq] at *; omega)))
          all_goals (try ((show (_:Int) = _); omega))
          all_goals (try (show tupSV _ = _; with_unfolding_all rfl))
          all_goals (try ((show (_ : Nat) ≤ _); (simp <;> omega)))
          all_goals (try ((show (_ : Nat) ≤ _ ∧ (_ : Nat) ≤ _); (simp <;> omega)))
          all_goals (try ((show (_ : Int) ≤ _ ∧ (_ : Int) ≤ _ ∧ (_ : Int) ≤ _ ∧ (_ : Int) ≤ _); (simp <;> omega)))
          refine Rnd.mk ⟨i + 1, ?_, ?_, ?_⟩
          · omega
          · omega
          · repeat' ((conv => whnf); first | (with_reducible rfl) | exact True.intro | (with_reducible exact absTF) | (with_reducible exact absFT) | intro _ | refine And.intro ?_ ?_ | refine Fin.mk ?_ | refine CallG.plain rfl ?_ ?_ | refine CallG.mk rfl ?_ ?_ | refine CallG.nwl rfl ?_ ?_ | refine CallG.nw ?_ ?_ | refine CallF.nwl rfl ?_ ?_ | refine CallF.nw ?_ ?_ | refine AppN.mk ?_ | (refine CallS.q ?_; (conv => whnf); first | refine CallG.plain rfl ?_ ?_ | refine CallG.mk rfl ?_ ?_) | (refine CallS.m ?_; (conv => whnf); refine CallM.mk rfl ?_ ?_) | (refine CallS.h ?_; (conv => whnf); refine CallM.mk rfl ?_ ?_) | (refine CallS.b ?_; (conv => whnf); refine CallM.mk rfl ?_ ?_) | (refine CallS.z ?_; (conv => whnf); refine CallM.mk rfl ?_ ?_))
            all_goals (try (conv => whnf))
            all_goals (try (exact Ob.mk (u8_bnd _)))
            all_goals (try (refine Ob.mk ?_; first | exact True.intro | assumption | omega | (try simp only [decide_eq_true_eq, decide_eq_false_iff_not, beq_iff_eq, beq_eq_false_iff_ne, bne_iff_ne, bne_eq_false_iff_eq, ne_eq, Bool.and_eq_true, Bool.or_eq_true, Bool.not_eq_true, Bool.not_eq_false, Bool.not_eq_true', Bool.not_eq_false', Int.toNat_natCast, Int.not_lt, Int.not_le, UInt8.ofNat_toNat, cast_eq] at *; omega)))
            all_goals (try ((show (_:Int) = _); omega))
            all_goals (try (show tupSV _ = _; with_unfolding_all rfl))
            all_goals (try ((show (_ : Nat) ≤ _); (simp <;> omega)))
            all_goals (try ((show (_ : Nat) ≤ _ ∧ (_ : Nat) ≤ _); (simp <;> omega)))
            all_goals (try ((show (_ : Int) ≤ _ ∧ (_ : Int) ≤ _ ∧ (_ : Int) ≤ _ ∧ (_ : Int) ≤ _); (simp <;> omega)))
            all_goals (rw [← e]; rfl)
        · rw [fin2_end s sp i (by omega), hh.1]
    · have hh := fs_end0 ha ‹_› (by omega)
      have hlen : a.spans.length ≤ s.length + 1 := by omega
      revert hh hlen
      generalize a.spans = sp
      intro hh hlen
      repeat' ((conv => whnf); first | (with_reducible rfl) | exact True.intro | (with_reducible exact absTF) | (with_reducible exact absFT) | intro _ | refine And.intro ?_ ?_ | refine Fin.mk ?_ | refine CallG.plain rfl ?_ ?_ | refine CallG.mk rfl ?_ ?_ | refine CallG.nwl rfl ?_ ?_ | refine CallG.nw ?_ ?_ | refine CallF.nwl rfl ?_ ?_ | refine CallF.nw ?_ ?_ | refine AppN.mk ?_ | (refine CallS.q ?_; (conv => whnf); first | refine CallG.plain rfl ?_ ?_ | refine CallG.mk rfl ?_ ?_) | (refine CallS.m ?_; (conv => whnf); refine CallM.mk rfl ?_ ?_) | (refine CallS.h ?_; (conv => whnf); refine CallM.mk rfl ?_ ?_) | (refine CallS.b ?_; (conv => whnf); refine CallM.mk rfl ?_ ?_) | (refine CallS.z ?_; (conv => whnf); refine CallM.mk rfl ?_ ?_))
      all_goals (try (conv => whnf))
      refine LoopStop.mk (α := Nat) (fun i => [(49, .int .i64 i)]) (fun i => [(2, .own .str (fin2 s sp i))]) 3 (fun i => i ≤ sp.length) (fun i => sp.length - i) 0 (by simp) ?_ (fun i hi => ?_)
      · repeat' ((conv => whnf); first | (with_reducible rfl) | exact True.intro | (with_reducible exact absTF) | (with_reducible exact absFT) | intro _ | refine And.intro ?_ ?_ | refine Fin.mk ?_ | refine CallG.plain rfl ?_ ?_ | refine CallG.mk rfl ?_ ?_ | refine CallG.nwl rfl ?_ ?_ | refine CallG.nw ?_ ?_ | refine CallF.nwl rfl ?_ ?_ | refine CallF.nw ?_ ?_ | refine AppN.mk ?_ | (refine CallS.q ?_; (conv => whnf); first | refine CallG.plain rfl ?_ ?_ | refine CallG.mk rfl ?_ ?_) | (refine CallS.m ?_; (conv => whnf); refine CallM.mk rfl ?_ ?_) | (refine CallS.h ?_; (conv => whnf); refine CallM.mk rfl ?_ ?_) | (refine CallS.b ?_; (conv => whnf); refine CallM.mk rfl ?_ ?_) | (refine CallS.z ?_; (conv => whnf); refine CallM.mk rfl ?_ ?_))
        all_goals (try (conv => whnf))
        all_goals (try rfl)
        all_goals trace_state
      · repeat' ((conv => whnf); first | (with_reducible rfl) | exact True.intro | (with_reducible exact absTF) | (with_reducible exact absFT) | intro _ | refine And.intro ?_ ?_ | refine Fin.mk ?_ | refine CallG.plain rfl ?_ ?_ | refine CallG.mk rfl ?_ ?_ | refine CallG.nwl rfl ?_ ?_ | refine CallG.nw ?_ ?_ | refine CallF.nwl rfl ?_ ?_ | refine CallF.nw ?_ ?_ | refine AppN.mk ?_ | (refine CallS.q ?_; (conv => whnf); first | refine CallG.plain rfl ?_ ?_ | refine CallG.mk rfl ?_ ?_) | (refine CallS.m ?_; (conv => whnf); refine CallM.mk rfl ?_ ?_) | (refine CallS.h ?_; (conv => whnf); refine CallM.mk rfl ?_ ?_) | (refine CallS.b ?_; (conv => whnf); refine CallM.mk rfl ?_ ?_) | (refine CallS.z ?_; (conv => whnf); refine CallM.mk rfl ?_ ?_))
        all_goals (try (conv => whnf))
        all_goals (try (exact Ob.mk (u8_bnd _)))
        all_goals (try (refine Ob.mk ?_; first | exact True.intro | assumption | omega | (try simp only [decide_eq_true_eq, decide_eq_false_iff_not, beq_iff_eq, beq_eq_false_iff_ne, bne_iff_ne, bne_eq_false_iff_eq, ne_eq, Bool.and_eq_true, Bool.or_eq_true, Bool.not_eq_true, Bool.not_eq_false, Bool.not_eq_true', Bool.not_eq_false', Int.toNat_natCast, Int.not_lt, Int.not_le, UInt8.ofNat_toNat, cast_eq] at *; omega)))
        all_goals (try ((show (_:Int) = _); omega))
        all_goals (try (show tupSV _ = _; with_unfolding_all rfl))
        all_goals (try ((show (_ : Nat) ≤ _); (simp <;> omega)))
        all_goals (try ((show (_ : Nat) ≤ _ ∧ (_ : Nat) ≤ _); (simp <;> omega)))
        all_goals (try ((show (_ : Int) ≤ _ ∧ (_ : Int) ≤ _ ∧ (_ : Int) ≤ _ ∧ (_ : Int) ≤ _); (simp <;> omega)))
        all_goals (try simp only [decide_eq_true_eq, decide_eq_false_iff_not, beq_iff_eq, beq_eq_false_iff_ne, bne_iff_ne, bne_eq_false_iff_eq, ne_eq, Bool.and_eq_true, Bool.or_eq_true, Bool.not_eq_true, Bool.not_eq_false, Bool.not_eq_true', Bool.not_eq_false', Int.toNat_natCast, Int.not_lt, Int.not_le, UInt8.ofNat_toNat, cast_eq] at *)
        · exact hh.2 _ (getD_mem' (by omega))
        · rw [fin2_len s sp i hi]; omega
        · rw [fin2_len s sp i hi]; omega
        · skip
          have e := fin2_set s sp i (by omega)
          repeat' ((conv => whnf); first | (with_reducible rfl) | exact True.intro | (with_reducible exact absTF) | (with_reducible exact absFT) | intro _ | refine And.intro ?_ ?_ | refine Fin.mk ?_ | refine CallG.plain rfl ?_ ?_ | refine CallG.mk rfl ?_ ?_ | refine CallG.nwl rfl ?_ ?_ | refine CallG.nw ?_ ?_ | refine CallF.nwl rfl ?_ ?_ | refine CallF.nw ?_ ?_ | refine AppN.mk ?_ | (refine CallS.q ?_; (conv => whnf); first | refine CallG.plain rfl ?_ ?_ | refine CallG.mk rfl ?_ ?_) | (refine CallS.m ?_; (conv => whnf); refine CallM.mk rfl ?_ ?_) | (refine CallS.h ?_; (conv => whnf); refine CallM.mk rfl ?_ ?_) | (refine CallS.b ?_; (conv => whnf); refine CallM.mk rfl ?_ ?_) | (refine CallS.z ?_; (conv => whnf); refine CallM.mk rfl ?_ ?_))
          all_goals (try (conv => whnf))
          all_goals (try (exact Ob.mk (u8_bnd _)))
          all_goals (try (refine Ob.mk ?_; first | exact True.intro | assumption | omega | (try simp only [decide_eq_true_eq, decide_eq_false_iff_not, beq_iff_eq, beq_eq_false_iff_ne, bne_iff_ne, bne_eq_false_iff_eq, ne_eq, Bool.and_eq_true, Bool.or_eq_true, Bool.not_eq_true, Bool.not_eq_false, Bool.not_eq_true', Bool.not_eq_false', Int.toNat_natCast, Int.not_lt, Int.not_le, UInt8.ofNat_toNat, cast_eq] at *; omega)))
          all_goals (try ((show (_:Int) = _); omega))
          all_goals (try (show tupSV _ = _; with_unfolding_all rfl))
          all_goals (try ((show (_ : Nat) ≤ _); (simp <;> omega)))
          all_goals (try ((show (_ : Nat) ≤ _ ∧ (_ : Nat) ≤ _); (simp <;> omega)))
          all_goals (try ((show (_ : Int) ≤ _ ∧ (_ : Int) ≤ _ ∧ (_ : Int) ≤ _ ∧ (_ : Int) ≤ _); (simp <;> omega)))
          refine Rnd.mk ⟨i + 1, ?_, ?_, ?_⟩
          · omega
          · omega
          · repeat' ((conv => whnf); first | (with_reducible rfl) | exact True.intro | (with_reducible exact absTF) | (with_reducible exact absFT) | intro _ | refine And.intro ?_ ?_ | refine Fin.mk ?_ | refine CallG.plain rfl ?_ ?_ | refine CallG.mk rfl ?_ ?_ | refine CallG.nwl rfl ?_ ?_ | refine CallG.nw ?_ ?_ | refine CallF.nwl rfl ?_ ?_ | refine CallF.nw ?_ ?_ | refine AppN.mk ?_ | (refine CallS.q ?_; (conv => whnf); first | refine CallG.plain rfl ?_ ?_ | refine CallG.mk rfl ?_ ?_) | (refine CallS.m ?_; (conv => whnf); refine CallM.mk rfl ?_ ?_) | (refine CallS.h ?_; (conv => whnf); refine CallM.mk rfl ?_ ?_) | (refine CallS.b ?_; (conv => whnf); refine CallM.mk rfl ?_ ?_) | (refine CallS.z ?_; (conv => whnf); refine CallM.mk rfl ?_ ?_))
            all_goals (try (conv => whnf))
            all_goals (try (exact Ob.mk (u8_bnd _)))
            all_goals (try (refine Ob.mk ?_; first | exact True.intro | assumption | omega | (try simp only [decide_eq_true_eq, decide_eq_false_iff_not, beq_iff_eq, beq_eq_false_iff_ne, bne_iff_ne, bne_eq_false_iff_eq, ne_eq, Bool.and_eq_true, Bool.or_eq_true, Bool.not_eq_true, Bool.not_eq_false, Bool.not_eq_true', Bool.not_eq_false', Int.toNat_natCast, Int.not_lt, Int.not_le, UInt8.ofNat_toNat, cast_eq] at *; omega)))
            all_goals (try ((show (_:Int) = _); omega))
            all_goals (try (show tupSV _ = _; with_unfolding_all rfl))
            all_goals (try ((show (_ : Nat) ≤ _); (simp <;> omega)))
            all_goals (try ((show (_ : Nat) ≤ _ ∧ (_ : Nat) ≤ _); (simp <;> omega)))
            all_goals (try ((show (_ : Int) ≤ _ ∧ (_ : Int) ≤ _ ∧ (_ : Int) ≤ _ ∧ (_ : Int) ≤ _); (simp <;> omega)))
            all_goals (rw [← e]; rfl)
        · rw [fin2_end s sp i (by omega), hh.1]
end Go.Vc.W

namespace Go.Vc.W
open Go.Proofs
set_option linter.unusedVariables false
set_option maxRecDepth 10000
set_option linter.unusedSimpArgs false
instance f33 (s : List UInt8) : Fn BB 95 [.str s] (s.length ≤ 100000) (.rd .str (spl s)) := by
  refine Fn.intro (N := 5) [0, 2] [] Tryd.call95 Tryd.func95 rfl rfl (by kernel_rfl) (fun hpre => ?_)
  repeat' ((conv => whnf); first | (with_reducible rfl) | exact True.intro | (with_reducible exact absTF) | (with_reducible exact absFT) | intro _ | refine And.intro ?_ ?_ | refine Fin.mk ?_ | refine CallG.plain rfl ?_ ?_ | refine CallG.mk rfl ?_ ?_ | refine CallG.nwl rfl ?_ ?_ | refine CallG.nw ?_ ?_ | refine CallF.nwl rfl ?_ ?_ | refine CallF.nw ?_ ?_ | refine AppN.mk ?_ | (refine CallS.q ?_; (conv => whnf); first | refine CallG.plain rfl ?_ ?_ | refine CallG.mk rfl ?_ ?_) | (refine CallS.m ?_; (conv => whnf); refine CallM.mk rfl ?_ ?_) | (refine CallS.h ?_; (conv => whnf); refine CallM.mk rfl ?_ ?_) | (refine CallS.b ?_; (conv => whnf); refine CallM.mk rfl ?_ ?_) | (refine CallS.z ?_; (conv => whnf); refine CallM.mk rfl ?_ ?_))
  all_goals (try (conv => whnf))
  all_goals (try (exact Ob.mk (u8_bnd _)))
  all_goals (try (refine Ob.mk ?_; first | exact True.intro | assumption | omega | (try simp only [decide_eq_true_eq, decide_eq_false_iff_not, beq_iff_eq, beq_eq_false_iff_ne, bne_iff_ne, bne_eq_false_iff_eq, ne_eq, Bool.and_eq_true, Bool.or_eq_true, Bool.not_eq_true, Bool.not_eq_false, Bool.not_eq_true', Bool.not_eq_false', Int.toNat_natCast, Int.not_lt, Int.not_le, UInt8.ofNat_toNat, cast_eq] at *; omega)))
  all_goals (try ((show (_:Int) = _); omega))
  all_goals (try (show tupSV _ = _; with_unfolding_all rfl))
  all_goals (try ((show (_ : Nat) ≤ _); (simp <;> omega)))
  all_goals (try ((show (_ : Nat) ≤ _ ∧ (_ : Nat) ≤ _); (simp <;> omega)))
  all_goals (try ((show (_ : Int) ≤ _ ∧ (_ : Int) ≤ _ ∧ (_ : Int) ≤ _ ∧ (_ : Int) ≤ _); (simp <;> omega)))
instance f30 (s t : List UInt8) : Fn BB 113 [.str s, .str t] (s.length ≤ 4294967280) (.int .i64 (Lib.index s t)) := by
  refine Fn.lift Tryd.call113 fun hp r β w vs hG m hl => ?_
  obtain ⟨rfl, h1, h2⟩ := hl.str2
  obtain ⟨mm, e1⟩ := hG.len
  exact ⟨_, Tryd.strings_Index ⟨s.toArray⟩ ⟨t.toArray⟩ mm w (by show s.toArray.size < _; simp; omega) (cellR_at m.vis e1), .int⟩
end Go.Vc.W

namespace Go.Vc.W
open Go.Proofs
set_option linter.unusedVariables false
set_option maxRecDepth 10000
set_option linter.unusedSimpArgs false
def BOcc (s w : List UInt8) (j : Nat) : Prop := Lib.occAt s w j = true ∧ (j = 0 ∨ isSp (s.getD (j-1) 0).toNat = true) ∧ (j + w.length = s.length ∨ isSp (s.getD (j + w.length) 0).toNat = true)
/-- no word begins ahead of it -/
def NoB (s w : List UInt8) (a : Nat) : Prop := ∀ j, j < a → ¬ BOcc s w j
theorem occ_cut (s : List UInt8) (j i : Nat) (h : j ≤ i) (h2 : i ≤ s.length) : Lib.occAt s (cut s (j, i)) j = true := by
  unfold Lib.occAt cut
  rw [List.isPrefixOf_iff_prefix]
  simp only [Int.toNat_natCast]
  rw [List.drop_take]
  exact List.take_prefix _ _
theorem cut_len (s : List UInt8) (j i : Nat) (h : j ≤ i) (h2 : i ≤ s.length) : (cut s (j, i)).length = i - j := by
  simp [cut]; omega
theorem spAt_words (s : List UInt8) (i : Nat) (h : i ≤ s.length) :
    (∀ x ∈ (spAt s i).1, ¬ x = [] ∧ ∃ j, BOcc s x j) ∧ ∃ j, j ≤ i ∧ (spAt s i).2 = cut s ((j:Nat), (i:Nat)) ∧ (j = 0 ∨ isSp (s.getD (j-1) 0).toNat = true) := by
  induction i with
  | zero => exact ⟨by simp [spAt], 0, by simp, by simp [spAt, cut], Or.inl rfl⟩
  | succ i ih =>
    obtain ⟨ih1, j, hj, e, hb⟩ := ih (by omega)
    have es := spAt_succ s i (by omega)
    cases hc : isSp (s.getD i 0).toNat with
    | false =>
      rw [spStep_no hc] at es
      rw [es]
      exact ⟨ih1, j, by omega, by rw [cut_more s j i hj (by omega), ← e], hb⟩
    | true =>
      by_cases h2 : (spAt s i).2 = []
      · rw [spStep_sp hc h2] at es
        rw [es]
        exact ⟨ih1, i + 1, by omega, by simp [cut], Or.inr (by simpa using hc)⟩
      · rw [spStep_spw hc h2] at es
        rw [es]
        refine ⟨fun x hx => ?_, i + 1, by omega, by simp [cut], Or.inr (by simpa using hc)⟩
        rcases List.mem_append.mp hx with hx | hx
        · exact ih1 x hx
        · simp only [List.mem_singleton] at hx
          subst hx
          refine ⟨h2, j, ?_⟩
          rw [e]
          refine ⟨occ_cut s j i hj (by omega), hb, Or.inr ?_⟩
          rw [cut_len s j i hj (by omega)]
          have : j + (i - j) = i := by omega
          rw [this]; exact hc
theorem spl_words (s x : List UInt8) (h : (spl s).contains x = true) : ¬ x = [] ∧ ∃ j, BOcc s x j := by
  have hx : x ∈ spl s := by simpa using h
  obtain ⟨h1, j, hj, e, hb⟩ := spAt_words s s.length (Nat.le_refl _)
  by_cases h2 : (spAt s s.length).2 = []
  · rw [spl_e (Nat.le_refl _) h2] at hx; exact h1 x hx
  · rw [spl_w (Nat.le_refl _) h2] at hx
    rcases List.mem_append.mp hx with hx | hx
    · exact h1 x hx
    · simp only [List.mem_singleton] at hx
      subst hx
      refine ⟨h2, j, ?_⟩
      rw [e]
      refine ⟨occ_cut s j _ hj (Nat.le_refl _), hb, Or.inl ?_⟩
      rw [cut_len s j _ hj (Nat.le_refl _)]; omega
theorem spl_empty (s x : List UInt8) (h : x = []) : (spl s).contains x = false := by
  cases e : (spl s).contains x with
  | false => rfl
  | true => exact absurd h (spl_words s x e).1
theorem spl_noB (s x : List UInt8) (n : Nat) (hn : s.length ≤ n) (h0 : ¬ x = []) (h : NoB s x n) : (spl s).contains x = false := by
  cases e : (spl s).contains x with
  | false => rfl
  | true =>
    obtain ⟨j, hj⟩ := (spl_words s x e).2
    rcases Lib.occAt_room hj.1 with k | k
    · have : 0 < x.length := List.length_pos_iff.mpr h0
      exact absurd hj (h j (by omega))
    · exact absurd k h0
theorem least (f : Nat → Bool) (n : Nat) (h : f n = true) : ∃ m, f m = true ∧ ∀ j, j < m → f j = false := by
  induction n using Nat.strongRecOn with
  | _ n ih =>
    by_cases hh : ∃ j, j < n ∧ f j = true
    · obtain ⟨j, h1, h2⟩ := hh
      exact ih j h1 h2
    · refine ⟨n, h, fun j hj => ?_⟩
      cases e : f j with
      | false => rfl
      | true => exact absurd ⟨j, hj, e⟩ hh
theorem ixs (s w : List UInt8) (i : Nat) (hi : i ≤ s.length) (h0 : ¬ w = []) :
    (Lib.index (s.drop i) w = -1 ∧ ∀ j, i ≤ j → Lib.occAt s w j = false) ∨
    ∃ p : Nat, Lib.index (s.drop i) w = p ∧ i + p + w.length ≤ s.length ∧ Lib.occAt s w (i + p) = true ∧ ∀ j, i ≤ j → j < i + p → Lib.occAt s w j = false := by
  have sh : ∀ q, Lib.occAt (s.drop i) w q = Lib.occAt s w (i + q) := fun q => by simp [Lib.occAt, List.drop_drop]
  by_cases hh : ∃ q, Lib.occAt (s.drop i) w q = true
  · right
    obtain ⟨q, hq⟩ := hh
    obtain ⟨p, hd, hm⟩ := least _ q hq
    refine ⟨p, ?_⟩
    have hr : i + p + w.length ≤ s.length := by
      rcases Lib.occAt_room hd with k | k
      · have : 0 < w.length := List.length_pos_iff.mpr h0
        simp at k; omega
      · exact absurd k h0
    refine ⟨Lib.index_first (by simp; omega) hd hm, hr, by rw [← sh]; exact hd, fun j h1 h2 => ?_⟩
    have := hm (j - i) (by omega)
    rw [sh] at this
    have e : i + (j - i) = j := by omega
    rwa [e] at this
  · left
    have hm : ∀ q, Lib.occAt (s.drop i) w q = false := fun q => by
      cases e : Lib.occAt (s.drop i) w q with
      | false => rfl
      | true => exact absurd ⟨q, e⟩ hh
    refine ⟨Lib.index_none fun j _ => hm j, fun j h1 => ?_⟩
    have := hm (j - i)
    rw [sh] at this
    have e : i + (j - i) = j := by omega
    rwa [e] at this
end Go.Vc.W

namespace Go.Vc.W
open Go.Proofs
set_option linter.unusedVariables false
set_option maxRecDepth 10000
set_option linter.unusedSimpArgs false
theorem ixOf_has (l : List (List UInt8)) (w : List UInt8) : decide (ixOf l w ≥ 0) = l.contains w := by
  unfold ixOf
  cases h : l.contains w <;> simp
theorem nob_step {s w : List UInt8} {i p : Nat} (h : NoB s w i) (hp : ∀ j, i ≤ j → j < i + p → Lib.occAt s w j = false) (hb : ¬ BOcc s w (i + p)) : NoB s w (i + p + 1) := by
  intro j hj
  by_cases h1 : j < i
  · exact h j h1
  · by_cases h2 : j < i + p
    · intro e; have := hp j (by omega) h2; rw [e.1] at this; cases this
    · have : j = i + p := by omega
      subst this; exact hb
theorem nob_end {s w : List UInt8} {i : Nat} (h : NoB s w i) (hp : ∀ j, i ≤ j → Lib.occAt s w j = false) (n : Nat) : NoB s w n := by
  intro j hj
  by_cases h1 : j < i
  · exact h j h1
  · intro e; have := hp j (by omega); rw [e.1] at this; cases this
instance f26 (s w : List UInt8) : Fn BB 92 [.str s, .str w] (s.length ≤ 100000 ∧ w.length ≤ 100000) (.bool ((spl s).contains w)) := by
  refine Fn.intro (N := 52) [0, 1, 4, 5, 6, 7, 8, 10, 17, 45] [] Tryd.call92 Tryd.func92 rfl rfl (by kernel_rfl) (fun hpre => ?_)
  repeat' ((conv => whnf); first | (with_reducible rfl) | exact True.intro | (with_reducible exact absTF) | (with_reducible exact absFT) | intro _ | refine And.intro ?_ ?_ | refine Fin.mk ?_ | refine CallG.plain rfl ?_ ?_ | refine CallG.mk rfl ?_ ?_ | refine CallG.nwl rfl ?_ ?_ | refine CallG.nw ?_ ?_ | refine CallF.nwl rfl ?_ ?_ | refine CallF.nw ?_ ?_ | refine AppN.mk ?_ | (refine CallS.q ?_; (conv => whnf); first | refine CallG.plain rfl ?_ ?_ | refine CallG.mk rfl ?_ ?_) | (refine CallS.m ?_; (conv => whnf); refine CallM.mk rfl ?_ ?_) | (refine CallS.h ?_; (conv => whnf); refine CallM.mk rfl ?_ ?_) | (refine CallS.b ?_; (conv => whnf); refine CallM.mk rfl ?_ ?_) | (refine CallS.z ?_; (conv => whnf); refine CallM.mk rfl ?_ ?_))
  all_goals (try (conv => whnf))
  all_goals (try (exact Ob.mk (u8_bnd _)))
  all_goals (try (refine Ob.mk ?_; first | exact True.intro | assumption | omega | (try simp only [decide_eq_true_eq, decide_eq_false_iff_not, beq_iff_eq, beq_eq_false_iff_ne, bne_iff_ne, bne_eq_false_iff_eq, ne_eq, Bool.and_eq_true, Bool.or_eq_true, Bool.not_eq_true, Bool.not_eq_false, Bool.not_eq_true', Bool.not_eq_false', Int.toNat_natCast, Int.not_lt, Int.not_le, UInt8.ofNat_toNat, cast_eq] at *; omega)))
  all_goals (try ((show (_:Int) = _); omega))
  all_goals (try (show tupSV _ = _; with_unfolding_all rfl))
  all_goals (try ((show (_ : Nat) ≤ _); (simp <;> omega)))
  all_goals (try ((show (_ : Nat) ≤ _ ∧ (_ : Nat) ≤ _); (simp <;> omega)))
  all_goals (try ((show (_ : Int) ≤ _ ∧ (_ : Int) ≤ _ ∧ (_ : Int) ≤ _ ∧ (_ : Int) ≤ _); (simp <;> omega)))
  · rw [spl_empty s w (by simpa using ‹(w == []) = true›)]
  · have h0 : ¬ w = [] := by simpa using ‹(w == []) = false›
    refine LoopStop.mk (α := Nat) (fun i => [(5, .int .i64 i)]) (fun i => []) 0 (fun i => i ≤ s.length ∧ NoB s w i) (fun i => s.length + 1 - i) 0 ⟨by omega, fun j hj => absurd hj (by omega)⟩ ?_ (fun i hi => ?_)
    · repeat' ((conv => whnf); first | (with_reducible rfl) | exact True.intro | (with_reducible exact absTF) | (with_reducible exact absFT) | intro _ | refine And.intro ?_ ?_ | refine Fin.mk ?_ | refine CallG.plain rfl ?_ ?_ | refine CallG.mk rfl ?_ ?_ | refine CallG.nwl rfl ?_ ?_ | refine CallG.nw ?_ ?_ | refine CallF.nwl rfl ?_ ?_ | refine CallF.nw ?_ ?_ | refine AppN.mk ?_ | (refine CallS.q ?_; (conv => whnf); first | refine CallG.plain rfl ?_ ?_ | refine CallG.mk rfl ?_ ?_) | (refine CallS.m ?_; (conv => whnf); refine CallM.mk rfl ?_ ?_) | (refine CallS.h ?_; (conv => whnf); refine CallM.mk rfl ?_ ?_) | (refine CallS.b ?_; (conv => whnf); refine CallM.mk rfl ?_ ?_) | (refine CallS.z ?_; (conv => whnf); refine CallM.mk rfl ?_ ?_))
      all_goals (try (conv => whnf))
      all_goals (try rfl)
    · have hx := ixs s w i hi.1 h0
      have hl0 : 0 < w.length := List.length_pos_iff.mpr h0
      repeat' ((conv => whnf); first | (with_reducible rfl) | exact True.intro | (with_reducible exact absTF) | (with_reducible exact absFT) | intro _ | refine And.intro ?_ ?_ | refine Fin.mk ?_ | refine CallG.plain rfl ?_ ?_ | refine CallG.mk rfl ?_ ?_ | refine CallG.nwl rfl ?_ ?_ | refine CallG.nw ?_ ?_ | refine CallF.nwl rfl ?_ ?_ | refine CallF.nw ?_ ?_ | refine AppN.mk ?_ | (refine CallS.q ?_; (conv => whnf); first | refine CallG.plain rfl ?_ ?_ | refine CallG.mk rfl ?_ ?_) | (refine CallS.m ?_; (conv => whnf); refine CallM.mk rfl ?_ ?_) | (refine CallS.h ?_; (conv => whnf); refine CallM.mk rfl ?_ ?_) | (refine CallS.b ?_; (conv => whnf); refine CallM.mk rfl ?_ ?_) | (refine CallS.z ?_; (conv => whnf); refine CallM.mk rfl ?_ ?_))
      all_goals (try (conv => whnf))
      all_goals (try simp only [decide_eq_true_eq, decide_eq_false_iff_not, beq_iff_eq, beq_eq_false_iff_ne, bne_iff_ne, bne_eq_false_iff_eq, ne_eq, Bool.and_eq_true, Bool.or_eq_true, Bool.not_eq_true, Bool.not_eq_false, Bool.not_eq_true', Bool.not_eq_false', Int.toNat_natCast, Int.not_lt, Int.not_le, UInt8.ofNat_toNat, cast_eq] at *)
      all_goals (rcases hx with ⟨hx, hx2⟩ | ⟨p, hx, hx1, hx2, hx3⟩)
      all_goals (try (exfalso; omega))
      all_goals (try (exact Ob.mk (u8_bnd _)))
      all_goals (try (refine Ob.mk ?_; first | exact True.intro | assumption | omega | (try simp only [decide_eq_true_eq, decide_eq_false_iff_not, beq_iff_eq, beq_eq_false_iff_ne, bne_iff_ne, bne_eq_false_iff_eq, ne_eq, Bool.and_eq_true, Bool.or_eq_true, Bool.not_eq_true, Bool.not_eq_false, Bool.not_eq_true', Bool.not_eq_false', Int.toNat_natCast, Int.not_lt, Int.not_le, UInt8.ofNat_toNat, cast_eq] at *; omega)))
      all_goals (try ((show (_:Int) = _); omega))
      all_goals (try (show tupSV _ = _; with_unfolding_all rfl))
      all_goals (try ((show (_ : Nat) ≤ _); (simp <;> omega)))
      all_goals (try ((show (_ : Nat) ≤ _ ∧ (_ : Nat) ≤ _); (simp <;> omega)))
      all_goals (try ((show (_ : Int) ≤ _ ∧ (_ : Int) ≤ _ ∧ (_ : Int) ≤ _ ∧ (_ : Int) ≤ _); (simp <;> omega)))
      · rw [spl_noB s w s.length (Nat.le_refl _) h0 (nob_end hi.2 hx2 _)]
      · rw [ixOf_has]
      · have hb : ¬ BOcc s w (i + p) := by
          rintro ⟨b1, b2, b3⟩
          have e1 : ((i:Int) + (p:Int) - 1).toNat = i + p - 1 := by omega
          have e2 : ((i:Int) + (p:Int) + (w.length:Int)).toNat = i + p + w.length := by omega
          rename_i hc _ _
          rw [hx, e1, e2] at hc
          simp only [Bool.and_eq_false_iff, Bool.or_eq_false_iff, beq_eq_false_iff_ne] at hc
          rcases hc with ⟨c1, c2⟩ | ⟨c1, c2⟩
          · rcases b2 with b2 | b2
            · omega
            · rw [b2] at c2; cases c2
          · rcases b3 with b3 | b3
            · omega
            · rw [b3] at c2; cases c2
        refine Rnd.mk ⟨i + p + 1, ?_, ?_, ?_⟩
        · exact ⟨by omega, nob_step hi.2 hx3 hb⟩
        · omega
        · repeat' ((conv => whnf); first | (with_reducible rfl) | exact True.intro | (with_reducible exact absTF) | (with_reducible exact absFT) | intro _ | refine And.intro ?_ ?_ | refine Fin.mk ?_ | refine CallG.plain rfl ?_ ?_ | refine CallG.mk rfl ?_ ?_ | refine CallG.nwl rfl ?_ ?_ | refine CallG.nw ?_ ?_ | refine CallF.nwl rfl ?_ ?_ | refine CallF.nw ?_ ?_ | refine AppN.mk ?_ | (refine CallS.q ?_; (conv => whnf); first | refine CallG.plain rfl ?_ ?_ | refine CallG.mk rfl ?_ ?_) | (refine CallS.m ?_; (conv => whnf); refine CallM.mk rfl ?_ ?_) | (refine CallS.h ?_; (conv => whnf); refine CallM.mk rfl ?_ ?_) | (refine CallS.b ?_; (conv => whnf); refine CallM.mk rfl ?_ ?_) | (refine CallS.z ?_; (conv => whnf); refine CallM.mk rfl ?_ ?_))
          all_goals (try (conv => whnf))
          all_goals (try (exact Ob.mk (u8_bnd _)))
          all_goals (try (refine Ob.mk ?_; first | exact True.intro | assumption | omega | (try simp only [decide_eq_true_eq, decide_eq_false_iff_not, beq_iff_eq, beq_eq_false_iff_ne, bne_iff_ne, bne_eq_false_iff_eq, ne_eq, Bool.and_eq_true, Bool.or_eq_true, Bool.not_eq_true, Bool.not_eq_false, Bool.not_eq_true', Bool.not_eq_false', Int.toNat_natCast, Int.not_lt, Int.not_le, UInt8.ofNat_toNat, cast_eq] at *; omega)))
          all_goals (try ((show (_:Int) = _); omega))
          all_goals (try (show tupSV _ = _; with_unfolding_all rfl))
          all_goals (try ((show (_ : Nat) ≤ _); (simp <;> omega)))
          all_goals (try ((show (_ : Nat) ≤ _ ∧ (_ : Nat) ≤ _); (simp <;> omega)))
          all_goals (try ((show (_ : Int) ≤ _ ∧ (_ : Int) ≤ _ ∧ (_ : Int) ≤ _ ∧ (_ : Int) ≤ _); (simp <;> omega)))
end Go.Vc.W

namespace Go.Vc.W
open Go.Proofs
set_option linter.unusedVariables false
set_option maxRecDepth 10000
set_option linter.unusedSimpArgs false
def wordsB (l : List (List UInt8)) (m : Int) : Bool := decide ((l.length : Int) ≤ m) && l.all fun w => decide (w.length ≤ 100)
instance fWords (l : List (List UInt8)) (m : Int) : Fn BB 12 [.rd .str l, .int .i64 m] True (.bool (wordsB l m)) := by
  refine Fn.intro (N := 21) [0, 1, 4, 6, 10, 11, 12, 13, 14, 19] [] Tryd.call12 Tryd.func12 rfl rfl (by kernel_rfl) (fun hpre => ?_)
  repeat' ((conv => whnf); first | (with_reducible rfl) | exact True.intro | (with_reducible exact absTF) | (with_reducible exact absFT) | intro _ | refine And.intro ?_ ?_ | refine Fin.mk ?_ | refine CallG.plain rfl ?_ ?_ | refine CallG.mk rfl ?_ ?_ | refine CallG.nwl rfl ?_ ?_ | refine CallG.nw ?_ ?_ | refine CallF.nwl rfl ?_ ?_ | refine CallF.nw ?_ ?_ | refine AppN.mk ?_ | (refine CallS.q ?_; (conv => whnf); first | refine CallG.plain rfl ?_ ?_ | refine CallG.mk rfl ?_ ?_) | (refine CallS.m ?_; (conv => whnf); refine CallM.mk rfl ?_ ?_) | (refine CallS.h ?_; (conv => whnf); refine CallM.mk rfl ?_ ?_) | (refine CallS.b ?_; (conv => whnf); refine CallM.mk rfl ?_ ?_) | (refine CallS.z ?_; (conv => whnf); refine CallM.mk rfl ?_ ?_))
  all_goals (try (conv => whnf))
  all_goals (try (exact Ob.mk (u8_bnd _)))
  all_goals (try (refine Ob.mk ?_; first | exact True.intro | assumption | omega | (try simp only [decide_eq_true_eq, decide_eq_false_iff_not, beq_iff_eq, beq_eq_false_iff_ne, bne_iff_ne, bne_eq_false_iff_eq, ne_eq, Bool.and_eq_true, Bool.or_eq_true, Bool.not_eq_true, Bool.not_eq_false, Bool.not_eq_true', Bool.not_eq_false', Int.toNat_natCast, Int.not_lt, Int.not_le, UInt8.ofNat_toNat, cast_eq] at *; omega)))
  all_goals (try ((show (_:Int) = _); omega))
  all_goals (try (show tupSV _ = _; with_unfolding_all rfl))
  all_goals (try ((show (_ : Nat) ≤ _); (simp <;> omega)))
  all_goals (try ((show (_ : Nat) ≤ _ ∧ (_ : Nat) ≤ _); (simp <;> omega)))
  all_goals (try ((show (_ : Int) ≤ _ ∧ (_ : Int) ≤ _ ∧ (_ : Int) ≤ _ ∧ (_ : Int) ≤ _); (simp <;> omega)))
  all_goals (try simp only [decide_eq_true_eq, decide_eq_false_iff_not, beq_iff_eq, beq_eq_false_iff_ne, bne_iff_ne, bne_eq_false_iff_eq, ne_eq, Bool.and_eq_true, Bool.or_eq_true, Bool.and_eq_false_iff, Bool.or_eq_false_iff, Bool.not_eq_true, Bool.not_eq_false, Bool.not_eq_true', Bool.not_eq_false', Int.toNat_natCast, Int.not_lt, Int.not_le, ge_iff_le, gt_iff_lt, UInt8.ofNat_toNat, cast_eq] at *)
  · have : decide ((l.length : Int) ≤ m) = false := decide_eq_false (by omega)
    simp [wordsB, this]
  · refine LoopStop.mk (α := Nat) (fun i => [(13, .int .i64 i)]) (fun i => []) 60 (fun i => i ≤ l.length ∧ (l.take i).all (fun w => decide (w.length ≤ 100)) = true) (fun i => l.length - i) 0 (by simp) ?_ (fun i hi => ?_)
    · repeat' ((conv => whnf); first | (with_reducible rfl) | exact True.intro | (with_reducible exact absTF) | (with_reducible exact absFT) | intro _ | refine And.intro ?_ ?_ | refine Fin.mk ?_ | refine CallG.plain rfl ?_ ?_ | refine CallG.mk rfl ?_ ?_ | refine CallG.nwl rfl ?_ ?_ | refine CallG.nw ?_ ?_ | refine CallF.nwl rfl ?_ ?_ | refine CallF.nw ?_ ?_ | refine AppN.mk ?_ | (refine CallS.q ?_; (conv => whnf); first | refine CallG.plain rfl ?_ ?_ | refine CallG.mk rfl ?_ ?_) | (refine CallS.m ?_; (conv => whnf); refine CallM.mk rfl ?_ ?_) | (refine CallS.h ?_; (conv => whnf); refine CallM.mk rfl ?_ ?_) | (refine CallS.b ?_; (conv => whnf); refine CallM.mk rfl ?_ ?_) | (refine CallS.z ?_; (conv => whnf); refine CallM.mk rfl ?_ ?_))
      all_goals (try (conv => whnf))
      all_goals (try (exact Ob.mk (u8_bnd _)))
      all_goals (try (refine Ob.mk ?_; first | exact True.intro | assumption | omega | (try simp only [decide_eq_true_eq, decide_eq_false_iff_not, beq_iff_eq, beq_eq_false_iff_ne, bne_iff_ne, bne_eq_false_iff_eq, ne_eq, Bool.and_eq_true, Bool.or_eq_true, Bool.not_eq_true, Bool.not_eq_false, Bool.not_eq_true', Bool.not_eq_false', Int.toNat_natCast, Int.not_lt, Int.not_le, UInt8.ofNat_toNat, cast_eq] at *; omega)))
      all_goals (try ((show (_:Int) = _); omega))
      all_goals (try (show tupSV _ = _; with_unfolding_all rfl))
      all_goals (try ((show (_ : Nat) ≤ _); (simp <;> omega)))
      all_goals (try ((show (_ : Nat) ≤ _ ∧ (_ : Nat) ≤ _); (simp <;> omega)))
      all_goals (try ((show (_ : Int) ≤ _ ∧ (_ : Int) ≤ _ ∧ (_ : Int) ≤ _ ∧ (_ : Int) ≤ _); (simp <;> omega)))
      all_goals (try rfl)
    · obtain ⟨h1, h2⟩ := hi
      repeat' ((conv => whnf); first | (with_reducible rfl) | exact True.intro | (with_reducible exact absTF) | (with_reducible exact absFT) | intro _ | refine And.intro ?_ ?_ | refine Fin.mk ?_ | refine CallG.plain rfl ?_ ?_ | refine CallG.mk rfl ?_ ?_ | refine CallG.nwl rfl ?_ ?_ | refine CallG.nw ?_ ?_ | refine CallF.nwl rfl ?_ ?_ | refine CallF.nw ?_ ?_ | refine AppN.mk ?_ | (refine CallS.q ?_; (conv => whnf); first | refine CallG.plain rfl ?_ ?_ | refine CallG.mk rfl ?_ ?_) | (refine CallS.m ?_; (conv => whnf); refine CallM.mk rfl ?_ ?_) | (refine CallS.h ?_; (conv => whnf); refine CallM.mk rfl ?_ ?_) | (refine CallS.b ?_; (conv => whnf); refine CallM.mk rfl ?_ ?_) | (refine CallS.z ?_; (conv => whnf); refine CallM.mk rfl ?_ ?_))
      all_goals (try (conv => whnf))
      all_goals (try (exact Ob.mk (u8_bnd _)))
      all_goals (try (refine Ob.mk ?_; first | exact True.intro | assumption | omega | (try simp only [decide_eq_true_eq, decide_eq_false_iff_not, beq_iff_eq, beq_eq_false_iff_ne, bne_iff_ne, bne_eq_false_iff_eq, ne_eq, Bool.and_eq_true, Bool.or_eq_true, Bool.not_eq_true, Bool.not_eq_false, Bool.not_eq_true', Bool.not_eq_false', Int.toNat_natCast, Int.not_lt, Int.not_le, UInt8.ofNat_toNat, cast_eq] at *; omega)))
      all_goals (try ((show (_:Int) = _); omega))
      all_goals (try (show tupSV _ = _; with_unfolding_all rfl))
      all_goals (try ((show (_ : Nat) ≤ _); (simp <;> omega)))
      all_goals (try ((show (_ : Nat) ≤ _ ∧ (_ : Nat) ≤ _); (simp <;> omega)))
      all_goals (try ((show (_ : Int) ≤ _ ∧ (_ : Int) ≤ _ ∧ (_ : Int) ≤ _ ∧ (_ : Int) ≤ _); (simp <;> omega)))
      all_goals (try (simp only [Int.toNat_natCast, Int.reduceToNat, Ty.dflt, cast_eq] at *))
      all_goals (try simp only [decide_eq_true_eq, decide_eq_false_iff_not, beq_iff_eq, beq_eq_false_iff_ne, bne_iff_ne, bne_eq_false_iff_eq, ne_eq, Bool.and_eq_true, Bool.or_eq_true, Bool.and_eq_false_iff, Bool.or_eq_false_iff, Bool.not_eq_true, Bool.not_eq_false, Bool.not_eq_true', Bool.not_eq_false', Int.toNat_natCast, Int.not_lt, Int.not_le, ge_iff_le, gt_iff_lt, UInt8.ofNat_toNat, cast_eq] at *)
      all_goals (try omega)
      all_goals (try (have hlt : i < l.length := by omega))
      all_goals (try (have ht := take_snoc l i [] hlt))
      · have hm : l.getD i [] ∈ l := by simp [List.getD, List.getElem?_eq_getElem hlt]
        have : (l.all fun w => decide (w.length ≤ 100)) = false := by
          rw [List.all_eq_false]
          exact ⟨_, hm, by rw [decide_eq_true_eq]; omega⟩
        rw [wordsB, this, Bool.and_false]
      · refine Rnd.mk ⟨i + 1, ?_, ?_, ?_⟩
        · exact ⟨hlt, by rw [ht, List.all_append, h2, List.all_cons, List.all_nil, decide_eq_true (by omega)]; rfl⟩
        · omega
        · repeat' ((conv => whnf); first | (with_reducible rfl) | exact True.intro | (with_reducible exact absTF) | (with_reducible exact absFT) | intro _ | refine And.intro ?_ ?_ | refine Fin.mk ?_ | refine CallG.plain rfl ?_ ?_ | refine CallG.mk rfl ?_ ?_ | refine CallG.nwl rfl ?_ ?_ | refine CallG.nw ?_ ?_ | refine CallF.nwl rfl ?_ ?_ | refine CallF.nw ?_ ?_ | refine AppN.mk ?_ | (refine CallS.q ?_; (conv => whnf); first | refine CallG.plain rfl ?_ ?_ | refine CallG.mk rfl ?_ ?_) | (refine CallS.m ?_; (conv => whnf); refine CallM.mk rfl ?_ ?_) | (refine CallS.h ?_; (conv => whnf); refine CallM.mk rfl ?_ ?_) | (refine CallS.b ?_; (conv => whnf); refine CallM.mk rfl ?_ ?_) | (refine CallS.z ?_; (conv => whnf); refine CallM.mk rfl ?_ ?_))
          all_goals (try (conv => whnf))
          all_goals (try (exact Ob.mk (u8_bnd _)))
          all_goals (try (refine Ob.mk ?_; first | exact True.intro | assumption | omega | (try simp only [decide_eq_true_eq, decide_eq_false_iff_not, beq_iff_eq, beq_eq_false_iff_ne, bne_iff_ne, bne_eq_false_iff_eq, ne_eq, Bool.and_eq_true, Bool.or_eq_true, Bool.not_eq_true, Bool.not_eq_false, Bool.not_eq_true', Bool.not_eq_false', Int.toNat_natCast, Int.not_lt, Int.not_le, UInt8.ofNat_toNat, cast_eq] at *; omega)))
          all_goals (try ((show (_:Int) = _); omega))
          all_goals (try (show tupSV _ = _; with_unfolding_all rfl))
          all_goals (try ((show (_ : Nat) ≤ _); (simp <;> omega)))
          all_goals (try ((show (_ : Nat) ≤ _ ∧ (_ : Nat) ≤ _); (simp <;> omega)))
          all_goals (try ((show (_ : Int) ≤ _ ∧ (_ : Int) ≤ _ ∧ (_ : Int) ≤ _ ∧ (_ : Int) ≤ _); (simp <;> omega)))
      · have e : i = l.length := by omega
        rw [e, List.take_length] at h2
        rw [wordsB, h2, decide_eq_true (by omega)]; rfl
end Go.Vc.W

namespace Go.Vc
open Go.Proofs
set_option linter.unusedVariables false
set_option maxRecDepth 10000
set_option linter.unusedSimpArgs false
set_option maxHeartbeats 2000000
def upB (c : UInt8) : Bool := decide (65 ≤ c.toNat) && decide (c.toNat ≤ 90)
def lowB (c : UInt8) : UInt8 := if upB c then c + 32 else c
def lowL (s : List UInt8) : List UInt8 := s.map lowB
def lowAt (s : List UInt8) (i : Nat) : List UInt8 := (s.take i).map lowB ++ s.drop i
theorem lowAt_len (s : List UInt8) (i : Nat) (h : i ≤ s.length) : (lowAt s i).length = s.length := by simp [lowAt]; omega
theorem lowAt_get (s : List UInt8) (i : Nat) (h : i < s.length) : (lowAt s i).getD i 0 = s.getD i 0 := by
  unfold lowAt
  have hl : ((s.take i).map lowB).length = i := by simp; omega
  simp only [List.getD]
  rw [List.getElem?_append_right (by omega), hl]
  simp
theorem lowAt_set (s : List UInt8) (i : Nat) (h : i < s.length) : (lowAt s i).set i (lowB (s.getD i 0)) = lowAt s (i + 1) := by
  unfold lowAt
  have hl : ((s.take i).map lowB).length = i := by simp; omega
  rw [List.set_append_right _ _ (by omega), hl, Nat.sub_self, List.drop_eq_getElem_cons h, List.set_cons_zero, List.take_succ_eq_append_getElem h, List.map_append]
  simp [List.getD, List.getElem?_eq_getElem h]
theorem lowAt_same (s : List UInt8) (i : Nat) (h : i < s.length) (hu : upB (s.getD i 0) = false) : lowAt s (i + 1) = lowAt s i := by
  rw [← lowAt_set s i h]
  have : lowB (s.getD i 0) = s.getD i 0 := by unfold lowB; rw [hu]; rfl
  rw [this]
  have h2 := lowAt_get s i h
  have hl := lowAt_len s i (by omega)
  apply List.ext_getElem? 
  intro j
  rw [List.getElem?_set]
  split
  · rename_i e
    subst e
    rw [if_pos (by omega), ← h2]
    simp [List.getD, List.getElem?_eq_getElem (show i < (lowAt s i).length by omega)]
  · rfl
theorem lowAt_end (s : List UInt8) : lowAt s s.length = lowL s := by simp [lowAt, lowL]
theorem low_or (c : UInt8) (h : upB c = true) : UInt8.ofNat (bitsI .or .u8 (c.toNat : Int) 32).toNat = lowB c := by
  have key : ∀ k : _root_.Fin 256, upB (UInt8.ofNat k.val) = true → UInt8.ofNat (bitsI .or .u8 (k.val : Int) 32).toNat = lowB (UInt8.ofNat k.val) := by decide +kernel
  have := key ⟨c.toNat, c.toNat_lt⟩
  simp only [UInt8.ofNat_toNat] at this
  exact this h
theorem low_orb (c : UInt8) : 0 ≤ bitsI .or .u8 (c.toNat : Int) 32 ∧ bitsI .or .u8 (c.toNat : Int) 32 ≤ 255 := by
  have key : ∀ k : _root_.Fin 256, 0 ≤ bitsI .or .u8 (k.val : Int) 32 ∧ bitsI .or .u8 (k.val : Int) 32 ≤ 255 := by decide +kernel
  exact key ⟨c.toNat, c.toNat_lt⟩
theorem up_eq (c : UInt8) : (decide ((65 : Int) ≤ (c.toNat : Int)) && decide ((c.toNat : Int) ≤ 90)) = upB c := by
  unfold upB
  congr 1 <;> (rw [Bool.eq_iff_iff]; simp; try omega)
instance lLower (s : List UInt8) : Fn BB 56 [.str s] True (.str (lowL s)) := by
  refine Fn.intro (N := 29) [0, 2, 3, 4, 5, 8, 9, 10, 11, 20] [] Tryd.call56 Tryd.func56 rfl rfl (by kernel_rfl) (fun hpre => ?_)
  repeat' ((conv => whnf); first | (with_reducible rfl) | exact True.intro | (with_reducible exact absTF) | (with_reducible exact absFT) | intro _ | refine And.intro ?_ ?_ | refine Fin.mk ?_ | refine CallG.plain rfl ?_ ?_ | refine CallG.mk rfl ?_ ?_ | refine CallG.nwl rfl ?_ ?_ | refine CallG.nw ?_ ?_ | refine CallF.nwl rfl ?_ ?_ | refine CallF.nw ?_ ?_ | refine AppN.mk ?_ | (refine CallS.q ?_; (conv => whnf); first | refine CallG.plain rfl ?_ ?_ | refine CallG.mk rfl ?_ ?_) | (refine CallS.m ?_; (conv => whnf); refine CallM.mk rfl ?_ ?_) | (refine CallS.h ?_; (conv => whnf); refine CallM.mk rfl ?_ ?_) | (refine CallS.b ?_; (conv => whnf); refine CallM.mk rfl ?_ ?_) | (refine CallS.z ?_; (conv => whnf); refine CallM.mk rfl ?_ ?_))
  all_goals (try (conv => whnf))
  all_goals (try (exact Ob.mk (u8_bnd _)))
  all_goals (try (refine Ob.mk ?_; first | exact True.intro | assumption | omega | (try simp only [decide_eq_true_eq, decide_eq_false_iff_not, beq_iff_eq, beq_eq_false_iff_ne, bne_iff_ne, bne_eq_false_iff_eq, ne_eq, Bool.and_eq_true, Bool.or_eq_true, Bool.not_eq_true, Bool.not_eq_false, Bool.not_eq_true', Bool.not_eq_false', Int.toNat_natCast, Int.not_lt, Int.not_le, UInt8.ofNat_toNat, cast_eq] at *; omega)))
  all_goals (try ((show (_:Int) = _); omega))
  all_goals (try (show tupSV _ = _; with_unfolding_all rfl))
  all_goals (try ((show (_ : Nat) ≤ _); (simp <;> omega)))
  all_goals (try ((show (_ : Nat) ≤ _ ∧ (_ : Nat) ≤ _); (simp <;> omega)))
  all_goals (try ((show (_ : Int) ≤ _ ∧ (_ : Int) ≤ _ ∧ (_ : Int) ≤ _ ∧ (_ : Int) ≤ _); (simp <;> omega)))
  refine LoopStop.mk (α := Nat) (fun i => [(10, .int .i64 i)]) (fun i => [(0, .own .byte (lowAt s i))]) 20 (fun i => i ≤ s.length) (fun i => s.length + 1 - i) 0 (by simp) ?_ (fun i hi => ?_)
  · repeat' ((conv => whnf); first | (with_reducible rfl) | exact True.intro | (with_reducible exact absTF) | (with_reducible exact absFT) | intro _ | refine And.intro ?_ ?_ | refine Fin.mk ?_ | refine CallG.plain rfl ?_ ?_ | refine CallG.mk rfl ?_ ?_ | refine CallG.nwl rfl ?_ ?_ | refine CallG.nw ?_ ?_ | refine CallF.nwl rfl ?_ ?_ | refine CallF.nw ?_ ?_ | refine AppN.mk ?_ | (refine CallS.q ?_; (conv => whnf); first | refine CallG.plain rfl ?_ ?_ | refine CallG.mk rfl ?_ ?_) | (refine CallS.m ?_; (conv => whnf); refine CallM.mk rfl ?_ ?_) | (refine CallS.h ?_; (conv => whnf); refine CallM.mk rfl ?_ ?_) | (refine CallS.b ?_; (conv => whnf); refine CallM.mk rfl ?_ ?_) | (refine CallS.z ?_; (conv => whnf); refine CallM.mk rfl ?_ ?_))
    all_goals (try (conv => whnf))
    all_goals (try (exact Ob.mk (u8_bnd _)))
    all_goals (try (refine Ob.mk ?_; first | exact True.intro | assumption | omega | (try simp only [decide_eq_true_eq, decide_eq_false_iff_not, beq_iff_eq, beq_eq_false_iff_ne, bne_iff_ne, bne_eq_false_iff_eq, ne_eq, Bool.and_eq_true, Bool.or_eq_true, Bool.not_eq_true, Bool.not_eq_false, Bool.not_eq_true', Bool.not_eq_false', Int.toNat_natCast, Int.not_lt, Int.not_le, UInt8.ofNat_toNat, cast_eq] at *; omega)))
    all_goals (try ((show (_:Int) = _); omega))
    all_goals (try (show tupSV _ = _; with_unfolding_all rfl))
    all_goals (try ((show (_ : Nat) ≤ _); (simp <;> omega)))
    all_goals (try ((show (_ : Nat) ≤ _ ∧ (_ : Nat) ≤ _); (simp <;> omega)))
    all_goals (try ((show (_ : Int) ≤ _ ∧ (_ : Int) ≤ _ ∧ (_ : Int) ≤ _ ∧ (_ : Int) ≤ _); (simp <;> omega)))
    all_goals rfl
  · have hg := fun h => lowAt_get s i h
    have hst := fun h => lowAt_set s i h
    have hln := lowAt_len s i hi
    repeat' ((conv => whnf); first | (with_reducible rfl) | exact True.intro | (with_reducible exact absTF) | (with_reducible exact absFT) | intro _ | refine And.intro ?_ ?_ | refine Fin.mk ?_ | refine CallG.plain rfl ?_ ?_ | refine CallG.mk rfl ?_ ?_ | refine CallG.nwl rfl ?_ ?_ | refine CallG.nw ?_ ?_ | refine CallF.nwl rfl ?_ ?_ | refine CallF.nw ?_ ?_ | refine AppN.mk ?_ | (refine CallS.q ?_; (conv => whnf); first | refine CallG.plain rfl ?_ ?_ | refine CallG.mk rfl ?_ ?_) | (refine CallS.m ?_; (conv => whnf); refine CallM.mk rfl ?_ ?_) | (refine CallS.h ?_; (conv => whnf); refine CallM.mk rfl ?_ ?_) | (refine CallS.b ?_; (conv => whnf); refine CallM.mk rfl ?_ ?_) | (refine CallS.z ?_; (conv => whnf); refine CallM.mk rfl ?_ ?_))
    all_goals (try (conv => whnf))
    all_goals (try (exact Ob.mk (u8_bnd _)))
    all_goals (try (refine Ob.mk ?_; first | exact True.intro | assumption | omega | (try simp only [decide_eq_true_eq, decide_eq_false_iff_not, beq_iff_eq, beq_eq_false_iff_ne, bne_iff_ne, bne_eq_false_iff_eq, ne_eq, Bool.and_eq_true, Bool.or_eq_true, Bool.not_eq_true, Bool.not_eq_false, Bool.not_eq_true', Bool.not_eq_false', Int.toNat_natCast, Int.not_lt, Int.not_le, UInt8.ofNat_toNat, cast_eq] at *; omega)))
    all_goals (try ((show (_:Int) = _); omega))
    all_goals (try (show tupSV _ = _; with_unfolding_all rfl))
    all_goals (try ((show (_ : Nat) ≤ _); (simp <;> omega)))
    all_goals (try ((show (_ : Nat) ≤ _ ∧ (_ : Nat) ≤ _); (simp <;> omega)))
    all_goals (try ((show (_ : Int) ≤ _ ∧ (_ : Int) ≤ _ ∧ (_ : Int) ≤ _ ∧ (_ : Int) ≤ _); (simp <;> omega)))
    all_goals (try simp only [Int.toNat_natCast, Ty.dflt] at *)
    all_goals (first | exact low_orb _ | skip)
    · rename_i hl h
      have hl := of_decide_eq_true hl
      have h : upB ((lowAt s i).getD i 0) = true := (up_eq _).symm.trans h
      refine Rnd.mk ⟨i + 1, by omega, by omega, ?_⟩
      repeat' ((conv => whnf); first | (with_reducible rfl) | exact True.intro | (with_reducible exact absTF) | (with_reducible exact absFT) | intro _ | refine And.intro ?_ ?_ | refine Fin.mk ?_ | refine CallG.plain rfl ?_ ?_ | refine CallG.mk rfl ?_ ?_ | refine CallG.nwl rfl ?_ ?_ | refine CallG.nw ?_ ?_ | refine CallF.nwl rfl ?_ ?_ | refine CallF.nw ?_ ?_ | refine AppN.mk ?_ | (refine CallS.q ?_; (conv => whnf); first | refine CallG.plain rfl ?_ ?_ | refine CallG.mk rfl ?_ ?_) | (refine CallS.m ?_; (conv => whnf); refine CallM.mk rfl ?_ ?_) | (refine CallS.h ?_; (conv => whnf); refine CallM.mk rfl ?_ ?_) | (refine CallS.b ?_; (conv => whnf); refine CallM.mk rfl ?_ ?_) | (refine CallS.z ?_; (conv => whnf); refine CallM.mk rfl ?_ ?_))
      all_goals (try (conv => whnf))
      all_goals (try (exact Ob.mk (u8_bnd _)))
      all_goals (try (refine Ob.mk ?_; first | exact True.intro | assumption | omega | (try simp only [decide_eq_true_eq, decide_eq_false_iff_not, beq_iff_eq, beq_eq_false_iff_ne, bne_iff_ne, bne_eq_false_iff_eq, ne_eq, Bool.and_eq_true, Bool.or_eq_true, Bool.not_eq_true, Bool.not_eq_false, Bool.not_eq_true', Bool.not_eq_false', Int.toNat_natCast, Int.not_lt, Int.not_le, UInt8.ofNat_toNat, cast_eq] at *; omega)))
      all_goals (try ((show (_:Int) = _); omega))
      all_goals (try (show tupSV _ = _; with_unfolding_all rfl))
      all_goals (try ((show (_ : Nat) ≤ _); (simp <;> omega)))
      all_goals (try ((show (_ : Nat) ≤ _ ∧ (_ : Nat) ≤ _); (simp <;> omega)))
      all_goals (try ((show (_ : Int) ≤ _ ∧ (_ : Int) ≤ _ ∧ (_ : Int) ≤ _ ∧ (_ : Int) ≤ _); (simp <;> omega)))
      all_goals (rw [low_or _ h, hg (by omega), hst (by omega)])
    · rename_i hl h
      have hl := of_decide_eq_true hl
      have h : upB ((lowAt s i).getD i 0) = false := (up_eq _).symm.trans h
      rw [hg (by omega)] at h
      refine Rnd.mk ⟨i + 1, by omega, by omega, ?_⟩
      repeat' ((conv => whnf); first | (with_reducible rfl) | exact True.intro | (with_reducible exact absTF) | (with_reducible exact absFT) | intro _ | refine And.intro ?_ ?_ | refine Fin.mk ?_ | refine CallG.plain rfl ?_ ?_ | refine CallG.mk rfl ?_ ?_ | refine CallG.nwl rfl ?_ ?_ | refine CallG.nw ?_ ?_ | refine CallF.nwl rfl ?_ ?_ | refine CallF.nw ?_ ?_ | refine AppN.mk ?_ | (refine CallS.q ?_; (conv => whnf); first | refine CallG.plain rfl ?_ ?_ | refine CallG.mk rfl ?_ ?_) | (refine CallS.m ?_; (conv => whnf); refine CallM.mk rfl ?_ ?_) | (refine CallS.h ?_; (conv => whnf); refine CallM.mk rfl ?_ ?_) | (refine CallS.b ?_; (conv => whnf); refine CallM.mk rfl ?_ ?_) | (refine CallS.z ?_; (conv => whnf); refine CallM.mk rfl ?_ ?_))
      all_goals (try (conv => whnf))
      all_goals (try (exact Ob.mk (u8_bnd _)))
      all_goals (try (refine Ob.mk ?_; first | exact True.intro | assumption | omega | (try simp only [decide_eq_true_eq, decide_eq_false_iff_not, beq_iff_eq, beq_eq_false_iff_ne, bne_iff_ne, bne_eq_false_iff_eq, ne_eq, Bool.and_eq_true, Bool.or_eq_true, Bool.not_eq_true, Bool.not_eq_false, Bool.not_eq_true', Bool.not_eq_false', Int.toNat_natCast, Int.not_lt, Int.not_le, UInt8.ofNat_toNat, cast_eq] at *; omega)))
      all_goals (try ((show (_:Int) = _); omega))
      all_goals (try (show tupSV _ = _; with_unfolding_all rfl))
      all_goals (try ((show (_ : Nat) ≤ _); (simp <;> omega)))
      all_goals (try ((show (_ : Nat) ≤ _ ∧ (_ : Nat) ≤ _); (simp <;> omega)))
      all_goals (try ((show (_ : Int) ≤ _ ∧ (_ : Int) ≤ _ ∧ (_ : Int) ≤ _ ∧ (_ : Int) ≤ _); (simp <;> omega)))
      all_goals (rw [lowAt_same s i (by omega) h])
    · rename_i hl
      have hl := of_decide_eq_false hl
      have : i = s.length := by omega
      rw [this, lowAt_end]
end Go.Vc

namespace Go.Vc
set_option autoImplicit false
open Go.Lib
theorem occ1 (t : List UInt8) (c : UInt8) (j : Nat) : occAt t [c] j = (decide (j < t.length) && (t.getD j 0 == c)) := by
  unfold occAt
  by_cases h : j < t.length
  · rw [List.drop_eq_getElem_cons h]
    simp only [List.isPrefixOf, Bool.and_true, List.getD, List.getElem?_eq_getElem h, Option.getD_some, decide_eq_true h, Bool.true_and]
    exact BEq.comm
  · rw [List.drop_eq_nil_of_le (by omega)]
    simp [List.isPrefixOf, h]
theorem index1_spec (t : List UInt8) (c : UInt8) : (index t [c] = -1 ∧ ∀ j, j < t.length → t.getD j 0 ≠ c) ∨ (∃ i : Nat, index t [c] = i ∧ i < t.length ∧ t.getD i 0 = c ∧ ∀ j, j < i → t.getD j 0 ≠ c) := by
  rcases index_spec t [c] with ⟨h1, h2⟩ | ⟨i, h1, h2, h3, h4⟩
  · left
    refine ⟨h1, fun j hj hc => ?_⟩
    have := h2 j (by omega)
    rw [occ1, decide_eq_true hj, hc] at this
    simp at this
  · right
    rw [occ1] at h3
    simp only [Bool.and_eq_true, decide_eq_true_eq, beq_iff_eq] at h3
    refine ⟨i, h1, h3.1, h3.2, fun j hj hc => ?_⟩
    have := h4 j hj
    rw [occ1] at this
    have hjl : j < t.length := by omega
    rw [decide_eq_true hjl, hc, beq_self_eq_true] at this
    cases this
end Go.Vc

namespace Go.Vc
open Go.Proofs
set_option linter.unusedVariables false


set_option maxRecDepth 10000
set_option maxHeartbeats 2000000
set_option linter.unusedSimpArgs false
theorem or32 (c : Int) (h : 0 ≤ c ∧ c ≤ 255) : (decide (97 ≤ bitsI .or .u8 c 32) && decide (bitsI .or .u8 c 32 ≤ 122)) = alI c := by
  have key : ∀ k : _root_.Fin 256, (decide (97 ≤ bitsI .or .u8 (k.val : Int) 32) && decide (bitsI .or .u8 (k.val : Int) 32 ≤ 122)) = alI (k.val : Int) := by decide +kernel
  have := key ⟨c.toNat, by omega⟩
  have e : ((c.toNat : Nat) : Int) = c := by omega
  simp only [e] at this
  exact this
theorem wrap32 (n : Int) (h : -2147483648 ≤ n ∧ n ≤ 2147483647) : IntKind.i32.wrap n = n := wrap_kIn (k := .i32) h
instance fLet (c : Int) : Fn BB 54 [.int .u8 c] (0 ≤ c ∧ c ≤ 255) (.bool (alI c)) := by
  refine Fn.intro (N := 11) [0, 2] [] Tryd.call54 Tryd.func54 rfl rfl (by kernel_rfl) (fun hpre => ?_)
  repeat' ((conv => whnf); first | (with_reducible rfl) | exact True.intro | (with_reducible exact absTF) | (with_reducible exact absFT) | intro _ | refine And.intro ?_ ?_ | refine Fin.mk ?_ | refine CallG.plain rfl ?_ ?_ | refine CallG.mk rfl ?_ ?_ | refine CallG.nwl rfl ?_ ?_ | refine CallG.nw ?_ ?_ | refine CallF.nwl rfl ?_ ?_ | refine CallF.nw ?_ ?_ | refine AppN.mk ?_ | (refine CallS.q ?_; (conv => whnf); first | refine CallG.plain rfl ?_ ?_ | refine CallG.mk rfl ?_ ?_) | (refine CallS.m ?_; (conv => whnf); refine CallM.mk rfl ?_ ?_) | (refine CallS.h ?_; (conv => whnf); refine CallM.mk rfl ?_ ?_) | (refine CallS.b ?_; (conv => whnf); refine CallM.mk rfl ?_ ?_) | (refine CallS.z ?_; (conv => whnf); refine CallM.mk rfl ?_ ?_))
  all_goals (try (conv => whnf))
  rw [or32 c hpre]
instance fRLet (c : Int) : Fn BB 58 [.int .u8 c] True (.bool (alI c)) := by
  refine Fn.intro (N := 17) [0, 2] [] Tryd.call58 Tryd.func58 rfl rfl (by kernel_rfl) (fun hpre => ?_)
  repeat' ((conv => whnf); first | (with_reducible rfl) | exact True.intro | (with_reducible exact absTF) | (with_reducible exact absFT) | intro _ | refine And.intro ?_ ?_ | refine Fin.mk ?_ | refine CallG.plain rfl ?_ ?_ | refine CallG.mk rfl ?_ ?_ | refine CallG.nwl rfl ?_ ?_ | refine CallG.nw ?_ ?_ | refine CallF.nwl rfl ?_ ?_ | refine CallF.nw ?_ ?_ | refine AppN.mk ?_ | (refine CallS.q ?_; (conv => whnf); first | refine CallG.plain rfl ?_ ?_ | refine CallG.mk rfl ?_ ?_) | (refine CallS.m ?_; (conv => whnf); refine CallM.mk rfl ?_ ?_) | (refine CallS.h ?_; (conv => whnf); refine CallM.mk rfl ?_ ?_) | (refine CallS.b ?_; (conv => whnf); refine CallM.mk rfl ?_ ?_) | (refine CallS.z ?_; (conv => whnf); refine CallM.mk rfl ?_ ?_))
  all_goals (try (conv => whnf))
  rfl
def okR (n : Int) : Bool := decide ((0 ≤ n ∧ n < 55296) ∨ (57343 < n ∧ n ≤ 1114111))
instance fVR (n : Int) : Fn BB 74 [.int .i32 n] True (.bool (okR n)) := by
  refine Fn.intro (N := 17) [0, 2, 3, 10] [] Tryd.call74 Tryd.func74 rfl rfl (by kernel_rfl) (fun hpre => ?_)
  repeat' ((conv => whnf); first | (with_reducible rfl) | exact True.intro | (with_reducible exact absTF) | (with_reducible exact absFT) | intro _ | refine And.intro ?_ ?_ | refine Fin.mk ?_ | refine CallG.plain rfl ?_ ?_ | refine CallG.mk rfl ?_ ?_ | refine CallG.nwl rfl ?_ ?_ | refine CallG.nw ?_ ?_ | refine CallF.nwl rfl ?_ ?_ | refine CallF.nw ?_ ?_ | refine AppN.mk ?_ | (refine CallS.q ?_; (conv => whnf); first | refine CallG.plain rfl ?_ ?_ | refine CallG.mk rfl ?_ ?_) | (refine CallS.m ?_; (conv => whnf); refine CallM.mk rfl ?_ ?_) | (refine CallS.h ?_; (conv => whnf); refine CallM.mk rfl ?_ ?_) | (refine CallS.b ?_; (conv => whnf); refine CallM.mk rfl ?_ ?_) | (refine CallS.z ?_; (conv => whnf); refine CallM.mk rfl ?_ ?_))
  all_goals (try (conv => whnf))
  all_goals (simp_all [okR]; try omega)
theorem enc_bad : ([239, 191, 189] : List UInt8) = (Utf8.encode 65533).data.toList := by decide
theorem enc_bad2 : (Utf8.encode (IntKind.i32.wrap 65533)).data.toList = (Utf8.encode 65533).data.toList := by decide
instance fEnc (n : Int) : Fn BB 31 [.int .i64 n] True (.str (encN n)) := by
  refine Fn.intro (N := 18) [0, 2, 14] [] Tryd.call31 Tryd.func31 rfl rfl (by kernel_rfl) (fun hpre => ?_)
  repeat' ((conv => whnf); first | (with_reducible rfl) | exact True.intro | (with_reducible exact absTF) | (with_reducible exact absFT) | intro _ | refine And.intro ?_ ?_ | refine Fin.mk ?_ | refine CallG.plain rfl ?_ ?_ | refine CallG.mk rfl ?_ ?_ | refine CallG.nwl rfl ?_ ?_ | refine CallG.nw ?_ ?_ | refine CallF.nwl rfl ?_ ?_ | refine CallF.nw ?_ ?_ | refine AppN.mk ?_ | (refine CallS.q ?_; (conv => whnf); first | refine CallG.plain rfl ?_ ?_ | refine CallG.mk rfl ?_ ?_) | (refine CallS.m ?_; (conv => whnf); refine CallM.mk rfl ?_ ?_) | (refine CallS.h ?_; (conv => whnf); refine CallM.mk rfl ?_ ?_) | (refine CallS.b ?_; (conv => whnf); refine CallM.mk rfl ?_ ?_) | (refine CallS.z ?_; (conv => whnf); refine CallM.mk rfl ?_ ?_))
  all_goals (try (conv => whnf))
  all_goals (try (exact Ob.mk (u8_bnd _)))
  all_goals (try (refine Ob.mk ?_; first | exact True.intro | assumption | omega | (try simp only [decide_eq_true_eq, decide_eq_false_iff_not, beq_iff_eq, beq_eq_false_iff_ne, bne_iff_ne, bne_eq_false_iff_eq, ne_eq, Bool.and_eq_true, Bool.or_eq_true, Bool.not_eq_true, Bool.not_eq_false, Bool.not_eq_true', Bool.not_eq_false', Int.toNat_natCast, Int.not_lt, Int.not_le, UInt8.ofNat_toNat, cast_eq] at *; omega)))
  all_goals (try ((show (_:Int) = _); omega))
  all_goals (try (show tupSV _ = _; with_unfolding_all rfl))
  all_goals (try ((show (_ : Nat) ≤ _); (simp <;> omega)))
  all_goals (try ((show (_ : Nat) ≤ _ ∧ (_ : Nat) ≤ _); (simp <;> omega)))
  all_goals (try ((show (_ : Int) ≤ _ ∧ (_ : Int) ≤ _ ∧ (_ : Int) ≤ _ ∧ (_ : Int) ≤ _); (simp <;> omega)))
  all_goals (try simp only [decide_eq_true_eq, decide_eq_false_iff_not, beq_iff_eq, beq_eq_false_iff_ne, bne_iff_ne, bne_eq_false_iff_eq, ne_eq, Bool.and_eq_true, Bool.or_eq_true, Bool.and_eq_false_iff, Bool.or_eq_false_iff, Bool.not_eq_true, Bool.not_eq_false, Bool.not_eq_true', Bool.not_eq_false', Int.toNat_natCast, Int.not_lt, Int.not_le, ge_iff_le, gt_iff_lt, UInt8.ofNat_toNat, cast_eq] at *)
  · rename_i h
    have : n < 0 ∨ n > 1114111 ∨ (55296 ≤ n ∧ n ≤ 57343) := by
      rcases h with (h | h) | h
      · exact .inl h
      · exact .inr (.inl h)
      · by_cases h1 : n < 0 ∨ n > 1114111
        · omega
        · rw [wrap32 n (by omega)] at h
          simp only [okR, decide_eq_false_iff_not] at h
          omega
    unfold encN
    rw [if_pos this, enc_bad]
  · rename_i h
    obtain ⟨⟨h1, h2⟩, h3⟩ := h
    rw [wrap32 n (by omega)] at h3 ⊢
    simp only [okR, decide_eq_true_eq] at h3
    unfold encN
    rw [if_neg (by omega)]
instance fREnc (n : Int) : Fn BB 32 [.int .i64 n] True (.str (encN n)) := by
  refine Fn.intro (N := 20) [0, 2, 16] [] Tryd.call32 Tryd.func32 rfl rfl (by kernel_rfl) (fun hpre => ?_)
  repeat' ((conv => whnf); first | (with_reducible rfl) | exact True.intro | (with_reducible exact absTF) | (with_reducible exact absFT) | intro _ | refine And.intro ?_ ?_ | refine Fin.mk ?_ | refine CallG.plain rfl ?_ ?_ | refine CallG.mk rfl ?_ ?_ | refine CallG.nwl rfl ?_ ?_ | refine CallG.nw ?_ ?_ | refine CallF.nwl rfl ?_ ?_ | refine CallF.nw ?_ ?_ | refine AppN.mk ?_ | (refine CallS.q ?_; (conv => whnf); first | refine CallG.plain rfl ?_ ?_ | refine CallG.mk rfl ?_ ?_) | (refine CallS.m ?_; (conv => whnf); refine CallM.mk rfl ?_ ?_) | (refine CallS.h ?_; (conv => whnf); refine CallM.mk rfl ?_ ?_) | (refine CallS.b ?_; (conv => whnf); refine CallM.mk rfl ?_ ?_) | (refine CallS.z ?_; (conv => whnf); refine CallM.mk rfl ?_ ?_))
  all_goals (try (conv => whnf))
  all_goals (try (exact Ob.mk (u8_bnd _)))
  all_goals (try (refine Ob.mk ?_; first | exact True.intro | assumption | omega | (try simp only [decide_eq_true_eq, decide_eq_false_iff_not, beq_iff_eq, beq_eq_false_iff_ne, bne_iff_ne, bne_eq_false_iff_eq, ne_eq, Bool.and_eq_true, Bool.or_eq_true, Bool.not_eq_true, Bool.not_eq_false, Bool.not_eq_true', Bool.not_eq_false', Int.toNat_natCast, Int.not_lt, Int.not_le, UInt8.ofNat_toNat, cast_eq] at *; omega)))
  all_goals (try ((show (_:Int) = _); omega))
  all_goals (try (show tupSV _ = _; with_unfolding_all rfl))
  all_goals (try ((show (_ : Nat) ≤ _); (simp <;> omega)))
  all_goals (try ((show (_ : Nat) ≤ _ ∧ (_ : Nat) ≤ _); (simp <;> omega)))
  all_goals (try ((show (_ : Int) ≤ _ ∧ (_ : Int) ≤ _ ∧ (_ : Int) ≤ _ ∧ (_ : Int) ≤ _); (simp <;> omega)))
  all_goals (try simp only [decide_eq_true_eq, decide_eq_false_iff_not, beq_iff_eq, beq_eq_false_iff_ne, bne_iff_ne, bne_eq_false_iff_eq, ne_eq, Bool.and_eq_true, Bool.or_eq_true, Bool.and_eq_false_iff, Bool.or_eq_false_iff, Bool.not_eq_true, Bool.not_eq_false, Bool.not_eq_true', Bool.not_eq_false', Int.toNat_natCast, Int.not_lt, Int.not_le, ge_iff_le, gt_iff_lt, UInt8.ofNat_toNat, cast_eq] at *)
  · unfold encN
    rw [if_pos (by omega), enc_bad2]
  · unfold encN
    rw [if_neg (by omega), wrap32 n (by omega)]
end Go.Vc

namespace Go.Vc
open Go.Proofs
set_option linter.unusedVariables false
set_option maxRecDepth 10000
set_option linter.unusedSimpArgs false
instance fIB (s : List UInt8) (c : Int) : Fn BB 55 [.str s, .int .u8 c] True (.int .i64 (Lib.indexByte s c.toNat.toUInt8)) := by
  refine ⟨Tryd.call55, fun _ r β w vs hG m hl => ?_⟩
  obtain ⟨v1, vs1, rfl, h1, hl⟩ := hl.uncons
  obtain ⟨v2, vs2, rfl, h2, hl⟩ := hl.uncons
  obtain rfl := hl.nil_inv
  cases h1; cases h2
  refine (Tryd.strings_IndexByte ⟨s.toArray⟩ c w).mono fun e w' hh => ?_
  obtain ⟨rfl, rfl⟩ := hh
  exact ⟨_, _, r, β, [], rfl, ⟨rfl, rfl⟩, by simpa using (Rel.int), m, Mem.le_refl r, Hid.refl ..⟩
end Go.Vc
