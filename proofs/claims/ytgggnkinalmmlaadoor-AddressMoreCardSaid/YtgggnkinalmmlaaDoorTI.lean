/- A part of the proof: lemmas and walks that the last text of the claim joins; no condition. -/
import Derived.Test.YtgggnkinalmmlaaDoorVcH
import Derived.Laws.Externs
import Derived.Shelf.Unicode.DecodeSlow
import Derived.Test.YtgggnkinalmmlaaDoorChecked
import Derived.Shelf.Spec.SlicesInsert
import Derived.Shelf.Spec.SlicesInsertGrow
import Derived.Shelf.Strings.Builder1
import Derived.Shelf.Strings.Builder2
import Derived.Shelf.Small.Utf8
import Derived.Shelf.Small.Strs
import Derived.Shelf.Utf8.RuneCount
import Derived.Shelf.Strings.Builder2Cap
import Derived.Shelf.Strings.Search1
import Derived.Shelf.Strings.Search2
import Derived.Shelf.Strings.Search3
import Derived.Shelf.Strings.Cut
import Derived.Shelf.Strings.Count
import Derived.Shelf.LaysM
import Derived.Shelf.Strings.Shaped
import Derived.Shelf.Strings.Split
import Derived.Shelf.Strings.Replace
import Derived.Shelf.Strings.SplitShaped
import Derived.Shelf.Unicode.Decode
import Derived.Shelf.Strings.Runes
import Derived.Shelf.Strings.RuneCount
import Derived.Shelf.Strings.IndexAny
import Derived.Shelf.Strings.AsciiSet
import Derived.Shelf.Strings.IndexAnyAll
import Derived.Shelf.Unicode.DecodeAny
import Derived.Shelf.Unicode.DecodeLast
import Derived.Shelf.Slices.Turned
import Derived.Test.YtgggnkinalmmlaaDoorProg
import Derived.Lib.TrimUEq
import Derived.Lib.TrimU
set_option linter.unusedVariables false
set_option linter.unusedSimpArgs false
namespace Go.Vc
open Go.Proofs
set_option linter.unusedVariables false
theorem mixed : Tryd.prog.follows .mixedOrders = true := by kernel_rfl
abbrev intTy : Ty := .int .i64
abbrev spTy : Ty := .pr intTy intTy
abbrev attrTy : Ty := .pr .str .str
abbrev nodeTy : Ty := .pr intTy (.pr intTy (.pr .str (.pr (.sl attrTy) (.pr .str (.pr intTy (.sl intTy))))))
def tyB (t : TypeId) : Option Ty :=
  bif Nat.beq t 3 then some intTy else bif Nat.beq t 4 then some .bool else bif Nat.beq t 5 then some .byte else bif Nat.beq t 9 then some .str else bif Nat.beq t 51 then some attrTy else bif Nat.beq t 49 then some nodeTy else bif Nat.beq t 141 then some spTy else bif Nat.beq t 22 then some (.sl .str) else none
def eqsB (t : TypeId) : Bool := Nat.beq t 51
theorem eqsB_ok : ∀ t, eqsB t = true → Tryd.prog.stoodInHeld t = false ∧ Tryd.prog.eqGuardType Tryd.prog.depth t = false ∧ ((Tryd.prog.fieldsOf t).toList.all fun f => f.name != "_") = true := by
  intro t h
  obtain rfl := beq_of h
  exact ⟨by kernel_rfl, by kernel_rfl, by kernel_rfl⟩
def neB (f : FuncId) : Bool := Nat.beq f 130
theorem neB_ok : ∀ f, neB f = true → ∀ (x : Value) (w : World), (callFunc f #[x]).run Tryd.prog w = .ok (.value x) w := by
  intro f h x w
  obtain rfl := beq_of h
  rw [run_callFunc_extern Tryd.func130 (by kernel_rfl) (by kernel_rfl) (by kernel_rfl) (e := Extern.AbiNoEscape.same) (by kernel_rfl)]
  rfl
def tbB (t : TypeId) : Bool := Nat.beq t 76
/-- a cell of the memory that does not change -/
def cellR (r : Mem) (b o : Nat) : Option Value := match r b with | some (.cells c _ _) => c[o]? | _ => none
theorem cellR_le {r r' : Mem} (h : r.le r') {b o v} (hc : cellR r b o = some v) : cellR r' b o = some v := by
  unfold cellR at hc ⊢
  cases hr : r b with
  | none => rw [hr] at hc; cases hc
  | some x => rw [hr] at hc; rw [h b x hr]; exact hc
theorem cellR_at {r : Mem} {w : World} (hv : ∀ b o, r b = some o → w.heap[b]? = some o) {b o v} (hc : cellR r b o = some v) : w.cell? ⟨b, o, none⟩ = some v := by
  unfold cellR at hc
  cases hr : r b with
  | none => rw [hr] at hc; cases hc
  | some x =>
    rw [hr] at hc
    have := hv b x hr
    cases x <;> simp only at hc <;> first | (cases hc; done) | skip
    simp only [World.cell?, this]
    exact hc
/-- the library's two tables, and a number -/
structure GB (r : Mem) : Prop where
  first : ∀ c, c < 256 → cellR r 0 c = some (.int .u8 (Lib.firstT c))
  acc : ∀ i, i < 16 → cellR r 1 (2 * i) = some (.int .u8 (Lib.accLo i)) ∧ cellR r 1 (2 * i + 1) = some (.int .u8 (Lib.accHi i))
  len : ∃ m : Int, cellR r 2 0 = some (.int .i64 m)
theorem GB.le {r r' : Mem} (h : r.le r') (g : GB r) : GB r' :=
  ⟨fun c hc => cellR_le h (g.first c hc), fun i hi => ⟨cellR_le h (g.acc i hi).1, cellR_le h (g.acc i hi).2⟩, g.len.elim fun m hm => ⟨m, cellR_le h hm⟩⟩
theorem GB.tabs {r : Mem} {w : World} (g : GB r) (hv : ∀ b o, r b = some o → w.heap[b]? = some o) : Lib.Utf8Tabs 0 1 w :=
  ⟨fun c hc => cellR_at hv (g.first c hc), fun i hi => ⟨cellR_at hv (g.acc i hi).1, cellR_at hv (g.acc i hi).2⟩⟩
noncomputable abbrev BB : Base := { P := Tryd.prog, mixed := mixed, G := GB, mono := fun r r' h g => g.le h, ty0 := tyB, eqs := eqsB, eqs_ok := eqsB_ok, ne := neB, ne_ok := neB_ok, tb := tbB }

set_option maxRecDepth 10000
@[simp] theorem bytes1 : bytesT Tryd.prog 1 = 8 := rfl
@[simp] theorem bytesB1 : bytesT BB.P 1 = 8 := rfl
@[simp] theorem bytes2 : bytesT Tryd.prog 2 = 8 := rfl
@[simp] theorem bytesB2 : bytesT BB.P 2 = 8 := rfl
@[simp] theorem bytes3 : bytesT Tryd.prog 3 = 8 := rfl
@[simp] theorem bytesB3 : bytesT BB.P 3 = 8 := rfl
@[simp] theorem bytes4 : bytesT Tryd.prog 4 = 1 := rfl
@[simp] theorem bytesB4 : bytesT BB.P 4 = 1 := rfl
@[simp] theorem bytes5 : bytesT Tryd.prog 5 = 1 := rfl
@[simp] theorem bytesB5 : bytesT BB.P 5 = 1 := rfl
@[simp] theorem bytes6 : bytesT Tryd.prog 6 = 1 := rfl
@[simp] theorem bytesB6 : bytesT BB.P 6 = 1 := rfl
@[simp] theorem bytes7 : bytesT Tryd.prog 7 = 24 := rfl
@[simp] theorem bytesB7 : bytesT BB.P 7 = 24 := rfl
@[simp] theorem bytes8 : bytesT Tryd.prog 8 = 24 := rfl
@[simp] theorem bytesB8 : bytesT BB.P 8 = 24 := rfl
@[simp] theorem bytes9 : bytesT Tryd.prog 9 = 16 := rfl
@[simp] theorem bytesB9 : bytesT BB.P 9 = 16 := rfl
@[simp] theorem bytes10 : bytesT Tryd.prog 10 = 16 := rfl
@[simp] theorem bytesB10 : bytesT BB.P 10 = 16 := rfl
@[simp] theorem bytes11 : bytesT Tryd.prog 11 = 16 := rfl
@[simp] theorem bytesB11 : bytesT BB.P 11 = 16 := rfl
@[simp] theorem bytes12 : bytesT Tryd.prog 12 = 8 := rfl
@[simp] theorem bytesB12 : bytesT BB.P 12 = 8 := rfl
@[simp] theorem bytes13 : bytesT Tryd.prog 13 = 24 := rfl
@[simp] theorem bytesB13 : bytesT BB.P 13 = 24 := rfl
@[simp] theorem bytes14 : bytesT Tryd.prog 14 = 24 := rfl
@[simp] theorem bytesB14 : bytesT BB.P 14 = 24 := rfl
@[simp] theorem bytes15 : bytesT Tryd.prog 15 = 8 := rfl
@[simp] theorem bytesB15 : bytesT BB.P 15 = 8 := rfl
@[simp] theorem bytes16 : bytesT Tryd.prog 16 = 8 := rfl
@[simp] theorem bytesB16 : bytesT BB.P 16 = 8 := rfl
@[simp] theorem bytes17 : bytesT Tryd.prog 17 = 8 := rfl
@[simp] theorem bytesB17 : bytesT BB.P 17 = 8 := rfl
@[simp] theorem bytes18 : bytesT Tryd.prog 18 = 8 := rfl
@[simp] theorem bytesB18 : bytesT BB.P 18 = 8 := rfl
@[simp] theorem bytes19 : bytesT Tryd.prog 19 = 8 := rfl
@[simp] theorem bytesB19 : bytesT BB.P 19 = 8 := rfl
@[simp] theorem bytes20 : bytesT Tryd.prog 20 = 16 := rfl
@[simp] theorem bytesB20 : bytesT BB.P 20 = 16 := rfl
@[simp] theorem bytes21 : bytesT Tryd.prog 21 = 4 := rfl
@[simp] theorem bytesB21 : bytesT BB.P 21 = 4 := rfl
@[simp] theorem bytes22 : bytesT Tryd.prog 22 = 24 := rfl
@[simp] theorem bytesB22 : bytesT BB.P 22 = 24 := rfl
@[simp] theorem bytes23 : bytesT Tryd.prog 23 = 8 := rfl
@[simp] theorem bytesB23 : bytesT BB.P 23 = 8 := rfl
@[simp] theorem bytes24 : bytesT Tryd.prog 24 = 8 := rfl
@[simp] theorem bytesB24 : bytesT BB.P 24 = 8 := rfl
@[simp] theorem bytes26 : bytesT Tryd.prog 26 = 8 := rfl
@[simp] theorem bytesB26 : bytesT BB.P 26 = 8 := rfl
@[simp] theorem bytes27 : bytesT Tryd.prog 27 = 8 := rfl
@[simp] theorem bytesB27 : bytesT BB.P 27 = 8 := rfl
@[simp] theorem bytes28 : bytesT Tryd.prog 28 = 8 := rfl
@[simp] theorem bytesB28 : bytesT BB.P 28 = 8 := rfl
@[simp] theorem bytes29 : bytesT Tryd.prog 29 = 8 := rfl
@[simp] theorem bytesB29 : bytesT BB.P 29 = 8 := rfl
@[simp] theorem bytes30 : bytesT Tryd.prog 30 = 8 := rfl
@[simp] theorem bytesB30 : bytesT BB.P 30 = 8 := rfl
@[simp] theorem bytes31 : bytesT Tryd.prog 31 = 8 := rfl
@[simp] theorem bytesB31 : bytesT BB.P 31 = 8 := rfl
@[simp] theorem bytes32 : bytesT Tryd.prog 32 = 24 := rfl
@[simp] theorem bytesB32 : bytesT BB.P 32 = 24 := rfl
@[simp] theorem bytes33 : bytesT Tryd.prog 33 = 8 := rfl
@[simp] theorem bytesB33 : bytesT BB.P 33 = 8 := rfl
@[simp] theorem bytes34 : bytesT Tryd.prog 34 = 8 := rfl
@[simp] theorem bytesB34 : bytesT BB.P 34 = 8 := rfl
@[simp] theorem bytes35 : bytesT Tryd.prog 35 = 8 := rfl
@[simp] theorem bytesB35 : bytesT BB.P 35 = 8 := rfl
@[simp] theorem bytes36 : bytesT Tryd.prog 36 = 8 := rfl
@[simp] theorem bytesB36 : bytesT BB.P 36 = 8 := rfl
@[simp] theorem bytes37 : bytesT Tryd.prog 37 = 8 := rfl
@[simp] theorem bytesB37 : bytesT BB.P 37 = 8 := rfl
@[simp] theorem bytes38 : bytesT Tryd.prog 38 = 8 := rfl
@[simp] theorem bytesB38 : bytesT BB.P 38 = 8 := rfl
@[simp] theorem bytes39 : bytesT Tryd.prog 39 = 8 := rfl
@[simp] theorem bytesB39 : bytesT BB.P 39 = 8 := rfl
@[simp] theorem bytes40 : bytesT Tryd.prog 40 = 8 := rfl
@[simp] theorem bytesB40 : bytesT BB.P 40 = 8 := rfl
@[simp] theorem bytes41 : bytesT Tryd.prog 41 = 8 := rfl
@[simp] theorem bytesB41 : bytesT BB.P 41 = 8 := rfl
@[simp] theorem bytes42 : bytesT Tryd.prog 42 = 8 := rfl
@[simp] theorem bytesB42 : bytesT BB.P 42 = 8 := rfl
@[simp] theorem bytes43 : bytesT Tryd.prog 43 = 8 := rfl
@[simp] theorem bytesB43 : bytesT BB.P 43 = 8 := rfl
@[simp] theorem bytes44 : bytesT Tryd.prog 44 = 160 := rfl
@[simp] theorem bytesB44 : bytesT BB.P 44 = 160 := rfl
@[simp] theorem bytes45 : bytesT Tryd.prog 45 = 160 := rfl
@[simp] theorem bytesB45 : bytesT BB.P 45 = 160 := rfl
@[simp] theorem bytes46 : bytesT Tryd.prog 46 = 24 := rfl
@[simp] theorem bytesB46 : bytesT BB.P 46 = 24 := rfl
@[simp] theorem bytes47 : bytesT Tryd.prog 47 = 24 := rfl
@[simp] theorem bytesB47 : bytesT BB.P 47 = 24 := rfl
@[simp] theorem bytes48 : bytesT Tryd.prog 48 = 104 := rfl
@[simp] theorem bytesB48 : bytesT BB.P 48 = 104 := rfl
@[simp] theorem bytes49 : bytesT Tryd.prog 49 = 104 := rfl
@[simp] theorem bytesB49 : bytesT BB.P 49 = 104 := rfl
@[simp] theorem bytes50 : bytesT Tryd.prog 50 = 32 := rfl
@[simp] theorem bytesB50 : bytesT BB.P 50 = 32 := rfl
@[simp] theorem bytes51 : bytesT Tryd.prog 51 = 32 := rfl
@[simp] theorem bytesB51 : bytesT BB.P 51 = 32 := rfl
@[simp] theorem bytes52 : bytesT Tryd.prog 52 = 8 := rfl
@[simp] theorem bytesB52 : bytesT BB.P 52 = 8 := rfl
@[simp] theorem bytes53 : bytesT Tryd.prog 53 = 8 := rfl
@[simp] theorem bytesB53 : bytesT BB.P 53 = 8 := rfl
@[simp] theorem bytes54 : bytesT Tryd.prog 54 = 8 := rfl
@[simp] theorem bytesB54 : bytesT BB.P 54 = 8 := rfl
@[simp] theorem bytes56 : bytesT Tryd.prog 56 = 8 := rfl
@[simp] theorem bytesB56 : bytesT BB.P 56 = 8 := rfl
@[simp] theorem bytes57 : bytesT Tryd.prog 57 = 8 := rfl
@[simp] theorem bytesB57 : bytesT BB.P 57 = 8 := rfl
@[simp] theorem bytes58 : bytesT Tryd.prog 58 = 8 := rfl
@[simp] theorem bytesB58 : bytesT BB.P 58 = 8 := rfl
@[simp] theorem bytes59 : bytesT Tryd.prog 59 = 8 := rfl
@[simp] theorem bytesB59 : bytesT BB.P 59 = 8 := rfl
@[simp] theorem bytes60 : bytesT Tryd.prog 60 = 8 := rfl
@[simp] theorem bytesB60 : bytesT BB.P 60 = 8 := rfl
@[simp] theorem bytes61 : bytesT Tryd.prog 61 = 8 := rfl
@[simp] theorem bytesB61 : bytesT BB.P 61 = 8 := rfl
@[simp] theorem bytes62 : bytesT Tryd.prog 62 = 8 := rfl
@[simp] theorem bytesB62 : bytesT BB.P 62 = 8 := rfl
@[simp] theorem bytes63 : bytesT Tryd.prog 63 = 8 := rfl
@[simp] theorem bytesB63 : bytesT BB.P 63 = 8 := rfl
@[simp] theorem bytes65 : bytesT Tryd.prog 65 = 8 := rfl
@[simp] theorem bytesB65 : bytesT BB.P 65 = 8 := rfl
@[simp] theorem bytes66 : bytesT Tryd.prog 66 = 8 := rfl
@[simp] theorem bytesB66 : bytesT BB.P 66 = 8 := rfl
@[simp] theorem bytes67 : bytesT Tryd.prog 67 = 8 := rfl
@[simp] theorem bytesB67 : bytesT BB.P 67 = 8 := rfl
@[simp] theorem bytes68 : bytesT Tryd.prog 68 = 8 := rfl
@[simp] theorem bytesB68 : bytesT BB.P 68 = 8 := rfl
@[simp] theorem bytes69 : bytesT Tryd.prog 69 = 8 := rfl
@[simp] theorem bytesB69 : bytesT BB.P 69 = 8 := rfl
@[simp] theorem bytes70 : bytesT Tryd.prog 70 = 8 := rfl
@[simp] theorem bytesB70 : bytesT BB.P 70 = 8 := rfl
@[simp] theorem bytes71 : bytesT Tryd.prog 71 = 24 := rfl
@[simp] theorem bytesB71 : bytesT BB.P 71 = 24 := rfl
@[simp] theorem bytes72 : bytesT Tryd.prog 72 = 8 := rfl
@[simp] theorem bytesB72 : bytesT BB.P 72 = 8 := rfl
@[simp] theorem bytes73 : bytesT Tryd.prog 73 = 8 := rfl
@[simp] theorem bytesB73 : bytesT BB.P 73 = 8 := rfl
@[simp] theorem bytes74 : bytesT Tryd.prog 74 = 8 := rfl
@[simp] theorem bytesB74 : bytesT BB.P 74 = 8 := rfl
@[simp] theorem bytes75 : bytesT Tryd.prog 75 = 32 := rfl
@[simp] theorem bytesB75 : bytesT BB.P 75 = 32 := rfl
@[simp] theorem bytes76 : bytesT Tryd.prog 76 = 32 := rfl
@[simp] theorem bytesB76 : bytesT BB.P 76 = 32 := rfl
@[simp] theorem bytes78 : bytesT Tryd.prog 78 = 8 := rfl
@[simp] theorem bytesB78 : bytesT BB.P 78 = 8 := rfl
@[simp] theorem bytes79 : bytesT Tryd.prog 79 = 8 := rfl
@[simp] theorem bytesB79 : bytesT BB.P 79 = 8 := rfl
@[simp] theorem bytes80 : bytesT Tryd.prog 80 = 16 := rfl
@[simp] theorem bytesB80 : bytesT BB.P 80 = 16 := rfl
@[simp] theorem bytes81 : bytesT Tryd.prog 81 = 16 := rfl
@[simp] theorem bytesB81 : bytesT BB.P 81 = 16 := rfl
@[simp] theorem bytes83 : bytesT Tryd.prog 83 = 8 := rfl
@[simp] theorem bytesB83 : bytesT BB.P 83 = 8 := rfl
@[simp] theorem bytes84 : bytesT Tryd.prog 84 = 8 := rfl
@[simp] theorem bytesB84 : bytesT BB.P 84 = 8 := rfl
@[simp] theorem bytes85 : bytesT Tryd.prog 85 = 8 := rfl
@[simp] theorem bytesB85 : bytesT BB.P 85 = 8 := rfl
@[simp] theorem bytes86 : bytesT Tryd.prog 86 = 8 := rfl
@[simp] theorem bytesB86 : bytesT BB.P 86 = 8 := rfl
@[simp] theorem bytes88 : bytesT Tryd.prog 88 = 8 := rfl
@[simp] theorem bytesB88 : bytesT BB.P 88 = 8 := rfl
@[simp] theorem bytes89 : bytesT Tryd.prog 89 = 8 := rfl
@[simp] theorem bytesB89 : bytesT BB.P 89 = 8 := rfl
@[simp] theorem bytes91 : bytesT Tryd.prog 91 = 8 := rfl
@[simp] theorem bytesB91 : bytesT BB.P 91 = 8 := rfl
@[simp] theorem bytes92 : bytesT Tryd.prog 92 = 8 := rfl
@[simp] theorem bytesB92 : bytesT BB.P 92 = 8 := rfl
@[simp] theorem bytes93 : bytesT Tryd.prog 93 = 8 := rfl
@[simp] theorem bytesB93 : bytesT BB.P 93 = 8 := rfl
@[simp] theorem bytes94 : bytesT Tryd.prog 94 = 8 := rfl
@[simp] theorem bytesB94 : bytesT BB.P 94 = 8 := rfl
@[simp] theorem bytes95 : bytesT Tryd.prog 95 = 8 := rfl
@[simp] theorem bytesB95 : bytesT BB.P 95 = 8 := rfl
@[simp] theorem bytes96 : bytesT Tryd.prog 96 = 8 := rfl
@[simp] theorem bytesB96 : bytesT BB.P 96 = 8 := rfl
@[simp] theorem bytes97 : bytesT Tryd.prog 97 = 8 := rfl
@[simp] theorem bytesB97 : bytesT BB.P 97 = 8 := rfl
@[simp] theorem bytes98 : bytesT Tryd.prog 98 = 8 := rfl
@[simp] theorem bytesB98 : bytesT BB.P 98 = 8 := rfl
@[simp] theorem bytes99 : bytesT Tryd.prog 99 = 8 := rfl
@[simp] theorem bytesB99 : bytesT BB.P 99 = 8 := rfl
@[simp] theorem bytes100 : bytesT Tryd.prog 100 = 16 := rfl
@[simp] theorem bytesB100 : bytesT BB.P 100 = 16 := rfl
@[simp] theorem bytes101 : bytesT Tryd.prog 101 = 16 := rfl
@[simp] theorem bytesB101 : bytesT BB.P 101 = 16 := rfl
@[simp] theorem bytes103 : bytesT Tryd.prog 103 = 8 := rfl
@[simp] theorem bytesB103 : bytesT BB.P 103 = 8 := rfl
@[simp] theorem bytes104 : bytesT Tryd.prog 104 = 8 := rfl
@[simp] theorem bytesB104 : bytesT BB.P 104 = 8 := rfl
@[simp] theorem bytes105 : bytesT Tryd.prog 105 = 8 := rfl
@[simp] theorem bytesB105 : bytesT BB.P 105 = 8 := rfl
@[simp] theorem bytes107 : bytesT Tryd.prog 107 = 8 := rfl
@[simp] theorem bytesB107 : bytesT BB.P 107 = 8 := rfl
@[simp] theorem bytes108 : bytesT Tryd.prog 108 = 8 := rfl
@[simp] theorem bytesB108 : bytesT BB.P 108 = 8 := rfl
@[simp] theorem bytes109 : bytesT Tryd.prog 109 = 8 := rfl
@[simp] theorem bytesB109 : bytesT BB.P 109 = 8 := rfl
@[simp] theorem bytes110 : bytesT Tryd.prog 110 = 256 := rfl
@[simp] theorem bytesB110 : bytesT BB.P 110 = 256 := rfl
@[simp] theorem bytes111 : bytesT Tryd.prog 111 = 2 := rfl
@[simp] theorem bytesB111 : bytesT BB.P 111 = 2 := rfl
@[simp] theorem bytes112 : bytesT Tryd.prog 112 = 2 := rfl
@[simp] theorem bytesB112 : bytesT BB.P 112 = 2 := rfl
@[simp] theorem bytes113 : bytesT Tryd.prog 113 = 32 := rfl
@[simp] theorem bytesB113 : bytesT BB.P 113 = 32 := rfl
@[simp] theorem bytes114 : bytesT Tryd.prog 114 = 8 := rfl
@[simp] theorem bytesB114 : bytesT BB.P 114 = 8 := rfl
@[simp] theorem bytes115 : bytesT Tryd.prog 115 = 8 := rfl
@[simp] theorem bytesB115 : bytesT BB.P 115 = 8 := rfl
@[simp] theorem bytes116 : bytesT Tryd.prog 116 = 8 := rfl
@[simp] theorem bytesB116 : bytesT BB.P 116 = 8 := rfl
@[simp] theorem bytes117 : bytesT Tryd.prog 117 = 256 := rfl
@[simp] theorem bytesB117 : bytesT BB.P 117 = 256 := rfl
@[simp] theorem bytes118 : bytesT Tryd.prog 118 = 8 := rfl
@[simp] theorem bytesB118 : bytesT BB.P 118 = 8 := rfl
@[simp] theorem bytes119 : bytesT Tryd.prog 119 = 8 := rfl
@[simp] theorem bytesB119 : bytesT BB.P 119 = 8 := rfl
@[simp] theorem bytes120 : bytesT Tryd.prog 120 = 48 := rfl
@[simp] theorem bytesB120 : bytesT BB.P 120 = 48 := rfl
@[simp] theorem bytes121 : bytesT Tryd.prog 121 = 8 := rfl
@[simp] theorem bytesB121 : bytesT BB.P 121 = 8 := rfl
@[simp] theorem bytes122 : bytesT Tryd.prog 122 = 8 := rfl
@[simp] theorem bytesB122 : bytesT BB.P 122 = 8 := rfl
@[simp] theorem bytes124 : bytesT Tryd.prog 124 = 8 := rfl
@[simp] theorem bytesB124 : bytesT BB.P 124 = 8 := rfl
@[simp] theorem bytes125 : bytesT Tryd.prog 125 = 8 := rfl
@[simp] theorem bytesB125 : bytesT BB.P 125 = 8 := rfl
@[simp] theorem bytes126 : bytesT Tryd.prog 126 = 8 := rfl
@[simp] theorem bytesB126 : bytesT BB.P 126 = 8 := rfl
@[simp] theorem bytes127 : bytesT Tryd.prog 127 = 8 := rfl
@[simp] theorem bytesB127 : bytesT BB.P 127 = 8 := rfl
@[simp] theorem bytes128 : bytesT Tryd.prog 128 = 8 := rfl
@[simp] theorem bytesB128 : bytesT BB.P 128 = 8 := rfl
@[simp] theorem bytes129 : bytesT Tryd.prog 129 = 8 := rfl
@[simp] theorem bytesB129 : bytesT BB.P 129 = 8 := rfl
@[simp] theorem bytes130 : bytesT Tryd.prog 130 = 8 := rfl
@[simp] theorem bytesB130 : bytesT BB.P 130 = 8 := rfl
@[simp] theorem bytes131 : bytesT Tryd.prog 131 = 256 := rfl
@[simp] theorem bytesB131 : bytesT BB.P 131 = 256 := rfl
@[simp] theorem bytes132 : bytesT Tryd.prog 132 = 256 := rfl
@[simp] theorem bytesB132 : bytesT BB.P 132 = 256 := rfl
@[simp] theorem bytes134 : bytesT Tryd.prog 134 = 8 := rfl
@[simp] theorem bytesB134 : bytesT BB.P 134 = 8 := rfl
@[simp] theorem bytes136 : bytesT Tryd.prog 136 = 8 := rfl
@[simp] theorem bytesB136 : bytesT BB.P 136 = 8 := rfl
@[simp] theorem bytes137 : bytesT Tryd.prog 137 = 8 := rfl
@[simp] theorem bytesB137 : bytesT BB.P 137 = 8 := rfl
@[simp] theorem bytes138 : bytesT Tryd.prog 138 = 4 := rfl
@[simp] theorem bytesB138 : bytesT BB.P 138 = 4 := rfl
@[simp] theorem bytes139 : bytesT Tryd.prog 139 = 24 := rfl
@[simp] theorem bytesB139 : bytesT BB.P 139 = 24 := rfl
@[simp] theorem bytes140 : bytesT Tryd.prog 140 = 16 := rfl
@[simp] theorem bytesB140 : bytesT BB.P 140 = 16 := rfl
@[simp] theorem bytes141 : bytesT Tryd.prog 141 = 16 := rfl
@[simp] theorem bytesB141 : bytesT BB.P 141 = 16 := rfl
@[simp] theorem bytes142 : bytesT Tryd.prog 142 = 8 := rfl
@[simp] theorem bytesB142 : bytesT BB.P 142 = 8 := rfl
@[simp] theorem bytes143 : bytesT Tryd.prog 143 = 8 := rfl
@[simp] theorem bytesB143 : bytesT BB.P 143 = 8 := rfl
@[simp] theorem bytes144 : bytesT Tryd.prog 144 = 8 := rfl
@[simp] theorem bytesB144 : bytesT BB.P 144 = 8 := rfl
@[simp] theorem bytes146 : bytesT Tryd.prog 146 = 8 := rfl
@[simp] theorem bytesB146 : bytesT BB.P 146 = 8 := rfl
@[simp] theorem bytes147 : bytesT Tryd.prog 147 = 40 := rfl
@[simp] theorem bytesB147 : bytesT BB.P 147 = 40 := rfl
@[simp] theorem bytes148 : bytesT Tryd.prog 148 = 40 := rfl
@[simp] theorem bytesB148 : bytesT BB.P 148 = 40 := rfl
@[simp] theorem bytes152 : bytesT Tryd.prog 152 = 1 := rfl
@[simp] theorem bytesB152 : bytesT BB.P 152 = 1 := rfl
@[simp] theorem bytes153 : bytesT Tryd.prog 153 = 1 := rfl
@[simp] theorem bytesB153 : bytesT BB.P 153 = 1 := rfl
@[simp] theorem bytes154 : bytesT Tryd.prog 154 = 8 := rfl
@[simp] theorem bytesB154 : bytesT BB.P 154 = 8 := rfl
@[simp] theorem bytes155 : bytesT Tryd.prog 155 = 4 := rfl
@[simp] theorem bytesB155 : bytesT BB.P 155 = 4 := rfl
@[simp] theorem bytes156 : bytesT Tryd.prog 156 = 4 := rfl
@[simp] theorem bytesB156 : bytesT BB.P 156 = 4 := rfl
@[simp] theorem bytes157 : bytesT Tryd.prog 157 = 48 := rfl
@[simp] theorem bytesB157 : bytesT BB.P 157 = 48 := rfl
@[simp] theorem bytes158 : bytesT Tryd.prog 158 = 48 := rfl
@[simp] theorem bytesB158 : bytesT BB.P 158 = 48 := rfl
theorem u8_bnd (x : UInt8) : 0 ≤ (x.toNat : Int) ∧ (x.toNat : Int) ≤ 255 := by have := x.toNat_lt; omega
end Go.Vc

/-
  DERIVED: THE SHELF's CONTRACTS AT THIS DUMP, IN PLAIN WORDS (tools/lay-plain.mjs out of 'TrydShelf.lean', which tools/lay-shelf.mjs wrote): THE SAME DECLARATIONS UNDER THE SAME NAMES: 'import', 'namespace', 'open', 'def', 'theorem' AND NOTHING ELSE: no command of the shelf's: FOR A HAND-IN. Each laying: the table of numbers ('.._ren') and one theorem, a field a fact of the dump's own or the kernel's comparison; each contract: ONE APPLICATION.
-/
namespace Go.Proofs
open Go.Shelf
def Tryd.lays137_ren : Go.Shelf.Ren := ⟨fun | 137 => 55 | 217 => 98 | 266 => 126 | n => n, fun | 9 => 9 | 5 => 5 | 3 => 3 | n => n, fun | n => n⟩
theorem Tryd.lays137 : Go.Proofs.Lays.n137 Tryd.prog Tryd.lays137_ren := {
  mixed := by kernel_rfl
  f137 := Tryd.func55.trans (congrArg some (by kernel_rfl))
  f217 := Tryd.func98.trans (congrArg some (by kernel_rfl))
  f266 := Tryd.func126.trans (congrArg some (by kernel_rfl))
  t3 := Tryd.underlying3
  a3 := Tryd.isAgg3
  z3 := Tryd.sizeOf3
  v3 := Tryd.zeroValue3
  t5 := Tryd.underlying5
  a5 := Tryd.isAgg5
  z5 := Tryd.sizeOf5
  v5 := Tryd.zeroValue5
  t9 := Tryd.underlying9
  a9 := Tryd.isAgg9
  z9 := Tryd.sizeOf9
  v9 := Tryd.zeroValue9 }
open Go.RowKit in
/-- strings.IndexByte: "IndexByte returns the index of the first instance of c in s, or -1 if c is not present in s.": IT RETURNS 'Lib.indexByte s c'; the world is as it was. (LAID: no walk: one application.) -/
theorem Tryd.strings_IndexByte (s : ByteArray) (c : Int) (w : World) :
    Calls Tryd.prog 55 #[.string s, .int .u8 c] w fun e w' => e = .returned (.int .i64 (Lib.indexByte s.data.toList c.toNat.toUInt8)) ∧ w' = w := Any.strings_IndexByte Tryd.lays137 s c w
def Tryd.lays143_ren : Go.Shelf.Ren := ⟨fun | 143 => 113 | 219 => 125 | 217 => 98 | 225 => 141 | 224 => 142 | 267 => 143 | 266 => 126 | 314 => 147 | n => n, fun | 9 => 9 | 3 => 3 | 4 => 4 | 5 => 5 | 46 => 114 | 146 => 145 | 51 => 138 | n => n, fun | 1 => 2 | n => n⟩
theorem Tryd.lays143 : Go.Proofs.Lays.n143 Tryd.prog Tryd.lays143_ren := {
  mixed := by kernel_rfl
  f143 := Tryd.func113.trans (congrArg some (by kernel_rfl))
  f217 := Tryd.func98.trans (congrArg some (by kernel_rfl))
  f219 := Tryd.func125.trans (congrArg some (by kernel_rfl))
  f224 := Tryd.func142.trans (congrArg some (by kernel_rfl))
  f225 := Tryd.func141.trans (congrArg some (by kernel_rfl))
  f266 := Tryd.func126.trans (congrArg some (by kernel_rfl))
  f267 := Tryd.func143.trans (congrArg some (by kernel_rfl))
  f314 := Tryd.func147.trans (congrArg some (by kernel_rfl))
  t3 := Tryd.underlying3
  a3 := Tryd.isAgg3
  z3 := Tryd.sizeOf3
  v3 := Tryd.zeroValue3
  t4 := Tryd.underlying4
  a4 := Tryd.isAgg4
  z4 := Tryd.sizeOf4
  v4 := Tryd.zeroValue4
  t5 := Tryd.underlying5
  a5 := Tryd.isAgg5
  z5 := Tryd.sizeOf5
  v5 := Tryd.zeroValue5
  t9 := Tryd.underlying9
  a9 := Tryd.isAgg9
  z9 := Tryd.sizeOf9
  v9 := Tryd.zeroValue9
  t46 := Tryd.underlying114
  a46 := Tryd.isAgg114
  z46 := Tryd.sizeOf114
  v46 := Tryd.zeroValue114
  t51 := Tryd.underlying138
  a51 := Tryd.isAgg138
  z51 := Tryd.sizeOf138
  v51 := Tryd.zeroValue138
  t146 := Tryd.underlying145
  a146 := Tryd.isAgg145
  z146 := Tryd.sizeOf145
  v146 := Tryd.zeroValue145
  g1 := by kernel_rfl }
open Go.RowKit Go.Lib in
/-- strings.Index: "Index returns the index of the first instance of substr in s, or -1 if substr is not present in s.": IT RETURNS 'Lib.index s substr'; the world is as it was. (LAID: no walk: one application.) -/
theorem Tryd.strings_Index (s sub : ByteArray) (m : Int) (w : World) (hs : s.size < 4294967281) (hm : w.cell? ⟨2, 0, none⟩ = some (.int .i64 m)) :
    Calls Tryd.prog 113 #[.string s, .string sub] w fun e w' => e = .returned (.int .i64 (Lib.index s.data.toList sub.data.toList)) ∧ w' = w := Any.strings_Index Tryd.lays143 s sub m w hs hm
def Tryd.lays145_ren : Go.Shelf.Ren := ⟨fun | 145 => 53 | 220 => 97 | 219 => 125 | 217 => 98 | 225 => 141 | 224 => 142 | 267 => 143 | 266 => 126 | 314 => 147 | n => n, fun | 9 => 9 | 4 => 4 | 59 => 64 | 3 => 3 | 5 => 5 | 46 => 114 | 146 => 145 | 51 => 138 | n => n, fun | 1 => 2 | n => n⟩
theorem Tryd.lays145 : Go.Proofs.Lays.n145 Tryd.prog Tryd.lays145_ren := {
  mixed := by kernel_rfl
  f145 := Tryd.func53.trans (congrArg some (by kernel_rfl))
  f217 := Tryd.func98.trans (congrArg some (by kernel_rfl))
  f219 := Tryd.func125.trans (congrArg some (by kernel_rfl))
  f220 := Tryd.func97.trans (congrArg some (by kernel_rfl))
  f224 := Tryd.func142.trans (congrArg some (by kernel_rfl))
  f225 := Tryd.func141.trans (congrArg some (by kernel_rfl))
  f266 := Tryd.func126.trans (congrArg some (by kernel_rfl))
  f267 := Tryd.func143.trans (congrArg some (by kernel_rfl))
  f314 := Tryd.func147.trans (congrArg some (by kernel_rfl))
  t3 := Tryd.underlying3
  a3 := Tryd.isAgg3
  z3 := Tryd.sizeOf3
  v3 := Tryd.zeroValue3
  t4 := Tryd.underlying4
  a4 := Tryd.isAgg4
  z4 := Tryd.sizeOf4
  v4 := Tryd.zeroValue4
  t5 := Tryd.underlying5
  a5 := Tryd.isAgg5
  z5 := Tryd.sizeOf5
  v5 := Tryd.zeroValue5
  t9 := Tryd.underlying9
  a9 := Tryd.isAgg9
  z9 := Tryd.sizeOf9
  v9 := Tryd.zeroValue9
  t46 := Tryd.underlying114
  a46 := Tryd.isAgg114
  z46 := Tryd.sizeOf114
  v46 := Tryd.zeroValue114
  t51 := Tryd.underlying138
  a51 := Tryd.isAgg138
  z51 := Tryd.sizeOf138
  v51 := Tryd.zeroValue138
  t59 := Tryd.underlying64
  a59 := Tryd.isAgg64
  z59 := Tryd.sizeOf64
  v59 := Tryd.zeroValue64
  t146 := Tryd.underlying145
  a146 := Tryd.isAgg145
  z146 := Tryd.sizeOf145
  v146 := Tryd.zeroValue145
  g1 := by kernel_rfl }
open Go.RowKit Go.Lib in
/-- strings.Cut: "Cut slices s around the first instance of sep, returning the text before and after sep. The found result reports whether sep appears in s. If sep does not appear in s, cut returns s, "", false.": IT RETURNS 'Lib.cut s sep'; the world is as it was but for the count of draws. (LAID: no walk: one application.) -/
theorem Tryd.strings_Cut (s sep : ByteArray) (m : Int) (w : World) (hs : s.size < 4294967281) (hm : w.cell? ⟨2, 0, none⟩ = some (.int .i64 m)) :
    Calls Tryd.prog 53 #[.string s, .string sep] w fun e w' => e = .returned (.tuple #[.string ⟨(Lib.cut s.data.toList sep.data.toList).1.toArray⟩, .string ⟨(Lib.cut s.data.toList sep.data.toList).2.1.toArray⟩, .bool (Lib.cut s.data.toList sep.data.toList).2.2]) ∧ ∃ n, w' = w.drewN n := Any.strings_Cut Tryd.lays145 s sep m w hs hm
def Tryd.laysM143_ren : Go.Shelf.Ren := ⟨fun | 143 => 113 | 219 => 125 | 217 => 98 | 225 => 141 | 224 => 142 | 267 => 143 | 266 => 126 | 314 => 147 | n => n, fun | 9 => 9 | 3 => 3 | 4 => 4 | 5 => 5 | 46 => 114 | 146 => 145 | 51 => 138 | n => n, fun | 1 => 2 | n => n⟩
theorem Tryd.laysM143 : Go.Proofs.LaysM.n143 Tryd.prog Tryd.laysM143_ren := {
  mixed := by kernel_rfl
  f143 := Tryd.func113.trans (congrArg some (by kernel_rfl))
  f217 := Tryd.func98.trans (congrArg some (by kernel_rfl))
  f219 := Tryd.func125.trans (congrArg some (by kernel_rfl))
  f224 := Tryd.func142.trans (congrArg some (by kernel_rfl))
  f225 := Tryd.func141.trans (congrArg some (by kernel_rfl))
  f266 := Tryd.func126.trans (congrArg some (by kernel_rfl))
  f267 := Tryd.func143.trans (congrArg some (by kernel_rfl))
  f314 := Tryd.func147.trans (congrArg some (by kernel_rfl))
  t3 := Tryd.underlying3
  a3 := Tryd.isAgg3
  z3 := Tryd.sizeOf3
  v3 := Tryd.zeroValue3
  t4 := Tryd.underlying4
  a4 := Tryd.isAgg4
  z4 := Tryd.sizeOf4
  v4 := Tryd.zeroValue4
  t5 := Tryd.underlying5
  a5 := Tryd.isAgg5
  z5 := Tryd.sizeOf5
  v5 := Tryd.zeroValue5
  t9 := Tryd.underlying9
  a9 := Tryd.isAgg9
  z9 := Tryd.sizeOf9
  v9 := Tryd.zeroValue9
  t46 := Tryd.underlying114
  a46 := Tryd.isAgg114
  z46 := Tryd.sizeOf114
  v46 := Tryd.zeroValue114
  t51 := Tryd.underlying138
  a51 := Tryd.isAgg138
  z51 := Tryd.sizeOf138
  v51 := Tryd.zeroValue138
  t146 := Tryd.underlying145
  a146 := Tryd.isAgg145
  z146 := Tryd.sizeOf145
  v146 := Tryd.zeroValue145
  g1 := by kernel_rfl
  i3 := by kernel_rfl
  i4 := by kernel_rfl
  i5 := by kernel_rfl
  i9 := by kernel_rfl
  i46 := by kernel_rfl
  i51 := by kernel_rfl
  i146 := by kernel_rfl
  m1 := by kernel_rfl
  s1_3 := fun w h => Go.Proofs.cell_of_shapedOpen_int (zero := #[.int .i64 0]) (t := 3) h (of_decide_eq_true (by kernel_rfl)) (by kernel_rfl) rfl (by kernel_rfl) (by kernel_rfl) Tryd.underlying3 }
def Tryd.lays197_ren : Go.Shelf.Ren := ⟨fun | 197 => 79 | 260 => 114 | n => n, fun | 9 => 9 | 21 => 21 | 3 => 3 | 4 => 4 | 5 => 5 | 105 => 77 | 119 => 110 | 0 => 0 | 46 => 114 | 139 => 113 | 138 => 112 | n => n, fun | 3 => 0 | 4 => 1 | n => n⟩
theorem Tryd.lays197 : Go.Proofs.Lays.n197 Tryd.prog Tryd.lays197_ren := {
  mixed := by kernel_rfl
  f197 := Tryd.func79.trans (congrArg some (by kernel_rfl))
  f260 := Tryd.func114.trans (congrArg some (by kernel_rfl))
  t0 := Tryd.underlying0
  a0 := Tryd.isAgg0
  z0 := Tryd.sizeOf0
  v0 := Tryd.zeroValue0
  t3 := Tryd.underlying3
  a3 := Tryd.isAgg3
  z3 := Tryd.sizeOf3
  v3 := Tryd.zeroValue3
  t4 := Tryd.underlying4
  a4 := Tryd.isAgg4
  z4 := Tryd.sizeOf4
  v4 := Tryd.zeroValue4
  t5 := Tryd.underlying5
  a5 := Tryd.isAgg5
  z5 := Tryd.sizeOf5
  v5 := Tryd.zeroValue5
  t9 := Tryd.underlying9
  a9 := Tryd.isAgg9
  z9 := Tryd.sizeOf9
  v9 := Tryd.zeroValue9
  t21 := Tryd.underlying21
  a21 := Tryd.isAgg21
  z21 := Tryd.sizeOf21
  v21 := Tryd.zeroValue21
  t46 := Tryd.underlying114
  a46 := Tryd.isAgg114
  z46 := Tryd.sizeOf114
  v46 := Tryd.zeroValue114
  t105 := Tryd.underlying77
  a105 := Tryd.isAgg77
  z105 := Tryd.sizeOf77
  v105 := Tryd.zeroValue77
  t119 := Tryd.underlying110
  a119 := Tryd.isAgg110
  z119 := Tryd.sizeOf110
  t138 := Tryd.underlying112
  a138 := Tryd.isAgg112
  z138 := Tryd.sizeOf112
  v138 := Tryd.zeroValue112
  t139 := Tryd.underlying113
  a139 := Tryd.isAgg113
  z139 := Tryd.sizeOf113
  v139 := Tryd.zeroValue113
  g3 := by kernel_rfl
  g4 := by kernel_rfl }
def Tryd.lays260_ren : Go.Shelf.Ren := ⟨fun | 260 => 114 | n => n, fun | 9 => 9 | 21 => 21 | 3 => 3 | 4 => 4 | 5 => 5 | 119 => 110 | 0 => 0 | 46 => 114 | 139 => 113 | 138 => 112 | n => n, fun | 3 => 0 | 4 => 1 | n => n⟩
theorem Tryd.lays260 : Go.Proofs.Lays.n260 Tryd.prog Tryd.lays260_ren := {
  mixed := by kernel_rfl
  f260 := Tryd.func114.trans (congrArg some (by kernel_rfl))
  t0 := Tryd.underlying0
  a0 := Tryd.isAgg0
  z0 := Tryd.sizeOf0
  v0 := Tryd.zeroValue0
  t3 := Tryd.underlying3
  a3 := Tryd.isAgg3
  z3 := Tryd.sizeOf3
  v3 := Tryd.zeroValue3
  t4 := Tryd.underlying4
  a4 := Tryd.isAgg4
  z4 := Tryd.sizeOf4
  v4 := Tryd.zeroValue4
  t5 := Tryd.underlying5
  a5 := Tryd.isAgg5
  z5 := Tryd.sizeOf5
  v5 := Tryd.zeroValue5
  t9 := Tryd.underlying9
  a9 := Tryd.isAgg9
  z9 := Tryd.sizeOf9
  v9 := Tryd.zeroValue9
  t21 := Tryd.underlying21
  a21 := Tryd.isAgg21
  z21 := Tryd.sizeOf21
  v21 := Tryd.zeroValue21
  t46 := Tryd.underlying114
  a46 := Tryd.isAgg114
  z46 := Tryd.sizeOf114
  v46 := Tryd.zeroValue114
  t119 := Tryd.underlying110
  a119 := Tryd.isAgg110
  z119 := Tryd.sizeOf110
  t138 := Tryd.underlying112
  a138 := Tryd.isAgg112
  z138 := Tryd.sizeOf112
  v138 := Tryd.zeroValue112
  t139 := Tryd.underlying113
  a139 := Tryd.isAgg113
  z139 := Tryd.sizeOf113
  v139 := Tryd.zeroValue113
  g3 := by kernel_rfl
  g4 := by kernel_rfl }
open Go.RowKit Go.Lib in
/-- **unicode/utf8.DecodeRuneInString AT EVERY STRING.** (LAID: no walk: one application.) -/
theorem Tryd.utf8_DecodeRuneInString (s : ByteArray) (w : World) (hT : Lib.Utf8Tabs 0 1 w) :
    Calls Tryd.prog 79 #[.string s] w fun e w' => e = .returned (.tuple #[.int .i32 (Lib.decodeGo s).1, .int .i64 (Lib.decodeGo s).2]) ∧ Below w.heap.size w w' := Any.utf8_DecodeRuneInString Tryd.lays197 s w hT
def Tryd.lays271_ren : Go.Shelf.Ren := ⟨fun | 271 => 145 | 120 => 148 | 197 => 79 | 260 => 114 | n => n, fun | 9 => 9 | 21 => 21 | 3 => 3 | 4 => 4 | 5 => 5 | 105 => 77 | 119 => 110 | 0 => 0 | 46 => 114 | 139 => 113 | 138 => 112 | n => n, fun | 3 => 0 | 4 => 1 | n => n⟩
theorem Tryd.lays271 : Go.Proofs.Lays.n271 Tryd.prog Tryd.lays271_ren := {
  mixed := by kernel_rfl
  f120 := Tryd.func148.trans (congrArg some (by kernel_rfl))
  f197 := Tryd.func79.trans (congrArg some (by kernel_rfl))
  f260 := Tryd.func114.trans (congrArg some (by kernel_rfl))
  f271 := Tryd.func145.trans (congrArg some (by kernel_rfl))
  t0 := Tryd.underlying0
  a0 := Tryd.isAgg0
  z0 := Tryd.sizeOf0
  v0 := Tryd.zeroValue0
  t3 := Tryd.underlying3
  a3 := Tryd.isAgg3
  z3 := Tryd.sizeOf3
  v3 := Tryd.zeroValue3
  t4 := Tryd.underlying4
  a4 := Tryd.isAgg4
  z4 := Tryd.sizeOf4
  v4 := Tryd.zeroValue4
  t5 := Tryd.underlying5
  a5 := Tryd.isAgg5
  z5 := Tryd.sizeOf5
  v5 := Tryd.zeroValue5
  t9 := Tryd.underlying9
  a9 := Tryd.isAgg9
  z9 := Tryd.sizeOf9
  v9 := Tryd.zeroValue9
  t21 := Tryd.underlying21
  a21 := Tryd.isAgg21
  z21 := Tryd.sizeOf21
  v21 := Tryd.zeroValue21
  t46 := Tryd.underlying114
  a46 := Tryd.isAgg114
  z46 := Tryd.sizeOf114
  v46 := Tryd.zeroValue114
  t105 := Tryd.underlying77
  a105 := Tryd.isAgg77
  z105 := Tryd.sizeOf77
  v105 := Tryd.zeroValue77
  t119 := Tryd.underlying110
  a119 := Tryd.isAgg110
  z119 := Tryd.sizeOf110
  t138 := Tryd.underlying112
  a138 := Tryd.isAgg112
  z138 := Tryd.sizeOf112
  v138 := Tryd.zeroValue112
  t139 := Tryd.underlying113
  a139 := Tryd.isAgg113
  z139 := Tryd.sizeOf113
  v139 := Tryd.zeroValue113
  g3 := by kernel_rfl
  g4 := by kernel_rfl }
open Go.RowKit Go.Lib in
/-- **unicode/utf8.DecodeLastRuneInString AT EVERY STRING.** (LAID: no walk: one application.) -/
theorem Tryd.utf8_DecodeLastRuneInString (s : ByteArray) (w : World) (hs : s.size ≤ 9223372036854775807) (hT : Lib.Utf8Tabs 0 1 w) :
    Calls Tryd.prog 145 #[.string s] w fun e w' => e = .returned (.tuple #[.int .i32 (Lib.decodeLastL s.data.toList).1, .int .i64 (Lib.decodeLastL s.data.toList).2]) ∧ Below w.heap.size w w' := Any.utf8_DecodeLastRuneInString Tryd.lays271 s w hs hT
end Go.Proofs

namespace Go.Vc
set_option autoImplicit false
open Go.Lib
def leB (c : UInt8) : Bool := decide (c.toNat ≤ 32)
def trL (l : List UInt8) : List UInt8 := l.dropWhile leB
def trR (l : List UInt8) : List UInt8 := (l.reverse.dropWhile leB).reverse
def okC (c : UInt8) : Bool := !(c == 9 || (c == 10 || c == 13))
def bareL (l : List UInt8) : List UInt8 := (trR (trL l)).filter okC
/-- the place of the first that counts -/
def idxL (l : List UInt8) : Int := bif l.all leB then -1 else ((l.takeWhile leB).length : Int)
theorem tw_len : ∀ (s : List UInt8) (p : Nat), p < s.length → (∀ j, j < p → leB (s.getD j 0) = true) → leB (s.getD p 0) = false → (s.takeWhile leB).length = p ∧ s.all leB = false
  | [], p, h, _, _ => by simp at h
  | c :: r, 0, _, _, h => by
    have h : leB c = false := h
    simp [List.takeWhile_cons, h]
  | c :: r, p + 1, h, ha, hb => by
    have h0 : leB c = true := ha 0 (by omega)
    obtain ⟨h1, h2⟩ := tw_len r p (by simpa using h) (fun j hj => by have := ha (j + 1) (by omega); simpa using this) (by simpa using hb)
    simp [List.takeWhile_cons, h0, h1, h2]
theorem all_of (s : List UInt8) (h : ∀ j, j < s.length → leB (s.getD j 0) = true) : s.all leB = true := by
  rw [List.all_eq_true]
  intro x hx
  obtain ⟨i, hi, rfl⟩ := List.getElem_of_mem hx
  have := h i hi
  simpa [List.getD, List.getElem?_eq_getElem hi] using this
theorem trL_idx (s : List UInt8) : (idxL s = -1 ∧ trL s = []) ∨ (∃ p : Nat, idxL s = p ∧ p < s.length ∧ trL s = s.drop p) := by
  unfold idxL trL
  cases h : s.all leB with
  | true =>
    left
    refine ⟨rfl, ?_⟩
    rw [List.all_eq_true] at h
    induction s with
    | nil => rfl
    | cons c r ih => rw [List.dropWhile_cons, h c (by simp)]; exact ih (fun x hx => h x (by simp [hx]))
  | false =>
    right
    refine ⟨(s.takeWhile leB).length, rfl, ?_, ?_⟩
    · induction s with
      | nil => simp at h
      | cons c r ih =>
        rw [List.takeWhile_cons]
        cases hc : leB c with
        | false => simp
        | true =>
          have : r.all leB = false := by simpa [hc] using h
          have := ih this
          simp; omega
    · clear h
      induction s with
      | nil => rfl
      | cons c r ih =>
        rw [List.takeWhile_cons, List.dropWhile_cons]
        cases hc : leB c <;> simp [ih]
theorem trR_snoc (l : List UInt8) (c : UInt8) : trR (l ++ [c]) = bif leB c then trR l else l ++ [c] := by
  unfold trR
  rw [List.reverse_append, List.reverse_singleton, List.singleton_append, List.dropWhile_cons]
  cases leB c <;> simp
theorem trR_nil : trR [] = [] := rfl
theorem trR_take (s : List UInt8) (i : Nat) (h : i < s.length) : trR (s.take (i + 1)) = bif leB (s.getD i 0) then trR (s.take i) else s.take (i + 1) := by
  rw [List.take_succ_eq_append_getElem h, trR_snoc]
  have : s.getD i 0 = s[i] := by simp [List.getD, List.getElem?_eq_getElem h]
  rw [this]
/-- the decoder -/
theorem decodeN_small (n b0 b1 b2 b3 : Nat) (h : (decodeN n b0 b1 b2 b3).1 < 128) : (decodeN n b0 b1 b2 b3).2 = 1 ∧ (decodeN n b0 b1 b2 b3).1 = b0 ∧ b0 < 128 := by
  revert h
  unfold decodeN
  repeat' split
  all_goals (intro h; first | exact ⟨rfl, rfl, by omega⟩ | (exfalso; simp only at h; omega))
theorem decodeN_asc (n b0 b1 b2 b3 : Nat) (h : b0 < 128) : decodeN n b0 b1 b2 b3 = (b0, 1) := by unfold decodeN; rw [if_pos h]
theorem decL_N (s : List UInt8) (pos : Nat) : Utf8.decode ⟨s.toArray⟩ pos = decodeN (s.length - pos) (s.getD pos 0).toNat (s.getD (pos + 1) 0).toNat (s.getD (pos + 2) 0).toNat (s.getD (pos + 3) 0).toNat := by
  have := decode_N ⟨s.toArray⟩ pos
  simpa using this
theorem decodeN_width (n b0 b1 b2 b3 : Nat) (hn : 1 ≤ n) : 1 ≤ (decodeN n b0 b1 b2 b3).2 ∧ (decodeN n b0 b1 b2 b3).2 ≤ n ∧ (decodeN n b0 b1 b2 b3).2 ≤ 4 := by
  unfold decodeN
  repeat' split
  all_goals (simp only; omega)
/-- a small rune at a place is that byte; any other byte makes a great one -/
theorem dec_le (s : List UInt8) (pos : Nat) : (Utf8.decode ⟨s.toArray⟩ pos).1 ≤ 32 ↔ leB (s.getD pos 0) = true := by
  rw [decL_N, leB, decide_eq_true_eq]
  constructor
  · intro h
    obtain ⟨_, h2, _⟩ := decodeN_small _ _ _ _ _ (Nat.lt_of_le_of_lt h (by decide))
    omega
  · intro h
    rw [decodeN_asc _ _ _ _ _ (by omega)]
    exact h
theorem dec_w1 (s : List UInt8) (pos : Nat) (h : leB (s.getD pos 0) = true) : (Utf8.decode ⟨s.toArray⟩ pos).2 = 1 := by
  rw [leB, decide_eq_true_eq] at h
  rw [decL_N, decodeN_asc _ _ _ _ _ (by omega)]
/-- of a list that is not empty -/
theorem last_le (t : List UInt8) (h : t ≠ []) : ((decodeLastL t).1 ≤ 32 ↔ leB (t.getD (t.length - 1) 0) = true) ∧ (leB (t.getD (t.length - 1) 0) = true → (decodeLastL t).2 = 1) := by
  have hl : 0 < t.length := List.length_pos_iff.2 h
  by_cases ha : (t.getD (t.length - 1) 0).toNat < 128
  · have e : decodeLastL t = ((t.getD (t.length - 1) 0).toNat, 1) := by unfold decodeLastL; rw [if_neg h, if_pos ha]
    rw [e]
    simp [leB]
  · have hf : leB (t.getD (t.length - 1) 0) = false := by rw [leB, decide_eq_false_iff_not]; omega
    rw [hf]
    refine ⟨⟨fun hh => ?_, fun hh => by cases hh⟩, fun hh => by cases hh⟩
    exfalso
    revert hh
    unfold decodeLastL
    rw [if_neg h, if_neg ha]
    simp only
    split
    · rename_i hc
      intro hh
      rw [decodeL_N] at hh hc
      obtain ⟨h1, h2, h3⟩ := decodeN_small _ _ _ _ _ (Nat.lt_of_le_of_lt hh (by decide))
      rw [h1] at hc
      have : (t.drop (lastStart t)).getD 0 0 = t.getD (t.length - 1) 0 := by
        rw [getD_dropU]
        congr 1
        omega
      rw [this] at h3
      omega
    · intro hh; simp [Utf8.runeError] at hh
theorem dec1 (m a0 c0 c1 c2 : Nat) (h : c0 < 128) : (decodeN (1 + m) a0 c0 c1 c2).2 = 1 := by
  unfold decodeN
  repeat' split
  all_goals first | rfl | (exfalso; omega)
theorem dec2 (m a0 a1 x y c0 c1 : Nat) (h : (decodeN 2 a0 a1 x y).2 = 2) : (decodeN (2 + m) a0 a1 c0 c1).2 = 2 := by
  have : ¬ a0 < 128 ∧ (a0 / 32 = 6 ∧ a1 / 64 = 2) ∧ a0 % 32 * 64 + a1 % 64 ≥ 128 := by
    revert h
    unfold decodeN
    repeat' split
    all_goals (intro h; simp only at h; first | (exfalso; omega) | omega)
  unfold decodeN
  rw [if_neg this.1, if_pos ⟨this.2.1.1, by omega, this.2.1.2⟩, if_pos this.2.2]
theorem dec3 (m a0 a1 a2 y c0 : Nat) (h : (decodeN 3 a0 a1 a2 y).2 = 3) : (decodeN (3 + m) a0 a1 a2 c0).2 = 3 := by
  revert h
  unfold decodeN
  repeat' split
  all_goals first | (intro h; first | rfl | exact h) | (intro h; exfalso; simp only at h; omega)
theorem dec4 (m a0 a1 a2 a3 : Nat) (h : (decodeN 4 a0 a1 a2 a3).2 = 4) : (decodeN (4 + m) a0 a1 a2 a3).2 = 4 := by
  revert h
  unfold decodeN
  repeat' split
  all_goals first | (intro h; first | rfl | exact h) | (intro h; exfalso; simp only at h; omega)
/-- from where the last rune begins on, it is decoded alike, whatever small bytes stand behind -/
theorem dec_app (v u : List UInt8) (hv : v ≠ []) (hw : (decodeL v).2 = v.length) (hu : ∀ j, (u.getD j 0).toNat < 128) : (decodeL (v ++ u)).2 = v.length := by
  have hl : 0 < v.length := List.length_pos_iff.2 hv
  have h4 : v.length ≤ 4 := by
    rw [← hw, decodeL_N]; exact (decodeN_width _ _ _ _ _ (by omega)).2.2
  have g : ∀ k, (v ++ u).getD k 0 = if k < v.length then v.getD k 0 else u.getD (k - v.length) 0 := by
    intro k
    simp only [List.getD]
    rw [List.getElem?_append]
    split <;> rfl
  have u0 := hu 0
  rw [decodeL_N] at hw ⊢
  have n : v.length = 1 ∨ v.length = 2 ∨ v.length = 3 ∨ v.length = 4 := by omega
  rw [g, g, g, g, List.length_append]
  rcases n with n | n | n | n <;> rw [n] at hw ⊢ <;> simp only [Nat.reduceLT, Nat.lt_irrefl, Nat.reduceSub, if_true, if_false]
  · exact dec1 _ _ _ _ _ u0
  · exact dec2 _ _ _ _ _ _ _ hw
  · exact dec3 _ _ _ _ _ _ hw
  · exact dec4 _ _ _ _ _ hw
/-- where the last rune begins -/
theorem last_dec (t : List UInt8) (h : t ≠ []) : 1 ≤ (decodeLastL t).2 ∧ (decodeLastL t).2 ≤ t.length ∧ (decodeL (t.drop (t.length - (decodeLastL t).2))).2 = (decodeLastL t).2 := by
  have hl : 0 < t.length := List.length_pos_iff.2 h
  obtain ⟨h1, h2⟩ := decodeLastL_width t hl
  refine ⟨h1, h2, ?_⟩
  have one : ∀ x : List UInt8, x.length = 1 → (decodeL x).2 = 1 := by
    intro x hx
    rw [decodeL_N, hx]
    exact Nat.le_antisymm (decodeN_width 1 _ _ _ _ (Nat.le_refl 1)).2.1 (decodeN_width 1 _ _ _ _ (Nat.le_refl 1)).1
  by_cases ha : (t.getD (t.length - 1) 0).toNat < 128
  · have e : decodeLastL t = ((t.getD (t.length - 1) 0).toNat, 1) := by unfold decodeLastL; rw [if_neg h, if_pos ha]
    rw [e]
    exact one _ (by simp; omega)
  · by_cases hc : lastStart t + (decodeL (t.drop (lastStart t))).2 = t.length
    · have e : decodeLastL t = decodeL (t.drop (lastStart t)) := by unfold decodeLastL; rw [if_neg h, if_neg ha]; simp only; rw [if_pos hc]
      rw [e]
      have : t.length - (decodeL (t.drop (lastStart t))).2 = lastStart t := by omega
      rw [this]
    · have e : decodeLastL t = (Utf8.runeError, 1) := by unfold decodeLastL; rw [if_neg h, if_neg ha]; simp only; rw [if_neg hc]
      rw [e]
      exact one _ (by simp; omega)
theorem mem_tw : ∀ (l : List UInt8) (x : UInt8), x ∈ l.takeWhile leB → leB x = true
  | [], x, h => by simp at h
  | c :: r, x, h => by
    rw [List.takeWhile_cons] at h
    cases hc : leB c with
    | false => rw [hc] at h; simp at h
    | true =>
      rw [hc] at h
      simp only [if_true, List.mem_cons] at h
      rcases h with rfl | h
      · exact hc
      · exact mem_tw r x h
theorem trR_split (s : List UInt8) : ∃ u, s = trR s ++ u ∧ u.all leB = true := by
  refine ⟨(s.reverse.takeWhile leB).reverse, ?_, ?_⟩
  · unfold trR
    rw [← List.reverse_append, List.takeWhile_append_dropWhile, List.reverse_reverse]
  · rw [List.all_reverse, List.all_eq_true]
    intro x hx
    exact mem_tw _ x hx
/-- where the last one that counts begins; -1: there is none -/
def lixL (s : List UInt8) : Int := if trR s = [] then -1 else ((trR s).length : Int) - ((decodeLastL (trR s)).2 : Int)
theorem small_of (u : List UInt8) (h : u.all leB = true) (j : Nat) : (u.getD j 0).toNat < 128 := by
  rcases Nat.lt_or_ge j u.length with h1 | h1
  · rw [List.all_eq_true] at h
    have := h u[j] (List.getElem_mem h1)
    rw [leB, decide_eq_true_eq] at this
    simp only [List.getD, List.getElem?_eq_getElem h1, Option.getD_some]
    omega
  · simp [List.getD, List.getElem?_eq_none h1]
/-- what is left of a text that is trimmed at its end -/
theorem trR_end (s : List UInt8) (h : trR s ≠ []) : 0 ≤ lixL s ∧ lixL s ≤ s.length ∧ lixL s + ((decodeL (s.drop (lixL s).toNat)).2 : Int) = (trR s).length ∧ s.take (trR s).length = trR s ∧ s.drop (lixL s).toNat ≠ [] := by
  obtain ⟨u, hu, hall⟩ := trR_split s
  have e : lixL s = ((trR s).length : Int) - ((decodeLastL (trR s)).2 : Int) := by unfold lixL; rw [if_neg h]
  obtain ⟨h1, h2, h3⟩ := last_dec (trR s) h
  generalize trR s = t at *
  generalize (decodeLastL t).2 = d at *
  have hl : 0 < t.length := List.length_pos_iff.2 h
  have hle : t.length ≤ s.length := by rw [hu]; simp
  have en : (lixL s).toNat = t.length - d := by omega
  have ed : s.drop (lixL s).toNat = t.drop (t.length - d) ++ u := by
    rw [en, hu, List.drop_append_of_le_length (by omega)]
  have hvl : (t.drop (t.length - d)).length = d := by rw [List.length_drop]; omega
  have hv : t.drop (t.length - d) ≠ [] := by
    intro h0
    rw [h0] at hvl
    simp at hvl
    omega
  have hd : (decodeL (s.drop (lixL s).toNat)).2 = d := by rw [ed, dec_app _ u hv (by rw [h3, hvl]) (small_of u hall), hvl]
  refine ⟨by omega, by omega, by rw [hd]; omega, by rw [hu]; simp, ?_⟩
  rw [ed]; simp [hv]
end Go.Vc

namespace Go.Vc
open Go.Proofs
set_option linter.unusedVariables false
set_option maxRecDepth 10000
set_option linter.unusedSimpArgs false
set_option maxHeartbeats 2000000
theorem tup2 {r : Mem} {β : Bind} {a b : SV} {x y : Value} (h1 : Rel r β a x) (h2 : Rel r β b y) : Rel r β (.tup [a, b]) (.tuple #[x, y]) := by
  refine Rel.tup (cs := [x, y]) rfl fun i sv v q1 q2 => ?_
  match i, q1, q2 with
  | 0, q1, q2 => simp at q1 q2; subst q1; subst q2; exact h1
  | 1, q1, q2 => simp at q1 q2; subst q1; subst q2; exact h2
instance lDL (s : List UInt8) : Fn BB 145 [.str s] True (.tup [.int .i32 (Lib.decodeLastL s).1, .int .i64 (Lib.decodeLastL s).2]) := by
  refine Fn.liftB Tryd.call145 fun hp r β w vs hG m hl => ?_
  obtain ⟨rfl, h1⟩ := hl.str1
  exact ⟨_, Tryd.utf8_DecodeLastRuneInString ⟨s.toArray⟩ w (by simpa [ByteArray.size] using h1) (hG.tabs m.vis), tup2 .int .int⟩
instance lDR (s : List UInt8) : Fn BB 79 [.str s] (s ≠ []) (.tup [.int .i32 (Lib.decodeL s).1, .int .i64 (Lib.decodeL s).2]) := by
  refine Fn.liftB Tryd.call79 fun hp r β w vs hG m hl => ?_
  obtain ⟨rfl, h1⟩ := hl.str1
  have e : Lib.decodeGo ⟨s.toArray⟩ = Lib.decodeL s := by
    unfold Lib.decodeGo Lib.decodeL
    rw [if_neg (by simp [ByteArray.size]; exact hp)]
  have := Tryd.utf8_DecodeRuneInString ⟨s.toArray⟩ w (hG.tabs m.vis)
  rw [e] at this
  exact ⟨_, this, tup2 .int .int⟩
instance lBlank (r : Int) : Fn BB 61 [.int .i32 r] True (.bool (decide (r ≤ 32))) := by
  refine Fn.intro (N := 5) [0, 2] [] Tryd.call61 Tryd.func61 rfl rfl (by kernel_rfl) (fun hpre => ?_)
  repeat' ((conv => whnf); first | (with_reducible rfl) | exact True.intro | (with_reducible exact absTF) | (with_reducible exact absFT) | intro _ | refine And.intro ?_ ?_ | refine Fin.mk ?_ | refine CallG.plain rfl ?_ ?_ | refine CallG.mk rfl ?_ ?_ | refine CallG.nwl rfl ?_ ?_ | refine CallG.nw ?_ ?_ | refine CallF.nwl rfl ?_ ?_ | refine CallF.nw ?_ ?_ | refine AppN.mk ?_ | (refine CallS.q ?_; (conv => whnf); first | refine CallG.plain rfl ?_ ?_ | refine CallG.mk rfl ?_ ?_) | (refine CallS.m ?_; (conv => whnf); refine CallM.mk rfl ?_ ?_) | (refine CallS.h ?_; (conv => whnf); refine CallM.mk rfl ?_ ?_) | (refine CallS.b ?_; (conv => whnf); refine CallM.mk rfl ?_ ?_) | (refine CallS.z ?_; (conv => whnf); refine CallM.mk rfl ?_ ?_))
  all_goals (try (conv => whnf))
instance lIdx (s : List UInt8) : Fn BB 129 [.str s, .fn 61 [], .bool false] (s.length ≤ 100000) (.int .i64 (idxL s)) := by
  refine Fn.intro (N := 21) [0, 1, 2, 6, 7, 8, 10, 11, 12, 19] [] Tryd.call129 Tryd.func129 rfl rfl (by kernel_rfl) (fun hpre => ?_)
  repeat' ((conv => whnf); first | (with_reducible rfl) | exact True.intro | (with_reducible exact absTF) | (with_reducible exact absFT) | intro _ | refine And.intro ?_ ?_ | refine Fin.mk ?_ | refine CallG.plain rfl ?_ ?_ | refine CallG.mk rfl ?_ ?_ | refine CallG.nwl rfl ?_ ?_ | refine CallG.nw ?_ ?_ | refine CallF.nwl rfl ?_ ?_ | refine CallF.nw ?_ ?_ | refine AppN.mk ?_ | (refine CallS.q ?_; (conv => whnf); first | refine CallG.plain rfl ?_ ?_ | refine CallG.mk rfl ?_ ?_) | (refine CallS.m ?_; (conv => whnf); refine CallM.mk rfl ?_ ?_) | (refine CallS.h ?_; (conv => whnf); refine CallM.mk rfl ?_ ?_) | (refine CallS.b ?_; (conv => whnf); refine CallM.mk rfl ?_ ?_) | (refine CallS.z ?_; (conv => whnf); refine CallM.mk rfl ?_ ?_))
  all_goals (try (conv => whnf))
  all_goals (try (exact Ob.mk (u8_bnd _)))
  all_goals (try (refine Ob.mk ?_; first | exact True.intro | assumption | omega | (try simp only [decide_eq_true_eq, decide_eq_false_iff_not, beq_iff_eq, beq_eq_false_iff_ne, bne_iff_ne, bne_eq_false_iff_eq, ne_eq, Bool.and_eq_true, Bool.or_eq_true, Bool.not_eq_true, Bool.not_eq_false, Bool.not_eq_true', Bool.not_eq_false', Int.toNat_natCast, Int.not_lt, Int.not_le, UInt8.ofNat_toNat, cast_eq] at *; omega)))
  all_goals (try ((show (_:Int) = _); omega))
  all_goals (try (show tupSV _ = _; with_unfolding_all rfl))
  all_goals (try ((show (_ : Nat) ≤ _); (simp <;> omega)))
  all_goals (try ((show (_ : Nat) ≤ _ ∧ (_ : Nat) ≤ _); (simp <;> omega)))
  all_goals (try ((show (_ : Int) ≤ _ ∧ (_ : Int) ≤ _ ∧ (_ : Int) ≤ _ ∧ (_ : Int) ≤ _); (simp <;> omega)))
  refine LoopStop.mk (α := Nat) (fun p => []) (fun p => [(0, .iter s p)]) 20 (fun p => p ≤ s.length ∧ ∀ j, j < p → leB (s.getD j 0) = true) (fun p => s.length + 1 - p) 0 ⟨by simp, fun j hj => absurd hj (by omega)⟩ ?_ (fun p hp => ?_)
  · repeat' ((conv => whnf); first | (with_reducible rfl) | exact True.intro | (with_reducible exact absTF) | (with_reducible exact absFT) | intro _ | refine And.intro ?_ ?_ | refine Fin.mk ?_ | refine CallG.plain rfl ?_ ?_ | refine CallG.mk rfl ?_ ?_ | refine CallG.nwl rfl ?_ ?_ | refine CallG.nw ?_ ?_ | refine CallF.nwl rfl ?_ ?_ | refine CallF.nw ?_ ?_ | refine AppN.mk ?_ | (refine CallS.q ?_; (conv => whnf); first | refine CallG.plain rfl ?_ ?_ | refine CallG.mk rfl ?_ ?_) | (refine CallS.m ?_; (conv => whnf); refine CallM.mk rfl ?_ ?_) | (refine CallS.h ?_; (conv => whnf); refine CallM.mk rfl ?_ ?_) | (refine CallS.b ?_; (conv => whnf); refine CallM.mk rfl ?_ ?_) | (refine CallS.z ?_; (conv => whnf); refine CallM.mk rfl ?_ ?_))
    all_goals (try (conv => whnf))
    all_goals (try (exact Ob.mk (u8_bnd _)))
    all_goals (try (refine Ob.mk ?_; first | exact True.intro | assumption | omega | (try simp only [decide_eq_true_eq, decide_eq_false_iff_not, beq_iff_eq, beq_eq_false_iff_ne, bne_iff_ne, bne_eq_false_iff_eq, ne_eq, Bool.and_eq_true, Bool.or_eq_true, Bool.not_eq_true, Bool.not_eq_false, Bool.not_eq_true', Bool.not_eq_false', Int.toNat_natCast, Int.not_lt, Int.not_le, UInt8.ofNat_toNat, cast_eq] at *; omega)))
    all_goals (try ((show (_:Int) = _); omega))
    all_goals (try (show tupSV _ = _; with_unfolding_all rfl))
    all_goals (try ((show (_ : Nat) ≤ _); (simp <;> omega)))
    all_goals (try ((show (_ : Nat) ≤ _ ∧ (_ : Nat) ≤ _); (simp <;> omega)))
    all_goals (try ((show (_ : Int) ≤ _ ∧ (_ : Int) ≤ _ ∧ (_ : Int) ≤ _ ∧ (_ : Int) ≤ _); (simp <;> omega)))
  · obtain ⟨hp1, hp2⟩ := hp
    repeat' ((conv => whnf); first | (with_reducible rfl) | exact True.intro | (with_reducible exact absTF) | (with_reducible exact absFT) | intro _ | refine And.intro ?_ ?_ | refine Fin.mk ?_ | refine CallG.plain rfl ?_ ?_ | refine CallG.mk rfl ?_ ?_ | refine CallG.nwl rfl ?_ ?_ | refine CallG.nw ?_ ?_ | refine CallF.nwl rfl ?_ ?_ | refine CallF.nw ?_ ?_ | refine AppN.mk ?_ | (refine CallS.q ?_; (conv => whnf); first | refine CallG.plain rfl ?_ ?_ | refine CallG.mk rfl ?_ ?_) | (refine CallS.m ?_; (conv => whnf); refine CallM.mk rfl ?_ ?_) | (refine CallS.h ?_; (conv => whnf); refine CallM.mk rfl ?_ ?_) | (refine CallS.b ?_; (conv => whnf); refine CallM.mk rfl ?_ ?_) | (refine CallS.z ?_; (conv => whnf); refine CallM.mk rfl ?_ ?_))
    all_goals (try (conv => whnf))
    all_goals (try (exact Ob.mk (u8_bnd _)))
    all_goals (try (refine Ob.mk ?_; first | exact True.intro | assumption | omega | (try simp only [decide_eq_true_eq, decide_eq_false_iff_not, beq_iff_eq, beq_eq_false_iff_ne, bne_iff_ne, bne_eq_false_iff_eq, ne_eq, Bool.and_eq_true, Bool.or_eq_true, Bool.not_eq_true, Bool.not_eq_false, Bool.not_eq_true', Bool.not_eq_false', Int.toNat_natCast, Int.not_lt, Int.not_le, UInt8.ofNat_toNat, cast_eq] at *; omega)))
    all_goals (try ((show (_:Int) = _); omega))
    all_goals (try (show tupSV _ = _; with_unfolding_all rfl))
    all_goals (try ((show (_ : Nat) ≤ _); (simp <;> omega)))
    all_goals (try ((show (_ : Nat) ≤ _ ∧ (_ : Nat) ≤ _); (simp <;> omega)))
    all_goals (try ((show (_ : Int) ≤ _ ∧ (_ : Int) ≤ _ ∧ (_ : Int) ≤ _ ∧ (_ : Int) ≤ _); (simp <;> omega)))
    · rename_i hl _ hb
      have hb1 : leB (s.getD p 0) = false := by
        rw [Bool.eq_false_iff]
        intro hc
        have := (dec_le s p).2 hc
        have h2 : decide (((decL s p).1 : Int) ≤ 32) = true := decide_eq_true (by have : (decL s p).1 ≤ 32 := this; omega)
        rw [h2] at hb; cases hb
      obtain ⟨e1, e2⟩ := tw_len s p hl hp2 hb1
      rw [idxL, e2, e1]; rfl
    · rename_i hl _ hb
      have hb0 : decide (((decL s p).1 : Int) ≤ 32) = true := by simpa using hb
      have hb1 : leB (s.getD p 0) = true := (dec_le s p).1 (by have h3 := of_decide_eq_true hb0; show (decL s p).1 ≤ 32; omega)
      have hw : (decL s p).2 = 1 := dec_w1 s p hb1
      refine Rnd.mk ⟨p + 1, ⟨by omega, fun j hj => ?_⟩, by omega, ?_⟩
      · by_cases h4 : j < p
        · exact hp2 j h4
        · have : j = p := by omega
          subst this; exact hb1
      · repeat' ((conv => whnf); first | (with_reducible rfl) | exact True.intro | (with_reducible exact absTF) | (with_reducible exact absFT) | intro _ | refine And.intro ?_ ?_ | refine Fin.mk ?_ | refine CallG.plain rfl ?_ ?_ | refine CallG.mk rfl ?_ ?_ | refine CallG.nwl rfl ?_ ?_ | refine CallG.nw ?_ ?_ | refine CallF.nwl rfl ?_ ?_ | refine CallF.nw ?_ ?_ | refine AppN.mk ?_ | (refine CallS.q ?_; (conv => whnf); first | refine CallG.plain rfl ?_ ?_ | refine CallG.mk rfl ?_ ?_) | (refine CallS.m ?_; (conv => whnf); refine CallM.mk rfl ?_ ?_) | (refine CallS.h ?_; (conv => whnf); refine CallM.mk rfl ?_ ?_) | (refine CallS.b ?_; (conv => whnf); refine CallM.mk rfl ?_ ?_) | (refine CallS.z ?_; (conv => whnf); refine CallM.mk rfl ?_ ?_))
        all_goals (try (conv => whnf))
        all_goals (try (exact Ob.mk (u8_bnd _)))
        all_goals (try (refine Ob.mk ?_; first | exact True.intro | assumption | omega | (try simp only [decide_eq_true_eq, decide_eq_false_iff_not, beq_iff_eq, beq_eq_false_iff_ne, bne_iff_ne, bne_eq_false_iff_eq, ne_eq, Bool.and_eq_true, Bool.or_eq_true, Bool.not_eq_true, Bool.not_eq_false, Bool.not_eq_true', Bool.not_eq_false', Int.toNat_natCast, Int.not_lt, Int.not_le, UInt8.ofNat_toNat, cast_eq] at *; omega)))
        all_goals (try ((show (_:Int) = _); omega))
        all_goals (try (show tupSV _ = _; with_unfolding_all rfl))
        all_goals (try ((show (_ : Nat) ≤ _); (simp <;> omega)))
        all_goals (try ((show (_ : Nat) ≤ _ ∧ (_ : Nat) ≤ _); (simp <;> omega)))
        all_goals (try ((show (_ : Int) ≤ _ ∧ (_ : Int) ≤ _ ∧ (_ : Int) ≤ _ ∧ (_ : Int) ≤ _); (simp <;> omega)))
        all_goals (rw [hw])
    · rename_i hl _
      have : p = s.length := by omega
      subst this
      rw [idxL, all_of s hp2]; rfl
instance lTL (s : List UInt8) : Fn BB 101 [.str s, .fn 61 []] (s.length ≤ 100000) (.str (trL s)) := by
  refine Fn.intro (N := 14) [0, 1, 4, 5, 10] [] Tryd.call101 Tryd.func101 rfl rfl (by kernel_rfl) (fun hpre => ?_)
  have hx := trL_idx s
  repeat' ((conv => whnf); first | (with_reducible rfl) | exact True.intro | (with_reducible exact absTF) | (with_reducible exact absFT) | intro _ | refine And.intro ?_ ?_ | refine Fin.mk ?_ | refine CallG.plain rfl ?_ ?_ | refine CallG.mk rfl ?_ ?_ | refine CallG.nwl rfl ?_ ?_ | refine CallG.nw ?_ ?_ | refine CallF.nwl rfl ?_ ?_ | refine CallF.nw ?_ ?_ | refine AppN.mk ?_ | (refine CallS.q ?_; (conv => whnf); first | refine CallG.plain rfl ?_ ?_ | refine CallG.mk rfl ?_ ?_) | (refine CallS.m ?_; (conv => whnf); refine CallM.mk rfl ?_ ?_) | (refine CallS.h ?_; (conv => whnf); refine CallM.mk rfl ?_ ?_) | (refine CallS.b ?_; (conv => whnf); refine CallM.mk rfl ?_ ?_) | (refine CallS.z ?_; (conv => whnf); refine CallM.mk rfl ?_ ?_))
  all_goals (try (conv => whnf))
  all_goals (try (exact Ob.mk (u8_bnd _)))
  all_goals (try (refine Ob.mk ?_; first | exact True.intro | assumption | omega | (try simp only [decide_eq_true_eq, decide_eq_false_iff_not, beq_iff_eq, beq_eq_false_iff_ne, bne_iff_ne, bne_eq_false_iff_eq, ne_eq, Bool.and_eq_true, Bool.or_eq_true, Bool.not_eq_true, Bool.not_eq_false, Bool.not_eq_true', Bool.not_eq_false', Int.toNat_natCast, Int.not_lt, Int.not_le, UInt8.ofNat_toNat, cast_eq] at *; omega)))
  all_goals (try ((show (_:Int) = _); omega))
  all_goals (try (show tupSV _ = _; with_unfolding_all rfl))
  all_goals (try ((show (_ : Nat) ≤ _); (simp <;> omega)))
  all_goals (try ((show (_ : Nat) ≤ _ ∧ (_ : Nat) ≤ _); (simp <;> omega)))
  all_goals (try ((show (_ : Int) ≤ _ ∧ (_ : Int) ≤ _ ∧ (_ : Int) ≤ _ ∧ (_ : Int) ≤ _); (simp <;> omega)))
  all_goals (rcases hx with ⟨hx, hx2⟩ | ⟨p, hx, hx1, hx2⟩)
  · rw [hx2]
  · rename_i h; rw [hx] at h; simp at h
  · rename_i h; rw [hx] at h; simp at h
  · rw [hx]; constructor <;> omega
  · rename_i h; rw [hx] at h; simp at h
  · rw [hx, hx2]; simp
instance lLix (s : List UInt8) : Fn BB 128 [.str s, .fn 61 [], .bool false] (s.length ≤ 100000) (.int .i64 (lixL s)) := by
  refine Fn.intro (N := 30) [0, 1, 2, 6, 7, 8, 9, 13, 28] [] Tryd.call128 Tryd.func128 rfl rfl (by kernel_rfl) (fun hpre => ?_)
  repeat' ((conv => whnf); first | (with_reducible rfl) | exact True.intro | (with_reducible exact absTF) | (with_reducible exact absFT) | intro _ | refine And.intro ?_ ?_ | refine Fin.mk ?_ | refine CallG.plain rfl ?_ ?_ | refine CallG.mk rfl ?_ ?_ | refine CallG.nwl rfl ?_ ?_ | refine CallG.nw ?_ ?_ | refine CallF.nwl rfl ?_ ?_ | refine CallF.nw ?_ ?_ | refine AppN.mk ?_ | (refine CallS.q ?_; (conv => whnf); first | refine CallG.plain rfl ?_ ?_ | refine CallG.mk rfl ?_ ?_) | (refine CallS.m ?_; (conv => whnf); refine CallM.mk rfl ?_ ?_) | (refine CallS.h ?_; (conv => whnf); refine CallM.mk rfl ?_ ?_) | (refine CallS.b ?_; (conv => whnf); refine CallM.mk rfl ?_ ?_) | (refine CallS.z ?_; (conv => whnf); refine CallM.mk rfl ?_ ?_))
  all_goals (try (conv => whnf))
  all_goals (try (exact Ob.mk (u8_bnd _)))
  all_goals (try (refine Ob.mk ?_; first | exact True.intro | assumption | omega | (try simp only [decide_eq_true_eq, decide_eq_false_iff_not, beq_iff_eq, beq_eq_false_iff_ne, bne_iff_ne, bne_eq_false_iff_eq, ne_eq, Bool.and_eq_true, Bool.or_eq_true, Bool.not_eq_true, Bool.not_eq_false, Bool.not_eq_true', Bool.not_eq_false', Int.toNat_natCast, Int.not_lt, Int.not_le, UInt8.ofNat_toNat, cast_eq] at *; omega)))
  all_goals (try ((show (_:Int) = _); omega))
  all_goals (try (show tupSV _ = _; with_unfolding_all rfl))
  all_goals (try ((show (_ : Nat) ≤ _); (simp <;> omega)))
  all_goals (try ((show (_ : Nat) ≤ _ ∧ (_ : Nat) ≤ _); (simp <;> omega)))
  all_goals (try ((show (_ : Int) ≤ _ ∧ (_ : Int) ≤ _ ∧ (_ : Int) ≤ _ ∧ (_ : Int) ≤ _); (simp <;> omega)))
  refine LoopStop.mk (α := Nat) (fun i => [(7, .int .i64 i)]) (fun p => []) 20 (fun i => i ≤ s.length ∧ trR s = trR (s.take i)) (fun i => i) s.length ⟨by simp, by rw [List.take_length]⟩ ?_ (fun i hi => ?_)
  · repeat' ((conv => whnf); first | (with_reducible rfl) | exact True.intro | (with_reducible exact absTF) | (with_reducible exact absFT) | intro _ | refine And.intro ?_ ?_ | refine Fin.mk ?_ | refine CallG.plain rfl ?_ ?_ | refine CallG.mk rfl ?_ ?_ | refine CallG.nwl rfl ?_ ?_ | refine CallG.nw ?_ ?_ | refine CallF.nwl rfl ?_ ?_ | refine CallF.nw ?_ ?_ | refine AppN.mk ?_ | (refine CallS.q ?_; (conv => whnf); first | refine CallG.plain rfl ?_ ?_ | refine CallG.mk rfl ?_ ?_) | (refine CallS.m ?_; (conv => whnf); refine CallM.mk rfl ?_ ?_) | (refine CallS.h ?_; (conv => whnf); refine CallM.mk rfl ?_ ?_) | (refine CallS.b ?_; (conv => whnf); refine CallM.mk rfl ?_ ?_) | (refine CallS.z ?_; (conv => whnf); refine CallM.mk rfl ?_ ?_))
    all_goals (try (conv => whnf))
    all_goals (try (exact Ob.mk (u8_bnd _)))
    all_goals (try (refine Ob.mk ?_; first | exact True.intro | assumption | omega | (try simp only [decide_eq_true_eq, decide_eq_false_iff_not, beq_iff_eq, beq_eq_false_iff_ne, bne_iff_ne, bne_eq_false_iff_eq, ne_eq, Bool.and_eq_true, Bool.or_eq_true, Bool.not_eq_true, Bool.not_eq_false, Bool.not_eq_true', Bool.not_eq_false', Int.toNat_natCast, Int.not_lt, Int.not_le, UInt8.ofNat_toNat, cast_eq] at *; omega)))
    all_goals (try ((show (_:Int) = _); omega))
    all_goals (try (show tupSV _ = _; with_unfolding_all rfl))
    all_goals (try ((show (_ : Nat) ≤ _); (simp <;> omega)))
    all_goals (try ((show (_ : Nat) ≤ _ ∧ (_ : Nat) ≤ _); (simp <;> omega)))
    all_goals (try ((show (_ : Int) ≤ _ ∧ (_ : Int) ≤ _ ∧ (_ : Int) ≤ _ ∧ (_ : Int) ≤ _); (simp <;> omega)))
  · obtain ⟨hi1, hi2⟩ := hi
    have hln := fun h : i ≠ 0 => last_le (s.take i) (by intro h0; have := congrArg List.length h0; rw [List.length_take] at this; simp only [List.length_nil] at this; omega)
    have hlw := fun h : i ≠ 0 => Lib.decodeLastL_width (s.take i) (by simp; omega)
    repeat' ((conv => whnf); first | (with_reducible rfl) | exact True.intro | (with_reducible exact absTF) | (with_reducible exact absFT) | intro _ | refine And.intro ?_ ?_ | refine Fin.mk ?_ | refine CallG.plain rfl ?_ ?_ | refine CallG.mk rfl ?_ ?_ | refine CallG.nwl rfl ?_ ?_ | refine CallG.nw ?_ ?_ | refine CallF.nwl rfl ?_ ?_ | refine CallF.nw ?_ ?_ | refine AppN.mk ?_ | (refine CallS.q ?_; (conv => whnf); first | refine CallG.plain rfl ?_ ?_ | refine CallG.mk rfl ?_ ?_) | (refine CallS.m ?_; (conv => whnf); refine CallM.mk rfl ?_ ?_) | (refine CallS.h ?_; (conv => whnf); refine CallM.mk rfl ?_ ?_) | (refine CallS.b ?_; (conv => whnf); refine CallM.mk rfl ?_ ?_) | (refine CallS.z ?_; (conv => whnf); refine CallM.mk rfl ?_ ?_))
    all_goals (try (conv => whnf))
    all_goals (try (exact Ob.mk (u8_bnd _)))
    all_goals (try (refine Ob.mk ?_; first | exact True.intro | assumption | omega | (try simp only [decide_eq_true_eq, decide_eq_false_iff_not, beq_iff_eq, beq_eq_false_iff_ne, bne_iff_ne, bne_eq_false_iff_eq, ne_eq, Bool.and_eq_true, Bool.or_eq_true, Bool.not_eq_true, Bool.not_eq_false, Bool.not_eq_true', Bool.not_eq_false', Int.toNat_natCast, Int.not_lt, Int.not_le, UInt8.ofNat_toNat, cast_eq] at *; omega)))
    all_goals (try ((show (_:Int) = _); omega))
    all_goals (try (show tupSV _ = _; with_unfolding_all rfl))
    all_goals (try ((show (_ : Nat) ≤ _); (simp <;> omega)))
    all_goals (try ((show (_ : Nat) ≤ _ ∧ (_ : Nat) ≤ _); (simp <;> omega)))
    all_goals (try ((show (_ : Int) ≤ _ ∧ (_ : Int) ≤ _ ∧ (_ : Int) ≤ _ ∧ (_ : Int) ≤ _); (simp <;> omega)))
    all_goals (try simp only [Int.toNat_natCast, Int.reduceToNat, List.drop_zero] at *)
    · have := hlw (by have := of_decide_eq_true ‹decide ((i : Int) > 0) = true›; omega)
      rw [List.length_take] at this
      constructor <;> omega
    · rename_i hi hb
      obtain ⟨k, rfl⟩ : ∃ k, i = k + 1 := ⟨i - 1, by have := of_decide_eq_true hi; omega⟩
      obtain ⟨q1, q2⟩ := hln (by omega)
      have e : (s.take (k + 1)).getD ((s.take (k + 1)).length - 1) 0 = s.getD k 0 := by
        have : (s.take (k + 1)).length - 1 = k := by rw [List.length_take]; omega
        rw [this]; simp [List.getD, List.getElem?_take]
      rw [e] at q1 q2
      have hb1 : leB (s.getD k 0) = false := by
        rw [Bool.eq_false_iff]
        intro hc
        have h2 : decide (((Lib.decodeLastL (s.take (k + 1))).1 : Int) ≤ 32) = true := decide_eq_true (by have := q1.2 hc; omega)
        rw [h2] at hb; cases hb
      have ht : trR s = s.take (k + 1) := by rw [hi2, trR_take s k (by omega), hb1]; rfl
      have hne : s.take (k + 1) ≠ [] := by intro h0; have := congrArg List.length h0; rw [List.length_take] at this; simp only [List.length_nil] at this; omega
      unfold lixL
      rw [ht, if_neg hne, List.length_take]
      omega
    · rename_i hi hb
      obtain ⟨k, rfl⟩ : ∃ k, i = k + 1 := ⟨i - 1, by have := of_decide_eq_true hi; omega⟩
      obtain ⟨q1, q2⟩ := hln (by omega)
      have e : (s.take (k + 1)).getD ((s.take (k + 1)).length - 1) 0 = s.getD k 0 := by
        have : (s.take (k + 1)).length - 1 = k := by rw [List.length_take]; omega
        rw [this]; simp [List.getD, List.getElem?_take]
      rw [e] at q1 q2
      have hb0 : decide (((Lib.decodeLastL (s.take (k + 1))).1 : Int) ≤ 32) = true := by simpa using hb
      have hb1 : leB (s.getD k 0) = true := q1.1 (by have := of_decide_eq_true hb0; omega)
      refine Rnd.mk ⟨k, ⟨by omega, by rw [hi2, trR_take s k (by omega), hb1]; rfl⟩, by omega, ?_⟩
      have hw := q2 hb1
      repeat' ((conv => whnf); first | (with_reducible rfl) | exact True.intro | (with_reducible exact absTF) | (with_reducible exact absFT) | intro _ | refine And.intro ?_ ?_ | refine Fin.mk ?_ | refine CallG.plain rfl ?_ ?_ | refine CallG.mk rfl ?_ ?_ | refine CallG.nwl rfl ?_ ?_ | refine CallG.nw ?_ ?_ | refine CallF.nwl rfl ?_ ?_ | refine CallF.nw ?_ ?_ | refine AppN.mk ?_ | (refine CallS.q ?_; (conv => whnf); first | refine CallG.plain rfl ?_ ?_ | refine CallG.mk rfl ?_ ?_) | (refine CallS.m ?_; (conv => whnf); refine CallM.mk rfl ?_ ?_) | (refine CallS.h ?_; (conv => whnf); refine CallM.mk rfl ?_ ?_) | (refine CallS.b ?_; (conv => whnf); refine CallM.mk rfl ?_ ?_) | (refine CallS.z ?_; (conv => whnf); refine CallM.mk rfl ?_ ?_))
      all_goals (try (conv => whnf))
      all_goals (try (exact Ob.mk (u8_bnd _)))
      all_goals (try (refine Ob.mk ?_; first | exact True.intro | assumption | omega | (try simp only [decide_eq_true_eq, decide_eq_false_iff_not, beq_iff_eq, beq_eq_false_iff_ne, bne_iff_ne, bne_eq_false_iff_eq, ne_eq, Bool.and_eq_true, Bool.or_eq_true, Bool.not_eq_true, Bool.not_eq_false, Bool.not_eq_true', Bool.not_eq_false', Int.toNat_natCast, Int.not_lt, Int.not_le, UInt8.ofNat_toNat, cast_eq] at *; omega)))
      all_goals (try ((show (_:Int) = _); omega))
      all_goals (try (show tupSV _ = _; with_unfolding_all rfl))
      all_goals (try ((show (_ : Nat) ≤ _); (simp <;> omega)))
      all_goals (try ((show (_ : Nat) ≤ _ ∧ (_ : Nat) ≤ _); (simp <;> omega)))
      all_goals (try ((show (_ : Int) ≤ _ ∧ (_ : Int) ≤ _ ∧ (_ : Int) ≤ _ ∧ (_ : Int) ≤ _); (simp <;> omega)))
      all_goals (show ((k + 1 : Nat) : Int) - ((Lib.decodeLastL (s.take (k + 1))).2 : Int) = (k : Int); rw [hw]; omega)
    · rename_i hi
      have : i = 0 := by have := of_decide_eq_false hi; omega
      subst this
      unfold lixL
      rw [hi2]; rfl
instance lTR (s : List UInt8) : Fn BB 100 [.str s, .fn 61 []] (s.length ≤ 100000) (.str (trR s)) := by
  refine Fn.intro (N := 28) [0, 1, 4, 5, 7, 12] [] Tryd.call100 Tryd.func100 rfl rfl (by kernel_rfl) (fun hpre => ?_)
  by_cases h : trR s = []
  · have e : lixL s = -1 := by unfold lixL; rw [if_pos h]
    rw [h]
    repeat' ((conv => whnf); first | (with_reducible rfl) | exact True.intro | (with_reducible exact absTF) | (with_reducible exact absFT) | intro _ | refine And.intro ?_ ?_ | refine Fin.mk ?_ | refine CallG.plain rfl ?_ ?_ | refine CallG.mk rfl ?_ ?_ | refine CallG.nwl rfl ?_ ?_ | refine CallG.nw ?_ ?_ | refine CallF.nwl rfl ?_ ?_ | refine CallF.nw ?_ ?_ | refine AppN.mk ?_ | (refine CallS.q ?_; (conv => whnf); first | refine CallG.plain rfl ?_ ?_ | refine CallG.mk rfl ?_ ?_) | (refine CallS.m ?_; (conv => whnf); refine CallM.mk rfl ?_ ?_) | (refine CallS.h ?_; (conv => whnf); refine CallM.mk rfl ?_ ?_) | (refine CallS.b ?_; (conv => whnf); refine CallM.mk rfl ?_ ?_) | (refine CallS.z ?_; (conv => whnf); refine CallM.mk rfl ?_ ?_))
    all_goals (try (conv => whnf))
    all_goals (try (exact Ob.mk (u8_bnd _)))
    all_goals (try (refine Ob.mk ?_; first | exact True.intro | assumption | omega | (try simp only [decide_eq_true_eq, decide_eq_false_iff_not, beq_iff_eq, beq_eq_false_iff_ne, bne_iff_ne, bne_eq_false_iff_eq, ne_eq, Bool.and_eq_true, Bool.or_eq_true, Bool.not_eq_true, Bool.not_eq_false, Bool.not_eq_true', Bool.not_eq_false', Int.toNat_natCast, Int.not_lt, Int.not_le, UInt8.ofNat_toNat, cast_eq] at *; omega)))
    all_goals (try ((show (_:Int) = _); omega))
    all_goals (try (show tupSV _ = _; with_unfolding_all rfl))
    all_goals (try ((show (_ : Nat) ≤ _); (simp <;> omega)))
    all_goals (try ((show (_ : Nat) ≤ _ ∧ (_ : Nat) ≤ _); (simp <;> omega)))
    all_goals (try ((show (_ : Int) ≤ _ ∧ (_ : Int) ≤ _ ∧ (_ : Int) ≤ _ ∧ (_ : Int) ≤ _); (simp <;> omega)))
    all_goals (try (exfalso; have hh : decide (lixL s ≥ 0) = true := ‹_›; rw [e] at hh; cases hh))
    all_goals (rw [e])
    all_goals (first | rfl | (constructor <;> omega) | (refine ⟨?_, ?_, ?_⟩ <;> omega) | (simp))
  · obtain ⟨h1, h2, h3, h4, h5⟩ := trR_end s h
    have hl : (trR s).length ≤ s.length := by have := congrArg List.length h4; rw [List.length_take] at this; omega
    repeat' ((conv => whnf); first | (with_reducible rfl) | exact True.intro | (with_reducible exact absTF) | (with_reducible exact absFT) | intro _ | refine And.intro ?_ ?_ | refine Fin.mk ?_ | refine CallG.plain rfl ?_ ?_ | refine CallG.mk rfl ?_ ?_ | refine CallG.nwl rfl ?_ ?_ | refine CallG.nw ?_ ?_ | refine CallF.nwl rfl ?_ ?_ | refine CallF.nw ?_ ?_ | refine AppN.mk ?_ | (refine CallS.q ?_; (conv => whnf); first | refine CallG.plain rfl ?_ ?_ | refine CallG.mk rfl ?_ ?_) | (refine CallS.m ?_; (conv => whnf); refine CallM.mk rfl ?_ ?_) | (refine CallS.h ?_; (conv => whnf); refine CallM.mk rfl ?_ ?_) | (refine CallS.b ?_; (conv => whnf); refine CallM.mk rfl ?_ ?_) | (refine CallS.z ?_; (conv => whnf); refine CallM.mk rfl ?_ ?_))
    all_goals (try (conv => whnf))
    all_goals (try (exact Ob.mk (u8_bnd _)))
    all_goals (try (refine Ob.mk ?_; first | exact True.intro | assumption | omega | (try simp only [decide_eq_true_eq, decide_eq_false_iff_not, beq_iff_eq, beq_eq_false_iff_ne, bne_iff_ne, bne_eq_false_iff_eq, ne_eq, Bool.and_eq_true, Bool.or_eq_true, Bool.not_eq_true, Bool.not_eq_false, Bool.not_eq_true', Bool.not_eq_false', Int.toNat_natCast, Int.not_lt, Int.not_le, UInt8.ofNat_toNat, cast_eq] at *; omega)))
    all_goals (try ((show (_:Int) = _); omega))
    all_goals (try (show tupSV _ = _; with_unfolding_all rfl))
    all_goals (try ((show (_ : Nat) ≤ _); (simp <;> omega)))
    all_goals (try ((show (_ : Nat) ≤ _ ∧ (_ : Nat) ≤ _); (simp <;> omega)))
    all_goals (try ((show (_ : Int) ≤ _ ∧ (_ : Int) ≤ _ ∧ (_ : Int) ≤ _ ∧ (_ : Int) ≤ _); (simp <;> omega)))
    all_goals (try (exfalso; have hh := of_decide_eq_false ‹decide (lixL s ≥ 0) = false›; exact hh h1))
    all_goals (rw [h3]; exact h4)
instance lTF (s : List UInt8) : Fn BB 60 [.str s, .fn 61 []] (s.length ≤ 100000) (.str (trR (trL s))) := by
  refine Fn.intro (N := 10) [0, 1, 4] [] Tryd.call60 Tryd.func60 rfl rfl (by kernel_rfl) (fun hpre => ?_)
  have hl : (trL s).length ≤ s.length := (List.dropWhile_suffix leB).length_le
  repeat' ((conv => whnf); first | (with_reducible rfl) | exact True.intro | (with_reducible exact absTF) | (with_reducible exact absFT) | intro _ | refine And.intro ?_ ?_ | refine Fin.mk ?_ | refine CallG.plain rfl ?_ ?_ | refine CallG.mk rfl ?_ ?_ | refine CallG.nwl rfl ?_ ?_ | refine CallG.nw ?_ ?_ | refine CallF.nwl rfl ?_ ?_ | refine CallF.nw ?_ ?_ | refine AppN.mk ?_ | (refine CallS.q ?_; (conv => whnf); first | refine CallG.plain rfl ?_ ?_ | refine CallG.mk rfl ?_ ?_) | (refine CallS.m ?_; (conv => whnf); refine CallM.mk rfl ?_ ?_) | (refine CallS.h ?_; (conv => whnf); refine CallM.mk rfl ?_ ?_) | (refine CallS.b ?_; (conv => whnf); refine CallM.mk rfl ?_ ?_) | (refine CallS.z ?_; (conv => whnf); refine CallM.mk rfl ?_ ?_))
  all_goals (try (conv => whnf))
  all_goals (try (exact Ob.mk (u8_bnd _)))
  all_goals (try (refine Ob.mk ?_; first | exact True.intro | assumption | omega | (try simp only [decide_eq_true_eq, decide_eq_false_iff_not, beq_iff_eq, beq_eq_false_iff_ne, bne_iff_ne, bne_eq_false_iff_eq, ne_eq, Bool.and_eq_true, Bool.or_eq_true, Bool.not_eq_true, Bool.not_eq_false, Bool.not_eq_true', Bool.not_eq_false', Int.toNat_natCast, Int.not_lt, Int.not_le, UInt8.ofNat_toNat, cast_eq] at *; omega)))
  all_goals (try ((show (_:Int) = _); omega))
  all_goals (try (show tupSV _ = _; with_unfolding_all rfl))
  all_goals (try ((show (_ : Nat) ≤ _); (simp <;> omega)))
  all_goals (try ((show (_ : Nat) ≤ _ ∧ (_ : Nat) ≤ _); (simp <;> omega)))
  all_goals (try ((show (_ : Int) ≤ _ ∧ (_ : Int) ≤ _ ∧ (_ : Int) ≤ _ ∧ (_ : Int) ≤ _); (simp <;> omega)))
theorem filt_step (s : List UInt8) (i : Nat) (h : i < s.length) : (s.take (i + 1)).filter okC = (s.take i).filter okC ++ (if okC (s.getD i 0) then [s.getD i 0] else []) := by
  rw [List.take_succ_eq_append_getElem h, List.filter_append]
  have : s.getD i 0 = s[i] := by simp [List.getD, List.getElem?_eq_getElem h]
  rw [this]
  by_cases hc : okC s[i] = true
  · rw [if_pos hc]; simp [List.filter_cons, hc]
  · rw [if_neg hc]; simp [List.filter_cons, hc]
theorem u8b (c : UInt8) (k : Nat) (hk : k < 256) : ((c.toNat : Int) == (k : Int)) = (c == UInt8.ofNat k) := by
  rw [Bool.eq_iff_iff, beq_iff_eq, beq_iff_eq]
  constructor
  · intro h; apply UInt8.toNat_inj.1; rw [UInt8.toNat_ofNat']; omega
  · rintro rfl; rw [UInt8.toNat_ofNat']; omega
theorem k9 (c : UInt8) : ((c.toNat : Int) == 9) = (c == 9) := u8b c 9 (by decide)
theorem k10 (c : UInt8) : ((c.toNat : Int) == 10) = (c == 10) := u8b c 10 (by decide)
theorem k13 (c : UInt8) : ((c.toNat : Int) == 13) = (c == 13) := u8b c 13 (by decide)
instance lBare (s : List UInt8) : Fn BB 18 [.str s] (s.length ≤ 100000) (.str (bareL s)) := by
  refine Fn.intro (N := 27) [0, 2, 3, 5, 9, 10, 11, 12, 15, 20] [] Tryd.call18 Tryd.func18 rfl rfl (by kernel_rfl) (fun hpre => ?_)
  have hl1 : (trL s).length ≤ s.length := (List.dropWhile_suffix leB).length_le
  have hl2 : (trR (trL s)).length ≤ (trL s).length := by obtain ⟨u, hu, _⟩ := trR_split (trL s); have := congrArg List.length hu; rw [List.length_append] at this; omega
  unfold bareL
  generalize ht : trR (trL s) = t at *
  repeat' ((conv => whnf); first | (with_reducible rfl) | exact True.intro | (with_reducible exact absTF) | (with_reducible exact absFT) | intro _ | refine And.intro ?_ ?_ | refine Fin.mk ?_ | refine CallG.plain rfl ?_ ?_ | refine CallG.mk rfl ?_ ?_ | refine CallG.nwl rfl ?_ ?_ | refine CallG.nw ?_ ?_ | refine CallF.nwl rfl ?_ ?_ | refine CallF.nw ?_ ?_ | refine AppN.mk ?_ | (refine CallS.q ?_; (conv => whnf); first | refine CallG.plain rfl ?_ ?_ | refine CallG.mk rfl ?_ ?_) | (refine CallS.m ?_; (conv => whnf); refine CallM.mk rfl ?_ ?_) | (refine CallS.h ?_; (conv => whnf); refine CallM.mk rfl ?_ ?_) | (refine CallS.b ?_; (conv => whnf); refine CallM.mk rfl ?_ ?_) | (refine CallS.z ?_; (conv => whnf); refine CallM.mk rfl ?_ ?_))
  all_goals (try (conv => whnf))
  all_goals (try (exact Ob.mk (u8_bnd _)))
  all_goals (try (refine Ob.mk ?_; first | exact True.intro | assumption | omega | (try simp only [decide_eq_true_eq, decide_eq_false_iff_not, beq_iff_eq, beq_eq_false_iff_ne, bne_iff_ne, bne_eq_false_iff_eq, ne_eq, Bool.and_eq_true, Bool.or_eq_true, Bool.not_eq_true, Bool.not_eq_false, Bool.not_eq_true', Bool.not_eq_false', Int.toNat_natCast, Int.not_lt, Int.not_le, UInt8.ofNat_toNat, cast_eq] at *; omega)))
  all_goals (try ((show (_:Int) = _); omega))
  all_goals (try (show tupSV _ = _; with_unfolding_all rfl))
  all_goals (try ((show (_ : Nat) ≤ _); (simp <;> omega)))
  all_goals (try ((show (_ : Nat) ≤ _ ∧ (_ : Nat) ≤ _); (simp <;> omega)))
  all_goals (try ((show (_ : Int) ≤ _ ∧ (_ : Int) ≤ _ ∧ (_ : Int) ≤ _ ∧ (_ : Int) ≤ _); (simp <;> omega)))
  rw [ht]
  refine LoopStop.mk (α := Nat) (fun i => [(11, .int .i64 i), (3, .own 1)]) (fun i => [(1, .own .byte ((t.take i).filter okC))]) 20 (fun i => i ≤ t.length) (fun i => t.length + 1 - i) 0 (by simp) ?_ (fun i hi => ?_)
  · repeat' ((conv => whnf); first | (with_reducible rfl) | exact True.intro | (with_reducible exact absTF) | (with_reducible exact absFT) | intro _ | refine And.intro ?_ ?_ | refine Fin.mk ?_ | refine CallG.plain rfl ?_ ?_ | refine CallG.mk rfl ?_ ?_ | refine CallG.nwl rfl ?_ ?_ | refine CallG.nw ?_ ?_ | refine CallF.nwl rfl ?_ ?_ | refine CallF.nw ?_ ?_ | refine AppN.mk ?_ | (refine CallS.q ?_; (conv => whnf); first | refine CallG.plain rfl ?_ ?_ | refine CallG.mk rfl ?_ ?_) | (refine CallS.m ?_; (conv => whnf); refine CallM.mk rfl ?_ ?_) | (refine CallS.h ?_; (conv => whnf); refine CallM.mk rfl ?_ ?_) | (refine CallS.b ?_; (conv => whnf); refine CallM.mk rfl ?_ ?_) | (refine CallS.z ?_; (conv => whnf); refine CallM.mk rfl ?_ ?_))
    all_goals (try (conv => whnf))
    all_goals (try (exact Ob.mk (u8_bnd _)))
    all_goals (try (refine Ob.mk ?_; first | exact True.intro | assumption | omega | (try simp only [decide_eq_true_eq, decide_eq_false_iff_not, beq_iff_eq, beq_eq_false_iff_ne, bne_iff_ne, bne_eq_false_iff_eq, ne_eq, Bool.and_eq_true, Bool.or_eq_true, Bool.not_eq_true, Bool.not_eq_false, Bool.not_eq_true', Bool.not_eq_false', Int.toNat_natCast, Int.not_lt, Int.not_le, UInt8.ofNat_toNat, cast_eq] at *; omega)))
    all_goals (try ((show (_:Int) = _); omega))
    all_goals (try (show tupSV _ = _; with_unfolding_all rfl))
    all_goals (try ((show (_ : Nat) ≤ _); (simp <;> omega)))
    all_goals (try ((show (_ : Nat) ≤ _ ∧ (_ : Nat) ≤ _); (simp <;> omega)))
    all_goals (try ((show (_ : Int) ≤ _ ∧ (_ : Int) ≤ _ ∧ (_ : Int) ≤ _ ∧ (_ : Int) ≤ _); (simp <;> omega)))
    all_goals rfl
  · have key : ∀ c : UInt8, okC c = !((c.toNat : Int) == 9 || ((c.toNat : Int) == 10 || (c.toNat : Int) == 13)) := fun c => by rw [k9, k10, k13]; rfl
    repeat' ((conv => whnf); first | (with_reducible rfl) | exact True.intro | (with_reducible exact absTF) | (with_reducible exact absFT) | intro _ | refine And.intro ?_ ?_ | refine Fin.mk ?_ | refine CallG.plain rfl ?_ ?_ | refine CallG.mk rfl ?_ ?_ | refine CallG.nwl rfl ?_ ?_ | refine CallG.nw ?_ ?_ | refine CallF.nwl rfl ?_ ?_ | refine CallF.nw ?_ ?_ | refine AppN.mk ?_ | (refine CallS.q ?_; (conv => whnf); first | refine CallG.plain rfl ?_ ?_ | refine CallG.mk rfl ?_ ?_) | (refine CallS.m ?_; (conv => whnf); refine CallM.mk rfl ?_ ?_) | (refine CallS.h ?_; (conv => whnf); refine CallM.mk rfl ?_ ?_) | (refine CallS.b ?_; (conv => whnf); refine CallM.mk rfl ?_ ?_) | (refine CallS.z ?_; (conv => whnf); refine CallM.mk rfl ?_ ?_))
    all_goals (try (conv => whnf))
    all_goals (try (exact Ob.mk (u8_bnd _)))
    all_goals (try (refine Ob.mk ?_; first | exact True.intro | assumption | omega | (try simp only [decide_eq_true_eq, decide_eq_false_iff_not, beq_iff_eq, beq_eq_false_iff_ne, bne_iff_ne, bne_eq_false_iff_eq, ne_eq, Bool.and_eq_true, Bool.or_eq_true, Bool.not_eq_true, Bool.not_eq_false, Bool.not_eq_true', Bool.not_eq_false', Int.toNat_natCast, Int.not_lt, Int.not_le, UInt8.ofNat_toNat, cast_eq] at *; omega)))
    all_goals (try ((show (_:Int) = _); omega))
    all_goals (try (show tupSV _ = _; with_unfolding_all rfl))
    all_goals (try ((show (_ : Nat) ≤ _); (simp <;> omega)))
    all_goals (try ((show (_ : Nat) ≤ _ ∧ (_ : Nat) ≤ _); (simp <;> omega)))
    all_goals (try ((show (_ : Int) ≤ _ ∧ (_ : Int) ≤ _ ∧ (_ : Int) ≤ _ ∧ (_ : Int) ≤ _); (simp <;> omega)))
    all_goals (try simp only [Int.toNat_natCast, Ty.dflt] at *)
    all_goals (try (exfalso; simp_all; done))
    all_goals (try (have hfl : ((t.take i).filter okC).length ≤ 100000 := Nat.le_trans (List.length_filter_le _ _) (by rw [List.length_take]; omega)))
    all_goals (try (have hl := of_decide_eq_true ‹decide ((i : Int) < (t.length : Int)) = true›))
    all_goals (try (have hst := filt_step t i (by omega)))
    · rename_i h
      have hk : okC (t.getD i 0) = false := by rw [key, h]; rfl
      rw [hk] at hst
      refine Rnd.mk ⟨i + 1, by omega, by omega, ?_⟩
      repeat' ((conv => whnf); first | (with_reducible rfl) | exact True.intro | (with_reducible exact absTF) | (with_reducible exact absFT) | intro _ | refine And.intro ?_ ?_ | refine Fin.mk ?_ | refine CallG.plain rfl ?_ ?_ | refine CallG.mk rfl ?_ ?_ | refine CallG.nwl rfl ?_ ?_ | refine CallG.nw ?_ ?_ | refine CallF.nwl rfl ?_ ?_ | refine CallF.nw ?_ ?_ | refine AppN.mk ?_ | (refine CallS.q ?_; (conv => whnf); first | refine CallG.plain rfl ?_ ?_ | refine CallG.mk rfl ?_ ?_) | (refine CallS.m ?_; (conv => whnf); refine CallM.mk rfl ?_ ?_) | (refine CallS.h ?_; (conv => whnf); refine CallM.mk rfl ?_ ?_) | (refine CallS.b ?_; (conv => whnf); refine CallM.mk rfl ?_ ?_) | (refine CallS.z ?_; (conv => whnf); refine CallM.mk rfl ?_ ?_))
      all_goals (try (conv => whnf))
      all_goals (try (exact Ob.mk (u8_bnd _)))
      all_goals (try (refine Ob.mk ?_; first | exact True.intro | assumption | omega | (try simp only [decide_eq_true_eq, decide_eq_false_iff_not, beq_iff_eq, beq_eq_false_iff_ne, bne_iff_ne, bne_eq_false_iff_eq, ne_eq, Bool.and_eq_true, Bool.or_eq_true, Bool.not_eq_true, Bool.not_eq_false, Bool.not_eq_true', Bool.not_eq_false', Int.toNat_natCast, Int.not_lt, Int.not_le, UInt8.ofNat_toNat, cast_eq] at *; omega)))
      all_goals (try ((show (_:Int) = _); omega))
      all_goals (try (show tupSV _ = _; with_unfolding_all rfl))
      all_goals (try ((show (_ : Nat) ≤ _); (simp <;> omega)))
      all_goals (try ((show (_ : Nat) ≤ _ ∧ (_ : Nat) ≤ _); (simp <;> omega)))
      all_goals (try ((show (_ : Int) ≤ _ ∧ (_ : Int) ≤ _ ∧ (_ : Int) ≤ _ ∧ (_ : Int) ≤ _); (simp <;> omega)))
      all_goals (rw [hst]; simp)
    · rename_i h1 _ h
      have hk : okC (t.getD i 0) = false := by rw [key, h1, h]; rfl
      rw [hk] at hst
      refine Rnd.mk ⟨i + 1, by omega, by omega, ?_⟩
      repeat' ((conv => whnf); first | (with_reducible rfl) | exact True.intro | (with_reducible exact absTF) | (with_reducible exact absFT) | intro _ | refine And.intro ?_ ?_ | refine Fin.mk ?_ | refine CallG.plain rfl ?_ ?_ | refine CallG.mk rfl ?_ ?_ | refine CallG.nwl rfl ?_ ?_ | refine CallG.nw ?_ ?_ | refine CallF.nwl rfl ?_ ?_ | refine CallF.nw ?_ ?_ | refine AppN.mk ?_ | (refine CallS.q ?_; (conv => whnf); first | refine CallG.plain rfl ?_ ?_ | refine CallG.mk rfl ?_ ?_) | (refine CallS.m ?_; (conv => whnf); refine CallM.mk rfl ?_ ?_) | (refine CallS.h ?_; (conv => whnf); refine CallM.mk rfl ?_ ?_) | (refine CallS.b ?_; (conv => whnf); refine CallM.mk rfl ?_ ?_) | (refine CallS.z ?_; (conv => whnf); refine CallM.mk rfl ?_ ?_))
      all_goals (try (conv => whnf))
      all_goals (try (exact Ob.mk (u8_bnd _)))
      all_goals (try (refine Ob.mk ?_; first | exact True.intro | assumption | omega | (try simp only [decide_eq_true_eq, decide_eq_false_iff_not, beq_iff_eq, beq_eq_false_iff_ne, bne_iff_ne, bne_eq_false_iff_eq, ne_eq, Bool.and_eq_true, Bool.or_eq_true, Bool.not_eq_true, Bool.not_eq_false, Bool.not_eq_true', Bool.not_eq_false', Int.toNat_natCast, Int.not_lt, Int.not_le, UInt8.ofNat_toNat, cast_eq] at *; omega)))
      all_goals (try ((show (_:Int) = _); omega))
      all_goals (try (show tupSV _ = _; with_unfolding_all rfl))
      all_goals (try ((show (_ : Nat) ≤ _); (simp <;> omega)))
      all_goals (try ((show (_ : Nat) ≤ _ ∧ (_ : Nat) ≤ _); (simp <;> omega)))
      all_goals (try ((show (_ : Int) ≤ _ ∧ (_ : Int) ≤ _ ∧ (_ : Int) ≤ _ ∧ (_ : Int) ≤ _); (simp <;> omega)))
      all_goals (rw [hst]; simp)
    · rename_i h1 h2 h
      have hk : okC (t.getD i 0) = false := by rw [key, h1, h2, h]; rfl
      rw [hk] at hst
      refine Rnd.mk ⟨i + 1, by omega, by omega, ?_⟩
      repeat' ((conv => whnf); first | (with_reducible rfl) | exact True.intro | (with_reducible exact absTF) | (with_reducible exact absFT) | intro _ | refine And.intro ?_ ?_ | refine Fin.mk ?_ | refine CallG.plain rfl ?_ ?_ | refine CallG.mk rfl ?_ ?_ | refine CallG.nwl rfl ?_ ?_ | refine CallG.nw ?_ ?_ | refine CallF.nwl rfl ?_ ?_ | refine CallF.nw ?_ ?_ | refine AppN.mk ?_ | (refine CallS.q ?_; (conv => whnf); first | refine CallG.plain rfl ?_ ?_ | refine CallG.mk rfl ?_ ?_) | (refine CallS.m ?_; (conv => whnf); refine CallM.mk rfl ?_ ?_) | (refine CallS.h ?_; (conv => whnf); refine CallM.mk rfl ?_ ?_) | (refine CallS.b ?_; (conv => whnf); refine CallM.mk rfl ?_ ?_) | (refine CallS.z ?_; (conv => whnf); refine CallM.mk rfl ?_ ?_))
      all_goals (try (conv => whnf))
      all_goals (try (exact Ob.mk (u8_bnd _)))
      all_goals (try (refine Ob.mk ?_; first | exact True.intro | assumption | omega | (try simp only [decide_eq_true_eq, decide_eq_false_iff_not, beq_iff_eq, beq_eq_false_iff_ne, bne_iff_ne, bne_eq_false_iff_eq, ne_eq, Bool.and_eq_true, Bool.or_eq_true, Bool.not_eq_true, Bool.not_eq_false, Bool.not_eq_true', Bool.not_eq_false', Int.toNat_natCast, Int.not_lt, Int.not_le, UInt8.ofNat_toNat, cast_eq] at *; omega)))
      all_goals (try ((show (_:Int) = _); omega))
      all_goals (try (show tupSV _ = _; with_unfolding_all rfl))
      all_goals (try ((show (_ : Nat) ≤ _); (simp <;> omega)))
      all_goals (try ((show (_ : Nat) ≤ _ ∧ (_ : Nat) ≤ _); (simp <;> omega)))
      all_goals (try ((show (_ : Int) ≤ _ ∧ (_ : Int) ≤ _ ∧ (_ : Int) ≤ _ ∧ (_ : Int) ≤ _); (simp <;> omega)))
      all_goals (rw [hst]; simp)
    · simp; omega
    · rename_i h1 h2 h
      have hk : okC (t.getD i 0) = true := by rw [key, h1, h2, h]; rfl
      rw [hk] at hst
      refine Rnd.mk ⟨i + 1, by omega, by omega, ?_⟩
      repeat' ((conv => whnf); first | (with_reducible rfl) | exact True.intro | (with_reducible exact absTF) | (with_reducible exact absFT) | intro _ | refine And.intro ?_ ?_ | refine Fin.mk ?_ | refine CallG.plain rfl ?_ ?_ | refine CallG.mk rfl ?_ ?_ | refine CallG.nwl rfl ?_ ?_ | refine CallG.nw ?_ ?_ | refine CallF.nwl rfl ?_ ?_ | refine CallF.nw ?_ ?_ | refine AppN.mk ?_ | (refine CallS.q ?_; (conv => whnf); first | refine CallG.plain rfl ?_ ?_ | refine CallG.mk rfl ?_ ?_) | (refine CallS.m ?_; (conv => whnf); refine CallM.mk rfl ?_ ?_) | (refine CallS.h ?_; (conv => whnf); refine CallM.mk rfl ?_ ?_) | (refine CallS.b ?_; (conv => whnf); refine CallM.mk rfl ?_ ?_) | (refine CallS.z ?_; (conv => whnf); refine CallM.mk rfl ?_ ?_))
      all_goals (try (conv => whnf))
      all_goals (try (exact Ob.mk (u8_bnd _)))
      all_goals (try (refine Ob.mk ?_; first | exact True.intro | assumption | omega | (try simp only [decide_eq_true_eq, decide_eq_false_iff_not, beq_iff_eq, beq_eq_false_iff_ne, bne_iff_ne, bne_eq_false_iff_eq, ne_eq, Bool.and_eq_true, Bool.or_eq_true, Bool.not_eq_true, Bool.not_eq_false, Bool.not_eq_true', Bool.not_eq_false', Int.toNat_natCast, Int.not_lt, Int.not_le, UInt8.ofNat_toNat, cast_eq] at *; omega)))
      all_goals (try ((show (_:Int) = _); omega))
      all_goals (try (show tupSV _ = _; with_unfolding_all rfl))
      all_goals (try ((show (_ : Nat) ≤ _); (simp <;> omega)))
      all_goals (try ((show (_ : Nat) ≤ _ ∧ (_ : Nat) ≤ _); (simp <;> omega)))
      all_goals (try ((show (_ : Int) ≤ _ ∧ (_ : Int) ≤ _ ∧ (_ : Int) ≤ _ ∧ (_ : Int) ≤ _); (simp <;> omega)))
      all_goals (rw [hst]; simp)
    · have hl := of_decide_eq_false ‹decide ((i : Int) < (t.length : Int)) = false›
      have : i = t.length := by omega
      rw [this, List.take_length]
end Go.Vc
