/- A part of the proof: lemmas and walks that the last text of the claim joins; no condition. -/
import Derived.Test.YtgggnkinalmmlaaDoorVcI
import Derived.Laws.Externs
import Derived.Shelf.Unicode.DecodeSlow
import Derived.Test.YtgggnkinalmmlaaDoorChecked
import Derived.Shelf.Spec.SlicesInsert
import Derived.Shelf.Spec.SlicesInsertGrow
import Derived.Shelf.Strings.Builder1
import Derived.Shelf.Strings.Builder2
import Derived.Shelf.Small.Utf8
import Derived.Shelf.Small.Strs
import Derived.Shelf.Utf8.RuneCount
import Derived.Shelf.Strings.Builder2Cap
import Derived.Shelf.Strings.Search1
import Derived.Shelf.Strings.Search2
import Derived.Shelf.Strings.Search3
import Derived.Shelf.Strings.Cut
import Derived.Shelf.Strings.Count
import Derived.Shelf.LaysM
import Derived.Shelf.Strings.Shaped
import Derived.Shelf.Strings.Split
import Derived.Shelf.Strings.Replace
import Derived.Shelf.Strings.SplitShaped
import Derived.Shelf.Unicode.Decode
import Derived.Shelf.Strings.Runes
import Derived.Shelf.Strings.RuneCount
import Derived.Shelf.Strings.IndexAny
import Derived.Shelf.Strings.AsciiSet
import Derived.Shelf.Strings.IndexAnyAll
import Derived.Shelf.Unicode.DecodeAny
import Derived.Shelf.Unicode.DecodeLast
import Derived.Shelf.Slices.Turned
import Derived.Test.YtgggnkinalmmlaaDoorProg
import Derived.Shelf.SlGeneric
import Derived.Shelf.Spec.DecodeRune
import Derived.Test.YtgggnkinalmmlaaDoorTA
set_option linter.unusedVariables false
set_option linter.unusedSimpArgs false
namespace Go.Vc
open Go.Proofs
set_option linter.unusedVariables false
theorem mixed : Tryd.prog.follows .mixedOrders = true := by kernel_rfl
abbrev intTy : Ty := .int .i64
abbrev spTy : Ty := .pr intTy intTy
abbrev attrTy : Ty := .pr .str .str
abbrev nodeTy : Ty := .pr intTy (.pr intTy (.pr .str (.pr (.sl attrTy) (.pr .str (.pr intTy (.sl intTy))))))
def tyB (t : TypeId) : Option Ty :=
  bif Nat.beq t 3 then some intTy else bif Nat.beq t 4 then some .bool else bif Nat.beq t 5 then some .byte else bif Nat.beq t 9 then some .str else bif Nat.beq t 51 then some attrTy else bif Nat.beq t 49 then some nodeTy else bif Nat.beq t 141 then some spTy else bif Nat.beq t 22 then some (.sl .str) else none
def eqsB (t : TypeId) : Bool := Nat.beq t 51
theorem eqsB_ok : ∀ t, eqsB t = true → Tryd.prog.stoodInHeld t = false ∧ Tryd.prog.eqGuardType Tryd.prog.depth t = false ∧ ((Tryd.prog.fieldsOf t).toList.all fun f => f.name != "_") = true := by
  intro t h
  obtain rfl := beq_of h
  exact ⟨by kernel_rfl, by kernel_rfl, by kernel_rfl⟩
def neB (f : FuncId) : Bool := Nat.beq f 130
theorem neB_ok : ∀ f, neB f = true → ∀ (x : Value) (w : World), (callFunc f #[x]).run Tryd.prog w = .ok (.value x) w := by
  intro f h x w
  obtain rfl := beq_of h
  rw [run_callFunc_extern Tryd.func130 (by kernel_rfl) (by kernel_rfl) (by kernel_rfl) (e := Extern.AbiNoEscape.same) (by kernel_rfl)]
  rfl
def tbB (t : TypeId) : Bool := Nat.beq t 76
/-- a cell of the memory that does not change -/
def cellR (r : Mem) (b o : Nat) : Option Value := match r b with | some (.cells c _ _) => c[o]? | _ => none
theorem cellR_le {r r' : Mem} (h : r.le r') {b o v} (hc : cellR r b o = some v) : cellR r' b o = some v := by
  unfold cellR at hc ⊢
  cases hr : r b with
  | none => rw [hr] at hc; cases hc
  | some x => rw [hr] at hc; rw [h b x hr]; exact hc
theorem cellR_at {r : Mem} {w : World} (hv : ∀ b o, r b = some o → w.heap[b]? = some o) {b o v} (hc : cellR r b o = some v) : w.cell? ⟨b, o, none⟩ = some v := by
  unfold cellR at hc
  cases hr : r b with
  | none => rw [hr] at hc; cases hc
  | some x =>
    rw [hr] at hc
    have := hv b x hr
    cases x <;> simp only at hc <;> first | (cases hc; done) | skip
    simp only [World.cell?, this]
    exact hc
/-- the library's two tables, and a number -/
structure GB (r : Mem) : Prop where
  first : ∀ c, c < 256 → cellR r 0 c = some (.int .u8 (Lib.firstT c))
  acc : ∀ i, i < 16 → cellR r 1 (2 * i) = some (.int .u8 (Lib.accLo i)) ∧ cellR r 1 (2 * i + 1) = some (.int .u8 (Lib.accHi i))
  len : ∃ m : Int, cellR r 2 0 = some (.int .i64 m)
theorem GB.le {r r' : Mem} (h : r.le r') (g : GB r) : GB r' :=
  ⟨fun c hc => cellR_le h (g.first c hc), fun i hi => ⟨cellR_le h (g.acc i hi).1, cellR_le h (g.acc i hi).2⟩, g.len.elim fun m hm => ⟨m, cellR_le h hm⟩⟩
theorem GB.tabs {r : Mem} {w : World} (g : GB r) (hv : ∀ b o, r b = some o → w.heap[b]? = some o) : Lib.Utf8Tabs 0 1 w :=
  ⟨fun c hc => cellR_at hv (g.first c hc), fun i hi => ⟨cellR_at hv (g.acc i hi).1, cellR_at hv (g.acc i hi).2⟩⟩
noncomputable abbrev BB : Base := { P := Tryd.prog, mixed := mixed, G := GB, mono := fun r r' h g => g.le h, ty0 := tyB, eqs := eqsB, eqs_ok := eqsB_ok, ne := neB, ne_ok := neB_ok, tb := tbB }

set_option maxRecDepth 10000
@[simp] theorem bytes1 : bytesT Tryd.prog 1 = 8 := rfl
@[simp] theorem bytesB1 : bytesT BB.P 1 = 8 := rfl
@[simp] theorem bytes2 : bytesT Tryd.prog 2 = 8 := rfl
@[simp] theorem bytesB2 : bytesT BB.P 2 = 8 := rfl
@[simp] theorem bytes3 : bytesT Tryd.prog 3 = 8 := rfl
@[simp] theorem bytesB3 : bytesT BB.P 3 = 8 := rfl
@[simp] theorem bytes4 : bytesT Tryd.prog 4 = 1 := rfl
@[simp] theorem bytesB4 : bytesT BB.P 4 = 1 := rfl
@[simp] theorem bytes5 : bytesT Tryd.prog 5 = 1 := rfl
@[simp] theorem bytesB5 : bytesT BB.P 5 = 1 := rfl
@[simp] theorem bytes6 : bytesT Tryd.prog 6 = 1 := rfl
@[simp] theorem bytesB6 : bytesT BB.P 6 = 1 := rfl
@[simp] theorem bytes7 : bytesT Tryd.prog 7 = 24 := rfl
@[simp] theorem bytesB7 : bytesT BB.P 7 = 24 := rfl
@[simp] theorem bytes8 : bytesT Tryd.prog 8 = 24 := rfl
@[simp] theorem bytesB8 : bytesT BB.P 8 = 24 := rfl
@[simp] theorem bytes9 : bytesT Tryd.prog 9 = 16 := rfl
@[simp] theorem bytesB9 : bytesT BB.P 9 = 16 := rfl
@[simp] theorem bytes10 : bytesT Tryd.prog 10 = 16 := rfl
@[simp] theorem bytesB10 : bytesT BB.P 10 = 16 := rfl
@[simp] theorem bytes11 : bytesT Tryd.prog 11 = 16 := rfl
@[simp] theorem bytesB11 : bytesT BB.P 11 = 16 := rfl
@[simp] theorem bytes12 : bytesT Tryd.prog 12 = 8 := rfl
@[simp] theorem bytesB12 : bytesT BB.P 12 = 8 := rfl
@[simp] theorem bytes13 : bytesT Tryd.prog 13 = 24 := rfl
@[simp] theorem bytesB13 : bytesT BB.P 13 = 24 := rfl
@[simp] theorem bytes14 : bytesT Tryd.prog 14 = 24 := rfl
@[simp] theorem bytesB14 : bytesT BB.P 14 = 24 := rfl
@[simp] theorem bytes15 : bytesT Tryd.prog 15 = 8 := rfl
@[simp] theorem bytesB15 : bytesT BB.P 15 = 8 := rfl
@[simp] theorem bytes16 : bytesT Tryd.prog 16 = 8 := rfl
@[simp] theorem bytesB16 : bytesT BB.P 16 = 8 := rfl
@[simp] theorem bytes17 : bytesT Tryd.prog 17 = 8 := rfl
@[simp] theorem bytesB17 : bytesT BB.P 17 = 8 := rfl
@[simp] theorem bytes18 : bytesT Tryd.prog 18 = 8 := rfl
@[simp] theorem bytesB18 : bytesT BB.P 18 = 8 := rfl
@[simp] theorem bytes19 : bytesT Tryd.prog 19 = 8 := rfl
@[simp] theorem bytesB19 : bytesT BB.P 19 = 8 := rfl
@[simp] theorem bytes20 : bytesT Tryd.prog 20 = 16 := rfl
@[simp] theorem bytesB20 : bytesT BB.P 20 = 16 := rfl
@[simp] theorem bytes21 : bytesT Tryd.prog 21 = 4 := rfl
@[simp] theorem bytesB21 : bytesT BB.P 21 = 4 := rfl
@[simp] theorem bytes22 : bytesT Tryd.prog 22 = 24 := rfl
@[simp] theorem bytesB22 : bytesT BB.P 22 = 24 := rfl
@[simp] theorem bytes23 : bytesT Tryd.prog 23 = 8 := rfl
@[simp] theorem bytesB23 : bytesT BB.P 23 = 8 := rfl
@[simp] theorem bytes24 : bytesT Tryd.prog 24 = 8 := rfl
@[simp] theorem bytesB24 : bytesT BB.P 24 = 8 := rfl
@[simp] theorem bytes26 : bytesT Tryd.prog 26 = 8 := rfl
@[simp] theorem bytesB26 : bytesT BB.P 26 = 8 := rfl
@[simp] theorem bytes27 : bytesT Tryd.prog 27 = 8 := rfl
@[simp] theorem bytesB27 : bytesT BB.P 27 = 8 := rfl
@[simp] theorem bytes28 : bytesT Tryd.prog 28 = 8 := rfl
@[simp] theorem bytesB28 : bytesT BB.P 28 = 8 := rfl
@[simp] theorem bytes29 : bytesT Tryd.prog 29 = 8 := rfl
@[simp] theorem bytesB29 : bytesT BB.P 29 = 8 := rfl
@[simp] theorem bytes30 : bytesT Tryd.prog 30 = 8 := rfl
@[simp] theorem bytesB30 : bytesT BB.P 30 = 8 := rfl
@[simp] theorem bytes31 : bytesT Tryd.prog 31 = 8 := rfl
@[simp] theorem bytesB31 : bytesT BB.P 31 = 8 := rfl
@[simp] theorem bytes32 : bytesT Tryd.prog 32 = 24 := rfl
@[simp] theorem bytesB32 : bytesT BB.P 32 = 24 := rfl
@[simp] theorem bytes33 : bytesT Tryd.prog 33 = 8 := rfl
@[simp] theorem bytesB33 : bytesT BB.P 33 = 8 := rfl
@[simp] theorem bytes34 : bytesT Tryd.prog 34 = 8 := rfl
@[simp] theorem bytesB34 : bytesT BB.P 34 = 8 := rfl
@[simp] theorem bytes35 : bytesT Tryd.prog 35 = 8 := rfl
@[simp] theorem bytesB35 : bytesT BB.P 35 = 8 := rfl
@[simp] theorem bytes36 : bytesT Tryd.prog 36 = 8 := rfl
@[simp] theorem bytesB36 : bytesT BB.P 36 = 8 := rfl
@[simp] theorem bytes37 : bytesT Tryd.prog 37 = 8 := rfl
@[simp] theorem bytesB37 : bytesT BB.P 37 = 8 := rfl
@[simp] theorem bytes38 : bytesT Tryd.prog 38 = 8 := rfl
@[simp] theorem bytesB38 : bytesT BB.P 38 = 8 := rfl
@[simp] theorem bytes39 : bytesT Tryd.prog 39 = 8 := rfl
@[simp] theorem bytesB39 : bytesT BB.P 39 = 8 := rfl
@[simp] theorem bytes40 : bytesT Tryd.prog 40 = 8 := rfl
@[simp] theorem bytesB40 : bytesT BB.P 40 = 8 := rfl
@[simp] theorem bytes41 : bytesT Tryd.prog 41 = 8 := rfl
@[simp] theorem bytesB41 : bytesT BB.P 41 = 8 := rfl
@[simp] theorem bytes42 : bytesT Tryd.prog 42 = 8 := rfl
@[simp] theorem bytesB42 : bytesT BB.P 42 = 8 := rfl
@[simp] theorem bytes43 : bytesT Tryd.prog 43 = 8 := rfl
@[simp] theorem bytesB43 : bytesT BB.P 43 = 8 := rfl
@[simp] theorem bytes44 : bytesT Tryd.prog 44 = 160 := rfl
@[simp] theorem bytesB44 : bytesT BB.P 44 = 160 := rfl
@[simp] theorem bytes45 : bytesT Tryd.prog 45 = 160 := rfl
@[simp] theorem bytesB45 : bytesT BB.P 45 = 160 := rfl
@[simp] theorem bytes46 : bytesT Tryd.prog 46 = 24 := rfl
@[simp] theorem bytesB46 : bytesT BB.P 46 = 24 := rfl
@[simp] theorem bytes47 : bytesT Tryd.prog 47 = 24 := rfl
@[simp] theorem bytesB47 : bytesT BB.P 47 = 24 := rfl
@[simp] theorem bytes48 : bytesT Tryd.prog 48 = 104 := rfl
@[simp] theorem bytesB48 : bytesT BB.P 48 = 104 := rfl
@[simp] theorem bytes49 : bytesT Tryd.prog 49 = 104 := rfl
@[simp] theorem bytesB49 : bytesT BB.P 49 = 104 := rfl
@[simp] theorem bytes50 : bytesT Tryd.prog 50 = 32 := rfl
@[simp] theorem bytesB50 : bytesT BB.P 50 = 32 := rfl
@[simp] theorem bytes51 : bytesT Tryd.prog 51 = 32 := rfl
@[simp] theorem bytesB51 : bytesT BB.P 51 = 32 := rfl
@[simp] theorem bytes52 : bytesT Tryd.prog 52 = 8 := rfl
@[simp] theorem bytesB52 : bytesT BB.P 52 = 8 := rfl
@[simp] theorem bytes53 : bytesT Tryd.prog 53 = 8 := rfl
@[simp] theorem bytesB53 : bytesT BB.P 53 = 8 := rfl
@[simp] theorem bytes54 : bytesT Tryd.prog 54 = 8 := rfl
@[simp] theorem bytesB54 : bytesT BB.P 54 = 8 := rfl
@[simp] theorem bytes56 : bytesT Tryd.prog 56 = 8 := rfl
@[simp] theorem bytesB56 : bytesT BB.P 56 = 8 := rfl
@[simp] theorem bytes57 : bytesT Tryd.prog 57 = 8 := rfl
@[simp] theorem bytesB57 : bytesT BB.P 57 = 8 := rfl
@[simp] theorem bytes58 : bytesT Tryd.prog 58 = 8 := rfl
@[simp] theorem bytesB58 : bytesT BB.P 58 = 8 := rfl
@[simp] theorem bytes59 : bytesT Tryd.prog 59 = 8 := rfl
@[simp] theorem bytesB59 : bytesT BB.P 59 = 8 := rfl
@[simp] theorem bytes60 : bytesT Tryd.prog 60 = 8 := rfl
@[simp] theorem bytesB60 : bytesT BB.P 60 = 8 := rfl
@[simp] theorem bytes61 : bytesT Tryd.prog 61 = 8 := rfl
@[simp] theorem bytesB61 : bytesT BB.P 61 = 8 := rfl
@[simp] theorem bytes62 : bytesT Tryd.prog 62 = 8 := rfl
@[simp] theorem bytesB62 : bytesT BB.P 62 = 8 := rfl
@[simp] theorem bytes63 : bytesT Tryd.prog 63 = 8 := rfl
@[simp] theorem bytesB63 : bytesT BB.P 63 = 8 := rfl
@[simp] theorem bytes65 : bytesT Tryd.prog 65 = 8 := rfl
@[simp] theorem bytesB65 : bytesT BB.P 65 = 8 := rfl
@[simp] theorem bytes66 : bytesT Tryd.prog 66 = 8 := rfl
@[simp] theorem bytesB66 : bytesT BB.P 66 = 8 := rfl
@[simp] theorem bytes67 : bytesT Tryd.prog 67 = 8 := rfl
@[simp] theorem bytesB67 : bytesT BB.P 67 = 8 := rfl
@[simp] theorem bytes68 : bytesT Tryd.prog 68 = 8 := rfl
@[simp] theorem bytesB68 : bytesT BB.P 68 = 8 := rfl
@[simp] theorem bytes69 : bytesT Tryd.prog 69 = 8 := rfl
@[simp] theorem bytesB69 : bytesT BB.P 69 = 8 := rfl
@[simp] theorem bytes70 : bytesT Tryd.prog 70 = 8 := rfl
@[simp] theorem bytesB70 : bytesT BB.P 70 = 8 := rfl
@[simp] theorem bytes71 : bytesT Tryd.prog 71 = 24 := rfl
@[simp] theorem bytesB71 : bytesT BB.P 71 = 24 := rfl
@[simp] theorem bytes72 : bytesT Tryd.prog 72 = 8 := rfl
@[simp] theorem bytesB72 : bytesT BB.P 72 = 8 := rfl
@[simp] theorem bytes73 : bytesT Tryd.prog 73 = 8 := rfl
@[simp] theorem bytesB73 : bytesT BB.P 73 = 8 := rfl
@[simp] theorem bytes74 : bytesT Tryd.prog 74 = 8 := rfl
@[simp] theorem bytesB74 : bytesT BB.P 74 = 8 := rfl
@[simp] theorem bytes75 : bytesT Tryd.prog 75 = 32 := rfl
@[simp] theorem bytesB75 : bytesT BB.P 75 = 32 := rfl
@[simp] theorem bytes76 : bytesT Tryd.prog 76 = 32 := rfl
@[simp] theorem bytesB76 : bytesT BB.P 76 = 32 := rfl
@[simp] theorem bytes78 : bytesT Tryd.prog 78 = 8 := rfl
@[simp] theorem bytesB78 : bytesT BB.P 78 = 8 := rfl
@[simp] theorem bytes79 : bytesT Tryd.prog 79 = 8 := rfl
@[simp] theorem bytesB79 : bytesT BB.P 79 = 8 := rfl
@[simp] theorem bytes80 : bytesT Tryd.prog 80 = 16 := rfl
@[simp] theorem bytesB80 : bytesT BB.P 80 = 16 := rfl
@[simp] theorem bytes81 : bytesT Tryd.prog 81 = 16 := rfl
@[simp] theorem bytesB81 : bytesT BB.P 81 = 16 := rfl
@[simp] theorem bytes83 : bytesT Tryd.prog 83 = 8 := rfl
@[simp] theorem bytesB83 : bytesT BB.P 83 = 8 := rfl
@[simp] theorem bytes84 : bytesT Tryd.prog 84 = 8 := rfl
@[simp] theorem bytesB84 : bytesT BB.P 84 = 8 := rfl
@[simp] theorem bytes85 : bytesT Tryd.prog 85 = 8 := rfl
@[simp] theorem bytesB85 : bytesT BB.P 85 = 8 := rfl
@[simp] theorem bytes86 : bytesT Tryd.prog 86 = 8 := rfl
@[simp] theorem bytesB86 : bytesT BB.P 86 = 8 := rfl
@[simp] theorem bytes88 : bytesT Tryd.prog 88 = 8 := rfl
@[simp] theorem bytesB88 : bytesT BB.P 88 = 8 := rfl
@[simp] theorem bytes89 : bytesT Tryd.prog 89 = 8 := rfl
@[simp] theorem bytesB89 : bytesT BB.P 89 = 8 := rfl
@[simp] theorem bytes91 : bytesT Tryd.prog 91 = 8 := rfl
@[simp] theorem bytesB91 : bytesT BB.P 91 = 8 := rfl
@[simp] theorem bytes92 : bytesT Tryd.prog 92 = 8 := rfl
@[simp] theorem bytesB92 : bytesT BB.P 92 = 8 := rfl
@[simp] theorem bytes93 : bytesT Tryd.prog 93 = 8 := rfl
@[simp] theorem bytesB93 : bytesT BB.P 93 = 8 := rfl
@[simp] theorem bytes94 : bytesT Tryd.prog 94 = 8 := rfl
@[simp] theorem bytesB94 : bytesT BB.P 94 = 8 := rfl
@[simp] theorem bytes95 : bytesT Tryd.prog 95 = 8 := rfl
@[simp] theorem bytesB95 : bytesT BB.P 95 = 8 := rfl
@[simp] theorem bytes96 : bytesT Tryd.prog 96 = 8 := rfl
@[simp] theorem bytesB96 : bytesT BB.P 96 = 8 := rfl
@[simp] theorem bytes97 : bytesT Tryd.prog 97 = 8 := rfl
@[simp] theorem bytesB97 : bytesT BB.P 97 = 8 := rfl
@[simp] theorem bytes98 : bytesT Tryd.prog 98 = 8 := rfl
@[simp] theorem bytesB98 : bytesT BB.P 98 = 8 := rfl
@[simp] theorem bytes99 : bytesT Tryd.prog 99 = 8 := rfl
@[simp] theorem bytesB99 : bytesT BB.P 99 = 8 := rfl
@[simp] theorem bytes100 : bytesT Tryd.prog 100 = 16 := rfl
@[simp] theorem bytesB100 : bytesT BB.P 100 = 16 := rfl
@[simp] theorem bytes101 : bytesT Tryd.prog 101 = 16 := rfl
@[simp] theorem bytesB101 : bytesT BB.P 101 = 16 := rfl
@[simp] theorem bytes103 : bytesT Tryd.prog 103 = 8 := rfl
@[simp] theorem bytesB103 : bytesT BB.P 103 = 8 := rfl
@[simp] theorem bytes104 : bytesT Tryd.prog 104 = 8 := rfl
@[simp] theorem bytesB104 : bytesT BB.P 104 = 8 := rfl
@[simp] theorem bytes105 : bytesT Tryd.prog 105 = 8 := rfl
@[simp] theorem bytesB105 : bytesT BB.P 105 = 8 := rfl
@[simp] theorem bytes107 : bytesT Tryd.prog 107 = 8 := rfl
@[simp] theorem bytesB107 : bytesT BB.P 107 = 8 := rfl
@[simp] theorem bytes108 : bytesT Tryd.prog 108 = 8 := rfl
@[simp] theorem bytesB108 : bytesT BB.P 108 = 8 := rfl
@[simp] theorem bytes109 : bytesT Tryd.prog 109 = 8 := rfl
@[simp] theorem bytesB109 : bytesT BB.P 109 = 8 := rfl
@[simp] theorem bytes110 : bytesT Tryd.prog 110 = 256 := rfl
@[simp] theorem bytesB110 : bytesT BB.P 110 = 256 := rfl
@[simp] theorem bytes111 : bytesT Tryd.prog 111 = 2 := rfl
@[simp] theorem bytesB111 : bytesT BB.P 111 = 2 := rfl
@[simp] theorem bytes112 : bytesT Tryd.prog 112 = 2 := rfl
@[simp] theorem bytesB112 : bytesT BB.P 112 = 2 := rfl
@[simp] theorem bytes113 : bytesT Tryd.prog 113 = 32 := rfl
@[simp] theorem bytesB113 : bytesT BB.P 113 = 32 := rfl
@[simp] theorem bytes114 : bytesT Tryd.prog 114 = 8 := rfl
@[simp] theorem bytesB114 : bytesT BB.P 114 = 8 := rfl
@[simp] theorem bytes115 : bytesT Tryd.prog 115 = 8 := rfl
@[simp] theorem bytesB115 : bytesT BB.P 115 = 8 := rfl
@[simp] theorem bytes116 : bytesT Tryd.prog 116 = 8 := rfl
@[simp] theorem bytesB116 : bytesT BB.P 116 = 8 := rfl
@[simp] theorem bytes117 : bytesT Tryd.prog 117 = 256 := rfl
@[simp] theorem bytesB117 : bytesT BB.P 117 = 256 := rfl
@[simp] theorem bytes118 : bytesT Tryd.prog 118 = 8 := rfl
@[simp] theorem bytesB118 : bytesT BB.P 118 = 8 := rfl
@[simp] theorem bytes119 : bytesT Tryd.prog 119 = 8 := rfl
@[simp] theorem bytesB119 : bytesT BB.P 119 = 8 := rfl
@[simp] theorem bytes120 : bytesT Tryd.prog 120 = 48 := rfl
@[simp] theorem bytesB120 : bytesT BB.P 120 = 48 := rfl
@[simp] theorem bytes121 : bytesT Tryd.prog 121 = 8 := rfl
@[simp] theorem bytesB121 : bytesT BB.P 121 = 8 := rfl
@[simp] theorem bytes122 : bytesT Tryd.prog 122 = 8 := rfl
@[simp] theorem bytesB122 : bytesT BB.P 122 = 8 := rfl
@[simp] theorem bytes124 : bytesT Tryd.prog 124 = 8 := rfl
@[simp] theorem bytesB124 : bytesT BB.P 124 = 8 := rfl
@[simp] theorem bytes125 : bytesT Tryd.prog 125 = 8 := rfl
@[simp] theorem bytesB125 : bytesT BB.P 125 = 8 := rfl
@[simp] theorem bytes126 : bytesT Tryd.prog 126 = 8 := rfl
@[simp] theorem bytesB126 : bytesT BB.P 126 = 8 := rfl
@[simp] theorem bytes127 : bytesT Tryd.prog 127 = 8 := rfl
@[simp] theorem bytesB127 : bytesT BB.P 127 = 8 := rfl
@[simp] theorem bytes128 : bytesT Tryd.prog 128 = 8 := rfl
@[simp] theorem bytesB128 : bytesT BB.P 128 = 8 := rfl
@[simp] theorem bytes129 : bytesT Tryd.prog 129 = 8 := rfl
@[simp] theorem bytesB129 : bytesT BB.P 129 = 8 := rfl
@[simp] theorem bytes130 : bytesT Tryd.prog 130 = 8 := rfl
@[simp] theorem bytesB130 : bytesT BB.P 130 = 8 := rfl
@[simp] theorem bytes131 : bytesT Tryd.prog 131 = 256 := rfl
@[simp] theorem bytesB131 : bytesT BB.P 131 = 256 := rfl
@[simp] theorem bytes132 : bytesT Tryd.prog 132 = 256 := rfl
@[simp] theorem bytesB132 : bytesT BB.P 132 = 256 := rfl
@[simp] theorem bytes134 : bytesT Tryd.prog 134 = 8 := rfl
@[simp] theorem bytesB134 : bytesT BB.P 134 = 8 := rfl
@[simp] theorem bytes136 : bytesT Tryd.prog 136 = 8 := rfl
@[simp] theorem bytesB136 : bytesT BB.P 136 = 8 := rfl
@[simp] theorem bytes137 : bytesT Tryd.prog 137 = 8 := rfl
@[simp] theorem bytesB137 : bytesT BB.P 137 = 8 := rfl
@[simp] theorem bytes138 : bytesT Tryd.prog 138 = 4 := rfl
@[simp] theorem bytesB138 : bytesT BB.P 138 = 4 := rfl
@[simp] theorem bytes139 : bytesT Tryd.prog 139 = 24 := rfl
@[simp] theorem bytesB139 : bytesT BB.P 139 = 24 := rfl
@[simp] theorem bytes140 : bytesT Tryd.prog 140 = 16 := rfl
@[simp] theorem bytesB140 : bytesT BB.P 140 = 16 := rfl
@[simp] theorem bytes141 : bytesT Tryd.prog 141 = 16 := rfl
@[simp] theorem bytesB141 : bytesT BB.P 141 = 16 := rfl
@[simp] theorem bytes142 : bytesT Tryd.prog 142 = 8 := rfl
@[simp] theorem bytesB142 : bytesT BB.P 142 = 8 := rfl
@[simp] theorem bytes143 : bytesT Tryd.prog 143 = 8 := rfl
@[simp] theorem bytesB143 : bytesT BB.P 143 = 8 := rfl
@[simp] theorem bytes144 : bytesT Tryd.prog 144 = 8 := rfl
@[simp] theorem bytesB144 : bytesT BB.P 144 = 8 := rfl
@[simp] theorem bytes146 : bytesT Tryd.prog 146 = 8 := rfl
@[simp] theorem bytesB146 : bytesT BB.P 146 = 8 := rfl
@[simp] theorem bytes147 : bytesT Tryd.prog 147 = 40 := rfl
@[simp] theorem bytesB147 : bytesT BB.P 147 = 40 := rfl
@[simp] theorem bytes148 : bytesT Tryd.prog 148 = 40 := rfl
@[simp] theorem bytesB148 : bytesT BB.P 148 = 40 := rfl
@[simp] theorem bytes152 : bytesT Tryd.prog 152 = 1 := rfl
@[simp] theorem bytesB152 : bytesT BB.P 152 = 1 := rfl
@[simp] theorem bytes153 : bytesT Tryd.prog 153 = 1 := rfl
@[simp] theorem bytesB153 : bytesT BB.P 153 = 1 := rfl
@[simp] theorem bytes154 : bytesT Tryd.prog 154 = 8 := rfl
@[simp] theorem bytesB154 : bytesT BB.P 154 = 8 := rfl
@[simp] theorem bytes155 : bytesT Tryd.prog 155 = 4 := rfl
@[simp] theorem bytesB155 : bytesT BB.P 155 = 4 := rfl
@[simp] theorem bytes156 : bytesT Tryd.prog 156 = 4 := rfl
@[simp] theorem bytesB156 : bytesT BB.P 156 = 4 := rfl
@[simp] theorem bytes157 : bytesT Tryd.prog 157 = 48 := rfl
@[simp] theorem bytesB157 : bytesT BB.P 157 = 48 := rfl
@[simp] theorem bytes158 : bytesT Tryd.prog 158 = 48 := rfl
@[simp] theorem bytesB158 : bytesT BB.P 158 = 48 := rfl
theorem u8_bnd (x : UInt8) : 0 ≤ (x.toNat : Int) ∧ (x.toNat : Int) ≤ 255 := by have := x.toNat_lt; omega
end Go.Vc

namespace Go.Vc
open Go.Proofs
set_option linter.unusedVariables false
set_option linter.unusedSimpArgs false
theorem tup2 {r : Mem} {β : Bind} {a b : SV} {x y : Value} (h1 : Rel r β a x) (h2 : Rel r β b y) : Rel r β (.tup [a, b]) (.tuple #[x, y]) := by
  refine Rel.tup (cs := [x, y]) rfl fun i sv v q1 q2 => ?_
  match i, q1, q2 with
  | 0, q1, q2 => simp at q1 q2; subst q1; subst q2; exact h1
  | 1, q1, q2 => simp at q1 q2; subst q1; subst q2; exact h2
end Go.Vc

/-
  DERIVED: THE SHELF's CONTRACTS AT THIS DUMP, IN PLAIN WORDS (tools/lay-plain.mjs out of 'TrydShelf.lean', which tools/lay-shelf.mjs wrote): THE SAME DECLARATIONS UNDER THE SAME NAMES: 'import', 'namespace', 'open', 'def', 'theorem' AND NOTHING ELSE: no command of the shelf's: FOR A HAND-IN. Each laying: the table of numbers ('.._ren') and one theorem, a field a fact of the dump's own or the kernel's comparison; each contract: ONE APPLICATION.
-/
namespace Go.Proofs
open Go.Shelf
def Tryd.lays137_ren : Go.Shelf.Ren := ⟨fun | 137 => 55 | 217 => 98 | 266 => 126 | n => n, fun | 9 => 9 | 5 => 5 | 3 => 3 | n => n, fun | n => n⟩
theorem Tryd.lays137 : Go.Proofs.Lays.n137 Tryd.prog Tryd.lays137_ren := {
  mixed := by kernel_rfl
  f137 := Tryd.func55.trans (congrArg some (by kernel_rfl))
  f217 := Tryd.func98.trans (congrArg some (by kernel_rfl))
  f266 := Tryd.func126.trans (congrArg some (by kernel_rfl))
  t3 := Tryd.underlying3
  a3 := Tryd.isAgg3
  z3 := Tryd.sizeOf3
  v3 := Tryd.zeroValue3
  t5 := Tryd.underlying5
  a5 := Tryd.isAgg5
  z5 := Tryd.sizeOf5
  v5 := Tryd.zeroValue5
  t9 := Tryd.underlying9
  a9 := Tryd.isAgg9
  z9 := Tryd.sizeOf9
  v9 := Tryd.zeroValue9 }
open Go.RowKit in
/-- strings.IndexByte: "IndexByte returns the index of the first instance of c in s, or -1 if c is not present in s.": IT RETURNS 'Lib.indexByte s c'; the world is as it was. (LAID: no walk: one application.) -/
theorem Tryd.strings_IndexByte (s : ByteArray) (c : Int) (w : World) :
    Calls Tryd.prog 55 #[.string s, .int .u8 c] w fun e w' => e = .returned (.int .i64 (Lib.indexByte s.data.toList c.toNat.toUInt8)) ∧ w' = w := Any.strings_IndexByte Tryd.lays137 s c w
def Tryd.lays195_ren : Go.Shelf.Ren := ⟨fun | 195 => 73 | n => n, fun | 9 => 9 | 3 => 3 | 0 => 0 | 4 => 4 | n => n, fun | n => n⟩
theorem Tryd.lays195 : Go.Proofs.Lays.n195 Tryd.prog Tryd.lays195_ren := {
  mixed := by kernel_rfl
  f195 := Tryd.func73.trans (congrArg some (by kernel_rfl))
  t0 := Tryd.underlying0
  a0 := Tryd.isAgg0
  z0 := Tryd.sizeOf0
  v0 := Tryd.zeroValue0
  t3 := Tryd.underlying3
  a3 := Tryd.isAgg3
  z3 := Tryd.sizeOf3
  v3 := Tryd.zeroValue3
  t4 := Tryd.underlying4
  a4 := Tryd.isAgg4
  z4 := Tryd.sizeOf4
  v4 := Tryd.zeroValue4
  t9 := Tryd.underlying9
  a9 := Tryd.isAgg9
  z9 := Tryd.sizeOf9
  v9 := Tryd.zeroValue9 }
open Go.RowKit in
/-- unicode/utf8.RuneCountInString: "RuneCountInString is like RuneCount but its input is a string." ("RuneCount returns the number of runes in p. Erroneous and short encodings are treated as single runes of width 1 byte."): EVERY STRING, valid UTF-8 or not: 'Lib.runeCount s' (plain Lean over the model's own 'Utf8.decode'; 'Lib.runeCount_le': at most len(s); 'Lib.runeCount_ascii': on ASCII: len(s)). THE ONE CONDITION: len(s) below 2^63 - 1 (the counter does not wrap): the form's reach pays it. THE WORLD BEHIND THE CALL: ONE BLOCK MORE: the model's iterator over s, at its end: all else as it was. (LAID: no walk: one application.) -/
theorem Tryd.utf8_RuneCountInString (s : ByteArray) (w : World) (hs : s.size < 9223372036854775807) :
    Calls Tryd.prog 73 #[.string s] w fun e w' => e = .returned (.int .i64 (Lib.runeCount s)) ∧ ∃ pos, w' = w.iter s pos := Any.utf8_RuneCountInString Tryd.lays195 s w hs
def Tryd.laysM143_ren : Go.Shelf.Ren := ⟨fun | 143 => 113 | 219 => 125 | 217 => 98 | 225 => 141 | 224 => 142 | 267 => 143 | 266 => 126 | 314 => 147 | n => n, fun | 9 => 9 | 3 => 3 | 4 => 4 | 5 => 5 | 46 => 114 | 146 => 145 | 51 => 138 | n => n, fun | 1 => 2 | n => n⟩
theorem Tryd.laysM143 : Go.Proofs.LaysM.n143 Tryd.prog Tryd.laysM143_ren := {
  mixed := by kernel_rfl
  f143 := Tryd.func113.trans (congrArg some (by kernel_rfl))
  f217 := Tryd.func98.trans (congrArg some (by kernel_rfl))
  f219 := Tryd.func125.trans (congrArg some (by kernel_rfl))
  f224 := Tryd.func142.trans (congrArg some (by kernel_rfl))
  f225 := Tryd.func141.trans (congrArg some (by kernel_rfl))
  f266 := Tryd.func126.trans (congrArg some (by kernel_rfl))
  f267 := Tryd.func143.trans (congrArg some (by kernel_rfl))
  f314 := Tryd.func147.trans (congrArg some (by kernel_rfl))
  t3 := Tryd.underlying3
  a3 := Tryd.isAgg3
  z3 := Tryd.sizeOf3
  v3 := Tryd.zeroValue3
  t4 := Tryd.underlying4
  a4 := Tryd.isAgg4
  z4 := Tryd.sizeOf4
  v4 := Tryd.zeroValue4
  t5 := Tryd.underlying5
  a5 := Tryd.isAgg5
  z5 := Tryd.sizeOf5
  v5 := Tryd.zeroValue5
  t9 := Tryd.underlying9
  a9 := Tryd.isAgg9
  z9 := Tryd.sizeOf9
  v9 := Tryd.zeroValue9
  t46 := Tryd.underlying114
  a46 := Tryd.isAgg114
  z46 := Tryd.sizeOf114
  v46 := Tryd.zeroValue114
  t51 := Tryd.underlying138
  a51 := Tryd.isAgg138
  z51 := Tryd.sizeOf138
  v51 := Tryd.zeroValue138
  t146 := Tryd.underlying145
  a146 := Tryd.isAgg145
  z146 := Tryd.sizeOf145
  v146 := Tryd.zeroValue145
  g1 := by kernel_rfl
  i3 := by kernel_rfl
  i4 := by kernel_rfl
  i5 := by kernel_rfl
  i9 := by kernel_rfl
  i46 := by kernel_rfl
  i51 := by kernel_rfl
  i146 := by kernel_rfl
  m1 := by kernel_rfl
  s1_3 := fun w h => Go.Proofs.cell_of_shapedOpen_int (zero := #[.int .i64 0]) (t := 3) h (of_decide_eq_true (by kernel_rfl)) (by kernel_rfl) rfl (by kernel_rfl) (by kernel_rfl) Tryd.underlying3 }
def Tryd.lays153_ren : Go.Shelf.Ren := ⟨fun | 153 => 106 | 152 => 131 | 226 => 132 | 227 => 133 | 228 => 134 | 137 => 55 | 119 => 74 | 224 => 142 | 225 => 141 | 217 => 98 | 266 => 126 | n => n, fun | 9 => 9 | 3 => 3 | 4 => 4 | 5 => 5 | 21 => 21 | 117 => 133 | 116 => 132 | 0 => 0 | 46 => 114 | 124 => 143 | n => n, fun | n => n⟩
theorem Tryd.lays153 : Go.Proofs.Lays.n153 Tryd.prog Tryd.lays153_ren := {
  mixed := by kernel_rfl
  f119 := Tryd.func74.trans (congrArg some (by kernel_rfl))
  f137 := Tryd.func55.trans (congrArg some (by kernel_rfl))
  f152 := Tryd.func131.trans (congrArg some (by kernel_rfl))
  f153 := Tryd.func106.trans (congrArg some (by kernel_rfl))
  f217 := Tryd.func98.trans (congrArg some (by kernel_rfl))
  f224 := Tryd.func142.trans (congrArg some (by kernel_rfl))
  f225 := Tryd.func141.trans (congrArg some (by kernel_rfl))
  f226 := Tryd.func132.trans (congrArg some (by kernel_rfl))
  f227 := Tryd.func133.trans (congrArg some (by kernel_rfl))
  f228 := Tryd.func134.trans (congrArg some (by kernel_rfl))
  f266 := Tryd.func126.trans (congrArg some (by kernel_rfl))
  t0 := Tryd.underlying0
  a0 := Tryd.isAgg0
  z0 := Tryd.sizeOf0
  v0 := Tryd.zeroValue0
  t3 := Tryd.underlying3
  a3 := Tryd.isAgg3
  z3 := Tryd.sizeOf3
  v3 := Tryd.zeroValue3
  t4 := Tryd.underlying4
  a4 := Tryd.isAgg4
  z4 := Tryd.sizeOf4
  v4 := Tryd.zeroValue4
  t5 := Tryd.underlying5
  a5 := Tryd.isAgg5
  z5 := Tryd.sizeOf5
  v5 := Tryd.zeroValue5
  t9 := Tryd.underlying9
  a9 := Tryd.isAgg9
  z9 := Tryd.sizeOf9
  v9 := Tryd.zeroValue9
  t21 := Tryd.underlying21
  a21 := Tryd.isAgg21
  z21 := Tryd.sizeOf21
  v21 := Tryd.zeroValue21
  t46 := Tryd.underlying114
  a46 := Tryd.isAgg114
  z46 := Tryd.sizeOf114
  v46 := Tryd.zeroValue114
  t116 := Tryd.underlying132
  a116 := Tryd.isAgg132
  z116 := Tryd.sizeOf132
  t117 := Tryd.underlying133
  a117 := Tryd.isAgg133
  z117 := Tryd.sizeOf133
  v117 := Tryd.zeroValue133
  t124 := Tryd.underlying143
  a124 := Tryd.isAgg143
  z124 := Tryd.sizeOf143
  v124 := Tryd.zeroValue143 }
open Go.RowKit Go.Lib in
theorem Tryd.strings_IndexAny_long (hv116 : ∀ w, (zeroValue 132).run Tryd.prog w = .ok (.agg (Array.replicate 256 (.bool false))) w) (s chars : ByteArray) (w : World) (h2 : 2 ≤ chars.size) (h8 : 8 < s.size) (hs : s.size < 4294967281) (hcs : chars.size < 4294967281) (hascii : ∀ (j : Nat) b, chars.data.toList[j]? = some b → b.toNat < 128) :
    Calls Tryd.prog 106 #[.string s, .string chars] w fun e w' => e = .returned (.int .i64 (Lib.indexAny s.data.toList chars.data.toList)) ∧ w' = ((w.alloc (.cells (Lib.setCells chars.data.toList) 132)).alloc (.cells (Lib.setCells chars.data.toList) 132)) := Any.strings_IndexAny_long Tryd.lays153 hv116 (by kernel_rfl) s chars w h2 h8 hs hcs hascii
def Tryd.lays260_ren : Go.Shelf.Ren := ⟨fun | 260 => 114 | n => n, fun | 9 => 9 | 21 => 21 | 3 => 3 | 4 => 4 | 5 => 5 | 119 => 110 | 0 => 0 | 46 => 114 | 139 => 113 | 138 => 112 | n => n, fun | 3 => 0 | 4 => 1 | n => n⟩
theorem Tryd.lays260 : Go.Proofs.Lays.n260 Tryd.prog Tryd.lays260_ren := {
  mixed := by kernel_rfl
  f260 := Tryd.func114.trans (congrArg some (by kernel_rfl))
  t0 := Tryd.underlying0
  a0 := Tryd.isAgg0
  z0 := Tryd.sizeOf0
  v0 := Tryd.zeroValue0
  t3 := Tryd.underlying3
  a3 := Tryd.isAgg3
  z3 := Tryd.sizeOf3
  v3 := Tryd.zeroValue3
  t4 := Tryd.underlying4
  a4 := Tryd.isAgg4
  z4 := Tryd.sizeOf4
  v4 := Tryd.zeroValue4
  t5 := Tryd.underlying5
  a5 := Tryd.isAgg5
  z5 := Tryd.sizeOf5
  v5 := Tryd.zeroValue5
  t9 := Tryd.underlying9
  a9 := Tryd.isAgg9
  z9 := Tryd.sizeOf9
  v9 := Tryd.zeroValue9
  t21 := Tryd.underlying21
  a21 := Tryd.isAgg21
  z21 := Tryd.sizeOf21
  v21 := Tryd.zeroValue21
  t46 := Tryd.underlying114
  a46 := Tryd.isAgg114
  z46 := Tryd.sizeOf114
  v46 := Tryd.zeroValue114
  t119 := Tryd.underlying110
  a119 := Tryd.isAgg110
  z119 := Tryd.sizeOf110
  t138 := Tryd.underlying112
  a138 := Tryd.isAgg112
  z138 := Tryd.sizeOf112
  v138 := Tryd.zeroValue112
  t139 := Tryd.underlying113
  a139 := Tryd.isAgg113
  z139 := Tryd.sizeOf113
  v139 := Tryd.zeroValue113
  g3 := by kernel_rfl
  g4 := by kernel_rfl }
end Go.Proofs

/-
  DERIVED: THE SHELF's CONTRACTS AT THIS DUMP, IN PLAIN WORDS (tools/lay-plain.mjs out of 'TryhShelf.lean', which tools/lay-shelf.mjs wrote): THE SAME DECLARATIONS UNDER THE SAME NAMES: 'import', 'namespace', 'open', 'def', 'theorem' AND NOTHING ELSE: no command of the shelf's: FOR A HAND-IN. Each laying: the table of numbers ('.._ren') and one theorem, a field a fact of the dump's own or the kernel's comparison; each contract: ONE APPLICATION.
-/
namespace Go.Proofs
open Go.Shelf
def Tryd.laysS32_ren : Go.Shelf.Ren := ⟨fun | 32 => 64 | 49 => 102 | n => n, fun | 30 => 32 | 21 => 21 | 3 => 3 | 0 => 0 | 5 => 5 | 4 => 4 | 33 => 77 | 66 => 110 | 25 => 114 | 69 => 113 | 68 => 112 | n => n, fun | 2 => 0 | 3 => 1 | n => n⟩
theorem Tryd.laysS32 : Go.Proofs.Lays7.n32 Tryd.prog Tryd.laysS32_ren := {
  mixed := by kernel_rfl
  f32 := Tryd.func64.trans (congrArg some (by kernel_rfl))
  f49 := Tryd.func102.trans (congrArg some (by kernel_rfl))
  t0 := Tryd.underlying0
  a0 := Tryd.isAgg0
  z0 := Tryd.sizeOf0
  v0 := Tryd.zeroValue0
  i0 := by kernel_rfl
  t3 := Tryd.underlying3
  a3 := Tryd.isAgg3
  z3 := Tryd.sizeOf3
  v3 := Tryd.zeroValue3
  i3 := by kernel_rfl
  t4 := Tryd.underlying4
  a4 := Tryd.isAgg4
  z4 := Tryd.sizeOf4
  v4 := Tryd.zeroValue4
  i4 := by kernel_rfl
  t5 := Tryd.underlying5
  a5 := Tryd.isAgg5
  z5 := Tryd.sizeOf5
  v5 := Tryd.zeroValue5
  i5 := by kernel_rfl
  t21 := Tryd.underlying21
  a21 := Tryd.isAgg21
  z21 := Tryd.sizeOf21
  v21 := Tryd.zeroValue21
  i21 := by kernel_rfl
  t25 := Tryd.underlying114
  a25 := Tryd.isAgg114
  z25 := Tryd.sizeOf114
  v25 := Tryd.zeroValue114
  i25 := by kernel_rfl
  t30 := Tryd.underlying32
  a30 := Tryd.isAgg32
  z30 := Tryd.sizeOf32
  v30 := Tryd.zeroValue32
  i30 := by kernel_rfl
  t33 := Tryd.underlying77
  a33 := Tryd.isAgg77
  z33 := Tryd.sizeOf77
  v33 := Tryd.zeroValue77
  i33 := by kernel_rfl
  t66 := Tryd.underlying110
  a66 := Tryd.isAgg110
  z66 := Tryd.sizeOf110
  t68 := Tryd.underlying112
  a68 := Tryd.isAgg112
  z68 := Tryd.sizeOf112
  v68 := Tryd.zeroValue112
  i68 := by kernel_rfl
  t69 := Tryd.underlying113
  a69 := Tryd.isAgg113
  z69 := Tryd.sizeOf113
  v69 := Tryd.zeroValue113
  i69 := by kernel_rfl
  g2 := by kernel_rfl
  g3 := by kernel_rfl }
end Go.Proofs

namespace Go.Vc
open Go.Proofs
set_option linter.unusedVariables false
set_option maxRecDepth 10000
set_option linter.unusedSimpArgs false
set_option maxHeartbeats 4000000
theorem rel_bytes {r : Mem} {β : Bind} {l : List UInt8} {v : Value} {w : World} (hv : ∀ b o, r b = some o → w.heap[b]? = some o) (h : Rel r β (.rd .byte l) v) :
    (l = [] ∧ ∃ a c, v = .slice a 0 c) ∨ ∃ b off cap, v = .slice (some ⟨b, off, none⟩) l.length cap ∧ l.length ≤ cap ∧ l.length ≤ 9223372036854775807 ∧ b < w.heap.size ∧
      ∀ (j : Nat) (x : UInt8), l[j]? = some x → w.cell? ⟨b, off + j, none⟩ = some (.int .u8 x.toNat) := by
  cases h with
  | rd h =>
    generalize hm : l.map (Ty.enc .byte) = rows at h
    cases h with
    | litsE => left; exact ⟨by simpa using hm, _, _, rfl⟩
    | @lits _ _ _ b off cap c T fr hb hn hcap hrow ho hc hr =>
      right
      have hlen : rows.length = l.length := by rw [← hm]; simp
      refine ⟨b, off, cap, by rw [hlen], by omega, by omega, lt_of_heap (hv b _ hb), fun j x hj => ?_⟩
      have hj' : rows[j]? = some [SV.int .u8 x.toNat] := by rw [← hm]; simp [hj, Ty.enc]
      have hlt : j < rows.length := by
        rcases Nat.lt_or_ge j rows.length with h | h
        · exact h
        · rw [List.getElem?_eq_none h] at hj'; cases hj'
      have hz : Ty.byte.size = 1 := rfl
      rw [hz] at hc hr
      have hin : off + j < c.size := by omega
      have hcell : c[off + j * 1 + 0]? = some c[off + j] := by simp [hin]
      have := hr j _ 0 _ _ hj' rfl hcell
      generalize hcv : c[off + j] = cv at this hcell
      cases this
      simp only [World.cell?, hv b _ hb]
      simpa using hcell
instance fDR (l : List UInt8) : Fn BB 64 [.rd .byte l] (l ≠ []) (.tup [.int .i32 (Lib.decodeL l).1, .int .i64 (Lib.decodeL l).2]) := by
  refine Fn.liftB Tryd.call64 fun hp r β w vs hG m hl => ?_
  obtain ⟨v1, vs1, rfl, h1, hl⟩ := hl.uncons
  obtain rfl := hl.nil_inv
  rcases rel_bytes m.vis h1 with ⟨h0, _⟩ | ⟨b, off, cap, rfl, hcap, hmax, hb, hc⟩
  · exact absurd h0 hp
  have hs : (⟨l.toArray⟩ : ByteArray).size = l.length := by show l.toArray.size = _; simp
  have h0 : (⟨l.toArray⟩ : ByteArray).size ≠ 0 := by rw [hs]; intro h; exact hp (List.length_eq_zero_iff.1 h)
  have hd : Lib.decodeGo ⟨l.toArray⟩ = Lib.decodeL l := by unfold Lib.decodeGo Lib.decodeL; rw [if_neg h0]
  have := Any7.utf8_DecodeRune Tryd.laysS32 ⟨l.toArray⟩ b off cap w (hG.tabs m.vis) (fun j hj => by
    rw [hs] at hj
    refine hc j _ ?_
    rw [List.getElem?_eq_getElem hj]
    congr 1
    show l[j] = l.toArray[j]!
    simp [hj])
  rw [hd, hs] at this
  exact ⟨_, this, tup2 .int .int⟩
theorem decL_U (l : List UInt8) : Lib.decodeL l = Lib.decodeN l.length (l.getD 0 0).toNat (l.getD 1 0).toNat (l.getD 2 0).toNat (l.getD 3 0).toNat := by
  unfold Lib.decodeL
  rw [Lib.decode_at]
  have hs : (⟨l.toArray⟩ : ByteArray).size = l.length := by show l.toArray.size = _; simp
  have hg : ∀ k, (⟨l.toArray⟩ : ByteArray).get! k = l.getD k 0 := fun k => by
    show l.toArray[k]! = _
    simp [List.getD]; rfl
  rw [hs, hg, hg, hg, hg]; rfl
theorem decL_bad {l : List UInt8} (h : okU l = false) : Lib.decodeL l = (65533, 1) := by
  rw [decL_U]
  exact dec_bad _ _ _ _ _ (of_decide_eq_false h) (UInt8.toNat_lt _) (UInt8.toNat_lt _) (UInt8.toNat_lt _) (UInt8.toNat_lt _)
theorem decL_ok {l : List UInt8} (h : okU l = true) : (Lib.decodeL l).2 = cutU l ∧ ((l.getD 0 0).toNat < 128 → (Lib.decodeL l).1 = (l.getD 0 0).toNat ∧ cutU l = 1) ∧ (128 ≤ (l.getD 0 0).toNat → 2 ≤ cutU l ∧ 128 ≤ (Lib.decodeL l).1) := by
  rw [decL_U]
  have := dec_ok _ _ _ _ _ (of_decide_eq_true h) (UInt8.toNat_lt _) (UInt8.toNat_lt _) (UInt8.toNat_lt _) (UInt8.toNat_lt _)
  exact ⟨this.1, fun hh => ⟨this.2.1 hh, cutN_small _ _ _ _ _ hh⟩, this.2.2⟩
instance fBounds (c : Int) : Fn BB 103 [.int .u8 c] (0 ≤ c ∧ c ≤ 255) (.tup [.int .i64 (mU c.toNat), .int .u8 (loU c.toNat), .int .u8 (hiU c.toNat)]) := by
  refine Fn.intro (N := 30) [0, 2, 3, 4, 5, 12, 15, 18, 19, 21, 23, 25] [] Tryd.call103 Tryd.func103 rfl rfl (by kernel_rfl) (fun hpre => ?_)
  obtain ⟨k, rfl⟩ := Int.eq_ofNat_of_zero_le hpre.1
  rw [Int.toNat_natCast]
  repeat' ((conv => whnf); first | (with_reducible rfl) | exact True.intro | (with_reducible exact absTF) | (with_reducible exact absFT) | intro _ | refine And.intro ?_ ?_ | refine Fin.mk ?_ | refine CallG.plain rfl ?_ ?_ | refine CallG.mk rfl ?_ ?_ | refine CallG.nwl rfl ?_ ?_ | refine CallG.nw ?_ ?_ | refine CallF.nwl rfl ?_ ?_ | refine CallF.nw ?_ ?_ | refine AppN.mk ?_ | (refine CallS.q ?_; (conv => whnf); first | refine CallG.plain rfl ?_ ?_ | refine CallG.mk rfl ?_ ?_) | (refine CallS.m ?_; (conv => whnf); refine CallM.mk rfl ?_ ?_) | (refine CallS.h ?_; (conv => whnf); refine CallM.mk rfl ?_ ?_) | (refine CallS.b ?_; (conv => whnf); refine CallM.mk rfl ?_ ?_) | (refine CallS.z ?_; (conv => whnf); refine CallM.mk rfl ?_ ?_))
  all_goals (try (conv => whnf))
  all_goals (try (exact Ob.mk (u8_bnd _)))
  all_goals (try (refine Ob.mk ?_; first | exact True.intro | assumption | omega | (try simp only [decide_eq_true_eq, decide_eq_false_iff_not, beq_iff_eq, beq_eq_false_iff_ne, bne_iff_ne, bne_eq_false_iff_eq, ne_eq, Bool.and_eq_true, Bool.or_eq_true, Bool.not_eq_true, Bool.not_eq_false, Bool.not_eq_true', Bool.not_eq_false', Int.toNat_natCast, Int.not_lt, Int.not_le, UInt8.ofNat_toNat, cast_eq] at *; omega)))
  all_goals (try ((show (_:Int) = _); omega))
  all_goals (try (show tupSV _ = _; with_unfolding_all rfl))
  all_goals (try ((show (_ : Nat) ≤ _); (simp <;> omega)))
  all_goals (try ((show (_ : Nat) ≤ _ ∧ (_ : Nat) ≤ _); (simp <;> omega)))
  all_goals (try ((show (_ : Int) ≤ _ ∧ (_ : Int) ≤ _ ∧ (_ : Int) ≤ _ ∧ (_ : Int) ≤ _); (simp <;> omega)))
  all_goals (try simp only [decide_eq_true_eq, decide_eq_false_iff_not, beq_iff_eq, beq_eq_false_iff_ne, bne_iff_ne, bne_eq_false_iff_eq, ne_eq, Bool.and_eq_true, Bool.or_eq_true, Bool.and_eq_false_iff, Bool.or_eq_false_iff, Bool.not_eq_true, Bool.not_eq_false, Bool.not_eq_true', Bool.not_eq_false', Int.toNat_natCast, Int.not_lt, Int.not_le, ge_iff_le, gt_iff_lt, UInt8.ofNat_toNat, cast_eq] at *)
  all_goals (try (simp only [mU, loU, hiU]))
  all_goals ((repeat' split) <;> omega)
theorem cutN_of (N b0 b1 b2 b3 k : Nat) (h1 : 1 ≤ k) (h2 : k ≤ mU b0 + 1) (h3 : k ≤ N)
    (ha : 2 ≤ k → loU b0 ≤ b1 ∧ b1 ≤ hiU b0) (hb : 3 ≤ k → 128 ≤ b2 ∧ b2 ≤ 191) (hc : 4 ≤ k → 128 ≤ b3 ∧ b3 ≤ 191)
    (he : k = mU b0 + 1 ∨ k = N ∨ (k = 1 ∧ ¬ (loU b0 ≤ b1 ∧ b1 ≤ hiU b0)) ∨ (k = 2 ∧ ¬ (128 ≤ b2 ∧ b2 ≤ 191)) ∨ (k = 3 ∧ ¬ (128 ≤ b3 ∧ b3 ≤ 191))) : cutN N b0 b1 b2 b3 = k := by
  have hm : mU b0 ≤ 3 := by unfold mU; (repeat' split) <;> omega
  unfold cutN
  repeat' split
  all_goals omega
def loW (l : List UInt8) (k : Nat) : Nat := if k = 1 then loU (l.getD 0 0).toNat else 128
def hiW (l : List UInt8) (k : Nat) : Nat := if k = 1 then hiU (l.getD 0 0).toNat else 191
def okW (l : List UInt8) (k : Nat) : Prop := loW l k ≤ (l.getD k 0).toNat ∧ (l.getD k 0).toNat ≤ hiW l k
theorem cutU_of {l : List UInt8} {k : Nat} (h1 : 1 ≤ k) (h2 : k ≤ mU (l.getD 0 0).toNat + 1) (h3 : k ≤ l.length) (h : ∀ j, 1 ≤ j → j < k → okW l j)
    (he : k = mU (l.getD 0 0).toNat + 1 ∨ k = l.length ∨ ¬ okW l k) : cutU l = k := by
  have hm : mU (l.getD 0 0).toNat ≤ 3 := by unfold mU; (repeat' split) <;> omega
  refine cutN_of _ _ _ _ _ k h1 h2 h3 (fun q => by simpa [okW, loW, hiW] using h 1 (by omega) (by omega)) (fun q => by simpa [okW, loW, hiW] using h 2 (by omega) (by omega)) (fun q => by simpa [okW, loW, hiW] using h 3 (by omega) (by omega)) ?_
  rcases he with he | he | he
  · exact .inl he
  · exact .inr (.inl he)
  · have hk : k = 1 ∨ k = 2 ∨ k = 3 ∨ k = 4 := by omega
    rcases hk with rfl | rfl | rfl | rfl
    · right; right; left; exact ⟨rfl, by simpa [okW, loW, hiW] using he⟩
    · right; right; right; left; exact ⟨rfl, by simpa [okW, loW, hiW] using he⟩
    · right; right; right; right; exact ⟨rfl, by simpa [okW, loW, hiW] using he⟩
    · left; omega
instance fCut (l : List UInt8) : Fn BB 65 [.rd .byte l] (l ≠ [] ∧ l.length ≤ 1000000) (.int .i64 (cutU l)) := by
  refine Fn.intro (N := 43) [0, 2, 3, 4, 5, 6, 39] [] Tryd.call65 Tryd.func65 rfl rfl (by kernel_rfl) (fun hpre => ?_)
  obtain ⟨hp1, hp2⟩ := hpre
  have hlen : 1 ≤ l.length := List.length_pos_iff.mpr hp1
  repeat' ((conv => whnf); first | (with_reducible rfl) | exact True.intro | (with_reducible exact absTF) | (with_reducible exact absFT) | intro _ | refine And.intro ?_ ?_ | refine Fin.mk ?_ | refine CallG.plain rfl ?_ ?_ | refine CallG.mk rfl ?_ ?_ | refine CallG.nwl rfl ?_ ?_ | refine CallG.nw ?_ ?_ | refine CallF.nwl rfl ?_ ?_ | refine CallF.nw ?_ ?_ | refine AppN.mk ?_ | (refine CallS.q ?_; (conv => whnf); first | refine CallG.plain rfl ?_ ?_ | refine CallG.mk rfl ?_ ?_) | (refine CallS.m ?_; (conv => whnf); refine CallM.mk rfl ?_ ?_) | (refine CallS.h ?_; (conv => whnf); refine CallM.mk rfl ?_ ?_) | (refine CallS.b ?_; (conv => whnf); refine CallM.mk rfl ?_ ?_) | (refine CallS.z ?_; (conv => whnf); refine CallM.mk rfl ?_ ?_))
  all_goals (try (conv => whnf))
  all_goals (try (exact Ob.mk (u8_bnd _)))
  all_goals (try (refine Ob.mk ?_; first | exact True.intro | assumption | omega | (try simp only [decide_eq_true_eq, decide_eq_false_iff_not, beq_iff_eq, beq_eq_false_iff_ne, bne_iff_ne, bne_eq_false_iff_eq, ne_eq, Bool.and_eq_true, Bool.or_eq_true, Bool.not_eq_true, Bool.not_eq_false, Bool.not_eq_true', Bool.not_eq_false', Int.toNat_natCast, Int.not_lt, Int.not_le, UInt8.ofNat_toNat, cast_eq] at *; omega)))
  all_goals (try ((show (_:Int) = _); omega))
  all_goals (try (show tupSV _ = _; with_unfolding_all rfl))
  all_goals (try ((show (_ : Nat) ≤ _); (simp <;> omega)))
  all_goals (try ((show (_ : Nat) ≤ _ ∧ (_ : Nat) ≤ _); (simp <;> omega)))
  all_goals (try ((show (_ : Int) ≤ _ ∧ (_ : Int) ≤ _ ∧ (_ : Int) ≤ _ ∧ (_ : Int) ≤ _); (simp <;> omega)))
  refine LoopStop.mk (α := Nat) (fun k => [(6, .int .i64 k), (4, .int .u8 (loW l k)), (5, .int .u8 (hiW l k))]) (fun i => []) 40 (fun k => 1 ≤ k ∧ k ≤ l.length ∧ k ≤ mU (l.getD 0 0).toNat + 1 ∧ ∀ j, 1 ≤ j → j < k → okW l j) (fun k => l.length - k) 1 ⟨by omega, by omega, by omega, fun j _ _ => by omega⟩ ?_ (fun k hk => ?_)
  · repeat' ((conv => whnf); first | (with_reducible rfl) | exact True.intro | (with_reducible exact absTF) | (with_reducible exact absFT) | intro _ | refine And.intro ?_ ?_ | refine Fin.mk ?_ | refine CallG.plain rfl ?_ ?_ | refine CallG.mk rfl ?_ ?_ | refine CallG.nwl rfl ?_ ?_ | refine CallG.nw ?_ ?_ | refine CallF.nwl rfl ?_ ?_ | refine CallF.nw ?_ ?_ | refine AppN.mk ?_ | (refine CallS.q ?_; (conv => whnf); first | refine CallG.plain rfl ?_ ?_ | refine CallG.mk rfl ?_ ?_) | (refine CallS.m ?_; (conv => whnf); refine CallM.mk rfl ?_ ?_) | (refine CallS.h ?_; (conv => whnf); refine CallM.mk rfl ?_ ?_) | (refine CallS.b ?_; (conv => whnf); refine CallM.mk rfl ?_ ?_) | (refine CallS.z ?_; (conv => whnf); refine CallM.mk rfl ?_ ?_))
    all_goals (try (conv => whnf))
    all_goals (try (exact Ob.mk (u8_bnd _)))
    all_goals (try (refine Ob.mk ?_; first | exact True.intro | assumption | omega | (try simp only [decide_eq_true_eq, decide_eq_false_iff_not, beq_iff_eq, beq_eq_false_iff_ne, bne_iff_ne, bne_eq_false_iff_eq, ne_eq, Bool.and_eq_true, Bool.or_eq_true, Bool.not_eq_true, Bool.not_eq_false, Bool.not_eq_true', Bool.not_eq_false', Int.toNat_natCast, Int.not_lt, Int.not_le, UInt8.ofNat_toNat, cast_eq] at *; omega)))
    all_goals (try ((show (_:Int) = _); omega))
    all_goals (try (show tupSV _ = _; with_unfolding_all rfl))
    all_goals (try ((show (_ : Nat) ≤ _); (simp <;> omega)))
    all_goals (try ((show (_ : Nat) ≤ _ ∧ (_ : Nat) ≤ _); (simp <;> omega)))
    all_goals (try ((show (_ : Int) ≤ _ ∧ (_ : Int) ≤ _ ∧ (_ : Int) ≤ _ ∧ (_ : Int) ≤ _); (simp <;> omega)))
    all_goals rfl
  · obtain ⟨h1, h2, h3, h4⟩ := hk
    repeat' ((conv => whnf); first | (with_reducible rfl) | exact True.intro | (with_reducible exact absTF) | (with_reducible exact absFT) | intro _ | refine And.intro ?_ ?_ | refine Fin.mk ?_ | refine CallG.plain rfl ?_ ?_ | refine CallG.mk rfl ?_ ?_ | refine CallG.nwl rfl ?_ ?_ | refine CallG.nw ?_ ?_ | refine CallF.nwl rfl ?_ ?_ | refine CallF.nw ?_ ?_ | refine AppN.mk ?_ | (refine CallS.q ?_; (conv => whnf); first | refine CallG.plain rfl ?_ ?_ | refine CallG.mk rfl ?_ ?_) | (refine CallS.m ?_; (conv => whnf); refine CallM.mk rfl ?_ ?_) | (refine CallS.h ?_; (conv => whnf); refine CallM.mk rfl ?_ ?_) | (refine CallS.b ?_; (conv => whnf); refine CallM.mk rfl ?_ ?_) | (refine CallS.z ?_; (conv => whnf); refine CallM.mk rfl ?_ ?_))
    all_goals (try (conv => whnf))
    all_goals (try (exact Ob.mk (u8_bnd _)))
    all_goals (try (refine Ob.mk ?_; first | exact True.intro | assumption | omega | (try simp only [decide_eq_true_eq, decide_eq_false_iff_not, beq_iff_eq, beq_eq_false_iff_ne, bne_iff_ne, bne_eq_false_iff_eq, ne_eq, Bool.and_eq_true, Bool.or_eq_true, Bool.not_eq_true, Bool.not_eq_false, Bool.not_eq_true', Bool.not_eq_false', Int.toNat_natCast, Int.not_lt, Int.not_le, UInt8.ofNat_toNat, cast_eq] at *; omega)))
    all_goals (try ((show (_:Int) = _); omega))
    all_goals (try (show tupSV _ = _; with_unfolding_all rfl))
    all_goals (try ((show (_ : Nat) ≤ _); (simp <;> omega)))
    all_goals (try ((show (_ : Nat) ≤ _ ∧ (_ : Nat) ≤ _); (simp <;> omega)))
    all_goals (try ((show (_ : Int) ≤ _ ∧ (_ : Int) ≤ _ ∧ (_ : Int) ≤ _ ∧ (_ : Int) ≤ _); (simp <;> omega)))
    all_goals (try (simp only [Int.toNat_natCast, Int.reduceToNat, Ty.dflt, cast_eq] at *))
    all_goals (try simp only [decide_eq_true_eq, decide_eq_false_iff_not, beq_iff_eq, beq_eq_false_iff_ne, bne_iff_ne, bne_eq_false_iff_eq, ne_eq, Bool.and_eq_true, Bool.or_eq_true, Bool.and_eq_false_iff, Bool.or_eq_false_iff, Bool.not_eq_true, Bool.not_eq_false, Bool.not_eq_true', Bool.not_eq_false', Int.toNat_natCast, Int.not_lt, Int.not_le, ge_iff_le, gt_iff_lt, UInt8.ofNat_toNat, cast_eq] at *)
    all_goals (try simp only [decide_eq_true_eq, decide_eq_false_iff_not] at *)
    · rename_i q
      obtain ⟨⟨⟨q1, q2⟩, q3⟩, q4⟩ := q
      replace q1 := of_decide_eq_true q1
      replace q3 := of_decide_eq_true q3
      replace q4 := of_decide_eq_true q4
      refine Rnd.mk ⟨k + 1, ⟨by omega, by omega, by omega, fun j hj1 hj2 => ?_⟩, by omega, ?_⟩
      · rcases Nat.lt_or_ge j k with hh | hh
        · exact h4 j hj1 hh
        · obtain rfl : j = k := by omega
          exact ⟨by omega, by omega⟩
      · repeat' ((conv => whnf); first | (with_reducible rfl) | exact True.intro | (with_reducible exact absTF) | (with_reducible exact absFT) | intro _ | refine And.intro ?_ ?_ | refine Fin.mk ?_ | refine CallG.plain rfl ?_ ?_ | refine CallG.mk rfl ?_ ?_ | refine CallG.nwl rfl ?_ ?_ | refine CallG.nw ?_ ?_ | refine CallF.nwl rfl ?_ ?_ | refine CallF.nw ?_ ?_ | refine AppN.mk ?_ | (refine CallS.q ?_; (conv => whnf); first | refine CallG.plain rfl ?_ ?_ | refine CallG.mk rfl ?_ ?_) | (refine CallS.m ?_; (conv => whnf); refine CallM.mk rfl ?_ ?_) | (refine CallS.h ?_; (conv => whnf); refine CallM.mk rfl ?_ ?_) | (refine CallS.b ?_; (conv => whnf); refine CallM.mk rfl ?_ ?_) | (refine CallS.z ?_; (conv => whnf); refine CallM.mk rfl ?_ ?_))
        all_goals (try (conv => whnf))
        all_goals (try (exact Ob.mk (u8_bnd _)))
        all_goals (try (refine Ob.mk ?_; first | exact True.intro | assumption | omega | (try simp only [decide_eq_true_eq, decide_eq_false_iff_not, beq_iff_eq, beq_eq_false_iff_ne, bne_iff_ne, bne_eq_false_iff_eq, ne_eq, Bool.and_eq_true, Bool.or_eq_true, Bool.not_eq_true, Bool.not_eq_false, Bool.not_eq_true', Bool.not_eq_false', Int.toNat_natCast, Int.not_lt, Int.not_le, UInt8.ofNat_toNat, cast_eq] at *; omega)))
        all_goals (try ((show (_:Int) = _); omega))
        all_goals (try (show tupSV _ = _; with_unfolding_all rfl))
        all_goals (try ((show (_ : Nat) ≤ _); (simp <;> omega)))
        all_goals (try ((show (_ : Nat) ≤ _ ∧ (_ : Nat) ≤ _); (simp <;> omega)))
        all_goals (try ((show (_ : Int) ≤ _ ∧ (_ : Int) ≤ _ ∧ (_ : Int) ≤ _ ∧ (_ : Int) ≤ _); (simp <;> omega)))
        all_goals (try (have e1 : loW l (k + 1) = 128 := by unfold loW; rw [if_neg (by omega)]))
        all_goals (try (have e2 : hiW l (k + 1) = 191 := by unfold hiW; rw [if_neg (by omega)]))
        all_goals (try rw [e1])
        all_goals (try rw [e2])
        all_goals (try rfl)
        all_goals (try (congr 1; omega))
    · rename_i q
      congr 1
      symm
      refine cutU_of h1 h3 h2 h4 ?_
      unfold okW
      rcases q with ((q | q) | q) | q
      · have := of_decide_eq_false q; omega
      · omega
      · have := of_decide_eq_false q; omega
      · have := of_decide_eq_false q; omega
end Go.Vc

namespace Go.Vc
open Go.Proofs
set_option linter.unusedVariables false
set_option maxRecDepth 10000
set_option linter.unusedSimpArgs false
set_option maxHeartbeats 4000000
/-- a writer: its own address, its bytes -/
abbrev wrU (a b : SV) : Chunk := .bx (some 76) [a, b]
abbrev nilU : SV := .v (.pointer none)
instance uCCa : FnM BB 104 [.loc 0 0] [(0, wrU nilU .nils)] True (.tup []) [(0, wrU (.loc 0 0) .nils)] := by
  refine FnM.intro (N := 20) [0, 6, 19] [] 1 Tryd.call104 Tryd.func104 rfl rfl (by kernel_rfl) (fun hpre => ?_)
  repeat' ((conv => whnf); first | (with_reducible rfl) | exact True.intro | (with_reducible exact absTF) | (with_reducible exact absFT) | intro _ | refine And.intro ?_ ?_ | refine Fin.mk ?_ | refine CallG.plain rfl ?_ ?_ | refine CallG.mk rfl ?_ ?_ | refine CallG.nwl rfl ?_ ?_ | refine CallG.nw ?_ ?_ | refine CallF.nwl rfl ?_ ?_ | refine CallF.nw ?_ ?_ | refine AppN.mk ?_ | (refine CallS.q ?_; (conv => whnf); first | refine CallG.plain rfl ?_ ?_ | refine CallG.mk rfl ?_ ?_) | (refine CallS.m ?_; (conv => whnf); refine CallM.mk rfl ?_ ?_) | (refine CallS.h ?_; (conv => whnf); refine CallM.mk rfl ?_ ?_) | (refine CallS.b ?_; (conv => whnf); refine CallM.mk rfl ?_ ?_) | (refine CallS.z ?_; (conv => whnf); refine CallM.mk rfl ?_ ?_))
  all_goals (try (conv => whnf))
  all_goals (try (exact Ob.mk (by kernel_rfl)))
  all_goals (try (exact Ob.mk (u8_bnd _)))
  all_goals (try (refine Ob.mk ?_; first | exact True.intro | assumption | omega | (try simp only [decide_eq_true_eq, decide_eq_false_iff_not, beq_iff_eq, beq_eq_false_iff_ne, bne_iff_ne, bne_eq_false_iff_eq, ne_eq, Bool.and_eq_true, Bool.or_eq_true, Bool.not_eq_true, Bool.not_eq_false, Bool.not_eq_true', Bool.not_eq_false', Int.toNat_natCast, Int.not_lt, Int.not_le, UInt8.ofNat_toNat, cast_eq] at *; omega)))
  all_goals (try ((show (_:Int) = _); omega))
  all_goals (try (show tupSV _ = _; with_unfolding_all rfl))
  all_goals (try ((show (_ : Nat) ≤ _); (simp <;> omega)))
  all_goals (try ((show (_ : Nat) ≤ _ ∧ (_ : Nat) ≤ _); (simp <;> omega)))
  all_goals (try ((show (_ : Int) ≤ _ ∧ (_ : Int) ≤ _ ∧ (_ : Int) ≤ _ ∧ (_ : Int) ≤ _); (simp <;> omega)))
instance uCCb : FnM BB 104 [.loc 0 0] [(0, wrU (.loc 0 0) .nils)] True (.tup []) [(0, wrU (.loc 0 0) .nils)] := by
  refine FnM.intro (N := 20) [0, 6, 19] [] 1 Tryd.call104 Tryd.func104 rfl rfl (by kernel_rfl) (fun hpre => ?_)
  repeat' ((conv => whnf); first | (with_reducible rfl) | exact True.intro | (with_reducible exact absTF) | (with_reducible exact absFT) | intro _ | refine And.intro ?_ ?_ | refine Fin.mk ?_ | refine CallG.plain rfl ?_ ?_ | refine CallG.mk rfl ?_ ?_ | refine CallG.nwl rfl ?_ ?_ | refine CallG.nw ?_ ?_ | refine CallF.nwl rfl ?_ ?_ | refine CallF.nw ?_ ?_ | refine AppN.mk ?_ | (refine CallS.q ?_; (conv => whnf); first | refine CallG.plain rfl ?_ ?_ | refine CallG.mk rfl ?_ ?_) | (refine CallS.m ?_; (conv => whnf); refine CallM.mk rfl ?_ ?_) | (refine CallS.h ?_; (conv => whnf); refine CallM.mk rfl ?_ ?_) | (refine CallS.b ?_; (conv => whnf); refine CallM.mk rfl ?_ ?_) | (refine CallS.z ?_; (conv => whnf); refine CallM.mk rfl ?_ ?_))
  all_goals (try (conv => whnf))
  all_goals (try (exact Ob.mk (u8_bnd _)))
  all_goals (try (refine Ob.mk ?_; first | exact True.intro | assumption | omega | (try simp only [decide_eq_true_eq, decide_eq_false_iff_not, beq_iff_eq, beq_eq_false_iff_ne, bne_iff_ne, bne_eq_false_iff_eq, ne_eq, Bool.and_eq_true, Bool.or_eq_true, Bool.not_eq_true, Bool.not_eq_false, Bool.not_eq_true', Bool.not_eq_false', Int.toNat_natCast, Int.not_lt, Int.not_le, UInt8.ofNat_toNat, cast_eq] at *; omega)))
  all_goals (try ((show (_:Int) = _); omega))
  all_goals (try (show tupSV _ = _; with_unfolding_all rfl))
  all_goals (try ((show (_ : Nat) ≤ _); (simp <;> omega)))
  all_goals (try ((show (_ : Nat) ≤ _ ∧ (_ : Nat) ≤ _); (simp <;> omega)))
  all_goals (try ((show (_ : Int) ≤ _ ∧ (_ : Int) ≤ _ ∧ (_ : Int) ≤ _ ∧ (_ : Int) ≤ _); (simp <;> omega)))
  all_goals (try (rename_i h; exact absurd h (by decide)))
instance uCCc (l : List UInt8) : FnM BB 104 [.loc 0 0] [(0, wrU (.loc 0 0) (.own 1)), (1, .own .byte l)] True (.tup []) [(0, wrU (.loc 0 0) (.own 1)), (1, .own .byte l)] := by
  refine FnM.intro (N := 20) [0, 6, 19] [] 2 Tryd.call104 Tryd.func104 rfl rfl (by kernel_rfl) (fun hpre => ?_)
  repeat' ((conv => whnf); first | (with_reducible rfl) | exact True.intro | (with_reducible exact absTF) | (with_reducible exact absFT) | intro _ | refine And.intro ?_ ?_ | refine Fin.mk ?_ | refine CallG.plain rfl ?_ ?_ | refine CallG.mk rfl ?_ ?_ | refine CallG.nwl rfl ?_ ?_ | refine CallG.nw ?_ ?_ | refine CallF.nwl rfl ?_ ?_ | refine CallF.nw ?_ ?_ | refine AppN.mk ?_ | (refine CallS.q ?_; (conv => whnf); first | refine CallG.plain rfl ?_ ?_ | refine CallG.mk rfl ?_ ?_) | (refine CallS.m ?_; (conv => whnf); refine CallM.mk rfl ?_ ?_) | (refine CallS.h ?_; (conv => whnf); refine CallM.mk rfl ?_ ?_) | (refine CallS.b ?_; (conv => whnf); refine CallM.mk rfl ?_ ?_) | (refine CallS.z ?_; (conv => whnf); refine CallM.mk rfl ?_ ?_))
  all_goals (try (conv => whnf))
  all_goals (try (exact Ob.mk (u8_bnd _)))
  all_goals (try (refine Ob.mk ?_; first | exact True.intro | assumption | omega | (try simp only [decide_eq_true_eq, decide_eq_false_iff_not, beq_iff_eq, beq_eq_false_iff_ne, bne_iff_ne, bne_eq_false_iff_eq, ne_eq, Bool.and_eq_true, Bool.or_eq_true, Bool.not_eq_true, Bool.not_eq_false, Bool.not_eq_true', Bool.not_eq_false', Int.toNat_natCast, Int.not_lt, Int.not_le, UInt8.ofNat_toNat, cast_eq] at *; omega)))
  all_goals (try ((show (_:Int) = _); omega))
  all_goals (try (show tupSV _ = _; with_unfolding_all rfl))
  all_goals (try ((show (_ : Nat) ≤ _); (simp <;> omega)))
  all_goals (try ((show (_ : Nat) ≤ _ ∧ (_ : Nat) ≤ _); (simp <;> omega)))
  all_goals (try ((show (_ : Int) ≤ _ ∧ (_ : Int) ≤ _ ∧ (_ : Int) ≤ _ ∧ (_ : Int) ≤ _); (simp <;> omega)))
  all_goals (try (rename_i h; exact absurd h (by decide)))
instance uWSa (x : List UInt8) : FnM BB 66 [.loc 0 0, .str x] [(0, wrU nilU .nils)] (x ≠ [] ∧ x.length ≤ 1000000) (.tup [.int .i64 x.length, .v .nilIface]) [(0, wrU (.loc 0 0) (.own 1)), (1, .own .byte x)] := by
  refine FnM.intro (N := 19) [0, 1, 4, 5] [] 1 Tryd.call66 Tryd.func66 rfl rfl (by kernel_rfl) (fun hpre => ?_)
  obtain ⟨hp1, hp2⟩ := hpre
  repeat' ((conv => whnf); first | (with_reducible rfl) | exact True.intro | (with_reducible exact absTF) | (with_reducible exact absFT) | intro _ | refine And.intro ?_ ?_ | refine Fin.mk ?_ | refine CallG.plain rfl ?_ ?_ | refine CallG.mk rfl ?_ ?_ | refine CallG.nwl rfl ?_ ?_ | refine CallG.nw ?_ ?_ | refine CallF.nwl rfl ?_ ?_ | refine CallF.nw ?_ ?_ | refine AppN.mk ?_ | (refine CallS.q ?_; (conv => whnf); first | refine CallG.plain rfl ?_ ?_ | refine CallG.mk rfl ?_ ?_) | (refine CallS.m ?_; (conv => whnf); refine CallM.mk rfl ?_ ?_) | (refine CallS.h ?_; (conv => whnf); refine CallM.mk rfl ?_ ?_) | (refine CallS.b ?_; (conv => whnf); refine CallM.mk rfl ?_ ?_) | (refine CallS.z ?_; (conv => whnf); refine CallM.mk rfl ?_ ?_))
  all_goals (try (conv => whnf))
  all_goals (try (exact Ob.mk (u8_bnd _)))
  all_goals (try (refine Ob.mk ?_; first | exact True.intro | assumption | omega | (try simp only [decide_eq_true_eq, decide_eq_false_iff_not, beq_iff_eq, beq_eq_false_iff_ne, bne_iff_ne, bne_eq_false_iff_eq, ne_eq, Bool.and_eq_true, Bool.or_eq_true, Bool.not_eq_true, Bool.not_eq_false, Bool.not_eq_true', Bool.not_eq_false', Int.toNat_natCast, Int.not_lt, Int.not_le, UInt8.ofNat_toNat, cast_eq] at *; omega)))
  all_goals (try ((show (_:Int) = _); omega))
  all_goals (try (show tupSV _ = _; with_unfolding_all rfl))
  all_goals (try ((show (_ : Nat) ≤ _); (simp <;> omega)))
  all_goals (try ((show (_ : Nat) ≤ _ ∧ (_ : Nat) ≤ _); (simp <;> omega)))
  all_goals (try ((show (_ : Int) ≤ _ ∧ (_ : Int) ≤ _ ∧ (_ : Int) ≤ _ ∧ (_ : Int) ≤ _); (simp <;> omega)))
instance uWSc (x l : List UInt8) : FnM BB 66 [.loc 0 0, .str x] [(0, wrU (.loc 0 0) (.own 1)), (1, .own .byte l)] (l.length ≤ 1000000 ∧ x.length ≤ 1000000) (.tup [.int .i64 x.length, .v .nilIface]) [(0, wrU (.loc 0 0) (.own 1)), (1, .own .byte (l ++ x))] := by
  refine FnM.intro (N := 19) [0, 1, 4, 5] [] 2 Tryd.call66 Tryd.func66 rfl rfl (by kernel_rfl) (fun hpre => ?_)
  obtain ⟨hp1, hp2⟩ := hpre
  repeat' ((conv => whnf); first | (with_reducible rfl) | exact True.intro | (with_reducible exact absTF) | (with_reducible exact absFT) | intro _ | refine And.intro ?_ ?_ | refine Fin.mk ?_ | refine CallG.plain rfl ?_ ?_ | refine CallG.mk rfl ?_ ?_ | refine CallG.nwl rfl ?_ ?_ | refine CallG.nw ?_ ?_ | refine CallF.nwl rfl ?_ ?_ | refine CallF.nw ?_ ?_ | refine AppN.mk ?_ | (refine CallS.q ?_; (conv => whnf); first | refine CallG.plain rfl ?_ ?_ | refine CallG.mk rfl ?_ ?_) | (refine CallS.m ?_; (conv => whnf); refine CallM.mk rfl ?_ ?_) | (refine CallS.h ?_; (conv => whnf); refine CallM.mk rfl ?_ ?_) | (refine CallS.b ?_; (conv => whnf); refine CallM.mk rfl ?_ ?_) | (refine CallS.z ?_; (conv => whnf); refine CallM.mk rfl ?_ ?_))
  all_goals (try (conv => whnf))
  all_goals (try (exact Ob.mk (u8_bnd _)))
  all_goals (try (refine Ob.mk ?_; first | exact True.intro | assumption | omega | (try simp only [decide_eq_true_eq, decide_eq_false_iff_not, beq_iff_eq, beq_eq_false_iff_ne, bne_iff_ne, bne_eq_false_iff_eq, ne_eq, Bool.and_eq_true, Bool.or_eq_true, Bool.not_eq_true, Bool.not_eq_false, Bool.not_eq_true', Bool.not_eq_false', Int.toNat_natCast, Int.not_lt, Int.not_le, UInt8.ofNat_toNat, cast_eq] at *; omega)))
  all_goals (try ((show (_:Int) = _); omega))
  all_goals (try (show tupSV _ = _; with_unfolding_all rfl))
  all_goals (try ((show (_ : Nat) ≤ _); (simp <;> omega)))
  all_goals (try ((show (_ : Nat) ≤ _ ∧ (_ : Nat) ≤ _); (simp <;> omega)))
  all_goals (try ((show (_ : Int) ≤ _ ∧ (_ : Int) ≤ _ ∧ (_ : Int) ≤ _ ∧ (_ : Int) ≤ _); (simp <;> omega)))
instance uWa (x : List UInt8) : FnM BB 68 [.loc 0 0, .rd .byte x] [(0, wrU nilU .nils)] (x ≠ [] ∧ x.length ≤ 1000000) (.tup [.int .i64 x.length, .v .nilIface]) [(0, wrU (.loc 0 0) (.own 1)), (1, .own .byte x)] := by
  refine FnM.intro (N := 19) [0, 1, 4, 5] [] 1 Tryd.call68 Tryd.func68 rfl rfl (by kernel_rfl) (fun hpre => ?_)
  obtain ⟨hp1, hp2⟩ := hpre
  repeat' ((conv => whnf); first | (with_reducible rfl) | exact True.intro | (with_reducible exact absTF) | (with_reducible exact absFT) | intro _ | refine And.intro ?_ ?_ | refine Fin.mk ?_ | refine CallG.plain rfl ?_ ?_ | refine CallG.mk rfl ?_ ?_ | refine CallG.nwl rfl ?_ ?_ | refine CallG.nw ?_ ?_ | refine CallF.nwl rfl ?_ ?_ | refine CallF.nw ?_ ?_ | refine AppN.mk ?_ | (refine CallS.q ?_; (conv => whnf); first | refine CallG.plain rfl ?_ ?_ | refine CallG.mk rfl ?_ ?_) | (refine CallS.m ?_; (conv => whnf); refine CallM.mk rfl ?_ ?_) | (refine CallS.h ?_; (conv => whnf); refine CallM.mk rfl ?_ ?_) | (refine CallS.b ?_; (conv => whnf); refine CallM.mk rfl ?_ ?_) | (refine CallS.z ?_; (conv => whnf); refine CallM.mk rfl ?_ ?_))
  all_goals (try (conv => whnf))
  all_goals (try (exact Ob.mk (u8_bnd _)))
  all_goals (try (refine Ob.mk ?_; first | exact True.intro | assumption | omega | (try simp only [decide_eq_true_eq, decide_eq_false_iff_not, beq_iff_eq, beq_eq_false_iff_ne, bne_iff_ne, bne_eq_false_iff_eq, ne_eq, Bool.and_eq_true, Bool.or_eq_true, Bool.not_eq_true, Bool.not_eq_false, Bool.not_eq_true', Bool.not_eq_false', Int.toNat_natCast, Int.not_lt, Int.not_le, UInt8.ofNat_toNat, cast_eq] at *; omega)))
  all_goals (try ((show (_:Int) = _); omega))
  all_goals (try (show tupSV _ = _; with_unfolding_all rfl))
  all_goals (try ((show (_ : Nat) ≤ _); (simp <;> omega)))
  all_goals (try ((show (_ : Nat) ≤ _ ∧ (_ : Nat) ≤ _); (simp <;> omega)))
  all_goals (try ((show (_ : Int) ≤ _ ∧ (_ : Int) ≤ _ ∧ (_ : Int) ≤ _ ∧ (_ : Int) ≤ _); (simp <;> omega)))
instance uWc (x l : List UInt8) : FnM BB 68 [.loc 0 0, .rd .byte x] [(0, wrU (.loc 0 0) (.own 1)), (1, .own .byte l)] (l.length ≤ 1000000 ∧ x.length ≤ 1000000) (.tup [.int .i64 x.length, .v .nilIface]) [(0, wrU (.loc 0 0) (.own 1)), (1, .own .byte (l ++ x))] := by
  refine FnM.intro (N := 19) [0, 1, 4, 5] [] 2 Tryd.call68 Tryd.func68 rfl rfl (by kernel_rfl) (fun hpre => ?_)
  obtain ⟨hp1, hp2⟩ := hpre
  repeat' ((conv => whnf); first | (with_reducible rfl) | exact True.intro | (with_reducible exact absTF) | (with_reducible exact absFT) | intro _ | refine And.intro ?_ ?_ | refine Fin.mk ?_ | refine CallG.plain rfl ?_ ?_ | refine CallG.mk rfl ?_ ?_ | refine CallG.nwl rfl ?_ ?_ | refine CallG.nw ?_ ?_ | refine CallF.nwl rfl ?_ ?_ | refine CallF.nw ?_ ?_ | refine AppN.mk ?_ | (refine CallS.q ?_; (conv => whnf); first | refine CallG.plain rfl ?_ ?_ | refine CallG.mk rfl ?_ ?_) | (refine CallS.m ?_; (conv => whnf); refine CallM.mk rfl ?_ ?_) | (refine CallS.h ?_; (conv => whnf); refine CallM.mk rfl ?_ ?_) | (refine CallS.b ?_; (conv => whnf); refine CallM.mk rfl ?_ ?_) | (refine CallS.z ?_; (conv => whnf); refine CallM.mk rfl ?_ ?_))
  all_goals (try (conv => whnf))
  all_goals (try (exact Ob.mk (u8_bnd _)))
  all_goals (try (refine Ob.mk ?_; first | exact True.intro | assumption | omega | (try simp only [decide_eq_true_eq, decide_eq_false_iff_not, beq_iff_eq, beq_eq_false_iff_ne, bne_iff_ne, bne_eq_false_iff_eq, ne_eq, Bool.and_eq_true, Bool.or_eq_true, Bool.not_eq_true, Bool.not_eq_false, Bool.not_eq_true', Bool.not_eq_false', Int.toNat_natCast, Int.not_lt, Int.not_le, UInt8.ofNat_toNat, cast_eq] at *; omega)))
  all_goals (try ((show (_:Int) = _); omega))
  all_goals (try (show tupSV _ = _; with_unfolding_all rfl))
  all_goals (try ((show (_ : Nat) ≤ _); (simp <;> omega)))
  all_goals (try ((show (_ : Nat) ≤ _ ∧ (_ : Nat) ≤ _); (simp <;> omega)))
  all_goals (try ((show (_ : Int) ≤ _ ∧ (_ : Int) ≤ _ ∧ (_ : Int) ≤ _ ∧ (_ : Int) ≤ _); (simp <;> omega)))
instance uWBa (c : Int) : FnM BB 67 [.loc 0 0, .int .u8 c] [(0, wrU nilU .nils)] (0 ≤ c ∧ c ≤ 255) (.v .nilIface) [(0, wrU (.loc 0 0) (.own 1)), (1, .own .byte [UInt8.ofNat c.toNat])] := by
  refine FnM.intro (N := 17) [0, 1, 4] [] 1 Tryd.call67 Tryd.func67 rfl rfl (by kernel_rfl) (fun hpre => ?_)
  repeat' ((conv => whnf); first | (with_reducible rfl) | exact True.intro | (with_reducible exact absTF) | (with_reducible exact absFT) | intro _ | refine And.intro ?_ ?_ | refine Fin.mk ?_ | refine CallG.plain rfl ?_ ?_ | refine CallG.mk rfl ?_ ?_ | refine CallG.nwl rfl ?_ ?_ | refine CallG.nw ?_ ?_ | refine CallF.nwl rfl ?_ ?_ | refine CallF.nw ?_ ?_ | refine AppN.mk ?_ | (refine CallS.q ?_; (conv => whnf); first | refine CallG.plain rfl ?_ ?_ | refine CallG.mk rfl ?_ ?_) | (refine CallS.m ?_; (conv => whnf); refine CallM.mk rfl ?_ ?_) | (refine CallS.h ?_; (conv => whnf); refine CallM.mk rfl ?_ ?_) | (refine CallS.b ?_; (conv => whnf); refine CallM.mk rfl ?_ ?_) | (refine CallS.z ?_; (conv => whnf); refine CallM.mk rfl ?_ ?_))
  all_goals (try (conv => whnf))
  all_goals (try (exact Ob.mk (u8_bnd _)))
  all_goals (try (refine Ob.mk ?_; first | exact True.intro | assumption | omega | (try simp only [decide_eq_true_eq, decide_eq_false_iff_not, beq_iff_eq, beq_eq_false_iff_ne, bne_iff_ne, bne_eq_false_iff_eq, ne_eq, Bool.and_eq_true, Bool.or_eq_true, Bool.not_eq_true, Bool.not_eq_false, Bool.not_eq_true', Bool.not_eq_false', Int.toNat_natCast, Int.not_lt, Int.not_le, UInt8.ofNat_toNat, cast_eq] at *; omega)))
  all_goals (try ((show (_:Int) = _); omega))
  all_goals (try (show tupSV _ = _; with_unfolding_all rfl))
  all_goals (try ((show (_ : Nat) ≤ _); (simp <;> omega)))
  all_goals (try ((show (_ : Nat) ≤ _ ∧ (_ : Nat) ≤ _); (simp <;> omega)))
  all_goals (try ((show (_ : Int) ≤ _ ∧ (_ : Int) ≤ _ ∧ (_ : Int) ≤ _ ∧ (_ : Int) ≤ _); (simp <;> omega)))
instance uWBc (c : Int) (l : List UInt8) : FnM BB 67 [.loc 0 0, .int .u8 c] [(0, wrU (.loc 0 0) (.own 1)), (1, .own .byte l)] (0 ≤ c ∧ c ≤ 255 ∧ l.length ≤ 1000000) (.v .nilIface) [(0, wrU (.loc 0 0) (.own 1)), (1, .own .byte (l ++ [UInt8.ofNat c.toNat]))] := by
  refine FnM.intro (N := 17) [0, 1, 4] [] 2 Tryd.call67 Tryd.func67 rfl rfl (by kernel_rfl) (fun hpre => ?_)
  repeat' ((conv => whnf); first | (with_reducible rfl) | exact True.intro | (with_reducible exact absTF) | (with_reducible exact absFT) | intro _ | refine And.intro ?_ ?_ | refine Fin.mk ?_ | refine CallG.plain rfl ?_ ?_ | refine CallG.mk rfl ?_ ?_ | refine CallG.nwl rfl ?_ ?_ | refine CallG.nw ?_ ?_ | refine CallF.nwl rfl ?_ ?_ | refine CallF.nw ?_ ?_ | refine AppN.mk ?_ | (refine CallS.q ?_; (conv => whnf); first | refine CallG.plain rfl ?_ ?_ | refine CallG.mk rfl ?_ ?_) | (refine CallS.m ?_; (conv => whnf); refine CallM.mk rfl ?_ ?_) | (refine CallS.h ?_; (conv => whnf); refine CallM.mk rfl ?_ ?_) | (refine CallS.b ?_; (conv => whnf); refine CallM.mk rfl ?_ ?_) | (refine CallS.z ?_; (conv => whnf); refine CallM.mk rfl ?_ ?_))
  all_goals (try (conv => whnf))
  all_goals (try (exact Ob.mk (u8_bnd _)))
  all_goals (try (refine Ob.mk ?_; first | exact True.intro | assumption | omega | (try simp only [decide_eq_true_eq, decide_eq_false_iff_not, beq_iff_eq, beq_eq_false_iff_ne, bne_iff_ne, bne_eq_false_iff_eq, ne_eq, Bool.and_eq_true, Bool.or_eq_true, Bool.not_eq_true, Bool.not_eq_false, Bool.not_eq_true', Bool.not_eq_false', Int.toNat_natCast, Int.not_lt, Int.not_le, UInt8.ofNat_toNat, cast_eq] at *; omega)))
  all_goals (try ((show (_:Int) = _); omega))
  all_goals (try (show tupSV _ = _; with_unfolding_all rfl))
  all_goals (try ((show (_ : Nat) ≤ _); (simp <;> omega)))
  all_goals (try ((show (_ : Nat) ≤ _ ∧ (_ : Nat) ≤ _); (simp <;> omega)))
  all_goals (try ((show (_ : Int) ≤ _ ∧ (_ : Int) ≤ _ ∧ (_ : Int) ≤ _ ∧ (_ : Int) ≤ _); (simp <;> omega)))
instance uStr (l : List UInt8) : FnM BB 69 [.loc 0 0] [(0, wrU (.loc 0 0) (.own 1)), (1, .own .byte l)] (l ≠ []) (.str l) [(0, wrU (.loc 0 0) .und)] := by
  refine FnM.intro (N := 14) [0, 2] [(1, [0, 0, 0, 4, 4, 0, 0, 0, 4, 4, 4, 4])] 2 Tryd.call69 Tryd.func69 rfl rfl (by kernel_rfl) (fun hpre => ?_)
  repeat' ((conv => whnf); first | (with_reducible rfl) | exact True.intro | (with_reducible exact absTF) | (with_reducible exact absFT) | intro _ | refine And.intro ?_ ?_ | refine Fin.mk ?_ | refine CallG.plain rfl ?_ ?_ | refine CallG.mk rfl ?_ ?_ | refine CallG.nwl rfl ?_ ?_ | refine CallG.nw ?_ ?_ | refine CallF.nwl rfl ?_ ?_ | refine CallF.nw ?_ ?_ | refine AppN.mk ?_ | (refine CallS.q ?_; (conv => whnf); first | refine CallG.plain rfl ?_ ?_ | refine CallG.mk rfl ?_ ?_) | (refine CallS.m ?_; (conv => whnf); refine CallM.mk rfl ?_ ?_) | (refine CallS.h ?_; (conv => whnf); refine CallM.mk rfl ?_ ?_) | (refine CallS.b ?_; (conv => whnf); refine CallM.mk rfl ?_ ?_) | (refine CallS.z ?_; (conv => whnf); refine CallM.mk rfl ?_ ?_))
  all_goals (try (conv => whnf))
  all_goals (try (exact Ob.mk (u8_bnd _)))
  all_goals (try (refine Ob.mk ?_; first | exact True.intro | assumption | omega | (try simp only [decide_eq_true_eq, decide_eq_false_iff_not, beq_iff_eq, beq_eq_false_iff_ne, bne_iff_ne, bne_eq_false_iff_eq, ne_eq, Bool.and_eq_true, Bool.or_eq_true, Bool.not_eq_true, Bool.not_eq_false, Bool.not_eq_true', Bool.not_eq_false', Int.toNat_natCast, Int.not_lt, Int.not_le, UInt8.ofNat_toNat, cast_eq] at *; omega)))
  all_goals (try ((show (_:Int) = _); omega))
  all_goals (try (show tupSV _ = _; with_unfolding_all rfl))
  all_goals (try ((show (_ : Nat) ≤ _); (simp <;> omega)))
  all_goals (try ((show (_ : Nat) ≤ _ ∧ (_ : Nat) ≤ _); (simp <;> omega)))
  all_goals (try ((show (_ : Int) ≤ _ ∧ (_ : Int) ≤ _ ∧ (_ : Int) ≤ _ ∧ (_ : Int) ≤ _); (simp <;> omega)))
  all_goals (exact ⟨rfl, hpre⟩)
instance uStrN : FnM BB 69 [.loc 0 0] [(0, wrU nilU .nils)] True (.str []) [(0, wrU nilU .nils)] := by
  refine FnM.intro (N := 14) [0, 2] [(1, [0, 0, 0, 4, 4, 0, 0, 0, 4, 4, 4, 4])] 2 Tryd.call69 Tryd.func69 rfl rfl (by kernel_rfl) (fun hpre => ?_)
  repeat' ((conv => whnf); first | (with_reducible rfl) | exact True.intro | (with_reducible exact absTF) | (with_reducible exact absFT) | intro _ | refine And.intro ?_ ?_ | refine Fin.mk ?_ | refine CallG.plain rfl ?_ ?_ | refine CallG.mk rfl ?_ ?_ | refine CallG.nwl rfl ?_ ?_ | refine CallG.nw ?_ ?_ | refine CallF.nwl rfl ?_ ?_ | refine CallF.nw ?_ ?_ | refine AppN.mk ?_ | (refine CallS.q ?_; (conv => whnf); first | refine CallG.plain rfl ?_ ?_ | refine CallG.mk rfl ?_ ?_) | (refine CallS.m ?_; (conv => whnf); refine CallM.mk rfl ?_ ?_) | (refine CallS.h ?_; (conv => whnf); refine CallM.mk rfl ?_ ?_) | (refine CallS.b ?_; (conv => whnf); refine CallM.mk rfl ?_ ?_) | (refine CallS.z ?_; (conv => whnf); refine CallM.mk rfl ?_ ?_))
  all_goals (try (conv => whnf))
  all_goals (try (exact Ob.mk (u8_bnd _)))
  all_goals (try (refine Ob.mk ?_; first | exact True.intro | assumption | omega | (try simp only [decide_eq_true_eq, decide_eq_false_iff_not, beq_iff_eq, beq_eq_false_iff_ne, bne_iff_ne, bne_eq_false_iff_eq, ne_eq, Bool.and_eq_true, Bool.or_eq_true, Bool.not_eq_true, Bool.not_eq_false, Bool.not_eq_true', Bool.not_eq_false', Int.toNat_natCast, Int.not_lt, Int.not_le, UInt8.ofNat_toNat, cast_eq] at *; omega)))
  all_goals (try ((show (_:Int) = _); omega))
  all_goals (try (show tupSV _ = _; with_unfolding_all rfl))
  all_goals (try ((show (_ : Nat) ≤ _); (simp <;> omega)))
  all_goals (try ((show (_ : Nat) ≤ _ ∧ (_ : Nat) ≤ _); (simp <;> omega)))
  all_goals (try ((show (_ : Int) ≤ _ ∧ (_ : Int) ≤ _ ∧ (_ : Int) ≤ _ ∧ (_ : Int) ≤ _); (simp <;> omega)))
end Go.Vc
