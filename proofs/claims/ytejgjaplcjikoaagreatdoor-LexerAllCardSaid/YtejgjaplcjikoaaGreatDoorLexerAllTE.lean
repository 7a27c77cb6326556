/- A part of the proof: lemmas and walks that the last text of the claim joins; no condition. -/
import Derived.Test.YtejgjaplcjikoaaGreatDoorLexerAllVD
import Derived.Laws.Externs
import Derived.Shelf.Unicode.DecodeSlow
import Derived.Test.YtejgjaplcjikoaaGreatDoorChecked
import GoSem.Core.Utf8
import Derived.Shelf.Spec.SlicesInsert
import Derived.Shelf.Spec.SlicesInsertGrow
import Derived.Shelf.Strings.Trim
import Derived.Shelf.Small.Utf8
import Derived.Shelf.Small.Strs
import Derived.Shelf.Strings.Search1
import Derived.Shelf.Strings.Search2
import Derived.Shelf.Strings.Search3
import Derived.Shelf.LaysM
import Derived.Shelf.Strings.Shaped
import Derived.Shelf.Strings.Prefix
import Derived.Shelf.Unicode.Decode
import Derived.Shelf.Strings.Runes
import Derived.Shelf.Strings.IndexAny
import Derived.Shelf.Strings.AsciiSet
import Derived.Shelf.Strings.IndexAnyAll
import Derived.Shelf.Unicode.DecodeAny
import Derived.Test.YtejgjaplcjikoaaGreatDoorProg
import Derived.Shelf.Strings.SlTrimAscii
set_option linter.unusedVariables false
set_option linter.unusedSimpArgs false
set_option maxHeartbeats 8000000
namespace Go.Vc
open Go.Proofs
theorem mixed : Tryz.prog.follows .mixedOrders = true := by kernel_rfl
abbrev intTy : Ty := .int .i64
abbrev attrTy : Ty := .pr .str .str
abbrev tokTy : Ty := .pr intTy (.pr .str (.pr (.sl attrTy) (.pr .bool .str)))
def tyB (t : TypeId) : Option Ty :=
  bif Nat.beq t 3 then some intTy else bif Nat.beq t 4 then some .bool else bif Nat.beq t 5 then some .byte else bif Nat.beq t 9 then some .str else bif Nat.beq t 60 then some attrTy else bif Nat.beq t 31 then some tokTy else bif Nat.beq t 83 then some (.sl .str) else none
def eqsB (t : TypeId) : Bool := Nat.beq t 60
theorem eqsB_ok : ∀ t, eqsB t = true → Tryz.prog.stoodInHeld t = false ∧ Tryz.prog.eqGuardType Tryz.prog.depth t = false ∧ ((Tryz.prog.fieldsOf t).toList.all fun f => f.name != "_") = true := by
  intro t h
  obtain rfl := beq_of h
  exact ⟨by kernel_rfl, by kernel_rfl, by kernel_rfl⟩
def cellR (r : Mem) (b o : Nat) : Option Value := match r b with | some (.cells c _ _) => c[o]? | _ => none
theorem cellR_le {r r' : Mem} (h : r.le r') {b o v} (hc : cellR r b o = some v) : cellR r' b o = some v := by
  unfold cellR at hc ⊢
  cases hr : r b with
  | none => rw [hr] at hc; cases hc
  | some x => rw [hr] at hc; rw [h b x hr]; exact hc
theorem cellR_at {r : Mem} {w : World} (hv : ∀ b o, r b = some o → w.heap[b]? = some o) {b o v} (hc : cellR r b o = some v) : w.cell? ⟨b, o, none⟩ = some v := by
  unfold cellR at hc
  cases hr : r b with
  | none => rw [hr] at hc; cases hc
  | some x =>
    rw [hr] at hc
    have := hv b x hr
    cases x <;> simp only at hc <;> first | (cases hc; done) | skip
    simp only [World.cell?, this]
    exact hc
structure GB (r : Mem) : Prop where
  first : ∀ c, c < 256 → cellR r 1 c = some (.int .u8 (Lib.firstT c))
  acc : ∀ i, i < 16 → cellR r 2 (2 * i) = some (.int .u8 (Lib.accLo i)) ∧ cellR r 2 (2 * i + 1) = some (.int .u8 (Lib.accHi i))
  len : ∃ m : Int, cellR r 0 0 = some (.int .i64 m)
theorem GB.le {r r' : Mem} (h : r.le r') (g : GB r) : GB r' :=
  ⟨fun c hc => cellR_le h (g.first c hc), fun i hi => ⟨cellR_le h (g.acc i hi).1, cellR_le h (g.acc i hi).2⟩, g.len.elim fun m hm => ⟨m, cellR_le h hm⟩⟩
theorem GB.tabs {r : Mem} {w : World} (g : GB r) (hv : ∀ b o, r b = some o → w.heap[b]? = some o) : Lib.Utf8Tabs 1 2 w :=
  ⟨fun c hc => cellR_at hv (g.first c hc), fun i hi => ⟨cellR_at hv (g.acc i hi).1, cellR_at hv (g.acc i hi).2⟩⟩
noncomputable abbrev BB : Base := { P := Tryz.prog, mixed := mixed, G := GB, mono := fun r r' h g => g.le h, ty0 := tyB, eqs := eqsB, eqs_ok := eqsB_ok }
set_option maxRecDepth 10000
@[simp] theorem bytes1 : bytesT Tryz.prog 1 = 8 := rfl
@[simp] theorem bytesB1 : bytesT BB.P 1 = 8 := rfl
@[simp] theorem bytes2 : bytesT Tryz.prog 2 = 8 := rfl
@[simp] theorem bytesB2 : bytesT BB.P 2 = 8 := rfl
@[simp] theorem bytes3 : bytesT Tryz.prog 3 = 8 := rfl
@[simp] theorem bytesB3 : bytesT BB.P 3 = 8 := rfl
@[simp] theorem bytes4 : bytesT Tryz.prog 4 = 1 := rfl
@[simp] theorem bytesB4 : bytesT BB.P 4 = 1 := rfl
@[simp] theorem bytes5 : bytesT Tryz.prog 5 = 1 := rfl
@[simp] theorem bytesB5 : bytesT BB.P 5 = 1 := rfl
@[simp] theorem bytes6 : bytesT Tryz.prog 6 = 1 := rfl
@[simp] theorem bytesB6 : bytesT BB.P 6 = 1 := rfl
@[simp] theorem bytes7 : bytesT Tryz.prog 7 = 24 := rfl
@[simp] theorem bytesB7 : bytesT BB.P 7 = 24 := rfl
@[simp] theorem bytes8 : bytesT Tryz.prog 8 = 24 := rfl
@[simp] theorem bytesB8 : bytesT BB.P 8 = 24 := rfl
@[simp] theorem bytes9 : bytesT Tryz.prog 9 = 16 := rfl
@[simp] theorem bytesB9 : bytesT BB.P 9 = 16 := rfl
@[simp] theorem bytes10 : bytesT Tryz.prog 10 = 16 := rfl
@[simp] theorem bytesB10 : bytesT BB.P 10 = 16 := rfl
@[simp] theorem bytes11 : bytesT Tryz.prog 11 = 16 := rfl
@[simp] theorem bytesB11 : bytesT BB.P 11 = 16 := rfl
@[simp] theorem bytes12 : bytesT Tryz.prog 12 = 8 := rfl
@[simp] theorem bytesB12 : bytesT BB.P 12 = 8 := rfl
@[simp] theorem bytes13 : bytesT Tryz.prog 13 = 24 := rfl
@[simp] theorem bytesB13 : bytesT BB.P 13 = 24 := rfl
@[simp] theorem bytes14 : bytesT Tryz.prog 14 = 24 := rfl
@[simp] theorem bytesB14 : bytesT BB.P 14 = 24 := rfl
@[simp] theorem bytes15 : bytesT Tryz.prog 15 = 8 := rfl
@[simp] theorem bytesB15 : bytesT BB.P 15 = 8 := rfl
@[simp] theorem bytes16 : bytesT Tryz.prog 16 = 8 := rfl
@[simp] theorem bytesB16 : bytesT BB.P 16 = 8 := rfl
@[simp] theorem bytes17 : bytesT Tryz.prog 17 = 8 := rfl
@[simp] theorem bytesB17 : bytesT BB.P 17 = 8 := rfl
@[simp] theorem bytes18 : bytesT Tryz.prog 18 = 8 := rfl
@[simp] theorem bytesB18 : bytesT BB.P 18 = 8 := rfl
@[simp] theorem bytes19 : bytesT Tryz.prog 19 = 8 := rfl
@[simp] theorem bytesB19 : bytesT BB.P 19 = 8 := rfl
@[simp] theorem bytes20 : bytesT Tryz.prog 20 = 16 := rfl
@[simp] theorem bytesB20 : bytesT BB.P 20 = 16 := rfl
@[simp] theorem bytes21 : bytesT Tryz.prog 21 = 4 := rfl
@[simp] theorem bytesB21 : bytesT BB.P 21 = 4 := rfl
@[simp] theorem bytes22 : bytesT Tryz.prog 22 = 8 := rfl
@[simp] theorem bytesB22 : bytesT BB.P 22 = 8 := rfl
@[simp] theorem bytes23 : bytesT Tryz.prog 23 = 8 := rfl
@[simp] theorem bytesB23 : bytesT BB.P 23 = 8 := rfl
@[simp] theorem bytes24 : bytesT Tryz.prog 24 = 24 := rfl
@[simp] theorem bytesB24 : bytesT BB.P 24 = 24 := rfl
@[simp] theorem bytes25 : bytesT Tryz.prog 25 = 8 := rfl
@[simp] theorem bytesB25 : bytesT BB.P 25 = 8 := rfl
@[simp] theorem bytes26 : bytesT Tryz.prog 26 = 8 := rfl
@[simp] theorem bytesB26 : bytesT BB.P 26 = 8 := rfl
@[simp] theorem bytes27 : bytesT Tryz.prog 27 = 8 := rfl
@[simp] theorem bytesB27 : bytesT BB.P 27 = 8 := rfl
@[simp] theorem bytes28 : bytesT Tryz.prog 28 = 8 := rfl
@[simp] theorem bytesB28 : bytesT BB.P 28 = 8 := rfl
@[simp] theorem bytes29 : bytesT Tryz.prog 29 = 24 := rfl
@[simp] theorem bytesB29 : bytesT BB.P 29 = 24 := rfl
@[simp] theorem bytes30 : bytesT Tryz.prog 30 = 72 := rfl
@[simp] theorem bytesB30 : bytesT BB.P 30 = 72 := rfl
@[simp] theorem bytes31 : bytesT Tryz.prog 31 = 72 := rfl
@[simp] theorem bytesB31 : bytesT BB.P 31 = 72 := rfl
@[simp] theorem bytes32 : bytesT Tryz.prog 32 = 8 := rfl
@[simp] theorem bytesB32 : bytesT BB.P 32 = 8 := rfl
@[simp] theorem bytes33 : bytesT Tryz.prog 33 = 8 := rfl
@[simp] theorem bytesB33 : bytesT BB.P 33 = 8 := rfl
@[simp] theorem bytes34 : bytesT Tryz.prog 34 = 8 := rfl
@[simp] theorem bytesB34 : bytesT BB.P 34 = 8 := rfl
@[simp] theorem bytes35 : bytesT Tryz.prog 35 = 8 := rfl
@[simp] theorem bytesB35 : bytesT BB.P 35 = 8 := rfl
@[simp] theorem bytes36 : bytesT Tryz.prog 36 = 16 := rfl
@[simp] theorem bytesB36 : bytesT BB.P 36 = 16 := rfl
@[simp] theorem bytes37 : bytesT Tryz.prog 37 = 16 := rfl
@[simp] theorem bytesB37 : bytesT BB.P 37 = 16 := rfl
@[simp] theorem bytes38 : bytesT Tryz.prog 38 = 16 := rfl
@[simp] theorem bytesB38 : bytesT BB.P 38 = 16 := rfl
@[simp] theorem bytes39 : bytesT Tryz.prog 39 = 16 := rfl
@[simp] theorem bytesB39 : bytesT BB.P 39 = 16 := rfl
@[simp] theorem bytes40 : bytesT Tryz.prog 40 = 8 := rfl
@[simp] theorem bytesB40 : bytesT BB.P 40 = 8 := rfl
@[simp] theorem bytes41 : bytesT Tryz.prog 41 = 8 := rfl
@[simp] theorem bytesB41 : bytesT BB.P 41 = 8 := rfl
@[simp] theorem bytes42 : bytesT Tryz.prog 42 = 8 := rfl
@[simp] theorem bytesB42 : bytesT BB.P 42 = 8 := rfl
@[simp] theorem bytes43 : bytesT Tryz.prog 43 = 8 := rfl
@[simp] theorem bytesB43 : bytesT BB.P 43 = 8 := rfl
@[simp] theorem bytes45 : bytesT Tryz.prog 45 = 8 := rfl
@[simp] theorem bytesB45 : bytesT BB.P 45 = 8 := rfl
@[simp] theorem bytes46 : bytesT Tryz.prog 46 = 8 := rfl
@[simp] theorem bytesB46 : bytesT BB.P 46 = 8 := rfl
@[simp] theorem bytes47 : bytesT Tryz.prog 47 = 8 := rfl
@[simp] theorem bytesB47 : bytesT BB.P 47 = 8 := rfl
@[simp] theorem bytes48 : bytesT Tryz.prog 48 = 8 := rfl
@[simp] theorem bytesB48 : bytesT BB.P 48 = 8 := rfl
@[simp] theorem bytes49 : bytesT Tryz.prog 49 = 8 := rfl
@[simp] theorem bytesB49 : bytesT BB.P 49 = 8 := rfl
@[simp] theorem bytes50 : bytesT Tryz.prog 50 = 24 := rfl
@[simp] theorem bytesB50 : bytesT BB.P 50 = 24 := rfl
@[simp] theorem bytes52 : bytesT Tryz.prog 52 = 8 := rfl
@[simp] theorem bytesB52 : bytesT BB.P 52 = 8 := rfl
@[simp] theorem bytes53 : bytesT Tryz.prog 53 = 112 := rfl
@[simp] theorem bytesB53 : bytesT BB.P 53 = 112 := rfl
@[simp] theorem bytes54 : bytesT Tryz.prog 54 = 112 := rfl
@[simp] theorem bytesB54 : bytesT BB.P 54 = 112 := rfl
@[simp] theorem bytes55 : bytesT Tryz.prog 55 = 8 := rfl
@[simp] theorem bytesB55 : bytesT BB.P 55 = 8 := rfl
@[simp] theorem bytes56 : bytesT Tryz.prog 56 = 8 := rfl
@[simp] theorem bytesB56 : bytesT BB.P 56 = 8 := rfl
@[simp] theorem bytes57 : bytesT Tryz.prog 57 = 8 := rfl
@[simp] theorem bytesB57 : bytesT BB.P 57 = 8 := rfl
@[simp] theorem bytes58 : bytesT Tryz.prog 58 = 8 := rfl
@[simp] theorem bytesB58 : bytesT BB.P 58 = 8 := rfl
@[simp] theorem bytes59 : bytesT Tryz.prog 59 = 32 := rfl
@[simp] theorem bytesB59 : bytesT BB.P 59 = 32 := rfl
@[simp] theorem bytes60 : bytesT Tryz.prog 60 = 32 := rfl
@[simp] theorem bytesB60 : bytesT BB.P 60 = 32 := rfl
@[simp] theorem bytes61 : bytesT Tryz.prog 61 = 8 := rfl
@[simp] theorem bytesB61 : bytesT BB.P 61 = 8 := rfl
@[simp] theorem bytes62 : bytesT Tryz.prog 62 = 8 := rfl
@[simp] theorem bytesB62 : bytesT BB.P 62 = 8 := rfl
@[simp] theorem bytes63 : bytesT Tryz.prog 63 = 8 := rfl
@[simp] theorem bytesB63 : bytesT BB.P 63 = 8 := rfl
@[simp] theorem bytes64 : bytesT Tryz.prog 64 = 8 := rfl
@[simp] theorem bytesB64 : bytesT BB.P 64 = 8 := rfl
@[simp] theorem bytes65 : bytesT Tryz.prog 65 = 8 := rfl
@[simp] theorem bytesB65 : bytesT BB.P 65 = 8 := rfl
@[simp] theorem bytes67 : bytesT Tryz.prog 67 = 8 := rfl
@[simp] theorem bytesB67 : bytesT BB.P 67 = 8 := rfl
@[simp] theorem bytes68 : bytesT Tryz.prog 68 = 8 := rfl
@[simp] theorem bytesB68 : bytesT BB.P 68 = 8 := rfl
@[simp] theorem bytes69 : bytesT Tryz.prog 69 = 8 := rfl
@[simp] theorem bytesB69 : bytesT BB.P 69 = 8 := rfl
@[simp] theorem bytes70 : bytesT Tryz.prog 70 = 8 := rfl
@[simp] theorem bytesB70 : bytesT BB.P 70 = 8 := rfl
@[simp] theorem bytes71 : bytesT Tryz.prog 71 = 8 := rfl
@[simp] theorem bytesB71 : bytesT BB.P 71 = 8 := rfl
@[simp] theorem bytes73 : bytesT Tryz.prog 73 = 8 := rfl
@[simp] theorem bytesB73 : bytesT BB.P 73 = 8 := rfl
@[simp] theorem bytes74 : bytesT Tryz.prog 74 = 8 := rfl
@[simp] theorem bytesB74 : bytesT BB.P 74 = 8 := rfl
@[simp] theorem bytes75 : bytesT Tryz.prog 75 = 8 := rfl
@[simp] theorem bytesB75 : bytesT BB.P 75 = 8 := rfl
@[simp] theorem bytes76 : bytesT Tryz.prog 76 = 8 := rfl
@[simp] theorem bytesB76 : bytesT BB.P 76 = 8 := rfl
@[simp] theorem bytes78 : bytesT Tryz.prog 78 = 8 := rfl
@[simp] theorem bytesB78 : bytesT BB.P 78 = 8 := rfl
@[simp] theorem bytes80 : bytesT Tryz.prog 80 = 8 := rfl
@[simp] theorem bytesB80 : bytesT BB.P 80 = 8 := rfl
@[simp] theorem bytes81 : bytesT Tryz.prog 81 = 8 := rfl
@[simp] theorem bytesB81 : bytesT BB.P 81 = 8 := rfl
@[simp] theorem bytes82 : bytesT Tryz.prog 82 = 8 := rfl
@[simp] theorem bytesB82 : bytesT BB.P 82 = 8 := rfl
@[simp] theorem bytes83 : bytesT Tryz.prog 83 = 24 := rfl
@[simp] theorem bytesB83 : bytesT BB.P 83 = 24 := rfl
@[simp] theorem bytes84 : bytesT Tryz.prog 84 = 24 := rfl
@[simp] theorem bytesB84 : bytesT BB.P 84 = 24 := rfl
@[simp] theorem bytes86 : bytesT Tryz.prog 86 = 8 := rfl
@[simp] theorem bytesB86 : bytesT BB.P 86 = 8 := rfl
@[simp] theorem bytes87 : bytesT Tryz.prog 87 = 8 := rfl
@[simp] theorem bytesB87 : bytesT BB.P 87 = 8 := rfl
@[simp] theorem bytes88 : bytesT Tryz.prog 88 = 8 := rfl
@[simp] theorem bytesB88 : bytesT BB.P 88 = 8 := rfl
@[simp] theorem bytes89 : bytesT Tryz.prog 89 = 8 := rfl
@[simp] theorem bytesB89 : bytesT BB.P 89 = 8 := rfl
@[simp] theorem bytes90 : bytesT Tryz.prog 90 = 8 := rfl
@[simp] theorem bytesB90 : bytesT BB.P 90 = 8 := rfl
@[simp] theorem bytes91 : bytesT Tryz.prog 91 = 256 := rfl
@[simp] theorem bytesB91 : bytesT BB.P 91 = 256 := rfl
@[simp] theorem bytes92 : bytesT Tryz.prog 92 = 8 := rfl
@[simp] theorem bytesB92 : bytesT BB.P 92 = 8 := rfl
@[simp] theorem bytes93 : bytesT Tryz.prog 93 = 8 := rfl
@[simp] theorem bytesB93 : bytesT BB.P 93 = 8 := rfl
@[simp] theorem bytes94 : bytesT Tryz.prog 94 = 8 := rfl
@[simp] theorem bytesB94 : bytesT BB.P 94 = 8 := rfl
@[simp] theorem bytes95 : bytesT Tryz.prog 95 = 8 := rfl
@[simp] theorem bytesB95 : bytesT BB.P 95 = 8 := rfl
@[simp] theorem bytes96 : bytesT Tryz.prog 96 = 8 := rfl
@[simp] theorem bytesB96 : bytesT BB.P 96 = 8 := rfl
@[simp] theorem bytes97 : bytesT Tryz.prog 97 = 4 := rfl
@[simp] theorem bytesB97 : bytesT BB.P 97 = 4 := rfl
@[simp] theorem bytes99 : bytesT Tryz.prog 99 = 8 := rfl
@[simp] theorem bytesB99 : bytesT BB.P 99 = 8 := rfl
@[simp] theorem bytes100 : bytesT Tryz.prog 100 = 8 := rfl
@[simp] theorem bytesB100 : bytesT BB.P 100 = 8 := rfl
@[simp] theorem bytes101 : bytesT Tryz.prog 101 = 8 := rfl
@[simp] theorem bytesB101 : bytesT BB.P 101 = 8 := rfl
@[simp] theorem bytes102 : bytesT Tryz.prog 102 = 8 := rfl
@[simp] theorem bytesB102 : bytesT BB.P 102 = 8 := rfl
@[simp] theorem bytes103 : bytesT Tryz.prog 103 = 256 := rfl
@[simp] theorem bytesB103 : bytesT BB.P 103 = 256 := rfl
@[simp] theorem bytes104 : bytesT Tryz.prog 104 = 256 := rfl
@[simp] theorem bytesB104 : bytesT BB.P 104 = 256 := rfl
@[simp] theorem bytes106 : bytesT Tryz.prog 106 = 8 := rfl
@[simp] theorem bytesB106 : bytesT BB.P 106 = 8 := rfl
@[simp] theorem bytes107 : bytesT Tryz.prog 107 = 8 := rfl
@[simp] theorem bytesB107 : bytesT BB.P 107 = 8 := rfl
@[simp] theorem bytes108 : bytesT Tryz.prog 108 = 8 := rfl
@[simp] theorem bytesB108 : bytesT BB.P 108 = 8 := rfl
@[simp] theorem bytes109 : bytesT Tryz.prog 109 = 8 := rfl
@[simp] theorem bytesB109 : bytesT BB.P 109 = 8 := rfl
theorem u8_bnd (x : UInt8) : 0 ≤ (x.toNat : Int) ∧ (x.toNat : Int) ≤ 255 := by have := x.toNat_lt; omega
end Go.Vc

namespace Go.Vc
set_option autoImplicit false
def encN (n : Int) : List UInt8 := (Utf8.encode (if n < 0 ∨ n > 1114111 ∨ (55296 ≤ n ∧ n ≤ 57343) then 65533 else n)).data.toList
theorem encN_len (n : Int) : (encN n).length ≤ 4 := by
  unfold encN
  generalize (if n < 0 ∨ n > 1114111 ∨ (55296 ≤ n ∧ n ≤ 57343) then (65533 : Int) else n) = c
  unfold Utf8.encode
  generalize (if Utf8.valid c then c.toNat else Utf8.runeError) = c
  dsimp only
  split
  · simp
  · split
    · simp
    · split <;> simp
def alI (c : Int) : Bool := (decide (65 ≤ c) && decide (c ≤ 90)) || (decide (97 ≤ c) && decide (c ≤ 122))
def anI (c : Int) : Bool := alI c || (decide (48 ≤ c) && decide (c ≤ 57))
def hexI (c : Int) : Int := if 48 ≤ c ∧ c ≤ 57 then c - 48 else if 97 ≤ c ∧ c ≤ 102 then c - 87 else if 65 ≤ c ∧ c ≤ 70 then c - 55 else -1
def alB (c : UInt8) : Bool := alI c.toNat
def anB (c : UInt8) : Bool := anI c.toNat
def hexV (c : UInt8) : Int := hexI c.toNat
def shortTab : List (List UInt8 × Int) := [
  ([97, 109, 112], 38), ([65, 77, 80], 38), ([108, 116], 60), ([76, 84], 60), ([103, 116], 62), ([71, 84], 62),
  ([113, 117, 111, 116], 34), ([81, 85, 79, 84], 34), ([110, 98, 115, 112], 160), ([99, 111, 112, 121], 169), ([114, 101, 103], 174), ([115, 104, 121], 173),
  ([112, 97, 114, 97], 182), ([115, 101, 99, 116], 167), ([116, 105, 109, 101, 115], 215), ([100, 105, 118, 105, 100, 101], 247), ([109, 105, 99, 114, 111], 181), ([109, 105, 100, 100, 111, 116], 183),
  ([110, 111, 116], 172), ([100, 101, 103], 176), ([121, 101, 110], 165), ([99, 101, 110, 116], 162), ([112, 111, 117, 110, 100], 163), ([108, 97, 113, 117, 111], 171),
  ([114, 97, 113, 117, 111], 187)]
def longTab : List (List UInt8 × Int) := [
  ([97, 112, 111, 115], 39), ([99, 111, 108, 111, 110], 58), ([84, 97, 98], 9), ([78, 101, 119, 76, 105, 110, 101], 10), ([108, 112, 97, 114], 40), ([114, 112, 97, 114], 41),
  ([115, 111, 108], 47), ([110, 117, 109], 35), ([115, 101, 109, 105], 59), ([101, 113, 117, 97, 108, 115], 61), ([101, 120, 99, 108], 33), ([99, 111, 109, 109, 97, 116], 64),
  ([113, 117, 101, 115, 116], 63), ([99, 111, 109, 109, 97], 44), ([112, 101, 114, 105, 111, 100], 46), ([108, 98, 114, 97, 99, 101], 123), ([114, 98, 114, 97, 99, 101], 125), ([108, 115, 113, 98], 91),
  ([114, 115, 113, 98], 93), ([103, 114, 97, 118, 101], 96), ([104, 101, 108, 108, 105, 112], 8230), ([109, 100, 97, 115, 104], 8212), ([110, 100, 97, 115, 104], 8211), ([108, 115, 113, 117, 111], 8216),
  ([114, 115, 113, 117, 111], 8217), ([108, 100, 113, 117, 111], 8220), ([114, 100, 113, 117, 111], 8221), ([98, 117, 108, 108], 8226), ([101, 117, 114, 111], 8364), ([116, 114, 97, 100, 101], 8482),
  ([108, 97, 114, 114], 8592), ([114, 97, 114, 114], 8594), ([122, 119, 106], 8205), ([122, 119, 110, 106], 8204), ([110, 111, 116, 105, 110], 8713), ([110, 101], 8800)]
def winTab : List Int := [8364, 0, 8218, 402, 8222, 8230, 8224, 8225, 710, 8240, 352, 8249, 338, 0, 381, 0, 0, 8216, 8217, 8220, 8221, 8226, 8211, 8212, 732, 8482, 353, 8250, 339, 0, 382, 376]
def fromTab : List Int := [128, 130, 131, 132, 133, 134, 135, 136, 137, 138, 139, 140, 142, 145, 146, 147, 148, 149, 150, 151, 152, 153, 154, 155, 156, 158, 159]
def toTab : List Int := [8364, 8218, 402, 8222, 8230, 8224, 8225, 710, 8240, 352, 8249, 338, 381, 8216, 8217, 8220, 8221, 8226, 8211, 8212, 732, 8482, 353, 8250, 339, 382, 376]
def lookT (t : List (List UInt8 × Int)) (k : List UInt8) : Int := match t.find? (fun e => k == e.1) with | some e => e.2 | none => 0
def endedOf (name : List UInt8) : Bool := decide (name.length > 0) && name.getD (name.length - 1) 0 == 59
def bareOf (name : List UInt8) : List UInt8 := if endedOf name = true then name.take (name.length - 1) else name
def namedN (name : List UInt8) : Int :=
  if lookT shortTab (bareOf name) = 0 ∧ endedOf name = true then lookT longTab (bareOf name) else lookT shortTab (bareOf name)
def named (name : List UInt8) : List UInt8 × Bool := if namedN name = 0 then ([], false) else (encN (namedN name), true)
def refTab : List (List UInt8 × Int) := shortTab ++ longTab.map fun e => (e.1 ++ [59], e.2)
def refHit (name : List UInt8) (e : List UInt8 × Int) : Bool := e.1 == name || (e.1.getD (e.1.length - 1) 0 != 59 && e.1 ++ [59] == name)
def refNamed (name : List UInt8) : List UInt8 × Bool := match refTab.find? (refHit name) with | some e => (encN e.2, true) | none => ([], false)
theorem find_congr {α : Type} {l : List α} {p q : α → Bool} (h : ∀ e ∈ l, p e = q e) : l.find? p = l.find? q := by
  induction l with
  | nil => rfl
  | cons x r ih => simp only [List.find?_cons, h x (by simp), ih (fun e he => h e (by simp [he]))]
theorem ended_iff {name : List UInt8} (h : endedOf name = true) : name = bareOf name ++ [59] := by
  have hb : bareOf name = name.take (name.length - 1) := by unfold bareOf; rw [if_pos h]
  rw [hb]
  simp only [endedOf, Bool.and_eq_true, decide_eq_true_eq, beq_iff_eq] at h
  obtain ⟨h1, h2⟩ := h
  have e : name.length - 1 + 1 = name.length := by omega
  have hlt : name.length - 1 < name.length := by omega
  have h3 : name[name.length - 1] = 59 := by rw [← h2]; simp [List.getD, List.getElem?_eq_getElem hlt]
  have h4 : name.take (name.length - 1 + 1) = name.take (name.length - 1) ++ [name[name.length - 1]] := by rw [List.take_append_getElem hlt]
  rw [h3, e, List.take_length] at h4
  exact h4
theorem ended_snoc (l : List UInt8) : endedOf (l ++ [59]) = true := by simp [endedOf]
theorem bare_snoc (l : List UInt8) : bareOf (l ++ [59]) = l := by unfold bareOf; rw [if_pos (ended_snoc l)]; simp
theorem bare_not {name : List UInt8} (h : endedOf name = false) : bareOf name = name := by unfold bareOf; rw [h]; simp
theorem last_ended {l : List UInt8} (h0 : l ≠ []) : endedOf l = (l.getD (l.length - 1) 0 == 59) := by
  have : l.length > 0 := List.length_pos_iff.mpr h0
  simp [endedOf, this]
theorem hit_short {name e : List UInt8} {k : Int} (h0 : endedOf e = false) (h1 : e ≠ []) : refHit name (e, k) = (e == bareOf name) := by
  have hl : (e.getD (e.length - 1) 0 != 59) = true := by
    have := last_ended h1
    rw [h0] at this
    rw [bne, ← this]; rfl
  simp only [refHit, hl, Bool.true_and]
  cases hn : endedOf name with
  | true =>
    have e1 := ended_iff hn
    have e2 : (e == name) = false := by
      rw [beq_eq_false_iff_ne]
      rintro rfl
      rw [h0] at hn; cases hn
    rw [e2, Bool.false_or, Bool.eq_iff_iff, beq_iff_eq, beq_iff_eq]
    constructor
    · intro h; rw [← h, bare_snoc]
    · intro h; rw [h]; exact e1.symm
  | false =>
    rw [bare_not hn]
    have e2 : (e ++ [59] == name) = false := by
      rw [beq_eq_false_iff_ne]
      rintro rfl
      rw [ended_snoc] at hn; cases hn
    rw [e2, Bool.or_false]
theorem hit_long {name e : List UInt8} {k : Int} : refHit name (e ++ [59], k) = (endedOf name && e == bareOf name) := by
  have hl : ((e ++ [59]).getD ((e ++ [59]).length - 1) 0 != 59) = false := by simp
  simp only [refHit, hl, Bool.false_and, Bool.or_false]
  cases hn : endedOf name with
  | true =>
    rw [Bool.true_and, Bool.eq_iff_iff, beq_iff_eq, beq_iff_eq]
    constructor
    · intro h; rw [← h, bare_snoc]
    · intro h; rw [h]; exact (ended_iff hn).symm
  | false =>
    rw [Bool.false_and, beq_eq_false_iff_ne]
    rintro rfl
    rw [ended_snoc] at hn; cases hn
def goodE (e : List UInt8 × Int) : Bool := !endedOf e.1 && (e.1 != [] && (e.2 != 0 && (e.1.all anB && decide (e.1.length ≤ 7))))
theorem good_short : ∀ e ∈ shortTab, goodE e = true := by decide
theorem good_long : ∀ e ∈ longTab, goodE e = true := by decide
theorem goodE_spec {e : List UInt8 × Int} (h : goodE e = true) : endedOf e.1 = false ∧ e.1 ≠ [] ∧ e.2 ≠ 0 ∧ (∀ c ∈ e.1, anB c = true) ∧ e.1.length ≤ 7 := by
  simp only [goodE, Bool.and_eq_true, Bool.not_eq_true', bne_iff_ne, ne_eq, List.all_eq_true, decide_eq_true_eq] at h
  exact h
theorem look_spec {t : List (List UInt8 × Int)} (ht : ∀ e ∈ t, goodE e = true) (k : List UInt8) :
    (lookT t k = 0 ∧ t.find? (fun e => k == e.1) = none) ∨ ∃ e ∈ t, e.1 = k ∧ t.find? (fun e => k == e.1) = some e ∧ lookT t k = e.2 ∧ e.2 ≠ 0 := by
  unfold lookT
  cases hf : t.find? (fun e => k == e.1) with
  | none => exact .inl ⟨rfl, rfl⟩
  | some e =>
    have hm := List.mem_of_find?_eq_some hf
    have hp := List.find?_some hf
    exact .inr ⟨e, hm, by simpa using (by simpa using hp : k = e.1).symm, rfl, rfl, (goodE_spec (ht e hm)).2.2.1⟩
theorem refNamed_eq (name : List UInt8) : refNamed name = named name := by
  unfold refNamed refTab
  rw [List.find?_append, find_congr (l := shortTab) (q := fun e => bareOf name == e.1) (fun e he => by
    obtain ⟨a, k⟩ := e
    have := goodE_spec (good_short _ he)
    exact (hit_short this.1 this.2.1).trans Bool.beq_comm), List.find?_map]
  have e2 : (refHit name ∘ fun e : List UInt8 × Int => (e.1 ++ [59], e.2)) = fun e => endedOf name && bareOf name == e.1 := by
    funext e
    exact hit_long.trans (by rw [Bool.beq_comm])
  rw [e2]
  unfold named namedN
  rcases look_spec good_short (bareOf name) with ⟨h1, h2⟩ | ⟨e, he, h1, h2, h3, h4⟩
  · rw [h2, h1]
    simp only [Option.none_or, true_and]
    cases hn : endedOf name with
    | true =>
      simp only [Bool.true_and, if_true]
      rcases look_spec good_long (bareOf name) with ⟨g1, g2⟩ | ⟨e, he, g1, g2, g3, g4⟩
      · rw [g1, g2]; rfl
      · rw [g2, g3, if_neg g4]; rfl
    | false =>
      simp only [Bool.false_and]
      have : longTab.find? (fun _ => false) = none := by decide
      rw [this]; rfl
  · rw [h2, h3]
    have : ¬ (e.2 = 0 ∧ endedOf name = true) := fun h => h4 h.1
    rw [if_neg this, if_neg h4]; rfl
theorem named_ok {x : List UInt8} (h : (named x).2 = true) : ∃ e : List UInt8, (x = e ∨ x = e ++ [59]) ∧ (∀ c ∈ e, anB c = true) ∧ e.length ≤ 7 ∧ e ≠ [] := by
  have hx : x = bareOf x ∨ x = bareOf x ++ [59] := by
    cases hn : endedOf x with
    | true => exact .inr (ended_iff hn)
    | false => exact .inl (bare_not hn).symm
  refine ⟨bareOf x, hx, ?_⟩
  have hN : namedN x ≠ 0 := by
    intro h0
    unfold named at h
    rw [if_pos h0] at h; cases h
  have key : ∃ e, goodE e = true ∧ e.1 = bareOf x := by
    unfold namedN at hN
    split at hN
    · rcases look_spec good_long (bareOf x) with ⟨g1, _⟩ | ⟨e, he, g1, _⟩
      · exact absurd g1 hN
      · exact ⟨e, good_long e he, g1⟩
    · rcases look_spec good_short (bareOf x) with ⟨g1, _⟩ | ⟨e, he, g1, _⟩
      · exact absurd g1 hN
      · exact ⟨e, good_short e he, g1⟩
  obtain ⟨e, he, rfl'⟩ := key
  have := goodE_spec he
  rw [rfl'] at this
  exact ⟨this.2.2.2.1, this.2.2.2.2, this.2.1⟩
def numW (n : Int) : Int := if 128 ≤ n ∧ n < 160 then (if winTab.getD (n - 128).toNat 0 > 0 then winTab.getD (n - 128).toNat 0 else n) else n
def numF (n : Int) : List UInt8 := encN (if numW n = 0 then 65533 else numW n)
def refK (n : Int) : Int := match (fromTab.zip toTab).find? (fun e => e.1 == n) with | some e => e.2 | none => if n = 0 then 65533 else n
theorem refK_eq (n : Int) : refK n = if numW n = 0 then 65533 else numW n := by
  by_cases h : 128 ≤ n ∧ n < 160
  · have key : ∀ k : _root_.Fin 32, refK (128 + (k.val : Int)) = if numW (128 + (k.val : Int)) = 0 then 65533 else numW (128 + (k.val : Int)) := by decide
    have := key ⟨(n - 128).toNat, by omega⟩
    have e : (128 : Int) + ((n - 128).toNat : Int) = n := by omega
    simp only [e] at this
    exact this
  · have e1 : numW n = n := by unfold numW; rw [if_neg h]
    have e2 : (fromTab.zip toTab).find? (fun e => e.1 == n) = none := by
      rw [List.find?_eq_none]
      intro e he
      have : ∀ e ∈ fromTab.zip toTab, 128 ≤ e.1 ∧ e.1 < 160 := by decide
      have := this e he
      simp
      omega
    unfold refK
    rw [e2, e1]
def digsL (base : Int) : List UInt8 → Int → Int → Int × Int
  | [], n, i => (n, i)
  | c :: r, n, i => if hexV c < 0 ∨ base ≤ hexV c then (n, i) else digsL base r (min (n * base + hexV c) 1114112) (i + 1)
theorem digsL_bound (base : Int) : ∀ (l : List UInt8) (n i : Int), i ≤ (digsL base l n i).2 ∧ (digsL base l n i).2 ≤ i + l.length := by
  intro l
  induction l with
  | nil => intro n i; simp [digsL]
  | cons c r ih =>
    intro n i
    unfold digsL
    split
    · simp; omega
    · have := ih (min (n * base + hexV c) 1114112) (i + 1)
      simp only [List.length_cons]; omega
def hexS (s : List UInt8) : Bool := decide (s.length > 2) && (s.getD 2 0 == 120 || s.getD 2 0 == 88)
def numAt (s : List UInt8) : Int × Int := if hexS s = true then digsL 16 (s.drop 3) 0 3 else digsL 10 (s.drop 2) 0 2
def numberF (s : List UInt8) : List UInt8 × Int :=
  if (numAt s).2 = (if hexS s = true then 3 else 2) then ([], 0)
  else (numF (numAt s).1, if (numAt s).2 < s.length ∧ s.getD (numAt s).2.toNat 0 = 59 then (numAt s).2 + 1 else (numAt s).2)
def letN : Nat → List UInt8 → Nat
  | 0, _ => 0
  | _ + 1, [] => 0
  | k + 1, c :: r => if anB c = true then letN k r + 1 else 0
theorem letN_le : ∀ (k : Nat) (l : List UInt8), letN k l ≤ k ∧ letN k l ≤ l.length ∧ ∀ j < letN k l, anB (l.getD j 0) = true := by
  intro k
  induction k with
  | zero => intro l; simp [letN]
  | succ k ih =>
    intro l
    cases l with
    | nil => simp [letN]
    | cons c r =>
      unfold letN
      split
      · obtain ⟨h1, h2, h3⟩ := ih r
        refine ⟨by omega, by simp; omega, fun j hj => ?_⟩
        cases j with
        | zero => simpa
        | succ j => simpa using h3 j (by omega)
      · simp
theorem letN_stop : ∀ (k : Nat) (l : List UInt8), letN k l < k → letN k l < l.length → anB (l.getD (letN k l) 0) = false := by
  intro k
  induction k with
  | zero => intro l h; simp at h
  | succ k ih =>
    intro l h1 h2
    cases l with
    | nil => simp at h2
    | cons c r =>
      unfold letN at h1 h2 ⊢
      split at h1
      · rename_i hc
        rw [if_pos hc] at h2 ⊢
        simpa using ih r (by omega) (by simpa using h2)
      · rename_i hc
        rw [if_neg hc]
        simpa using hc
theorem letN_max {k : Nat} {l : List UInt8} {n : Nat} (hk : n ≤ k) (hl : n ≤ l.length) (h : ∀ j < n, anB (l.getD j 0) = true) : n ≤ letN k l := by
  rcases Nat.lt_or_ge (letN k l) n with hlt | hge
  · have := letN_stop k l (by omega) (by omega)
    rw [h _ hlt] at this; cases this
  · exact hge
theorem letN_pos {k : Nat} {l : List UInt8} (hk : 0 < k) : decide (letN k l > 0) = (decide (0 < l.length) && anB (l.getD 0 0)) := by
  match k, l with
  | k + 1, [] => simp [letN]
  | k + 1, c :: r =>
    unfold letN
    by_cases h : anB c = true
    · rw [if_pos h]; simp [h]
    · rw [if_neg h]; simp [h]
def upto (s : List UInt8) (n : Nat) : List UInt8 := (s.take (n + 1)).drop 1
theorem upto_len {s : List UInt8} {n : Nat} (h : n + 1 ≤ s.length) : (upto s n).length = n := by simp [upto]; omega
theorem upto_get {s : List UInt8} {n j : Nat} (h : n + 1 ≤ s.length) (hj : j < n) : (upto s n).getD j 0 = s.getD (j + 1) 0 := by
  have h1 : j < (upto s n).length := by rw [upto_len h]; exact hj
  simp only [List.getD, List.getElem?_eq_getElem h1, List.getElem?_eq_getElem (show j + 1 < s.length by omega), Option.getD_some]
  simp [upto, Nat.add_comm]
def stopV (s : List UInt8) (v : Bool) (n : Nat) : Bool := v && (decide (n + 1 < s.length) && (s.getD (n + 1) 0 == 61 || anB (s.getD (n + 1) 0)))
def rdLoop (s : List UInt8) (v : Bool) : Nat → List UInt8 × Int
  | 0 => ([], 0)
  | n + 1 => if (named (upto s (n + 1))).2 = false then rdLoop s v n else if stopV s v (n + 1) = true then ([], 0) else ((named (upto s (n + 1))).1, n + 2)
def refLoop (s : List UInt8) (v : Bool) : Nat → List UInt8 × Int
  | 0 => ([], 0)
  | n + 1 => if (named (upto s (n + 1))).2 = false then refLoop s v n else if (stopV s v (n + 1) && s.getD (n + 1) 0 != 59) = true then ([], 0) else ((named (upto s (n + 1))).1, n + 2)
def semiOk (s : List UInt8) (n : Nat) : Bool := decide (n + 1 < s.length) && (s.getD (n + 1) 0 == 59 && (named (upto s (n + 1))).2)
def rdP (s : List UInt8) (v : Bool) : List UInt8 × Int :=
  if s.length < 2 ∨ s.getD 0 0 ≠ 38 then ([], 0) else if s.getD 1 0 = 35 then numberF s
  else if semiOk s (letN 8 (s.drop 1)) = true then ((named (upto s (letN 8 (s.drop 1) + 1))).1, (letN 8 (s.drop 1) : Int) + 2) else rdLoop s v (letN 8 (s.drop 1))
def rdR (s : List UInt8) (v : Bool) : List UInt8 × Int :=
  if s = [] ∨ s.getD 0 0 ≠ 38 then ([], 0) else if 1 < s.length ∧ s.getD 1 0 = 35 then numberF s else refLoop s v (min (s.length - 1) 12)
theorem name_at {s : List UInt8} {n : Nat} (hn : n + 1 ≤ s.length) (h : (named (upto s n)).2 = true) :
    n ≤ letN 8 (s.drop 1) ∨ (n = letN 8 (s.drop 1) + 1 ∧ s.getD n 0 = 59) := by
  obtain ⟨e, hx, h1, h2, h3⟩ := named_ok h
  have hlen := upto_len hn
  have hd : ∀ j, (s.drop 1).getD j 0 = s.getD (j + 1) 0 := fun j => by simp [List.getD, Nat.add_comm]
  have hget : ∀ {j : Nat}, j < e.length → anB (e.getD j 0) = true := fun {j} hj => h1 _ (by simp [List.getD, List.getElem?_eq_getElem hj])
  rcases hx with hx | hx
  · left
    have hle : e.length = n := by rw [← hx]; exact hlen
    refine letN_max (by omega) (by simp; omega) fun j hj => ?_
    rw [hd, ← upto_get hn hj, hx]
    exact hget (by omega)
  · have hle : e.length + 1 = n := by rw [← hlen, hx]; simp
    have h59 : s.getD n 0 = 59 := by
      have := upto_get hn (show n - 1 < n by omega)
      rw [hx, show n - 1 + 1 = n by omega] at this
      rw [← this, show n - 1 = e.length by omega]
      simp
    right
    refine ⟨?_, h59⟩
    have hge : e.length ≤ letN 8 (s.drop 1) := letN_max (by omega) (by simp; omega) fun j hj => by
      rw [hd, ← upto_get hn (by omega), hx]
      have : (e ++ [59]).getD j 0 = e.getD j 0 := by simp [List.getD, List.getElem?_append_left hj]
      rw [this]; exact hget hj
    rcases Nat.lt_or_ge e.length (letN 8 (s.drop 1)) with hlt | hge'
    · have := (letN_le 8 (s.drop 1)).2.2 _ hlt
      rw [hd, hle, h59] at this
      exact absurd this (by decide)
    · omega
theorem refLoop_skip {s : List UInt8} {v : Bool} {k : Nat} : ∀ {n : Nat}, k ≤ n → (∀ j, k < j → j ≤ n → (named (upto s j)).2 = false) → refLoop s v n = refLoop s v k := by
  intro n
  induction n with
  | zero => intro h _; have : k = 0 := by omega
            subst this; rfl
  | succ n ih =>
    intro h hj
    by_cases hk : k = n + 1
    · subst hk; rfl
    · have := hj (n + 1) (by omega) (by omega)
      rw [refLoop, if_pos this]
      exact ih (by omega) fun j h1 h2 => hj j h1 (by omega)
theorem refLoop_rd {s : List UInt8} {v : Bool} : ∀ {n : Nat}, (∀ j, 0 < j → j ≤ n → s.getD j 0 ≠ 59) → refLoop s v n = rdLoop s v n := by
  intro n
  induction n with
  | zero => intro _; rfl
  | succ n ih =>
    intro h
    rw [refLoop, rdLoop, ih fun j h1 h2 => h j h1 (by omega)]
    have : (s.getD (n + 1) 0 != 59) = true := by simpa using h (n + 1) (by omega) (by omega)
    rw [this, Bool.and_true]
theorem rd_eq (s : List UInt8) (v : Bool) : rdR s v = rdP s v := by
  unfold rdR rdP
  by_cases h0 : s.getD 0 0 = 38
  · by_cases hl : s.length < 2
    · rw [if_pos (Or.inl hl)]
      by_cases he : s = []
      · rw [if_pos (Or.inl he)]
      · have hlen : s.length = 1 := by have := List.length_pos_iff.mpr he; omega
        rw [if_neg (by rintro (h | h); exact he h; exact h h0), if_neg (by omega)]
        simp [hlen, refLoop]
    · have he : s ≠ [] := by rintro rfl; simp at hl
      have hA : ¬ (s = [] ∨ s.getD 0 0 ≠ 38) := by rintro (h | h); exact he h; exact h h0
      have hB : ¬ (s.length < 2 ∨ s.getD 0 0 ≠ 38) := by rintro (h | h); exact hl h; exact h h0
      rw [if_neg hA, if_neg hB]
      by_cases h1 : s.getD 1 0 = 35
      · have hC : 1 < s.length ∧ s.getD 1 0 = 35 := ⟨by omega, h1⟩
        rw [if_pos hC, if_pos h1]
      · have hC : ¬ (1 < s.length ∧ s.getD 1 0 = 35) := by rintro ⟨_, h⟩; exact h1 h
        rw [if_neg hC, if_neg h1]
        obtain ⟨g1, g2, g3⟩ := letN_le 8 (s.drop 1)
        have hd : ∀ j, (s.drop 1).getD j 0 = s.getD (j + 1) 0 := fun j => by simp [List.getD, Nat.add_comm]
        have g2' : letN 8 (s.drop 1) + 1 ≤ s.length := by rw [List.length_drop] at g2; omega
        have no59 : ∀ j, 0 < j → j ≤ letN 8 (s.drop 1) → s.getD j 0 ≠ 59 := by
          intro j hj1 hj2 h59
          have := g3 (j - 1) (by omega)
          rw [hd, show j - 1 + 1 = j by omega, h59] at this
          exact absurd this (by decide)
        generalize hL : letN 8 (s.drop 1) = L at *
        by_cases hs : semiOk s L = true
        · rw [if_pos hs]
          simp only [semiOk, Bool.and_eq_true, decide_eq_true_eq, beq_iff_eq] at hs
          obtain ⟨s1, s2, s3⟩ := hs
          rw [refLoop_skip (k := L + 1) (by omega) (fun j j1 j2 => ?_)]
          · rw [refLoop, if_neg (by rw [s3]; simp), if_neg (by rw [s2]; simp)]
          · cases hq : (named (upto s j)).2 with
            | false => rfl
            | true =>
              rcases name_at (s := s) (n := j) (by omega) hq with h | ⟨h, _⟩ <;> rw [hL] at h <;> omega
        · rw [if_neg hs]
          rw [refLoop_skip (k := L) (by omega) (fun j j1 j2 => ?_)]
          · exact refLoop_rd no59
          · cases hq : (named (upto s j)).2 with
            | false => rfl
            | true =>
              exfalso
              rcases name_at (s := s) (n := j) (by omega) hq with h | ⟨h, h59⟩
              · rw [hL] at h; omega
              · rw [hL] at h
                subst h
                apply hs
                simp only [semiOk, Bool.and_eq_true, decide_eq_true_eq, beq_iff_eq]
                exact ⟨by omega, h59, hq⟩
  · rw [if_pos (Or.inr h0), if_pos (Or.inr h0)]
theorem rdLoop_bound {s : List UInt8} {v : Bool} : ∀ {n : Nat}, n + 1 ≤ s.length → 0 ≤ (rdLoop s v n).2 ∧ (rdLoop s v n).2 ≤ s.length ∧ (rdLoop s v n).1.length ≤ 4 := by
  intro n
  induction n with
  | zero => intro _; simp [rdLoop]
  | succ n ih =>
    intro h
    rw [rdLoop]
    split
    · exact ih (by omega)
    · split
      · simp
      · refine ⟨by simp; omega, by simp; omega, ?_⟩
        unfold named
        split
        · simp
        · exact encN_len _
theorem rd_bound (s : List UInt8) (v : Bool) : 0 ≤ (rdP s v).2 ∧ (rdP s v).2 ≤ s.length ∧ (rdP s v).1.length ≤ 4 := by
  unfold rdP
  split
  · simp
  · rename_i h
    have h2 : 2 ≤ s.length := by
      rcases Nat.lt_or_ge s.length 2 with h' | h'
      · exact absurd (Or.inl h') h
      · exact h'
    split
    · have hb : (if hexS s = true then (3:Int) else 2) ≤ (numAt s).2 ∧ (numAt s).2 ≤ s.length := by
        unfold numAt
        by_cases hx : hexS s = true
        · rw [if_pos hx, if_pos hx]
          have := digsL_bound 16 (s.drop 3) 0 3
          simp only [hexS, Bool.and_eq_true, decide_eq_true_eq] at hx
          simp only [List.length_drop] at this
          omega
        · rw [if_neg hx, if_neg hx]
          have := digsL_bound 10 (s.drop 2) 0 2
          simp only [List.length_drop] at this
          omega
      have h23 : (2 : Int) ≤ if hexS s = true then (3:Int) else 2 := by split <;> omega
      unfold numberF
      by_cases hq : (numAt s).2 = (if hexS s = true then (3:Int) else 2)
      · rw [if_pos hq]; simp
      · rw [if_neg hq]
        refine ⟨?_, ?_, encN_len _⟩
        · simp only; split <;> omega
        · simp only; split <;> omega
    · obtain ⟨g1, g2, _⟩ := letN_le 8 (s.drop 1)
      simp only [List.length_drop] at g2
      split
      · rename_i hs
        simp only [semiOk, Bool.and_eq_true, decide_eq_true_eq] at hs
        refine ⟨by simp only; omega, by simp only; omega, ?_⟩
        unfold named
        split
        · simp
        · exact encN_len _
      · exact rdLoop_bound (by omega)
def dec (v : Bool) : Nat → List UInt8 → List UInt8
  | 0, _ => []
  | f + 1, s => if s = [] then [] else if (rdP s v).2 = 0 then s.getD 0 0 :: dec v f (s.drop 1) else (rdP s v).1 ++ dec v f (s.drop (rdP s v).2.toNat)
def decF (s : List UInt8) (v : Bool) : List UInt8 := dec v s.length s
theorem dec_fuel (v : Bool) : ∀ (f : Nat) (s : List UInt8), s.length ≤ f → dec v f s = dec v s.length s := by
  intro f
  induction f with
  | zero => intro s h; have : s = [] := List.length_eq_zero_iff.1 (by omega)
            subst this; rfl
  | succ f ih =>
    intro s h
    by_cases he : s = []
    · subst he; simp [dec]
    · have hp : 0 < s.length := List.length_pos_iff.mpr he
      obtain ⟨m, hm⟩ : ∃ m, s.length = m + 1 := ⟨s.length - 1, by omega⟩
      rw [hm, dec, dec, if_neg he, if_neg he]
      obtain ⟨b1, b2, _⟩ := rd_bound s v
      by_cases h0 : (rdP s v).2 = 0
      · rw [if_pos h0, if_pos h0, ih (s.drop 1) (by simp; omega)]
        congr 1
        have e : (s.drop 1).length = m := by simp; omega
        rw [e]
      · rw [if_neg h0, if_neg h0, ih (s.drop (rdP s v).2.toNat) (by simp; omega)]
        congr 1
        have e : (s.drop (rdP s v).2.toNat).length ≤ m := by simp; omega
        have aux : ∀ (g : Nat) (t : List UInt8), t.length ≤ g → g ≤ f → dec v g t = dec v t.length t := by
          intro g
          induction g with
          | zero => intro t ht _; have : t = [] := List.length_eq_zero_iff.1 (by omega)
                    subst this; rfl
          | succ g ihg =>
            intro t ht hgf
            by_cases hte : t = []
            · subst hte; simp [dec]
            · have hgf' : g + 1 = f ∨ g + 1 < f := by omega
              rcases hgf' with rfl | hlt
              · exact ih t ht
              · have h1 := ih t (by omega)
                rw [← h1]
                have key : ∀ (a b : Nat) (u : List UInt8), u.length ≤ a → a ≤ b → dec v a u = dec v b u := by
                  intro a
                  induction a with
                  | zero => intro b u hu _; have : u = [] := List.length_eq_zero_iff.1 (by omega)
                            subst this; cases b <;> simp [dec]
                  | succ a iha =>
                    intro b u hu hab
                    obtain ⟨b', rfl⟩ : ∃ b', b = b' + 1 := ⟨b - 1, by omega⟩
                    by_cases hue : u = []
                    · subst hue; simp [dec]
                    · rw [dec, dec, if_neg hue, if_neg hue]
                      obtain ⟨c1, c2, _⟩ := rd_bound u v
                      have hup : 0 < u.length := List.length_pos_iff.mpr hue
                      by_cases hz : (rdP u v).2 = 0
                      · rw [if_pos hz, if_pos hz, iha b' (u.drop 1) (by simp; omega) (by omega)]
                      · rw [if_neg hz, if_neg hz, iha b' (u.drop (rdP u v).2.toNat) (by simp; omega) (by omega)]
                exact key (g + 1) f t ht (by omega)
        exact (aux m _ e (by omega)).symm
theorem decF_nil (v : Bool) : decF [] v = [] := rfl
theorem decF_step {s : List UInt8} (v : Bool) (h : s ≠ []) :
    decF s v = if (rdP s v).2 = 0 then s.getD 0 0 :: decF (s.drop 1) v else (rdP s v).1 ++ decF (s.drop (rdP s v).2.toNat) v := by
  have hp : 0 < s.length := List.length_pos_iff.mpr h
  obtain ⟨m, hm⟩ : ∃ m, s.length = m + 1 := ⟨s.length - 1, by omega⟩
  unfold decF
  rw [hm, dec, if_neg h]
  obtain ⟨b1, b2, _⟩ := rd_bound s v
  by_cases h0 : (rdP s v).2 = 0
  · rw [if_pos h0, if_pos h0, dec_fuel v m (s.drop 1) (by simp; omega)]
  · rw [if_neg h0, if_neg h0, dec_fuel v m (s.drop (rdP s v).2.toNat) (by simp; omega)]
end Go.Vc

namespace Go.Vc
open Go.Proofs
set_option maxRecDepth 10000
set_option maxHeartbeats 2000000
theorem u8_beq (c k : UInt8) : ((c.toNat : Int) == (k.toNat : Int)) = (c == k) := by
  rw [Bool.eq_iff_iff, beq_iff_eq, beq_iff_eq]
  constructor
  · intro h; exact UInt8.toNat_inj.1 (by omega)
  · rintro rfl; rfl
theorem u8_59 (c : UInt8) : ((c.toNat : Int) == 59) = (c == 59) := u8_beq c 59
theorem u8_38 (c : UInt8) : ((c.toNat : Int) == 38) = (c == 38) := u8_beq c 38
theorem u8_35 (c : UInt8) : ((c.toNat : Int) == 35) = (c == 35) := u8_beq c 35
theorem u8_61 (c : UInt8) : ((c.toNat : Int) == 61) = (c == 61) := u8_beq c 61
theorem u8_120 (c : UInt8) : ((c.toNat : Int) == 120) = (c == 120) := u8_beq c 120
theorem u8_88 (c : UInt8) : ((c.toNat : Int) == 88) = (c == 88) := u8_beq c 88
theorem or32 (c : Int) (h : 0 ≤ c ∧ c ≤ 255) : (decide (97 ≤ bitsI .or .u8 c 32) && decide (bitsI .or .u8 c 32 ≤ 122)) = alI c := by
  have key : ∀ k : _root_.Fin 256, (decide (97 ≤ bitsI .or .u8 (k.val : Int) 32) && decide (bitsI .or .u8 (k.val : Int) 32 ≤ 122)) = alI (k.val : Int) := by decide +kernel
  have := key ⟨c.toNat, by omega⟩
  have e : ((c.toNat : Nat) : Int) = c := by omega
  simp only [e] at this
  exact this
theorem wrap8 (n : Int) (h : 0 ≤ n ∧ n ≤ 255) : IntKind.u8.wrap n = n := wrap_kIn (k := .u8) h
theorem wrap32 (n : Int) (h : -2147483648 ≤ n ∧ n ≤ 2147483647) : IntKind.i32.wrap n = n := wrap_kIn (k := .i32) h
instance fLet (c : Int) : Fn BB 29 [.int .u8 c] (0 ≤ c ∧ c ≤ 255) (.bool (alI c)) := by
  refine Fn.intro (N := 11) [0, 2] [] Tryz.call29 Tryz.func29 rfl rfl (by kernel_rfl) (fun hpre => ?_)
  repeat' ((conv => whnf);first|(with_reducible first|rfl|exact absTF|exact absFT)|exact True.intro|intro _|refine And.intro ?_ ?_|refine Fin.mk ?_|refine W1 rfl ?_ ?_|refine W2 rfl ?_ ?_|refine W3 rfl ?_ ?_|refine W4 ?_ ?_|refine W5 rfl ?_ ?_|refine W6 ?_ ?_|refine AppN.mk ?_|refine X1 (W1 rfl ?_ ?_)|refine X1 (W2 rfl ?_ ?_)|refine X2 (W7 rfl ?_ ?_)|refine X3 (W7 rfl ?_ ?_)|refine X4 (W7 rfl ?_ ?_)|refine X5 (W7 rfl ?_ ?_))
  all_goals (try (conv => whnf))
  rw [or32 c hpre]
instance fRLet (c : Int) : Fn BB 54 [.int .u8 c] True (.bool (alI c)) := by
  refine Fn.intro (N := 17) [0, 2] [] Tryz.call54 Tryz.func54 rfl rfl (by kernel_rfl) (fun hpre => ?_)
  repeat' ((conv => whnf);first|(with_reducible first|rfl|exact absTF|exact absFT)|exact True.intro|intro _|refine And.intro ?_ ?_|refine Fin.mk ?_|refine W1 rfl ?_ ?_|refine W2 rfl ?_ ?_|refine W3 rfl ?_ ?_|refine W4 ?_ ?_|refine W5 rfl ?_ ?_|refine W6 ?_ ?_|refine AppN.mk ?_|refine X1 (W1 rfl ?_ ?_)|refine X1 (W2 rfl ?_ ?_)|refine X2 (W7 rfl ?_ ?_)|refine X3 (W7 rfl ?_ ?_)|refine X4 (W7 rfl ?_ ?_)|refine X5 (W7 rfl ?_ ?_))
  all_goals (try (conv => whnf))
  rfl
instance fRHex (c : Int) : Fn BB 86 [.int .u8 c] (0 ≤ c ∧ c ≤ 255) (.int .i64 (hexI c)) := by
  refine Fn.intro (N := 32) [0, 2, 8, 17, 27] [] Tryz.call86 Tryz.func86 rfl rfl (by kernel_rfl) (fun hpre => ?_)
  repeat' ((conv => whnf);first|(with_reducible first|rfl|exact absTF|exact absFT)|exact True.intro|intro _|refine And.intro ?_ ?_|refine Fin.mk ?_|refine W1 rfl ?_ ?_|refine W2 rfl ?_ ?_|refine W3 rfl ?_ ?_|refine W4 ?_ ?_|refine W5 rfl ?_ ?_|refine W6 ?_ ?_|refine AppN.mk ?_|refine X1 (W1 rfl ?_ ?_)|refine X1 (W2 rfl ?_ ?_)|refine X2 (W7 rfl ?_ ?_)|refine X3 (W7 rfl ?_ ?_)|refine X4 (W7 rfl ?_ ?_)|refine X5 (W7 rfl ?_ ?_))
  all_goals (try (conv => whnf))
  all_goals (try simp only [ZA,ZB,ZC,ZD,ZE,ZF,ZG,ZH,ZI,ZJ,ZK,ZL,ZM,ZN,ZO,Bool.and_eq_false_iff,Bool.or_eq_false_iff,ge_iff_le,gt_iff_lt,Int.toNat_natCast,UInt8.ofNat_toNat,cast_eq] at *)
  all_goals (first | rw [wrap8 _ (by omega)] | skip)
  all_goals (try first|exact Ob.mk (u8_bnd _)|(refine Ob.mk ?_;first|exact True.intro|assumption|omega|(try simp only [ZA,ZB,ZC,ZD,ZE,ZF,ZG,ZH,ZI,ZJ,ZK,ZL,ZM,ZN,ZO,Int.toNat_natCast,UInt8.ofNat_toNat,cast_eq] at *;omega)))
  all_goals (try first|(show (_:Int) = _;omega)|(show tupSV _ = _;with_unfolding_all rfl)|((first|show (_:Nat) ≤ _|show (_:Nat) ≤ _ ∧ (_:Nat) ≤ _|show (_:Int) ≤ _ ∧ (_:Int) ≤ _ ∧ (_:Int) ≤ _ ∧ (_:Int) ≤ _);(simp <;> omega)))
  all_goals (first | (show -9223372036854775808 ≤ _ ∧ _ ≤ (9223372036854775807:Int); omega) | skip)
  all_goals (unfold hexI)
  · rw [if_pos (by omega)]
  · rw [if_neg (by omega), if_pos (by omega)]; omega
  · rw [if_neg (by omega), if_neg (by omega), if_pos (by omega)]; omega
  · rw [if_neg (by omega), if_neg (by omega), if_neg (by omega)]
instance fPlain (c : Int) : Fn BB 68 [.int .u8 c] True (.bool (anI c)) := by
  refine Fn.intro (N := 13) [0, 2] [] Tryz.call68 Tryz.func68 rfl rfl (by kernel_rfl) (fun hpre => ?_)
  repeat' ((conv => whnf);first|(with_reducible first|rfl|exact absTF|exact absFT)|exact True.intro|intro _|refine And.intro ?_ ?_|refine Fin.mk ?_|refine W1 rfl ?_ ?_|refine W2 rfl ?_ ?_|refine W3 rfl ?_ ?_|refine W4 ?_ ?_|refine W5 rfl ?_ ?_|refine W6 ?_ ?_|refine AppN.mk ?_|refine X1 (W1 rfl ?_ ?_)|refine X1 (W2 rfl ?_ ?_)|refine X2 (W7 rfl ?_ ?_)|refine X3 (W7 rfl ?_ ?_)|refine X4 (W7 rfl ?_ ?_)|refine X5 (W7 rfl ?_ ?_))
  all_goals (try (conv => whnf))
  all_goals (try first|exact Ob.mk (u8_bnd _)|(refine Ob.mk ?_;first|exact True.intro|assumption|omega|(try simp only [ZA,ZB,ZC,ZD,ZE,ZF,ZG,ZH,ZI,ZJ,ZK,ZL,ZM,ZN,ZO,Int.toNat_natCast,UInt8.ofNat_toNat,cast_eq] at *;omega)))
  all_goals (try first|(show (_:Int) = _;omega)|(show tupSV _ = _;with_unfolding_all rfl)|((first|show (_:Nat) ≤ _|show (_:Nat) ≤ _ ∧ (_:Nat) ≤ _|show (_:Int) ≤ _ ∧ (_:Int) ≤ _ ∧ (_:Int) ≤ _ ∧ (_:Int) ≤ _);(simp <;> omega)))
  rfl
def okR (n : Int) : Bool := decide ((0 ≤ n ∧ n < 55296) ∨ (57343 < n ∧ n ≤ 1114111))
instance fVR (n : Int) : Fn BB 100 [.int .i32 n] True (.bool (okR n)) := by
  refine Fn.intro (N := 17) [0, 2, 3, 10] [] Tryz.call100 Tryz.func100 rfl rfl (by kernel_rfl) (fun hpre => ?_)
  repeat' ((conv => whnf);first|(with_reducible first|rfl|exact absTF|exact absFT)|exact True.intro|intro _|refine And.intro ?_ ?_|refine Fin.mk ?_|refine W1 rfl ?_ ?_|refine W2 rfl ?_ ?_|refine W3 rfl ?_ ?_|refine W4 ?_ ?_|refine W5 rfl ?_ ?_|refine W6 ?_ ?_|refine AppN.mk ?_|refine X1 (W1 rfl ?_ ?_)|refine X1 (W2 rfl ?_ ?_)|refine X2 (W7 rfl ?_ ?_)|refine X3 (W7 rfl ?_ ?_)|refine X4 (W7 rfl ?_ ?_)|refine X5 (W7 rfl ?_ ?_))
  all_goals (try (conv => whnf))
  all_goals (simp_all [okR]; try omega)
theorem enc_bad : ([239, 191, 189] : List UInt8) = (Utf8.encode 65533).data.toList := by decide
theorem enc_bad2 : (Utf8.encode (IntKind.i32.wrap 65533)).data.toList = (Utf8.encode 65533).data.toList := by decide
instance fEnc (n : Int) : Fn BB 78 [.int .i64 n] True (.str (encN n)) := by
  refine Fn.intro (N := 18) [0, 2, 14] [] Tryz.call78 Tryz.func78 rfl rfl (by kernel_rfl) (fun hpre => ?_)
  repeat' ((conv => whnf);first|(with_reducible first|rfl|exact absTF|exact absFT)|exact True.intro|intro _|refine And.intro ?_ ?_|refine Fin.mk ?_|refine W1 rfl ?_ ?_|refine W2 rfl ?_ ?_|refine W3 rfl ?_ ?_|refine W4 ?_ ?_|refine W5 rfl ?_ ?_|refine W6 ?_ ?_|refine AppN.mk ?_|refine X1 (W1 rfl ?_ ?_)|refine X1 (W2 rfl ?_ ?_)|refine X2 (W7 rfl ?_ ?_)|refine X3 (W7 rfl ?_ ?_)|refine X4 (W7 rfl ?_ ?_)|refine X5 (W7 rfl ?_ ?_))
  all_goals (try (conv => whnf))
  all_goals (try first|exact Ob.mk (u8_bnd _)|(refine Ob.mk ?_;first|exact True.intro|assumption|omega|(try simp only [ZA,ZB,ZC,ZD,ZE,ZF,ZG,ZH,ZI,ZJ,ZK,ZL,ZM,ZN,ZO,Int.toNat_natCast,UInt8.ofNat_toNat,cast_eq] at *;omega)))
  all_goals (try first|(show (_:Int) = _;omega)|(show tupSV _ = _;with_unfolding_all rfl)|((first|show (_:Nat) ≤ _|show (_:Nat) ≤ _ ∧ (_:Nat) ≤ _|show (_:Int) ≤ _ ∧ (_:Int) ≤ _ ∧ (_:Int) ≤ _ ∧ (_:Int) ≤ _);(simp <;> omega)))
  all_goals (try simp only [ZA,ZB,ZC,ZD,ZE,ZF,ZG,ZH,ZI,ZJ,ZK,ZL,ZM,ZN,ZO,Bool.and_eq_false_iff,Bool.or_eq_false_iff,ge_iff_le,gt_iff_lt,Int.toNat_natCast,UInt8.ofNat_toNat,cast_eq] at *)
  · rename_i h
    have : n < 0 ∨ n > 1114111 ∨ (55296 ≤ n ∧ n ≤ 57343) := by
      rcases h with (h | h) | h
      · exact .inl h
      · exact .inr (.inl h)
      · by_cases h1 : n < 0 ∨ n > 1114111
        · omega
        · rw [wrap32 n (by omega)] at h
          simp only [okR, decide_eq_false_iff_not] at h
          omega
    unfold encN
    rw [if_pos this, enc_bad]
  · rename_i h
    obtain ⟨⟨h1, h2⟩, h3⟩ := h
    rw [wrap32 n (by omega)] at h3 ⊢
    simp only [okR, decide_eq_true_eq] at h3
    unfold encN
    rw [if_neg (by omega)]
instance fREnc (n : Int) : Fn BB 89 [.int .i64 n] True (.str (encN n)) := by
  refine Fn.intro (N := 20) [0, 2, 16] [] Tryz.call89 Tryz.func89 rfl rfl (by kernel_rfl) (fun hpre => ?_)
  repeat' ((conv => whnf);first|(with_reducible first|rfl|exact absTF|exact absFT)|exact True.intro|intro _|refine And.intro ?_ ?_|refine Fin.mk ?_|refine W1 rfl ?_ ?_|refine W2 rfl ?_ ?_|refine W3 rfl ?_ ?_|refine W4 ?_ ?_|refine W5 rfl ?_ ?_|refine W6 ?_ ?_|refine AppN.mk ?_|refine X1 (W1 rfl ?_ ?_)|refine X1 (W2 rfl ?_ ?_)|refine X2 (W7 rfl ?_ ?_)|refine X3 (W7 rfl ?_ ?_)|refine X4 (W7 rfl ?_ ?_)|refine X5 (W7 rfl ?_ ?_))
  all_goals (try (conv => whnf))
  all_goals (try first|exact Ob.mk (u8_bnd _)|(refine Ob.mk ?_;first|exact True.intro|assumption|omega|(try simp only [ZA,ZB,ZC,ZD,ZE,ZF,ZG,ZH,ZI,ZJ,ZK,ZL,ZM,ZN,ZO,Int.toNat_natCast,UInt8.ofNat_toNat,cast_eq] at *;omega)))
  all_goals (try first|(show (_:Int) = _;omega)|(show tupSV _ = _;with_unfolding_all rfl)|((first|show (_:Nat) ≤ _|show (_:Nat) ≤ _ ∧ (_:Nat) ≤ _|show (_:Int) ≤ _ ∧ (_:Int) ≤ _ ∧ (_:Int) ≤ _ ∧ (_:Int) ≤ _);(simp <;> omega)))
  all_goals (try simp only [ZA,ZB,ZC,ZD,ZE,ZF,ZG,ZH,ZI,ZJ,ZK,ZL,ZM,ZN,ZO,Bool.and_eq_false_iff,Bool.or_eq_false_iff,ge_iff_le,gt_iff_lt,Int.toNat_natCast,UInt8.ofNat_toNat,cast_eq] at *)
  · unfold encN
    rw [if_pos (by omega), enc_bad2]
  · unfold encN
    rw [if_neg (by omega), wrap32 n (by omega)]
instance fShort (s : List UInt8) : Fn BB 76 [.str s] True (.int .i64 (lookT shortTab s)) := by
  refine Fn.intro (N := 50) [0, 2, 3, 4, 7, 10, 13, 16, 18, 20, 22, 24, 26, 28, 30, 32, 34, 36, 38, 40, 42, 44, 46, 48] [] Tryz.call76 Tryz.func76 rfl rfl (by kernel_rfl) (fun hpre => ?_)
  repeat' ((conv => whnf);first|(with_reducible first|rfl|exact absTF|exact absFT)|exact True.intro|intro _|refine And.intro ?_ ?_|refine Fin.mk ?_|refine W1 rfl ?_ ?_|refine W2 rfl ?_ ?_|refine W3 rfl ?_ ?_|refine W4 ?_ ?_|refine W5 rfl ?_ ?_|refine W6 ?_ ?_|refine AppN.mk ?_|refine X1 (W1 rfl ?_ ?_)|refine X1 (W2 rfl ?_ ?_)|refine X2 (W7 rfl ?_ ?_)|refine X3 (W7 rfl ?_ ?_)|refine X4 (W7 rfl ?_ ?_)|refine X5 (W7 rfl ?_ ?_))
  all_goals (try (conv => whnf))
  all_goals (simp only [lookT, shortTab, List.find?_cons, List.find?_nil, Bool.or_eq_true, Bool.or_eq_false_iff, *])
  all_goals (exfalso; simp_all; done)
instance fLong (s : List UInt8) : Fn BB 77 [.str s] True (.int .i64 (lookT longTab s)) := by
  refine Fn.intro (N := 76) [0, 2, 3, 4, 6, 8, 10, 12, 14, 16, 18, 20, 22, 24, 26, 28, 30, 32, 34, 36, 38, 40, 42, 44, 46, 48, 50, 52, 54, 56, 58, 60, 62, 64, 66, 68, 70, 72, 74] [] Tryz.call77 Tryz.func77 rfl rfl (by kernel_rfl) (fun hpre => ?_)
  repeat' ((conv => whnf);first|(with_reducible first|rfl|exact absTF|exact absFT)|exact True.intro|intro _|refine And.intro ?_ ?_|refine Fin.mk ?_|refine W1 rfl ?_ ?_|refine W2 rfl ?_ ?_|refine W3 rfl ?_ ?_|refine W4 ?_ ?_|refine W5 rfl ?_ ?_|refine W6 ?_ ?_|refine AppN.mk ?_|refine X1 (W1 rfl ?_ ?_)|refine X1 (W2 rfl ?_ ?_)|refine X2 (W7 rfl ?_ ?_)|refine X3 (W7 rfl ?_ ?_)|refine X4 (W7 rfl ?_ ?_)|refine X5 (W7 rfl ?_ ?_))
  all_goals (try (conv => whnf))
  all_goals (simp only [lookT, longTab, List.find?_cons, List.find?_nil, *])
end Go.Vc

/-
  DERIVED: THE SHELF's CONTRACTS AT THIS DUMP, IN PLAIN WORDS (tools/lay-plain.mjs out of 'TryzShelf.lean', which tools/lay-shelf.mjs wrote): THE SAME DECLARATIONS UNDER THE SAME NAMES: 'import', 'namespace', 'open', 'def', 'theorem' AND NOTHING ELSE: no command of the shelf's: FOR A HAND-IN. Each laying: the table of numbers ('.._ren') and one theorem, a field a fact of the dump's own or the kernel's comparison; each contract: ONE APPLICATION.
-/
namespace Go.Proofs
open Go.Shelf
def Tryz.lays161_ren : Go.Shelf.Ren := ⟨fun | 161 => 106 | 231 => 113 | 227 => 114 | 233 => 115 | 235 => 116 | 228 => 119 | 197 => 122 | 151 => 123 | 260 => 124 | 152 => 117 | 137 => 47 | 119 => 100 | 224 => 96 | 225 => 95 | 217 => 79 | 266 => 101 | n => n, fun | 9 => 9 | 4 => 4 | 3 => 3 | 5 => 5 | 117 => 105 | 116 => 104 | 0 => 0 | 124 => 108 | 105 => 110 | 21 => 21 | 119 => 113 | 46 => 90 | 139 => 116 | 138 => 115 | n => n, fun | 3 => 1 | 4 => 2 | n => n⟩
theorem Tryz.lays161 : Go.Proofs.Lays.n161 Tryz.prog Tryz.lays161_ren := {
  mixed := by kernel_rfl
  f119 := Tryz.func100.trans (congrArg some (by kernel_rfl))
  f137 := Tryz.func47.trans (congrArg some (by kernel_rfl))
  f151 := Tryz.func123.trans (congrArg some (by kernel_rfl))
  f152 := Tryz.func117.trans (congrArg some (by kernel_rfl))
  f161 := Tryz.func106.trans (congrArg some (by kernel_rfl))
  f197 := Tryz.func122.trans (congrArg some (by kernel_rfl))
  f217 := Tryz.func79.trans (congrArg some (by kernel_rfl))
  f224 := Tryz.func96.trans (congrArg some (by kernel_rfl))
  f225 := Tryz.func95.trans (congrArg some (by kernel_rfl))
  f227 := Tryz.func114.trans (congrArg some (by kernel_rfl))
  f228 := Tryz.func119.trans (congrArg some (by kernel_rfl))
  f231 := Tryz.func113.trans (congrArg some (by kernel_rfl))
  f233 := Tryz.func115.trans (congrArg some (by kernel_rfl))
  f235 := Tryz.func116.trans (congrArg some (by kernel_rfl))
  f260 := Tryz.func124.trans (congrArg some (by kernel_rfl))
  f266 := Tryz.func101.trans (congrArg some (by kernel_rfl))
  t0 := Tryz.underlying0
  a0 := Tryz.isAgg0
  z0 := Tryz.sizeOf0
  v0 := Tryz.zeroValue0
  t3 := Tryz.underlying3
  a3 := Tryz.isAgg3
  z3 := Tryz.sizeOf3
  v3 := Tryz.zeroValue3
  t4 := Tryz.underlying4
  a4 := Tryz.isAgg4
  z4 := Tryz.sizeOf4
  v4 := Tryz.zeroValue4
  t5 := Tryz.underlying5
  a5 := Tryz.isAgg5
  z5 := Tryz.sizeOf5
  v5 := Tryz.zeroValue5
  t9 := Tryz.underlying9
  a9 := Tryz.isAgg9
  z9 := Tryz.sizeOf9
  v9 := Tryz.zeroValue9
  t21 := Tryz.underlying21
  a21 := Tryz.isAgg21
  z21 := Tryz.sizeOf21
  v21 := Tryz.zeroValue21
  t46 := Tryz.underlying90
  a46 := Tryz.isAgg90
  z46 := Tryz.sizeOf90
  v46 := Tryz.zeroValue90
  t105 := Tryz.underlying110
  a105 := Tryz.isAgg110
  z105 := Tryz.sizeOf110
  v105 := Tryz.zeroValue110
  t116 := Tryz.underlying104
  a116 := Tryz.isAgg104
  z116 := Tryz.sizeOf104
  t117 := Tryz.underlying105
  a117 := Tryz.isAgg105
  z117 := Tryz.sizeOf105
  v117 := Tryz.zeroValue105
  t119 := Tryz.underlying113
  a119 := Tryz.isAgg113
  z119 := Tryz.sizeOf113
  t124 := Tryz.underlying108
  a124 := Tryz.isAgg108
  z124 := Tryz.sizeOf108
  v124 := Tryz.zeroValue108
  t138 := Tryz.underlying115
  a138 := Tryz.isAgg115
  z138 := Tryz.sizeOf115
  v138 := Tryz.zeroValue115
  t139 := Tryz.underlying116
  a139 := Tryz.isAgg116
  z139 := Tryz.sizeOf116
  v139 := Tryz.zeroValue116
  g3 := by kernel_rfl
  g4 := by kernel_rfl }
def Tryz.lays137_ren : Go.Shelf.Ren := ⟨fun | 137 => 47 | 217 => 79 | 266 => 101 | n => n, fun | 9 => 9 | 5 => 5 | 3 => 3 | n => n, fun | n => n⟩
theorem Tryz.lays137 : Go.Proofs.Lays.n137 Tryz.prog Tryz.lays137_ren := {
  mixed := by kernel_rfl
  f137 := Tryz.func47.trans (congrArg some (by kernel_rfl))
  f217 := Tryz.func79.trans (congrArg some (by kernel_rfl))
  f266 := Tryz.func101.trans (congrArg some (by kernel_rfl))
  t3 := Tryz.underlying3
  a3 := Tryz.isAgg3
  z3 := Tryz.sizeOf3
  v3 := Tryz.zeroValue3
  t5 := Tryz.underlying5
  a5 := Tryz.isAgg5
  z5 := Tryz.sizeOf5
  v5 := Tryz.zeroValue5
  t9 := Tryz.underlying9
  a9 := Tryz.isAgg9
  z9 := Tryz.sizeOf9
  v9 := Tryz.zeroValue9 }
open Go.RowKit in
theorem Tryz.strings_IndexByte (s : ByteArray) (c : Int) (w : World) :
    Calls Tryz.prog 47 #[.string s, .int .u8 c] w fun e w' => e = .returned (.int .i64 (Lib.indexByte s.data.toList c.toNat.toUInt8)) ∧ w' = w := Any.strings_IndexByte Tryz.lays137 s c w
def Tryz.lays219_ren : Go.Shelf.Ren := ⟨fun | 219 => 72 | 217 => 79 | 225 => 95 | 224 => 96 | 267 => 97 | 266 => 101 | 314 => 108 | n => n, fun | 9 => 9 | 3 => 3 | 4 => 4 | 5 => 5 | 46 => 90 | 146 => 98 | 51 => 97 | n => n, fun | 1 => 0 | n => n⟩
def Tryz.lays143_ren : Go.Shelf.Ren := ⟨fun | 143 => 39 | 219 => 72 | 217 => 79 | 225 => 95 | 224 => 96 | 267 => 97 | 266 => 101 | 314 => 108 | n => n, fun | 9 => 9 | 3 => 3 | 4 => 4 | 5 => 5 | 46 => 90 | 146 => 98 | 51 => 97 | n => n, fun | 1 => 0 | n => n⟩
theorem Tryz.lays143 : Go.Proofs.Lays.n143 Tryz.prog Tryz.lays143_ren := {
  mixed := by kernel_rfl
  f143 := Tryz.func39.trans (congrArg some (by kernel_rfl))
  f217 := Tryz.func79.trans (congrArg some (by kernel_rfl))
  f219 := Tryz.func72.trans (congrArg some (by kernel_rfl))
  f224 := Tryz.func96.trans (congrArg some (by kernel_rfl))
  f225 := Tryz.func95.trans (congrArg some (by kernel_rfl))
  f266 := Tryz.func101.trans (congrArg some (by kernel_rfl))
  f267 := Tryz.func97.trans (congrArg some (by kernel_rfl))
  f314 := Tryz.func108.trans (congrArg some (by kernel_rfl))
  t3 := Tryz.underlying3
  a3 := Tryz.isAgg3
  z3 := Tryz.sizeOf3
  v3 := Tryz.zeroValue3
  t4 := Tryz.underlying4
  a4 := Tryz.isAgg4
  z4 := Tryz.sizeOf4
  v4 := Tryz.zeroValue4
  t5 := Tryz.underlying5
  a5 := Tryz.isAgg5
  z5 := Tryz.sizeOf5
  v5 := Tryz.zeroValue5
  t9 := Tryz.underlying9
  a9 := Tryz.isAgg9
  z9 := Tryz.sizeOf9
  v9 := Tryz.zeroValue9
  t46 := Tryz.underlying90
  a46 := Tryz.isAgg90
  z46 := Tryz.sizeOf90
  v46 := Tryz.zeroValue90
  t51 := Tryz.underlying97
  a51 := Tryz.isAgg97
  z51 := Tryz.sizeOf97
  v51 := Tryz.zeroValue97
  t146 := Tryz.underlying98
  a146 := Tryz.isAgg98
  z146 := Tryz.sizeOf98
  v146 := Tryz.zeroValue98
  g1 := by kernel_rfl }
open Go.RowKit Go.Lib in
theorem Tryz.strings_Index (s sub : ByteArray) (m : Int) (w : World) (hs : s.size < 4294967281) (hm : w.cell? ⟨0, 0, none⟩ = some (.int .i64 m)) :
    Calls Tryz.prog 39 #[.string s, .string sub] w fun e w' => e = .returned (.int .i64 (Lib.index s.data.toList sub.data.toList)) ∧ w' = w := Any.strings_Index Tryz.lays143 s sub m w hs hm
def Tryz.laysM143_ren : Go.Shelf.Ren := ⟨fun | 143 => 39 | 219 => 72 | 217 => 79 | 225 => 95 | 224 => 96 | 267 => 97 | 266 => 101 | 314 => 108 | n => n, fun | 9 => 9 | 3 => 3 | 4 => 4 | 5 => 5 | 46 => 90 | 146 => 98 | 51 => 97 | n => n, fun | 1 => 0 | n => n⟩
theorem Tryz.laysM143 : Go.Proofs.LaysM.n143 Tryz.prog Tryz.laysM143_ren := {
  mixed := by kernel_rfl
  f143 := Tryz.func39.trans (congrArg some (by kernel_rfl))
  f217 := Tryz.func79.trans (congrArg some (by kernel_rfl))
  f219 := Tryz.func72.trans (congrArg some (by kernel_rfl))
  f224 := Tryz.func96.trans (congrArg some (by kernel_rfl))
  f225 := Tryz.func95.trans (congrArg some (by kernel_rfl))
  f266 := Tryz.func101.trans (congrArg some (by kernel_rfl))
  f267 := Tryz.func97.trans (congrArg some (by kernel_rfl))
  f314 := Tryz.func108.trans (congrArg some (by kernel_rfl))
  t3 := Tryz.underlying3
  a3 := Tryz.isAgg3
  z3 := Tryz.sizeOf3
  v3 := Tryz.zeroValue3
  t4 := Tryz.underlying4
  a4 := Tryz.isAgg4
  z4 := Tryz.sizeOf4
  v4 := Tryz.zeroValue4
  t5 := Tryz.underlying5
  a5 := Tryz.isAgg5
  z5 := Tryz.sizeOf5
  v5 := Tryz.zeroValue5
  t9 := Tryz.underlying9
  a9 := Tryz.isAgg9
  z9 := Tryz.sizeOf9
  v9 := Tryz.zeroValue9
  t46 := Tryz.underlying90
  a46 := Tryz.isAgg90
  z46 := Tryz.sizeOf90
  v46 := Tryz.zeroValue90
  t51 := Tryz.underlying97
  a51 := Tryz.isAgg97
  z51 := Tryz.sizeOf97
  v51 := Tryz.zeroValue97
  t146 := Tryz.underlying98
  a146 := Tryz.isAgg98
  z146 := Tryz.sizeOf98
  v146 := Tryz.zeroValue98
  g1 := by kernel_rfl
  i3 := by kernel_rfl
  i4 := by kernel_rfl
  i5 := by kernel_rfl
  i9 := by kernel_rfl
  i46 := by kernel_rfl
  i51 := by kernel_rfl
  i146 := by kernel_rfl
  m1 := by kernel_rfl
  s1_3 := fun w h => Go.Proofs.cell_of_shapedOpen_int (zero := #[.int .i64 0]) (t := 3) h (of_decide_eq_true (by kernel_rfl)) (by kernel_rfl) rfl (by kernel_rfl) (by kernel_rfl) Tryz.underlying3 }
def Tryz.lays153_ren : Go.Shelf.Ren := ⟨fun | 153 => 107 | 152 => 117 | 226 => 118 | 227 => 114 | 228 => 119 | 137 => 47 | 119 => 100 | 224 => 96 | 225 => 95 | 217 => 79 | 266 => 101 | n => n, fun | 9 => 9 | 3 => 3 | 4 => 4 | 5 => 5 | 21 => 21 | 117 => 105 | 116 => 104 | 0 => 0 | 46 => 90 | 124 => 108 | n => n, fun | n => n⟩
theorem Tryz.lays153 : Go.Proofs.Lays.n153 Tryz.prog Tryz.lays153_ren := {
  mixed := by kernel_rfl
  f119 := Tryz.func100.trans (congrArg some (by kernel_rfl))
  f137 := Tryz.func47.trans (congrArg some (by kernel_rfl))
  f152 := Tryz.func117.trans (congrArg some (by kernel_rfl))
  f153 := Tryz.func107.trans (congrArg some (by kernel_rfl))
  f217 := Tryz.func79.trans (congrArg some (by kernel_rfl))
  f224 := Tryz.func96.trans (congrArg some (by kernel_rfl))
  f225 := Tryz.func95.trans (congrArg some (by kernel_rfl))
  f226 := Tryz.func118.trans (congrArg some (by kernel_rfl))
  f227 := Tryz.func114.trans (congrArg some (by kernel_rfl))
  f228 := Tryz.func119.trans (congrArg some (by kernel_rfl))
  f266 := Tryz.func101.trans (congrArg some (by kernel_rfl))
  t0 := Tryz.underlying0
  a0 := Tryz.isAgg0
  z0 := Tryz.sizeOf0
  v0 := Tryz.zeroValue0
  t3 := Tryz.underlying3
  a3 := Tryz.isAgg3
  z3 := Tryz.sizeOf3
  v3 := Tryz.zeroValue3
  t4 := Tryz.underlying4
  a4 := Tryz.isAgg4
  z4 := Tryz.sizeOf4
  v4 := Tryz.zeroValue4
  t5 := Tryz.underlying5
  a5 := Tryz.isAgg5
  z5 := Tryz.sizeOf5
  v5 := Tryz.zeroValue5
  t9 := Tryz.underlying9
  a9 := Tryz.isAgg9
  z9 := Tryz.sizeOf9
  v9 := Tryz.zeroValue9
  t21 := Tryz.underlying21
  a21 := Tryz.isAgg21
  z21 := Tryz.sizeOf21
  v21 := Tryz.zeroValue21
  t46 := Tryz.underlying90
  a46 := Tryz.isAgg90
  z46 := Tryz.sizeOf90
  v46 := Tryz.zeroValue90
  t116 := Tryz.underlying104
  a116 := Tryz.isAgg104
  z116 := Tryz.sizeOf104
  t117 := Tryz.underlying105
  a117 := Tryz.isAgg105
  z117 := Tryz.sizeOf105
  v117 := Tryz.zeroValue105
  t124 := Tryz.underlying108
  a124 := Tryz.isAgg108
  z124 := Tryz.sizeOf108
  v124 := Tryz.zeroValue108 }
open Go.RowKit Go.Lib in
theorem Tryz.strings_IndexAny_long (hv116 : ∀ w, (zeroValue 104).run Tryz.prog w = .ok (.agg (Array.replicate 256 (.bool false))) w) (s chars : ByteArray) (w : World) (h2 : 2 ≤ chars.size) (h8 : 8 < s.size) (hs : s.size < 4294967281) (hcs : chars.size < 4294967281) (hascii : ∀ (j : Nat) b, chars.data.toList[j]? = some b → b.toNat < 128) :
    Calls Tryz.prog 107 #[.string s, .string chars] w fun e w' => e = .returned (.int .i64 (Lib.indexAny s.data.toList chars.data.toList)) ∧ w' = ((w.alloc (.cells (Lib.setCells chars.data.toList) 104)).alloc (.cells (Lib.setCells chars.data.toList) 104)) := Any.strings_IndexAny_long Tryz.lays153 hv116 (by kernel_rfl) s chars w h2 h8 hs hcs hascii
def Tryz.lays260_ren : Go.Shelf.Ren := ⟨fun | 260 => 124 | n => n, fun | 9 => 9 | 21 => 21 | 3 => 3 | 4 => 4 | 5 => 5 | 119 => 113 | 0 => 0 | 46 => 90 | 139 => 116 | 138 => 115 | n => n, fun | 3 => 1 | 4 => 2 | n => n⟩
theorem Tryz.lays260 : Go.Proofs.Lays.n260 Tryz.prog Tryz.lays260_ren := {
  mixed := by kernel_rfl
  f260 := Tryz.func124.trans (congrArg some (by kernel_rfl))
  t0 := Tryz.underlying0
  a0 := Tryz.isAgg0
  z0 := Tryz.sizeOf0
  v0 := Tryz.zeroValue0
  t3 := Tryz.underlying3
  a3 := Tryz.isAgg3
  z3 := Tryz.sizeOf3
  v3 := Tryz.zeroValue3
  t4 := Tryz.underlying4
  a4 := Tryz.isAgg4
  z4 := Tryz.sizeOf4
  v4 := Tryz.zeroValue4
  t5 := Tryz.underlying5
  a5 := Tryz.isAgg5
  z5 := Tryz.sizeOf5
  v5 := Tryz.zeroValue5
  t9 := Tryz.underlying9
  a9 := Tryz.isAgg9
  z9 := Tryz.sizeOf9
  v9 := Tryz.zeroValue9
  t21 := Tryz.underlying21
  a21 := Tryz.isAgg21
  z21 := Tryz.sizeOf21
  v21 := Tryz.zeroValue21
  t46 := Tryz.underlying90
  a46 := Tryz.isAgg90
  z46 := Tryz.sizeOf90
  v46 := Tryz.zeroValue90
  t119 := Tryz.underlying113
  a119 := Tryz.isAgg113
  z119 := Tryz.sizeOf113
  t138 := Tryz.underlying115
  a138 := Tryz.isAgg115
  z138 := Tryz.sizeOf115
  v138 := Tryz.zeroValue115
  t139 := Tryz.underlying116
  a139 := Tryz.isAgg116
  z139 := Tryz.sizeOf116
  v139 := Tryz.zeroValue116
  g3 := by kernel_rfl
  g4 := by kernel_rfl }
end Go.Proofs

namespace Go.Vc
open Go.Proofs
set_option maxRecDepth 10000
instance fIB (s : List UInt8) (c : Int) : Fn BB 47 [.str s, .int .u8 c] True (.int .i64 (Lib.indexByte s c.toNat.toUInt8)) := by
  refine ⟨Tryz.call47, fun _ r β w vs hG m hl => ?_⟩
  obtain ⟨v1, vs1, rfl, h1, hl⟩ := hl.uncons
  obtain ⟨v2, vs2, rfl, h2, hl⟩ := hl.uncons
  obtain rfl := hl.nil_inv
  cases h1; cases h2
  refine (Tryz.strings_IndexByte ⟨s.toArray⟩ c w).mono fun e w' hh => ?_
  obtain ⟨rfl, rfl⟩ := hh
  exact ⟨_, _, r, β, [], rfl, ⟨rfl, rfl⟩, by simpa using (Rel.int), m, Mem.le_refl r, Hid.refl ..⟩
def hexIx (c : Int) : Int := Lib.indexByte [48, 49, 50, 51, 52, 53, 54, 55, 56, 57, 97, 98, 99, 100, 101, 102, 48, 49, 50, 51, 52, 53, 54, 55, 56, 57, 65, 66, 67, 68, 69, 70] c.toNat.toUInt8
theorem hexAt (c : Int) (h : 0 ≤ c ∧ c ≤ 255) : (if hexIx c < 0 then -1 else bitsI .and .i64 (hexIx c) 15) = hexI c := by
  have key : ∀ k : _root_.Fin 256, (if hexIx (k.val : Int) < 0 then -1 else bitsI .and .i64 (hexIx (k.val : Int)) 15) = hexI (k.val : Int) := by decide +kernel
  have := key ⟨c.toNat, by omega⟩
  have e : ((c.toNat : Nat) : Int) = c := by omega
  simp only [e] at this
  exact this
instance fHex (c : Int) : Fn BB 98 [.int .u8 c] (0 ≤ c ∧ c ≤ 255) (.int .i64 (hexI c)) := by
  refine Fn.intro (N := 10) [0, 2, 3, 7] [] Tryz.call98 Tryz.func98 rfl rfl (by kernel_rfl) (fun hpre => ?_)
  have hx := hexAt c hpre
  repeat' ((conv => whnf);first|(with_reducible first|rfl|exact absTF|exact absFT)|exact True.intro|intro _|refine And.intro ?_ ?_|refine Fin.mk ?_|refine W1 rfl ?_ ?_|refine W2 rfl ?_ ?_|refine W3 rfl ?_ ?_|refine W4 ?_ ?_|refine W5 rfl ?_ ?_|refine W6 ?_ ?_|refine AppN.mk ?_|refine X1 (W1 rfl ?_ ?_)|refine X1 (W2 rfl ?_ ?_)|refine X2 (W7 rfl ?_ ?_)|refine X3 (W7 rfl ?_ ?_)|refine X4 (W7 rfl ?_ ?_)|refine X5 (W7 rfl ?_ ?_))
  all_goals (try (conv => whnf))
  all_goals (try first|exact Ob.mk (u8_bnd _)|(refine Ob.mk ?_;first|exact True.intro|assumption|omega|(try simp only [ZA,ZB,ZC,ZD,ZE,ZF,ZG,ZH,ZI,ZJ,ZK,ZL,ZM,ZN,ZO,Int.toNat_natCast,UInt8.ofNat_toNat,cast_eq] at *;omega)))
  all_goals (try first|(show (_:Int) = _;omega)|(show tupSV _ = _;with_unfolding_all rfl)|((first|show (_:Nat) ≤ _|show (_:Nat) ≤ _ ∧ (_:Nat) ≤ _|show (_:Int) ≤ _ ∧ (_:Int) ≤ _ ∧ (_:Int) ≤ _ ∧ (_:Int) ≤ _);(simp <;> omega)))
  · have h : hexIx c < 0 := by simpa using ‹decide _ = true›
    rw [if_pos h] at hx; exact hx
  · have h : ¬ hexIx c < 0 := by rename_i h; exact of_decide_eq_false h
    rw [if_neg h] at hx; exact hx
instance fWin : Fn BB 99 [] True (.agg (winTab.map (SV.int .i64))) := by
  refine Fn.intro (N := 2) [0] [] Tryz.call99 Tryz.func99 rfl rfl (by kernel_rfl) (fun hpre => ?_)
  repeat' ((conv => whnf);first|(with_reducible first|rfl|exact absTF|exact absFT)|exact True.intro|intro _|refine And.intro ?_ ?_|refine Fin.mk ?_|refine W1 rfl ?_ ?_|refine W2 rfl ?_ ?_|refine W3 rfl ?_ ?_|refine W4 ?_ ?_|refine W5 rfl ?_ ?_|refine W6 ?_ ?_|refine AppN.mk ?_|refine X1 (W1 rfl ?_ ?_)|refine X1 (W2 rfl ?_ ?_)|refine X2 (W7 rfl ?_ ?_)|refine X3 (W7 rfl ?_ ?_)|refine X4 (W7 rfl ?_ ?_)|refine X5 (W7 rfl ?_ ?_))
  all_goals (try (conv => whnf))
  all_goals trace_state
instance fNumd (n : Int) : Fn BB 75 [.int .i64 n] True (.str (numF n)) := by
  refine Fn.intro (N := 21) [0, 2, 3, 9, 15, 18] [] Tryz.call75 Tryz.func75 rfl rfl (by kernel_rfl) (fun hpre => ?_)
  repeat' ((conv => whnf);first|(with_reducible first|rfl|exact absTF|exact absFT)|exact True.intro|intro _|refine And.intro ?_ ?_|refine Fin.mk ?_|refine W1 rfl ?_ ?_|refine W2 rfl ?_ ?_|refine W3 rfl ?_ ?_|refine W4 ?_ ?_|refine W5 rfl ?_ ?_|refine W6 ?_ ?_|refine AppN.mk ?_|refine X1 (W1 rfl ?_ ?_)|refine X1 (W2 rfl ?_ ?_)|refine X2 (W7 rfl ?_ ?_)|refine X3 (W7 rfl ?_ ?_)|refine X4 (W7 rfl ?_ ?_)|refine X5 (W7 rfl ?_ ?_))
  all_goals (try (conv => whnf))
  all_goals (try first|exact Ob.mk (u8_bnd _)|(refine Ob.mk ?_;first|exact True.intro|assumption|omega|(try simp only [ZA,ZB,ZC,ZD,ZE,ZF,ZG,ZH,ZI,ZJ,ZK,ZL,ZM,ZN,ZO,Int.toNat_natCast,UInt8.ofNat_toNat,cast_eq] at *;omega)))
  all_goals (try first|(show (_:Int) = _;omega)|(show tupSV _ = _;with_unfolding_all rfl)|((first|show (_:Nat) ≤ _|show (_:Nat) ≤ _ ∧ (_:Nat) ≤ _|show (_:Int) ≤ _ ∧ (_:Int) ≤ _ ∧ (_:Int) ≤ _ ∧ (_:Int) ≤ _);(simp <;> omega)))
  all_goals (try simp only [ZA,ZB,ZC,ZD,ZE,ZF,ZG,ZH,ZI,ZJ,ZK,ZL,ZM,ZN,ZO,Bool.and_eq_false_iff,Bool.or_eq_false_iff,ge_iff_le,gt_iff_lt,Int.toNat_natCast,UInt8.ofNat_toNat,cast_eq] at *)
  all_goals (unfold numF numW winTab)
  all_goals (generalize ([8364, 0, 8218, 402, 8222, 8230, 8224, 8225, 710, 8240, 352, 8249, 338, 0, 381, 0, 0, 8216, 8217, 8220, 8221, 8226, 8211, 8212, 732, 8482, 353, 8250, 339, 0, 382, 376] : List Int).getD (n - 128).toNat 0 = W at *)
  all_goals (congr 1; (repeat' split) <;> omega)
theorem ended_eq (s : List UInt8) : (decide ((s.length : Int) > 0) && ((s.getD ((s.length : Int) - 1).toNat 0).toNat : Int) == 59) = endedOf s := by
  unfold endedOf
  have e : ((s.length : Int) - 1).toNat = s.length - 1 := by omega
  rw [e]
  congr 1
  · simp
  · generalize s.getD (s.length - 1) 0 = c
    rw [Bool.eq_iff_iff, beq_iff_eq, beq_iff_eq]
    constructor
    · intro h; exact UInt8.toNat_inj.1 (by show c.toNat = 59; omega)
    · rintro rfl; rfl
theorem bare_t {s : List UInt8} (h : endedOf s = true) : s.take ((s.length : Int) - 1).toNat = bareOf s := by
  unfold bareOf
  rw [if_pos h]
  congr 1; omega
instance fNamed (s : List UInt8) : Fn BB 44 [.str s] True (.tup [.str (named s).1, .bool (named s).2]) := by
  refine Fn.intro (N := 37) [0, 2, 3, 4, 5, 6, 7, 19, 30, 34] [] Tryz.call44 Tryz.func44 rfl rfl (by kernel_rfl) (fun hpre => ?_)
  have hb := bare_t (s := s)
  have hn := bare_not (name := s)
  repeat' ((conv => whnf);first|(with_reducible first|rfl|exact absTF|exact absFT)|exact True.intro|intro _|refine And.intro ?_ ?_|refine Fin.mk ?_|refine W1 rfl ?_ ?_|refine W2 rfl ?_ ?_|refine W3 rfl ?_ ?_|refine W4 ?_ ?_|refine W5 rfl ?_ ?_|refine W6 ?_ ?_|refine AppN.mk ?_|refine X1 (W1 rfl ?_ ?_)|refine X1 (W2 rfl ?_ ?_)|refine X2 (W7 rfl ?_ ?_)|refine X3 (W7 rfl ?_ ?_)|refine X4 (W7 rfl ?_ ?_)|refine X5 (W7 rfl ?_ ?_))
  all_goals (try (conv => whnf))
  all_goals (try first|exact Ob.mk (u8_bnd _)|(refine Ob.mk ?_;first|exact True.intro|assumption|omega|(try simp only [ZA,ZB,ZC,ZD,ZE,ZF,ZG,ZH,ZI,ZJ,ZK,ZL,ZM,ZN,ZO,Int.toNat_natCast,UInt8.ofNat_toNat,cast_eq] at *;omega)))
  all_goals (try first|(show (_:Int) = _;omega)|(show tupSV _ = _;with_unfolding_all rfl)|((first|show (_:Nat) ≤ _|show (_:Nat) ≤ _ ∧ (_:Nat) ≤ _|show (_:Int) ≤ _ ∧ (_:Int) ≤ _ ∧ (_:Int) ≤ _ ∧ (_:Int) ≤ _);(simp <;> omega)))
  all_goals (simp only [ended_eq] at *)
  all_goals (first | (rw [hb ‹_›] at *) | skip)
  all_goals (unfold named namedN)
  all_goals (simp_all)
theorem refTab_len : refTab.length = 61 := by decide
theorem refTab_good : ∀ e ∈ refTab, 0 < e.1.length ∧ e.1.length ≤ 8 := by decide
def rtN (i : Nat) : List UInt8 := (refTab.map (·.1)).getD i []
theorem rt_at {i : Nat} (h : i < 61) : refTab.drop i = (rtN i, (refTab.map (·.2)).getD i 0) :: refTab.drop (i + 1) := by
  have hl : i < refTab.length := by rw [refTab_len]; exact h
  rw [List.drop_eq_getElem_cons hl]
  congr 1
  simp [rtN, List.getD, List.getElem?_eq_getElem hl]
theorem rt_good {i : Nat} (h : i < 61) : 0 < (rtN i).length ∧ (rtN i).length ≤ 8 := by
  have hl : i < refTab.length := by rw [refTab_len]; exact h
  have := refTab_good refTab[i] (by simp)
  simpa [rtN, List.getD, List.getElem?_eq_getElem hl] using this
theorem refNamed_def (s : List UInt8) : refNamed s = match refTab.find? (refHit s) with | some e => (encN e.2, true) | none => ([], false) := rfl
theorem hit_int (s e : List UInt8) (k : Int) : (e == s || ((e.getD ((e.length : Int) - 1).toNat 0).toNat : Int) != 59 && e ++ [59] == s) = refHit s (e, k) := by
  have h : ((e.length : Int) - 1).toNat = e.length - 1 := by omega
  rw [h]
  unfold refHit
  congr 2
  simp only [bne, u8_59]
instance fTable : Fn BB 88 [] True (.tup [.rd .str (refTab.map (·.1)), .rd intTy (refTab.map (·.2))]) := by
  refine Fn.intro (N := 4) [0, 1] [] Tryz.call88 Tryz.func88 rfl rfl (by kernel_rfl) (fun hpre => ?_)
  repeat' ((conv => whnf);first|(with_reducible first|rfl|exact absTF|exact absFT)|exact True.intro|intro _|refine And.intro ?_ ?_|refine Fin.mk ?_|refine W1 rfl ?_ ?_|refine W2 rfl ?_ ?_|refine W3 rfl ?_ ?_|refine W4 ?_ ?_|refine W5 rfl ?_ ?_|refine W6 ?_ ?_|refine AppN.mk ?_|refine X1 (W1 rfl ?_ ?_)|refine X1 (W2 rfl ?_ ?_)|refine X2 (W7 rfl ?_ ?_)|refine X3 (W7 rfl ?_ ?_)|refine X4 (W7 rfl ?_ ?_)|refine X5 (W7 rfl ?_ ?_))
  all_goals (try (conv => whnf))
  all_goals (try first|exact Ob.mk (u8_bnd _)|(refine Ob.mk ?_;first|exact True.intro|assumption|omega|(try simp only [ZA,ZB,ZC,ZD,ZE,ZF,ZG,ZH,ZI,ZJ,ZK,ZL,ZM,ZN,ZO,Int.toNat_natCast,UInt8.ofNat_toNat,cast_eq] at *;omega)))
  all_goals (try first|(show (_:Int) = _;omega)|(show tupSV _ = _;with_unfolding_all rfl)|((first|show (_:Nat) ≤ _|show (_:Nat) ≤ _ ∧ (_:Nat) ≤ _|show (_:Int) ≤ _ ∧ (_:Int) ≤ _ ∧ (_:Int) ≤ _ ∧ (_:Int) ≤ _);(simp <;> omega)))
  · rfl
  · rfl
instance fRNamed (s : List UInt8) : Fn BB 67 [.str s] (s.length ≤ 100000) (.tup [.str (named s).1, .bool (named s).2]) := by
  refine Fn.intro (N := 44) [0, 2, 3, 4, 5, 6, 7, 15, 38] [] Tryz.call67 Tryz.func67 rfl rfl (by kernel_rfl) (fun hpre => ?_)
  repeat' ((conv => whnf);first|(with_reducible first|rfl|exact absTF|exact absFT)|exact True.intro|intro _|refine And.intro ?_ ?_|refine Fin.mk ?_|refine W1 rfl ?_ ?_|refine W2 rfl ?_ ?_|refine W3 rfl ?_ ?_|refine W4 ?_ ?_|refine W5 rfl ?_ ?_|refine W6 ?_ ?_|refine AppN.mk ?_|refine X1 (W1 rfl ?_ ?_)|refine X1 (W2 rfl ?_ ?_)|refine X2 (W7 rfl ?_ ?_)|refine X3 (W7 rfl ?_ ?_)|refine X4 (W7 rfl ?_ ?_)|refine X5 (W7 rfl ?_ ?_))
  all_goals (try (conv => whnf))
  all_goals (try first|exact Ob.mk (u8_bnd _)|(refine Ob.mk ?_;first|exact True.intro|assumption|omega|(try simp only [ZA,ZB,ZC,ZD,ZE,ZF,ZG,ZH,ZI,ZJ,ZK,ZL,ZM,ZN,ZO,Int.toNat_natCast,UInt8.ofNat_toNat,cast_eq] at *;omega)))
  all_goals (try first|(show (_:Int) = _;omega)|(show tupSV _ = _;with_unfolding_all rfl)|((first|show (_:Nat) ≤ _|show (_:Nat) ≤ _ ∧ (_:Nat) ≤ _|show (_:Int) ≤ _ ∧ (_:Int) ≤ _ ∧ (_:Int) ≤ _ ∧ (_:Int) ≤ _);(simp <;> omega)))
  refine LoopStop.mk (α := Nat) (fun i => [(6, .int .i64 i)]) (fun _ => []) 0 (fun i => i ≤ 61 ∧ refTab.find? (refHit s) = (refTab.drop i).find? (refHit s)) (fun i => 61 - i) 0 (by simp) ?_ (fun i hi => ?_)
  · repeat' ((conv => whnf);first|(with_reducible first|rfl|exact absTF|exact absFT)|exact True.intro|intro _|refine And.intro ?_ ?_|refine Fin.mk ?_|refine W1 rfl ?_ ?_|refine W2 rfl ?_ ?_|refine W3 rfl ?_ ?_|refine W4 ?_ ?_|refine W5 rfl ?_ ?_|refine W6 ?_ ?_|refine AppN.mk ?_|refine X1 (W1 rfl ?_ ?_)|refine X1 (W2 rfl ?_ ?_)|refine X2 (W7 rfl ?_ ?_)|refine X3 (W7 rfl ?_ ?_)|refine X4 (W7 rfl ?_ ?_)|refine X5 (W7 rfl ?_ ?_))
    all_goals (try (conv => whnf))
    all_goals (try rfl)
  · have hn := (refNamed_eq s).symm.trans (refNamed_def s)
    have hl1 : (refTab.map (·.1)).length = 61 := by decide
    have hl2 : (refTab.map (·.2)).length = 61 := by decide
    repeat' ((conv => whnf);first|(with_reducible first|rfl|exact absTF|exact absFT)|exact True.intro|intro _|refine And.intro ?_ ?_|refine Fin.mk ?_|refine W1 rfl ?_ ?_|refine W2 rfl ?_ ?_|refine W3 rfl ?_ ?_|refine W4 ?_ ?_|refine W5 rfl ?_ ?_|refine W6 ?_ ?_|refine AppN.mk ?_|refine X1 (W1 rfl ?_ ?_)|refine X1 (W2 rfl ?_ ?_)|refine X2 (W7 rfl ?_ ?_)|refine X3 (W7 rfl ?_ ?_)|refine X4 (W7 rfl ?_ ?_)|refine X5 (W7 rfl ?_ ?_))
    all_goals (try (conv => whnf))
    all_goals (try first|exact Ob.mk (u8_bnd _)|(refine Ob.mk ?_;first|exact True.intro|assumption|omega|(try simp only [ZA,ZB,ZC,ZD,ZE,ZF,ZG,ZH,ZI,ZJ,ZK,ZL,ZM,ZN,ZO,Int.toNat_natCast,UInt8.ofNat_toNat,cast_eq] at *;omega)))
    all_goals (try first|(show (_:Int) = _;omega)|(show tupSV _ = _;with_unfolding_all rfl)|((first|show (_:Nat) ≤ _|show (_:Nat) ≤ _ ∧ (_:Nat) ≤ _|show (_:Int) ≤ _ ∧ (_:Int) ≤ _ ∧ (_:Int) ≤ _ ∧ (_:Int) ≤ _);(simp <;> omega)))
    all_goals (try (simp only [Int.toNat_natCast, Int.reduceToNat, Ty.dflt, cast_eq] at *))
    all_goals (have hrt : (List.map (fun x => x.fst) refTab).getD i [] = rtN i := rfl)
    all_goals (simp only [hrt, hl1, hl2, decide_eq_true_eq, decide_eq_false_iff_not] at *)
    all_goals (try (have hi61 : i < 61 := by omega))
    all_goals (try (have hg := rt_good hi61))
    all_goals (try (have hat := rt_at hi61))
    all_goals (try (simp only [hit_int s (rtN i) ((refTab.map (·.2)).getD i 0)] at *))
    all_goals (try omega)
    all_goals (try (show -9223372036854775808 ≤ _ ∧ _ ≤ (9223372036854775807:Int); omega))
    all_goals (try (simp only [List.length_cons, List.length_nil]; omega))
    · rw [hn, hi.2, hat, List.find?_cons_of_pos ‹_›]
    · rw [hn, hi.2, hat, List.find?_cons_of_pos ‹_›]
    · refine Rnd.mk ⟨i + 1, ?_, ?_, ?_⟩
      · exact ⟨hi61, by rw [hi.2, hat, List.find?_cons_of_neg (by rw [‹refHit s _ = false›]; simp)]⟩
      · omega
      · repeat' ((conv => whnf);first|(with_reducible first|rfl|exact absTF|exact absFT)|exact True.intro|intro _|refine And.intro ?_ ?_|refine Fin.mk ?_|refine W1 rfl ?_ ?_|refine W2 rfl ?_ ?_|refine W3 rfl ?_ ?_|refine W4 ?_ ?_|refine W5 rfl ?_ ?_|refine W6 ?_ ?_|refine AppN.mk ?_|refine X1 (W1 rfl ?_ ?_)|refine X1 (W2 rfl ?_ ?_)|refine X2 (W7 rfl ?_ ?_)|refine X3 (W7 rfl ?_ ?_)|refine X4 (W7 rfl ?_ ?_)|refine X5 (W7 rfl ?_ ?_))
        all_goals (try (conv => whnf))
        all_goals (try first|exact Ob.mk (u8_bnd _)|(refine Ob.mk ?_;first|exact True.intro|assumption|omega|(try simp only [ZA,ZB,ZC,ZD,ZE,ZF,ZG,ZH,ZI,ZJ,ZK,ZL,ZM,ZN,ZO,Int.toNat_natCast,UInt8.ofNat_toNat,cast_eq] at *;omega)))
        all_goals (try first|(show (_:Int) = _;omega)|(show tupSV _ = _;with_unfolding_all rfl)|((first|show (_:Nat) ≤ _|show (_:Nat) ≤ _ ∧ (_:Nat) ≤ _|show (_:Int) ≤ _ ∧ (_:Int) ≤ _ ∧ (_:Int) ≤ _ ∧ (_:Int) ≤ _);(simp <;> omega)))
    · rw [hn, hi.2, List.drop_of_length_le (by rw [refTab_len]; omega)]; rfl
    · rw [hn, hi.2, List.drop_of_length_le (by rw [refTab_len]; omega)]; rfl
end Go.Vc

namespace Go.Vc.W
open Go.Proofs
def isSp (c : Int) : Bool := c == 9 || c == 10 || c == 12 || c == 13 || c == 32
set_option maxRecDepth 10000
instance f31 (c : Int) : Fn BB 46 [.int .u8 c] True (.bool (isSp c)) := by
  refine Fn.intro (N := 10) [0, 2, 3, 4] [] Tryz.call46 Tryz.func46 rfl rfl (by kernel_rfl) (fun hpre => ?_)
  repeat' ((conv => whnf);first|(with_reducible first|rfl|exact absTF|exact absFT)|exact True.intro|intro _|refine And.intro ?_ ?_|refine Fin.mk ?_|refine W1 rfl ?_ ?_|refine W2 rfl ?_ ?_|refine W3 rfl ?_ ?_|refine W4 ?_ ?_|refine W5 rfl ?_ ?_|refine W6 ?_ ?_|refine AppN.mk ?_|refine X1 (W1 rfl ?_ ?_)|refine X1 (W2 rfl ?_ ?_)|refine X2 (W7 rfl ?_ ?_)|refine X3 (W7 rfl ?_ ?_)|refine X4 (W7 rfl ?_ ?_)|refine X5 (W7 rfl ?_ ?_))
  all_goals (try (conv => whnf))
  all_goals (simp_all [isSp]; done)
instance f40 (c : Int) : Fn BB 55 [.int .u8 c] True (.bool (isSp c)) := by
  refine Fn.intro (N := 21) [0, 2] [] Tryz.call55 Tryz.func55 rfl rfl (by kernel_rfl) (fun hpre => ?_)
  repeat' ((conv => whnf);first|(with_reducible first|rfl|exact absTF|exact absFT)|exact True.intro|intro _|refine And.intro ?_ ?_|refine Fin.mk ?_|refine W1 rfl ?_ ?_|refine W2 rfl ?_ ?_|refine W3 rfl ?_ ?_|refine W4 ?_ ?_|refine W5 rfl ?_ ?_|refine W6 ?_ ?_|refine AppN.mk ?_|refine X1 (W1 rfl ?_ ?_)|refine X1 (W2 rfl ?_ ?_)|refine X2 (W7 rfl ?_ ?_)|refine X3 (W7 rfl ?_ ?_)|refine X4 (W7 rfl ?_ ?_)|refine X5 (W7 rfl ?_ ?_))
  all_goals (try (conv => whnf))
  all_goals (simp_all [isSp]; done)
theorem take_snoc {α : Type} (l : List α) (i : Nat) (d : α) (h : i < l.length) : l.take (i + 1) = l.take i ++ [l.getD i d] := by
  rw [List.take_succ_eq_append_getElem h]; simp [List.getD, List.getElem?_eq_getElem h]
end Go.Vc.W

namespace Go.Vc
open Go.Proofs
set_option maxRecDepth 10000
set_option maxHeartbeats 2000000
def upB (c : UInt8) : Bool := decide (65 ≤ c.toNat) && decide (c.toNat ≤ 90)
def lowB (c : UInt8) : UInt8 := if upB c then c + 32 else c
def lowL (s : List UInt8) : List UInt8 := s.map lowB
def lowAt (s : List UInt8) (i : Nat) : List UInt8 := (s.take i).map lowB ++ s.drop i
theorem lowAt_len (s : List UInt8) (i : Nat) (h : i ≤ s.length) : (lowAt s i).length = s.length := by simp [lowAt]; omega
theorem lowAt_get (s : List UInt8) (i : Nat) (h : i < s.length) : (lowAt s i).getD i 0 = s.getD i 0 := by
  unfold lowAt
  have hl : ((s.take i).map lowB).length = i := by simp; omega
  simp only [List.getD]
  rw [List.getElem?_append_right (by omega), hl]
  simp
theorem lowAt_set (s : List UInt8) (i : Nat) (h : i < s.length) : (lowAt s i).set i (lowB (s.getD i 0)) = lowAt s (i + 1) := by
  unfold lowAt
  have hl : ((s.take i).map lowB).length = i := by simp; omega
  rw [List.set_append_right _ _ (by omega), hl, Nat.sub_self, List.drop_eq_getElem_cons h, List.set_cons_zero, List.take_succ_eq_append_getElem h, List.map_append]
  simp [List.getD, List.getElem?_eq_getElem h]
theorem lowAt_same (s : List UInt8) (i : Nat) (h : i < s.length) (hu : upB (s.getD i 0) = false) : lowAt s (i + 1) = lowAt s i := by
  rw [← lowAt_set s i h]
  have : lowB (s.getD i 0) = s.getD i 0 := by unfold lowB; rw [hu]; rfl
  rw [this]
  have h2 := lowAt_get s i h
  have hl := lowAt_len s i (by omega)
  apply List.ext_getElem? 
  intro j
  rw [List.getElem?_set]
  split
  · rename_i e
    subst e
    rw [if_pos (by omega), ← h2]
    simp [List.getD, List.getElem?_eq_getElem (show i < (lowAt s i).length by omega)]
  · rfl
theorem lowAt_end (s : List UInt8) : lowAt s s.length = lowL s := by simp [lowAt, lowL]
theorem low_or (c : UInt8) (h : upB c = true) : UInt8.ofNat (bitsI .or .u8 (c.toNat : Int) 32).toNat = lowB c := by
  have key : ∀ k : _root_.Fin 256, upB (UInt8.ofNat k.val) = true → UInt8.ofNat (bitsI .or .u8 (k.val : Int) 32).toNat = lowB (UInt8.ofNat k.val) := by decide +kernel
  have := key ⟨c.toNat, c.toNat_lt⟩
  simp only [UInt8.ofNat_toNat] at this
  exact this h
theorem low_orb (c : UInt8) : 0 ≤ bitsI .or .u8 (c.toNat : Int) 32 ∧ bitsI .or .u8 (c.toNat : Int) 32 ≤ 255 := by
  have key : ∀ k : _root_.Fin 256, 0 ≤ bitsI .or .u8 (k.val : Int) 32 ∧ bitsI .or .u8 (k.val : Int) 32 ≤ 255 := by decide +kernel
  exact key ⟨c.toNat, c.toNat_lt⟩
theorem low_add (c : UInt8) (h : upB c = true) : UInt8.ofNat (IntKind.u8.wrap ((c.toNat : Int) + 32)).toNat = lowB c := by
  have key : ∀ k : _root_.Fin 256, upB (UInt8.ofNat k.val) = true → UInt8.ofNat (IntKind.u8.wrap ((k.val : Int) + 32)).toNat = lowB (UInt8.ofNat k.val) := by decide +kernel
  have := key ⟨c.toNat, c.toNat_lt⟩
  simp only [UInt8.ofNat_toNat] at this
  exact this h
theorem low_addb (c : UInt8) : 0 ≤ IntKind.u8.wrap ((c.toNat : Int) + 32) ∧ IntKind.u8.wrap ((c.toNat : Int) + 32) ≤ 255 := by
  have key : ∀ k : _root_.Fin 256, 0 ≤ IntKind.u8.wrap ((k.val : Int) + 32) ∧ IntKind.u8.wrap ((k.val : Int) + 32) ≤ 255 := by decide +kernel
  exact key ⟨c.toNat, c.toNat_lt⟩
theorem up_eq (c : UInt8) : (decide ((65 : Int) ≤ (c.toNat : Int)) && decide ((c.toNat : Int) ≤ 90)) = upB c := by
  unfold upB
  congr 1 <;> (rw [Bool.eq_iff_iff]; simp; try omega)
instance lLower (s : List UInt8) : Fn BB 31 [.str s] True (.str (lowL s)) := by
  refine Fn.intro (N := 29) [0, 2, 3, 4, 5, 8, 9, 10, 11, 20] [] Tryz.call31 Tryz.func31 rfl rfl (by kernel_rfl) (fun hpre => ?_)
  repeat' ((conv => whnf);first|(with_reducible first|rfl|exact absTF|exact absFT)|exact True.intro|intro _|refine And.intro ?_ ?_|refine Fin.mk ?_|refine W1 rfl ?_ ?_|refine W2 rfl ?_ ?_|refine W3 rfl ?_ ?_|refine W4 ?_ ?_|refine W5 rfl ?_ ?_|refine W6 ?_ ?_|refine AppN.mk ?_|refine X1 (W1 rfl ?_ ?_)|refine X1 (W2 rfl ?_ ?_)|refine X2 (W7 rfl ?_ ?_)|refine X3 (W7 rfl ?_ ?_)|refine X4 (W7 rfl ?_ ?_)|refine X5 (W7 rfl ?_ ?_))
  all_goals (try (conv => whnf))
  all_goals (try first|exact Ob.mk (u8_bnd _)|(refine Ob.mk ?_;first|exact True.intro|assumption|omega|(try simp only [ZA,ZB,ZC,ZD,ZE,ZF,ZG,ZH,ZI,ZJ,ZK,ZL,ZM,ZN,ZO,Int.toNat_natCast,UInt8.ofNat_toNat,cast_eq] at *;omega)))
  all_goals (try first|(show (_:Int) = _;omega)|(show tupSV _ = _;with_unfolding_all rfl)|((first|show (_:Nat) ≤ _|show (_:Nat) ≤ _ ∧ (_:Nat) ≤ _|show (_:Int) ≤ _ ∧ (_:Int) ≤ _ ∧ (_:Int) ≤ _ ∧ (_:Int) ≤ _);(simp <;> omega)))
  refine LoopStop.mk (α := Nat) (fun i => [(10, .int .i64 i)]) (fun i => [(0, .own .byte (lowAt s i))]) 20 (fun i => i ≤ s.length) (fun i => s.length + 1 - i) 0 (by simp) ?_ (fun i hi => ?_)
  · repeat' ((conv => whnf);first|(with_reducible first|rfl|exact absTF|exact absFT)|exact True.intro|intro _|refine And.intro ?_ ?_|refine Fin.mk ?_|refine W1 rfl ?_ ?_|refine W2 rfl ?_ ?_|refine W3 rfl ?_ ?_|refine W4 ?_ ?_|refine W5 rfl ?_ ?_|refine W6 ?_ ?_|refine AppN.mk ?_|refine X1 (W1 rfl ?_ ?_)|refine X1 (W2 rfl ?_ ?_)|refine X2 (W7 rfl ?_ ?_)|refine X3 (W7 rfl ?_ ?_)|refine X4 (W7 rfl ?_ ?_)|refine X5 (W7 rfl ?_ ?_))
    all_goals (try (conv => whnf))
    all_goals (try first|exact Ob.mk (u8_bnd _)|(refine Ob.mk ?_;first|exact True.intro|assumption|omega|(try simp only [ZA,ZB,ZC,ZD,ZE,ZF,ZG,ZH,ZI,ZJ,ZK,ZL,ZM,ZN,ZO,Int.toNat_natCast,UInt8.ofNat_toNat,cast_eq] at *;omega)))
    all_goals (try first|(show (_:Int) = _;omega)|(show tupSV _ = _;with_unfolding_all rfl)|((first|show (_:Nat) ≤ _|show (_:Nat) ≤ _ ∧ (_:Nat) ≤ _|show (_:Int) ≤ _ ∧ (_:Int) ≤ _ ∧ (_:Int) ≤ _ ∧ (_:Int) ≤ _);(simp <;> omega)))
    all_goals rfl
  · have hg := fun h => lowAt_get s i h
    have hst := fun h => lowAt_set s i h
    have hln := lowAt_len s i hi
    repeat' ((conv => whnf);first|(with_reducible first|rfl|exact absTF|exact absFT)|exact True.intro|intro _|refine And.intro ?_ ?_|refine Fin.mk ?_|refine W1 rfl ?_ ?_|refine W2 rfl ?_ ?_|refine W3 rfl ?_ ?_|refine W4 ?_ ?_|refine W5 rfl ?_ ?_|refine W6 ?_ ?_|refine AppN.mk ?_|refine X1 (W1 rfl ?_ ?_)|refine X1 (W2 rfl ?_ ?_)|refine X2 (W7 rfl ?_ ?_)|refine X3 (W7 rfl ?_ ?_)|refine X4 (W7 rfl ?_ ?_)|refine X5 (W7 rfl ?_ ?_))
    all_goals (try (conv => whnf))
    all_goals (try first|exact Ob.mk (u8_bnd _)|(refine Ob.mk ?_;first|exact True.intro|assumption|omega|(try simp only [ZA,ZB,ZC,ZD,ZE,ZF,ZG,ZH,ZI,ZJ,ZK,ZL,ZM,ZN,ZO,Int.toNat_natCast,UInt8.ofNat_toNat,cast_eq] at *;omega)))
    all_goals (try first|(show (_:Int) = _;omega)|(show tupSV _ = _;with_unfolding_all rfl)|((first|show (_:Nat) ≤ _|show (_:Nat) ≤ _ ∧ (_:Nat) ≤ _|show (_:Int) ≤ _ ∧ (_:Int) ≤ _ ∧ (_:Int) ≤ _ ∧ (_:Int) ≤ _);(simp <;> omega)))
    all_goals (try simp only [Int.toNat_natCast, Ty.dflt] at *)
    all_goals (first | exact low_orb _ | skip)
    · rename_i hl h
      have hl := of_decide_eq_true hl
      have h : upB ((lowAt s i).getD i 0) = true := (up_eq _).symm.trans h
      refine Rnd.mk ⟨i + 1, by omega, by omega, ?_⟩
      repeat' ((conv => whnf);first|(with_reducible first|rfl|exact absTF|exact absFT)|exact True.intro|intro _|refine And.intro ?_ ?_|refine Fin.mk ?_|refine W1 rfl ?_ ?_|refine W2 rfl ?_ ?_|refine W3 rfl ?_ ?_|refine W4 ?_ ?_|refine W5 rfl ?_ ?_|refine W6 ?_ ?_|refine AppN.mk ?_|refine X1 (W1 rfl ?_ ?_)|refine X1 (W2 rfl ?_ ?_)|refine X2 (W7 rfl ?_ ?_)|refine X3 (W7 rfl ?_ ?_)|refine X4 (W7 rfl ?_ ?_)|refine X5 (W7 rfl ?_ ?_))
      all_goals (try (conv => whnf))
      all_goals (try first|exact Ob.mk (u8_bnd _)|(refine Ob.mk ?_;first|exact True.intro|assumption|omega|(try simp only [ZA,ZB,ZC,ZD,ZE,ZF,ZG,ZH,ZI,ZJ,ZK,ZL,ZM,ZN,ZO,Int.toNat_natCast,UInt8.ofNat_toNat,cast_eq] at *;omega)))
      all_goals (try first|(show (_:Int) = _;omega)|(show tupSV _ = _;with_unfolding_all rfl)|((first|show (_:Nat) ≤ _|show (_:Nat) ≤ _ ∧ (_:Nat) ≤ _|show (_:Int) ≤ _ ∧ (_:Int) ≤ _ ∧ (_:Int) ≤ _ ∧ (_:Int) ≤ _);(simp <;> omega)))
      all_goals (rw [low_or _ h, hg (by omega), hst (by omega)])
    · rename_i hl h
      have hl := of_decide_eq_true hl
      have h : upB ((lowAt s i).getD i 0) = false := (up_eq _).symm.trans h
      rw [hg (by omega)] at h
      refine Rnd.mk ⟨i + 1, by omega, by omega, ?_⟩
      repeat' ((conv => whnf);first|(with_reducible first|rfl|exact absTF|exact absFT)|exact True.intro|intro _|refine And.intro ?_ ?_|refine Fin.mk ?_|refine W1 rfl ?_ ?_|refine W2 rfl ?_ ?_|refine W3 rfl ?_ ?_|refine W4 ?_ ?_|refine W5 rfl ?_ ?_|refine W6 ?_ ?_|refine AppN.mk ?_|refine X1 (W1 rfl ?_ ?_)|refine X1 (W2 rfl ?_ ?_)|refine X2 (W7 rfl ?_ ?_)|refine X3 (W7 rfl ?_ ?_)|refine X4 (W7 rfl ?_ ?_)|refine X5 (W7 rfl ?_ ?_))
      all_goals (try (conv => whnf))
      all_goals (try first|exact Ob.mk (u8_bnd _)|(refine Ob.mk ?_;first|exact True.intro|assumption|omega|(try simp only [ZA,ZB,ZC,ZD,ZE,ZF,ZG,ZH,ZI,ZJ,ZK,ZL,ZM,ZN,ZO,Int.toNat_natCast,UInt8.ofNat_toNat,cast_eq] at *;omega)))
      all_goals (try first|(show (_:Int) = _;omega)|(show tupSV _ = _;with_unfolding_all rfl)|((first|show (_:Nat) ≤ _|show (_:Nat) ≤ _ ∧ (_:Nat) ≤ _|show (_:Int) ≤ _ ∧ (_:Int) ≤ _ ∧ (_:Int) ≤ _ ∧ (_:Int) ≤ _);(simp <;> omega)))
      all_goals (rw [lowAt_same s i (by omega) h])
    · rename_i hl
      have hl := of_decide_eq_false hl
      have : i = s.length := by omega
      rw [this, lowAt_end]
instance lRLower (s : List UInt8) : Fn BB 56 [.str s] True (.str (lowL s)) := by
  refine Fn.intro (N := 33) [0, 2, 3, 4, 10, 24] [] Tryz.call56 Tryz.func56 rfl rfl (by kernel_rfl) (fun hpre => ?_)
  repeat' ((conv => whnf);first|(with_reducible first|rfl|exact absTF|exact absFT)|exact True.intro|intro _|refine And.intro ?_ ?_|refine Fin.mk ?_|refine W1 rfl ?_ ?_|refine W2 rfl ?_ ?_|refine W3 rfl ?_ ?_|refine W4 ?_ ?_|refine W5 rfl ?_ ?_|refine W6 ?_ ?_|refine AppN.mk ?_|refine X1 (W1 rfl ?_ ?_)|refine X1 (W2 rfl ?_ ?_)|refine X2 (W7 rfl ?_ ?_)|refine X3 (W7 rfl ?_ ?_)|refine X4 (W7 rfl ?_ ?_)|refine X5 (W7 rfl ?_ ?_))
  all_goals (try (conv => whnf))
  all_goals (try first|exact Ob.mk (u8_bnd _)|(refine Ob.mk ?_;first|exact True.intro|assumption|omega|(try simp only [ZA,ZB,ZC,ZD,ZE,ZF,ZG,ZH,ZI,ZJ,ZK,ZL,ZM,ZN,ZO,Int.toNat_natCast,UInt8.ofNat_toNat,cast_eq] at *;omega)))
  all_goals (try first|(show (_:Int) = _;omega)|(show tupSV _ = _;with_unfolding_all rfl)|((first|show (_:Nat) ≤ _|show (_:Nat) ≤ _ ∧ (_:Nat) ≤ _|show (_:Int) ≤ _ ∧ (_:Int) ≤ _ ∧ (_:Int) ≤ _ ∧ (_:Int) ≤ _);(simp <;> omega)))
  refine LoopStop.mk (α := Nat) (fun i => [(4, .int .i64 i)]) (fun i => [(0, .own .byte (lowAt s i))]) 20 (fun i => i ≤ s.length) (fun i => s.length + 1 - i) 0 (by simp) ?_ (fun i hi => ?_)
  · repeat' ((conv => whnf);first|(with_reducible first|rfl|exact absTF|exact absFT)|exact True.intro|intro _|refine And.intro ?_ ?_|refine Fin.mk ?_|refine W1 rfl ?_ ?_|refine W2 rfl ?_ ?_|refine W3 rfl ?_ ?_|refine W4 ?_ ?_|refine W5 rfl ?_ ?_|refine W6 ?_ ?_|refine AppN.mk ?_|refine X1 (W1 rfl ?_ ?_)|refine X1 (W2 rfl ?_ ?_)|refine X2 (W7 rfl ?_ ?_)|refine X3 (W7 rfl ?_ ?_)|refine X4 (W7 rfl ?_ ?_)|refine X5 (W7 rfl ?_ ?_))
    all_goals (try (conv => whnf))
    all_goals (try first|exact Ob.mk (u8_bnd _)|(refine Ob.mk ?_;first|exact True.intro|assumption|omega|(try simp only [ZA,ZB,ZC,ZD,ZE,ZF,ZG,ZH,ZI,ZJ,ZK,ZL,ZM,ZN,ZO,Int.toNat_natCast,UInt8.ofNat_toNat,cast_eq] at *;omega)))
    all_goals (try first|(show (_:Int) = _;omega)|(show tupSV _ = _;with_unfolding_all rfl)|((first|show (_:Nat) ≤ _|show (_:Nat) ≤ _ ∧ (_:Nat) ≤ _|show (_:Int) ≤ _ ∧ (_:Int) ≤ _ ∧ (_:Int) ≤ _ ∧ (_:Int) ≤ _);(simp <;> omega)))
    all_goals rfl
  · have hg := fun h => lowAt_get s i h
    have hst := fun h => lowAt_set s i h
    have hln := lowAt_len s i hi
    have ue : (decide ((((lowAt s i).getD i 0).toNat : Int) ≥ 65) && decide ((((lowAt s i).getD i 0).toNat : Int) ≤ 90)) = upB ((lowAt s i).getD i 0) := up_eq _
    repeat' ((conv => whnf);first|(with_reducible first|rfl|exact absTF|exact absFT)|exact True.intro|intro _|refine And.intro ?_ ?_|refine Fin.mk ?_|refine W1 rfl ?_ ?_|refine W2 rfl ?_ ?_|refine W3 rfl ?_ ?_|refine W4 ?_ ?_|refine W5 rfl ?_ ?_|refine W6 ?_ ?_|refine AppN.mk ?_|refine X1 (W1 rfl ?_ ?_)|refine X1 (W2 rfl ?_ ?_)|refine X2 (W7 rfl ?_ ?_)|refine X3 (W7 rfl ?_ ?_)|refine X4 (W7 rfl ?_ ?_)|refine X5 (W7 rfl ?_ ?_))
    all_goals (try (conv => whnf))
    all_goals (try first|exact Ob.mk (u8_bnd _)|(refine Ob.mk ?_;first|exact True.intro|assumption|omega|(try simp only [ZA,ZB,ZC,ZD,ZE,ZF,ZG,ZH,ZI,ZJ,ZK,ZL,ZM,ZN,ZO,Int.toNat_natCast,UInt8.ofNat_toNat,cast_eq] at *;omega)))
    all_goals (try first|(show (_:Int) = _;omega)|(show tupSV _ = _;with_unfolding_all rfl)|((first|show (_:Nat) ≤ _|show (_:Nat) ≤ _ ∧ (_:Nat) ≤ _|show (_:Int) ≤ _ ∧ (_:Int) ≤ _ ∧ (_:Int) ≤ _ ∧ (_:Int) ≤ _);(simp <;> omega)))
    all_goals (try simp only [Int.toNat_natCast, Ty.dflt] at *)
    all_goals (first | exact low_addb _ | skip)
    · rename_i hl h
      have hl := of_decide_eq_true hl
      have h : upB ((lowAt s i).getD i 0) = true := ue.symm.trans h
      refine Rnd.mk ⟨i + 1, by omega, by omega, ?_⟩
      repeat' ((conv => whnf);first|(with_reducible first|rfl|exact absTF|exact absFT)|exact True.intro|intro _|refine And.intro ?_ ?_|refine Fin.mk ?_|refine W1 rfl ?_ ?_|refine W2 rfl ?_ ?_|refine W3 rfl ?_ ?_|refine W4 ?_ ?_|refine W5 rfl ?_ ?_|refine W6 ?_ ?_|refine AppN.mk ?_|refine X1 (W1 rfl ?_ ?_)|refine X1 (W2 rfl ?_ ?_)|refine X2 (W7 rfl ?_ ?_)|refine X3 (W7 rfl ?_ ?_)|refine X4 (W7 rfl ?_ ?_)|refine X5 (W7 rfl ?_ ?_))
      all_goals (try (conv => whnf))
      all_goals (try first|exact Ob.mk (u8_bnd _)|(refine Ob.mk ?_;first|exact True.intro|assumption|omega|(try simp only [ZA,ZB,ZC,ZD,ZE,ZF,ZG,ZH,ZI,ZJ,ZK,ZL,ZM,ZN,ZO,Int.toNat_natCast,UInt8.ofNat_toNat,cast_eq] at *;omega)))
      all_goals (try first|(show (_:Int) = _;omega)|(show tupSV _ = _;with_unfolding_all rfl)|((first|show (_:Nat) ≤ _|show (_:Nat) ≤ _ ∧ (_:Nat) ≤ _|show (_:Int) ≤ _ ∧ (_:Int) ≤ _ ∧ (_:Int) ≤ _ ∧ (_:Int) ≤ _);(simp <;> omega)))
      all_goals (rw [low_add _ h, hg (by omega), hst (by omega)])
    · rename_i hl h
      have hl := of_decide_eq_true hl
      have h : upB ((lowAt s i).getD i 0) = false := ue.symm.trans h
      rw [hg (by omega)] at h
      refine Rnd.mk ⟨i + 1, by omega, by omega, ?_⟩
      repeat' ((conv => whnf);first|(with_reducible first|rfl|exact absTF|exact absFT)|exact True.intro|intro _|refine And.intro ?_ ?_|refine Fin.mk ?_|refine W1 rfl ?_ ?_|refine W2 rfl ?_ ?_|refine W3 rfl ?_ ?_|refine W4 ?_ ?_|refine W5 rfl ?_ ?_|refine W6 ?_ ?_|refine AppN.mk ?_|refine X1 (W1 rfl ?_ ?_)|refine X1 (W2 rfl ?_ ?_)|refine X2 (W7 rfl ?_ ?_)|refine X3 (W7 rfl ?_ ?_)|refine X4 (W7 rfl ?_ ?_)|refine X5 (W7 rfl ?_ ?_))
      all_goals (try (conv => whnf))
      all_goals (try first|exact Ob.mk (u8_bnd _)|(refine Ob.mk ?_;first|exact True.intro|assumption|omega|(try simp only [ZA,ZB,ZC,ZD,ZE,ZF,ZG,ZH,ZI,ZJ,ZK,ZL,ZM,ZN,ZO,Int.toNat_natCast,UInt8.ofNat_toNat,cast_eq] at *;omega)))
      all_goals (try first|(show (_:Int) = _;omega)|(show tupSV _ = _;with_unfolding_all rfl)|((first|show (_:Nat) ≤ _|show (_:Nat) ≤ _ ∧ (_:Nat) ≤ _|show (_:Int) ≤ _ ∧ (_:Int) ≤ _ ∧ (_:Int) ≤ _ ∧ (_:Int) ≤ _);(simp <;> omega)))
      all_goals (rw [lowAt_same s i (by omega) h])
    · rename_i hl
      have hl := of_decide_eq_false hl
      have : i = s.length := by omega
      rw [this, lowAt_end]
theorem lowL_len (s : List UInt8) : (lowL s).length = s.length := by simp [lowL]
instance aFold (s t : List UInt8) : Fn BB 73 [.str s, .str t] True (.bool (lowL s == lowL t)) := by
  refine Fn.intro (N := 17) [0, 1, 4] [] Tryz.call73 Tryz.func73 rfl rfl (by kernel_rfl) (fun hpre => ?_)
  repeat' ((conv => whnf);first|(with_reducible first|rfl|exact absTF|exact absFT)|exact True.intro|intro _|refine And.intro ?_ ?_|refine Fin.mk ?_|refine W1 rfl ?_ ?_|refine W2 rfl ?_ ?_|refine W3 rfl ?_ ?_|refine W4 ?_ ?_|refine W5 rfl ?_ ?_|refine W6 ?_ ?_|refine AppN.mk ?_|refine X1 (W1 rfl ?_ ?_)|refine X1 (W2 rfl ?_ ?_)|refine X2 (W7 rfl ?_ ?_)|refine X3 (W7 rfl ?_ ?_)|refine X4 (W7 rfl ?_ ?_)|refine X5 (W7 rfl ?_ ?_))
  all_goals (try (conv => whnf))
  all_goals (try first|exact Ob.mk (u8_bnd _)|(refine Ob.mk ?_;first|exact True.intro|assumption|omega|(try simp only [ZA,ZB,ZC,ZD,ZE,ZF,ZG,ZH,ZI,ZJ,ZK,ZL,ZM,ZN,ZO,Int.toNat_natCast,UInt8.ofNat_toNat,cast_eq] at *;omega)))
  all_goals (try first|(show (_:Int) = _;omega)|(show tupSV _ = _;with_unfolding_all rfl)|((first|show (_:Nat) ≤ _|show (_:Nat) ≤ _ ∧ (_:Nat) ≤ _|show (_:Int) ≤ _ ∧ (_:Int) ≤ _ ∧ (_:Int) ≤ _ ∧ (_:Int) ≤ _);(simp <;> omega)))
  by_cases q : lowL s = lowL t
  · have h1 := congrArg List.length q
    rw [lowL_len, lowL_len] at h1
    simp [q, h1]
  · simp [q]
instance aRFold (s t : List UInt8) : Fn BB 62 [.str s, .str t] True (.bool (lowL s == lowL t)) := by
  refine Fn.intro (N := 10) [0, 1, 4] [] Tryz.call62 Tryz.func62 rfl rfl (by kernel_rfl) (fun hpre => ?_)
  repeat' ((conv => whnf);first|(with_reducible first|rfl|exact absTF|exact absFT)|exact True.intro|intro _|refine And.intro ?_ ?_|refine Fin.mk ?_|refine W1 rfl ?_ ?_|refine W2 rfl ?_ ?_|refine W3 rfl ?_ ?_|refine W4 ?_ ?_|refine W5 rfl ?_ ?_|refine W6 ?_ ?_|refine AppN.mk ?_|refine X1 (W1 rfl ?_ ?_)|refine X1 (W2 rfl ?_ ?_)|refine X2 (W7 rfl ?_ ?_)|refine X3 (W7 rfl ?_ ?_)|refine X4 (W7 rfl ?_ ?_)|refine X5 (W7 rfl ?_ ?_))
  all_goals (try (conv => whnf))
  all_goals (try first|exact Ob.mk (u8_bnd _)|(refine Ob.mk ?_;first|exact True.intro|assumption|omega|(try simp only [ZA,ZB,ZC,ZD,ZE,ZF,ZG,ZH,ZI,ZJ,ZK,ZL,ZM,ZN,ZO,Int.toNat_natCast,UInt8.ofNat_toNat,cast_eq] at *;omega)))
  all_goals (try first|(show (_:Int) = _;omega)|(show tupSV _ = _;with_unfolding_all rfl)|((first|show (_:Nat) ≤ _|show (_:Nat) ≤ _ ∧ (_:Nat) ≤ _|show (_:Int) ≤ _ ∧ (_:Int) ≤ _ ∧ (_:Int) ≤ _ ∧ (_:Int) ≤ _);(simp <;> omega)))
end Go.Vc

namespace Go.Vc
open Go.Proofs
set_option maxRecDepth 10000
set_option maxHeartbeats 2000000
def spS : List UInt8 := [9, 10, 12, 13, 32]
def spB (c : UInt8) : Bool := W.isSp c.toNat
theorem sp_contains (c : UInt8) : spS.contains c = spB c := by
  have key : ∀ k : _root_.Fin 256, spS.contains (UInt8.ofNat k.val) = W.isSp (k.val : Int) := by decide +kernel
  have := key ⟨c.toNat, c.toNat_lt⟩
  simp only [UInt8.ofNat_toNat] at this
  exact this
end Go.Vc

namespace Go.Vc
open Go.Proofs
set_option maxRecDepth 10000
set_option maxHeartbeats 2000000
theorem dw_step {l : List UInt8} (h : 0 < l.length) (hs : W.isSp ((l.getD 0 0).toNat : Int) = true) : (l.drop 1).dropWhile spB = l.dropWhile spB := by
  match l, h with
  | c :: r, _ =>
    have hs' : spB c = true := hs
    rw [List.drop_succ_cons, List.drop_zero, List.dropWhile_cons, if_pos hs']
theorem dw_stop {l : List UInt8} (hs : 0 < l.length → W.isSp ((l.getD 0 0).toNat : Int) = false) : l.dropWhile spB = l := by
  match l with
  | [] => rfl
  | c :: r =>
    have hs' : spB c = false := hs (by simp)
    rw [List.dropWhile_cons, if_neg (by simp [hs'])]
end Go.Vc

namespace Go.Vc
open Go.Proofs
set_option maxRecDepth 10000
theorem ft_at {n : Int} {i : Nat} (h : i < 27) : (fromTab.zip toTab).drop i = (fromTab.getD i 0, toTab.getD i 0) :: (fromTab.zip toTab).drop (i + 1) := by
  have key : ∀ k : _root_.Fin 27, (fromTab.zip toTab).drop k.val = (fromTab.getD k.val 0, toTab.getD k.val 0) :: (fromTab.zip toTab).drop (k.val + 1) := by decide
  exact key ⟨i, h⟩
theorem ft_f : ([128, 130, 131, 132, 133, 134, 135, 136, 137, 138, 139, 140, 142, 145, 146, 147, 148, 149, 150, 151, 152, 153, 154, 155, 156, 158, 159] : List Int) = fromTab := rfl
theorem ft_t : ([8364, 8218, 402, 8222, 8230, 8224, 8225, 710, 8240, 352, 8249, 338, 381, 8216, 8217, 8220, 8221, 8226, 8211, 8212, 732, 8482, 353, 8250, 339, 382, 376] : List Int) = toTab := rfl
theorem ft_fl : fromTab.length = 27 := rfl
theorem ft_tl : toTab.length = 27 := rfl
theorem refK_def (n : Int) : refK n = match (fromTab.zip toTab).find? (fun e => e.1 == n) with | some e => e.2 | none => if n = 0 then 65533 else n := rfl
theorem numF_ref (n : Int) : numF n = encN (refK n) := by unfold numF; rw [refK_eq]
instance fRNumd (n : Int) : Fn BB 87 [.int .i64 n] True (.str (numF n)) := by
  refine Fn.intro (N := 29) [0, 2, 3, 4, 5, 11, 19, 26] [] Tryz.call87 Tryz.func87 rfl rfl (by kernel_rfl) (fun hpre => ?_)
  repeat' ((conv => whnf);first|(with_reducible first|rfl|exact absTF|exact absFT)|exact True.intro|intro _|refine And.intro ?_ ?_|refine Fin.mk ?_|refine W1 rfl ?_ ?_|refine W2 rfl ?_ ?_|refine W3 rfl ?_ ?_|refine W4 ?_ ?_|refine W5 rfl ?_ ?_|refine W6 ?_ ?_|refine AppN.mk ?_|refine X1 (W1 rfl ?_ ?_)|refine X1 (W2 rfl ?_ ?_)|refine X2 (W7 rfl ?_ ?_)|refine X3 (W7 rfl ?_ ?_)|refine X4 (W7 rfl ?_ ?_)|refine X5 (W7 rfl ?_ ?_))
  all_goals (try (conv => whnf))
  all_goals (try first|exact Ob.mk (u8_bnd _)|(refine Ob.mk ?_;first|exact True.intro|assumption|omega|(try simp only [ZA,ZB,ZC,ZD,ZE,ZF,ZG,ZH,ZI,ZJ,ZK,ZL,ZM,ZN,ZO,Int.toNat_natCast,UInt8.ofNat_toNat,cast_eq] at *;omega)))
  all_goals (try first|(show (_:Int) = _;omega)|(show tupSV _ = _;with_unfolding_all rfl)|((first|show (_:Nat) ≤ _|show (_:Nat) ≤ _ ∧ (_:Nat) ≤ _|show (_:Int) ≤ _ ∧ (_:Int) ≤ _ ∧ (_:Int) ≤ _ ∧ (_:Int) ≤ _);(simp <;> omega)))
  have hn := refK_def n
  refine LoopStop.mk (α := Nat) (fun i => [(5, .int .i64 i)]) (fun _ => []) 0 (fun i => i ≤ 27 ∧ (fromTab.zip toTab).find? (fun e => e.1 == n) = ((fromTab.zip toTab).drop i).find? (fun e => e.1 == n)) (fun i => 27 - i) 0 (by simp) ?_ (fun i hi => ?_)
  · repeat' ((conv => whnf);first|(with_reducible first|rfl|exact absTF|exact absFT)|exact True.intro|intro _|refine And.intro ?_ ?_|refine Fin.mk ?_|refine W1 rfl ?_ ?_|refine W2 rfl ?_ ?_|refine W3 rfl ?_ ?_|refine W4 ?_ ?_|refine W5 rfl ?_ ?_|refine W6 ?_ ?_|refine AppN.mk ?_|refine X1 (W1 rfl ?_ ?_)|refine X1 (W2 rfl ?_ ?_)|refine X2 (W7 rfl ?_ ?_)|refine X3 (W7 rfl ?_ ?_)|refine X4 (W7 rfl ?_ ?_)|refine X5 (W7 rfl ?_ ?_))
    all_goals (try (conv => whnf))
    all_goals (try rfl)
  · repeat' ((conv => whnf);first|(with_reducible first|rfl|exact absTF|exact absFT)|exact True.intro|intro _|refine And.intro ?_ ?_|refine Fin.mk ?_|refine W1 rfl ?_ ?_|refine W2 rfl ?_ ?_|refine W3 rfl ?_ ?_|refine W4 ?_ ?_|refine W5 rfl ?_ ?_|refine W6 ?_ ?_|refine AppN.mk ?_|refine X1 (W1 rfl ?_ ?_)|refine X1 (W2 rfl ?_ ?_)|refine X2 (W7 rfl ?_ ?_)|refine X3 (W7 rfl ?_ ?_)|refine X4 (W7 rfl ?_ ?_)|refine X5 (W7 rfl ?_ ?_))
    all_goals (try (conv => whnf))
    all_goals (try first|exact Ob.mk (u8_bnd _)|(refine Ob.mk ?_;first|exact True.intro|assumption|omega|(try simp only [ZA,ZB,ZC,ZD,ZE,ZF,ZG,ZH,ZI,ZJ,ZK,ZL,ZM,ZN,ZO,Int.toNat_natCast,UInt8.ofNat_toNat,cast_eq] at *;omega)))
    all_goals (try first|(show (_:Int) = _;omega)|(show tupSV _ = _;with_unfolding_all rfl)|((first|show (_:Nat) ≤ _|show (_:Nat) ≤ _ ∧ (_:Nat) ≤ _|show (_:Int) ≤ _ ∧ (_:Int) ≤ _ ∧ (_:Int) ≤ _ ∧ (_:Int) ≤ _);(simp <;> omega)))
    all_goals (try (simp only [Int.toNat_natCast, Int.reduceToNat, Ty.dflt, cast_eq] at *))
    all_goals (simp only [ft_f, ft_t, ft_fl, ft_tl, decide_eq_true_eq, decide_eq_false_iff_not] at *)
    all_goals (try (have hi27 : i < 27 := by omega))
    all_goals (try (have hat := ft_at (n := n) hi27))
    all_goals (try omega)
    · rw [numF_ref, hn, hi.2, hat, List.find?_cons_of_pos ‹_›]
    · refine Rnd.mk ⟨i + 1, ?_, ?_, ?_⟩
      · exact ⟨hi27, by rw [hi.2, hat, List.find?_cons_of_neg (by simpa using ‹(fromTab.getD i 0 == n) = false›)]⟩
      · omega
      · repeat' ((conv => whnf);first|(with_reducible first|rfl|exact absTF|exact absFT)|exact True.intro|intro _|refine And.intro ?_ ?_|refine Fin.mk ?_|refine W1 rfl ?_ ?_|refine W2 rfl ?_ ?_|refine W3 rfl ?_ ?_|refine W4 ?_ ?_|refine W5 rfl ?_ ?_|refine W6 ?_ ?_|refine AppN.mk ?_|refine X1 (W1 rfl ?_ ?_)|refine X1 (W2 rfl ?_ ?_)|refine X2 (W7 rfl ?_ ?_)|refine X3 (W7 rfl ?_ ?_)|refine X4 (W7 rfl ?_ ?_)|refine X5 (W7 rfl ?_ ?_))
        all_goals (try (conv => whnf))
        all_goals (try first|exact Ob.mk (u8_bnd _)|(refine Ob.mk ?_;first|exact True.intro|assumption|omega|(try simp only [ZA,ZB,ZC,ZD,ZE,ZF,ZG,ZH,ZI,ZJ,ZK,ZL,ZM,ZN,ZO,Int.toNat_natCast,UInt8.ofNat_toNat,cast_eq] at *;omega)))
        all_goals (try first|(show (_:Int) = _;omega)|(show tupSV _ = _;with_unfolding_all rfl)|((first|show (_:Nat) ≤ _|show (_:Nat) ≤ _ ∧ (_:Nat) ≤ _|show (_:Int) ≤ _ ∧ (_:Int) ≤ _ ∧ (_:Int) ≤ _ ∧ (_:Int) ≤ _);(simp <;> omega)))
    all_goals (have he : (fromTab.zip toTab).drop i = [] := List.drop_of_length_le (by rw [List.length_zip, ft_fl, ft_tl]; omega))
    all_goals (have hk : refK n = if n = 0 then 65533 else n := by rw [hn, hi.2, he]; rfl)
    · rw [numF_ref, hk, if_pos (by simpa using ‹(n == 0) = true›)]
    · rw [numF_ref, hk, if_neg (by simpa using ‹(n == 0) = false›)]
end Go.Vc

namespace Go.Vc
open Go.Proofs
set_option maxRecDepth 10000
theorem digs_step {base : Int} {s : List UInt8} {i : Nat} {n : Int} (h : i < s.length) :
    digsL base (s.drop i) n i = if hexI (s.getD i 0).toNat < 0 ∨ base ≤ hexI (s.getD i 0).toNat then (n, (i : Int)) else digsL base (s.drop (i + 1)) (min (n * base + hexI (s.getD i 0).toNat) 1114112) ((i + 1 : Nat) : Int) := by
  rw [List.drop_eq_getElem_cons h, digsL]
  have e : s.getD i 0 = s[i] := by simp [List.getD, List.getElem?_eq_getElem h]
  rw [e]; rfl
theorem digs_end {base : Int} {s : List UInt8} {i : Nat} {n : Int} (h : s.length ≤ i) : digsL base (s.drop i) n i = (n, (i : Int)) := by
  rw [List.drop_of_length_le h]; rfl
theorem hexI_le (c : Int) : hexI c ≤ 15 := by unfold hexI; (repeat' split) <;> omega
instance fDig (s : List UInt8) (at_ base : Int) : Fn BB 74 [.str s, .int .i64 at_, .int .i64 base] (0 ≤ at_ ∧ at_ ≤ s.length ∧ s.length ≤ 100000 ∧ (base = 10 ∨ base = 16)) (.tup [.int .i64 (digsL base (s.drop at_.toNat) 0 at_).1, .int .i64 (digsL base (s.drop at_.toNat) 0 at_).2]) := by
  refine Fn.intro (N := 36) [0, 1, 2, 6, 7, 8, 9, 13, 26, 33] [] Tryz.call74 Tryz.func74 rfl rfl (by kernel_rfl) (fun hpre => ?_)
  obtain ⟨p1, p2, p3, p4⟩ := hpre
  repeat' ((conv => whnf);first|(with_reducible first|rfl|exact absTF|exact absFT)|exact True.intro|intro _|refine And.intro ?_ ?_|refine Fin.mk ?_|refine W1 rfl ?_ ?_|refine W2 rfl ?_ ?_|refine W3 rfl ?_ ?_|refine W4 ?_ ?_|refine W5 rfl ?_ ?_|refine W6 ?_ ?_|refine AppN.mk ?_|refine X1 (W1 rfl ?_ ?_)|refine X1 (W2 rfl ?_ ?_)|refine X2 (W7 rfl ?_ ?_)|refine X3 (W7 rfl ?_ ?_)|refine X4 (W7 rfl ?_ ?_)|refine X5 (W7 rfl ?_ ?_))
  all_goals (try (conv => whnf))
  all_goals (try first|exact Ob.mk (u8_bnd _)|(refine Ob.mk ?_;first|exact True.intro|assumption|omega|(try simp only [ZA,ZB,ZC,ZD,ZE,ZF,ZG,ZH,ZI,ZJ,ZK,ZL,ZM,ZN,ZO,Int.toNat_natCast,UInt8.ofNat_toNat,cast_eq] at *;omega)))
  all_goals (try first|(show (_:Int) = _;omega)|(show tupSV _ = _;with_unfolding_all rfl)|((first|show (_:Nat) ≤ _|show (_:Nat) ≤ _ ∧ (_:Nat) ≤ _|show (_:Int) ≤ _ ∧ (_:Int) ≤ _ ∧ (_:Int) ≤ _ ∧ (_:Int) ≤ _);(simp <;> omega)))
  refine LoopStop.mk (α := Int × Nat) (fun a => [(8, .int .i64 a.1), (1, .int .i64 (a.2 : Nat))]) (fun _ => []) 0 (fun a => 0 ≤ a.1 ∧ a.1 ≤ 1114112 ∧ a.2 ≤ s.length ∧ digsL base (s.drop a.2) a.1 a.2 = digsL base (s.drop at_.toNat) 0 at_) (fun a => s.length - a.2) (0, at_.toNat) ⟨by simp, by simp, by simp; omega, by rw [show ((at_.toNat : Nat) : Int) = at_ by omega]⟩ ?_ (fun a ha => ?_)
  · repeat' ((conv => whnf);first|(with_reducible first|rfl|exact absTF|exact absFT)|exact True.intro|intro _|refine And.intro ?_ ?_|refine Fin.mk ?_|refine W1 rfl ?_ ?_|refine W2 rfl ?_ ?_|refine W3 rfl ?_ ?_|refine W4 ?_ ?_|refine W5 rfl ?_ ?_|refine W6 ?_ ?_|refine AppN.mk ?_|refine X1 (W1 rfl ?_ ?_)|refine X1 (W2 rfl ?_ ?_)|refine X2 (W7 rfl ?_ ?_)|refine X3 (W7 rfl ?_ ?_)|refine X4 (W7 rfl ?_ ?_)|refine X5 (W7 rfl ?_ ?_))
    all_goals (try (conv => whnf))
    all_goals (try first|exact Ob.mk (u8_bnd _)|(refine Ob.mk ?_;first|exact True.intro|assumption|omega|(try simp only [ZA,ZB,ZC,ZD,ZE,ZF,ZG,ZH,ZI,ZJ,ZK,ZL,ZM,ZN,ZO,Int.toNat_natCast,UInt8.ofNat_toNat,cast_eq] at *;omega)))
    all_goals (try first|(show (_:Int) = _;omega)|(show tupSV _ = _;with_unfolding_all rfl)|((first|show (_:Nat) ≤ _|show (_:Nat) ≤ _ ∧ (_:Nat) ≤ _|show (_:Int) ≤ _ ∧ (_:Int) ≤ _ ∧ (_:Int) ≤ _ ∧ (_:Int) ≤ _);(simp <;> omega)))
    all_goals (try rfl)
  · obtain ⟨n, i⟩ := a
    obtain ⟨a1, a2, a3, a4⟩ := ha
    dsimp only at a1 a2 a3 a4 ⊢
    have hh := hexI_le (s.getD i 0).toNat
    have hstep := digs_step (base := base) (s := s) (i := i) (n := n)
    have hend := digs_end (base := base) (s := s) (i := i) (n := n)
    have hm : 0 ≤ n * base ∧ n * base ≤ 17825792 := by rcases p4 with rfl | rfl <;> omega
    repeat' ((conv => whnf);first|(with_reducible first|rfl|exact absTF|exact absFT)|exact True.intro|intro _|refine And.intro ?_ ?_|refine Fin.mk ?_|refine W1 rfl ?_ ?_|refine W2 rfl ?_ ?_|refine W3 rfl ?_ ?_|refine W4 ?_ ?_|refine W5 rfl ?_ ?_|refine W6 ?_ ?_|refine AppN.mk ?_|refine X1 (W1 rfl ?_ ?_)|refine X1 (W2 rfl ?_ ?_)|refine X2 (W7 rfl ?_ ?_)|refine X3 (W7 rfl ?_ ?_)|refine X4 (W7 rfl ?_ ?_)|refine X5 (W7 rfl ?_ ?_))
    all_goals (try (conv => whnf))
    all_goals (try first|exact Ob.mk (u8_bnd _)|(refine Ob.mk ?_;first|exact True.intro|assumption|omega|(try simp only [ZA,ZB,ZC,ZD,ZE,ZF,ZG,ZH,ZI,ZJ,ZK,ZL,ZM,ZN,ZO,Int.toNat_natCast,UInt8.ofNat_toNat,cast_eq] at *;omega)))
    all_goals (try first|(show (_:Int) = _;omega)|(show tupSV _ = _;with_unfolding_all rfl)|((first|show (_:Nat) ≤ _|show (_:Nat) ≤ _ ∧ (_:Nat) ≤ _|show (_:Int) ≤ _ ∧ (_:Int) ≤ _ ∧ (_:Int) ≤ _ ∧ (_:Int) ≤ _);(simp <;> omega)))
    all_goals (try (simp only [Int.toNat_natCast, Int.reduceToNat, Ty.dflt, cast_eq] at *))
    all_goals (try simp only [ZA,ZB,ZC,ZD,ZE,ZF,ZG,ZH,ZI,ZJ,ZK,ZL,ZM,ZN,ZO,Bool.and_eq_false_iff,Bool.or_eq_false_iff,ge_iff_le,gt_iff_lt,Int.toNat_natCast,UInt8.ofNat_toNat,cast_eq] at *)
    all_goals (try omega)
    all_goals (try (have hlt : i < s.length := by omega))
    all_goals (try (have hst := hstep hlt))
    · rw [← a4, hst, if_pos ‹_›]
    · rw [← a4, hst, if_pos ‹_›]
    · refine Rnd.mk ⟨(1114112, i + 1), ?_, ?_, ?_⟩
      · refine ⟨by simp, by simp, hlt, ?_⟩
        rw [← a4, hst, if_neg (by omega)]
        congr 1; omega
      · simp only; omega
      · repeat' ((conv => whnf);first|(with_reducible first|rfl|exact absTF|exact absFT)|exact True.intro|intro _|refine And.intro ?_ ?_|refine Fin.mk ?_|refine W1 rfl ?_ ?_|refine W2 rfl ?_ ?_|refine W3 rfl ?_ ?_|refine W4 ?_ ?_|refine W5 rfl ?_ ?_|refine W6 ?_ ?_|refine AppN.mk ?_|refine X1 (W1 rfl ?_ ?_)|refine X1 (W2 rfl ?_ ?_)|refine X2 (W7 rfl ?_ ?_)|refine X3 (W7 rfl ?_ ?_)|refine X4 (W7 rfl ?_ ?_)|refine X5 (W7 rfl ?_ ?_))
        all_goals (try (conv => whnf))
        all_goals (try first|exact Ob.mk (u8_bnd _)|(refine Ob.mk ?_;first|exact True.intro|assumption|omega|(try simp only [ZA,ZB,ZC,ZD,ZE,ZF,ZG,ZH,ZI,ZJ,ZK,ZL,ZM,ZN,ZO,Int.toNat_natCast,UInt8.ofNat_toNat,cast_eq] at *;omega)))
        all_goals (try first|(show (_:Int) = _;omega)|(show tupSV _ = _;with_unfolding_all rfl)|((first|show (_:Nat) ≤ _|show (_:Nat) ≤ _ ∧ (_:Nat) ≤ _|show (_:Int) ≤ _ ∧ (_:Int) ≤ _ ∧ (_:Int) ≤ _ ∧ (_:Int) ≤ _);(simp <;> omega)))
    · refine Rnd.mk ⟨(n * base + hexI (s.getD i 0).toNat, i + 1), ?_, ?_, ?_⟩
      · refine ⟨by simp only; omega, by simp only; omega, hlt, ?_⟩
        rw [← a4, hst, if_neg (by omega)]
        congr 1; omega
      · simp only; omega
      · repeat' ((conv => whnf);first|(with_reducible first|rfl|exact absTF|exact absFT)|exact True.intro|intro _|refine And.intro ?_ ?_|refine Fin.mk ?_|refine W1 rfl ?_ ?_|refine W2 rfl ?_ ?_|refine W3 rfl ?_ ?_|refine W4 ?_ ?_|refine W5 rfl ?_ ?_|refine W6 ?_ ?_|refine AppN.mk ?_|refine X1 (W1 rfl ?_ ?_)|refine X1 (W2 rfl ?_ ?_)|refine X2 (W7 rfl ?_ ?_)|refine X3 (W7 rfl ?_ ?_)|refine X4 (W7 rfl ?_ ?_)|refine X5 (W7 rfl ?_ ?_))
        all_goals (try (conv => whnf))
        all_goals (try first|exact Ob.mk (u8_bnd _)|(refine Ob.mk ?_;first|exact True.intro|assumption|omega|(try simp only [ZA,ZB,ZC,ZD,ZE,ZF,ZG,ZH,ZI,ZJ,ZK,ZL,ZM,ZN,ZO,Int.toNat_natCast,UInt8.ofNat_toNat,cast_eq] at *;omega)))
        all_goals (try first|(show (_:Int) = _;omega)|(show tupSV _ = _;with_unfolding_all rfl)|((first|show (_:Nat) ≤ _|show (_:Nat) ≤ _ ∧ (_:Nat) ≤ _|show (_:Int) ≤ _ ∧ (_:Int) ≤ _ ∧ (_:Int) ≤ _ ∧ (_:Int) ≤ _);(simp <;> omega)))
    · rw [← a4, hend (by omega)]
    · rw [← a4, hend (by omega)]
theorem an_def (c : UInt8) : (alI (c.toNat : Int) || decide (48 ≤ (c.toNat : Int)) && decide ((c.toNat : Int) ≤ 57)) = anB c := rfl
theorem let_step {s : List UInt8} {i : Nat} (h : i < s.length) (hi : i < 8) : letN (8 - i) (s.drop i) = if anB (s.getD i 0) = true then letN (8 - (i + 1)) (s.drop (i + 1)) + 1 else 0 := by
  rw [List.drop_eq_getElem_cons h, show 8 - i = (8 - (i + 1)) + 1 by omega, letN]
  have e : s.getD i 0 = s[i] := by simp [List.getD, List.getElem?_eq_getElem h]
  rw [e]
theorem let_end {s : List UInt8} {i : Nat} (h : s.length ≤ i ∨ 8 ≤ i) : letN (8 - i) (s.drop i) = 0 := by
  rcases h with h | h
  · rw [List.drop_of_length_le h]; cases 8 - i <;> rfl
  · rw [show 8 - i = 0 by omega]; rfl
instance fLetN (s : List UInt8) : Fn BB 43 [.str s] (s.length ≤ 100000) (.int .i64 (letN 8 s)) := by
  refine Fn.intro (N := 33) [0, 2, 3, 29] [] Tryz.call43 Tryz.func43 rfl rfl (by kernel_rfl) (fun hpre => ?_)
  repeat' ((conv => whnf);first|(with_reducible first|rfl|exact absTF|exact absFT)|exact True.intro|intro _|refine And.intro ?_ ?_|refine Fin.mk ?_|refine W1 rfl ?_ ?_|refine W2 rfl ?_ ?_|refine W3 rfl ?_ ?_|refine W4 ?_ ?_|refine W5 rfl ?_ ?_|refine W6 ?_ ?_|refine AppN.mk ?_|refine X1 (W1 rfl ?_ ?_)|refine X1 (W2 rfl ?_ ?_)|refine X2 (W7 rfl ?_ ?_)|refine X3 (W7 rfl ?_ ?_)|refine X4 (W7 rfl ?_ ?_)|refine X5 (W7 rfl ?_ ?_))
  all_goals (try (conv => whnf))
  all_goals (try first|exact Ob.mk (u8_bnd _)|(refine Ob.mk ?_;first|exact True.intro|assumption|omega|(try simp only [ZA,ZB,ZC,ZD,ZE,ZF,ZG,ZH,ZI,ZJ,ZK,ZL,ZM,ZN,ZO,Int.toNat_natCast,UInt8.ofNat_toNat,cast_eq] at *;omega)))
  all_goals (try first|(show (_:Int) = _;omega)|(show tupSV _ = _;with_unfolding_all rfl)|((first|show (_:Nat) ≤ _|show (_:Nat) ≤ _ ∧ (_:Nat) ≤ _|show (_:Int) ≤ _ ∧ (_:Int) ≤ _ ∧ (_:Int) ≤ _ ∧ (_:Int) ≤ _);(simp <;> omega)))
  refine LoopStop.mk (α := Nat) (fun i => [(3, .int .i64 i)]) (fun _ => []) 0 (fun i => i ≤ s.length ∧ i ≤ 8 ∧ letN 8 s = i + letN (8 - i) (s.drop i)) (fun i => 8 - i) 0 (by simp) ?_ (fun i hi => ?_)
  · repeat' ((conv => whnf);first|(with_reducible first|rfl|exact absTF|exact absFT)|exact True.intro|intro _|refine And.intro ?_ ?_|refine Fin.mk ?_|refine W1 rfl ?_ ?_|refine W2 rfl ?_ ?_|refine W3 rfl ?_ ?_|refine W4 ?_ ?_|refine W5 rfl ?_ ?_|refine W6 ?_ ?_|refine AppN.mk ?_|refine X1 (W1 rfl ?_ ?_)|refine X1 (W2 rfl ?_ ?_)|refine X2 (W7 rfl ?_ ?_)|refine X3 (W7 rfl ?_ ?_)|refine X4 (W7 rfl ?_ ?_)|refine X5 (W7 rfl ?_ ?_))
    all_goals (try (conv => whnf))
    all_goals (try first|exact Ob.mk (u8_bnd _)|(refine Ob.mk ?_;first|exact True.intro|assumption|omega|(try simp only [ZA,ZB,ZC,ZD,ZE,ZF,ZG,ZH,ZI,ZJ,ZK,ZL,ZM,ZN,ZO,Int.toNat_natCast,UInt8.ofNat_toNat,cast_eq] at *;omega)))
    all_goals (try first|(show (_:Int) = _;omega)|(show tupSV _ = _;with_unfolding_all rfl)|((first|show (_:Nat) ≤ _|show (_:Nat) ≤ _ ∧ (_:Nat) ≤ _|show (_:Int) ≤ _ ∧ (_:Int) ≤ _ ∧ (_:Int) ≤ _ ∧ (_:Int) ≤ _);(simp <;> omega)))
    all_goals (try rfl)
  · obtain ⟨h1, h2, h3⟩ := hi
    have hstep := let_step (s := s) (i := i)
    have hend := let_end (s := s) (i := i)
    repeat' ((conv => whnf);first|(with_reducible first|rfl|exact absTF|exact absFT)|exact True.intro|intro _|refine And.intro ?_ ?_|refine Fin.mk ?_|refine W1 rfl ?_ ?_|refine W2 rfl ?_ ?_|refine W3 rfl ?_ ?_|refine W4 ?_ ?_|refine W5 rfl ?_ ?_|refine W6 ?_ ?_|refine AppN.mk ?_|refine X1 (W1 rfl ?_ ?_)|refine X1 (W2 rfl ?_ ?_)|refine X2 (W7 rfl ?_ ?_)|refine X3 (W7 rfl ?_ ?_)|refine X4 (W7 rfl ?_ ?_)|refine X5 (W7 rfl ?_ ?_))
    all_goals (try (conv => whnf))
    all_goals (try first|exact Ob.mk (u8_bnd _)|(refine Ob.mk ?_;first|exact True.intro|assumption|omega|(try simp only [ZA,ZB,ZC,ZD,ZE,ZF,ZG,ZH,ZI,ZJ,ZK,ZL,ZM,ZN,ZO,Int.toNat_natCast,UInt8.ofNat_toNat,cast_eq] at *;omega)))
    all_goals (try first|(show (_:Int) = _;omega)|(show tupSV _ = _;with_unfolding_all rfl)|((first|show (_:Nat) ≤ _|show (_:Nat) ≤ _ ∧ (_:Nat) ≤ _|show (_:Int) ≤ _ ∧ (_:Int) ≤ _ ∧ (_:Int) ≤ _ ∧ (_:Int) ≤ _);(simp <;> omega)))
    all_goals (try (simp only [Int.toNat_natCast, Int.reduceToNat, Ty.dflt, cast_eq] at *))
    all_goals (simp only [an_def] at *)
    all_goals (try simp only [ZA,ZB,ZC,ZD,ZE,ZF,ZG,ZH,ZI,ZJ,ZK,ZL,ZM,ZN,ZO,Bool.and_eq_false_iff,Bool.or_eq_false_iff,ge_iff_le,gt_iff_lt,Int.toNat_natCast,UInt8.ofNat_toNat,cast_eq] at *)
    · obtain ⟨⟨g1, g2⟩, g3⟩ := ‹_ ∧ anB _ = true›
      have hst := hstep (by omega) (by omega)
      rw [if_pos g3] at hst
      refine Rnd.mk ⟨i + 1, ?_, ?_, ?_⟩
      · exact ⟨by omega, by omega, by omega⟩
      · omega
      · repeat' ((conv => whnf);first|(with_reducible first|rfl|exact absTF|exact absFT)|exact True.intro|intro _|refine And.intro ?_ ?_|refine Fin.mk ?_|refine W1 rfl ?_ ?_|refine W2 rfl ?_ ?_|refine W3 rfl ?_ ?_|refine W4 ?_ ?_|refine W5 rfl ?_ ?_|refine W6 ?_ ?_|refine AppN.mk ?_|refine X1 (W1 rfl ?_ ?_)|refine X1 (W2 rfl ?_ ?_)|refine X2 (W7 rfl ?_ ?_)|refine X3 (W7 rfl ?_ ?_)|refine X4 (W7 rfl ?_ ?_)|refine X5 (W7 rfl ?_ ?_))
        all_goals (try (conv => whnf))
        all_goals (try first|exact Ob.mk (u8_bnd _)|(refine Ob.mk ?_;first|exact True.intro|assumption|omega|(try simp only [ZA,ZB,ZC,ZD,ZE,ZF,ZG,ZH,ZI,ZJ,ZK,ZL,ZM,ZN,ZO,Int.toNat_natCast,UInt8.ofNat_toNat,cast_eq] at *;omega)))
        all_goals (try first|(show (_:Int) = _;omega)|(show tupSV _ = _;with_unfolding_all rfl)|((first|show (_:Nat) ≤ _|show (_:Nat) ≤ _ ∧ (_:Nat) ≤ _|show (_:Int) ≤ _ ∧ (_:Int) ≤ _ ∧ (_:Int) ≤ _ ∧ (_:Int) ≤ _);(simp <;> omega)))
    · have : letN (8 - i) (s.drop i) = 0 := by
        by_cases h8 : s.length ≤ i ∨ 8 ≤ i
        · exact hend h8
        · rw [hstep (by omega) (by omega), if_neg]
          rcases ‹(_ ∨ _) ∨ anB _ = false› with g | g
          · omega
          · rw [g]; simp
      omega
theorem hexS_or (s : List UInt8) (h : 2 < s.length) : (bitsI .or .u8 ((s.getD 2 0).toNat : Int) 32 == 120) = hexS s := by
  have key : ∀ k : _root_.Fin 256, (bitsI .or .u8 (k.val : Int) 32 == 120) = ((k.val : Int) == 120 || (k.val : Int) == 88) := by decide +kernel
  unfold hexS
  have h2 : decide (s.length > 2) = true := by simpa using h
  rw [h2, Bool.true_and, ← u8_120, ← u8_88]
  exact key ⟨(s.getD 2 0).toNat, (s.getD 2 0).toNat_lt⟩
theorem hexS_len {s : List UInt8} (h : hexS s = true) : 2 < s.length := by
  simp only [hexS, Bool.and_eq_true, decide_eq_true_eq] at h; exact h.1
theorem hexS_no {s : List UInt8} (h : s.length ≤ 2) : hexS s = false := by
  unfold hexS; rw [show decide (s.length > 2) = false by simpa using h]; rfl
theorem numAt_bound {s : List UInt8} (h : 2 ≤ s.length) : 2 ≤ (numAt s).2 ∧ (numAt s).2 ≤ s.length := by
  unfold numAt
  by_cases hx : hexS s = true
  · rw [if_pos hx]
    have := digsL_bound 16 (s.drop 3) 0 3
    have := hexS_len hx
    simp only [List.length_drop] at *
    omega
  · rw [if_neg hx]
    have := digsL_bound 10 (s.drop 2) 0 2
    simp only [List.length_drop] at *
    omega
theorem hexC (s : List UInt8) : (decide ((s.length : Int) > 2) && bitsI .or .u8 ((s.getD 2 0).toNat : Int) 32 == 120) = hexS s := by
  by_cases h : 2 < s.length
  · rw [hexS_or s h, show decide ((s.length : Int) > 2) = true from decide_eq_true (by omega), Bool.true_and]
  · rw [hexS_no (by omega), show decide ((s.length : Int) > 2) = false from decide_eq_false (by omega), Bool.false_and]
theorem hexC2 (s : List UInt8) : (decide ((s.length : Int) > 2) && (((s.getD 2 0).toNat : Int) == 120 || ((s.getD 2 0).toNat : Int) == 88)) = hexS s := by
  rw [u8_120, u8_88]
  unfold hexS
  congr 1
  rw [decide_eq_decide]; omega
def hexFrom (s : List UInt8) : Int := if hexS s = true then 3 else 2
theorem numberF_no {s : List UInt8} (h : (numAt s).2 = hexFrom s) : numberF s = ([], 0) := by
  unfold numberF; exact if_pos h
theorem numberF_semi {s : List UInt8} (h : ¬ (numAt s).2 = hexFrom s) (h2 : (numAt s).2 < s.length ∧ s.getD (numAt s).2.toNat 0 = 59) : numberF s = (numF (numAt s).1, (numAt s).2 + 1) := by
  unfold numberF; refine (if_neg h).trans ?_; rw [if_pos h2]
theorem numberF_bare {s : List UInt8} (h : ¬ (numAt s).2 = hexFrom s) (h2 : ¬ ((numAt s).2 < s.length ∧ s.getD (numAt s).2.toNat 0 = 59)) : numberF s = (numF (numAt s).1, (numAt s).2) := by
  unfold numberF; refine (if_neg h).trans ?_; rw [if_neg h2]
theorem numAt_hex {s : List UInt8} (h : hexS s = true) : digsL 16 (s.drop 3) 0 3 = numAt s ∧ hexFrom s = 3 := by
  unfold numAt hexFrom; rw [if_pos h, if_pos h]; exact ⟨rfl, rfl⟩
theorem numAt_dec {s : List UInt8} (h : hexS s = false) : digsL 10 (s.drop 2) 0 2 = numAt s ∧ hexFrom s = 2 := by
  unfold numAt hexFrom; rw [h]; exact ⟨rfl, rfl⟩
instance fNum (s : List UInt8) : Fn BB 42 [.str s] (2 ≤ s.length ∧ s.length ≤ 100000) (.tup [.str (numberF s).1, .int .i64 (numberF s).2]) := by
  refine Fn.intro (N := 42) [0, 2, 3, 4, 5, 6, 7, 16, 26, 36] [] Tryz.call42 Tryz.func42 rfl rfl (by kernel_rfl) (fun hpre => ?_)
  obtain ⟨p1, p2⟩ := hpre
  have hb := numAt_bound p1
  have hA := numAt_hex (s := s)
  have hB := numAt_dec (s := s)
  have hl := hexS_len (s := s)
  repeat' ((conv => whnf);first|(with_reducible first|rfl|exact absTF|exact absFT)|exact True.intro|intro _|refine And.intro ?_ ?_|refine Fin.mk ?_|refine W1 rfl ?_ ?_|refine W2 rfl ?_ ?_|refine W3 rfl ?_ ?_|refine W4 ?_ ?_|refine W5 rfl ?_ ?_|refine W6 ?_ ?_|refine AppN.mk ?_|refine X1 (W1 rfl ?_ ?_)|refine X1 (W2 rfl ?_ ?_)|refine X2 (W7 rfl ?_ ?_)|refine X3 (W7 rfl ?_ ?_)|refine X4 (W7 rfl ?_ ?_)|refine X5 (W7 rfl ?_ ?_))
  all_goals (try (conv => whnf))
  all_goals (try first|exact Ob.mk (u8_bnd _)|(refine Ob.mk ?_;first|exact True.intro|assumption|omega|(try simp only [ZA,ZB,ZC,ZD,ZE,ZF,ZG,ZH,ZI,ZJ,ZK,ZL,ZM,ZN,ZO,Int.toNat_natCast,UInt8.ofNat_toNat,cast_eq] at *;omega)))
  all_goals (try first|(show (_:Int) = _;omega)|(show tupSV _ = _;with_unfolding_all rfl)|((first|show (_:Nat) ≤ _|show (_:Nat) ≤ _ ∧ (_:Nat) ≤ _|show (_:Int) ≤ _ ∧ (_:Int) ≤ _ ∧ (_:Int) ≤ _ ∧ (_:Int) ≤ _);(simp <;> omega)))
  all_goals (try (simp only [Int.toNat_natCast, Int.reduceToNat, Ty.dflt, cast_eq] at *))
  all_goals (simp only [hexC, u8_59] at *)
  all_goals (first | (have hx := ‹hexS s = true›; have e2 := (hA hx).2; have hl3 := hl hx; clear hA hB hl; (try (simp only [(numAt_hex hx).1] at *))) | (have hx := ‹hexS s = false›; have e2 := (hB hx).2; clear hA hB hl; (try (simp only [(numAt_dec hx).1] at *))) | skip)
  all_goals (try (simp only [or_true, true_or, and_true]))
  all_goals (try simp only [ZA,ZB,ZC,ZD,ZE,ZF,ZG,ZH,ZI,ZJ,ZK,ZL,ZM,ZN,ZO,Bool.and_eq_false_iff,Bool.or_eq_false_iff,ge_iff_le,gt_iff_lt,Int.toNat_natCast,UInt8.ofNat_toNat,cast_eq] at *)
  all_goals (try omega)
  all_goals (try (show InI64 _; constructor <;> omega))
  all_goals (try (rw [numberF_no (by rw [e2]; assumption)]))
  all_goals (try (rw [numberF_semi (by rw [e2]; assumption) (by assumption)]))
  all_goals (try (rw [numberF_bare (by rw [e2]; assumption) (by rintro ⟨g1, g2⟩; rcases ‹_ ∨ _› with g | g; omega; exact g g2)]))
end Go.Vc

namespace Go.Vc
open Go.Proofs
set_option maxRecDepth 10000
instance fRNum (s : List UInt8) : Fn BB 66 [.str s] (2 ≤ s.length ∧ s.length ≤ 100000) (.tup [.str (numberF s).1, .int .i64 (numberF s).2]) := by
  refine Fn.intro (N := 64) [0, 2, 3, 4, 5, 6, 7, 8, 21, 26, 37, 48, 58] [] Tryz.call66 Tryz.func66 rfl rfl (by kernel_rfl) (fun hpre => ?_)
  obtain ⟨p1, p2⟩ := hpre
  have hb := numAt_bound p1
  cases hx : hexS s
  · have hx' := hx
    obtain ⟨hA, hF⟩ := numAt_dec hx
    repeat' ((conv => whnf);first|(with_reducible first|rfl|exact absTF|exact absFT)|exact True.intro|intro _|refine And.intro ?_ ?_|refine Fin.mk ?_|refine W1 rfl ?_ ?_|refine W2 rfl ?_ ?_|refine W3 rfl ?_ ?_|refine W4 ?_ ?_|refine W5 rfl ?_ ?_|refine W6 ?_ ?_|refine AppN.mk ?_|refine X1 (W1 rfl ?_ ?_)|refine X1 (W2 rfl ?_ ?_)|refine X2 (W7 rfl ?_ ?_)|refine X3 (W7 rfl ?_ ?_)|refine X4 (W7 rfl ?_ ?_)|refine X5 (W7 rfl ?_ ?_))
    all_goals (try (conv => whnf))
    all_goals (try first|exact Ob.mk (u8_bnd _)|(refine Ob.mk ?_;first|exact True.intro|assumption|omega|(try simp only [ZA,ZB,ZC,ZD,ZE,ZF,ZG,ZH,ZI,ZJ,ZK,ZL,ZM,ZN,ZO,Int.toNat_natCast,UInt8.ofNat_toNat,cast_eq] at *;omega)))
    all_goals (try first|(show (_:Int) = _;omega)|(show tupSV _ = _;with_unfolding_all rfl)|((first|show (_:Nat) ≤ _|show (_:Nat) ≤ _ ∧ (_:Nat) ≤ _|show (_:Int) ≤ _ ∧ (_:Int) ≤ _ ∧ (_:Int) ≤ _ ∧ (_:Int) ≤ _);(simp <;> omega)))
    all_goals (try (simp only [Int.toNat_natCast, Int.reduceToNat, Ty.dflt, cast_eq] at *))
    all_goals (simp only [hexC2] at *)
    all_goals (first | (exfalso; rw [hx] at *; contradiction) | skip)
    refine LoopStop.mk (α := Int × Nat) (fun a => [(6, .int .i64 a.1), (4, .int .i64 (a.2 : Nat))]) (fun _ => []) 0 (fun a => 0 ≤ a.1 ∧ a.1 ≤ 1114112 ∧ 2 ≤ a.2 ∧ a.2 ≤ s.length ∧ digsL 10 (s.drop a.2) a.1 a.2 = numAt s) (fun a => s.length - a.2) (0, 2) ⟨by simp, by simp, by simp, by simp; omega, by exact hA⟩ ?_ (fun a ha => ?_)
    · repeat' ((conv => whnf);first|(with_reducible first|rfl|exact absTF|exact absFT)|exact True.intro|intro _|refine And.intro ?_ ?_|refine Fin.mk ?_|refine W1 rfl ?_ ?_|refine W2 rfl ?_ ?_|refine W3 rfl ?_ ?_|refine W4 ?_ ?_|refine W5 rfl ?_ ?_|refine W6 ?_ ?_|refine AppN.mk ?_|refine X1 (W1 rfl ?_ ?_)|refine X1 (W2 rfl ?_ ?_)|refine X2 (W7 rfl ?_ ?_)|refine X3 (W7 rfl ?_ ?_)|refine X4 (W7 rfl ?_ ?_)|refine X5 (W7 rfl ?_ ?_))
      all_goals (try (conv => whnf))
      all_goals (try first|exact Ob.mk (u8_bnd _)|(refine Ob.mk ?_;first|exact True.intro|assumption|omega|(try simp only [ZA,ZB,ZC,ZD,ZE,ZF,ZG,ZH,ZI,ZJ,ZK,ZL,ZM,ZN,ZO,Int.toNat_natCast,UInt8.ofNat_toNat,cast_eq] at *;omega)))
      all_goals (try first|(show (_:Int) = _;omega)|(show tupSV _ = _;with_unfolding_all rfl)|((first|show (_:Nat) ≤ _|show (_:Nat) ≤ _ ∧ (_:Nat) ≤ _|show (_:Int) ≤ _ ∧ (_:Int) ≤ _ ∧ (_:Int) ≤ _ ∧ (_:Int) ≤ _);(simp <;> omega)))
      all_goals (try rfl)
    · obtain ⟨n, i⟩ := a
      obtain ⟨a1, a2, a0, a3, a4⟩ := ha
      dsimp only at a1 a2 a3 a0 a4 ⊢
      have hh := hexI_le (s.getD i 0).toNat
      have hstep := digs_step (base := 10) (s := s) (i := i) (n := n)
      have hend := digs_end (base := 10) (s := s) (i := i) (n := n)
      repeat' ((conv => whnf);first|(with_reducible first|rfl|exact absTF|exact absFT)|exact True.intro|intro _|refine And.intro ?_ ?_|refine Fin.mk ?_|refine W1 rfl ?_ ?_|refine W2 rfl ?_ ?_|refine W3 rfl ?_ ?_|refine W4 ?_ ?_|refine W5 rfl ?_ ?_|refine W6 ?_ ?_|refine AppN.mk ?_|refine X1 (W1 rfl ?_ ?_)|refine X1 (W2 rfl ?_ ?_)|refine X2 (W7 rfl ?_ ?_)|refine X3 (W7 rfl ?_ ?_)|refine X4 (W7 rfl ?_ ?_)|refine X5 (W7 rfl ?_ ?_))
      all_goals (try (conv => whnf))
      all_goals (try first|exact Ob.mk (u8_bnd _)|(refine Ob.mk ?_;first|exact True.intro|assumption|omega|(try simp only [ZA,ZB,ZC,ZD,ZE,ZF,ZG,ZH,ZI,ZJ,ZK,ZL,ZM,ZN,ZO,Int.toNat_natCast,UInt8.ofNat_toNat,cast_eq] at *;omega)))
      all_goals (try first|(show (_:Int) = _;omega)|(show tupSV _ = _;with_unfolding_all rfl)|((first|show (_:Nat) ≤ _|show (_:Nat) ≤ _ ∧ (_:Nat) ≤ _|show (_:Int) ≤ _ ∧ (_:Int) ≤ _ ∧ (_:Int) ≤ _ ∧ (_:Int) ≤ _);(simp <;> omega)))
      all_goals (try (simp only [Int.toNat_natCast, Int.reduceToNat, Ty.dflt, cast_eq] at *))
      all_goals (try (simp only [u8_59] at *))
      all_goals (try simp only [ZA,ZB,ZC,ZD,ZE,ZF,ZG,ZH,ZI,ZJ,ZK,ZL,ZM,ZN,ZO,Bool.and_eq_false_iff,Bool.or_eq_false_iff,ge_iff_le,gt_iff_lt,Int.toNat_natCast,UInt8.ofNat_toNat,cast_eq] at *)
      all_goals (try omega)
      all_goals (try (show InI64 _; constructor <;> omega))
      all_goals (first
        | (have hge : s.length ≤ i := by omega
           have e := a4.symm.trans (hend hge))
        | (have hlt : i < s.length := by omega
           have e := (a4.symm.trans (hstep hlt)).trans (if_pos (by omega)))
        | skip)
      all_goals (try (rw [numberF_no (by rw [e, hF]; show (i : Int) = _; omega)]; done))
      all_goals (try (rw [numberF_semi (by rw [e, hF]; show ¬ (i : Int) = _; omega) (by rw [e]; refine ⟨?_, ?_⟩; (show (i : Int) < _; omega); simpa using ‹_ ∧ _›.2), e]; done))
      all_goals (try (rw [numberF_bare (by rw [e, hF]; show ¬ (i : Int) = _; omega) (by rw [e]; rintro ⟨g1, g2⟩; simp only [Int.toNat_natCast] at g1 g2; rcases ‹_ ∨ _› with g | g; omega; exact g g2), e]; done))
      refine Rnd.mk ⟨(min (n * 10 + hexI (s.getD i 0).toNat) 1114112, i + 1), ?_, ?_, ?_⟩
      · have hlt : i < s.length := by omega
        have e := (a4.symm.trans (hstep hlt)).trans (if_neg (by omega))
        exact ⟨by simp only; omega, by simp only; omega, by simp only; omega, hlt, e.symm⟩
      · simp only; omega
      · repeat' ((conv => whnf);first|(with_reducible first|rfl|exact absTF|exact absFT)|exact True.intro|intro _|refine And.intro ?_ ?_|refine Fin.mk ?_|refine W1 rfl ?_ ?_|refine W2 rfl ?_ ?_|refine W3 rfl ?_ ?_|refine W4 ?_ ?_|refine W5 rfl ?_ ?_|refine W6 ?_ ?_|refine AppN.mk ?_|refine X1 (W1 rfl ?_ ?_)|refine X1 (W2 rfl ?_ ?_)|refine X2 (W7 rfl ?_ ?_)|refine X3 (W7 rfl ?_ ?_)|refine X4 (W7 rfl ?_ ?_)|refine X5 (W7 rfl ?_ ?_))
        all_goals (try (conv => whnf))
        all_goals (try first|exact Ob.mk (u8_bnd _)|(refine Ob.mk ?_;first|exact True.intro|assumption|omega|(try simp only [ZA,ZB,ZC,ZD,ZE,ZF,ZG,ZH,ZI,ZJ,ZK,ZL,ZM,ZN,ZO,Int.toNat_natCast,UInt8.ofNat_toNat,cast_eq] at *;omega)))
        all_goals (try first|(show (_:Int) = _;omega)|(show tupSV _ = _;with_unfolding_all rfl)|((first|show (_:Nat) ≤ _|show (_:Nat) ≤ _ ∧ (_:Nat) ≤ _|show (_:Int) ≤ _ ∧ (_:Int) ≤ _ ∧ (_:Int) ≤ _ ∧ (_:Int) ≤ _);(simp <;> omega)))
        all_goals (try rfl)
  · have hx' := hx
    obtain ⟨hA, hF⟩ := numAt_hex hx
    have hl3 := hexS_len hx
    repeat' ((conv => whnf);first|(with_reducible first|rfl|exact absTF|exact absFT)|exact True.intro|intro _|refine And.intro ?_ ?_|refine Fin.mk ?_|refine W1 rfl ?_ ?_|refine W2 rfl ?_ ?_|refine W3 rfl ?_ ?_|refine W4 ?_ ?_|refine W5 rfl ?_ ?_|refine W6 ?_ ?_|refine AppN.mk ?_|refine X1 (W1 rfl ?_ ?_)|refine X1 (W2 rfl ?_ ?_)|refine X2 (W7 rfl ?_ ?_)|refine X3 (W7 rfl ?_ ?_)|refine X4 (W7 rfl ?_ ?_)|refine X5 (W7 rfl ?_ ?_))
    all_goals (try (conv => whnf))
    all_goals (try first|exact Ob.mk (u8_bnd _)|(refine Ob.mk ?_;first|exact True.intro|assumption|omega|(try simp only [ZA,ZB,ZC,ZD,ZE,ZF,ZG,ZH,ZI,ZJ,ZK,ZL,ZM,ZN,ZO,Int.toNat_natCast,UInt8.ofNat_toNat,cast_eq] at *;omega)))
    all_goals (try first|(show (_:Int) = _;omega)|(show tupSV _ = _;with_unfolding_all rfl)|((first|show (_:Nat) ≤ _|show (_:Nat) ≤ _ ∧ (_:Nat) ≤ _|show (_:Int) ≤ _ ∧ (_:Int) ≤ _ ∧ (_:Int) ≤ _ ∧ (_:Int) ≤ _);(simp <;> omega)))
    all_goals (try (simp only [Int.toNat_natCast, Int.reduceToNat, Ty.dflt, cast_eq] at *))
    all_goals (simp only [hexC2] at *)
    all_goals (first | (exfalso; rw [hx] at *; contradiction) | skip)
    refine LoopStop.mk (α := Int × Nat) (fun a => [(6, .int .i64 a.1), (4, .int .i64 (a.2 : Nat))]) (fun _ => []) 0 (fun a => 0 ≤ a.1 ∧ a.1 ≤ 1114112 ∧ 3 ≤ a.2 ∧ a.2 ≤ s.length ∧ digsL 16 (s.drop a.2) a.1 a.2 = numAt s) (fun a => s.length - a.2) (0, 3) ⟨by simp, by simp, by simp, by simp; omega, by exact hA⟩ ?_ (fun a ha => ?_)
    · repeat' ((conv => whnf);first|(with_reducible first|rfl|exact absTF|exact absFT)|exact True.intro|intro _|refine And.intro ?_ ?_|refine Fin.mk ?_|refine W1 rfl ?_ ?_|refine W2 rfl ?_ ?_|refine W3 rfl ?_ ?_|refine W4 ?_ ?_|refine W5 rfl ?_ ?_|refine W6 ?_ ?_|refine AppN.mk ?_|refine X1 (W1 rfl ?_ ?_)|refine X1 (W2 rfl ?_ ?_)|refine X2 (W7 rfl ?_ ?_)|refine X3 (W7 rfl ?_ ?_)|refine X4 (W7 rfl ?_ ?_)|refine X5 (W7 rfl ?_ ?_))
      all_goals (try (conv => whnf))
      all_goals (try first|exact Ob.mk (u8_bnd _)|(refine Ob.mk ?_;first|exact True.intro|assumption|omega|(try simp only [ZA,ZB,ZC,ZD,ZE,ZF,ZG,ZH,ZI,ZJ,ZK,ZL,ZM,ZN,ZO,Int.toNat_natCast,UInt8.ofNat_toNat,cast_eq] at *;omega)))
      all_goals (try first|(show (_:Int) = _;omega)|(show tupSV _ = _;with_unfolding_all rfl)|((first|show (_:Nat) ≤ _|show (_:Nat) ≤ _ ∧ (_:Nat) ≤ _|show (_:Int) ≤ _ ∧ (_:Int) ≤ _ ∧ (_:Int) ≤ _ ∧ (_:Int) ≤ _);(simp <;> omega)))
      all_goals (try rfl)
    · obtain ⟨n, i⟩ := a
      obtain ⟨a1, a2, a0, a3, a4⟩ := ha
      dsimp only at a1 a2 a3 a0 a4 ⊢
      have hh := hexI_le (s.getD i 0).toNat
      have hstep := digs_step (base := 16) (s := s) (i := i) (n := n)
      have hend := digs_end (base := 16) (s := s) (i := i) (n := n)
      repeat' ((conv => whnf);first|(with_reducible first|rfl|exact absTF|exact absFT)|exact True.intro|intro _|refine And.intro ?_ ?_|refine Fin.mk ?_|refine W1 rfl ?_ ?_|refine W2 rfl ?_ ?_|refine W3 rfl ?_ ?_|refine W4 ?_ ?_|refine W5 rfl ?_ ?_|refine W6 ?_ ?_|refine AppN.mk ?_|refine X1 (W1 rfl ?_ ?_)|refine X1 (W2 rfl ?_ ?_)|refine X2 (W7 rfl ?_ ?_)|refine X3 (W7 rfl ?_ ?_)|refine X4 (W7 rfl ?_ ?_)|refine X5 (W7 rfl ?_ ?_))
      all_goals (try (conv => whnf))
      all_goals (try first|exact Ob.mk (u8_bnd _)|(refine Ob.mk ?_;first|exact True.intro|assumption|omega|(try simp only [ZA,ZB,ZC,ZD,ZE,ZF,ZG,ZH,ZI,ZJ,ZK,ZL,ZM,ZN,ZO,Int.toNat_natCast,UInt8.ofNat_toNat,cast_eq] at *;omega)))
      all_goals (try first|(show (_:Int) = _;omega)|(show tupSV _ = _;with_unfolding_all rfl)|((first|show (_:Nat) ≤ _|show (_:Nat) ≤ _ ∧ (_:Nat) ≤ _|show (_:Int) ≤ _ ∧ (_:Int) ≤ _ ∧ (_:Int) ≤ _ ∧ (_:Int) ≤ _);(simp <;> omega)))
      all_goals (try (simp only [Int.toNat_natCast, Int.reduceToNat, Ty.dflt, cast_eq] at *))
      all_goals (try (simp only [u8_59] at *))
      all_goals (try simp only [ZA,ZB,ZC,ZD,ZE,ZF,ZG,ZH,ZI,ZJ,ZK,ZL,ZM,ZN,ZO,Bool.and_eq_false_iff,Bool.or_eq_false_iff,ge_iff_le,gt_iff_lt,Int.toNat_natCast,UInt8.ofNat_toNat,cast_eq] at *)
      all_goals (try omega)
      all_goals (try (show InI64 _; constructor <;> omega))
      all_goals (first
        | (have hge : s.length ≤ i := by omega
           have e := a4.symm.trans (hend hge))
        | (have hlt : i < s.length := by omega
           have e := (a4.symm.trans (hstep hlt)).trans (if_pos (by omega)))
        | skip)
      all_goals (try (rw [numberF_no (by rw [e, hF]; show (i : Int) = _; omega)]; done))
      all_goals (try (rw [numberF_semi (by rw [e, hF]; show ¬ (i : Int) = _; omega) (by rw [e]; refine ⟨?_, ?_⟩; (show (i : Int) < _; omega); simpa using ‹_ ∧ _›.2), e]; done))
      all_goals (try (rw [numberF_bare (by rw [e, hF]; show ¬ (i : Int) = _; omega) (by rw [e]; rintro ⟨g1, g2⟩; simp only [Int.toNat_natCast] at g1 g2; rcases ‹_ ∨ _› with g | g; omega; exact g g2), e]; done))
      refine Rnd.mk ⟨(min (n * 16 + hexI (s.getD i 0).toNat) 1114112, i + 1), ?_, ?_, ?_⟩
      · have hlt : i < s.length := by omega
        have e := (a4.symm.trans (hstep hlt)).trans (if_neg (by omega))
        exact ⟨by simp only; omega, by simp only; omega, by simp only; omega, hlt, e.symm⟩
      · simp only; omega
      · repeat' ((conv => whnf);first|(with_reducible first|rfl|exact absTF|exact absFT)|exact True.intro|intro _|refine And.intro ?_ ?_|refine Fin.mk ?_|refine W1 rfl ?_ ?_|refine W2 rfl ?_ ?_|refine W3 rfl ?_ ?_|refine W4 ?_ ?_|refine W5 rfl ?_ ?_|refine W6 ?_ ?_|refine AppN.mk ?_|refine X1 (W1 rfl ?_ ?_)|refine X1 (W2 rfl ?_ ?_)|refine X2 (W7 rfl ?_ ?_)|refine X3 (W7 rfl ?_ ?_)|refine X4 (W7 rfl ?_ ?_)|refine X5 (W7 rfl ?_ ?_))
        all_goals (try (conv => whnf))
        all_goals (try first|exact Ob.mk (u8_bnd _)|(refine Ob.mk ?_;first|exact True.intro|assumption|omega|(try simp only [ZA,ZB,ZC,ZD,ZE,ZF,ZG,ZH,ZI,ZJ,ZK,ZL,ZM,ZN,ZO,Int.toNat_natCast,UInt8.ofNat_toNat,cast_eq] at *;omega)))
        all_goals (try first|(show (_:Int) = _;omega)|(show tupSV _ = _;with_unfolding_all rfl)|((first|show (_:Nat) ≤ _|show (_:Nat) ≤ _ ∧ (_:Nat) ≤ _|show (_:Int) ≤ _ ∧ (_:Int) ≤ _ ∧ (_:Int) ≤ _ ∧ (_:Int) ≤ _);(simp <;> omega)))
        all_goals (try rfl)
end Go.Vc

namespace Go.Vc
open Go.Proofs
set_option maxRecDepth 10000
theorem take_snoc {α : Type} (l : List α) (i : Nat) (d : α) (h : i < l.length) : l.take (i + 1) = l.take i ++ [l.getD i d] := by
  rw [List.take_succ_eq_append_getElem h]; simp [List.getD, List.getElem?_eq_getElem h]
theorem drop_take_one (s : List UInt8) (i : Nat) (h : i < s.length) : (s.take (i+1)).drop i = [s.getD i 0] := by
  rw [take_snoc s i 0 h, List.drop_append, List.length_take, Nat.min_eq_left (by omega)]; simp
theorem ti1 (i : Nat) : ((i : Int) + 1).toNat = i + 1 := by omega
theorem ti2 (i : Nat) : ((i : Int) + 2).toNat = i + 2 := by omega
theorem upto_def (s : List UInt8) (n : Nat) : List.drop 1 (List.take (n + 1) s) = upto s n := rfl
theorem u8n_38 (c : UInt8) : ((c.toNat : Int) != 38) = (c != 38) := by simp only [bne, u8_38]
theorem rdP_bad {s : List UInt8} {v : Bool} (h : s.length < 2 ∨ ¬ s.getD 0 0 = 38) : rdP s v = ([], 0) := by unfold rdP; exact if_pos h
theorem rdP_go {s : List UInt8} {v : Bool} (h : 2 ≤ s.length ∧ s.getD 0 0 = 38) : rdP s v = if s.getD 1 0 = 35 then numberF s
    else if semiOk s (letN 8 (s.drop 1)) = true then ((named (upto s (letN 8 (s.drop 1) + 1))).1, (letN 8 (s.drop 1) : Int) + 2) else rdLoop s v (letN 8 (s.drop 1)) := by
  unfold rdP
  exact if_neg (by rintro (g | g); omega; exact g h.2)
theorem rdP_num {s : List UInt8} {v : Bool} (h : 2 ≤ s.length ∧ s.getD 0 0 = 38) (h1 : s.getD 1 0 = 35) : rdP s v = numberF s := by
  rw [rdP_go h, if_pos h1]
theorem rdP_semi {s : List UInt8} {v : Bool} (h : 2 ≤ s.length ∧ s.getD 0 0 = 38) (h1 : ¬ s.getD 1 0 = 35) {L : Nat} (hL : L = letN 8 (s.drop 1)) (h2 : L + 1 < s.length ∧ s.getD (L + 1) 0 = 59) (h3 : (named (upto s (L + 1))).2 = true) :
    rdP s v = ((named (upto s (L + 1))).1, (L : Int) + 2) := by
  subst hL
  rw [rdP_go h, if_neg h1, if_pos]
  simp only [semiOk, Bool.and_eq_true, decide_eq_true_eq, beq_iff_eq]
  exact ⟨h2.1, h2.2, h3⟩
theorem rdP_loop {s : List UInt8} {v : Bool} (h : 2 ≤ s.length ∧ s.getD 0 0 = 38) (h1 : ¬ s.getD 1 0 = 35) {L : Nat} (hL : L = letN 8 (s.drop 1)) (h2 : ¬ (L + 1 < s.length ∧ s.getD (L + 1) 0 = 59 ∧ (named (upto s (L + 1))).2 = true)) :
    rdP s v = rdLoop s v L := by
  subst hL
  rw [rdP_go h, if_neg h1, if_neg]
  simp only [semiOk, Bool.and_eq_true, decide_eq_true_eq, beq_iff_eq]
  exact h2
theorem stop_eq (s : List UInt8) (v : Bool) (n : Nat) : (v && decide ((n : Int) + 1 < (s.length : Int)) && (((s.getD (n + 1) 0).toNat : Int) == 61 || decide ((letN 8 (s.drop (n + 1)) : Int) > 0))) = stopV s v n := by
  have e : decide ((letN 8 (s.drop (n + 1)) : Int) > 0) = decide (letN 8 (s.drop (n + 1)) > 0) := by rw [decide_eq_decide]; omega
  have e2 : decide ((n : Int) + 1 < (s.length : Int)) = decide (n + 1 < s.length) := by rw [decide_eq_decide]; omega
  rw [u8_61, e, e2, letN_pos (by omega), stopV]
  by_cases h : n + 1 < s.length
  · have h1 : decide (0 < (s.drop (n + 1)).length) = true := decide_eq_true (by rw [List.length_drop]; omega)
    have h2 : (s.drop (n + 1)).getD 0 0 = s.getD (n + 1) 0 := by simp [List.getD]
    rw [h1, h2, Bool.true_and, decide_eq_true h]
    cases v <;> rfl
  · rw [decide_eq_false h]
    cases v <;> rfl
theorem rdL_no {s : List UInt8} {v : Bool} {n : Nat} (h0 : 0 < n) (h : (named (upto s n)).2 = false) : rdLoop s v n = rdLoop s v (n - 1) := by
  obtain ⟨m, rfl⟩ : ∃ m, n = m + 1 := ⟨n - 1, by omega⟩
  rw [rdLoop, if_pos h]; rfl
theorem rdL_stop {s : List UInt8} {v : Bool} {n : Nat} (h0 : 0 < n) (h : (named (upto s n)).2 = true) (h2 : stopV s v n = true) : rdLoop s v n = ([], 0) := by
  obtain ⟨m, rfl⟩ : ∃ m, n = m + 1 := ⟨n - 1, by omega⟩
  rw [rdLoop, if_neg (by rw [h]; simp), if_pos h2]
theorem rdL_yes {s : List UInt8} {v : Bool} {n : Nat} (h0 : 0 < n) (h : (named (upto s n)).2 = true) (h2 : stopV s v n = false) : rdLoop s v n = ((named (upto s n)).1, (n : Int) + 1) := by
  obtain ⟨m, rfl⟩ : ∃ m, n = m + 1 := ⟨n - 1, by omega⟩
  rw [rdLoop, if_neg (by rw [h]; simp), if_neg (by rw [h2]; simp)]
  congr 1
instance fRead (s : List UInt8) (v : Bool) : Fn BB 26 [.str s, .bool v] (s.length ≤ 100000) (.tup [.str (rdP s v).1, .int .i64 (rdP s v).2]) := by
  refine Fn.intro (N := 93) [0, 1, 4, 5, 6, 7, 8, 9, 10, 18, 21, 40, 49, 54, 66, 89] [] Tryz.call26 Tryz.func26 rfl rfl (by kernel_rfl) (fun hpre => ?_)
  obtain ⟨g1, g2, g3⟩ := letN_le 8 (s.drop 1)
  simp only [List.length_drop] at g2
  repeat' ((conv => whnf);first|(with_reducible first|rfl|exact absTF|exact absFT)|exact True.intro|intro _|refine And.intro ?_ ?_|refine Fin.mk ?_|refine W1 rfl ?_ ?_|refine W2 rfl ?_ ?_|refine W3 rfl ?_ ?_|refine W4 ?_ ?_|refine W5 rfl ?_ ?_|refine W6 ?_ ?_|refine AppN.mk ?_|refine X1 (W1 rfl ?_ ?_)|refine X1 (W2 rfl ?_ ?_)|refine X2 (W7 rfl ?_ ?_)|refine X3 (W7 rfl ?_ ?_)|refine X4 (W7 rfl ?_ ?_)|refine X5 (W7 rfl ?_ ?_))
  all_goals (try (conv => whnf))
  all_goals (try first|exact Ob.mk (u8_bnd _)|(refine Ob.mk ?_;first|exact True.intro|assumption|omega|(try simp only [ZA,ZB,ZC,ZD,ZE,ZF,ZG,ZH,ZI,ZJ,ZK,ZL,ZM,ZN,ZO,Int.toNat_natCast,UInt8.ofNat_toNat,cast_eq] at *;omega)))
  all_goals (try first|(show (_:Int) = _;omega)|(show tupSV _ = _;with_unfolding_all rfl)|((first|show (_:Nat) ≤ _|show (_:Nat) ≤ _ ∧ (_:Nat) ≤ _|show (_:Int) ≤ _ ∧ (_:Int) ≤ _ ∧ (_:Int) ≤ _ ∧ (_:Int) ≤ _);(simp <;> omega)))
  all_goals (try (simp only [Int.toNat_natCast, Int.reduceToNat, Ty.dflt, cast_eq] at *))
  all_goals (try (simp only [ti1, ti2, upto_def, u8_38, u8n_38, u8_59, u8_35] at *))
  all_goals (try simp only [ZA,ZB,ZC,ZD,ZE,ZF,ZG,ZH,ZI,ZJ,ZK,ZL,ZM,ZN,ZO,Bool.and_eq_false_iff,Bool.or_eq_false_iff,ge_iff_le,gt_iff_lt,Int.toNat_natCast,UInt8.ofNat_toNat,cast_eq] at *)
  all_goals (try omega)
  all_goals (try (rw [rdP_bad (by rcases ‹_ ∨ ¬ _› with g | g; exact .inl (by omega); exact .inr g)]; done))
  all_goals (try (have hgo : 2 ≤ s.length ∧ s.getD 0 0 = 38 := ⟨by have := ‹2 ≤ (s.length : Int) ∧ _›.1; omega, ‹2 ≤ (s.length : Int) ∧ _›.2⟩))
  all_goals (try (rw [rdP_num hgo ‹_›]; done))
  all_goals (try (rw [rdP_semi hgo ‹¬ _› rfl ⟨by have := ‹_ ∧ s.getD _ 0 = 59›.1; omega, ‹_ ∧ s.getD _ 0 = 59›.2⟩ ‹_›]; done))
  · have hR := rdP_loop (v := v) hgo ‹¬ _› rfl (by rintro ⟨_, _, q⟩; rw [‹(named _).2 = false›] at q; cases q)
    refine LoopStop.mk (α := Nat) (fun i => [(6, .int .i64 i)]) (fun _ => []) 0 (fun i => i ≤ letN 8 (s.drop 1) ∧ rdP s v = rdLoop s v i) (fun i => i) (letN 8 (s.drop 1)) ⟨Nat.le_refl _, hR⟩ ?_ (fun i hi => ?_)
    · repeat' ((conv => whnf);first|(with_reducible first|rfl|exact absTF|exact absFT)|exact True.intro|intro _|refine And.intro ?_ ?_|refine Fin.mk ?_|refine W1 rfl ?_ ?_|refine W2 rfl ?_ ?_|refine W3 rfl ?_ ?_|refine W4 ?_ ?_|refine W5 rfl ?_ ?_|refine W6 ?_ ?_|refine AppN.mk ?_|refine X1 (W1 rfl ?_ ?_)|refine X1 (W2 rfl ?_ ?_)|refine X2 (W7 rfl ?_ ?_)|refine X3 (W7 rfl ?_ ?_)|refine X4 (W7 rfl ?_ ?_)|refine X5 (W7 rfl ?_ ?_))
      all_goals (try (conv => whnf))
      all_goals (try first|exact Ob.mk (u8_bnd _)|(refine Ob.mk ?_;first|exact True.intro|assumption|omega|(try simp only [ZA,ZB,ZC,ZD,ZE,ZF,ZG,ZH,ZI,ZJ,ZK,ZL,ZM,ZN,ZO,Int.toNat_natCast,UInt8.ofNat_toNat,cast_eq] at *;omega)))
      all_goals (try first|(show (_:Int) = _;omega)|(show tupSV _ = _;with_unfolding_all rfl)|((first|show (_:Nat) ≤ _|show (_:Nat) ≤ _ ∧ (_:Nat) ≤ _|show (_:Int) ≤ _ ∧ (_:Int) ≤ _ ∧ (_:Int) ≤ _ ∧ (_:Int) ≤ _);(simp <;> omega)))
      all_goals (try rfl)
    · obtain ⟨i1, i2⟩ := hi
      repeat' ((conv => whnf);first|(with_reducible first|rfl|exact absTF|exact absFT)|exact True.intro|intro _|refine And.intro ?_ ?_|refine Fin.mk ?_|refine W1 rfl ?_ ?_|refine W2 rfl ?_ ?_|refine W3 rfl ?_ ?_|refine W4 ?_ ?_|refine W5 rfl ?_ ?_|refine W6 ?_ ?_|refine AppN.mk ?_|refine X1 (W1 rfl ?_ ?_)|refine X1 (W2 rfl ?_ ?_)|refine X2 (W7 rfl ?_ ?_)|refine X3 (W7 rfl ?_ ?_)|refine X4 (W7 rfl ?_ ?_)|refine X5 (W7 rfl ?_ ?_))
      all_goals (try (conv => whnf))
      all_goals (try first|exact Ob.mk (u8_bnd _)|(refine Ob.mk ?_;first|exact True.intro|assumption|omega|(try simp only [ZA,ZB,ZC,ZD,ZE,ZF,ZG,ZH,ZI,ZJ,ZK,ZL,ZM,ZN,ZO,Int.toNat_natCast,UInt8.ofNat_toNat,cast_eq] at *;omega)))
      all_goals (try first|(show (_:Int) = _;omega)|(show tupSV _ = _;with_unfolding_all rfl)|((first|show (_:Nat) ≤ _|show (_:Nat) ≤ _ ∧ (_:Nat) ≤ _|show (_:Int) ≤ _ ∧ (_:Int) ≤ _ ∧ (_:Int) ≤ _ ∧ (_:Int) ≤ _);(simp <;> omega)))
      all_goals (try (simp only [Int.toNat_natCast, Int.reduceToNat, Ty.dflt, cast_eq] at *))
      all_goals (try (simp only [ti1, ti2, upto_def, stop_eq] at *))
      all_goals (try simp only [ZA,ZB,ZC,ZD,ZE,ZF,ZG,ZH,ZI,ZJ,ZK,ZL,ZM,ZN,ZO,Bool.and_eq_false_iff,Bool.or_eq_false_iff,ge_iff_le,gt_iff_lt,Int.toNat_natCast,UInt8.ofNat_toNat,cast_eq] at *)
      all_goals (try omega)
      all_goals (first | (have h0 : 0 < i := by omega) | (have h0 : i = 0 := by omega))
      all_goals (try (rw [i2, rdL_stop h0 ‹_› ‹_›]; done))
      all_goals (try (rw [i2, rdL_yes h0 ‹_› ‹_›]; done))
      all_goals (try (rw [i2, h0]; rfl))
      refine Rnd.mk ⟨i - 1, ?_, ?_, ?_⟩
      · exact ⟨by omega, by rw [i2, rdL_no h0 ‹_›]⟩
      · omega
      · repeat' ((conv => whnf);first|(with_reducible first|rfl|exact absTF|exact absFT)|exact True.intro|intro _|refine And.intro ?_ ?_|refine Fin.mk ?_|refine W1 rfl ?_ ?_|refine W2 rfl ?_ ?_|refine W3 rfl ?_ ?_|refine W4 ?_ ?_|refine W5 rfl ?_ ?_|refine W6 ?_ ?_|refine AppN.mk ?_|refine X1 (W1 rfl ?_ ?_)|refine X1 (W2 rfl ?_ ?_)|refine X2 (W7 rfl ?_ ?_)|refine X3 (W7 rfl ?_ ?_)|refine X4 (W7 rfl ?_ ?_)|refine X5 (W7 rfl ?_ ?_))
        all_goals (try (conv => whnf))
        all_goals (try first|exact Ob.mk (u8_bnd _)|(refine Ob.mk ?_;first|exact True.intro|assumption|omega|(try simp only [ZA,ZB,ZC,ZD,ZE,ZF,ZG,ZH,ZI,ZJ,ZK,ZL,ZM,ZN,ZO,Int.toNat_natCast,UInt8.ofNat_toNat,cast_eq] at *;omega)))
        all_goals (try first|(show (_:Int) = _;omega)|(show tupSV _ = _;with_unfolding_all rfl)|((first|show (_:Nat) ≤ _|show (_:Nat) ≤ _ ∧ (_:Nat) ≤ _|show (_:Int) ≤ _ ∧ (_:Int) ≤ _ ∧ (_:Int) ≤ _ ∧ (_:Int) ≤ _);(simp <;> omega)))
  · have hR := rdP_loop (v := v) hgo ‹¬ _› rfl (by rintro ⟨q1, q2, _⟩; rcases ‹_ ∨ ¬ _› with g | g; omega; exact g q2)
    refine LoopStop.mk (α := Nat) (fun i => [(6, .int .i64 i)]) (fun _ => []) 0 (fun i => i ≤ letN 8 (s.drop 1) ∧ rdP s v = rdLoop s v i) (fun i => i) (letN 8 (s.drop 1)) ⟨Nat.le_refl _, hR⟩ ?_ (fun i hi => ?_)
    · repeat' ((conv => whnf);first|(with_reducible first|rfl|exact absTF|exact absFT)|exact True.intro|intro _|refine And.intro ?_ ?_|refine Fin.mk ?_|refine W1 rfl ?_ ?_|refine W2 rfl ?_ ?_|refine W3 rfl ?_ ?_|refine W4 ?_ ?_|refine W5 rfl ?_ ?_|refine W6 ?_ ?_|refine AppN.mk ?_|refine X1 (W1 rfl ?_ ?_)|refine X1 (W2 rfl ?_ ?_)|refine X2 (W7 rfl ?_ ?_)|refine X3 (W7 rfl ?_ ?_)|refine X4 (W7 rfl ?_ ?_)|refine X5 (W7 rfl ?_ ?_))
      all_goals (try (conv => whnf))
      all_goals (try first|exact Ob.mk (u8_bnd _)|(refine Ob.mk ?_;first|exact True.intro|assumption|omega|(try simp only [ZA,ZB,ZC,ZD,ZE,ZF,ZG,ZH,ZI,ZJ,ZK,ZL,ZM,ZN,ZO,Int.toNat_natCast,UInt8.ofNat_toNat,cast_eq] at *;omega)))
      all_goals (try first|(show (_:Int) = _;omega)|(show tupSV _ = _;with_unfolding_all rfl)|((first|show (_:Nat) ≤ _|show (_:Nat) ≤ _ ∧ (_:Nat) ≤ _|show (_:Int) ≤ _ ∧ (_:Int) ≤ _ ∧ (_:Int) ≤ _ ∧ (_:Int) ≤ _);(simp <;> omega)))
      all_goals (try rfl)
    · obtain ⟨i1, i2⟩ := hi
      repeat' ((conv => whnf);first|(with_reducible first|rfl|exact absTF|exact absFT)|exact True.intro|intro _|refine And.intro ?_ ?_|refine Fin.mk ?_|refine W1 rfl ?_ ?_|refine W2 rfl ?_ ?_|refine W3 rfl ?_ ?_|refine W4 ?_ ?_|refine W5 rfl ?_ ?_|refine W6 ?_ ?_|refine AppN.mk ?_|refine X1 (W1 rfl ?_ ?_)|refine X1 (W2 rfl ?_ ?_)|refine X2 (W7 rfl ?_ ?_)|refine X3 (W7 rfl ?_ ?_)|refine X4 (W7 rfl ?_ ?_)|refine X5 (W7 rfl ?_ ?_))
      all_goals (try (conv => whnf))
      all_goals (try first|exact Ob.mk (u8_bnd _)|(refine Ob.mk ?_;first|exact True.intro|assumption|omega|(try simp only [ZA,ZB,ZC,ZD,ZE,ZF,ZG,ZH,ZI,ZJ,ZK,ZL,ZM,ZN,ZO,Int.toNat_natCast,UInt8.ofNat_toNat,cast_eq] at *;omega)))
      all_goals (try first|(show (_:Int) = _;omega)|(show tupSV _ = _;with_unfolding_all rfl)|((first|show (_:Nat) ≤ _|show (_:Nat) ≤ _ ∧ (_:Nat) ≤ _|show (_:Int) ≤ _ ∧ (_:Int) ≤ _ ∧ (_:Int) ≤ _ ∧ (_:Int) ≤ _);(simp <;> omega)))
      all_goals (try (simp only [Int.toNat_natCast, Int.reduceToNat, Ty.dflt, cast_eq] at *))
      all_goals (try (simp only [ti1, ti2, upto_def, stop_eq] at *))
      all_goals (try simp only [ZA,ZB,ZC,ZD,ZE,ZF,ZG,ZH,ZI,ZJ,ZK,ZL,ZM,ZN,ZO,Bool.and_eq_false_iff,Bool.or_eq_false_iff,ge_iff_le,gt_iff_lt,Int.toNat_natCast,UInt8.ofNat_toNat,cast_eq] at *)
      all_goals (try omega)
      all_goals (first | (have h0 : 0 < i := by omega) | (have h0 : i = 0 := by omega))
      all_goals (try (rw [i2, rdL_stop h0 ‹_› ‹_›]; done))
      all_goals (try (rw [i2, rdL_yes h0 ‹_› ‹_›]; done))
      all_goals (try (rw [i2, h0]; rfl))
      refine Rnd.mk ⟨i - 1, ?_, ?_, ?_⟩
      · exact ⟨by omega, by rw [i2, rdL_no h0 ‹_›]⟩
      · omega
      · repeat' ((conv => whnf);first|(with_reducible first|rfl|exact absTF|exact absFT)|exact True.intro|intro _|refine And.intro ?_ ?_|refine Fin.mk ?_|refine W1 rfl ?_ ?_|refine W2 rfl ?_ ?_|refine W3 rfl ?_ ?_|refine W4 ?_ ?_|refine W5 rfl ?_ ?_|refine W6 ?_ ?_|refine AppN.mk ?_|refine X1 (W1 rfl ?_ ?_)|refine X1 (W2 rfl ?_ ?_)|refine X2 (W7 rfl ?_ ?_)|refine X3 (W7 rfl ?_ ?_)|refine X4 (W7 rfl ?_ ?_)|refine X5 (W7 rfl ?_ ?_))
        all_goals (try (conv => whnf))
        all_goals (try first|exact Ob.mk (u8_bnd _)|(refine Ob.mk ?_;first|exact True.intro|assumption|omega|(try simp only [ZA,ZB,ZC,ZD,ZE,ZF,ZG,ZH,ZI,ZJ,ZK,ZL,ZM,ZN,ZO,Int.toNat_natCast,UInt8.ofNat_toNat,cast_eq] at *;omega)))
        all_goals (try first|(show (_:Int) = _;omega)|(show tupSV _ = _;with_unfolding_all rfl)|((first|show (_:Nat) ≤ _|show (_:Nat) ≤ _ ∧ (_:Nat) ≤ _|show (_:Int) ≤ _ ∧ (_:Int) ≤ _ ∧ (_:Int) ≤ _ ∧ (_:Int) ≤ _);(simp <;> omega)))
theorem rdR_bad {s : List UInt8} {v : Bool} (h : s = [] ∨ ¬ s.getD 0 0 = 38) : rdR s v = ([], 0) := by unfold rdR; exact if_pos h
theorem rdR_num {s : List UInt8} {v : Bool} (h : ¬ s = [] ∧ s.getD 0 0 = 38) (h1 : 1 < s.length ∧ s.getD 1 0 = 35) : rdR s v = numberF s := by
  unfold rdR; refine (if_neg (by rintro (g | g); exact h.1 g; exact g h.2)).trans ?_; exact if_pos h1
theorem rdR_loop {s : List UInt8} {v : Bool} (h : ¬ s = [] ∧ s.getD 0 0 = 38) (h1 : ¬ (1 < s.length ∧ s.getD 1 0 = 35)) : rdR s v = refLoop s v (min (s.length - 1) 12) := by
  unfold rdR; refine (if_neg (by rintro (g | g); exact h.1 g; exact g h.2)).trans ?_; exact if_neg h1
theorem u8n_59 (c : UInt8) : ((c.toNat : Int) != 59) = (c != 59) := by simp only [bne, u8_59]
theorem stop_eq2 (s : List UInt8) (v : Bool) (n : Nat) : (v && s.getD n 0 != 59 && decide ((n : Int) + 1 < (s.length : Int)) && (s.getD (n + 1) 0 == 61 || anI ((s.getD (n + 1) 0).toNat : Int))) = (stopV s v n && s.getD n 0 != 59) := by
  have e2 : decide ((n : Int) + 1 < (s.length : Int)) = decide (n + 1 < s.length) := by rw [decide_eq_decide]; omega
  rw [e2]
  unfold stopV
  show (v && s.getD n 0 != 59 && decide (n + 1 < s.length) && (s.getD (n + 1) 0 == 61 || anB (s.getD (n + 1) 0))) = _
  cases v <;> cases (s.getD n 0 != 59) <;> cases decide (n + 1 < s.length) <;> simp
theorem rfL_no {s : List UInt8} {v : Bool} {n : Nat} (h0 : 0 < n) (h : (named (upto s n)).2 = false) : refLoop s v n = refLoop s v (n - 1) := by
  obtain ⟨m, rfl⟩ : ∃ m, n = m + 1 := ⟨n - 1, by omega⟩
  rw [refLoop, if_pos h]; rfl
theorem rfL_stop {s : List UInt8} {v : Bool} {n : Nat} (h0 : 0 < n) (h : (named (upto s n)).2 = true) (h2 : stopV s v n = true ∧ ¬ s.getD n 0 = 59) : refLoop s v n = ([], 0) := by
  obtain ⟨m, rfl⟩ : ∃ m, n = m + 1 := ⟨n - 1, by omega⟩
  rw [refLoop, if_neg (by rw [h]; simp), if_pos (by simpa using h2)]
theorem rfL_yes {s : List UInt8} {v : Bool} {n : Nat} (h0 : 0 < n) (h : (named (upto s n)).2 = true) (h2 : stopV s v n = false ∨ s.getD n 0 = 59) : refLoop s v n = ((named (upto s n)).1, (n : Int) + 1) := by
  obtain ⟨m, rfl⟩ : ∃ m, n = m + 1 := ⟨n - 1, by omega⟩
  rw [refLoop, if_neg (by rw [h]; simp), if_neg (by rw [Bool.and_eq_true, bne_iff_ne]; rintro ⟨q1, q2⟩; rcases h2 with h2 | h2; rw [q1] at h2; cases h2; exact q2 h2)]
  congr 1
instance fRRead (s : List UInt8) (v : Bool) : Fn BB 36 [.str s, .bool v] (s.length ≤ 100000) (.tup [.str (rdR s v).1, .int .i64 (rdR s v).2]) := by
  refine Fn.intro (N := 77) [0, 1, 4, 5, 6, 7, 8, 15, 23, 33, 45, 73] [] Tryz.call36 Tryz.func36 rfl rfl (by kernel_rfl) (fun hpre => ?_)
  have hne : ¬ s = [] → 0 < s.length := fun h => List.length_pos_iff.mpr h
  repeat' ((conv => whnf);first|(with_reducible first|rfl|exact absTF|exact absFT)|exact True.intro|intro _|refine And.intro ?_ ?_|refine Fin.mk ?_|refine W1 rfl ?_ ?_|refine W2 rfl ?_ ?_|refine W3 rfl ?_ ?_|refine W4 ?_ ?_|refine W5 rfl ?_ ?_|refine W6 ?_ ?_|refine AppN.mk ?_|refine X1 (W1 rfl ?_ ?_)|refine X1 (W2 rfl ?_ ?_)|refine X2 (W7 rfl ?_ ?_)|refine X3 (W7 rfl ?_ ?_)|refine X4 (W7 rfl ?_ ?_)|refine X5 (W7 rfl ?_ ?_))
  all_goals (try (conv => whnf))
  all_goals (try first|exact Ob.mk (u8_bnd _)|(refine Ob.mk ?_;first|exact True.intro|assumption|omega|(try simp only [ZA,ZB,ZC,ZD,ZE,ZF,ZG,ZH,ZI,ZJ,ZK,ZL,ZM,ZN,ZO,Int.toNat_natCast,UInt8.ofNat_toNat,cast_eq] at *;omega)))
  all_goals (try first|(show (_:Int) = _;omega)|(show tupSV _ = _;with_unfolding_all rfl)|((first|show (_:Nat) ≤ _|show (_:Nat) ≤ _ ∧ (_:Nat) ≤ _|show (_:Int) ≤ _ ∧ (_:Int) ≤ _ ∧ (_:Int) ≤ _ ∧ (_:Int) ≤ _);(simp <;> omega)))
  all_goals (try (simp only [Int.toNat_natCast, Int.reduceToNat, Ty.dflt, cast_eq] at *))
  all_goals (try (simp only [ti1, ti2, upto_def, u8_38, u8n_38, u8_59, u8_35] at *))
  all_goals (try simp only [ZA,ZB,ZC,ZD,ZE,ZF,ZG,ZH,ZI,ZJ,ZK,ZL,ZM,ZN,ZO,Bool.and_eq_false_iff,Bool.or_eq_false_iff,ge_iff_le,gt_iff_lt,Int.toNat_natCast,UInt8.ofNat_toNat,cast_eq] at *)
  all_goals (try (have := hne (by first | exact ‹¬ s = [] ∧ _›.1 | assumption)))
  all_goals (try omega)
  all_goals (try (rw [rdR_bad ‹_›]; done))
  all_goals (try (rw [rdR_num ‹¬ s = [] ∧ _› ⟨by have := ‹1 < (s.length : Int) ∧ _›.1; omega, ‹1 < (s.length : Int) ∧ _›.2⟩]; done))
  all_goals (try (show 2 ≤ s.length ∧ _; omega))
  have hR := rdR_loop (v := v) ‹¬ s = [] ∧ _› (by rintro ⟨q1, q2⟩; rcases ‹_ ∨ ¬ _› with g | g; omega; exact g q2)
  have hm : min (s.length - 1) 12 + 1 ≤ s.length := by omega
  refine LoopStop.mk (α := Nat) (fun i => [(6, .int .i64 i)]) (fun _ => []) 0 (fun i => i ≤ min (s.length - 1) 12 ∧ rdR s v = refLoop s v i) (fun i => i) (min (s.length - 1) 12) ⟨Nat.le_refl _, hR⟩ ?_ (fun i hi => ?_)
  · repeat' ((conv => whnf);first|(with_reducible first|rfl|exact absTF|exact absFT)|exact True.intro|intro _|refine And.intro ?_ ?_|refine Fin.mk ?_|refine W1 rfl ?_ ?_|refine W2 rfl ?_ ?_|refine W3 rfl ?_ ?_|refine W4 ?_ ?_|refine W5 rfl ?_ ?_|refine W6 ?_ ?_|refine AppN.mk ?_|refine X1 (W1 rfl ?_ ?_)|refine X1 (W2 rfl ?_ ?_)|refine X2 (W7 rfl ?_ ?_)|refine X3 (W7 rfl ?_ ?_)|refine X4 (W7 rfl ?_ ?_)|refine X5 (W7 rfl ?_ ?_))
    all_goals (try (conv => whnf))
    all_goals (try first|exact Ob.mk (u8_bnd _)|(refine Ob.mk ?_;first|exact True.intro|assumption|omega|(try simp only [ZA,ZB,ZC,ZD,ZE,ZF,ZG,ZH,ZI,ZJ,ZK,ZL,ZM,ZN,ZO,Int.toNat_natCast,UInt8.ofNat_toNat,cast_eq] at *;omega)))
    all_goals (try first|(show (_:Int) = _;omega)|(show tupSV _ = _;with_unfolding_all rfl)|((first|show (_:Nat) ≤ _|show (_:Nat) ≤ _ ∧ (_:Nat) ≤ _|show (_:Int) ≤ _ ∧ (_:Int) ≤ _ ∧ (_:Int) ≤ _ ∧ (_:Int) ≤ _);(simp <;> omega)))
    all_goals (try rfl)
    all_goals (try (show min _ _ = _; omega))
  · obtain ⟨i1, i2⟩ := hi
    repeat' ((conv => whnf);first|(with_reducible first|rfl|exact absTF|exact absFT)|exact True.intro|intro _|refine And.intro ?_ ?_|refine Fin.mk ?_|refine W1 rfl ?_ ?_|refine W2 rfl ?_ ?_|refine W3 rfl ?_ ?_|refine W4 ?_ ?_|refine W5 rfl ?_ ?_|refine W6 ?_ ?_|refine AppN.mk ?_|refine X1 (W1 rfl ?_ ?_)|refine X1 (W2 rfl ?_ ?_)|refine X2 (W7 rfl ?_ ?_)|refine X3 (W7 rfl ?_ ?_)|refine X4 (W7 rfl ?_ ?_)|refine X5 (W7 rfl ?_ ?_))
    all_goals (try (conv => whnf))
    all_goals (try first|exact Ob.mk (u8_bnd _)|(refine Ob.mk ?_;first|exact True.intro|assumption|omega|(try simp only [ZA,ZB,ZC,ZD,ZE,ZF,ZG,ZH,ZI,ZJ,ZK,ZL,ZM,ZN,ZO,Int.toNat_natCast,UInt8.ofNat_toNat,cast_eq] at *;omega)))
    all_goals (try first|(show (_:Int) = _;omega)|(show tupSV _ = _;with_unfolding_all rfl)|((first|show (_:Nat) ≤ _|show (_:Nat) ≤ _ ∧ (_:Nat) ≤ _|show (_:Int) ≤ _ ∧ (_:Int) ≤ _ ∧ (_:Int) ≤ _ ∧ (_:Int) ≤ _);(simp <;> omega)))
    all_goals (try (simp only [Int.toNat_natCast, Int.reduceToNat, Ty.dflt, cast_eq] at *))
    all_goals (try (simp only [ti1, ti2, upto_def, u8_61, u8n_59, stop_eq2] at *))
    all_goals (first | (have h0 : 0 < i := by simp only [decide_eq_true_eq] at *; omega) | (have h0 : i = 0 := by simp only [decide_eq_false_iff_not] at *; omega) | skip)
    all_goals (try (rw [i2, h0]; rfl))
    all_goals (try simp only [ZA,ZB,ZC,ZD,ZE,ZF,ZG,ZH,ZI,ZJ,ZK,ZL,ZM,ZN,ZO,Bool.and_eq_false_iff,Bool.or_eq_false_iff,ge_iff_le,gt_iff_lt,Int.toNat_natCast,UInt8.ofNat_toNat,cast_eq] at *)
    all_goals (try (rw [i2, rfL_stop h0 ‹_› ‹_›]; done))
    all_goals (try (rw [i2, rfL_yes h0 ‹_› ‹_›]; done))
    all_goals (try omega)
    refine Rnd.mk ⟨i - 1, ?_, ?_, ?_⟩
    · exact ⟨by omega, by rw [i2, rfL_no h0 ‹_›]⟩
    · omega
    · repeat' ((conv => whnf);first|(with_reducible first|rfl|exact absTF|exact absFT)|exact True.intro|intro _|refine And.intro ?_ ?_|refine Fin.mk ?_|refine W1 rfl ?_ ?_|refine W2 rfl ?_ ?_|refine W3 rfl ?_ ?_|refine W4 ?_ ?_|refine W5 rfl ?_ ?_|refine W6 ?_ ?_|refine AppN.mk ?_|refine X1 (W1 rfl ?_ ?_)|refine X1 (W2 rfl ?_ ?_)|refine X2 (W7 rfl ?_ ?_)|refine X3 (W7 rfl ?_ ?_)|refine X4 (W7 rfl ?_ ?_)|refine X5 (W7 rfl ?_ ?_))
      all_goals (try (conv => whnf))
      all_goals (try first|exact Ob.mk (u8_bnd _)|(refine Ob.mk ?_;first|exact True.intro|assumption|omega|(try simp only [ZA,ZB,ZC,ZD,ZE,ZF,ZG,ZH,ZI,ZJ,ZK,ZL,ZM,ZN,ZO,Int.toNat_natCast,UInt8.ofNat_toNat,cast_eq] at *;omega)))
      all_goals (try first|(show (_:Int) = _;omega)|(show tupSV _ = _;with_unfolding_all rfl)|((first|show (_:Nat) ≤ _|show (_:Nat) ≤ _ ∧ (_:Nat) ≤ _|show (_:Int) ≤ _ ∧ (_:Int) ≤ _ ∧ (_:Int) ≤ _ ∧ (_:Int) ≤ _);(simp <;> omega)))
instance fRRead' (s : List UInt8) (v : Bool) : Fn BB 36 [.str s, .bool v] (s.length ≤ 100000) (.tup [.str (rdP s v).1, .int .i64 (rdP s v).2]) := by
  rw [← rd_eq]; exact fRRead s v
theorem dec_inv {s out : List UInt8} {v : Bool} {i : Nat} (h : i < s.length) (hd : out ++ decF (s.drop i) v = decF s v) :
    (¬ (rdP (s.drop i) v).2 = 0 → (out ++ (rdP (s.drop i) v).1) ++ decF (s.drop (i + (rdP (s.drop i) v).2.toNat)) v = decF s v) ∧
    ((rdP (s.drop i) v).2 = 0 → (out ++ [s.getD i 0]) ++ decF (s.drop (i + 1)) v = decF s v) := by
  have hne : s.drop i ≠ [] := fun h' => by have := congrArg List.length h'; simp at this; omega
  rw [decF_step v hne] at hd
  refine ⟨fun h0 => ?_, fun h0 => ?_⟩
  · rw [if_neg h0, List.drop_drop] at hd
    rw [← hd, List.append_assoc]
  · rw [if_pos h0, List.drop_drop] at hd
    rw [← hd, List.append_assoc]
    simp [List.getD]
instance fDec (s : List UInt8) (v : Bool) : Fn BB 16 [.str s, .bool v] (s.length ≤ 100000) (.str (decF s v)) := by
  refine Fn.intro (N := 36) [0, 1, 4, 5, 6, 7, 8, 12, 22] [] Tryz.call16 Tryz.func16 rfl rfl (by kernel_rfl) (fun hpre => ?_)
  repeat' ((conv => whnf);first|(with_reducible first|rfl|exact absTF|exact absFT)|exact True.intro|intro _|refine And.intro ?_ ?_|refine Fin.mk ?_|refine W1 rfl ?_ ?_|refine W2 rfl ?_ ?_|refine W3 rfl ?_ ?_|refine W4 ?_ ?_|refine W5 rfl ?_ ?_|refine W6 ?_ ?_|refine AppN.mk ?_|refine X1 (W1 rfl ?_ ?_)|refine X1 (W2 rfl ?_ ?_)|refine X2 (W7 rfl ?_ ?_)|refine X3 (W7 rfl ?_ ?_)|refine X4 (W7 rfl ?_ ?_)|refine X5 (W7 rfl ?_ ?_))
  all_goals (try (conv => whnf))
  all_goals (try first|exact Ob.mk (u8_bnd _)|(refine Ob.mk ?_;first|exact True.intro|assumption|omega|(try simp only [ZA,ZB,ZC,ZD,ZE,ZF,ZG,ZH,ZI,ZJ,ZK,ZL,ZM,ZN,ZO,Int.toNat_natCast,UInt8.ofNat_toNat,cast_eq] at *;omega)))
  all_goals (try first|(show (_:Int) = _;omega)|(show tupSV _ = _;with_unfolding_all rfl)|((first|show (_:Nat) ≤ _|show (_:Nat) ≤ _ ∧ (_:Nat) ≤ _|show (_:Int) ≤ _ ∧ (_:Int) ≤ _ ∧ (_:Int) ≤ _ ∧ (_:Int) ≤ _);(simp <;> omega)))
  refine LoopStop.mk (α := List UInt8 × Nat) (fun a => [(5, .own 20), (6, .int .i64 (a.2 : Nat))]) (fun a => [(20, .own .byte a.1)]) 40 (fun a => a.2 ≤ s.length ∧ a.1.length ≤ 4 * a.2 ∧ a.1 ++ decF (s.drop a.2) v = decF s v) (fun a => s.length - a.2) ([], 0) ⟨by simp, by simp, by simp⟩ ?_ (fun a ha => ?_)
  · repeat' ((conv => whnf);first|(with_reducible first|rfl|exact absTF|exact absFT)|exact True.intro|intro _|refine And.intro ?_ ?_|refine Fin.mk ?_|refine W1 rfl ?_ ?_|refine W2 rfl ?_ ?_|refine W3 rfl ?_ ?_|refine W4 ?_ ?_|refine W5 rfl ?_ ?_|refine W6 ?_ ?_|refine AppN.mk ?_|refine X1 (W1 rfl ?_ ?_)|refine X1 (W2 rfl ?_ ?_)|refine X2 (W7 rfl ?_ ?_)|refine X3 (W7 rfl ?_ ?_)|refine X4 (W7 rfl ?_ ?_)|refine X5 (W7 rfl ?_ ?_))
    all_goals (try (conv => whnf))
    all_goals (try first|exact Ob.mk (u8_bnd _)|(refine Ob.mk ?_;first|exact True.intro|assumption|omega|(try simp only [ZA,ZB,ZC,ZD,ZE,ZF,ZG,ZH,ZI,ZJ,ZK,ZL,ZM,ZN,ZO,Int.toNat_natCast,UInt8.ofNat_toNat,cast_eq] at *;omega)))
    all_goals (try first|(show (_:Int) = _;omega)|(show tupSV _ = _;with_unfolding_all rfl)|((first|show (_:Nat) ≤ _|show (_:Nat) ≤ _ ∧ (_:Nat) ≤ _|show (_:Int) ≤ _ ∧ (_:Int) ≤ _ ∧ (_:Int) ≤ _ ∧ (_:Int) ≤ _);(simp <;> omega)))
    all_goals (try rfl)
  · obtain ⟨out, i⟩ := a
    obtain ⟨a1, a2, a3⟩ := ha
    dsimp only at a1 a2 a3 ⊢
    obtain ⟨b1, b2, b3⟩ := rd_bound (s.drop i) v
    have hinv := dec_inv (s := s) (out := out) (v := v) (i := i)
    repeat' ((conv => whnf);first|(with_reducible first|rfl|exact absTF|exact absFT)|exact True.intro|intro _|refine And.intro ?_ ?_|refine Fin.mk ?_|refine W1 rfl ?_ ?_|refine W2 rfl ?_ ?_|refine W3 rfl ?_ ?_|refine W4 ?_ ?_|refine W5 rfl ?_ ?_|refine W6 ?_ ?_|refine AppN.mk ?_|refine X1 (W1 rfl ?_ ?_)|refine X1 (W2 rfl ?_ ?_)|refine X2 (W7 rfl ?_ ?_)|refine X3 (W7 rfl ?_ ?_)|refine X4 (W7 rfl ?_ ?_)|refine X5 (W7 rfl ?_ ?_))
    all_goals (try (conv => whnf))
    all_goals (try first|exact Ob.mk (u8_bnd _)|(refine Ob.mk ?_;first|exact True.intro|assumption|omega|(try simp only [ZA,ZB,ZC,ZD,ZE,ZF,ZG,ZH,ZI,ZJ,ZK,ZL,ZM,ZN,ZO,Int.toNat_natCast,UInt8.ofNat_toNat,cast_eq] at *;omega)))
    all_goals (try first|(show (_:Int) = _;omega)|(show tupSV _ = _;with_unfolding_all rfl)|((first|show (_:Nat) ≤ _|show (_:Nat) ≤ _ ∧ (_:Nat) ≤ _|show (_:Int) ≤ _ ∧ (_:Int) ≤ _ ∧ (_:Int) ≤ _ ∧ (_:Int) ≤ _);(simp <;> omega)))
    all_goals (try (simp only [Int.toNat_natCast, Int.reduceToNat, Ty.dflt, cast_eq] at *))
    all_goals (try (simp only [ti1] at *))
    all_goals (try simp only [ZA,ZB,ZC,ZD,ZE,ZF,ZG,ZH,ZI,ZJ,ZK,ZL,ZM,ZN,ZO,Bool.and_eq_false_iff,Bool.or_eq_false_iff,ge_iff_le,gt_iff_lt,Int.toNat_natCast,UInt8.ofNat_toNat,cast_eq] at *)
    all_goals (try (have hlt : i < s.length := by omega))
    all_goals (try (have hstep := hinv hlt a3))
    all_goals (try (simp only [List.length_drop] at b2))
    all_goals (try (show InI64 _; constructor <;> omega))
    all_goals (try (rw [drop_take_one s i hlt]))
    · refine Rnd.mk ⟨(out ++ [s.getD i 0], i + 1), ?_, ?_, ?_⟩
      · exact ⟨hlt, by simp; omega, hstep.2 ‹_›⟩
      · simp only; omega
      · repeat' ((conv => whnf);first|(with_reducible first|rfl|exact absTF|exact absFT)|exact True.intro|intro _|refine And.intro ?_ ?_|refine Fin.mk ?_|refine W1 rfl ?_ ?_|refine W2 rfl ?_ ?_|refine W3 rfl ?_ ?_|refine W4 ?_ ?_|refine W5 rfl ?_ ?_|refine W6 ?_ ?_|refine AppN.mk ?_|refine X1 (W1 rfl ?_ ?_)|refine X1 (W2 rfl ?_ ?_)|refine X2 (W7 rfl ?_ ?_)|refine X3 (W7 rfl ?_ ?_)|refine X4 (W7 rfl ?_ ?_)|refine X5 (W7 rfl ?_ ?_))
        all_goals (try (conv => whnf))
        all_goals (try first|exact Ob.mk (u8_bnd _)|(refine Ob.mk ?_;first|exact True.intro|assumption|omega|(try simp only [ZA,ZB,ZC,ZD,ZE,ZF,ZG,ZH,ZI,ZJ,ZK,ZL,ZM,ZN,ZO,Int.toNat_natCast,UInt8.ofNat_toNat,cast_eq] at *;omega)))
        all_goals (try first|(show (_:Int) = _;omega)|(show tupSV _ = _;with_unfolding_all rfl)|((first|show (_:Nat) ≤ _|show (_:Nat) ≤ _ ∧ (_:Nat) ≤ _|show (_:Int) ≤ _ ∧ (_:Int) ≤ _ ∧ (_:Int) ≤ _ ∧ (_:Int) ≤ _);(simp <;> omega)))
        all_goals (try (rw [drop_take_one s i hlt]))
    · refine Rnd.mk ⟨(out ++ (rdP (s.drop i) v).1, i + (rdP (s.drop i) v).2.toNat), ?_, ?_, ?_⟩
      · refine ⟨by simp only; omega, ?_, hstep.1 ‹_›⟩
        rw [List.length_append]
        simp only; omega
      · simp only; omega
      · repeat' ((conv => whnf);first|(with_reducible first|rfl|exact absTF|exact absFT)|exact True.intro|intro _|refine And.intro ?_ ?_|refine Fin.mk ?_|refine W1 rfl ?_ ?_|refine W2 rfl ?_ ?_|refine W3 rfl ?_ ?_|refine W4 ?_ ?_|refine W5 rfl ?_ ?_|refine W6 ?_ ?_|refine AppN.mk ?_|refine X1 (W1 rfl ?_ ?_)|refine X1 (W2 rfl ?_ ?_)|refine X2 (W7 rfl ?_ ?_)|refine X3 (W7 rfl ?_ ?_)|refine X4 (W7 rfl ?_ ?_)|refine X5 (W7 rfl ?_ ?_))
        all_goals (try (conv => whnf))
        all_goals (try first|exact Ob.mk (u8_bnd _)|(refine Ob.mk ?_;first|exact True.intro|assumption|omega|(try simp only [ZA,ZB,ZC,ZD,ZE,ZF,ZG,ZH,ZI,ZJ,ZK,ZL,ZM,ZN,ZO,Int.toNat_natCast,UInt8.ofNat_toNat,cast_eq] at *;omega)))
        all_goals (try first|(show (_:Int) = _;omega)|(show tupSV _ = _;with_unfolding_all rfl)|((first|show (_:Nat) ≤ _|show (_:Nat) ≤ _ ∧ (_:Nat) ≤ _|show (_:Int) ≤ _ ∧ (_:Int) ≤ _ ∧ (_:Int) ≤ _ ∧ (_:Int) ≤ _);(simp <;> omega)))
        all_goals (try (show _ = (_ : Int); simp only; omega))
    · have he : s.drop i = [] := List.drop_of_length_le (by omega)
      rw [he, decF_nil, List.append_nil] at a3
      rw [a3]
instance fRDec (s : List UInt8) (v : Bool) : Fn BB 21 [.str s, .bool v] (s.length ≤ 100000) (.str (decF s v)) := by
  refine Fn.intro (N := 39) [0, 1, 4, 5, 6, 7, 8, 12, 22] [] Tryz.call21 Tryz.func21 rfl rfl (by kernel_rfl) (fun hpre => ?_)
  repeat' ((conv => whnf);first|(with_reducible first|rfl|exact absTF|exact absFT)|exact True.intro|intro _|refine And.intro ?_ ?_|refine Fin.mk ?_|refine W1 rfl ?_ ?_|refine W2 rfl ?_ ?_|refine W3 rfl ?_ ?_|refine W4 ?_ ?_|refine W5 rfl ?_ ?_|refine W6 ?_ ?_|refine AppN.mk ?_|refine X1 (W1 rfl ?_ ?_)|refine X1 (W2 rfl ?_ ?_)|refine X2 (W7 rfl ?_ ?_)|refine X3 (W7 rfl ?_ ?_)|refine X4 (W7 rfl ?_ ?_)|refine X5 (W7 rfl ?_ ?_))
  all_goals (try (conv => whnf))
  all_goals (try first|exact Ob.mk (u8_bnd _)|(refine Ob.mk ?_;first|exact True.intro|assumption|omega|(try simp only [ZA,ZB,ZC,ZD,ZE,ZF,ZG,ZH,ZI,ZJ,ZK,ZL,ZM,ZN,ZO,Int.toNat_natCast,UInt8.ofNat_toNat,cast_eq] at *;omega)))
  all_goals (try first|(show (_:Int) = _;omega)|(show tupSV _ = _;with_unfolding_all rfl)|((first|show (_:Nat) ≤ _|show (_:Nat) ≤ _ ∧ (_:Nat) ≤ _|show (_:Int) ≤ _ ∧ (_:Int) ≤ _ ∧ (_:Int) ≤ _ ∧ (_:Int) ≤ _);(simp <;> omega)))
  refine LoopStop.mk (α := List UInt8 × Nat) (fun a => [(5, .str a.1), (6, .int .i64 (a.2 : Nat))]) (fun a => []) 40 (fun a => a.2 ≤ s.length ∧ a.1.length ≤ 4 * a.2 ∧ a.1 ++ decF (s.drop a.2) v = decF s v) (fun a => s.length - a.2) ([], 0) ⟨by simp, by simp, by simp⟩ ?_ (fun a ha => ?_)
  · repeat' ((conv => whnf);first|(with_reducible first|rfl|exact absTF|exact absFT)|exact True.intro|intro _|refine And.intro ?_ ?_|refine Fin.mk ?_|refine W1 rfl ?_ ?_|refine W2 rfl ?_ ?_|refine W3 rfl ?_ ?_|refine W4 ?_ ?_|refine W5 rfl ?_ ?_|refine W6 ?_ ?_|refine AppN.mk ?_|refine X1 (W1 rfl ?_ ?_)|refine X1 (W2 rfl ?_ ?_)|refine X2 (W7 rfl ?_ ?_)|refine X3 (W7 rfl ?_ ?_)|refine X4 (W7 rfl ?_ ?_)|refine X5 (W7 rfl ?_ ?_))
    all_goals (try (conv => whnf))
    all_goals (try first|exact Ob.mk (u8_bnd _)|(refine Ob.mk ?_;first|exact True.intro|assumption|omega|(try simp only [ZA,ZB,ZC,ZD,ZE,ZF,ZG,ZH,ZI,ZJ,ZK,ZL,ZM,ZN,ZO,Int.toNat_natCast,UInt8.ofNat_toNat,cast_eq] at *;omega)))
    all_goals (try first|(show (_:Int) = _;omega)|(show tupSV _ = _;with_unfolding_all rfl)|((first|show (_:Nat) ≤ _|show (_:Nat) ≤ _ ∧ (_:Nat) ≤ _|show (_:Int) ≤ _ ∧ (_:Int) ≤ _ ∧ (_:Int) ≤ _ ∧ (_:Int) ≤ _);(simp <;> omega)))
    all_goals (try rfl)
  · obtain ⟨out, i⟩ := a
    obtain ⟨a1, a2, a3⟩ := ha
    dsimp only at a1 a2 a3 ⊢
    obtain ⟨b1, b2, b3⟩ := rd_bound (s.drop i) v
    have hinv := dec_inv (s := s) (out := out) (v := v) (i := i)
    repeat' ((conv => whnf);first|(with_reducible first|rfl|exact absTF|exact absFT)|exact True.intro|intro _|refine And.intro ?_ ?_|refine Fin.mk ?_|refine W1 rfl ?_ ?_|refine W2 rfl ?_ ?_|refine W3 rfl ?_ ?_|refine W4 ?_ ?_|refine W5 rfl ?_ ?_|refine W6 ?_ ?_|refine AppN.mk ?_|refine X1 (W1 rfl ?_ ?_)|refine X1 (W2 rfl ?_ ?_)|refine X2 (W7 rfl ?_ ?_)|refine X3 (W7 rfl ?_ ?_)|refine X4 (W7 rfl ?_ ?_)|refine X5 (W7 rfl ?_ ?_))
    all_goals (try (conv => whnf))
    all_goals (try first|exact Ob.mk (u8_bnd _)|(refine Ob.mk ?_;first|exact True.intro|assumption|omega|(try simp only [ZA,ZB,ZC,ZD,ZE,ZF,ZG,ZH,ZI,ZJ,ZK,ZL,ZM,ZN,ZO,Int.toNat_natCast,UInt8.ofNat_toNat,cast_eq] at *;omega)))
    all_goals (try first|(show (_:Int) = _;omega)|(show tupSV _ = _;with_unfolding_all rfl)|((first|show (_:Nat) ≤ _|show (_:Nat) ≤ _ ∧ (_:Nat) ≤ _|show (_:Int) ≤ _ ∧ (_:Int) ≤ _ ∧ (_:Int) ≤ _ ∧ (_:Int) ≤ _);(simp <;> omega)))
    all_goals (try (simp only [Int.toNat_natCast, Int.reduceToNat, Ty.dflt, cast_eq] at *))
    all_goals (try (simp only [ti1] at *))
    all_goals (try simp only [ZA,ZB,ZC,ZD,ZE,ZF,ZG,ZH,ZI,ZJ,ZK,ZL,ZM,ZN,ZO,Bool.and_eq_false_iff,Bool.or_eq_false_iff,ge_iff_le,gt_iff_lt,Int.toNat_natCast,UInt8.ofNat_toNat,cast_eq] at *)
    all_goals (try (have hlt : i < s.length := by omega))
    all_goals (try (have hstep := hinv hlt a3))
    all_goals (try (simp only [List.length_drop] at b2))
    all_goals (try (show InI64 _; constructor <;> omega))
    all_goals (try (rw [drop_take_one s i hlt]))
    · refine Rnd.mk ⟨(out ++ [s.getD i 0], i + 1), ?_, ?_, ?_⟩
      · exact ⟨hlt, by simp; omega, hstep.2 ‹_›⟩
      · simp only; omega
      · repeat' ((conv => whnf);first|(with_reducible first|rfl|exact absTF|exact absFT)|exact True.intro|intro _|refine And.intro ?_ ?_|refine Fin.mk ?_|refine W1 rfl ?_ ?_|refine W2 rfl ?_ ?_|refine W3 rfl ?_ ?_|refine W4 ?_ ?_|refine W5 rfl ?_ ?_|refine W6 ?_ ?_|refine AppN.mk ?_|refine X1 (W1 rfl ?_ ?_)|refine X1 (W2 rfl ?_ ?_)|refine X2 (W7 rfl ?_ ?_)|refine X3 (W7 rfl ?_ ?_)|refine X4 (W7 rfl ?_ ?_)|refine X5 (W7 rfl ?_ ?_))
        all_goals (try (conv => whnf))
        all_goals (try first|exact Ob.mk (u8_bnd _)|(refine Ob.mk ?_;first|exact True.intro|assumption|omega|(try simp only [ZA,ZB,ZC,ZD,ZE,ZF,ZG,ZH,ZI,ZJ,ZK,ZL,ZM,ZN,ZO,Int.toNat_natCast,UInt8.ofNat_toNat,cast_eq] at *;omega)))
        all_goals (try first|(show (_:Int) = _;omega)|(show tupSV _ = _;with_unfolding_all rfl)|((first|show (_:Nat) ≤ _|show (_:Nat) ≤ _ ∧ (_:Nat) ≤ _|show (_:Int) ≤ _ ∧ (_:Int) ≤ _ ∧ (_:Int) ≤ _ ∧ (_:Int) ≤ _);(simp <;> omega)))
        all_goals (try (rw [drop_take_one s i hlt]))
    · refine Rnd.mk ⟨(out ++ (rdP (s.drop i) v).1, i + (rdP (s.drop i) v).2.toNat), ?_, ?_, ?_⟩
      · refine ⟨by simp only; omega, ?_, hstep.1 ‹_›⟩
        rw [List.length_append]
        simp only; omega
      · simp only; omega
      · repeat' ((conv => whnf);first|(with_reducible first|rfl|exact absTF|exact absFT)|exact True.intro|intro _|refine And.intro ?_ ?_|refine Fin.mk ?_|refine W1 rfl ?_ ?_|refine W2 rfl ?_ ?_|refine W3 rfl ?_ ?_|refine W4 ?_ ?_|refine W5 rfl ?_ ?_|refine W6 ?_ ?_|refine AppN.mk ?_|refine X1 (W1 rfl ?_ ?_)|refine X1 (W2 rfl ?_ ?_)|refine X2 (W7 rfl ?_ ?_)|refine X3 (W7 rfl ?_ ?_)|refine X4 (W7 rfl ?_ ?_)|refine X5 (W7 rfl ?_ ?_))
        all_goals (try (conv => whnf))
        all_goals (try first|exact Ob.mk (u8_bnd _)|(refine Ob.mk ?_;first|exact True.intro|assumption|omega|(try simp only [ZA,ZB,ZC,ZD,ZE,ZF,ZG,ZH,ZI,ZJ,ZK,ZL,ZM,ZN,ZO,Int.toNat_natCast,UInt8.ofNat_toNat,cast_eq] at *;omega)))
        all_goals (try first|(show (_:Int) = _;omega)|(show tupSV _ = _;with_unfolding_all rfl)|((first|show (_:Nat) ≤ _|show (_:Nat) ≤ _ ∧ (_:Nat) ≤ _|show (_:Int) ≤ _ ∧ (_:Int) ≤ _ ∧ (_:Int) ≤ _ ∧ (_:Int) ≤ _);(simp <;> omega)))
        all_goals (try (show _ = (_ : Int); simp only; omega))
    · have he : s.drop i = [] := List.drop_of_length_le (by omega)
      rw [he, decF_nil, List.append_nil] at a3
      rw [a3]
end Go.Vc

namespace Go.Vc
open Go.Proofs
set_option maxRecDepth 10000
set_option maxHeartbeats 4000000
abbrev AttrD := List UInt8 × List UInt8
def blB (c : UInt8) : Bool := W.isSp c.toNat
def twN (p : UInt8 → Bool) (l : List UInt8) : Nat := (l.takeWhile p).length
theorem twN_le (p : UInt8 → Bool) (l : List UInt8) : twN p l ≤ l.length := (List.takeWhile_sublist p (l := l)).length_le
theorem tw_at (p : UInt8 → Bool) (s : List UInt8) (i : Nat) (h : i < s.length) : twN p (s.drop i) = if p (s.getD i 0) = true then twN p (s.drop (i + 1)) + 1 else 0 := by
  have e : s.getD i 0 = s[i] := by simp [List.getD, List.getElem?_eq_getElem h]
  rw [e]
  unfold twN
  rw [List.drop_eq_getElem_cons h, List.takeWhile_cons]
  split <;> simp
theorem tw_end (p : UInt8 → Bool) (s : List UInt8) (i : Nat) (h : s.length ≤ i) : twN p (s.drop i) = 0 := by
  rw [List.drop_eq_nil_of_le h]; rfl
def upTo (p : UInt8 → Bool) (s : List UInt8) (i : Nat) : Nat := i + twN p (s.drop i)
theorem upTo_le (p : UInt8 → Bool) (s : List UInt8) (i : Nat) (h : i ≤ s.length) : i ≤ upTo p s i ∧ upTo p s i ≤ s.length := by
  have := twN_le p (s.drop i)
  rw [List.length_drop] at this
  unfold upTo; omega
theorem upTo_step (p : UInt8 → Bool) (s : List UInt8) (i : Nat) (h : i < s.length) (hp : p (s.getD i 0) = true) : upTo p s (i + 1) = upTo p s i := by
  unfold upTo
  rw [tw_at p s i h, if_pos hp]; omega
theorem upTo_stop (p : UInt8 → Bool) (s : List UInt8) (i : Nat) (h : i < s.length) (hp : p (s.getD i 0) = false) : upTo p s i = i := by
  unfold upTo
  rw [tw_at p s i h, hp]; rfl
theorem upTo_end (p : UInt8 → Bool) (s : List UInt8) (i : Nat) (h : s.length ≤ i) : upTo p s i = i := by
  unfold upTo
  rw [tw_end p s i h]; rfl
def stP (st : List UInt8) (c : UInt8) : Bool := !blB c && !st.contains c
abbrev scC (s : List UInt8) (i : Int) (k : Int) (nm : List UInt8) (y : SV) (sf : Bool) (da x : List UInt8) : Chunk := .box [.str s, .int .i64 i, .int .i64 k, .str nm, y, .bool sf, .str da, .str x]
theorem b_iff (c k : UInt8) : ((c.toNat : Int) == (k.toNat : Int)) = (c == k) := by
  rw [Bool.eq_iff_iff, beq_iff_eq, beq_iff_eq]
  constructor
  · intro h; exact UInt8.toNat_inj.1 (by omega)
  · rintro rfl; rfl
theorem FnM.weaken {f : FuncId} {args : List SV} {Φ Φ' : Phi} {pre pre' : Prop} {res : SV} (h : FnM BB f args Φ pre res Φ') (hp : pre' → pre) : FnM BB f args Φ pre' res Φ' := ⟨h.1, fun q => h.2 (hp q)⟩
theorem FnM.ofNat' {f : FuncId} {args : Int → List SV} {Φ Φ' : Int → Phi} {pre : Int → Prop} {res : Int → SV} (i : Int) (h0 : pre i → 0 ≤ i) (h : ∀ n : Nat, FnM BB f (args n) (Φ n) (pre n) (res n) (Φ' n)) : FnM BB f (args i) (Φ i) (pre i) (res i) (Φ' i) :=
  ⟨(h 0).1, fun q => by obtain ⟨n, rfl⟩ := Int.eq_ofNat_of_zero_le (h0 q); exact (h n).2 q⟩
theorem ixb_le (l : List UInt8) (c : UInt8) : Lib.indexByte l c + 1 ≤ l.length ∨ Lib.indexByte l c = -1 := by
  induction l with
  | nil => right; rfl
  | cons b r ih => unfold Lib.indexByte; simp only [List.length_cons]; split
                   · left; omega
                   · split
                     · right; rfl
                     · left; rename_i h; simp at h; omega
def qB (c : UInt8) : Bool := c == 34 || c == 39
def valS (s : List UInt8) (i : Nat) : List UInt8 × Nat × Bool :=
  if qB (s.getD i 0) = true then (if Lib.indexByte (s.drop (i + 1)) (s.getD i 0) < 0 then ([], i, false) else ((s.drop (i + 1)).take (Lib.indexByte (s.drop (i + 1)) (s.getD i 0)).toNat, i + (Lib.indexByte (s.drop (i + 1)) (s.getD i 0)).toNat + 2, true))
  else ((s.take (upTo (stP [62]) s i)).drop i, upTo (stP [62]) s i, true)
theorem ixb (l : List UInt8) (c : UInt8) : decide (Lib.indexByte l ((c.toNat : Int)).toNat.toUInt8 < 0) = !l.contains c := by
  have e : ((c.toNat : Int)).toNat.toUInt8 = c := by simp
  rw [e]
  induction l with
  | nil => rfl
  | cons b r ih =>
    unfold Lib.indexByte
    rw [List.contains_cons]
    have hg := Lib.indexByte_ge r c
    by_cases h : b = c
    · subst h; simp
    · have e1 : (b == c) = false := beq_eq_false_iff_ne.2 h
      have e2 : (c == b) = false := beq_eq_false_iff_ne.2 (fun q => h q.symm)
      rw [e1, e2, Bool.false_or, ← ih]
      simp only [Bool.false_eq_true, if_false]
      by_cases q : Lib.indexByte r c = -1
      · rw [q]; rfl
      · have : (Lib.indexByte r c == -1) = false := beq_eq_false_iff_ne.2 q
        rw [this]
        simp only [Bool.false_eq_true, if_false]
        rw [Bool.eq_iff_iff]; simp; omega
theorem tOverAn (s nm da x : List UInt8) (i : Nat) (k : Int) (sf : Bool) : FnM BB 28 [.loc 0 0] [(0, scC s i k nm .nils sf da x)] True (.bool (decide ((i : Int) ≥ (s.length : Int)))) [(0, scC s i k nm .nils sf da x)] := by
  refine FnM.intro (N := 13) [0, 2] [(1, [0, 0, 0, 1, 0, 0, 0, 1, 1, 3, 3])] 1 Tryz.call28 Tryz.func28 rfl rfl (by kernel_rfl) (fun hpre => ?_)
  repeat' ((conv => whnf);first|(with_reducible first|rfl|exact absTF|exact absFT)|exact True.intro|intro _|refine And.intro ?_ ?_|refine Fin.mk ?_|refine W1 rfl ?_ ?_|refine W2 rfl ?_ ?_|refine W3 rfl ?_ ?_|refine W4 ?_ ?_|refine W5 rfl ?_ ?_|refine W6 ?_ ?_|refine AppN.mk ?_|refine X1 (W1 rfl ?_ ?_)|refine X1 (W2 rfl ?_ ?_)|refine X2 (W7 rfl ?_ ?_)|refine X3 (W7 rfl ?_ ?_)|refine X4 (W7 rfl ?_ ?_)|refine X5 (W7 rfl ?_ ?_))
  all_goals (try (conv => whnf))
  all_goals (try first|exact Ob.mk (u8_bnd _)|(refine Ob.mk ?_;first|exact True.intro|assumption|omega|(try simp only [ZA,ZB,ZC,ZD,ZE,ZF,ZG,ZH,ZI,ZJ,ZK,ZL,ZM,ZN,ZO,Int.toNat_natCast,UInt8.ofNat_toNat,cast_eq] at *;omega)))
  all_goals (try first|(show (_:Int) = _;omega)|(show tupSV _ = _;with_unfolding_all rfl)|((first|show (_:Nat) ≤ _|show (_:Nat) ≤ _ ∧ (_:Nat) ≤ _|show (_:Int) ≤ _ ∧ (_:Int) ≤ _ ∧ (_:Int) ≤ _ ∧ (_:Int) ≤ _);(simp <;> omega)))
theorem tIsAn (s nm da x : List UInt8) (i : Nat) (k : Int) (sf : Bool) (c : Int) : FnM BB 49 [.loc 0 0, .int .u8 c] [(0, scC s i k nm .nils sf da x)] True (.bool (decide ((i : Int) < (s.length : Int)) && ((s.getD i 0).toNat : Int) == c)) [(0, scC s i k nm .nils sf da x)] := by
  refine FnM.intro (N := 28) [0, 1, 4] [(1, [0, 0, 0, 1, 0, 0, 0, 1, 1, 1, 1, 1, 1, 1, 1, 1, 1, 1, 1, 1, 1, 3, 3, 3])] 1 Tryz.call49 Tryz.func49 rfl rfl (by kernel_rfl) (fun hpre => ?_)
  repeat' ((conv => whnf);first|(with_reducible first|rfl|exact absTF|exact absFT)|exact True.intro|intro _|refine And.intro ?_ ?_|refine Fin.mk ?_|refine W1 rfl ?_ ?_|refine W2 rfl ?_ ?_|refine W3 rfl ?_ ?_|refine W4 ?_ ?_|refine W5 rfl ?_ ?_|refine W6 ?_ ?_|refine AppN.mk ?_|refine X1 (W1 rfl ?_ ?_)|refine X1 (W2 rfl ?_ ?_)|refine X2 (W7 rfl ?_ ?_)|refine X3 (W7 rfl ?_ ?_)|refine X4 (W7 rfl ?_ ?_)|refine X5 (W7 rfl ?_ ?_))
  all_goals (try (conv => whnf))
  all_goals (try first|exact Ob.mk (u8_bnd _)|(refine Ob.mk ?_;first|exact True.intro|assumption|omega|(try simp only [ZA,ZB,ZC,ZD,ZE,ZF,ZG,ZH,ZI,ZJ,ZK,ZL,ZM,ZN,ZO,Int.toNat_natCast,UInt8.ofNat_toNat,cast_eq] at *;omega)))
  all_goals (try first|(show (_:Int) = _;omega)|(show tupSV _ = _;with_unfolding_all rfl)|((first|show (_:Nat) ≤ _|show (_:Nat) ≤ _ ∧ (_:Nat) ≤ _|show (_:Int) ≤ _ ∧ (_:Int) ≤ _ ∧ (_:Int) ≤ _ ∧ (_:Int) ≤ _);(simp <;> omega)))
  all_goals (first | rfl | omega | trace_state)
theorem tBlanksAn (s nm da x : List UInt8) (i : Nat) (k : Int) (sf : Bool) : FnM BB 48 [.loc 0 0] [(0, scC s i k nm .nils sf da x)] (i ≤ s.length ∧ s.length ≤ 100000) (.tup []) [(0, scC s (upTo blB s i : Nat) k nm .nils sf da x)] := by
  refine FnM.intro (N := 31) [0, 23] [(0, [0, 0, 0, 1, 0, 0, 0, 1, 1, 1, 1, 1, 1, 1, 1, 1, 1, 1, 1, 3, 3, 3])] 1 Tryz.call48 Tryz.func48 rfl rfl (by kernel_rfl) (fun hpre => ?_)
  obtain ⟨p1, p2⟩ := hpre
  repeat' ((conv => whnf);first|(with_reducible first|rfl|exact absTF|exact absFT)|exact True.intro|intro _|refine And.intro ?_ ?_|refine Fin.mk ?_|refine W1 rfl ?_ ?_|refine W2 rfl ?_ ?_|refine W3 rfl ?_ ?_|refine W4 ?_ ?_|refine W5 rfl ?_ ?_|refine W6 ?_ ?_|refine AppN.mk ?_|refine X1 (W1 rfl ?_ ?_)|refine X1 (W2 rfl ?_ ?_)|refine X2 (W7 rfl ?_ ?_)|refine X3 (W7 rfl ?_ ?_)|refine X4 (W7 rfl ?_ ?_)|refine X5 (W7 rfl ?_ ?_))
  all_goals (try (conv => whnf))
  all_goals (try first|exact Ob.mk (u8_bnd _)|(refine Ob.mk ?_;first|exact True.intro|assumption|omega|(try simp only [ZA,ZB,ZC,ZD,ZE,ZF,ZG,ZH,ZI,ZJ,ZK,ZL,ZM,ZN,ZO,Int.toNat_natCast,UInt8.ofNat_toNat,cast_eq] at *;omega)))
  all_goals (try first|(show (_:Int) = _;omega)|(show tupSV _ = _;with_unfolding_all rfl)|((first|show (_:Nat) ≤ _|show (_:Nat) ≤ _ ∧ (_:Nat) ≤ _|show (_:Int) ≤ _ ∧ (_:Int) ≤ _ ∧ (_:Int) ≤ _ ∧ (_:Int) ≤ _);(simp <;> omega)))
  refine LoopStop.mk (α := Nat) (fun j => []) (fun j => [(0, scC s j k nm .nils sf da x)]) 20 (fun j => j ≤ s.length ∧ upTo blB s j = upTo blB s i) (fun j => s.length - j) i ⟨p1, rfl⟩ ?_ (fun j hj => ?_)
  · repeat' ((conv => whnf);first|(with_reducible first|rfl|exact absTF|exact absFT)|exact True.intro|intro _|refine And.intro ?_ ?_|refine Fin.mk ?_|refine W1 rfl ?_ ?_|refine W2 rfl ?_ ?_|refine W3 rfl ?_ ?_|refine W4 ?_ ?_|refine W5 rfl ?_ ?_|refine W6 ?_ ?_|refine AppN.mk ?_|refine X1 (W1 rfl ?_ ?_)|refine X1 (W2 rfl ?_ ?_)|refine X2 (W7 rfl ?_ ?_)|refine X3 (W7 rfl ?_ ?_)|refine X4 (W7 rfl ?_ ?_)|refine X5 (W7 rfl ?_ ?_))
    all_goals (try (conv => whnf))
    all_goals (try first|exact Ob.mk (u8_bnd _)|(refine Ob.mk ?_;first|exact True.intro|assumption|omega|(try simp only [ZA,ZB,ZC,ZD,ZE,ZF,ZG,ZH,ZI,ZJ,ZK,ZL,ZM,ZN,ZO,Int.toNat_natCast,UInt8.ofNat_toNat,cast_eq] at *;omega)))
    all_goals (try first|(show (_:Int) = _;omega)|(show tupSV _ = _;with_unfolding_all rfl)|((first|show (_:Nat) ≤ _|show (_:Nat) ≤ _ ∧ (_:Nat) ≤ _|show (_:Int) ≤ _ ∧ (_:Int) ≤ _ ∧ (_:Int) ≤ _ ∧ (_:Int) ≤ _);(simp <;> omega)))
    all_goals rfl
  · obtain ⟨q1, q2⟩ := hj
    have cc : (decide ((j : Int) < (s.length : Int)) && W.isSp ((s.getD ((j : Int)).toNat 0).toNat : Int)) = (decide (j < s.length) && blB (s.getD j 0)) := by
      rw [Int.toNat_natCast]
      congr 1
      rw [Bool.eq_iff_iff]; simp
    repeat' ((conv => whnf);first|(with_reducible first|rfl|exact absTF|exact absFT)|exact True.intro|intro _|refine And.intro ?_ ?_|refine Fin.mk ?_|refine W1 rfl ?_ ?_|refine W2 rfl ?_ ?_|refine W3 rfl ?_ ?_|refine W4 ?_ ?_|refine W5 rfl ?_ ?_|refine W6 ?_ ?_|refine AppN.mk ?_|refine X1 (W1 rfl ?_ ?_)|refine X1 (W2 rfl ?_ ?_)|refine X2 (W7 rfl ?_ ?_)|refine X3 (W7 rfl ?_ ?_)|refine X4 (W7 rfl ?_ ?_)|refine X5 (W7 rfl ?_ ?_))
    all_goals (try (conv => whnf))
    all_goals (try first|exact Ob.mk (u8_bnd _)|(refine Ob.mk ?_;first|exact True.intro|assumption|omega|(try simp only [ZA,ZB,ZC,ZD,ZE,ZF,ZG,ZH,ZI,ZJ,ZK,ZL,ZM,ZN,ZO,Int.toNat_natCast,UInt8.ofNat_toNat,cast_eq] at *;omega)))
    all_goals (try first|(show (_:Int) = _;omega)|(show tupSV _ = _;with_unfolding_all rfl)|((first|show (_:Nat) ≤ _|show (_:Nat) ≤ _ ∧ (_:Nat) ≤ _|show (_:Int) ≤ _ ∧ (_:Int) ≤ _ ∧ (_:Int) ≤ _ ∧ (_:Int) ≤ _);(simp <;> omega)))
    all_goals (simp only [cc] at *)
    · have h : (decide (j < s.length) && blB (s.getD j 0)) = true := ‹_›
      rw [Bool.and_eq_true, decide_eq_true_eq] at h
      refine Rnd.mk ⟨j + 1, ⟨by omega, (upTo_step blB s j h.1 h.2).trans q2⟩, by omega, ?_⟩
      repeat' ((conv => whnf);first|(with_reducible first|rfl|exact absTF|exact absFT)|exact True.intro|intro _|refine And.intro ?_ ?_|refine Fin.mk ?_|refine W1 rfl ?_ ?_|refine W2 rfl ?_ ?_|refine W3 rfl ?_ ?_|refine W4 ?_ ?_|refine W5 rfl ?_ ?_|refine W6 ?_ ?_|refine AppN.mk ?_|refine X1 (W1 rfl ?_ ?_)|refine X1 (W2 rfl ?_ ?_)|refine X2 (W7 rfl ?_ ?_)|refine X3 (W7 rfl ?_ ?_)|refine X4 (W7 rfl ?_ ?_)|refine X5 (W7 rfl ?_ ?_))
      all_goals (try (conv => whnf))
      all_goals (try first|exact Ob.mk (u8_bnd _)|(refine Ob.mk ?_;first|exact True.intro|assumption|omega|(try simp only [ZA,ZB,ZC,ZD,ZE,ZF,ZG,ZH,ZI,ZJ,ZK,ZL,ZM,ZN,ZO,Int.toNat_natCast,UInt8.ofNat_toNat,cast_eq] at *;omega)))
      all_goals (try first|(show (_:Int) = _;omega)|(show tupSV _ = _;with_unfolding_all rfl)|((first|show (_:Nat) ≤ _|show (_:Nat) ≤ _ ∧ (_:Nat) ≤ _|show (_:Int) ≤ _ ∧ (_:Int) ≤ _ ∧ (_:Int) ≤ _ ∧ (_:Int) ≤ _);(simp <;> omega)))
      all_goals rfl
    · have h : (decide (j < s.length) && blB (s.getD j 0)) = false := ‹_›
      rw [← q2]
      rcases Nat.lt_or_ge j s.length with hl | hl
      · rw [decide_eq_true hl, Bool.true_and] at h
        rw [upTo_stop blB s j hl h]
      · rw [upTo_end blB s j hl]
theorem tUntilAn (s nm da x : List UInt8) (i : Nat) (k : Int) (sf : Bool) (st : List UInt8) : FnM BB 30 [.loc 0 0, .str st] [(0, scC s i k nm .nils sf da x)] (i ≤ s.length ∧ s.length ≤ 100000) (.tup []) [(0, scC s (upTo (stP st) s i : Nat) k nm .nils sf da x)] := by
  refine FnM.intro (N := 48) [0, 1, 40] [(0, [0, 0, 0, 1, 0, 0, 0, 1, 1, 1, 1, 1, 1, 1, 1, 1, 1, 1, 1, 1, 1, 1, 1, 1, 1, 1, 1, 1, 1, 1, 1, 1, 1, 1, 3, 3, 3])] 1 Tryz.call30 Tryz.func30 rfl rfl (by kernel_rfl) (fun hpre => ?_)
  obtain ⟨p1, p2⟩ := hpre
  repeat' ((conv => whnf);first|(with_reducible first|rfl|exact absTF|exact absFT)|exact True.intro|intro _|refine And.intro ?_ ?_|refine Fin.mk ?_|refine W1 rfl ?_ ?_|refine W2 rfl ?_ ?_|refine W3 rfl ?_ ?_|refine W4 ?_ ?_|refine W5 rfl ?_ ?_|refine W6 ?_ ?_|refine AppN.mk ?_|refine X1 (W1 rfl ?_ ?_)|refine X1 (W2 rfl ?_ ?_)|refine X2 (W7 rfl ?_ ?_)|refine X3 (W7 rfl ?_ ?_)|refine X4 (W7 rfl ?_ ?_)|refine X5 (W7 rfl ?_ ?_))
  all_goals (try (conv => whnf))
  all_goals (try first|exact Ob.mk (u8_bnd _)|(refine Ob.mk ?_;first|exact True.intro|assumption|omega|(try simp only [ZA,ZB,ZC,ZD,ZE,ZF,ZG,ZH,ZI,ZJ,ZK,ZL,ZM,ZN,ZO,Int.toNat_natCast,UInt8.ofNat_toNat,cast_eq] at *;omega)))
  all_goals (try first|(show (_:Int) = _;omega)|(show tupSV _ = _;with_unfolding_all rfl)|((first|show (_:Nat) ≤ _|show (_:Nat) ≤ _ ∧ (_:Nat) ≤ _|show (_:Int) ≤ _ ∧ (_:Int) ≤ _ ∧ (_:Int) ≤ _ ∧ (_:Int) ≤ _);(simp <;> omega)))
  refine LoopStop.mk (α := Nat) (fun j => []) (fun j => [(0, scC s j k nm .nils sf da x)]) 20 (fun j => j ≤ s.length ∧ upTo (stP st) s j = upTo (stP st) s i) (fun j => s.length - j) i ⟨p1, rfl⟩ ?_ (fun j hj => ?_)
  · repeat' ((conv => whnf);first|(with_reducible first|rfl|exact absTF|exact absFT)|exact True.intro|intro _|refine And.intro ?_ ?_|refine Fin.mk ?_|refine W1 rfl ?_ ?_|refine W2 rfl ?_ ?_|refine W3 rfl ?_ ?_|refine W4 ?_ ?_|refine W5 rfl ?_ ?_|refine W6 ?_ ?_|refine AppN.mk ?_|refine X1 (W1 rfl ?_ ?_)|refine X1 (W2 rfl ?_ ?_)|refine X2 (W7 rfl ?_ ?_)|refine X3 (W7 rfl ?_ ?_)|refine X4 (W7 rfl ?_ ?_)|refine X5 (W7 rfl ?_ ?_))
    all_goals (try (conv => whnf))
    all_goals (try first|exact Ob.mk (u8_bnd _)|(refine Ob.mk ?_;first|exact True.intro|assumption|omega|(try simp only [ZA,ZB,ZC,ZD,ZE,ZF,ZG,ZH,ZI,ZJ,ZK,ZL,ZM,ZN,ZO,Int.toNat_natCast,UInt8.ofNat_toNat,cast_eq] at *;omega)))
    all_goals (try first|(show (_:Int) = _;omega)|(show tupSV _ = _;with_unfolding_all rfl)|((first|show (_:Nat) ≤ _|show (_:Nat) ≤ _ ∧ (_:Nat) ≤ _|show (_:Int) ≤ _ ∧ (_:Int) ≤ _ ∧ (_:Int) ≤ _ ∧ (_:Int) ≤ _);(simp <;> omega)))
    all_goals rfl
  · obtain ⟨q1, q2⟩ := hj
    have cc : (decide ((j : Int) < (s.length : Int)) && !W.isSp ((s.getD ((j : Int)).toNat 0).toNat : Int) && decide (Lib.indexByte st ((s.getD ((j : Int)).toNat 0).toNat : Int).toNat.toUInt8 < 0)) = (decide (j < s.length) && stP st (s.getD j 0)) := by
      rw [Int.toNat_natCast, ixb st (s.getD j 0), Bool.and_assoc]
      congr 1
      rw [Bool.eq_iff_iff]; simp
    repeat' ((conv => whnf);first|(with_reducible first|rfl|exact absTF|exact absFT)|exact True.intro|intro _|refine And.intro ?_ ?_|refine Fin.mk ?_|refine W1 rfl ?_ ?_|refine W2 rfl ?_ ?_|refine W3 rfl ?_ ?_|refine W4 ?_ ?_|refine W5 rfl ?_ ?_|refine W6 ?_ ?_|refine AppN.mk ?_|refine X1 (W1 rfl ?_ ?_)|refine X1 (W2 rfl ?_ ?_)|refine X2 (W7 rfl ?_ ?_)|refine X3 (W7 rfl ?_ ?_)|refine X4 (W7 rfl ?_ ?_)|refine X5 (W7 rfl ?_ ?_))
    all_goals (try (conv => whnf))
    all_goals (try first|exact Ob.mk (u8_bnd _)|(refine Ob.mk ?_;first|exact True.intro|assumption|omega|(try simp only [ZA,ZB,ZC,ZD,ZE,ZF,ZG,ZH,ZI,ZJ,ZK,ZL,ZM,ZN,ZO,Int.toNat_natCast,UInt8.ofNat_toNat,cast_eq] at *;omega)))
    all_goals (try first|(show (_:Int) = _;omega)|(show tupSV _ = _;with_unfolding_all rfl)|((first|show (_:Nat) ≤ _|show (_:Nat) ≤ _ ∧ (_:Nat) ≤ _|show (_:Int) ≤ _ ∧ (_:Int) ≤ _ ∧ (_:Int) ≤ _ ∧ (_:Int) ≤ _);(simp <;> omega)))
    all_goals (simp only [cc] at *)
    · have h : (decide (j < s.length) && stP st (s.getD j 0)) = true := ‹_›
      rw [Bool.and_eq_true, decide_eq_true_eq] at h
      refine Rnd.mk ⟨j + 1, ⟨by omega, (upTo_step (stP st) s j h.1 h.2).trans q2⟩, by omega, ?_⟩
      repeat' ((conv => whnf);first|(with_reducible first|rfl|exact absTF|exact absFT)|exact True.intro|intro _|refine And.intro ?_ ?_|refine Fin.mk ?_|refine W1 rfl ?_ ?_|refine W2 rfl ?_ ?_|refine W3 rfl ?_ ?_|refine W4 ?_ ?_|refine W5 rfl ?_ ?_|refine W6 ?_ ?_|refine AppN.mk ?_|refine X1 (W1 rfl ?_ ?_)|refine X1 (W2 rfl ?_ ?_)|refine X2 (W7 rfl ?_ ?_)|refine X3 (W7 rfl ?_ ?_)|refine X4 (W7 rfl ?_ ?_)|refine X5 (W7 rfl ?_ ?_))
      all_goals (try (conv => whnf))
      all_goals (try first|exact Ob.mk (u8_bnd _)|(refine Ob.mk ?_;first|exact True.intro|assumption|omega|(try simp only [ZA,ZB,ZC,ZD,ZE,ZF,ZG,ZH,ZI,ZJ,ZK,ZL,ZM,ZN,ZO,Int.toNat_natCast,UInt8.ofNat_toNat,cast_eq] at *;omega)))
      all_goals (try first|(show (_:Int) = _;omega)|(show tupSV _ = _;with_unfolding_all rfl)|((first|show (_:Nat) ≤ _|show (_:Nat) ≤ _ ∧ (_:Nat) ≤ _|show (_:Int) ≤ _ ∧ (_:Int) ≤ _ ∧ (_:Int) ≤ _ ∧ (_:Int) ≤ _);(simp <;> omega)))
      all_goals rfl
    · have h : (decide (j < s.length) && stP st (s.getD j 0)) = false := ‹_›
      rw [← q2]
      rcases Nat.lt_or_ge j s.length with hl | hl
      · rw [decide_eq_true hl, Bool.true_and] at h
        rw [upTo_stop (stP st) s j hl h]
      · rw [upTo_end (stP st) s j hl]
theorem tValueAn (s nm da x : List UInt8) (i : Nat) (k : Int) (sf : Bool) : FnM BB 51 [.loc 0 0] [(0, scC s i k nm .nils sf da x)] (i < s.length ∧ s.length ≤ 100000) (.tup [.str (valS s i).1, .bool (valS s i).2.2]) [(0, scC s ((valS s i).2.1 : Nat) k nm .nils sf da x)] := by
  refine FnM.intro (N := 58) [0, 2, 3, 4, 5, 6, 18, 47] [(4, [0, 0, 0, 1, 0, 0, 0, 0, 1, 3, 3, 0])] 1 Tryz.call51 Tryz.func51 rfl rfl (by kernel_rfl) (fun hpre => ?_)
  obtain ⟨p1, p2⟩ := hpre
  have hu := upTo_le (stP [62]) s i (by omega)
  haveI := fun c : Int => tIsAn s nm da x i k sf c
  haveI := fun st : List UInt8 => tUntilAn s nm da x i k sf st
  have e1 : decide ((i : Int) < (s.length : Int)) = true := decide_eq_true (by omega)
  have e34 : (((s.getD i 0).toNat : Int) == 34) = (s.getD i 0 == 34) := b_iff _ 34
  have e39 : (((s.getD i 0).toNat : Int) == 39) = (s.getD i 0 == 39) := b_iff _ 39
  have qa : (!(decide ((i : Int) < (s.length : Int)) && ((s.getD i 0).toNat : Int) == 34)) = true → (true && !(decide ((i : Int) < (s.length : Int)) && ((s.getD i 0).toNat : Int) == 39)) = true → qB (s.getD i 0) = false := fun h h' => by
    rw [e1, Bool.true_and, e34] at h; rw [e1, Bool.true_and, Bool.true_and, e39] at h'
    unfold qB; cases h1 : s.getD i 0 == 34 <;> cases h2 : s.getD i 0 == 39 <;> simp_all
  have qb : (!(decide ((i : Int) < (s.length : Int)) && ((s.getD i 0).toNat : Int) == 34)) = true → (true && !(decide ((i : Int) < (s.length : Int)) && ((s.getD i 0).toNat : Int) == 39)) = false → qB (s.getD i 0) = true := fun h h' => by
    rw [e1, Bool.true_and, e34] at h; rw [e1, Bool.true_and, Bool.true_and, e39] at h'
    unfold qB; cases h1 : s.getD i 0 == 34 <;> cases h2 : s.getD i 0 == 39 <;> simp_all
  have qc : (!(decide ((i : Int) < (s.length : Int)) && ((s.getD i 0).toNat : Int) == 34)) = !true → qB (s.getD i 0) = true := fun h => by
    rw [e1, Bool.true_and, e34] at h
    unfold qB; cases h1 : s.getD i 0 == 34 <;> simp_all
  have hx := Lib.indexByte_ge (s.drop (i + 1)) (s.getD i 0)
  have hx2 := ixb_le (s.drop (i + 1)) (s.getD i 0)
  rw [List.length_drop] at hx2
  have ei : ((i : Int)).toNat = i := Int.toNat_natCast i
  have ei1 : ((i : Int) + 1).toNat = i + 1 := by omega
  have v1 : qB (s.getD i 0) = false → valS s i = ((s.take (upTo (stP [62]) s i)).drop i, upTo (stP [62]) s i, true) := fun h => by unfold valS; rw [h]; rfl
  have v2 : qB (s.getD i 0) = true → decide (Lib.indexByte (s.drop (i + 1)) (s.getD i 0) < 0) = true → valS s i = ([], i, false) := fun h h' => by unfold valS; rw [h, if_pos rfl, if_pos (of_decide_eq_true h')]
  have v3 : qB (s.getD i 0) = true → decide (Lib.indexByte (s.drop (i + 1)) (s.getD i 0) < 0) = false → valS s i = ((s.drop (i + 1)).take (Lib.indexByte (s.drop (i + 1)) (s.getD i 0)).toNat, i + (Lib.indexByte (s.drop (i + 1)) (s.getD i 0)).toNat + 2, true) := fun h h' => by unfold valS; rw [h, if_pos rfl, if_neg (of_decide_eq_false h')]
  repeat' ((conv => whnf);first|(with_reducible first|rfl|exact absTF|exact absFT)|exact True.intro|intro _|refine And.intro ?_ ?_|refine Fin.mk ?_|refine W1 rfl ?_ ?_|refine W2 rfl ?_ ?_|refine W3 rfl ?_ ?_|refine W4 ?_ ?_|refine W5 rfl ?_ ?_|refine W6 ?_ ?_|refine AppN.mk ?_|refine X1 (W1 rfl ?_ ?_)|refine X1 (W2 rfl ?_ ?_)|refine X2 (W7 rfl ?_ ?_)|refine X3 (W7 rfl ?_ ?_)|refine X4 (W7 rfl ?_ ?_)|refine X5 (W7 rfl ?_ ?_))
  all_goals (try (conv => whnf))
  all_goals (try first|exact Ob.mk (u8_bnd _)|(refine Ob.mk ?_;first|exact True.intro|assumption|omega|(try simp only [ZA,ZB,ZC,ZD,ZE,ZF,ZG,ZH,ZI,ZJ,ZK,ZL,ZM,ZN,ZO,Int.toNat_natCast,UInt8.ofNat_toNat,cast_eq] at *;omega)))
  all_goals (try first|(show (_:Int) = _;omega)|(show tupSV _ = _;with_unfolding_all rfl)|((first|show (_:Nat) ≤ _|show (_:Nat) ≤ _ ∧ (_:Nat) ≤ _|show (_:Int) ≤ _ ∧ (_:Int) ≤ _ ∧ (_:Int) ≤ _ ∧ (_:Int) ≤ _);(simp <;> omega)))
  all_goals (try simp only [ei, ei1, Int.toNat_natCast] at *)
  all_goals (have ec : (s.getD i 0).toNat.toUInt8 = s.getD i 0 := by simp)
  all_goals (try simp only [ec] at *)
  all_goals (try (have hge := of_decide_eq_false ‹decide (Lib.indexByte (s.drop (i + 1)) (s.getD i 0) < 0) = false›))
  all_goals (try (have hv := v1 (qa ‹_› ‹_›)))
  all_goals (try (have hv := v2 (qb ‹_› ‹_›) ‹_›))
  all_goals (try (have hv := v2 (qc ‹_›) ‹_›))
  all_goals (try (have hv := v3 (qb ‹_› ‹_›) ‹_›))
  all_goals (try (have hv := v3 (qc ‹_›) ‹_›))
  all_goals (first | (rw [hv]; done) | (rw [hv]; rfl) | omega | (constructor <;> omega) | (rw [hv]; simp only; omega) | (exact ⟨by omega, by rw [List.length_drop]; omega⟩) | trace_state)
instance tOverA (s nm da x : List UInt8) (i : Int) (k : Int) (sf : Bool) : FnM BB 28 [.loc 0 0] [(0, scC s i k nm .nils sf da x)] (0 ≤ i) (.bool (decide (i ≥ (s.length : Int)))) [(0, scC s i k nm .nils sf da x)] :=
  FnM.ofNat' (args := fun _ => [.loc 0 0]) (Φ := fun i => [(0, scC s i k nm .nils sf da x)]) (Φ' := fun i => [(0, scC s i k nm .nils sf da x)]) (pre := fun i => 0 ≤ i) (res := fun i => .bool (decide (i ≥ (s.length : Int)))) i (fun h => h) fun n => (tOverAn s nm da x n k sf).weaken fun _ => True.intro
instance tIsA (s nm da x : List UInt8) (i : Int) (k : Int) (sf : Bool) (c : Int) : FnM BB 49 [.loc 0 0, .int .u8 c] [(0, scC s i k nm .nils sf da x)] (0 ≤ i) (.bool (decide (i < (s.length : Int)) && ((s.getD i.toNat 0).toNat : Int) == c)) [(0, scC s i k nm .nils sf da x)] :=
  FnM.ofNat' (args := fun _ => [.loc 0 0, .int .u8 c]) (Φ := fun i => [(0, scC s i k nm .nils sf da x)]) (Φ' := fun i => [(0, scC s i k nm .nils sf da x)]) (pre := fun i => 0 ≤ i) (res := fun i => .bool (decide (i < (s.length : Int)) && ((s.getD i.toNat 0).toNat : Int) == c)) i (fun h => h) fun n => (tIsAn s nm da x n k sf c).weaken fun _ => True.intro
instance tBlanksA (s nm da x : List UInt8) (i : Int) (k : Int) (sf : Bool) : FnM BB 48 [.loc 0 0] [(0, scC s i k nm .nils sf da x)] (0 ≤ i ∧ i ≤ s.length ∧ s.length ≤ 100000) (.tup []) [(0, scC s (upTo blB s i.toNat : Nat) k nm .nils sf da x)] :=
  FnM.ofNat' (args := fun _ => [.loc 0 0]) (Φ := fun i => [(0, scC s i k nm .nils sf da x)]) (Φ' := fun i => [(0, scC s (upTo blB s i.toNat : Nat) k nm .nils sf da x)]) (pre := fun i => 0 ≤ i ∧ i ≤ s.length ∧ s.length ≤ 100000) (res := fun i => .tup []) i (fun h => h.1) fun n => (tBlanksAn s nm da x n k sf).weaken fun h => (by have h' := h.2; constructor <;> omega)
instance tUntilA (s nm da x : List UInt8) (i : Int) (k : Int) (sf : Bool) (st : List UInt8) : FnM BB 30 [.loc 0 0, .str st] [(0, scC s i k nm .nils sf da x)] (0 ≤ i ∧ i ≤ s.length ∧ s.length ≤ 100000) (.tup []) [(0, scC s (upTo (stP st) s i.toNat : Nat) k nm .nils sf da x)] :=
  FnM.ofNat' (args := fun _ => [.loc 0 0, .str st]) (Φ := fun i => [(0, scC s i k nm .nils sf da x)]) (Φ' := fun i => [(0, scC s (upTo (stP st) s i.toNat : Nat) k nm .nils sf da x)]) (pre := fun i => 0 ≤ i ∧ i ≤ s.length ∧ s.length ≤ 100000) (res := fun i => .tup []) i (fun h => h.1) fun n => (tUntilAn s nm da x n k sf st).weaken fun h => (by have h' := h.2; constructor <;> omega)
instance tValueA (s nm da x : List UInt8) (i : Int) (k : Int) (sf : Bool) : FnM BB 51 [.loc 0 0] [(0, scC s i k nm .nils sf da x)] (0 ≤ i ∧ i < s.length ∧ s.length ≤ 100000) (.tup [.str (valS s i.toNat).1, .bool (valS s i.toNat).2.2]) [(0, scC s ((valS s i.toNat).2.1 : Nat) k nm .nils sf da x)] :=
  FnM.ofNat' (args := fun _ => [.loc 0 0]) (Φ := fun i => [(0, scC s i k nm .nils sf da x)]) (Φ' := fun i => [(0, scC s ((valS s i.toNat).2.1 : Nat) k nm .nils sf da x)]) (pre := fun i => 0 ≤ i ∧ i < s.length ∧ s.length ≤ 100000) (res := fun i => .tup [.str (valS s i.toNat).1, .bool (valS s i.toNat).2.2]) i (fun h => h.1) fun n => (tValueAn s nm da x n k sf).weaken fun h => (by have h' := h.2; constructor <;> omega)
theorem tOverBn (s nm da x : List UInt8) (i : Nat) (k : Int) (sf : Bool) (l : List AttrD) : FnM BB 28 [.loc 0 0] [(0, scC s i k nm (.own 1) sf da x), (1, .own attrTy l)] True (.bool (decide ((i : Int) ≥ (s.length : Int)))) [(0, scC s i k nm (.own 1) sf da x), (1, .own attrTy l)] := by
  refine FnM.intro (N := 13) [0, 2] [(1, [0, 0, 0, 1, 0, 0, 0, 1, 1, 3, 3])] 2 Tryz.call28 Tryz.func28 rfl rfl (by kernel_rfl) (fun hpre => ?_)
  repeat' ((conv => whnf);first|(with_reducible first|rfl|exact absTF|exact absFT)|exact True.intro|intro _|refine And.intro ?_ ?_|refine Fin.mk ?_|refine W1 rfl ?_ ?_|refine W2 rfl ?_ ?_|refine W3 rfl ?_ ?_|refine W4 ?_ ?_|refine W5 rfl ?_ ?_|refine W6 ?_ ?_|refine AppN.mk ?_|refine X1 (W1 rfl ?_ ?_)|refine X1 (W2 rfl ?_ ?_)|refine X2 (W7 rfl ?_ ?_)|refine X3 (W7 rfl ?_ ?_)|refine X4 (W7 rfl ?_ ?_)|refine X5 (W7 rfl ?_ ?_))
  all_goals (try (conv => whnf))
  all_goals (try first|exact Ob.mk (u8_bnd _)|(refine Ob.mk ?_;first|exact True.intro|assumption|omega|(try simp only [ZA,ZB,ZC,ZD,ZE,ZF,ZG,ZH,ZI,ZJ,ZK,ZL,ZM,ZN,ZO,Int.toNat_natCast,UInt8.ofNat_toNat,cast_eq] at *;omega)))
  all_goals (try first|(show (_:Int) = _;omega)|(show tupSV _ = _;with_unfolding_all rfl)|((first|show (_:Nat) ≤ _|show (_:Nat) ≤ _ ∧ (_:Nat) ≤ _|show (_:Int) ≤ _ ∧ (_:Int) ≤ _ ∧ (_:Int) ≤ _ ∧ (_:Int) ≤ _);(simp <;> omega)))
theorem tIsBn (s nm da x : List UInt8) (i : Nat) (k : Int) (sf : Bool) (l : List AttrD) (c : Int) : FnM BB 49 [.loc 0 0, .int .u8 c] [(0, scC s i k nm (.own 1) sf da x), (1, .own attrTy l)] True (.bool (decide ((i : Int) < (s.length : Int)) && ((s.getD i 0).toNat : Int) == c)) [(0, scC s i k nm (.own 1) sf da x), (1, .own attrTy l)] := by
  refine FnM.intro (N := 28) [0, 1, 4] [(1, [0, 0, 0, 1, 0, 0, 0, 1, 1, 1, 1, 1, 1, 1, 1, 1, 1, 1, 1, 1, 1, 3, 3, 3])] 2 Tryz.call49 Tryz.func49 rfl rfl (by kernel_rfl) (fun hpre => ?_)
  repeat' ((conv => whnf);first|(with_reducible first|rfl|exact absTF|exact absFT)|exact True.intro|intro _|refine And.intro ?_ ?_|refine Fin.mk ?_|refine W1 rfl ?_ ?_|refine W2 rfl ?_ ?_|refine W3 rfl ?_ ?_|refine W4 ?_ ?_|refine W5 rfl ?_ ?_|refine W6 ?_ ?_|refine AppN.mk ?_|refine X1 (W1 rfl ?_ ?_)|refine X1 (W2 rfl ?_ ?_)|refine X2 (W7 rfl ?_ ?_)|refine X3 (W7 rfl ?_ ?_)|refine X4 (W7 rfl ?_ ?_)|refine X5 (W7 rfl ?_ ?_))
  all_goals (try (conv => whnf))
  all_goals (try first|exact Ob.mk (u8_bnd _)|(refine Ob.mk ?_;first|exact True.intro|assumption|omega|(try simp only [ZA,ZB,ZC,ZD,ZE,ZF,ZG,ZH,ZI,ZJ,ZK,ZL,ZM,ZN,ZO,Int.toNat_natCast,UInt8.ofNat_toNat,cast_eq] at *;omega)))
  all_goals (try first|(show (_:Int) = _;omega)|(show tupSV _ = _;with_unfolding_all rfl)|((first|show (_:Nat) ≤ _|show (_:Nat) ≤ _ ∧ (_:Nat) ≤ _|show (_:Int) ≤ _ ∧ (_:Int) ≤ _ ∧ (_:Int) ≤ _ ∧ (_:Int) ≤ _);(simp <;> omega)))
  all_goals (first | rfl | omega | trace_state)
theorem tBlanksBn (s nm da x : List UInt8) (i : Nat) (k : Int) (sf : Bool) (l : List AttrD) : FnM BB 48 [.loc 0 0] [(0, scC s i k nm (.own 1) sf da x), (1, .own attrTy l)] (i ≤ s.length ∧ s.length ≤ 100000) (.tup []) [(0, scC s (upTo blB s i : Nat) k nm (.own 1) sf da x), (1, .own attrTy l)] := by
  refine FnM.intro (N := 31) [0, 23] [(0, [0, 0, 0, 1, 0, 0, 0, 1, 1, 1, 1, 1, 1, 1, 1, 1, 1, 1, 1, 3, 3, 3])] 2 Tryz.call48 Tryz.func48 rfl rfl (by kernel_rfl) (fun hpre => ?_)
  obtain ⟨p1, p2⟩ := hpre
  repeat' ((conv => whnf);first|(with_reducible first|rfl|exact absTF|exact absFT)|exact True.intro|intro _|refine And.intro ?_ ?_|refine Fin.mk ?_|refine W1 rfl ?_ ?_|refine W2 rfl ?_ ?_|refine W3 rfl ?_ ?_|refine W4 ?_ ?_|refine W5 rfl ?_ ?_|refine W6 ?_ ?_|refine AppN.mk ?_|refine X1 (W1 rfl ?_ ?_)|refine X1 (W2 rfl ?_ ?_)|refine X2 (W7 rfl ?_ ?_)|refine X3 (W7 rfl ?_ ?_)|refine X4 (W7 rfl ?_ ?_)|refine X5 (W7 rfl ?_ ?_))
  all_goals (try (conv => whnf))
  all_goals (try first|exact Ob.mk (u8_bnd _)|(refine Ob.mk ?_;first|exact True.intro|assumption|omega|(try simp only [ZA,ZB,ZC,ZD,ZE,ZF,ZG,ZH,ZI,ZJ,ZK,ZL,ZM,ZN,ZO,Int.toNat_natCast,UInt8.ofNat_toNat,cast_eq] at *;omega)))
  all_goals (try first|(show (_:Int) = _;omega)|(show tupSV _ = _;with_unfolding_all rfl)|((first|show (_:Nat) ≤ _|show (_:Nat) ≤ _ ∧ (_:Nat) ≤ _|show (_:Int) ≤ _ ∧ (_:Int) ≤ _ ∧ (_:Int) ≤ _ ∧ (_:Int) ≤ _);(simp <;> omega)))
  refine LoopStop.mk (α := Nat) (fun j => []) (fun j => [(0, scC s j k nm (.own 1) sf da x)]) 20 (fun j => j ≤ s.length ∧ upTo blB s j = upTo blB s i) (fun j => s.length - j) i ⟨p1, rfl⟩ ?_ (fun j hj => ?_)
  · repeat' ((conv => whnf);first|(with_reducible first|rfl|exact absTF|exact absFT)|exact True.intro|intro _|refine And.intro ?_ ?_|refine Fin.mk ?_|refine W1 rfl ?_ ?_|refine W2 rfl ?_ ?_|refine W3 rfl ?_ ?_|refine W4 ?_ ?_|refine W5 rfl ?_ ?_|refine W6 ?_ ?_|refine AppN.mk ?_|refine X1 (W1 rfl ?_ ?_)|refine X1 (W2 rfl ?_ ?_)|refine X2 (W7 rfl ?_ ?_)|refine X3 (W7 rfl ?_ ?_)|refine X4 (W7 rfl ?_ ?_)|refine X5 (W7 rfl ?_ ?_))
    all_goals (try (conv => whnf))
    all_goals (try first|exact Ob.mk (u8_bnd _)|(refine Ob.mk ?_;first|exact True.intro|assumption|omega|(try simp only [ZA,ZB,ZC,ZD,ZE,ZF,ZG,ZH,ZI,ZJ,ZK,ZL,ZM,ZN,ZO,Int.toNat_natCast,UInt8.ofNat_toNat,cast_eq] at *;omega)))
    all_goals (try first|(show (_:Int) = _;omega)|(show tupSV _ = _;with_unfolding_all rfl)|((first|show (_:Nat) ≤ _|show (_:Nat) ≤ _ ∧ (_:Nat) ≤ _|show (_:Int) ≤ _ ∧ (_:Int) ≤ _ ∧ (_:Int) ≤ _ ∧ (_:Int) ≤ _);(simp <;> omega)))
    all_goals rfl
  · obtain ⟨q1, q2⟩ := hj
    have cc : (decide ((j : Int) < (s.length : Int)) && W.isSp ((s.getD ((j : Int)).toNat 0).toNat : Int)) = (decide (j < s.length) && blB (s.getD j 0)) := by
      rw [Int.toNat_natCast]
      congr 1
      rw [Bool.eq_iff_iff]; simp
    repeat' ((conv => whnf);first|(with_reducible first|rfl|exact absTF|exact absFT)|exact True.intro|intro _|refine And.intro ?_ ?_|refine Fin.mk ?_|refine W1 rfl ?_ ?_|refine W2 rfl ?_ ?_|refine W3 rfl ?_ ?_|refine W4 ?_ ?_|refine W5 rfl ?_ ?_|refine W6 ?_ ?_|refine AppN.mk ?_|refine X1 (W1 rfl ?_ ?_)|refine X1 (W2 rfl ?_ ?_)|refine X2 (W7 rfl ?_ ?_)|refine X3 (W7 rfl ?_ ?_)|refine X4 (W7 rfl ?_ ?_)|refine X5 (W7 rfl ?_ ?_))
    all_goals (try (conv => whnf))
    all_goals (try first|exact Ob.mk (u8_bnd _)|(refine Ob.mk ?_;first|exact True.intro|assumption|omega|(try simp only [ZA,ZB,ZC,ZD,ZE,ZF,ZG,ZH,ZI,ZJ,ZK,ZL,ZM,ZN,ZO,Int.toNat_natCast,UInt8.ofNat_toNat,cast_eq] at *;omega)))
    all_goals (try first|(show (_:Int) = _;omega)|(show tupSV _ = _;with_unfolding_all rfl)|((first|show (_:Nat) ≤ _|show (_:Nat) ≤ _ ∧ (_:Nat) ≤ _|show (_:Int) ≤ _ ∧ (_:Int) ≤ _ ∧ (_:Int) ≤ _ ∧ (_:Int) ≤ _);(simp <;> omega)))
    all_goals (simp only [cc] at *)
    · have h : (decide (j < s.length) && blB (s.getD j 0)) = true := ‹_›
      rw [Bool.and_eq_true, decide_eq_true_eq] at h
      refine Rnd.mk ⟨j + 1, ⟨by omega, (upTo_step blB s j h.1 h.2).trans q2⟩, by omega, ?_⟩
      repeat' ((conv => whnf);first|(with_reducible first|rfl|exact absTF|exact absFT)|exact True.intro|intro _|refine And.intro ?_ ?_|refine Fin.mk ?_|refine W1 rfl ?_ ?_|refine W2 rfl ?_ ?_|refine W3 rfl ?_ ?_|refine W4 ?_ ?_|refine W5 rfl ?_ ?_|refine W6 ?_ ?_|refine AppN.mk ?_|refine X1 (W1 rfl ?_ ?_)|refine X1 (W2 rfl ?_ ?_)|refine X2 (W7 rfl ?_ ?_)|refine X3 (W7 rfl ?_ ?_)|refine X4 (W7 rfl ?_ ?_)|refine X5 (W7 rfl ?_ ?_))
      all_goals (try (conv => whnf))
      all_goals (try first|exact Ob.mk (u8_bnd _)|(refine Ob.mk ?_;first|exact True.intro|assumption|omega|(try simp only [ZA,ZB,ZC,ZD,ZE,ZF,ZG,ZH,ZI,ZJ,ZK,ZL,ZM,ZN,ZO,Int.toNat_natCast,UInt8.ofNat_toNat,cast_eq] at *;omega)))
      all_goals (try first|(show (_:Int) = _;omega)|(show tupSV _ = _;with_unfolding_all rfl)|((first|show (_:Nat) ≤ _|show (_:Nat) ≤ _ ∧ (_:Nat) ≤ _|show (_:Int) ≤ _ ∧ (_:Int) ≤ _ ∧ (_:Int) ≤ _ ∧ (_:Int) ≤ _);(simp <;> omega)))
      all_goals rfl
    · have h : (decide (j < s.length) && blB (s.getD j 0)) = false := ‹_›
      rw [← q2]
      rcases Nat.lt_or_ge j s.length with hl | hl
      · rw [decide_eq_true hl, Bool.true_and] at h
        rw [upTo_stop blB s j hl h]
      · rw [upTo_end blB s j hl]
theorem tUntilBn (s nm da x : List UInt8) (i : Nat) (k : Int) (sf : Bool) (l : List AttrD) (st : List UInt8) : FnM BB 30 [.loc 0 0, .str st] [(0, scC s i k nm (.own 1) sf da x), (1, .own attrTy l)] (i ≤ s.length ∧ s.length ≤ 100000) (.tup []) [(0, scC s (upTo (stP st) s i : Nat) k nm (.own 1) sf da x), (1, .own attrTy l)] := by
  refine FnM.intro (N := 48) [0, 1, 40] [(0, [0, 0, 0, 1, 0, 0, 0, 1, 1, 1, 1, 1, 1, 1, 1, 1, 1, 1, 1, 1, 1, 1, 1, 1, 1, 1, 1, 1, 1, 1, 1, 1, 1, 1, 3, 3, 3])] 2 Tryz.call30 Tryz.func30 rfl rfl (by kernel_rfl) (fun hpre => ?_)
  obtain ⟨p1, p2⟩ := hpre
  repeat' ((conv => whnf);first|(with_reducible first|rfl|exact absTF|exact absFT)|exact True.intro|intro _|refine And.intro ?_ ?_|refine Fin.mk ?_|refine W1 rfl ?_ ?_|refine W2 rfl ?_ ?_|refine W3 rfl ?_ ?_|refine W4 ?_ ?_|refine W5 rfl ?_ ?_|refine W6 ?_ ?_|refine AppN.mk ?_|refine X1 (W1 rfl ?_ ?_)|refine X1 (W2 rfl ?_ ?_)|refine X2 (W7 rfl ?_ ?_)|refine X3 (W7 rfl ?_ ?_)|refine X4 (W7 rfl ?_ ?_)|refine X5 (W7 rfl ?_ ?_))
  all_goals (try (conv => whnf))
  all_goals (try first|exact Ob.mk (u8_bnd _)|(refine Ob.mk ?_;first|exact True.intro|assumption|omega|(try simp only [ZA,ZB,ZC,ZD,ZE,ZF,ZG,ZH,ZI,ZJ,ZK,ZL,ZM,ZN,ZO,Int.toNat_natCast,UInt8.ofNat_toNat,cast_eq] at *;omega)))
  all_goals (try first|(show (_:Int) = _;omega)|(show tupSV _ = _;with_unfolding_all rfl)|((first|show (_:Nat) ≤ _|show (_:Nat) ≤ _ ∧ (_:Nat) ≤ _|show (_:Int) ≤ _ ∧ (_:Int) ≤ _ ∧ (_:Int) ≤ _ ∧ (_:Int) ≤ _);(simp <;> omega)))
  refine LoopStop.mk (α := Nat) (fun j => []) (fun j => [(0, scC s j k nm (.own 1) sf da x)]) 20 (fun j => j ≤ s.length ∧ upTo (stP st) s j = upTo (stP st) s i) (fun j => s.length - j) i ⟨p1, rfl⟩ ?_ (fun j hj => ?_)
  · repeat' ((conv => whnf);first|(with_reducible first|rfl|exact absTF|exact absFT)|exact True.intro|intro _|refine And.intro ?_ ?_|refine Fin.mk ?_|refine W1 rfl ?_ ?_|refine W2 rfl ?_ ?_|refine W3 rfl ?_ ?_|refine W4 ?_ ?_|refine W5 rfl ?_ ?_|refine W6 ?_ ?_|refine AppN.mk ?_|refine X1 (W1 rfl ?_ ?_)|refine X1 (W2 rfl ?_ ?_)|refine X2 (W7 rfl ?_ ?_)|refine X3 (W7 rfl ?_ ?_)|refine X4 (W7 rfl ?_ ?_)|refine X5 (W7 rfl ?_ ?_))
    all_goals (try (conv => whnf))
    all_goals (try first|exact Ob.mk (u8_bnd _)|(refine Ob.mk ?_;first|exact True.intro|assumption|omega|(try simp only [ZA,ZB,ZC,ZD,ZE,ZF,ZG,ZH,ZI,ZJ,ZK,ZL,ZM,ZN,ZO,Int.toNat_natCast,UInt8.ofNat_toNat,cast_eq] at *;omega)))
    all_goals (try first|(show (_:Int) = _;omega)|(show tupSV _ = _;with_unfolding_all rfl)|((first|show (_:Nat) ≤ _|show (_:Nat) ≤ _ ∧ (_:Nat) ≤ _|show (_:Int) ≤ _ ∧ (_:Int) ≤ _ ∧ (_:Int) ≤ _ ∧ (_:Int) ≤ _);(simp <;> omega)))
    all_goals rfl
  · obtain ⟨q1, q2⟩ := hj
    have cc : (decide ((j : Int) < (s.length : Int)) && !W.isSp ((s.getD ((j : Int)).toNat 0).toNat : Int) && decide (Lib.indexByte st ((s.getD ((j : Int)).toNat 0).toNat : Int).toNat.toUInt8 < 0)) = (decide (j < s.length) && stP st (s.getD j 0)) := by
      rw [Int.toNat_natCast, ixb st (s.getD j 0), Bool.and_assoc]
      congr 1
      rw [Bool.eq_iff_iff]; simp
    repeat' ((conv => whnf);first|(with_reducible first|rfl|exact absTF|exact absFT)|exact True.intro|intro _|refine And.intro ?_ ?_|refine Fin.mk ?_|refine W1 rfl ?_ ?_|refine W2 rfl ?_ ?_|refine W3 rfl ?_ ?_|refine W4 ?_ ?_|refine W5 rfl ?_ ?_|refine W6 ?_ ?_|refine AppN.mk ?_|refine X1 (W1 rfl ?_ ?_)|refine X1 (W2 rfl ?_ ?_)|refine X2 (W7 rfl ?_ ?_)|refine X3 (W7 rfl ?_ ?_)|refine X4 (W7 rfl ?_ ?_)|refine X5 (W7 rfl ?_ ?_))
    all_goals (try (conv => whnf))
    all_goals (try first|exact Ob.mk (u8_bnd _)|(refine Ob.mk ?_;first|exact True.intro|assumption|omega|(try simp only [ZA,ZB,ZC,ZD,ZE,ZF,ZG,ZH,ZI,ZJ,ZK,ZL,ZM,ZN,ZO,Int.toNat_natCast,UInt8.ofNat_toNat,cast_eq] at *;omega)))
    all_goals (try first|(show (_:Int) = _;omega)|(show tupSV _ = _;with_unfolding_all rfl)|((first|show (_:Nat) ≤ _|show (_:Nat) ≤ _ ∧ (_:Nat) ≤ _|show (_:Int) ≤ _ ∧ (_:Int) ≤ _ ∧ (_:Int) ≤ _ ∧ (_:Int) ≤ _);(simp <;> omega)))
    all_goals (simp only [cc] at *)
    · have h : (decide (j < s.length) && stP st (s.getD j 0)) = true := ‹_›
      rw [Bool.and_eq_true, decide_eq_true_eq] at h
      refine Rnd.mk ⟨j + 1, ⟨by omega, (upTo_step (stP st) s j h.1 h.2).trans q2⟩, by omega, ?_⟩
      repeat' ((conv => whnf);first|(with_reducible first|rfl|exact absTF|exact absFT)|exact True.intro|intro _|refine And.intro ?_ ?_|refine Fin.mk ?_|refine W1 rfl ?_ ?_|refine W2 rfl ?_ ?_|refine W3 rfl ?_ ?_|refine W4 ?_ ?_|refine W5 rfl ?_ ?_|refine W6 ?_ ?_|refine AppN.mk ?_|refine X1 (W1 rfl ?_ ?_)|refine X1 (W2 rfl ?_ ?_)|refine X2 (W7 rfl ?_ ?_)|refine X3 (W7 rfl ?_ ?_)|refine X4 (W7 rfl ?_ ?_)|refine X5 (W7 rfl ?_ ?_))
      all_goals (try (conv => whnf))
      all_goals (try first|exact Ob.mk (u8_bnd _)|(refine Ob.mk ?_;first|exact True.intro|assumption|omega|(try simp only [ZA,ZB,ZC,ZD,ZE,ZF,ZG,ZH,ZI,ZJ,ZK,ZL,ZM,ZN,ZO,Int.toNat_natCast,UInt8.ofNat_toNat,cast_eq] at *;omega)))
      all_goals (try first|(show (_:Int) = _;omega)|(show tupSV _ = _;with_unfolding_all rfl)|((first|show (_:Nat) ≤ _|show (_:Nat) ≤ _ ∧ (_:Nat) ≤ _|show (_:Int) ≤ _ ∧ (_:Int) ≤ _ ∧ (_:Int) ≤ _ ∧ (_:Int) ≤ _);(simp <;> omega)))
      all_goals rfl
    · have h : (decide (j < s.length) && stP st (s.getD j 0)) = false := ‹_›
      rw [← q2]
      rcases Nat.lt_or_ge j s.length with hl | hl
      · rw [decide_eq_true hl, Bool.true_and] at h
        rw [upTo_stop (stP st) s j hl h]
      · rw [upTo_end (stP st) s j hl]
theorem tValueBn (s nm da x : List UInt8) (i : Nat) (k : Int) (sf : Bool) (l : List AttrD) : FnM BB 51 [.loc 0 0] [(0, scC s i k nm (.own 1) sf da x), (1, .own attrTy l)] (i < s.length ∧ s.length ≤ 100000) (.tup [.str (valS s i).1, .bool (valS s i).2.2]) [(0, scC s ((valS s i).2.1 : Nat) k nm (.own 1) sf da x), (1, .own attrTy l)] := by
  refine FnM.intro (N := 58) [0, 2, 3, 4, 5, 6, 18, 47] [(4, [0, 0, 0, 1, 0, 0, 0, 0, 1, 3, 3, 0])] 2 Tryz.call51 Tryz.func51 rfl rfl (by kernel_rfl) (fun hpre => ?_)
  obtain ⟨p1, p2⟩ := hpre
  have hu := upTo_le (stP [62]) s i (by omega)
  haveI := fun c : Int => tIsBn s nm da x i k sf l c
  haveI := fun st : List UInt8 => tUntilBn s nm da x i k sf l st
  have e1 : decide ((i : Int) < (s.length : Int)) = true := decide_eq_true (by omega)
  have e34 : (((s.getD i 0).toNat : Int) == 34) = (s.getD i 0 == 34) := b_iff _ 34
  have e39 : (((s.getD i 0).toNat : Int) == 39) = (s.getD i 0 == 39) := b_iff _ 39
  have qa : (!(decide ((i : Int) < (s.length : Int)) && ((s.getD i 0).toNat : Int) == 34)) = true → (true && !(decide ((i : Int) < (s.length : Int)) && ((s.getD i 0).toNat : Int) == 39)) = true → qB (s.getD i 0) = false := fun h h' => by
    rw [e1, Bool.true_and, e34] at h; rw [e1, Bool.true_and, Bool.true_and, e39] at h'
    unfold qB; cases h1 : s.getD i 0 == 34 <;> cases h2 : s.getD i 0 == 39 <;> simp_all
  have qb : (!(decide ((i : Int) < (s.length : Int)) && ((s.getD i 0).toNat : Int) == 34)) = true → (true && !(decide ((i : Int) < (s.length : Int)) && ((s.getD i 0).toNat : Int) == 39)) = false → qB (s.getD i 0) = true := fun h h' => by
    rw [e1, Bool.true_and, e34] at h; rw [e1, Bool.true_and, Bool.true_and, e39] at h'
    unfold qB; cases h1 : s.getD i 0 == 34 <;> cases h2 : s.getD i 0 == 39 <;> simp_all
  have qc : (!(decide ((i : Int) < (s.length : Int)) && ((s.getD i 0).toNat : Int) == 34)) = !true → qB (s.getD i 0) = true := fun h => by
    rw [e1, Bool.true_and, e34] at h
    unfold qB; cases h1 : s.getD i 0 == 34 <;> simp_all
  have hx := Lib.indexByte_ge (s.drop (i + 1)) (s.getD i 0)
  have hx2 := ixb_le (s.drop (i + 1)) (s.getD i 0)
  rw [List.length_drop] at hx2
  have ei : ((i : Int)).toNat = i := Int.toNat_natCast i
  have ei1 : ((i : Int) + 1).toNat = i + 1 := by omega
  have v1 : qB (s.getD i 0) = false → valS s i = ((s.take (upTo (stP [62]) s i)).drop i, upTo (stP [62]) s i, true) := fun h => by unfold valS; rw [h]; rfl
  have v2 : qB (s.getD i 0) = true → decide (Lib.indexByte (s.drop (i + 1)) (s.getD i 0) < 0) = true → valS s i = ([], i, false) := fun h h' => by unfold valS; rw [h, if_pos rfl, if_pos (of_decide_eq_true h')]
  have v3 : qB (s.getD i 0) = true → decide (Lib.indexByte (s.drop (i + 1)) (s.getD i 0) < 0) = false → valS s i = ((s.drop (i + 1)).take (Lib.indexByte (s.drop (i + 1)) (s.getD i 0)).toNat, i + (Lib.indexByte (s.drop (i + 1)) (s.getD i 0)).toNat + 2, true) := fun h h' => by unfold valS; rw [h, if_pos rfl, if_neg (of_decide_eq_false h')]
  repeat' ((conv => whnf);first|(with_reducible first|rfl|exact absTF|exact absFT)|exact True.intro|intro _|refine And.intro ?_ ?_|refine Fin.mk ?_|refine W1 rfl ?_ ?_|refine W2 rfl ?_ ?_|refine W3 rfl ?_ ?_|refine W4 ?_ ?_|refine W5 rfl ?_ ?_|refine W6 ?_ ?_|refine AppN.mk ?_|refine X1 (W1 rfl ?_ ?_)|refine X1 (W2 rfl ?_ ?_)|refine X2 (W7 rfl ?_ ?_)|refine X3 (W7 rfl ?_ ?_)|refine X4 (W7 rfl ?_ ?_)|refine X5 (W7 rfl ?_ ?_))
  all_goals (try (conv => whnf))
  all_goals (try first|exact Ob.mk (u8_bnd _)|(refine Ob.mk ?_;first|exact True.intro|assumption|omega|(try simp only [ZA,ZB,ZC,ZD,ZE,ZF,ZG,ZH,ZI,ZJ,ZK,ZL,ZM,ZN,ZO,Int.toNat_natCast,UInt8.ofNat_toNat,cast_eq] at *;omega)))
  all_goals (try first|(show (_:Int) = _;omega)|(show tupSV _ = _;with_unfolding_all rfl)|((first|show (_:Nat) ≤ _|show (_:Nat) ≤ _ ∧ (_:Nat) ≤ _|show (_:Int) ≤ _ ∧ (_:Int) ≤ _ ∧ (_:Int) ≤ _ ∧ (_:Int) ≤ _);(simp <;> omega)))
  all_goals (try simp only [ei, ei1, Int.toNat_natCast] at *)
  all_goals (have ec : (s.getD i 0).toNat.toUInt8 = s.getD i 0 := by simp)
  all_goals (try simp only [ec] at *)
  all_goals (try (have hge := of_decide_eq_false ‹decide (Lib.indexByte (s.drop (i + 1)) (s.getD i 0) < 0) = false›))
  all_goals (try (have hv := v1 (qa ‹_› ‹_›)))
  all_goals (try (have hv := v2 (qb ‹_› ‹_›) ‹_›))
  all_goals (try (have hv := v2 (qc ‹_›) ‹_›))
  all_goals (try (have hv := v3 (qb ‹_› ‹_›) ‹_›))
  all_goals (try (have hv := v3 (qc ‹_›) ‹_›))
  all_goals (first | (rw [hv]; done) | (rw [hv]; rfl) | omega | (constructor <;> omega) | (rw [hv]; simp only; omega) | (exact ⟨by omega, by rw [List.length_drop]; omega⟩) | trace_state)
instance tOverB (s nm da x : List UInt8) (i : Int) (k : Int) (sf : Bool) (l : List AttrD) : FnM BB 28 [.loc 0 0] [(0, scC s i k nm (.own 1) sf da x), (1, .own attrTy l)] (0 ≤ i) (.bool (decide (i ≥ (s.length : Int)))) [(0, scC s i k nm (.own 1) sf da x), (1, .own attrTy l)] :=
  FnM.ofNat' (args := fun _ => [.loc 0 0]) (Φ := fun i => [(0, scC s i k nm (.own 1) sf da x), (1, .own attrTy l)]) (Φ' := fun i => [(0, scC s i k nm (.own 1) sf da x), (1, .own attrTy l)]) (pre := fun i => 0 ≤ i) (res := fun i => .bool (decide (i ≥ (s.length : Int)))) i (fun h => h) fun n => (tOverBn s nm da x n k sf l).weaken fun _ => True.intro
instance tIsB (s nm da x : List UInt8) (i : Int) (k : Int) (sf : Bool) (l : List AttrD) (c : Int) : FnM BB 49 [.loc 0 0, .int .u8 c] [(0, scC s i k nm (.own 1) sf da x), (1, .own attrTy l)] (0 ≤ i) (.bool (decide (i < (s.length : Int)) && ((s.getD i.toNat 0).toNat : Int) == c)) [(0, scC s i k nm (.own 1) sf da x), (1, .own attrTy l)] :=
  FnM.ofNat' (args := fun _ => [.loc 0 0, .int .u8 c]) (Φ := fun i => [(0, scC s i k nm (.own 1) sf da x), (1, .own attrTy l)]) (Φ' := fun i => [(0, scC s i k nm (.own 1) sf da x), (1, .own attrTy l)]) (pre := fun i => 0 ≤ i) (res := fun i => .bool (decide (i < (s.length : Int)) && ((s.getD i.toNat 0).toNat : Int) == c)) i (fun h => h) fun n => (tIsBn s nm da x n k sf l c).weaken fun _ => True.intro
instance tBlanksB (s nm da x : List UInt8) (i : Int) (k : Int) (sf : Bool) (l : List AttrD) : FnM BB 48 [.loc 0 0] [(0, scC s i k nm (.own 1) sf da x), (1, .own attrTy l)] (0 ≤ i ∧ i ≤ s.length ∧ s.length ≤ 100000) (.tup []) [(0, scC s (upTo blB s i.toNat : Nat) k nm (.own 1) sf da x), (1, .own attrTy l)] :=
  FnM.ofNat' (args := fun _ => [.loc 0 0]) (Φ := fun i => [(0, scC s i k nm (.own 1) sf da x), (1, .own attrTy l)]) (Φ' := fun i => [(0, scC s (upTo blB s i.toNat : Nat) k nm (.own 1) sf da x), (1, .own attrTy l)]) (pre := fun i => 0 ≤ i ∧ i ≤ s.length ∧ s.length ≤ 100000) (res := fun i => .tup []) i (fun h => h.1) fun n => (tBlanksBn s nm da x n k sf l).weaken fun h => (by have h' := h.2; constructor <;> omega)
instance tUntilB (s nm da x : List UInt8) (i : Int) (k : Int) (sf : Bool) (l : List AttrD) (st : List UInt8) : FnM BB 30 [.loc 0 0, .str st] [(0, scC s i k nm (.own 1) sf da x), (1, .own attrTy l)] (0 ≤ i ∧ i ≤ s.length ∧ s.length ≤ 100000) (.tup []) [(0, scC s (upTo (stP st) s i.toNat : Nat) k nm (.own 1) sf da x), (1, .own attrTy l)] :=
  FnM.ofNat' (args := fun _ => [.loc 0 0, .str st]) (Φ := fun i => [(0, scC s i k nm (.own 1) sf da x), (1, .own attrTy l)]) (Φ' := fun i => [(0, scC s (upTo (stP st) s i.toNat : Nat) k nm (.own 1) sf da x), (1, .own attrTy l)]) (pre := fun i => 0 ≤ i ∧ i ≤ s.length ∧ s.length ≤ 100000) (res := fun i => .tup []) i (fun h => h.1) fun n => (tUntilBn s nm da x n k sf l st).weaken fun h => (by have h' := h.2; constructor <;> omega)
instance tValueB (s nm da x : List UInt8) (i : Int) (k : Int) (sf : Bool) (l : List AttrD) : FnM BB 51 [.loc 0 0] [(0, scC s i k nm (.own 1) sf da x), (1, .own attrTy l)] (0 ≤ i ∧ i < s.length ∧ s.length ≤ 100000) (.tup [.str (valS s i.toNat).1, .bool (valS s i.toNat).2.2]) [(0, scC s ((valS s i.toNat).2.1 : Nat) k nm (.own 1) sf da x), (1, .own attrTy l)] :=
  FnM.ofNat' (args := fun _ => [.loc 0 0]) (Φ := fun i => [(0, scC s i k nm (.own 1) sf da x), (1, .own attrTy l)]) (Φ' := fun i => [(0, scC s ((valS s i.toNat).2.1 : Nat) k nm (.own 1) sf da x), (1, .own attrTy l)]) (pre := fun i => 0 ≤ i ∧ i < s.length ∧ s.length ≤ 100000) (res := fun i => .tup [.str (valS s i.toNat).1, .bool (valS s i.toNat).2.2]) i (fun h => h.1) fun n => (tValueBn s nm da x n k sf l).weaken fun h => (by have h' := h.2; constructor <;> omega)
end Go.Vc
