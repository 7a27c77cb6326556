/- A part of the proof: lemmas and walks that the last text of the claim joins; no condition. -/
import Derived.Test.YtfbkhpkneioecaaVcH
import Derived.Laws.Externs
import Derived.Test.YtfbkhpkneioecaaChecked
import Derived.Lib.CountLaws
import Derived.Shelf.Strings.Builder1
import Derived.Shelf.Small.Utf8
import Derived.Shelf.Small.Strs
import Derived.Shelf.Utf8.RuneCount
import Derived.Shelf.Strings.Search1
import Derived.Shelf.Strings.Search2
import Derived.Shelf.Strings.Search3
import Derived.Shelf.Strings.Count
import Derived.Shelf.LaysM
import Derived.Shelf.Strings.Shaped
import Derived.Shelf.Strings.Split
import Derived.Shelf.Strings.Runes
import Derived.Shelf.Strings.RuneCount
import Derived.Shelf.Strings.IndexAny
import Derived.Shelf.Strings.AsciiSet
import Derived.Shelf.Strings.IndexAnyAll
import Derived.Shelf.Slices.Turned
import Derived.Shelf.Slices.Reverse
import Derived.Shelf.Slices.Equal
import Derived.Ground.Names2Prog
import Derived.Shelf.Slices.Clone
import Derived.Shelf.Spec.SlicesInsert
import Derived.Shelf.Spec.SlicesInsertGrow
import Derived.Shelf.Slices.Delete
import Derived.Shelf.Slices.Cells
import Derived.Shelf.Slices.Empties
import Derived.Shelf.Slices.Empties2
import Derived.Ground.SlgnProg
import Derived.Shelf.SlicesE.Clone
import Derived.Test.YtfbkhpkneioecaaProg
set_option linter.unusedVariables false
set_option linter.unusedSimpArgs false
namespace Go.Vc
open Go.Proofs
set_option linter.unusedVariables false
theorem mixed : Try.prog.follows .mixedOrders = true := by kernel_rfl
abbrev intTy : Ty := .int .i64
abbrev spTy : Ty := .pr intTy intTy
abbrev attrTy : Ty := .pr .str .str
abbrev nodeTy : Ty := .pr intTy (.pr intTy (.pr .str (.pr (.sl attrTy) (.pr .str (.pr intTy (.sl intTy))))))
abbrev opTy : Ty := .pr intTy (.pr intTy (.pr intTy (.pr intTy nodeTy)))
def tyB (t : TypeId) : Option Ty :=
  bif Nat.beq t 3 then some intTy else bif Nat.beq t 4 then some .bool else bif Nat.beq t 5 then some .byte else bif Nat.beq t 9 then some .str else bif Nat.beq t 115 then some attrTy else bif Nat.beq t 34 then some nodeTy else bif Nat.beq t 172 then some spTy else none
def eqsB (t : TypeId) : Bool := Nat.beq t 115
theorem eqsB_ok : ∀ t, eqsB t = true → Try.prog.stoodInHeld t = false ∧ Try.prog.eqGuardType Try.prog.depth t = false ∧ ((Try.prog.fieldsOf t).toList.all fun f => f.name != "_") = true := by
  intro t h
  obtain rfl := beq_of h
  exact ⟨by kernel_rfl, by kernel_rfl, by kernel_rfl⟩
def neB (f : FuncId) : Bool := Nat.beq f 185
theorem neB_ok : ∀ f, neB f = true → ∀ (x : Value) (w : World), (callFunc f #[x]).run Try.prog w = .ok (.value x) w := by
  intro f h x w
  obtain rfl := beq_of h
  rw [run_callFunc_extern Try.func185 (by kernel_rfl) (by kernel_rfl) (by kernel_rfl) (e := Extern.AbiNoEscape.same) (by kernel_rfl)]
  rfl
def tbB (t : TypeId) : Bool := Nat.beq t 108 || Nat.beq t 110
noncomputable abbrev BB : Base := { P := Try.prog, mixed := mixed, G := fun r => ∃ c T fr m, r 0 = some (.cells c T fr) ∧ c[0]? = some (.int .i64 m), mono := fun r r' h ⟨c, T, fr, m, h1, h2⟩ => ⟨c, T, fr, m, h 0 _ h1, h2⟩, ty0 := tyB, eqs := eqsB, eqs_ok := eqsB_ok, ne := neB, ne_ok := neB_ok, tb := tbB }

set_option maxRecDepth 10000
@[simp] theorem bytes1 : bytesT Try.prog 1 = 8 := rfl
@[simp] theorem bytesB1 : bytesT BB.P 1 = 8 := rfl
@[simp] theorem bytes2 : bytesT Try.prog 2 = 8 := rfl
@[simp] theorem bytesB2 : bytesT BB.P 2 = 8 := rfl
@[simp] theorem bytes3 : bytesT Try.prog 3 = 8 := rfl
@[simp] theorem bytesB3 : bytesT BB.P 3 = 8 := rfl
@[simp] theorem bytes4 : bytesT Try.prog 4 = 1 := rfl
@[simp] theorem bytesB4 : bytesT BB.P 4 = 1 := rfl
@[simp] theorem bytes5 : bytesT Try.prog 5 = 1 := rfl
@[simp] theorem bytesB5 : bytesT BB.P 5 = 1 := rfl
@[simp] theorem bytes6 : bytesT Try.prog 6 = 1 := rfl
@[simp] theorem bytesB6 : bytesT BB.P 6 = 1 := rfl
@[simp] theorem bytes7 : bytesT Try.prog 7 = 24 := rfl
@[simp] theorem bytesB7 : bytesT BB.P 7 = 24 := rfl
@[simp] theorem bytes8 : bytesT Try.prog 8 = 24 := rfl
@[simp] theorem bytesB8 : bytesT BB.P 8 = 24 := rfl
@[simp] theorem bytes9 : bytesT Try.prog 9 = 16 := rfl
@[simp] theorem bytesB9 : bytesT BB.P 9 = 16 := rfl
@[simp] theorem bytes10 : bytesT Try.prog 10 = 16 := rfl
@[simp] theorem bytesB10 : bytesT BB.P 10 = 16 := rfl
@[simp] theorem bytes11 : bytesT Try.prog 11 = 16 := rfl
@[simp] theorem bytesB11 : bytesT BB.P 11 = 16 := rfl
@[simp] theorem bytes12 : bytesT Try.prog 12 = 8 := rfl
@[simp] theorem bytesB12 : bytesT BB.P 12 = 8 := rfl
@[simp] theorem bytes13 : bytesT Try.prog 13 = 24 := rfl
@[simp] theorem bytesB13 : bytesT BB.P 13 = 24 := rfl
@[simp] theorem bytes14 : bytesT Try.prog 14 = 24 := rfl
@[simp] theorem bytesB14 : bytesT BB.P 14 = 24 := rfl
@[simp] theorem bytes15 : bytesT Try.prog 15 = 8 := rfl
@[simp] theorem bytesB15 : bytesT BB.P 15 = 8 := rfl
@[simp] theorem bytes16 : bytesT Try.prog 16 = 8 := rfl
@[simp] theorem bytesB16 : bytesT BB.P 16 = 8 := rfl
@[simp] theorem bytes17 : bytesT Try.prog 17 = 8 := rfl
@[simp] theorem bytesB17 : bytesT BB.P 17 = 8 := rfl
@[simp] theorem bytes18 : bytesT Try.prog 18 = 8 := rfl
@[simp] theorem bytesB18 : bytesT BB.P 18 = 8 := rfl
@[simp] theorem bytes19 : bytesT Try.prog 19 = 8 := rfl
@[simp] theorem bytesB19 : bytesT BB.P 19 = 8 := rfl
@[simp] theorem bytes20 : bytesT Try.prog 20 = 16 := rfl
@[simp] theorem bytesB20 : bytesT BB.P 20 = 16 := rfl
@[simp] theorem bytes21 : bytesT Try.prog 21 = 4 := rfl
@[simp] theorem bytesB21 : bytesT BB.P 21 = 4 := rfl
@[simp] theorem bytes22 : bytesT Try.prog 22 = 8 := rfl
@[simp] theorem bytesB22 : bytesT BB.P 22 = 8 := rfl
@[simp] theorem bytes23 : bytesT Try.prog 23 = 8 := rfl
@[simp] theorem bytesB23 : bytesT BB.P 23 = 8 := rfl
@[simp] theorem bytes24 : bytesT Try.prog 24 = 8 := rfl
@[simp] theorem bytesB24 : bytesT BB.P 24 = 8 := rfl
@[simp] theorem bytes25 : bytesT Try.prog 25 = 8 := rfl
@[simp] theorem bytesB25 : bytesT BB.P 25 = 8 := rfl
@[simp] theorem bytes26 : bytesT Try.prog 26 = 24 := rfl
@[simp] theorem bytesB26 : bytesT BB.P 26 = 24 := rfl
@[simp] theorem bytes27 : bytesT Try.prog 27 = 24 := rfl
@[simp] theorem bytesB27 : bytesT BB.P 27 = 24 := rfl
@[simp] theorem bytes28 : bytesT Try.prog 28 = 24 := rfl
@[simp] theorem bytesB28 : bytesT BB.P 28 = 24 := rfl
@[simp] theorem bytes29 : bytesT Try.prog 29 = 24 := rfl
@[simp] theorem bytesB29 : bytesT BB.P 29 = 24 := rfl
@[simp] theorem bytes30 : bytesT Try.prog 30 = 8 := rfl
@[simp] theorem bytesB30 : bytesT BB.P 30 = 8 := rfl
@[simp] theorem bytes31 : bytesT Try.prog 31 = 24 := rfl
@[simp] theorem bytesB31 : bytesT BB.P 31 = 24 := rfl
@[simp] theorem bytes32 : bytesT Try.prog 32 = 24 := rfl
@[simp] theorem bytesB32 : bytesT BB.P 32 = 24 := rfl
@[simp] theorem bytes33 : bytesT Try.prog 33 = 104 := rfl
@[simp] theorem bytesB33 : bytesT BB.P 33 = 104 := rfl
@[simp] theorem bytes34 : bytesT Try.prog 34 = 104 := rfl
@[simp] theorem bytesB34 : bytesT BB.P 34 = 104 := rfl
@[simp] theorem bytes35 : bytesT Try.prog 35 = 136 := rfl
@[simp] theorem bytesB35 : bytesT BB.P 35 = 136 := rfl
@[simp] theorem bytes36 : bytesT Try.prog 36 = 136 := rfl
@[simp] theorem bytesB36 : bytesT BB.P 36 = 136 := rfl
@[simp] theorem bytes37 : bytesT Try.prog 37 = 8 := rfl
@[simp] theorem bytesB37 : bytesT BB.P 37 = 8 := rfl
@[simp] theorem bytes38 : bytesT Try.prog 38 = 8 := rfl
@[simp] theorem bytesB38 : bytesT BB.P 38 = 8 := rfl
@[simp] theorem bytes39 : bytesT Try.prog 39 = 8 := rfl
@[simp] theorem bytesB39 : bytesT BB.P 39 = 8 := rfl
@[simp] theorem bytes40 : bytesT Try.prog 40 = 8 := rfl
@[simp] theorem bytesB40 : bytesT BB.P 40 = 8 := rfl
@[simp] theorem bytes41 : bytesT Try.prog 41 = 8 := rfl
@[simp] theorem bytesB41 : bytesT BB.P 41 = 8 := rfl
@[simp] theorem bytes42 : bytesT Try.prog 42 = 8 := rfl
@[simp] theorem bytesB42 : bytesT BB.P 42 = 8 := rfl
@[simp] theorem bytes43 : bytesT Try.prog 43 = 8 := rfl
@[simp] theorem bytesB43 : bytesT BB.P 43 = 8 := rfl
@[simp] theorem bytes44 : bytesT Try.prog 44 = 8 := rfl
@[simp] theorem bytesB44 : bytesT BB.P 44 = 8 := rfl
@[simp] theorem bytes45 : bytesT Try.prog 45 = 8 := rfl
@[simp] theorem bytesB45 : bytesT BB.P 45 = 8 := rfl
@[simp] theorem bytes46 : bytesT Try.prog 46 = 8 := rfl
@[simp] theorem bytesB46 : bytesT BB.P 46 = 8 := rfl
@[simp] theorem bytes47 : bytesT Try.prog 47 = 8 := rfl
@[simp] theorem bytesB47 : bytesT BB.P 47 = 8 := rfl
@[simp] theorem bytes48 : bytesT Try.prog 48 = 8 := rfl
@[simp] theorem bytesB48 : bytesT BB.P 48 = 8 := rfl
@[simp] theorem bytes49 : bytesT Try.prog 49 = 8 := rfl
@[simp] theorem bytesB49 : bytesT BB.P 49 = 8 := rfl
@[simp] theorem bytes51 : bytesT Try.prog 51 = 8 := rfl
@[simp] theorem bytesB51 : bytesT BB.P 51 = 8 := rfl
@[simp] theorem bytes52 : bytesT Try.prog 52 = 8 := rfl
@[simp] theorem bytesB52 : bytesT BB.P 52 = 8 := rfl
@[simp] theorem bytes53 : bytesT Try.prog 53 = 8 := rfl
@[simp] theorem bytesB53 : bytesT BB.P 53 = 8 := rfl
@[simp] theorem bytes54 : bytesT Try.prog 54 = 8 := rfl
@[simp] theorem bytesB54 : bytesT BB.P 54 = 8 := rfl
@[simp] theorem bytes55 : bytesT Try.prog 55 = 8 := rfl
@[simp] theorem bytesB55 : bytesT BB.P 55 = 8 := rfl
@[simp] theorem bytes56 : bytesT Try.prog 56 = 8 := rfl
@[simp] theorem bytesB56 : bytesT BB.P 56 = 8 := rfl
@[simp] theorem bytes57 : bytesT Try.prog 57 = 136 := rfl
@[simp] theorem bytesB57 : bytesT BB.P 57 = 136 := rfl
@[simp] theorem bytes58 : bytesT Try.prog 58 = 136 := rfl
@[simp] theorem bytesB58 : bytesT BB.P 58 = 136 := rfl
@[simp] theorem bytes59 : bytesT Try.prog 59 = 136 := rfl
@[simp] theorem bytesB59 : bytesT BB.P 59 = 136 := rfl
@[simp] theorem bytes60 : bytesT Try.prog 60 = 8 := rfl
@[simp] theorem bytesB60 : bytesT BB.P 60 = 8 := rfl
@[simp] theorem bytes61 : bytesT Try.prog 61 = 8 := rfl
@[simp] theorem bytesB61 : bytesT BB.P 61 = 8 := rfl
@[simp] theorem bytes62 : bytesT Try.prog 62 = 8 := rfl
@[simp] theorem bytesB62 : bytesT BB.P 62 = 8 := rfl
@[simp] theorem bytes63 : bytesT Try.prog 63 = 8 := rfl
@[simp] theorem bytesB63 : bytesT BB.P 63 = 8 := rfl
@[simp] theorem bytes64 : bytesT Try.prog 64 = 8 := rfl
@[simp] theorem bytesB64 : bytesT BB.P 64 = 8 := rfl
@[simp] theorem bytes65 : bytesT Try.prog 65 = 8 := rfl
@[simp] theorem bytesB65 : bytesT BB.P 65 = 8 := rfl
@[simp] theorem bytes66 : bytesT Try.prog 66 = 8 := rfl
@[simp] theorem bytesB66 : bytesT BB.P 66 = 8 := rfl
@[simp] theorem bytes67 : bytesT Try.prog 67 = 8 := rfl
@[simp] theorem bytesB67 : bytesT BB.P 67 = 8 := rfl
@[simp] theorem bytes68 : bytesT Try.prog 68 = 8 := rfl
@[simp] theorem bytesB68 : bytesT BB.P 68 = 8 := rfl
@[simp] theorem bytes69 : bytesT Try.prog 69 = 8 := rfl
@[simp] theorem bytesB69 : bytesT BB.P 69 = 8 := rfl
@[simp] theorem bytes70 : bytesT Try.prog 70 = 8 := rfl
@[simp] theorem bytesB70 : bytesT BB.P 70 = 8 := rfl
@[simp] theorem bytes71 : bytesT Try.prog 71 = 8 := rfl
@[simp] theorem bytesB71 : bytesT BB.P 71 = 8 := rfl
@[simp] theorem bytes72 : bytesT Try.prog 72 = 8 := rfl
@[simp] theorem bytesB72 : bytesT BB.P 72 = 8 := rfl
@[simp] theorem bytes73 : bytesT Try.prog 73 = 8 := rfl
@[simp] theorem bytesB73 : bytesT BB.P 73 = 8 := rfl
@[simp] theorem bytes74 : bytesT Try.prog 74 = 8 := rfl
@[simp] theorem bytesB74 : bytesT BB.P 74 = 8 := rfl
@[simp] theorem bytes75 : bytesT Try.prog 75 = 8 := rfl
@[simp] theorem bytesB75 : bytesT BB.P 75 = 8 := rfl
@[simp] theorem bytes76 : bytesT Try.prog 76 = 8 := rfl
@[simp] theorem bytesB76 : bytesT BB.P 76 = 8 := rfl
@[simp] theorem bytes77 : bytesT Try.prog 77 = 8 := rfl
@[simp] theorem bytesB77 : bytesT BB.P 77 = 8 := rfl
@[simp] theorem bytes78 : bytesT Try.prog 78 = 8 := rfl
@[simp] theorem bytesB78 : bytesT BB.P 78 = 8 := rfl
@[simp] theorem bytes79 : bytesT Try.prog 79 = 8 := rfl
@[simp] theorem bytesB79 : bytesT BB.P 79 = 8 := rfl
@[simp] theorem bytes80 : bytesT Try.prog 80 = 8 := rfl
@[simp] theorem bytesB80 : bytesT BB.P 80 = 8 := rfl
@[simp] theorem bytes81 : bytesT Try.prog 81 = 8 := rfl
@[simp] theorem bytesB81 : bytesT BB.P 81 = 8 := rfl
@[simp] theorem bytes82 : bytesT Try.prog 82 = 8 := rfl
@[simp] theorem bytesB82 : bytesT BB.P 82 = 8 := rfl
@[simp] theorem bytes83 : bytesT Try.prog 83 = 8 := rfl
@[simp] theorem bytesB83 : bytesT BB.P 83 = 8 := rfl
@[simp] theorem bytes84 : bytesT Try.prog 84 = 8 := rfl
@[simp] theorem bytesB84 : bytesT BB.P 84 = 8 := rfl
@[simp] theorem bytes85 : bytesT Try.prog 85 = 8 := rfl
@[simp] theorem bytesB85 : bytesT BB.P 85 = 8 := rfl
@[simp] theorem bytes86 : bytesT Try.prog 86 = 8 := rfl
@[simp] theorem bytesB86 : bytesT BB.P 86 = 8 := rfl
@[simp] theorem bytes88 : bytesT Try.prog 88 = 8 := rfl
@[simp] theorem bytesB88 : bytesT BB.P 88 = 8 := rfl
@[simp] theorem bytes89 : bytesT Try.prog 89 = 8 := rfl
@[simp] theorem bytesB89 : bytesT BB.P 89 = 8 := rfl
@[simp] theorem bytes90 : bytesT Try.prog 90 = 24 := rfl
@[simp] theorem bytesB90 : bytesT BB.P 90 = 24 := rfl
@[simp] theorem bytes91 : bytesT Try.prog 91 = 8 := rfl
@[simp] theorem bytesB91 : bytesT BB.P 91 = 8 := rfl
@[simp] theorem bytes93 : bytesT Try.prog 93 = 8 := rfl
@[simp] theorem bytesB93 : bytesT BB.P 93 = 8 := rfl
@[simp] theorem bytes94 : bytesT Try.prog 94 = 8 := rfl
@[simp] theorem bytesB94 : bytesT BB.P 94 = 8 := rfl
@[simp] theorem bytes95 : bytesT Try.prog 95 = 8 := rfl
@[simp] theorem bytesB95 : bytesT BB.P 95 = 8 := rfl
@[simp] theorem bytes96 : bytesT Try.prog 96 = 8 := rfl
@[simp] theorem bytesB96 : bytesT BB.P 96 = 8 := rfl
@[simp] theorem bytes97 : bytesT Try.prog 97 = 8 := rfl
@[simp] theorem bytesB97 : bytesT BB.P 97 = 8 := rfl
@[simp] theorem bytes98 : bytesT Try.prog 98 = 8 := rfl
@[simp] theorem bytesB98 : bytesT BB.P 98 = 8 := rfl
@[simp] theorem bytes99 : bytesT Try.prog 99 = 8 := rfl
@[simp] theorem bytesB99 : bytesT BB.P 99 = 8 := rfl
@[simp] theorem bytes100 : bytesT Try.prog 100 = 8 := rfl
@[simp] theorem bytesB100 : bytesT BB.P 100 = 8 := rfl
@[simp] theorem bytes101 : bytesT Try.prog 101 = 8 := rfl
@[simp] theorem bytesB101 : bytesT BB.P 101 = 8 := rfl
@[simp] theorem bytes102 : bytesT Try.prog 102 = 8 := rfl
@[simp] theorem bytesB102 : bytesT BB.P 102 = 8 := rfl
@[simp] theorem bytes103 : bytesT Try.prog 103 = 24 := rfl
@[simp] theorem bytesB103 : bytesT BB.P 103 = 24 := rfl
@[simp] theorem bytes105 : bytesT Try.prog 105 = 8 := rfl
@[simp] theorem bytesB105 : bytesT BB.P 105 = 8 := rfl
@[simp] theorem bytes106 : bytesT Try.prog 106 = 8 := rfl
@[simp] theorem bytesB106 : bytesT BB.P 106 = 8 := rfl
@[simp] theorem bytes107 : bytesT Try.prog 107 = 32 := rfl
@[simp] theorem bytesB107 : bytesT BB.P 107 = 32 := rfl
@[simp] theorem bytes108 : bytesT Try.prog 108 = 32 := rfl
@[simp] theorem bytesB108 : bytesT BB.P 108 = 32 := rfl
@[simp] theorem bytes109 : bytesT Try.prog 109 = 40 := rfl
@[simp] theorem bytesB109 : bytesT BB.P 109 = 40 := rfl
@[simp] theorem bytes110 : bytesT Try.prog 110 = 40 := rfl
@[simp] theorem bytesB110 : bytesT BB.P 110 = 40 := rfl
@[simp] theorem bytes111 : bytesT Try.prog 111 = 8 := rfl
@[simp] theorem bytesB111 : bytesT BB.P 111 = 8 := rfl
@[simp] theorem bytes112 : bytesT Try.prog 112 = 8 := rfl
@[simp] theorem bytesB112 : bytesT BB.P 112 = 8 := rfl
@[simp] theorem bytes113 : bytesT Try.prog 113 = 8 := rfl
@[simp] theorem bytesB113 : bytesT BB.P 113 = 8 := rfl
@[simp] theorem bytes114 : bytesT Try.prog 114 = 32 := rfl
@[simp] theorem bytesB114 : bytesT BB.P 114 = 32 := rfl
@[simp] theorem bytes115 : bytesT Try.prog 115 = 32 := rfl
@[simp] theorem bytesB115 : bytesT BB.P 115 = 32 := rfl
@[simp] theorem bytes116 : bytesT Try.prog 116 = 8 := rfl
@[simp] theorem bytesB116 : bytesT BB.P 116 = 8 := rfl
@[simp] theorem bytes117 : bytesT Try.prog 117 = 8 := rfl
@[simp] theorem bytesB117 : bytesT BB.P 117 = 8 := rfl
@[simp] theorem bytes118 : bytesT Try.prog 118 = 8 := rfl
@[simp] theorem bytesB118 : bytesT BB.P 118 = 8 := rfl
@[simp] theorem bytes119 : bytesT Try.prog 119 = 8 := rfl
@[simp] theorem bytesB119 : bytesT BB.P 119 = 8 := rfl
@[simp] theorem bytes120 : bytesT Try.prog 120 = 8 := rfl
@[simp] theorem bytesB120 : bytesT BB.P 120 = 8 := rfl
@[simp] theorem bytes121 : bytesT Try.prog 121 = 8 := rfl
@[simp] theorem bytesB121 : bytesT BB.P 121 = 8 := rfl
@[simp] theorem bytes122 : bytesT Try.prog 122 = 8 := rfl
@[simp] theorem bytesB122 : bytesT BB.P 122 = 8 := rfl
@[simp] theorem bytes123 : bytesT Try.prog 123 = 8 := rfl
@[simp] theorem bytesB123 : bytesT BB.P 123 = 8 := rfl
@[simp] theorem bytes124 : bytesT Try.prog 124 = 8 := rfl
@[simp] theorem bytesB124 : bytesT BB.P 124 = 8 := rfl
@[simp] theorem bytes125 : bytesT Try.prog 125 = 8 := rfl
@[simp] theorem bytesB125 : bytesT BB.P 125 = 8 := rfl
@[simp] theorem bytes126 : bytesT Try.prog 126 = 8 := rfl
@[simp] theorem bytesB126 : bytesT BB.P 126 = 8 := rfl
@[simp] theorem bytes127 : bytesT Try.prog 127 = 32 := rfl
@[simp] theorem bytesB127 : bytesT BB.P 127 = 32 := rfl
@[simp] theorem bytes128 : bytesT Try.prog 128 = 32 := rfl
@[simp] theorem bytesB128 : bytesT BB.P 128 = 32 := rfl
@[simp] theorem bytes130 : bytesT Try.prog 130 = 8 := rfl
@[simp] theorem bytesB130 : bytesT BB.P 130 = 8 := rfl
@[simp] theorem bytes131 : bytesT Try.prog 131 = 8 := rfl
@[simp] theorem bytesB131 : bytesT BB.P 131 = 8 := rfl
@[simp] theorem bytes132 : bytesT Try.prog 132 = 8 := rfl
@[simp] theorem bytesB132 : bytesT BB.P 132 = 8 := rfl
@[simp] theorem bytes133 : bytesT Try.prog 133 = 8 := rfl
@[simp] theorem bytesB133 : bytesT BB.P 133 = 8 := rfl
@[simp] theorem bytes134 : bytesT Try.prog 134 = 24 := rfl
@[simp] theorem bytesB134 : bytesT BB.P 134 = 24 := rfl
@[simp] theorem bytes135 : bytesT Try.prog 135 = 8 := rfl
@[simp] theorem bytesB135 : bytesT BB.P 135 = 8 := rfl
@[simp] theorem bytes136 : bytesT Try.prog 136 = 8 := rfl
@[simp] theorem bytesB136 : bytesT BB.P 136 = 8 := rfl
@[simp] theorem bytes137 : bytesT Try.prog 137 = 8 := rfl
@[simp] theorem bytesB137 : bytesT BB.P 137 = 8 := rfl
@[simp] theorem bytes138 : bytesT Try.prog 138 = 8 := rfl
@[simp] theorem bytesB138 : bytesT BB.P 138 = 8 := rfl
@[simp] theorem bytes139 : bytesT Try.prog 139 = 8 := rfl
@[simp] theorem bytesB139 : bytesT BB.P 139 = 8 := rfl
@[simp] theorem bytes140 : bytesT Try.prog 140 = 8 := rfl
@[simp] theorem bytesB140 : bytesT BB.P 140 = 8 := rfl
@[simp] theorem bytes141 : bytesT Try.prog 141 = 8 := rfl
@[simp] theorem bytesB141 : bytesT BB.P 141 = 8 := rfl
@[simp] theorem bytes143 : bytesT Try.prog 143 = 8 := rfl
@[simp] theorem bytesB143 : bytesT BB.P 143 = 8 := rfl
@[simp] theorem bytes144 : bytesT Try.prog 144 = 8 := rfl
@[simp] theorem bytesB144 : bytesT BB.P 144 = 8 := rfl
@[simp] theorem bytes145 : bytesT Try.prog 145 = 256 := rfl
@[simp] theorem bytesB145 : bytesT BB.P 145 = 256 := rfl
@[simp] theorem bytes146 : bytesT Try.prog 146 = 256 := rfl
@[simp] theorem bytesB146 : bytesT BB.P 146 = 256 := rfl
@[simp] theorem bytes148 : bytesT Try.prog 148 = 8 := rfl
@[simp] theorem bytesB148 : bytesT BB.P 148 = 8 := rfl
@[simp] theorem bytes149 : bytesT Try.prog 149 = 8 := rfl
@[simp] theorem bytesB149 : bytesT BB.P 149 = 8 := rfl
@[simp] theorem bytes150 : bytesT Try.prog 150 = 16 := rfl
@[simp] theorem bytesB150 : bytesT BB.P 150 = 16 := rfl
@[simp] theorem bytes151 : bytesT Try.prog 151 = 16 := rfl
@[simp] theorem bytesB151 : bytesT BB.P 151 = 16 := rfl
@[simp] theorem bytes153 : bytesT Try.prog 153 = 8 := rfl
@[simp] theorem bytesB153 : bytesT BB.P 153 = 8 := rfl
@[simp] theorem bytes154 : bytesT Try.prog 154 = 8 := rfl
@[simp] theorem bytesB154 : bytesT BB.P 154 = 8 := rfl
@[simp] theorem bytes155 : bytesT Try.prog 155 = 8 := rfl
@[simp] theorem bytesB155 : bytesT BB.P 155 = 8 := rfl
@[simp] theorem bytes156 : bytesT Try.prog 156 = 24 := rfl
@[simp] theorem bytesB156 : bytesT BB.P 156 = 24 := rfl
@[simp] theorem bytes157 : bytesT Try.prog 157 = 8 := rfl
@[simp] theorem bytesB157 : bytesT BB.P 157 = 8 := rfl
@[simp] theorem bytes158 : bytesT Try.prog 158 = 16 := rfl
@[simp] theorem bytesB158 : bytesT BB.P 158 = 16 := rfl
@[simp] theorem bytes159 : bytesT Try.prog 159 = 16 := rfl
@[simp] theorem bytesB159 : bytesT BB.P 159 = 16 := rfl
@[simp] theorem bytes160 : bytesT Try.prog 160 = 24 := rfl
@[simp] theorem bytesB160 : bytesT BB.P 160 = 24 := rfl
@[simp] theorem bytes161 : bytesT Try.prog 161 = 8 := rfl
@[simp] theorem bytesB161 : bytesT BB.P 161 = 8 := rfl
@[simp] theorem bytes162 : bytesT Try.prog 162 = 8 := rfl
@[simp] theorem bytesB162 : bytesT BB.P 162 = 8 := rfl
@[simp] theorem bytes163 : bytesT Try.prog 163 = 8 := rfl
@[simp] theorem bytesB163 : bytesT BB.P 163 = 8 := rfl
@[simp] theorem bytes164 : bytesT Try.prog 164 = 8 := rfl
@[simp] theorem bytesB164 : bytesT BB.P 164 = 8 := rfl
@[simp] theorem bytes166 : bytesT Try.prog 166 = 8 := rfl
@[simp] theorem bytesB166 : bytesT BB.P 166 = 8 := rfl
@[simp] theorem bytes167 : bytesT Try.prog 167 = 8 := rfl
@[simp] theorem bytesB167 : bytesT BB.P 167 = 8 := rfl
@[simp] theorem bytes168 : bytesT Try.prog 168 = 8 := rfl
@[simp] theorem bytesB168 : bytesT BB.P 168 = 8 := rfl
@[simp] theorem bytes169 : bytesT Try.prog 169 = 8 := rfl
@[simp] theorem bytesB169 : bytesT BB.P 169 = 8 := rfl
@[simp] theorem bytes170 : bytesT Try.prog 170 = 24 := rfl
@[simp] theorem bytesB170 : bytesT BB.P 170 = 24 := rfl
@[simp] theorem bytes171 : bytesT Try.prog 171 = 16 := rfl
@[simp] theorem bytesB171 : bytesT BB.P 171 = 16 := rfl
@[simp] theorem bytes172 : bytesT Try.prog 172 = 16 := rfl
@[simp] theorem bytesB172 : bytesT BB.P 172 = 16 := rfl
@[simp] theorem bytes173 : bytesT Try.prog 173 = 8 := rfl
@[simp] theorem bytesB173 : bytesT BB.P 173 = 8 := rfl
@[simp] theorem bytes174 : bytesT Try.prog 174 = 256 := rfl
@[simp] theorem bytesB174 : bytesT BB.P 174 = 256 := rfl
@[simp] theorem bytes175 : bytesT Try.prog 175 = 8 := rfl
@[simp] theorem bytesB175 : bytesT BB.P 175 = 8 := rfl
@[simp] theorem bytes176 : bytesT Try.prog 176 = 8 := rfl
@[simp] theorem bytesB176 : bytesT BB.P 176 = 8 := rfl
@[simp] theorem bytes177 : bytesT Try.prog 177 = 8 := rfl
@[simp] theorem bytesB177 : bytesT BB.P 177 = 8 := rfl
@[simp] theorem bytes178 : bytesT Try.prog 178 = 4 := rfl
@[simp] theorem bytesB178 : bytesT BB.P 178 = 4 := rfl
@[simp] theorem bytes180 : bytesT Try.prog 180 = 8 := rfl
@[simp] theorem bytesB180 : bytesT BB.P 180 = 8 := rfl
@[simp] theorem bytes181 : bytesT Try.prog 181 = 8 := rfl
@[simp] theorem bytesB181 : bytesT BB.P 181 = 8 := rfl
@[simp] theorem bytes182 : bytesT Try.prog 182 = 40 := rfl
@[simp] theorem bytesB182 : bytesT BB.P 182 = 40 := rfl
@[simp] theorem bytes183 : bytesT Try.prog 183 = 40 := rfl
@[simp] theorem bytesB183 : bytesT BB.P 183 = 40 := rfl
@[simp] theorem bytes187 : bytesT Try.prog 187 = 8 := rfl
@[simp] theorem bytesB187 : bytesT BB.P 187 = 8 := rfl
@[simp] theorem bytes188 : bytesT Try.prog 188 = 1 := rfl
@[simp] theorem bytesB188 : bytesT BB.P 188 = 1 := rfl
@[simp] theorem bytes189 : bytesT Try.prog 189 = 1 := rfl
@[simp] theorem bytesB189 : bytesT BB.P 189 = 1 := rfl
@[simp] theorem bytes190 : bytesT Try.prog 190 = 8 := rfl
@[simp] theorem bytesB190 : bytesT BB.P 190 = 8 := rfl
@[simp] theorem bytes191 : bytesT Try.prog 191 = 4 := rfl
@[simp] theorem bytesB191 : bytesT BB.P 191 = 4 := rfl
@[simp] theorem bytes192 : bytesT Try.prog 192 = 4 := rfl
@[simp] theorem bytesB192 : bytesT BB.P 192 = 4 := rfl
@[simp] theorem bytes193 : bytesT Try.prog 193 = 48 := rfl
@[simp] theorem bytesB193 : bytesT BB.P 193 = 48 := rfl
@[simp] theorem bytes194 : bytesT Try.prog 194 = 48 := rfl
@[simp] theorem bytesB194 : bytesT BB.P 194 = 48 := rfl
theorem u8_bnd (x : UInt8) : 0 ≤ (x.toNat : Int) ∧ (x.toNat : Int) ≤ 255 := by have := x.toNat_lt; omega
end Go.Vc

namespace Go.Vc
open Go.Proofs
set_option linter.unusedVariables false
set_option maxRecDepth 10000
set_option linter.unusedSimpArgs false
set_option maxHeartbeats 2000000
/-- a writer: its own address, its bytes, a flag -/
abbrev wrB (a b : SV) (q : Bool) : Chunk := .bx (some 110) [a, b, .bool q]
abbrev nilP : SV := .v (.pointer none)
instance eCCa (q : Bool) : FnM BB 179 [.loc 0 0] [(0, wrB nilP .nils q)] True (.tup []) [(0, wrB (.loc 0 0) .nils q)] := by
  refine FnM.intro (N := 20) [0, 6, 19] [] 1 Try.call179 Try.func179 rfl rfl (by kernel_rfl) (fun hpre => ?_)
  repeat' ((conv => whnf); first | (with_reducible rfl) | exact True.intro | (with_reducible exact absTF) | (with_reducible exact absFT) | intro _ | refine And.intro ?_ ?_ | refine Fin.mk ?_ | refine CallG.plain rfl ?_ ?_ | refine CallG.mk rfl ?_ ?_ | refine CallG.nwl rfl ?_ ?_ | refine CallG.nw ?_ ?_ | refine CallF.nwl rfl ?_ ?_ | refine CallF.nw ?_ ?_ | refine AppN.mk ?_ | (refine CallS.q ?_; (conv => whnf); first | refine CallG.plain rfl ?_ ?_ | refine CallG.mk rfl ?_ ?_) | (refine CallS.m ?_; (conv => whnf); refine CallM.mk rfl ?_ ?_) | (refine CallS.h ?_; (conv => whnf); refine CallM.mk rfl ?_ ?_) | (refine CallS.b ?_; (conv => whnf); refine CallM.mk rfl ?_ ?_) | (refine CallS.z ?_; (conv => whnf); refine CallM.mk rfl ?_ ?_))
  all_goals (try (conv => whnf))
  all_goals (try (exact Ob.mk (by kernel_rfl)))
  all_goals (try (exact Ob.mk (u8_bnd _)))
  all_goals (try (refine Ob.mk ?_; first | exact True.intro | assumption | omega | (try simp only [decide_eq_true_eq, decide_eq_false_iff_not, beq_iff_eq, beq_eq_false_iff_ne, bne_iff_ne, bne_eq_false_iff_eq, ne_eq, Bool.and_eq_true, Bool.or_eq_true, Bool.not_eq_true, Bool.not_eq_false, Bool.not_eq_true', Bool.not_eq_false', Int.toNat_natCast, Int.not_lt, Int.not_le, UInt8.ofNat_toNat, cast_eq] at *; omega)))
  all_goals (try ((show (_:Int) = _); omega))
  all_goals (try (show tupSV _ = _; with_unfolding_all rfl))
  all_goals (try ((show (_ : Nat) ≤ _); (simp <;> omega)))
  all_goals (try ((show (_ : Nat) ≤ _ ∧ (_ : Nat) ≤ _); (simp <;> omega)))
  all_goals (try ((show (_ : Int) ≤ _ ∧ (_ : Int) ≤ _ ∧ (_ : Int) ≤ _ ∧ (_ : Int) ≤ _); (simp <;> omega)))
instance eCCb (q : Bool) : FnM BB 179 [.loc 0 0] [(0, wrB (.loc 0 0) .nils q)] True (.tup []) [(0, wrB (.loc 0 0) .nils q)] := by
  refine FnM.intro (N := 20) [0, 6, 19] [] 1 Try.call179 Try.func179 rfl rfl (by kernel_rfl) (fun hpre => ?_)
  repeat' ((conv => whnf); first | (with_reducible rfl) | exact True.intro | (with_reducible exact absTF) | (with_reducible exact absFT) | intro _ | refine And.intro ?_ ?_ | refine Fin.mk ?_ | refine CallG.plain rfl ?_ ?_ | refine CallG.mk rfl ?_ ?_ | refine CallG.nwl rfl ?_ ?_ | refine CallG.nw ?_ ?_ | refine CallF.nwl rfl ?_ ?_ | refine CallF.nw ?_ ?_ | refine AppN.mk ?_ | (refine CallS.q ?_; (conv => whnf); first | refine CallG.plain rfl ?_ ?_ | refine CallG.mk rfl ?_ ?_) | (refine CallS.m ?_; (conv => whnf); refine CallM.mk rfl ?_ ?_) | (refine CallS.h ?_; (conv => whnf); refine CallM.mk rfl ?_ ?_) | (refine CallS.b ?_; (conv => whnf); refine CallM.mk rfl ?_ ?_) | (refine CallS.z ?_; (conv => whnf); refine CallM.mk rfl ?_ ?_))
  all_goals (try (conv => whnf))
  all_goals (try (exact Ob.mk (u8_bnd _)))
  all_goals (try (refine Ob.mk ?_; first | exact True.intro | assumption | omega | (try simp only [decide_eq_true_eq, decide_eq_false_iff_not, beq_iff_eq, beq_eq_false_iff_ne, bne_iff_ne, bne_eq_false_iff_eq, ne_eq, Bool.and_eq_true, Bool.or_eq_true, Bool.not_eq_true, Bool.not_eq_false, Bool.not_eq_true', Bool.not_eq_false', Int.toNat_natCast, Int.not_lt, Int.not_le, UInt8.ofNat_toNat, cast_eq] at *; omega)))
  all_goals (try ((show (_:Int) = _); omega))
  all_goals (try (show tupSV _ = _; with_unfolding_all rfl))
  all_goals (try ((show (_ : Nat) ≤ _); (simp <;> omega)))
  all_goals (try ((show (_ : Nat) ≤ _ ∧ (_ : Nat) ≤ _); (simp <;> omega)))
  all_goals (try ((show (_ : Int) ≤ _ ∧ (_ : Int) ≤ _ ∧ (_ : Int) ≤ _ ∧ (_ : Int) ≤ _); (simp <;> omega)))
  all_goals (try (rename_i h; exact absurd h (by decide)))
instance eCCc (q : Bool) (l : List UInt8) : FnM BB 179 [.loc 0 0] [(0, wrB (.loc 0 0) (.own 1) q), (1, .own .byte l)] True (.tup []) [(0, wrB (.loc 0 0) (.own 1) q), (1, .own .byte l)] := by
  refine FnM.intro (N := 20) [0, 6, 19] [] 2 Try.call179 Try.func179 rfl rfl (by kernel_rfl) (fun hpre => ?_)
  repeat' ((conv => whnf); first | (with_reducible rfl) | exact True.intro | (with_reducible exact absTF) | (with_reducible exact absFT) | intro _ | refine And.intro ?_ ?_ | refine Fin.mk ?_ | refine CallG.plain rfl ?_ ?_ | refine CallG.mk rfl ?_ ?_ | refine CallG.nwl rfl ?_ ?_ | refine CallG.nw ?_ ?_ | refine CallF.nwl rfl ?_ ?_ | refine CallF.nw ?_ ?_ | refine AppN.mk ?_ | (refine CallS.q ?_; (conv => whnf); first | refine CallG.plain rfl ?_ ?_ | refine CallG.mk rfl ?_ ?_) | (refine CallS.m ?_; (conv => whnf); refine CallM.mk rfl ?_ ?_) | (refine CallS.h ?_; (conv => whnf); refine CallM.mk rfl ?_ ?_) | (refine CallS.b ?_; (conv => whnf); refine CallM.mk rfl ?_ ?_) | (refine CallS.z ?_; (conv => whnf); refine CallM.mk rfl ?_ ?_))
  all_goals (try (conv => whnf))
  all_goals (try (exact Ob.mk (u8_bnd _)))
  all_goals (try (refine Ob.mk ?_; first | exact True.intro | assumption | omega | (try simp only [decide_eq_true_eq, decide_eq_false_iff_not, beq_iff_eq, beq_eq_false_iff_ne, bne_iff_ne, bne_eq_false_iff_eq, ne_eq, Bool.and_eq_true, Bool.or_eq_true, Bool.not_eq_true, Bool.not_eq_false, Bool.not_eq_true', Bool.not_eq_false', Int.toNat_natCast, Int.not_lt, Int.not_le, UInt8.ofNat_toNat, cast_eq] at *; omega)))
  all_goals (try ((show (_:Int) = _); omega))
  all_goals (try (show tupSV _ = _; with_unfolding_all rfl))
  all_goals (try ((show (_ : Nat) ≤ _); (simp <;> omega)))
  all_goals (try ((show (_ : Nat) ≤ _ ∧ (_ : Nat) ≤ _); (simp <;> omega)))
  all_goals (try ((show (_ : Int) ≤ _ ∧ (_ : Int) ≤ _ ∧ (_ : Int) ≤ _ ∧ (_ : Int) ≤ _); (simp <;> omega)))
  all_goals (try (rename_i h; exact absurd h (by decide)))
instance eWSa (q : Bool) (x : List UInt8) : FnM BB 158 [.loc 0 0, .str x] [(0, wrB nilP .nils q)] (x ≠ [] ∧ x.length ≤ 1000000) (.tup [.int .i64 x.length, .v .nilIface]) [(0, wrB (.loc 0 0) (.own 1) q), (1, .own .byte x)] := by
  refine FnM.intro (N := 19) [0, 1, 4, 5] [] 1 Try.call158 Try.func158 rfl rfl (by kernel_rfl) (fun hpre => ?_)
  obtain ⟨hp1, hp2⟩ := hpre
  repeat' ((conv => whnf); first | (with_reducible rfl) | exact True.intro | (with_reducible exact absTF) | (with_reducible exact absFT) | intro _ | refine And.intro ?_ ?_ | refine Fin.mk ?_ | refine CallG.plain rfl ?_ ?_ | refine CallG.mk rfl ?_ ?_ | refine CallG.nwl rfl ?_ ?_ | refine CallG.nw ?_ ?_ | refine CallF.nwl rfl ?_ ?_ | refine CallF.nw ?_ ?_ | refine AppN.mk ?_ | (refine CallS.q ?_; (conv => whnf); first | refine CallG.plain rfl ?_ ?_ | refine CallG.mk rfl ?_ ?_) | (refine CallS.m ?_; (conv => whnf); refine CallM.mk rfl ?_ ?_) | (refine CallS.h ?_; (conv => whnf); refine CallM.mk rfl ?_ ?_) | (refine CallS.b ?_; (conv => whnf); refine CallM.mk rfl ?_ ?_) | (refine CallS.z ?_; (conv => whnf); refine CallM.mk rfl ?_ ?_))
  all_goals (try (conv => whnf))
  all_goals (try (exact Ob.mk (u8_bnd _)))
  all_goals (try (refine Ob.mk ?_; first | exact True.intro | assumption | omega | (try simp only [decide_eq_true_eq, decide_eq_false_iff_not, beq_iff_eq, beq_eq_false_iff_ne, bne_iff_ne, bne_eq_false_iff_eq, ne_eq, Bool.and_eq_true, Bool.or_eq_true, Bool.not_eq_true, Bool.not_eq_false, Bool.not_eq_true', Bool.not_eq_false', Int.toNat_natCast, Int.not_lt, Int.not_le, UInt8.ofNat_toNat, cast_eq] at *; omega)))
  all_goals (try ((show (_:Int) = _); omega))
  all_goals (try (show tupSV _ = _; with_unfolding_all rfl))
  all_goals (try ((show (_ : Nat) ≤ _); (simp <;> omega)))
  all_goals (try ((show (_ : Nat) ≤ _ ∧ (_ : Nat) ≤ _); (simp <;> omega)))
  all_goals (try ((show (_ : Int) ≤ _ ∧ (_ : Int) ≤ _ ∧ (_ : Int) ≤ _ ∧ (_ : Int) ≤ _); (simp <;> omega)))
instance eWSb (q : Bool) (x : List UInt8) : FnM BB 158 [.loc 0 0, .str x] [(0, wrB (.loc 0 0) .nils q)] (x ≠ [] ∧ x.length ≤ 1000000) (.tup [.int .i64 x.length, .v .nilIface]) [(0, wrB (.loc 0 0) (.own 1) q), (1, .own .byte x)] := by
  refine FnM.intro (N := 19) [0, 1, 4, 5] [] 1 Try.call158 Try.func158 rfl rfl (by kernel_rfl) (fun hpre => ?_)
  obtain ⟨hp1, hp2⟩ := hpre
  repeat' ((conv => whnf); first | (with_reducible rfl) | exact True.intro | (with_reducible exact absTF) | (with_reducible exact absFT) | intro _ | refine And.intro ?_ ?_ | refine Fin.mk ?_ | refine CallG.plain rfl ?_ ?_ | refine CallG.mk rfl ?_ ?_ | refine CallG.nwl rfl ?_ ?_ | refine CallG.nw ?_ ?_ | refine CallF.nwl rfl ?_ ?_ | refine CallF.nw ?_ ?_ | refine AppN.mk ?_ | (refine CallS.q ?_; (conv => whnf); first | refine CallG.plain rfl ?_ ?_ | refine CallG.mk rfl ?_ ?_) | (refine CallS.m ?_; (conv => whnf); refine CallM.mk rfl ?_ ?_) | (refine CallS.h ?_; (conv => whnf); refine CallM.mk rfl ?_ ?_) | (refine CallS.b ?_; (conv => whnf); refine CallM.mk rfl ?_ ?_) | (refine CallS.z ?_; (conv => whnf); refine CallM.mk rfl ?_ ?_))
  all_goals (try (conv => whnf))
  all_goals (try (exact Ob.mk (u8_bnd _)))
  all_goals (try (refine Ob.mk ?_; first | exact True.intro | assumption | omega | (try simp only [decide_eq_true_eq, decide_eq_false_iff_not, beq_iff_eq, beq_eq_false_iff_ne, bne_iff_ne, bne_eq_false_iff_eq, ne_eq, Bool.and_eq_true, Bool.or_eq_true, Bool.not_eq_true, Bool.not_eq_false, Bool.not_eq_true', Bool.not_eq_false', Int.toNat_natCast, Int.not_lt, Int.not_le, UInt8.ofNat_toNat, cast_eq] at *; omega)))
  all_goals (try ((show (_:Int) = _); omega))
  all_goals (try (show tupSV _ = _; with_unfolding_all rfl))
  all_goals (try ((show (_ : Nat) ≤ _); (simp <;> omega)))
  all_goals (try ((show (_ : Nat) ≤ _ ∧ (_ : Nat) ≤ _); (simp <;> omega)))
  all_goals (try ((show (_ : Int) ≤ _ ∧ (_ : Int) ≤ _ ∧ (_ : Int) ≤ _ ∧ (_ : Int) ≤ _); (simp <;> omega)))
instance eWSc (q : Bool) (x l : List UInt8) : FnM BB 158 [.loc 0 0, .str x] [(0, wrB (.loc 0 0) (.own 1) q), (1, .own .byte l)] (l.length ≤ 1000000 ∧ x.length ≤ 1000000) (.tup [.int .i64 x.length, .v .nilIface]) [(0, wrB (.loc 0 0) (.own 1) q), (1, .own .byte (l ++ x))] := by
  refine FnM.intro (N := 19) [0, 1, 4, 5] [] 2 Try.call158 Try.func158 rfl rfl (by kernel_rfl) (fun hpre => ?_)
  obtain ⟨hp1, hp2⟩ := hpre
  repeat' ((conv => whnf); first | (with_reducible rfl) | exact True.intro | (with_reducible exact absTF) | (with_reducible exact absFT) | intro _ | refine And.intro ?_ ?_ | refine Fin.mk ?_ | refine CallG.plain rfl ?_ ?_ | refine CallG.mk rfl ?_ ?_ | refine CallG.nwl rfl ?_ ?_ | refine CallG.nw ?_ ?_ | refine CallF.nwl rfl ?_ ?_ | refine CallF.nw ?_ ?_ | refine AppN.mk ?_ | (refine CallS.q ?_; (conv => whnf); first | refine CallG.plain rfl ?_ ?_ | refine CallG.mk rfl ?_ ?_) | (refine CallS.m ?_; (conv => whnf); refine CallM.mk rfl ?_ ?_) | (refine CallS.h ?_; (conv => whnf); refine CallM.mk rfl ?_ ?_) | (refine CallS.b ?_; (conv => whnf); refine CallM.mk rfl ?_ ?_) | (refine CallS.z ?_; (conv => whnf); refine CallM.mk rfl ?_ ?_))
  all_goals (try (conv => whnf))
  all_goals (try (exact Ob.mk (u8_bnd _)))
  all_goals (try (refine Ob.mk ?_; first | exact True.intro | assumption | omega | (try simp only [decide_eq_true_eq, decide_eq_false_iff_not, beq_iff_eq, beq_eq_false_iff_ne, bne_iff_ne, bne_eq_false_iff_eq, ne_eq, Bool.and_eq_true, Bool.or_eq_true, Bool.not_eq_true, Bool.not_eq_false, Bool.not_eq_true', Bool.not_eq_false', Int.toNat_natCast, Int.not_lt, Int.not_le, UInt8.ofNat_toNat, cast_eq] at *; omega)))
  all_goals (try ((show (_:Int) = _); omega))
  all_goals (try (show tupSV _ = _; with_unfolding_all rfl))
  all_goals (try ((show (_ : Nat) ≤ _); (simp <;> omega)))
  all_goals (try ((show (_ : Nat) ≤ _ ∧ (_ : Nat) ≤ _); (simp <;> omega)))
  all_goals (try ((show (_ : Int) ≤ _ ∧ (_ : Int) ≤ _ ∧ (_ : Int) ≤ _ ∧ (_ : Int) ≤ _); (simp <;> omega)))
theorem eWSn (q : Bool) (p : SV) (hp : p = nilP ∨ p = .loc 0 0) : FnM BB 158 [.loc 0 0, .str []] [(0, wrB p .nils q)] True (.tup [.int .i64 0, .v .nilIface]) [(0, wrB (.loc 0 0) .nils q)] := by
  rcases hp with rfl | rfl
  · refine FnM.intro (N := 19) [0, 1, 4, 5] [] 1 Try.call158 Try.func158 rfl rfl (by kernel_rfl) (fun hpre => ?_)
    repeat' ((conv => whnf); first | (with_reducible rfl) | exact True.intro | (with_reducible exact absTF) | (with_reducible exact absFT) | intro _ | refine And.intro ?_ ?_ | refine Fin.mk ?_ | refine CallG.plain rfl ?_ ?_ | refine CallG.mk rfl ?_ ?_ | refine CallG.nwl rfl ?_ ?_ | refine CallG.nw ?_ ?_ | refine CallF.nwl rfl ?_ ?_ | refine CallF.nw ?_ ?_ | refine AppN.nl (by kernel_rfl) rfl ?_ | (refine CallS.q ?_; (conv => whnf); first | refine CallG.plain rfl ?_ ?_ | refine CallG.mk rfl ?_ ?_) | (refine CallS.m ?_; (conv => whnf); refine CallM.mk rfl ?_ ?_) | (refine CallS.h ?_; (conv => whnf); refine CallM.mk rfl ?_ ?_) | (refine CallS.b ?_; (conv => whnf); refine CallM.mk rfl ?_ ?_) | (refine CallS.z ?_; (conv => whnf); refine CallM.mk rfl ?_ ?_))
    all_goals (try (conv => whnf))
    all_goals (try (exact Ob.mk (u8_bnd _)))
    all_goals (try (refine Ob.mk ?_; first | exact True.intro | assumption | omega | (try simp only [decide_eq_true_eq, decide_eq_false_iff_not, beq_iff_eq, beq_eq_false_iff_ne, bne_iff_ne, bne_eq_false_iff_eq, ne_eq, Bool.and_eq_true, Bool.or_eq_true, Bool.not_eq_true, Bool.not_eq_false, Bool.not_eq_true', Bool.not_eq_false', Int.toNat_natCast, Int.not_lt, Int.not_le, UInt8.ofNat_toNat, cast_eq] at *; omega)))
    all_goals (try ((show (_:Int) = _); omega))
    all_goals (try (show tupSV _ = _; with_unfolding_all rfl))
    all_goals (try ((show (_ : Nat) ≤ _); (simp <;> omega)))
    all_goals (try ((show (_ : Nat) ≤ _ ∧ (_ : Nat) ≤ _); (simp <;> omega)))
    all_goals (try ((show (_ : Int) ≤ _ ∧ (_ : Int) ≤ _ ∧ (_ : Int) ≤ _ ∧ (_ : Int) ≤ _); (simp <;> omega)))
    all_goals (try rfl)
  · refine FnM.intro (N := 19) [0, 1, 4, 5] [] 1 Try.call158 Try.func158 rfl rfl (by kernel_rfl) (fun hpre => ?_)
    repeat' ((conv => whnf); first | (with_reducible rfl) | exact True.intro | (with_reducible exact absTF) | (with_reducible exact absFT) | intro _ | refine And.intro ?_ ?_ | refine Fin.mk ?_ | refine CallG.plain rfl ?_ ?_ | refine CallG.mk rfl ?_ ?_ | refine CallG.nwl rfl ?_ ?_ | refine CallG.nw ?_ ?_ | refine CallF.nwl rfl ?_ ?_ | refine CallF.nw ?_ ?_ | refine AppN.nl (by kernel_rfl) rfl ?_ | (refine CallS.q ?_; (conv => whnf); first | refine CallG.plain rfl ?_ ?_ | refine CallG.mk rfl ?_ ?_) | (refine CallS.m ?_; (conv => whnf); refine CallM.mk rfl ?_ ?_) | (refine CallS.h ?_; (conv => whnf); refine CallM.mk rfl ?_ ?_) | (refine CallS.b ?_; (conv => whnf); refine CallM.mk rfl ?_ ?_) | (refine CallS.z ?_; (conv => whnf); refine CallM.mk rfl ?_ ?_))
    all_goals (try (conv => whnf))
    all_goals (try (exact Ob.mk (u8_bnd _)))
    all_goals (try (refine Ob.mk ?_; first | exact True.intro | assumption | omega | (try simp only [decide_eq_true_eq, decide_eq_false_iff_not, beq_iff_eq, beq_eq_false_iff_ne, bne_iff_ne, bne_eq_false_iff_eq, ne_eq, Bool.and_eq_true, Bool.or_eq_true, Bool.not_eq_true, Bool.not_eq_false, Bool.not_eq_true', Bool.not_eq_false', Int.toNat_natCast, Int.not_lt, Int.not_le, UInt8.ofNat_toNat, cast_eq] at *; omega)))
    all_goals (try ((show (_:Int) = _); omega))
    all_goals (try (show tupSV _ = _; with_unfolding_all rfl))
    all_goals (try ((show (_ : Nat) ≤ _); (simp <;> omega)))
    all_goals (try ((show (_ : Nat) ≤ _ ∧ (_ : Nat) ≤ _); (simp <;> omega)))
    all_goals (try ((show (_ : Int) ≤ _ ∧ (_ : Int) ≤ _ ∧ (_ : Int) ≤ _ ∧ (_ : Int) ≤ _); (simp <;> omega)))
    all_goals (try rfl)
end Go.Vc

namespace Go.Vc
set_option autoImplicit false
/-- what stands for a byte; [] : itself -/
def refB (q : Bool) (c : UInt8) : List UInt8 :=
  bif c == 38 then [38, 97, 109, 112, 59] else bif c == 60 then [38, 108, 116, 59] else bif c == 62 then [38, 103, 116, 59] else bif c == 34 && q then [38, 113, 117, 111, 116, 59] else []
def oneB (q : Bool) (c : UInt8) : List UInt8 := bif (refB q c).isEmpty then [c] else refB q c
def nbsp : List UInt8 := [38, 110, 98, 115, 112, 59]
/-- a text, written -/
def escL (q : Bool) : List UInt8 → List UInt8
  | [] => []
  | [c] => oneB q c
  | c :: d :: r => bif c == 194 && d == 160 then nbsp ++ escL q r else oneB q c ++ escL q (d :: r)
theorem oneB_len (q : Bool) (c : UInt8) : (oneB q c).length ≤ 6 ∧ 1 ≤ (oneB q c).length := by
  unfold oneB refB
  cases c == 38 <;> cases c == 60 <;> cases c == 62 <;> cases c == 34 <;> cases q <;> simp
theorem escL_len (q : Bool) : ∀ l : List UInt8, (escL q l).length ≤ 6 * l.length
  | [] => by simp [escL]
  | [c] => by have := oneB_len q c; simp [escL]; omega
  | c :: d :: r => by
    have h1 := oneB_len q c
    have h2 := escL_len q r
    have h3 := escL_len q (d :: r)
    unfold escL
    cases c == 194 && d == 160
    · simp at h3 ⊢; omega
    · simp [nbsp]; omega
theorem escL_ne (q : Bool) (l : List UInt8) (h : l ≠ []) : escL q l ≠ [] := by
  match l, h with
  | [c], _ => have := oneB_len q c; intro h0; simp only [escL] at h0; rw [h0] at this; simp at this
  | c :: d :: r, _ =>
    unfold escL
    cases c == 194 && d == 160
    · have := oneB_len q c
      intro h0
      simp at h0
      rw [h0.1] at this; simp at this
    · simp [nbsp]
theorem drop_cons' (s : List UInt8) (i : Nat) (h : i < s.length) : s.drop i = s.getD i 0 :: s.drop (i + 1) := by
  rw [List.drop_eq_getElem_cons h]
  simp [List.getD, List.getElem?_eq_getElem h]
/-- at a place -/
theorem escL_at (q : Bool) (s : List UInt8) (i : Nat) (h : i < s.length) :
    escL q (s.drop i) = if s.getD i 0 = 194 ∧ i + 1 < s.length ∧ s.getD (i + 1) 0 = 160 then nbsp ++ escL q (s.drop (i + 2)) else oneB q (s.getD i 0) ++ escL q (s.drop (i + 1)) := by
  rw [drop_cons' s i h]
  by_cases h1 : i + 1 < s.length
  · rw [drop_cons' s (i + 1) h1]
    simp only [escL]
    by_cases h2 : s.getD i 0 = 194 ∧ s.getD (i + 1) 0 = 160
    · rw [if_pos ⟨h2.1, h1, h2.2⟩, h2.1, h2.2]; rfl
    · rw [if_neg (fun h => h2 ⟨h.1, h.2.2⟩)]
      have : (s.getD i 0 == 194 && s.getD (i + 1) 0 == 160) = false := by
        rw [Bool.eq_false_iff]; intro hc; simp only [Bool.and_eq_true, beq_iff_eq] at hc; exact h2 hc
      rw [this]; rfl
  · rw [if_neg (fun h => h1 h.2.1)]
    have : s.drop (i + 1) = [] := List.drop_eq_nil_of_le (by omega)
    rw [this]
    simp [escL]
theorem escL_end (q : Bool) (s : List UInt8) : escL q (s.drop s.length) = [] := by simp [escL]
/-- how many bytes a byte takes -/
def wB (c : UInt8) : Nat := bif c == 38 then 5 else bif c == 60 then 4 else bif c == 62 then 4 else bif c == 34 then 6 else 1
def wL : List UInt8 → Nat
  | [] => 0
  | c :: r => wB c + wL r
theorem wB_one (c : UInt8) : wB c = (oneB true c).length := by
  unfold wB oneB refB
  cases c == 38 <;> cases c == 60 <;> cases c == 62 <;> cases c == 34 <;> simp
abbrev nb2 : List UInt8 := [194, 160]
theorem cnt_nil : Lib.count [] nb2 = 0 := rfl
theorem cnt_cons (b : UInt8) (l : List UInt8) : Lib.count (b :: l) nb2 = bif nb2.isPrefixOf (b :: l) then 1 + Lib.count (l.drop 1) nb2 else Lib.count l nb2 := by
  cases hp : nb2.isPrefixOf (b :: l) with
  | true =>
    have : Lib.index (b :: l) nb2 = ((0 : Nat) : Int) := by unfold Lib.index; rw [if_pos hp]; rfl
    rw [Lib.count_hit (by simp) this]
    rfl
  | false =>
    rcases (by omega : Lib.index l nb2 < 0 ∨ 0 ≤ Lib.index l nb2) with h | h
    · have h1 : Lib.index l nb2 = -1 := by have := Lib.index_ge l nb2; omega
      have : Lib.index (b :: l) nb2 = -1 := by unfold Lib.index; rw [if_neg (by rw [hp]; simp), if_pos (by rw [h1]; rfl)]
      rw [Lib.count_miss this, cond_false, Lib.count_miss h1]
    · obtain ⟨i, hi⟩ := Int.eq_ofNat_of_zero_le h
      have : Lib.index (b :: l) nb2 = ((i + 1 : Nat) : Int) := by
        unfold Lib.index
        rw [if_neg (by rw [hp]; simp), if_neg (by rw [hi]; simp), hi]
        simp
      rw [Lib.count_hit (by simp) this, cond_false, Lib.count_hit (by simp) hi]
      rw [show i + 1 + nb2.length = (i + nb2.length) + 1 by omega, List.drop_succ_cons]
/-- the size of a value, written -/
theorem size_law : ∀ l : List UInt8, wL l + 4 * Lib.count l nb2 = (escL true l).length
  | [] => rfl
  | [c] => by
    have : nb2.isPrefixOf [c] = false := by simp [List.isPrefixOf]
    rw [cnt_cons, this, cond_false, cnt_nil]
    simp [wL, escL, wB_one]
  | c :: d :: r => by
    have h1 := size_law r
    have h2 := size_law (d :: r)
    rw [cnt_cons]
    have hp : nb2.isPrefixOf (c :: d :: r) = (c == 194 && d == 160) := by
      simp only [List.isPrefixOf, Bool.and_true]
      rw [show ((194 : UInt8) == c) = (c == 194) from BEq.comm, show ((160 : UInt8) == d) = (d == 160) from BEq.comm]
    rw [hp]
    unfold escL
    cases hc : (c == 194 && d == 160) with
    | true =>
      simp only [Bool.and_eq_true, beq_iff_eq] at hc
      obtain ⟨rfl, rfl⟩ := hc
      simp only [cond_true, wL, List.drop_succ_cons, List.drop_zero, List.length_append]
      have : wB 194 = 1 ∧ wB 160 = 1 := ⟨rfl, rfl⟩
      simp [this, nbsp]
      omega
    | false =>
      simp only [cond_false, List.length_append]
      rw [← h2, ← wB_one]
      simp only [wL]
      omega
theorem wL_le (l : List UInt8) : wL l ≤ 6 * l.length := by
  induction l with
  | nil => simp [wL]
  | cons c r ih => have := oneB_len true c; rw [← wB_one] at this; simp [wL]; omega
theorem wL_take (l : List UInt8) (i : Nat) (h : i < l.length) : wL (l.take (i + 1)) = wL (l.take i) + wB (l.getD i 0) := by
  induction l generalizing i with
  | nil => simp at h
  | cons c r ih =>
    cases i with
    | zero => simp [wL]
    | succ i => have := ih i (by simpa using h); simp only [List.take_succ_cons, wL, this]; simp [List.getD]; omega
end Go.Vc

/-
  DERIVED: THE SHELF's CONTRACTS AT THIS DUMP, IN PLAIN WORDS (tools/lay-plain.mjs out of 'TryShelf.lean', which tools/lay-shelf.mjs wrote): THE SAME DECLARATIONS UNDER THE SAME NAMES: 'import', 'namespace', 'open', 'def', 'theorem' AND NOTHING ELSE: no command of the shelf's: FOR A HAND-IN. Each laying: the table of numbers ('.._ren') and one theorem, a field a fact of the dump's own or the kernel's comparison; each contract: ONE APPLICATION.
-/
namespace Go.Proofs
open Go.Shelf
def Try.lays138_ren : Go.Shelf.Ren := ⟨fun | 138 => 68 | 195 => 122 | 218 => 123 | 143 => 124 | 219 => 159 | 217 => 180 | 225 => 178 | 224 => 177 | 267 => 181 | 266 => 186 | 314 => 187 | n => n, fun | 9 => 9 | 3 => 3 | 4 => 4 | 5 => 5 | 0 => 0 | 46 => 168 | 146 => 179 | 51 => 178 | n => n, fun | 1 => 0 | n => n⟩
theorem Try.lays138 : Go.Proofs.Lays.n138 Try.prog Try.lays138_ren := {
  mixed := by kernel_rfl
  f138 := Try.func68.trans (congrArg some (by kernel_rfl))
  f143 := Try.func124.trans (congrArg some (by kernel_rfl))
  f195 := Try.func122.trans (congrArg some (by kernel_rfl))
  f217 := Try.func180.trans (congrArg some (by kernel_rfl))
  f218 := Try.func123.trans (congrArg some (by kernel_rfl))
  f219 := Try.func159.trans (congrArg some (by kernel_rfl))
  f224 := Try.func177.trans (congrArg some (by kernel_rfl))
  f225 := Try.func178.trans (congrArg some (by kernel_rfl))
  f266 := Try.func186.trans (congrArg some (by kernel_rfl))
  f267 := Try.func181.trans (congrArg some (by kernel_rfl))
  f314 := Try.func187.trans (congrArg some (by kernel_rfl))
  t0 := Try.underlying0
  a0 := Try.isAgg0
  z0 := Try.sizeOf0
  v0 := Try.zeroValue0
  t3 := Try.underlying3
  a3 := Try.isAgg3
  z3 := Try.sizeOf3
  v3 := Try.zeroValue3
  t4 := Try.underlying4
  a4 := Try.isAgg4
  z4 := Try.sizeOf4
  v4 := Try.zeroValue4
  t5 := Try.underlying5
  a5 := Try.isAgg5
  z5 := Try.sizeOf5
  v5 := Try.zeroValue5
  t9 := Try.underlying9
  a9 := Try.isAgg9
  z9 := Try.sizeOf9
  v9 := Try.zeroValue9
  t46 := Try.underlying168
  a46 := Try.isAgg168
  z46 := Try.sizeOf168
  v46 := Try.zeroValue168
  t51 := Try.underlying178
  a51 := Try.isAgg178
  z51 := Try.sizeOf178
  v51 := Try.zeroValue178
  t146 := Try.underlying179
  a146 := Try.isAgg179
  z146 := Try.sizeOf179
  v146 := Try.zeroValue179
  g1 := by kernel_rfl }
open Go.RowKit Go.Lib in
/-- strings.Count AT A substr OF TWO BYTES OR MORE: "Count counts the number of non-overlapping instances of substr in s.": IT RETURNS 'Lib.count s substr'; the world is as it was. (LAID: no walk: one application.) -/
theorem Try.strings_Count (s sub : ByteArray) (m : Int) (w : World) (hs : s.size < 4294967281) (hm : w.cell? ⟨0, 0, none⟩ = some (.int .i64 m)) (h2 : 2 ≤ sub.size) :
    Calls Try.prog 68 #[.string s, .string sub] w fun e w' => e = .returned (.int .i64 (Lib.countB s sub)) ∧ w' = w := Any.strings_Count Try.lays138 s sub m w hs hm h2
def Try.laysM143_ren : Go.Shelf.Ren := ⟨fun | 143 => 124 | 219 => 159 | 217 => 180 | 225 => 178 | 224 => 177 | 267 => 181 | 266 => 186 | 314 => 187 | n => n, fun | 9 => 9 | 3 => 3 | 4 => 4 | 5 => 5 | 46 => 168 | 146 => 179 | 51 => 178 | n => n, fun | 1 => 0 | n => n⟩
theorem Try.laysM143 : Go.Proofs.LaysM.n143 Try.prog Try.laysM143_ren := {
  mixed := by kernel_rfl
  f143 := Try.func124.trans (congrArg some (by kernel_rfl))
  f217 := Try.func180.trans (congrArg some (by kernel_rfl))
  f219 := Try.func159.trans (congrArg some (by kernel_rfl))
  f224 := Try.func177.trans (congrArg some (by kernel_rfl))
  f225 := Try.func178.trans (congrArg some (by kernel_rfl))
  f266 := Try.func186.trans (congrArg some (by kernel_rfl))
  f267 := Try.func181.trans (congrArg some (by kernel_rfl))
  f314 := Try.func187.trans (congrArg some (by kernel_rfl))
  t3 := Try.underlying3
  a3 := Try.isAgg3
  z3 := Try.sizeOf3
  v3 := Try.zeroValue3
  t4 := Try.underlying4
  a4 := Try.isAgg4
  z4 := Try.sizeOf4
  v4 := Try.zeroValue4
  t5 := Try.underlying5
  a5 := Try.isAgg5
  z5 := Try.sizeOf5
  v5 := Try.zeroValue5
  t9 := Try.underlying9
  a9 := Try.isAgg9
  z9 := Try.sizeOf9
  v9 := Try.zeroValue9
  t46 := Try.underlying168
  a46 := Try.isAgg168
  z46 := Try.sizeOf168
  v46 := Try.zeroValue168
  t51 := Try.underlying178
  a51 := Try.isAgg178
  z51 := Try.sizeOf178
  v51 := Try.zeroValue178
  t146 := Try.underlying179
  a146 := Try.isAgg179
  z146 := Try.sizeOf179
  v146 := Try.zeroValue179
  g1 := by kernel_rfl
  i3 := by kernel_rfl
  i4 := by kernel_rfl
  i5 := by kernel_rfl
  i9 := by kernel_rfl
  i46 := by kernel_rfl
  i51 := by kernel_rfl
  i146 := by kernel_rfl
  m1 := by kernel_rfl
  s1_3 := fun w h => Go.Proofs.cell_of_shapedOpen_int (zero := #[.int .i64 0]) (t := 3) h (of_decide_eq_true (by kernel_rfl)) (by kernel_rfl) rfl (by kernel_rfl) (by kernel_rfl) Try.underlying3 }
end Go.Proofs

namespace Go.Vc
open Go.Proofs
set_option linter.unusedVariables false
set_option maxRecDepth 10000
set_option linter.unusedSimpArgs false
set_option maxHeartbeats 4000000
instance ePutA (q : Bool) (x y : List UInt8) : FnM BB 120 [.loc 0 0, .str x, .str y] [(0, wrB nilP .nils q)] (y ≠ [] ∧ x.length ≤ 1000000 ∧ y.length ≤ 1000000) (.tup []) [(0, wrB (.loc 0 0) (.own 1) q), (1, .own .byte (x ++ y))] := by
  refine FnM.intro (N := 16) [0, 1, 2] [] 1 Try.call120 Try.func120 rfl rfl (by kernel_rfl) (fun hpre => ?_)
  obtain ⟨hp1, hp2, hp3⟩ := hpre
  by_cases hx : x = []
  · subst hx
    haveI := eWSn q nilP (.inl rfl)
    repeat' ((conv => whnf); first | (with_reducible rfl) | exact True.intro | (with_reducible exact absTF) | (with_reducible exact absFT) | intro _ | refine And.intro ?_ ?_ | refine Fin.mk ?_ | refine CallG.plain rfl ?_ ?_ | refine CallG.mk rfl ?_ ?_ | refine CallG.nwl rfl ?_ ?_ | refine CallG.nw ?_ ?_ | refine CallF.nwl rfl ?_ ?_ | refine CallF.nw ?_ ?_ | refine AppN.mk ?_ | (refine CallS.q ?_; (conv => whnf); first | refine CallG.plain rfl ?_ ?_ | refine CallG.mk rfl ?_ ?_) | (refine CallS.m ?_; (conv => whnf); refine CallM.mk rfl ?_ ?_) | (refine CallS.h ?_; (conv => whnf); refine CallM.mk rfl ?_ ?_) | (refine CallS.b ?_; (conv => whnf); refine CallM.mk rfl ?_ ?_) | (refine CallS.z ?_; (conv => whnf); refine CallM.mk rfl ?_ ?_))
    all_goals (try (conv => whnf))
    all_goals (try (exact Ob.mk (u8_bnd _)))
    all_goals (try (refine Ob.mk ?_; first | exact True.intro | assumption | omega | (try simp only [decide_eq_true_eq, decide_eq_false_iff_not, beq_iff_eq, beq_eq_false_iff_ne, bne_iff_ne, bne_eq_false_iff_eq, ne_eq, Bool.and_eq_true, Bool.or_eq_true, Bool.not_eq_true, Bool.not_eq_false, Bool.not_eq_true', Bool.not_eq_false', Int.toNat_natCast, Int.not_lt, Int.not_le, UInt8.ofNat_toNat, cast_eq] at *; omega)))
    all_goals (try ((show (_:Int) = _); omega))
    all_goals (try (show tupSV _ = _; with_unfolding_all rfl))
    all_goals (try ((show (_ : Nat) ≤ _); (simp <;> omega)))
    all_goals (try ((show (_ : Nat) ≤ _ ∧ (_ : Nat) ≤ _); (simp <;> omega)))
    all_goals (try ((show (_ : Int) ≤ _ ∧ (_ : Int) ≤ _ ∧ (_ : Int) ≤ _ ∧ (_ : Int) ≤ _); (simp <;> omega)))
    all_goals (first | exact ⟨hp1, hp3⟩ | rfl | skip)
  · repeat' ((conv => whnf); first | (with_reducible rfl) | exact True.intro | (with_reducible exact absTF) | (with_reducible exact absFT) | intro _ | refine And.intro ?_ ?_ | refine Fin.mk ?_ | refine CallG.plain rfl ?_ ?_ | refine CallG.mk rfl ?_ ?_ | refine CallG.nwl rfl ?_ ?_ | refine CallG.nw ?_ ?_ | refine CallF.nwl rfl ?_ ?_ | refine CallF.nw ?_ ?_ | refine AppN.mk ?_ | (refine CallS.q ?_; (conv => whnf); first | refine CallG.plain rfl ?_ ?_ | refine CallG.mk rfl ?_ ?_) | (refine CallS.m ?_; (conv => whnf); refine CallM.mk rfl ?_ ?_) | (refine CallS.h ?_; (conv => whnf); refine CallM.mk rfl ?_ ?_) | (refine CallS.b ?_; (conv => whnf); refine CallM.mk rfl ?_ ?_) | (refine CallS.z ?_; (conv => whnf); refine CallM.mk rfl ?_ ?_))
    all_goals (try (conv => whnf))
    all_goals (try (exact Ob.mk (u8_bnd _)))
    all_goals (try (refine Ob.mk ?_; first | exact True.intro | assumption | omega | (try simp only [decide_eq_true_eq, decide_eq_false_iff_not, beq_iff_eq, beq_eq_false_iff_ne, bne_iff_ne, bne_eq_false_iff_eq, ne_eq, Bool.and_eq_true, Bool.or_eq_true, Bool.not_eq_true, Bool.not_eq_false, Bool.not_eq_true', Bool.not_eq_false', Int.toNat_natCast, Int.not_lt, Int.not_le, UInt8.ofNat_toNat, cast_eq] at *; omega)))
    all_goals (try ((show (_:Int) = _); omega))
    all_goals (try (show tupSV _ = _; with_unfolding_all rfl))
    all_goals (try ((show (_ : Nat) ≤ _); (simp <;> omega)))
    all_goals (try ((show (_ : Nat) ≤ _ ∧ (_ : Nat) ≤ _); (simp <;> omega)))
    all_goals (try ((show (_ : Int) ≤ _ ∧ (_ : Int) ≤ _ ∧ (_ : Int) ≤ _ ∧ (_ : Int) ≤ _); (simp <;> omega)))
    all_goals (first | exact ⟨hx, hp2⟩ | exact ⟨hp2, hp3⟩ | skip)
instance ePutB (q : Bool) (x : List UInt8) : FnM BB 120 [.loc 0 0, .str x, .str []] [(0, wrB nilP .nils q)] (x ≠ [] ∧ x.length ≤ 1000000) (.tup []) [(0, wrB (.loc 0 0) (.own 1) q), (1, .own .byte x)] := by
  refine FnM.intro (N := 16) [0, 1, 2] [] 1 Try.call120 Try.func120 rfl rfl (by kernel_rfl) (fun hpre => ?_)
  obtain ⟨hp1, hp2⟩ := hpre
  repeat' ((conv => whnf); first | (with_reducible rfl) | exact True.intro | (with_reducible exact absTF) | (with_reducible exact absFT) | intro _ | refine And.intro ?_ ?_ | refine Fin.mk ?_ | refine CallG.plain rfl ?_ ?_ | refine CallG.mk rfl ?_ ?_ | refine CallG.nwl rfl ?_ ?_ | refine CallG.nw ?_ ?_ | refine CallF.nwl rfl ?_ ?_ | refine CallF.nw ?_ ?_ | refine AppN.mk ?_ | (refine CallS.q ?_; (conv => whnf); first | refine CallG.plain rfl ?_ ?_ | refine CallG.mk rfl ?_ ?_) | (refine CallS.m ?_; (conv => whnf); refine CallM.mk rfl ?_ ?_) | (refine CallS.h ?_; (conv => whnf); refine CallM.mk rfl ?_ ?_) | (refine CallS.b ?_; (conv => whnf); refine CallM.mk rfl ?_ ?_) | (refine CallS.z ?_; (conv => whnf); refine CallM.mk rfl ?_ ?_))
  all_goals (try (conv => whnf))
  all_goals (try (exact Ob.mk (u8_bnd _)))
  all_goals (try (refine Ob.mk ?_; first | exact True.intro | assumption | omega | (try simp only [decide_eq_true_eq, decide_eq_false_iff_not, beq_iff_eq, beq_eq_false_iff_ne, bne_iff_ne, bne_eq_false_iff_eq, ne_eq, Bool.and_eq_true, Bool.or_eq_true, Bool.not_eq_true, Bool.not_eq_false, Bool.not_eq_true', Bool.not_eq_false', Int.toNat_natCast, Int.not_lt, Int.not_le, UInt8.ofNat_toNat, cast_eq] at *; omega)))
  all_goals (try ((show (_:Int) = _); omega))
  all_goals (try (show tupSV _ = _; with_unfolding_all rfl))
  all_goals (try ((show (_ : Nat) ≤ _); (simp <;> omega)))
  all_goals (try ((show (_ : Nat) ≤ _ ∧ (_ : Nat) ≤ _); (simp <;> omega)))
  all_goals (try ((show (_ : Int) ≤ _ ∧ (_ : Int) ≤ _ ∧ (_ : Int) ≤ _ ∧ (_ : Int) ≤ _); (simp <;> omega)))
  all_goals (first | exact ⟨hp1, hp2⟩ | simp | skip)
instance ePutC (q : Bool) (x y l : List UInt8) : FnM BB 120 [.loc 0 0, .str x, .str y] [(0, wrB (.loc 0 0) (.own 1) q), (1, .own .byte l)] (l.length + x.length ≤ 1000000 ∧ y.length ≤ 1000000) (.tup []) [(0, wrB (.loc 0 0) (.own 1) q), (1, .own .byte (l ++ x ++ y))] := by
  refine FnM.intro (N := 16) [0, 1, 2] [] 2 Try.call120 Try.func120 rfl rfl (by kernel_rfl) (fun hpre => ?_)
  obtain ⟨hp1, hp2⟩ := hpre
  repeat' ((conv => whnf); first | (with_reducible rfl) | exact True.intro | (with_reducible exact absTF) | (with_reducible exact absFT) | intro _ | refine And.intro ?_ ?_ | refine Fin.mk ?_ | refine CallG.plain rfl ?_ ?_ | refine CallG.mk rfl ?_ ?_ | refine CallG.nwl rfl ?_ ?_ | refine CallG.nw ?_ ?_ | refine CallF.nwl rfl ?_ ?_ | refine CallF.nw ?_ ?_ | refine AppN.mk ?_ | (refine CallS.q ?_; (conv => whnf); first | refine CallG.plain rfl ?_ ?_ | refine CallG.mk rfl ?_ ?_) | (refine CallS.m ?_; (conv => whnf); refine CallM.mk rfl ?_ ?_) | (refine CallS.h ?_; (conv => whnf); refine CallM.mk rfl ?_ ?_) | (refine CallS.b ?_; (conv => whnf); refine CallM.mk rfl ?_ ?_) | (refine CallS.z ?_; (conv => whnf); refine CallM.mk rfl ?_ ?_))
  all_goals (try (conv => whnf))
  all_goals (try (exact Ob.mk (u8_bnd _)))
  all_goals (try (refine Ob.mk ?_; first | exact True.intro | assumption | omega | (try simp only [decide_eq_true_eq, decide_eq_false_iff_not, beq_iff_eq, beq_eq_false_iff_ne, bne_iff_ne, bne_eq_false_iff_eq, ne_eq, Bool.and_eq_true, Bool.or_eq_true, Bool.not_eq_true, Bool.not_eq_false, Bool.not_eq_true', Bool.not_eq_false', Int.toNat_natCast, Int.not_lt, Int.not_le, UInt8.ofNat_toNat, cast_eq] at *; omega)))
  all_goals (try ((show (_:Int) = _); omega))
  all_goals (try (show tupSV _ = _; with_unfolding_all rfl))
  all_goals (try ((show (_ : Nat) ≤ _); (simp <;> omega)))
  all_goals (try ((show (_ : Nat) ≤ _ ∧ (_ : Nat) ≤ _); (simp <;> omega)))
  all_goals (try ((show (_ : Int) ≤ _ ∧ (_ : Int) ≤ _ ∧ (_ : Int) ≤ _ ∧ (_ : Int) ≤ _); (simp <;> omega)))
  all_goals (try (constructor <;> (try simp) <;> omega))
theorem ePutN (q : Bool) : FnM BB 120 [.loc 0 0, .str [], .str []] [(0, wrB nilP .nils q)] True (.tup []) [(0, wrB (.loc 0 0) .nils q)] := by
  refine FnM.intro (N := 16) [0, 1, 2] [] 1 Try.call120 Try.func120 rfl rfl (by kernel_rfl) (fun hpre => ?_)
  haveI := eWSn q nilP (.inl rfl)
  haveI := eWSn q (.loc 0 0) (.inr rfl)
  repeat' ((conv => whnf); first | (with_reducible rfl) | exact True.intro | (with_reducible exact absTF) | (with_reducible exact absFT) | intro _ | refine And.intro ?_ ?_ | refine Fin.mk ?_ | refine CallG.plain rfl ?_ ?_ | refine CallG.mk rfl ?_ ?_ | refine CallG.nwl rfl ?_ ?_ | refine CallG.nw ?_ ?_ | refine CallF.nwl rfl ?_ ?_ | refine CallF.nw ?_ ?_ | refine AppN.mk ?_ | (refine CallS.q ?_; (conv => whnf); first | refine CallG.plain rfl ?_ ?_ | refine CallG.mk rfl ?_ ?_) | (refine CallS.m ?_; (conv => whnf); refine CallM.mk rfl ?_ ?_) | (refine CallS.h ?_; (conv => whnf); refine CallM.mk rfl ?_ ?_) | (refine CallS.b ?_; (conv => whnf); refine CallM.mk rfl ?_ ?_) | (refine CallS.z ?_; (conv => whnf); refine CallM.mk rfl ?_ ?_))
  all_goals (try (conv => whnf))
  all_goals (try (exact Ob.mk (u8_bnd _)))
  all_goals (try (refine Ob.mk ?_; first | exact True.intro | assumption | omega | (try simp only [decide_eq_true_eq, decide_eq_false_iff_not, beq_iff_eq, beq_eq_false_iff_ne, bne_iff_ne, bne_eq_false_iff_eq, ne_eq, Bool.and_eq_true, Bool.or_eq_true, Bool.not_eq_true, Bool.not_eq_false, Bool.not_eq_true', Bool.not_eq_false', Int.toNat_natCast, Int.not_lt, Int.not_le, UInt8.ofNat_toNat, cast_eq] at *; omega)))
  all_goals (try ((show (_:Int) = _); omega))
  all_goals (try (show tupSV _ = _; with_unfolding_all rfl))
  all_goals (try ((show (_ : Nat) ≤ _); (simp <;> omega)))
  all_goals (try ((show (_ : Nat) ≤ _ ∧ (_ : Nat) ≤ _); (simp <;> omega)))
  all_goals (try ((show (_ : Int) ≤ _ ∧ (_ : Int) ≤ _ ∧ (_ : Int) ≤ _ ∧ (_ : Int) ≤ _); (simp <;> omega)))
instance eStr (q : Bool) (l : List UInt8) : FnM BB 121 [.loc 0 0] [(0, wrB (.loc 0 0) (.own 1) q), (1, .own .byte l)] (l ≠ []) (.str l) [(0, wrB (.loc 0 0) .und q)] := by
  refine FnM.intro (N := 14) [0, 2] [(1, [0, 0, 0, 4, 4, 0, 0, 0, 4, 4, 4, 4])] 2 Try.call121 Try.func121 rfl rfl (by kernel_rfl) (fun hpre => ?_)
  repeat' ((conv => whnf); first | (with_reducible rfl) | exact True.intro | (with_reducible exact absTF) | (with_reducible exact absFT) | intro _ | refine And.intro ?_ ?_ | refine Fin.mk ?_ | refine CallG.plain rfl ?_ ?_ | refine CallG.mk rfl ?_ ?_ | refine CallG.nwl rfl ?_ ?_ | refine CallG.nw ?_ ?_ | refine CallF.nwl rfl ?_ ?_ | refine CallF.nw ?_ ?_ | refine AppN.mk ?_ | (refine CallS.q ?_; (conv => whnf); first | refine CallG.plain rfl ?_ ?_ | refine CallG.mk rfl ?_ ?_) | (refine CallS.m ?_; (conv => whnf); refine CallM.mk rfl ?_ ?_) | (refine CallS.h ?_; (conv => whnf); refine CallM.mk rfl ?_ ?_) | (refine CallS.b ?_; (conv => whnf); refine CallM.mk rfl ?_ ?_) | (refine CallS.z ?_; (conv => whnf); refine CallM.mk rfl ?_ ?_))
  all_goals (try (conv => whnf))
  all_goals (try (exact Ob.mk (u8_bnd _)))
  all_goals (try (refine Ob.mk ?_; first | exact True.intro | assumption | omega | (try simp only [decide_eq_true_eq, decide_eq_false_iff_not, beq_iff_eq, beq_eq_false_iff_ne, bne_iff_ne, bne_eq_false_iff_eq, ne_eq, Bool.and_eq_true, Bool.or_eq_true, Bool.not_eq_true, Bool.not_eq_false, Bool.not_eq_true', Bool.not_eq_false', Int.toNat_natCast, Int.not_lt, Int.not_le, UInt8.ofNat_toNat, cast_eq] at *; omega)))
  all_goals (try ((show (_:Int) = _); omega))
  all_goals (try (show tupSV _ = _; with_unfolding_all rfl))
  all_goals (try ((show (_ : Nat) ≤ _); (simp <;> omega)))
  all_goals (try ((show (_ : Nat) ≤ _ ∧ (_ : Nat) ≤ _); (simp <;> omega)))
  all_goals (try ((show (_ : Int) ≤ _ ∧ (_ : Int) ≤ _ ∧ (_ : Int) ≤ _ ∧ (_ : Int) ≤ _); (simp <;> omega)))
  all_goals (exact ⟨rfl, hpre⟩)
instance eStrN (q : Bool) : FnM BB 121 [.loc 0 0] [(0, wrB (.loc 0 0) .nils q)] True (.str []) [(0, wrB (.loc 0 0) .nils q)] := by
  refine FnM.intro (N := 14) [0, 2] [(1, [0, 0, 0, 4, 4, 0, 0, 0, 4, 4, 4, 4])] 2 Try.call121 Try.func121 rfl rfl (by kernel_rfl) (fun hpre => ?_)
  repeat' ((conv => whnf); first | (with_reducible rfl) | exact True.intro | (with_reducible exact absTF) | (with_reducible exact absFT) | intro _ | refine And.intro ?_ ?_ | refine Fin.mk ?_ | refine CallG.plain rfl ?_ ?_ | refine CallG.mk rfl ?_ ?_ | refine CallG.nwl rfl ?_ ?_ | refine CallG.nw ?_ ?_ | refine CallF.nwl rfl ?_ ?_ | refine CallF.nw ?_ ?_ | refine AppN.mk ?_ | (refine CallS.q ?_; (conv => whnf); first | refine CallG.plain rfl ?_ ?_ | refine CallG.mk rfl ?_ ?_) | (refine CallS.m ?_; (conv => whnf); refine CallM.mk rfl ?_ ?_) | (refine CallS.h ?_; (conv => whnf); refine CallM.mk rfl ?_ ?_) | (refine CallS.b ?_; (conv => whnf); refine CallM.mk rfl ?_ ?_) | (refine CallS.z ?_; (conv => whnf); refine CallM.mk rfl ?_ ?_))
  all_goals (try (conv => whnf))
  all_goals (try (exact Ob.mk (u8_bnd _)))
  all_goals (try (refine Ob.mk ?_; first | exact True.intro | assumption | omega | (try simp only [decide_eq_true_eq, decide_eq_false_iff_not, beq_iff_eq, beq_eq_false_iff_ne, bne_iff_ne, bne_eq_false_iff_eq, ne_eq, Bool.and_eq_true, Bool.or_eq_true, Bool.not_eq_true, Bool.not_eq_false, Bool.not_eq_true', Bool.not_eq_false', Int.toNat_natCast, Int.not_lt, Int.not_le, UInt8.ofNat_toNat, cast_eq] at *; omega)))
  all_goals (try ((show (_:Int) = _); omega))
  all_goals (try (show tupSV _ = _; with_unfolding_all rfl))
  all_goals (try ((show (_ : Nat) ≤ _); (simp <;> omega)))
  all_goals (try ((show (_ : Nat) ≤ _ ∧ (_ : Nat) ≤ _); (simp <;> omega)))
  all_goals (try ((show (_ : Int) ≤ _ ∧ (_ : Int) ≤ _ ∧ (_ : Int) ≤ _ ∧ (_ : Int) ≤ _); (simp <;> omega)))
end Go.Vc

namespace Go.Vc
open Go.Proofs
set_option linter.unusedVariables false
set_option maxRecDepth 10000
set_option linter.unusedSimpArgs false
set_option maxHeartbeats 4000000
def hasP (s p : List UInt8) : Bool := decide ((s.length : Int) ≥ (p.length : Int)) && s.take p.length == p
instance eHPl (s p : List UInt8) : Fn BB 157 [.str s, .str p] True (.bool (hasP s p)) := by
  refine Fn.intro (N := 18) [0, 1, 4] [] Try.call157 Try.func157 rfl rfl (by kernel_rfl) (fun hpre => ?_)
  repeat' ((conv => whnf); first | (with_reducible rfl) | exact True.intro | (with_reducible exact absTF) | (with_reducible exact absFT) | intro _ | refine And.intro ?_ ?_ | refine Fin.mk ?_ | refine CallG.plain rfl ?_ ?_ | refine CallG.mk rfl ?_ ?_ | refine CallG.nwl rfl ?_ ?_ | refine CallG.nw ?_ ?_ | refine CallF.nwl rfl ?_ ?_ | refine CallF.nw ?_ ?_ | refine AppN.mk ?_ | (refine CallS.q ?_; (conv => whnf); first | refine CallG.plain rfl ?_ ?_ | refine CallG.mk rfl ?_ ?_) | (refine CallS.m ?_; (conv => whnf); refine CallM.mk rfl ?_ ?_) | (refine CallS.h ?_; (conv => whnf); refine CallM.mk rfl ?_ ?_) | (refine CallS.b ?_; (conv => whnf); refine CallM.mk rfl ?_ ?_) | (refine CallS.z ?_; (conv => whnf); refine CallM.mk rfl ?_ ?_))
  all_goals (try (conv => whnf))
  all_goals (try (exact Ob.mk (u8_bnd _)))
  all_goals (try (refine Ob.mk ?_; first | exact True.intro | assumption | omega | (try simp only [decide_eq_true_eq, decide_eq_false_iff_not, beq_iff_eq, beq_eq_false_iff_ne, bne_iff_ne, bne_eq_false_iff_eq, ne_eq, Bool.and_eq_true, Bool.or_eq_true, Bool.not_eq_true, Bool.not_eq_false, Bool.not_eq_true', Bool.not_eq_false', Int.toNat_natCast, Int.not_lt, Int.not_le, UInt8.ofNat_toNat, cast_eq] at *; omega)))
  all_goals (try ((show (_:Int) = _); omega))
  all_goals (try (show tupSV _ = _; with_unfolding_all rfl))
  all_goals (try ((show (_ : Nat) ≤ _); (simp <;> omega)))
  all_goals (try ((show (_ : Nat) ≤ _ ∧ (_ : Nat) ≤ _); (simp <;> omega)))
  all_goals (try ((show (_ : Int) ≤ _ ∧ (_ : Int) ≤ _ ∧ (_ : Int) ≤ _ ∧ (_ : Int) ≤ _); (simp <;> omega)))
  all_goals (try simp only [decide_eq_true_eq, decide_eq_false_iff_not, beq_iff_eq, beq_eq_false_iff_ne, bne_iff_ne, bne_eq_false_iff_eq, ne_eq, Bool.and_eq_true, Bool.or_eq_true, Bool.not_eq_true, Bool.not_eq_false, Bool.not_eq_true', Bool.not_eq_false', Int.toNat_natCast, Int.not_lt, Int.not_le, UInt8.ofNat_toNat, cast_eq] at *)
  all_goals rfl
instance eHP (s p : List UInt8) : Fn BB 119 [.str s, .str p] True (.bool (hasP s p)) := by
  refine Fn.intro (N := 8) [0, 1, 4] [] Try.call119 Try.func119 rfl rfl (by kernel_rfl) (fun hpre => ?_)
  repeat' ((conv => whnf); first | (with_reducible rfl) | exact True.intro | (with_reducible exact absTF) | (with_reducible exact absFT) | intro _ | refine And.intro ?_ ?_ | refine Fin.mk ?_ | refine CallG.plain rfl ?_ ?_ | refine CallG.mk rfl ?_ ?_ | refine CallG.nwl rfl ?_ ?_ | refine CallG.nw ?_ ?_ | refine CallF.nwl rfl ?_ ?_ | refine CallF.nw ?_ ?_ | refine AppN.mk ?_ | (refine CallS.q ?_; (conv => whnf); first | refine CallG.plain rfl ?_ ?_ | refine CallG.mk rfl ?_ ?_) | (refine CallS.m ?_; (conv => whnf); refine CallM.mk rfl ?_ ?_) | (refine CallS.h ?_; (conv => whnf); refine CallM.mk rfl ?_ ?_) | (refine CallS.b ?_; (conv => whnf); refine CallM.mk rfl ?_ ?_) | (refine CallS.z ?_; (conv => whnf); refine CallM.mk rfl ?_ ?_))
  all_goals (try (conv => whnf))
  all_goals (try (exact Ob.mk (u8_bnd _)))
  all_goals (try (refine Ob.mk ?_; first | exact True.intro | assumption | omega | (try simp only [decide_eq_true_eq, decide_eq_false_iff_not, beq_iff_eq, beq_eq_false_iff_ne, bne_iff_ne, bne_eq_false_iff_eq, ne_eq, Bool.and_eq_true, Bool.or_eq_true, Bool.not_eq_true, Bool.not_eq_false, Bool.not_eq_true', Bool.not_eq_false', Int.toNat_natCast, Int.not_lt, Int.not_le, UInt8.ofNat_toNat, cast_eq] at *; omega)))
  all_goals (try ((show (_:Int) = _); omega))
  all_goals (try (show tupSV _ = _; with_unfolding_all rfl))
  all_goals (try ((show (_ : Nat) ≤ _); (simp <;> omega)))
  all_goals (try ((show (_ : Nat) ≤ _ ∧ (_ : Nat) ≤ _); (simp <;> omega)))
  all_goals (try ((show (_ : Int) ≤ _ ∧ (_ : Int) ≤ _ ∧ (_ : Int) ≤ _ ∧ (_ : Int) ≤ _); (simp <;> omega)))
theorem hasP_nb (s : List UInt8) (i : Nat) (h : i < s.length) (h0 : s.getD i 0 = 194) : hasP (s.drop i) [194, 160] = decide (i + 1 < s.length ∧ s.getD (i + 1) 0 = 160) := by
  unfold hasP
  rw [drop_cons' s i h, h0]
  by_cases h1 : i + 1 < s.length
  · rw [drop_cons' s (i + 1) h1]
    generalize s.getD (i + 1) 0 = x
    generalize s.drop (i + 1 + 1) = r
    have : decide (((194 :: x :: r).length : Int) ≥ (([194, 160] : List UInt8).length : Int)) = true := by simp; omega
    rw [this]
    simp [h1]
    rw [Bool.eq_iff_iff]; simp
  · have : s.drop (i + 1) = [] := List.drop_eq_nil_of_le (by omega)
    rw [this]; simp [h1]
theorem u8b (c : UInt8) (k : Nat) (hk : k < 256) : ((c.toNat : Int) == (k : Int)) = (c == UInt8.ofNat k) := by
  rw [Bool.eq_iff_iff, beq_iff_eq, beq_iff_eq]
  constructor
  · intro h; apply UInt8.toNat_inj.1; rw [UInt8.toNat_ofNat']; omega
  · rintro rfl; rw [UInt8.toNat_ofNat']; omega
theorem u8e (c : UInt8) (k : Nat) (hk : k < 256) (h : ((c.toNat : Int) == (k : Int)) = true) : c = UInt8.ofNat k := by
  rw [u8b c k hk] at h; exact beq_iff_eq.1 h
theorem u8n (c : UInt8) (k : Nat) (hk : k < 256) (h : ((c.toNat : Int) == (k : Int)) = false) : (c == UInt8.ofNat k) = false := by
  rw [u8b c k hk] at h; exact h
theorem esc_step (q : Bool) (s out : List UInt8) (i : Nat) (h : i < s.length) (hq : out ++ escL q (s.drop i) = escL q s) (hn : ¬ (s.getD i 0 = 194 ∧ i + 1 < s.length ∧ s.getD (i + 1) 0 = 160)) :
    (out ++ oneB q (s.getD i 0)) ++ escL q (s.drop (i + 1)) = escL q s := by
  rw [escL_at q s i h, if_neg hn] at hq
  rw [← hq, List.append_assoc]
theorem esc_step2 (q : Bool) (s out : List UInt8) (i : Nat) (h : i < s.length) (hq : out ++ escL q (s.drop i) = escL q s) (hn : s.getD i 0 = 194 ∧ i + 1 < s.length ∧ s.getD (i + 1) 0 = 160) :
    (out ++ nbsp) ++ escL q (s.drop (i + 2)) = escL q s := by
  rw [escL_at q s i h, if_pos hn] at hq
  rw [← hq, List.append_assoc]
theorem esc_bnd {q : Bool} {s out : List UInt8} {i : Nat} (hq : out ++ escL q (s.drop i) = escL q s) (hs : s.length ≤ 100000) : out.length ≤ 600000 := by
  have h1 := congrArg List.length hq
  have h2 := escL_len q s
  simp at h1
  omega
theorem k38 (c : UInt8) : ((c.toNat : Int) == 38) = (c == 38) := u8b c 38 (by decide)
theorem k60 (c : UInt8) : ((c.toNat : Int) == 60) = (c == 60) := u8b c 60 (by decide)
theorem k62 (c : UInt8) : ((c.toNat : Int) == 62) = (c == 62) := u8b c 62 (by decide)
theorem k34 (c : UInt8) : ((c.toNat : Int) == 34) = (c == 34) := u8b c 34 (by decide)
theorem k194 (c : UInt8) : ((c.toNat : Int) == 194) = (c == 194) := u8b c 194 (by decide)
theorem k160 (c : UInt8) : ((c.toNat : Int) == 160) = (c == 160) := u8b c 160 (by decide)
theorem one38 {q : Bool} {c : UInt8} (h : (c == 38) = true) : oneB q c = [38, 97, 109, 112, 59] := by unfold oneB refB; rw [h]; rfl
theorem one60 {q : Bool} {c : UInt8} (h : (c == 60) = true) : oneB q c = [38, 108, 116, 59] := by obtain rfl := beq_iff_eq.1 h; rfl
theorem one62 {q : Bool} {c : UInt8} (h : (c == 62) = true) : oneB q c = [38, 103, 116, 59] := by obtain rfl := beq_iff_eq.1 h; rfl
theorem one34 {q : Bool} {c : UInt8} (h : (c == 34) = true) (hq : q = true) : oneB q c = [38, 113, 117, 111, 116, 59] := by obtain rfl := beq_iff_eq.1 h; subst hq; rfl
theorem oneN {q : Bool} {c : UInt8} (h1 : (c == 38) = false) (h2 : (c == 60) = false) (h3 : (c == 62) = false) (h4 : (c == 34 && q) = false) : oneB q c = [c] := by unfold oneB refB; rw [h1, h2, h3, h4]; rfl
theorem ne194 {c : UInt8} {P : Prop} (h : (c == 194) = false) : ¬ (c = 194 ∧ P) := by rintro ⟨rfl, _⟩; cases h
instance eRWrite (q : Bool) (s : List UInt8) : Fn BB 67 [.str s, .bool q] (s.length ≤ 100000) (.str (escL q s)) := by
  refine Fn.intro (N := 70) [0, 1, 4, 5, 6, 10, 16, 22, 28, 37, 57] [] Try.call67 Try.func67 rfl rfl (by kernel_rfl) (fun hpre => ?_)
  repeat' ((conv => whnf); first | (with_reducible rfl) | exact True.intro | (with_reducible exact absTF) | (with_reducible exact absFT) | intro _ | refine And.intro ?_ ?_ | refine Fin.mk ?_ | refine CallG.plain rfl ?_ ?_ | refine CallG.mk rfl ?_ ?_ | refine CallG.nwl rfl ?_ ?_ | refine CallG.nw ?_ ?_ | refine CallF.nwl rfl ?_ ?_ | refine CallF.nw ?_ ?_ | refine AppN.mk ?_ | (refine CallS.q ?_; (conv => whnf); first | refine CallG.plain rfl ?_ ?_ | refine CallG.mk rfl ?_ ?_) | (refine CallS.m ?_; (conv => whnf); refine CallM.mk rfl ?_ ?_) | (refine CallS.h ?_; (conv => whnf); refine CallM.mk rfl ?_ ?_) | (refine CallS.b ?_; (conv => whnf); refine CallM.mk rfl ?_ ?_) | (refine CallS.z ?_; (conv => whnf); refine CallM.mk rfl ?_ ?_))
  all_goals (try (conv => whnf))
  all_goals (try (exact Ob.mk (u8_bnd _)))
  all_goals (try (refine Ob.mk ?_; first | exact True.intro | assumption | omega | (try simp only [decide_eq_true_eq, decide_eq_false_iff_not, beq_iff_eq, beq_eq_false_iff_ne, bne_iff_ne, bne_eq_false_iff_eq, ne_eq, Bool.and_eq_true, Bool.or_eq_true, Bool.not_eq_true, Bool.not_eq_false, Bool.not_eq_true', Bool.not_eq_false', Int.toNat_natCast, Int.not_lt, Int.not_le, UInt8.ofNat_toNat, cast_eq] at *; omega)))
  all_goals (try ((show (_:Int) = _); omega))
  all_goals (try (show tupSV _ = _; with_unfolding_all rfl))
  all_goals (try ((show (_ : Nat) ≤ _); (simp <;> omega)))
  all_goals (try ((show (_ : Nat) ≤ _ ∧ (_ : Nat) ≤ _); (simp <;> omega)))
  all_goals (try ((show (_ : Int) ≤ _ ∧ (_ : Int) ≤ _ ∧ (_ : Int) ≤ _ ∧ (_ : Int) ≤ _); (simp <;> omega)))
  refine LoopStop.mk (α := Nat × List UInt8) (fun a => [(6, .int .i64 a.1), (5, .str a.2)]) (fun i => []) 0 (fun a => a.1 ≤ s.length ∧ a.2 ++ escL q (s.drop a.1) = escL q s) (fun a => s.length + 1 - a.1) (0, []) ⟨by simp, by simp⟩ ?_ (fun a ha => ?_)
  · repeat' ((conv => whnf); first | (with_reducible rfl) | exact True.intro | (with_reducible exact absTF) | (with_reducible exact absFT) | intro _ | refine And.intro ?_ ?_ | refine Fin.mk ?_ | refine CallG.plain rfl ?_ ?_ | refine CallG.mk rfl ?_ ?_ | refine CallG.nwl rfl ?_ ?_ | refine CallG.nw ?_ ?_ | refine CallF.nwl rfl ?_ ?_ | refine CallF.nw ?_ ?_ | refine AppN.mk ?_ | (refine CallS.q ?_; (conv => whnf); first | refine CallG.plain rfl ?_ ?_ | refine CallG.mk rfl ?_ ?_) | (refine CallS.m ?_; (conv => whnf); refine CallM.mk rfl ?_ ?_) | (refine CallS.h ?_; (conv => whnf); refine CallM.mk rfl ?_ ?_) | (refine CallS.b ?_; (conv => whnf); refine CallM.mk rfl ?_ ?_) | (refine CallS.z ?_; (conv => whnf); refine CallM.mk rfl ?_ ?_))
    all_goals (try (conv => whnf))
    all_goals (try (exact Ob.mk (u8_bnd _)))
    all_goals (try (refine Ob.mk ?_; first | exact True.intro | assumption | omega | (try simp only [decide_eq_true_eq, decide_eq_false_iff_not, beq_iff_eq, beq_eq_false_iff_ne, bne_iff_ne, bne_eq_false_iff_eq, ne_eq, Bool.and_eq_true, Bool.or_eq_true, Bool.not_eq_true, Bool.not_eq_false, Bool.not_eq_true', Bool.not_eq_false', Int.toNat_natCast, Int.not_lt, Int.not_le, UInt8.ofNat_toNat, cast_eq] at *; omega)))
    all_goals (try ((show (_:Int) = _); omega))
    all_goals (try (show tupSV _ = _; with_unfolding_all rfl))
    all_goals (try ((show (_ : Nat) ≤ _); (simp <;> omega)))
    all_goals (try ((show (_ : Nat) ≤ _ ∧ (_ : Nat) ≤ _); (simp <;> omega)))
    all_goals (try ((show (_ : Int) ≤ _ ∧ (_ : Int) ≤ _ ∧ (_ : Int) ≤ _ ∧ (_ : Int) ≤ _); (simp <;> omega)))
  · obtain ⟨i, out⟩ := a
    obtain ⟨hi, hq⟩ := ha
    have hb := esc_bnd hq hpre
    simp only at hi hq hb
    repeat' ((conv => whnf); first | (with_reducible rfl) | exact True.intro | (with_reducible exact absTF) | (with_reducible exact absFT) | intro _ | refine And.intro ?_ ?_ | refine Fin.mk ?_ | refine CallG.plain rfl ?_ ?_ | refine CallG.mk rfl ?_ ?_ | refine CallG.nwl rfl ?_ ?_ | refine CallG.nw ?_ ?_ | refine CallF.nwl rfl ?_ ?_ | refine CallF.nw ?_ ?_ | refine AppN.mk ?_ | (refine CallS.q ?_; (conv => whnf); first | refine CallG.plain rfl ?_ ?_ | refine CallG.mk rfl ?_ ?_) | (refine CallS.m ?_; (conv => whnf); refine CallM.mk rfl ?_ ?_) | (refine CallS.h ?_; (conv => whnf); refine CallM.mk rfl ?_ ?_) | (refine CallS.b ?_; (conv => whnf); refine CallM.mk rfl ?_ ?_) | (refine CallS.z ?_; (conv => whnf); refine CallM.mk rfl ?_ ?_))
    all_goals (try (conv => whnf))
    all_goals (try (exact Ob.mk (u8_bnd _)))
    all_goals (try (refine Ob.mk ?_; first | exact True.intro | assumption | omega | (try simp only [decide_eq_true_eq, decide_eq_false_iff_not, beq_iff_eq, beq_eq_false_iff_ne, bne_iff_ne, bne_eq_false_iff_eq, ne_eq, Bool.and_eq_true, Bool.or_eq_true, Bool.not_eq_true, Bool.not_eq_false, Bool.not_eq_true', Bool.not_eq_false', Int.toNat_natCast, Int.not_lt, Int.not_le, UInt8.ofNat_toNat, cast_eq] at *; omega)))
    all_goals (try ((show (_:Int) = _); omega))
    all_goals (try (show tupSV _ = _; with_unfolding_all rfl))
    all_goals (try ((show (_ : Nat) ≤ _); (simp <;> omega)))
    all_goals (try ((show (_ : Nat) ≤ _ ∧ (_ : Nat) ≤ _); (simp <;> omega)))
    all_goals (try ((show (_ : Int) ≤ _ ∧ (_ : Int) ≤ _ ∧ (_ : Int) ≤ _ ∧ (_ : Int) ≤ _); (simp <;> omega)))
    all_goals (simp only [Int.toNat_natCast, k38, k60, k62, k34, k194, k160, decide_eq_true_eq] at *)
    · rename_i hl h1
      refine Rnd.mk ⟨(i + 1, out ++ oneB q (s.getD i 0)), ⟨by omega, esc_step q s out i (by omega) hq (fun h => by rw [h.1] at h1; cases h1)⟩, by simp; omega, ?_⟩
      rw [one38 h1]
      repeat' ((conv => whnf); first | (with_reducible rfl) | exact True.intro | (with_reducible exact absTF) | (with_reducible exact absFT) | intro _ | refine And.intro ?_ ?_ | refine Fin.mk ?_ | refine CallG.plain rfl ?_ ?_ | refine CallG.mk rfl ?_ ?_ | refine CallG.nwl rfl ?_ ?_ | refine CallG.nw ?_ ?_ | refine CallF.nwl rfl ?_ ?_ | refine CallF.nw ?_ ?_ | refine AppN.mk ?_ | (refine CallS.q ?_; (conv => whnf); first | refine CallG.plain rfl ?_ ?_ | refine CallG.mk rfl ?_ ?_) | (refine CallS.m ?_; (conv => whnf); refine CallM.mk rfl ?_ ?_) | (refine CallS.h ?_; (conv => whnf); refine CallM.mk rfl ?_ ?_) | (refine CallS.b ?_; (conv => whnf); refine CallM.mk rfl ?_ ?_) | (refine CallS.z ?_; (conv => whnf); refine CallM.mk rfl ?_ ?_))
      all_goals (try (conv => whnf))
      all_goals (try (exact Ob.mk (u8_bnd _)))
      all_goals (try (refine Ob.mk ?_; first | exact True.intro | assumption | omega | (try simp only [decide_eq_true_eq, decide_eq_false_iff_not, beq_iff_eq, beq_eq_false_iff_ne, bne_iff_ne, bne_eq_false_iff_eq, ne_eq, Bool.and_eq_true, Bool.or_eq_true, Bool.not_eq_true, Bool.not_eq_false, Bool.not_eq_true', Bool.not_eq_false', Int.toNat_natCast, Int.not_lt, Int.not_le, UInt8.ofNat_toNat, cast_eq] at *; omega)))
      all_goals (try ((show (_:Int) = _); omega))
      all_goals (try (show tupSV _ = _; with_unfolding_all rfl))
      all_goals (try ((show (_ : Nat) ≤ _); (simp <;> omega)))
      all_goals (try ((show (_ : Nat) ≤ _ ∧ (_ : Nat) ≤ _); (simp <;> omega)))
      all_goals (try ((show (_ : Int) ≤ _ ∧ (_ : Int) ≤ _ ∧ (_ : Int) ≤ _ ∧ (_ : Int) ≤ _); (simp <;> omega)))
    · rename_i hl h1 h2
      refine Rnd.mk ⟨(i + 1, out ++ oneB q (s.getD i 0)), ⟨by omega, esc_step q s out i (by omega) hq (fun h => by rw [h.1] at h2; cases h2)⟩, by simp; omega, ?_⟩
      rw [one60 h2]
      repeat' ((conv => whnf); first | (with_reducible rfl) | exact True.intro | (with_reducible exact absTF) | (with_reducible exact absFT) | intro _ | refine And.intro ?_ ?_ | refine Fin.mk ?_ | refine CallG.plain rfl ?_ ?_ | refine CallG.mk rfl ?_ ?_ | refine CallG.nwl rfl ?_ ?_ | refine CallG.nw ?_ ?_ | refine CallF.nwl rfl ?_ ?_ | refine CallF.nw ?_ ?_ | refine AppN.mk ?_ | (refine CallS.q ?_; (conv => whnf); first | refine CallG.plain rfl ?_ ?_ | refine CallG.mk rfl ?_ ?_) | (refine CallS.m ?_; (conv => whnf); refine CallM.mk rfl ?_ ?_) | (refine CallS.h ?_; (conv => whnf); refine CallM.mk rfl ?_ ?_) | (refine CallS.b ?_; (conv => whnf); refine CallM.mk rfl ?_ ?_) | (refine CallS.z ?_; (conv => whnf); refine CallM.mk rfl ?_ ?_))
      all_goals (try (conv => whnf))
      all_goals (try (exact Ob.mk (u8_bnd _)))
      all_goals (try (refine Ob.mk ?_; first | exact True.intro | assumption | omega | (try simp only [decide_eq_true_eq, decide_eq_false_iff_not, beq_iff_eq, beq_eq_false_iff_ne, bne_iff_ne, bne_eq_false_iff_eq, ne_eq, Bool.and_eq_true, Bool.or_eq_true, Bool.not_eq_true, Bool.not_eq_false, Bool.not_eq_true', Bool.not_eq_false', Int.toNat_natCast, Int.not_lt, Int.not_le, UInt8.ofNat_toNat, cast_eq] at *; omega)))
      all_goals (try ((show (_:Int) = _); omega))
      all_goals (try (show tupSV _ = _; with_unfolding_all rfl))
      all_goals (try ((show (_ : Nat) ≤ _); (simp <;> omega)))
      all_goals (try ((show (_ : Nat) ≤ _ ∧ (_ : Nat) ≤ _); (simp <;> omega)))
      all_goals (try ((show (_ : Int) ≤ _ ∧ (_ : Int) ≤ _ ∧ (_ : Int) ≤ _ ∧ (_ : Int) ≤ _); (simp <;> omega)))
    · rename_i hl h1 h2 h3
      refine Rnd.mk ⟨(i + 1, out ++ oneB q (s.getD i 0)), ⟨by omega, esc_step q s out i (by omega) hq (fun h => by rw [h.1] at h3; cases h3)⟩, by simp; omega, ?_⟩
      rw [one62 h3]
      repeat' ((conv => whnf); first | (with_reducible rfl) | exact True.intro | (with_reducible exact absTF) | (with_reducible exact absFT) | intro _ | refine And.intro ?_ ?_ | refine Fin.mk ?_ | refine CallG.plain rfl ?_ ?_ | refine CallG.mk rfl ?_ ?_ | refine CallG.nwl rfl ?_ ?_ | refine CallG.nw ?_ ?_ | refine CallF.nwl rfl ?_ ?_ | refine CallF.nw ?_ ?_ | refine AppN.mk ?_ | (refine CallS.q ?_; (conv => whnf); first | refine CallG.plain rfl ?_ ?_ | refine CallG.mk rfl ?_ ?_) | (refine CallS.m ?_; (conv => whnf); refine CallM.mk rfl ?_ ?_) | (refine CallS.h ?_; (conv => whnf); refine CallM.mk rfl ?_ ?_) | (refine CallS.b ?_; (conv => whnf); refine CallM.mk rfl ?_ ?_) | (refine CallS.z ?_; (conv => whnf); refine CallM.mk rfl ?_ ?_))
      all_goals (try (conv => whnf))
      all_goals (try (exact Ob.mk (u8_bnd _)))
      all_goals (try (refine Ob.mk ?_; first | exact True.intro | assumption | omega | (try simp only [decide_eq_true_eq, decide_eq_false_iff_not, beq_iff_eq, beq_eq_false_iff_ne, bne_iff_ne, bne_eq_false_iff_eq, ne_eq, Bool.and_eq_true, Bool.or_eq_true, Bool.not_eq_true, Bool.not_eq_false, Bool.not_eq_true', Bool.not_eq_false', Int.toNat_natCast, Int.not_lt, Int.not_le, UInt8.ofNat_toNat, cast_eq] at *; omega)))
      all_goals (try ((show (_:Int) = _); omega))
      all_goals (try (show tupSV _ = _; with_unfolding_all rfl))
      all_goals (try ((show (_ : Nat) ≤ _); (simp <;> omega)))
      all_goals (try ((show (_ : Nat) ≤ _ ∧ (_ : Nat) ≤ _); (simp <;> omega)))
      all_goals (try ((show (_ : Int) ≤ _ ∧ (_ : Int) ≤ _ ∧ (_ : Int) ≤ _ ∧ (_ : Int) ≤ _); (simp <;> omega)))
    · rename_i hl h1 h2 h3 h4
      have h5 := Bool.and_eq_true_iff.1 h4
      refine Rnd.mk ⟨(i + 1, out ++ oneB q (s.getD i 0)), ⟨by omega, esc_step q s out i (by omega) hq (fun h => by rw [h.1] at h5; cases h5.1)⟩, by simp; omega, ?_⟩
      rw [one34 h5.1 h5.2]
      repeat' ((conv => whnf); first | (with_reducible rfl) | exact True.intro | (with_reducible exact absTF) | (with_reducible exact absFT) | intro _ | refine And.intro ?_ ?_ | refine Fin.mk ?_ | refine CallG.plain rfl ?_ ?_ | refine CallG.mk rfl ?_ ?_ | refine CallG.nwl rfl ?_ ?_ | refine CallG.nw ?_ ?_ | refine CallF.nwl rfl ?_ ?_ | refine CallF.nw ?_ ?_ | refine AppN.mk ?_ | (refine CallS.q ?_; (conv => whnf); first | refine CallG.plain rfl ?_ ?_ | refine CallG.mk rfl ?_ ?_) | (refine CallS.m ?_; (conv => whnf); refine CallM.mk rfl ?_ ?_) | (refine CallS.h ?_; (conv => whnf); refine CallM.mk rfl ?_ ?_) | (refine CallS.b ?_; (conv => whnf); refine CallM.mk rfl ?_ ?_) | (refine CallS.z ?_; (conv => whnf); refine CallM.mk rfl ?_ ?_))
      all_goals (try (conv => whnf))
      all_goals (try (exact Ob.mk (u8_bnd _)))
      all_goals (try (refine Ob.mk ?_; first | exact True.intro | assumption | omega | (try simp only [decide_eq_true_eq, decide_eq_false_iff_not, beq_iff_eq, beq_eq_false_iff_ne, bne_iff_ne, bne_eq_false_iff_eq, ne_eq, Bool.and_eq_true, Bool.or_eq_true, Bool.not_eq_true, Bool.not_eq_false, Bool.not_eq_true', Bool.not_eq_false', Int.toNat_natCast, Int.not_lt, Int.not_le, UInt8.ofNat_toNat, cast_eq] at *; omega)))
      all_goals (try ((show (_:Int) = _); omega))
      all_goals (try (show tupSV _ = _; with_unfolding_all rfl))
      all_goals (try ((show (_ : Nat) ≤ _); (simp <;> omega)))
      all_goals (try ((show (_ : Nat) ≤ _ ∧ (_ : Nat) ≤ _); (simp <;> omega)))
      all_goals (try ((show (_ : Int) ≤ _ ∧ (_ : Int) ≤ _ ∧ (_ : Int) ≤ _ ∧ (_ : Int) ≤ _); (simp <;> omega)))
    · rename_i hl h1 h2 h3 h4 h5
      have e1 : ((i : Int) + 1).toNat = i + 1 := by omega
      rw [e1] at h5
      have h6 : s.getD i 0 = 194 ∧ i + 1 < s.length ∧ s.getD (i + 1) 0 = 160 := by
        simp only [Bool.and_eq_true, beq_iff_eq, decide_eq_true_eq] at h5
        exact ⟨h5.1.1, by omega, h5.2⟩
      refine Rnd.mk ⟨(i + 2, out ++ nbsp), ⟨by omega, esc_step2 q s out i (by omega) hq h6⟩, by simp; omega, ?_⟩
      repeat' ((conv => whnf); first | (with_reducible rfl) | exact True.intro | (with_reducible exact absTF) | (with_reducible exact absFT) | intro _ | refine And.intro ?_ ?_ | refine Fin.mk ?_ | refine CallG.plain rfl ?_ ?_ | refine CallG.mk rfl ?_ ?_ | refine CallG.nwl rfl ?_ ?_ | refine CallG.nw ?_ ?_ | refine CallF.nwl rfl ?_ ?_ | refine CallF.nw ?_ ?_ | refine AppN.mk ?_ | (refine CallS.q ?_; (conv => whnf); first | refine CallG.plain rfl ?_ ?_ | refine CallG.mk rfl ?_ ?_) | (refine CallS.m ?_; (conv => whnf); refine CallM.mk rfl ?_ ?_) | (refine CallS.h ?_; (conv => whnf); refine CallM.mk rfl ?_ ?_) | (refine CallS.b ?_; (conv => whnf); refine CallM.mk rfl ?_ ?_) | (refine CallS.z ?_; (conv => whnf); refine CallM.mk rfl ?_ ?_))
      all_goals (try (conv => whnf))
      all_goals (try (exact Ob.mk (u8_bnd _)))
      all_goals (try (refine Ob.mk ?_; first | exact True.intro | assumption | omega | (try simp only [decide_eq_true_eq, decide_eq_false_iff_not, beq_iff_eq, beq_eq_false_iff_ne, bne_iff_ne, bne_eq_false_iff_eq, ne_eq, Bool.and_eq_true, Bool.or_eq_true, Bool.not_eq_true, Bool.not_eq_false, Bool.not_eq_true', Bool.not_eq_false', Int.toNat_natCast, Int.not_lt, Int.not_le, UInt8.ofNat_toNat, cast_eq] at *; omega)))
      all_goals (try ((show (_:Int) = _); omega))
      all_goals (try (show tupSV _ = _; with_unfolding_all rfl))
      all_goals (try ((show (_ : Nat) ≤ _); (simp <;> omega)))
      all_goals (try ((show (_ : Nat) ≤ _ ∧ (_ : Nat) ≤ _); (simp <;> omega)))
      all_goals (try ((show (_ : Int) ≤ _ ∧ (_ : Int) ≤ _ ∧ (_ : Int) ≤ _ ∧ (_ : Int) ≤ _); (simp <;> omega)))
      all_goals rfl
    · rename_i hl h1 h2 h3 h4 h5
      have e1 : ((i : Int) + 1).toNat = i + 1 := by omega
      rw [e1] at h5
      have h6 : ¬ (s.getD i 0 = 194 ∧ i + 1 < s.length ∧ s.getD (i + 1) 0 = 160) := by
        rintro ⟨p1, p2, p3⟩
        rw [p1, p3] at h5
        have : decide ((i : Int) + 1 < s.length) = true := decide_eq_true (by omega)
        rw [this] at h5
        cases h5
      refine Rnd.mk ⟨(i + 1, out ++ oneB q (s.getD i 0)), ⟨by omega, esc_step q s out i (by omega) hq h6⟩, by simp; omega, ?_⟩
      have e2 : (s.take (i + 1)).drop i = [s.getD i 0] := by
        have hl' : i < s.length := by omega
        rw [List.drop_take]
        rw [drop_cons' s i hl']
        simp
      rw [oneN h1 h2 h3 h4]
      repeat' ((conv => whnf); first | (with_reducible rfl) | exact True.intro | (with_reducible exact absTF) | (with_reducible exact absFT) | intro _ | refine And.intro ?_ ?_ | refine Fin.mk ?_ | refine CallG.plain rfl ?_ ?_ | refine CallG.mk rfl ?_ ?_ | refine CallG.nwl rfl ?_ ?_ | refine CallG.nw ?_ ?_ | refine CallF.nwl rfl ?_ ?_ | refine CallF.nw ?_ ?_ | refine AppN.mk ?_ | (refine CallS.q ?_; (conv => whnf); first | refine CallG.plain rfl ?_ ?_ | refine CallG.mk rfl ?_ ?_) | (refine CallS.m ?_; (conv => whnf); refine CallM.mk rfl ?_ ?_) | (refine CallS.h ?_; (conv => whnf); refine CallM.mk rfl ?_ ?_) | (refine CallS.b ?_; (conv => whnf); refine CallM.mk rfl ?_ ?_) | (refine CallS.z ?_; (conv => whnf); refine CallM.mk rfl ?_ ?_))
      all_goals (try (conv => whnf))
      all_goals (try (exact Ob.mk (u8_bnd _)))
      all_goals (try (refine Ob.mk ?_; first | exact True.intro | assumption | omega | (try simp only [decide_eq_true_eq, decide_eq_false_iff_not, beq_iff_eq, beq_eq_false_iff_ne, bne_iff_ne, bne_eq_false_iff_eq, ne_eq, Bool.and_eq_true, Bool.or_eq_true, Bool.not_eq_true, Bool.not_eq_false, Bool.not_eq_true', Bool.not_eq_false', Int.toNat_natCast, Int.not_lt, Int.not_le, UInt8.ofNat_toNat, cast_eq] at *; omega)))
      all_goals (try ((show (_:Int) = _); omega))
      all_goals (try (show tupSV _ = _; with_unfolding_all rfl))
      all_goals (try ((show (_ : Nat) ≤ _); (simp <;> omega)))
      all_goals (try ((show (_ : Nat) ≤ _ ∧ (_ : Nat) ≤ _); (simp <;> omega)))
      all_goals (try ((show (_ : Int) ≤ _ ∧ (_ : Int) ≤ _ ∧ (_ : Int) ≤ _ ∧ (_ : Int) ≤ _); (simp <;> omega)))
      all_goals (rw [e1, e2])
    · rename_i hl
      have : i = s.length := by have := of_decide_eq_false hl; omega
      subst this
      rw [escL_end, List.append_nil] at hq
      exact hq
end Go.Vc
