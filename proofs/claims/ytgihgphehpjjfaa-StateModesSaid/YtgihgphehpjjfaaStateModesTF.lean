/- A part of the proof: lemmas and walks that the last text of the claim joins; no condition. -/
import Derived.Test.YtgihgphehpjjfaaStateModesVE
import Derived.Laws.Externs
import Derived.Test.YtgihgphehpjjfaaChecked
import Derived.Shelf.Spec.SlicesGrow
import Derived.Ground.Names7Prog
import Derived.Shelf.Spec.SlicesInsert
import Derived.Shelf.Spec.SlicesInsertGrow
import Derived.Shelf.Strings.Search1
import Derived.Shelf.Strings.Search2
import Derived.Shelf.Strings.Search3
import Derived.Shelf.LaysM
import Derived.Shelf.Strings.Shaped
import Derived.Shelf.Strings.FieldsFuncAny
import Derived.Shelf.Slices.Turned
import Derived.Shelf.Slices.Reverse
import Derived.Shelf.Slices.Equal
import Derived.Ground.Names2Prog
import Derived.Shelf.Slices.Clone
import Derived.Shelf.Slices.Delete
import Derived.Shelf.Slices.Cells
import Derived.Shelf.Slices.Empties
import Derived.Shelf.Slices.Empties2
import Derived.Ground.SlgnProg
import Derived.Shelf.SlicesE.Clone
import Derived.Test.YtgihgphehpjjfaaProg
set_option linter.unusedVariables false
set_option linter.unusedSimpArgs false
set_option maxHeartbeats 8000000
namespace Go.Vc
open Go.Proofs
theorem mixed : Try.prog.follows .mixedOrders = true := by kernel_rfl
abbrev intTy : Ty := .int .i64
abbrev spTy : Ty := .pr intTy intTy
abbrev attrTy : Ty := .pr .str .str
abbrev tokTy : Ty := .pr intTy (.pr .str (.pr (.sl attrTy) (.pr .bool .str)))
abbrev nodeTy : Ty := .pr intTy (.pr intTy (.pr .str (.pr (.sl attrTy) (.pr .str (.pr intTy (.sl intTy))))))
abbrev opTy : Ty := .pr intTy (.pr intTy (.pr intTy (.pr intTy nodeTy)))
def tyB (t : TypeId) : Option Ty :=
  bif Nat.beq t 3 then some intTy else bif Nat.beq t 4 then some .bool else bif Nat.beq t 5 then some .byte else bif Nat.beq t 9 then some .str else bif Nat.beq t 64 then some attrTy else bif Nat.beq t 30 then some nodeTy else bif Nat.beq t 161 then some spTy else bif Nat.beq t 59 then some tokTy else bif Nat.beq t 127 then some (.sl .str) else bif Nat.beq t 32 then some opTy else bif Nat.beq t 28 then some (.sl intTy) else bif Nat.beq t 133 then some spTy else bif Nat.beq t 106 then some .flt else none
def eqsB (t : TypeId) : Bool := Nat.beq t 64
theorem eqsB_ok : ∀ t, eqsB t = true → Try.prog.stoodInHeld t = false ∧ Try.prog.eqGuardType Try.prog.depth t = false ∧ ((Try.prog.fieldsOf t).toList.all fun f => f.name != "_") = true := by
  intro t h
  obtain rfl := beq_of h
  exact ⟨by kernel_rfl, by kernel_rfl, by kernel_rfl⟩
noncomputable abbrev BB : Base := { P := Try.prog, mixed := mixed, G := fun r => ∃ c T fr m, r 0 = some (.cells c T fr) ∧ c[0]? = some (.int .i64 m), mono := fun r r' h ⟨c, T, fr, m, h1, h2⟩ => ⟨c, T, fr, m, h 0 _ h1, h2⟩, ty0 := tyB, eqs := eqsB, eqs_ok := eqsB_ok }
set_option maxRecDepth 10000
@[simp] theorem bytes1 : bytesT Try.prog 1 = 8 := rfl
@[simp] theorem bytesB1 : bytesT BB.P 1 = 8 := rfl
@[simp] theorem bytes2 : bytesT Try.prog 2 = 8 := rfl
@[simp] theorem bytesB2 : bytesT BB.P 2 = 8 := rfl
@[simp] theorem bytes3 : bytesT Try.prog 3 = 8 := rfl
@[simp] theorem bytesB3 : bytesT BB.P 3 = 8 := rfl
@[simp] theorem bytes4 : bytesT Try.prog 4 = 1 := rfl
@[simp] theorem bytesB4 : bytesT BB.P 4 = 1 := rfl
@[simp] theorem bytes5 : bytesT Try.prog 5 = 1 := rfl
@[simp] theorem bytesB5 : bytesT BB.P 5 = 1 := rfl
@[simp] theorem bytes6 : bytesT Try.prog 6 = 1 := rfl
@[simp] theorem bytesB6 : bytesT BB.P 6 = 1 := rfl
@[simp] theorem bytes7 : bytesT Try.prog 7 = 24 := rfl
@[simp] theorem bytesB7 : bytesT BB.P 7 = 24 := rfl
@[simp] theorem bytes8 : bytesT Try.prog 8 = 24 := rfl
@[simp] theorem bytesB8 : bytesT BB.P 8 = 24 := rfl
@[simp] theorem bytes9 : bytesT Try.prog 9 = 16 := rfl
@[simp] theorem bytesB9 : bytesT BB.P 9 = 16 := rfl
@[simp] theorem bytes10 : bytesT Try.prog 10 = 16 := rfl
@[simp] theorem bytesB10 : bytesT BB.P 10 = 16 := rfl
@[simp] theorem bytes11 : bytesT Try.prog 11 = 16 := rfl
@[simp] theorem bytesB11 : bytesT BB.P 11 = 16 := rfl
@[simp] theorem bytes12 : bytesT Try.prog 12 = 8 := rfl
@[simp] theorem bytesB12 : bytesT BB.P 12 = 8 := rfl
@[simp] theorem bytes13 : bytesT Try.prog 13 = 24 := rfl
@[simp] theorem bytesB13 : bytesT BB.P 13 = 24 := rfl
@[simp] theorem bytes14 : bytesT Try.prog 14 = 24 := rfl
@[simp] theorem bytesB14 : bytesT BB.P 14 = 24 := rfl
@[simp] theorem bytes15 : bytesT Try.prog 15 = 8 := rfl
@[simp] theorem bytesB15 : bytesT BB.P 15 = 8 := rfl
@[simp] theorem bytes16 : bytesT Try.prog 16 = 8 := rfl
@[simp] theorem bytesB16 : bytesT BB.P 16 = 8 := rfl
@[simp] theorem bytes17 : bytesT Try.prog 17 = 8 := rfl
@[simp] theorem bytesB17 : bytesT BB.P 17 = 8 := rfl
@[simp] theorem bytes18 : bytesT Try.prog 18 = 8 := rfl
@[simp] theorem bytesB18 : bytesT BB.P 18 = 8 := rfl
@[simp] theorem bytes19 : bytesT Try.prog 19 = 8 := rfl
@[simp] theorem bytesB19 : bytesT BB.P 19 = 8 := rfl
@[simp] theorem bytes20 : bytesT Try.prog 20 = 16 := rfl
@[simp] theorem bytesB20 : bytesT BB.P 20 = 16 := rfl
@[simp] theorem bytes21 : bytesT Try.prog 21 = 4 := rfl
@[simp] theorem bytesB21 : bytesT BB.P 21 = 4 := rfl
@[simp] theorem bytes22 : bytesT Try.prog 22 = 24 := rfl
@[simp] theorem bytesB22 : bytesT BB.P 22 = 24 := rfl
@[simp] theorem bytes23 : bytesT Try.prog 23 = 24 := rfl
@[simp] theorem bytesB23 : bytesT BB.P 23 = 24 := rfl
@[simp] theorem bytes24 : bytesT Try.prog 24 = 24 := rfl
@[simp] theorem bytesB24 : bytesT BB.P 24 = 24 := rfl
@[simp] theorem bytes25 : bytesT Try.prog 25 = 24 := rfl
@[simp] theorem bytesB25 : bytesT BB.P 25 = 24 := rfl
@[simp] theorem bytes26 : bytesT Try.prog 26 = 8 := rfl
@[simp] theorem bytesB26 : bytesT BB.P 26 = 8 := rfl
@[simp] theorem bytes27 : bytesT Try.prog 27 = 24 := rfl
@[simp] theorem bytesB27 : bytesT BB.P 27 = 24 := rfl
@[simp] theorem bytes28 : bytesT Try.prog 28 = 24 := rfl
@[simp] theorem bytesB28 : bytesT BB.P 28 = 24 := rfl
@[simp] theorem bytes29 : bytesT Try.prog 29 = 104 := rfl
@[simp] theorem bytesB29 : bytesT BB.P 29 = 104 := rfl
@[simp] theorem bytes30 : bytesT Try.prog 30 = 104 := rfl
@[simp] theorem bytesB30 : bytesT BB.P 30 = 104 := rfl
@[simp] theorem bytes31 : bytesT Try.prog 31 = 136 := rfl
@[simp] theorem bytesB31 : bytesT BB.P 31 = 136 := rfl
@[simp] theorem bytes32 : bytesT Try.prog 32 = 136 := rfl
@[simp] theorem bytesB32 : bytesT BB.P 32 = 136 := rfl
@[simp] theorem bytes33 : bytesT Try.prog 33 = 8 := rfl
@[simp] theorem bytesB33 : bytesT BB.P 33 = 8 := rfl
@[simp] theorem bytes34 : bytesT Try.prog 34 = 8 := rfl
@[simp] theorem bytesB34 : bytesT BB.P 34 = 8 := rfl
@[simp] theorem bytes35 : bytesT Try.prog 35 = 8 := rfl
@[simp] theorem bytesB35 : bytesT BB.P 35 = 8 := rfl
@[simp] theorem bytes36 : bytesT Try.prog 36 = 8 := rfl
@[simp] theorem bytesB36 : bytesT BB.P 36 = 8 := rfl
@[simp] theorem bytes37 : bytesT Try.prog 37 = 8 := rfl
@[simp] theorem bytesB37 : bytesT BB.P 37 = 8 := rfl
@[simp] theorem bytes38 : bytesT Try.prog 38 = 8 := rfl
@[simp] theorem bytesB38 : bytesT BB.P 38 = 8 := rfl
@[simp] theorem bytes39 : bytesT Try.prog 39 = 8 := rfl
@[simp] theorem bytesB39 : bytesT BB.P 39 = 8 := rfl
@[simp] theorem bytes40 : bytesT Try.prog 40 = 8 := rfl
@[simp] theorem bytesB40 : bytesT BB.P 40 = 8 := rfl
@[simp] theorem bytes41 : bytesT Try.prog 41 = 8 := rfl
@[simp] theorem bytesB41 : bytesT BB.P 41 = 8 := rfl
@[simp] theorem bytes42 : bytesT Try.prog 42 = 8 := rfl
@[simp] theorem bytesB42 : bytesT BB.P 42 = 8 := rfl
@[simp] theorem bytes43 : bytesT Try.prog 43 = 8 := rfl
@[simp] theorem bytesB43 : bytesT BB.P 43 = 8 := rfl
@[simp] theorem bytes44 : bytesT Try.prog 44 = 8 := rfl
@[simp] theorem bytesB44 : bytesT BB.P 44 = 8 := rfl
@[simp] theorem bytes45 : bytesT Try.prog 45 = 8 := rfl
@[simp] theorem bytesB45 : bytesT BB.P 45 = 8 := rfl
@[simp] theorem bytes46 : bytesT Try.prog 46 = 8 := rfl
@[simp] theorem bytesB46 : bytesT BB.P 46 = 8 := rfl
@[simp] theorem bytes48 : bytesT Try.prog 48 = 8 := rfl
@[simp] theorem bytesB48 : bytesT BB.P 48 = 8 := rfl
@[simp] theorem bytes49 : bytesT Try.prog 49 = 8 := rfl
@[simp] theorem bytesB49 : bytesT BB.P 49 = 8 := rfl
@[simp] theorem bytes50 : bytesT Try.prog 50 = 8 := rfl
@[simp] theorem bytesB50 : bytesT BB.P 50 = 8 := rfl
@[simp] theorem bytes51 : bytesT Try.prog 51 = 8 := rfl
@[simp] theorem bytesB51 : bytesT BB.P 51 = 8 := rfl
@[simp] theorem bytes52 : bytesT Try.prog 52 = 8 := rfl
@[simp] theorem bytesB52 : bytesT BB.P 52 = 8 := rfl
@[simp] theorem bytes53 : bytesT Try.prog 53 = 8 := rfl
@[simp] theorem bytesB53 : bytesT BB.P 53 = 8 := rfl
@[simp] theorem bytes54 : bytesT Try.prog 54 = 136 := rfl
@[simp] theorem bytesB54 : bytesT BB.P 54 = 136 := rfl
@[simp] theorem bytes55 : bytesT Try.prog 55 = 136 := rfl
@[simp] theorem bytesB55 : bytesT BB.P 55 = 136 := rfl
@[simp] theorem bytes56 : bytesT Try.prog 56 = 136 := rfl
@[simp] theorem bytesB56 : bytesT BB.P 56 = 136 := rfl
@[simp] theorem bytes57 : bytesT Try.prog 57 = 8 := rfl
@[simp] theorem bytesB57 : bytesT BB.P 57 = 8 := rfl
@[simp] theorem bytes58 : bytesT Try.prog 58 = 72 := rfl
@[simp] theorem bytesB58 : bytesT BB.P 58 = 72 := rfl
@[simp] theorem bytes59 : bytesT Try.prog 59 = 72 := rfl
@[simp] theorem bytesB59 : bytesT BB.P 59 = 72 := rfl
@[simp] theorem bytes60 : bytesT Try.prog 60 = 8 := rfl
@[simp] theorem bytesB60 : bytesT BB.P 60 = 8 := rfl
@[simp] theorem bytes61 : bytesT Try.prog 61 = 8 := rfl
@[simp] theorem bytesB61 : bytesT BB.P 61 = 8 := rfl
@[simp] theorem bytes62 : bytesT Try.prog 62 = 8 := rfl
@[simp] theorem bytesB62 : bytesT BB.P 62 = 8 := rfl
@[simp] theorem bytes63 : bytesT Try.prog 63 = 32 := rfl
@[simp] theorem bytesB63 : bytesT BB.P 63 = 32 := rfl
@[simp] theorem bytes64 : bytesT Try.prog 64 = 32 := rfl
@[simp] theorem bytesB64 : bytesT BB.P 64 = 32 := rfl
@[simp] theorem bytes65 : bytesT Try.prog 65 = 8 := rfl
@[simp] theorem bytesB65 : bytesT BB.P 65 = 8 := rfl
@[simp] theorem bytes66 : bytesT Try.prog 66 = 8 := rfl
@[simp] theorem bytesB66 : bytesT BB.P 66 = 8 := rfl
@[simp] theorem bytes67 : bytesT Try.prog 67 = 8 := rfl
@[simp] theorem bytesB67 : bytesT BB.P 67 = 8 := rfl
@[simp] theorem bytes68 : bytesT Try.prog 68 = 8 := rfl
@[simp] theorem bytesB68 : bytesT BB.P 68 = 8 := rfl
@[simp] theorem bytes69 : bytesT Try.prog 69 = 8 := rfl
@[simp] theorem bytesB69 : bytesT BB.P 69 = 8 := rfl
@[simp] theorem bytes70 : bytesT Try.prog 70 = 8 := rfl
@[simp] theorem bytesB70 : bytesT BB.P 70 = 8 := rfl
@[simp] theorem bytes71 : bytesT Try.prog 71 = 8 := rfl
@[simp] theorem bytesB71 : bytesT BB.P 71 = 8 := rfl
@[simp] theorem bytes72 : bytesT Try.prog 72 = 8 := rfl
@[simp] theorem bytesB72 : bytesT BB.P 72 = 8 := rfl
@[simp] theorem bytes73 : bytesT Try.prog 73 = 8 := rfl
@[simp] theorem bytesB73 : bytesT BB.P 73 = 8 := rfl
@[simp] theorem bytes74 : bytesT Try.prog 74 = 8 := rfl
@[simp] theorem bytesB74 : bytesT BB.P 74 = 8 := rfl
@[simp] theorem bytes75 : bytesT Try.prog 75 = 8 := rfl
@[simp] theorem bytesB75 : bytesT BB.P 75 = 8 := rfl
@[simp] theorem bytes76 : bytesT Try.prog 76 = 8 := rfl
@[simp] theorem bytesB76 : bytesT BB.P 76 = 8 := rfl
@[simp] theorem bytes77 : bytesT Try.prog 77 = 8 := rfl
@[simp] theorem bytesB77 : bytesT BB.P 77 = 8 := rfl
@[simp] theorem bytes78 : bytesT Try.prog 78 = 8 := rfl
@[simp] theorem bytesB78 : bytesT BB.P 78 = 8 := rfl
@[simp] theorem bytes79 : bytesT Try.prog 79 = 8 := rfl
@[simp] theorem bytesB79 : bytesT BB.P 79 = 8 := rfl
@[simp] theorem bytes81 : bytesT Try.prog 81 = 8 := rfl
@[simp] theorem bytesB81 : bytesT BB.P 81 = 8 := rfl
@[simp] theorem bytes82 : bytesT Try.prog 82 = 8 := rfl
@[simp] theorem bytesB82 : bytesT BB.P 82 = 8 := rfl
@[simp] theorem bytes83 : bytesT Try.prog 83 = 24 := rfl
@[simp] theorem bytesB83 : bytesT BB.P 83 = 24 := rfl
@[simp] theorem bytes84 : bytesT Try.prog 84 = 8 := rfl
@[simp] theorem bytesB84 : bytesT BB.P 84 = 8 := rfl
@[simp] theorem bytes85 : bytesT Try.prog 85 = 8 := rfl
@[simp] theorem bytesB85 : bytesT BB.P 85 = 8 := rfl
@[simp] theorem bytes86 : bytesT Try.prog 86 = 8 := rfl
@[simp] theorem bytesB86 : bytesT BB.P 86 = 8 := rfl
@[simp] theorem bytes88 : bytesT Try.prog 88 = 8 := rfl
@[simp] theorem bytesB88 : bytesT BB.P 88 = 8 := rfl
@[simp] theorem bytes89 : bytesT Try.prog 89 = 8 := rfl
@[simp] theorem bytesB89 : bytesT BB.P 89 = 8 := rfl
@[simp] theorem bytes90 : bytesT Try.prog 90 = 8 := rfl
@[simp] theorem bytesB90 : bytesT BB.P 90 = 8 := rfl
@[simp] theorem bytes91 : bytesT Try.prog 91 = 8 := rfl
@[simp] theorem bytesB91 : bytesT BB.P 91 = 8 := rfl
@[simp] theorem bytes92 : bytesT Try.prog 92 = 8 := rfl
@[simp] theorem bytesB92 : bytesT BB.P 92 = 8 := rfl
@[simp] theorem bytes93 : bytesT Try.prog 93 = 24 := rfl
@[simp] theorem bytesB93 : bytesT BB.P 93 = 24 := rfl
@[simp] theorem bytes94 : bytesT Try.prog 94 = 8 := rfl
@[simp] theorem bytesB94 : bytesT BB.P 94 = 8 := rfl
@[simp] theorem bytes95 : bytesT Try.prog 95 = 8 := rfl
@[simp] theorem bytesB95 : bytesT BB.P 95 = 8 := rfl
@[simp] theorem bytes96 : bytesT Try.prog 96 = 8 := rfl
@[simp] theorem bytesB96 : bytesT BB.P 96 = 8 := rfl
@[simp] theorem bytes97 : bytesT Try.prog 97 = 8 := rfl
@[simp] theorem bytesB97 : bytesT BB.P 97 = 8 := rfl
@[simp] theorem bytes98 : bytesT Try.prog 98 = 8 := rfl
@[simp] theorem bytesB98 : bytesT BB.P 98 = 8 := rfl
@[simp] theorem bytes99 : bytesT Try.prog 99 = 8 := rfl
@[simp] theorem bytesB99 : bytesT BB.P 99 = 8 := rfl
@[simp] theorem bytes100 : bytesT Try.prog 100 = 8 := rfl
@[simp] theorem bytesB100 : bytesT BB.P 100 = 8 := rfl
@[simp] theorem bytes101 : bytesT Try.prog 101 = 8 := rfl
@[simp] theorem bytesB101 : bytesT BB.P 101 = 8 := rfl
@[simp] theorem bytes102 : bytesT Try.prog 102 = 8 := rfl
@[simp] theorem bytesB102 : bytesT BB.P 102 = 8 := rfl
@[simp] theorem bytes103 : bytesT Try.prog 103 = 8 := rfl
@[simp] theorem bytesB103 : bytesT BB.P 103 = 8 := rfl
@[simp] theorem bytes104 : bytesT Try.prog 104 = 8 := rfl
@[simp] theorem bytesB104 : bytesT BB.P 104 = 8 := rfl
@[simp] theorem bytes105 : bytesT Try.prog 105 = 8 := rfl
@[simp] theorem bytesB105 : bytesT BB.P 105 = 8 := rfl
@[simp] theorem bytes106 : bytesT Try.prog 106 = 8 := rfl
@[simp] theorem bytesB106 : bytesT BB.P 106 = 8 := rfl
@[simp] theorem bytes107 : bytesT Try.prog 107 = 32 := rfl
@[simp] theorem bytesB107 : bytesT BB.P 107 = 32 := rfl
@[simp] theorem bytes108 : bytesT Try.prog 108 = 32 := rfl
@[simp] theorem bytesB108 : bytesT BB.P 108 = 32 := rfl
@[simp] theorem bytes110 : bytesT Try.prog 110 = 8 := rfl
@[simp] theorem bytesB110 : bytesT BB.P 110 = 8 := rfl
@[simp] theorem bytes111 : bytesT Try.prog 111 = 8 := rfl
@[simp] theorem bytesB111 : bytesT BB.P 111 = 8 := rfl
@[simp] theorem bytes112 : bytesT Try.prog 112 = 8 := rfl
@[simp] theorem bytesB112 : bytesT BB.P 112 = 8 := rfl
@[simp] theorem bytes113 : bytesT Try.prog 113 = 8 := rfl
@[simp] theorem bytesB113 : bytesT BB.P 113 = 8 := rfl
@[simp] theorem bytes114 : bytesT Try.prog 114 = 8 := rfl
@[simp] theorem bytesB114 : bytesT BB.P 114 = 8 := rfl
@[simp] theorem bytes115 : bytesT Try.prog 115 = 8 := rfl
@[simp] theorem bytesB115 : bytesT BB.P 115 = 8 := rfl
@[simp] theorem bytes117 : bytesT Try.prog 117 = 8 := rfl
@[simp] theorem bytesB117 : bytesT BB.P 117 = 8 := rfl
@[simp] theorem bytes118 : bytesT Try.prog 118 = 8 := rfl
@[simp] theorem bytesB118 : bytesT BB.P 118 = 8 := rfl
@[simp] theorem bytes119 : bytesT Try.prog 119 = 8 := rfl
@[simp] theorem bytesB119 : bytesT BB.P 119 = 8 := rfl
@[simp] theorem bytes120 : bytesT Try.prog 120 = 8 := rfl
@[simp] theorem bytesB120 : bytesT BB.P 120 = 8 := rfl
@[simp] theorem bytes121 : bytesT Try.prog 121 = 8 := rfl
@[simp] theorem bytesB121 : bytesT BB.P 121 = 8 := rfl
@[simp] theorem bytes122 : bytesT Try.prog 122 = 8 := rfl
@[simp] theorem bytesB122 : bytesT BB.P 122 = 8 := rfl
@[simp] theorem bytes123 : bytesT Try.prog 123 = 8 := rfl
@[simp] theorem bytesB123 : bytesT BB.P 123 = 8 := rfl
@[simp] theorem bytes124 : bytesT Try.prog 124 = 8 := rfl
@[simp] theorem bytesB124 : bytesT BB.P 124 = 8 := rfl
@[simp] theorem bytes126 : bytesT Try.prog 126 = 8 := rfl
@[simp] theorem bytesB126 : bytesT BB.P 126 = 8 := rfl
@[simp] theorem bytes127 : bytesT Try.prog 127 = 24 := rfl
@[simp] theorem bytesB127 : bytesT BB.P 127 = 24 := rfl
@[simp] theorem bytes128 : bytesT Try.prog 128 = 8 := rfl
@[simp] theorem bytesB128 : bytesT BB.P 128 = 8 := rfl
@[simp] theorem bytes129 : bytesT Try.prog 129 = 8 := rfl
@[simp] theorem bytesB129 : bytesT BB.P 129 = 8 := rfl
@[simp] theorem bytes130 : bytesT Try.prog 130 = 24 := rfl
@[simp] theorem bytesB130 : bytesT BB.P 130 = 24 := rfl
@[simp] theorem bytes131 : bytesT Try.prog 131 = 8 := rfl
@[simp] theorem bytesB131 : bytesT BB.P 131 = 8 := rfl
@[simp] theorem bytes132 : bytesT Try.prog 132 = 16 := rfl
@[simp] theorem bytesB132 : bytesT BB.P 132 = 16 := rfl
@[simp] theorem bytes133 : bytesT Try.prog 133 = 16 := rfl
@[simp] theorem bytesB133 : bytesT BB.P 133 = 16 := rfl
@[simp] theorem bytes134 : bytesT Try.prog 134 = 24 := rfl
@[simp] theorem bytesB134 : bytesT BB.P 134 = 24 := rfl
@[simp] theorem bytes135 : bytesT Try.prog 135 = 8 := rfl
@[simp] theorem bytesB135 : bytesT BB.P 135 = 8 := rfl
@[simp] theorem bytes136 : bytesT Try.prog 136 = 8 := rfl
@[simp] theorem bytesB136 : bytesT BB.P 136 = 8 := rfl
@[simp] theorem bytes137 : bytesT Try.prog 137 = 8 := rfl
@[simp] theorem bytesB137 : bytesT BB.P 137 = 8 := rfl
@[simp] theorem bytes138 : bytesT Try.prog 138 = 8 := rfl
@[simp] theorem bytesB138 : bytesT BB.P 138 = 8 := rfl
@[simp] theorem bytes139 : bytesT Try.prog 139 = 8 := rfl
@[simp] theorem bytesB139 : bytesT BB.P 139 = 8 := rfl
@[simp] theorem bytes140 : bytesT Try.prog 140 = 8 := rfl
@[simp] theorem bytesB140 : bytesT BB.P 140 = 8 := rfl
@[simp] theorem bytes141 : bytesT Try.prog 141 = 8 := rfl
@[simp] theorem bytesB141 : bytesT BB.P 141 = 8 := rfl
@[simp] theorem bytes142 : bytesT Try.prog 142 = 8 := rfl
@[simp] theorem bytesB142 : bytesT BB.P 142 = 8 := rfl
@[simp] theorem bytes143 : bytesT Try.prog 143 = 8 := rfl
@[simp] theorem bytesB143 : bytesT BB.P 143 = 8 := rfl
@[simp] theorem bytes144 : bytesT Try.prog 144 = 8 := rfl
@[simp] theorem bytesB144 : bytesT BB.P 144 = 8 := rfl
@[simp] theorem bytes145 : bytesT Try.prog 145 = 8 := rfl
@[simp] theorem bytesB145 : bytesT BB.P 145 = 8 := rfl
@[simp] theorem bytes146 : bytesT Try.prog 146 = 8 := rfl
@[simp] theorem bytesB146 : bytesT BB.P 146 = 8 := rfl
@[simp] theorem bytes147 : bytesT Try.prog 147 = 8 := rfl
@[simp] theorem bytesB147 : bytesT BB.P 147 = 8 := rfl
@[simp] theorem bytes148 : bytesT Try.prog 148 = 8 := rfl
@[simp] theorem bytesB148 : bytesT BB.P 148 = 8 := rfl
@[simp] theorem bytes149 : bytesT Try.prog 149 = 8 := rfl
@[simp] theorem bytesB149 : bytesT BB.P 149 = 8 := rfl
@[simp] theorem bytes150 : bytesT Try.prog 150 = 8 := rfl
@[simp] theorem bytesB150 : bytesT BB.P 150 = 8 := rfl
@[simp] theorem bytes151 : bytesT Try.prog 151 = 8 := rfl
@[simp] theorem bytesB151 : bytesT BB.P 151 = 8 := rfl
@[simp] theorem bytes152 : bytesT Try.prog 152 = 8 := rfl
@[simp] theorem bytesB152 : bytesT BB.P 152 = 8 := rfl
@[simp] theorem bytes153 : bytesT Try.prog 153 = 8 := rfl
@[simp] theorem bytesB153 : bytesT BB.P 153 = 8 := rfl
@[simp] theorem bytes154 : bytesT Try.prog 154 = 8 := rfl
@[simp] theorem bytesB154 : bytesT BB.P 154 = 8 := rfl
@[simp] theorem bytes155 : bytesT Try.prog 155 = 8 := rfl
@[simp] theorem bytesB155 : bytesT BB.P 155 = 8 := rfl
@[simp] theorem bytes156 : bytesT Try.prog 156 = 8 := rfl
@[simp] theorem bytesB156 : bytesT BB.P 156 = 8 := rfl
@[simp] theorem bytes157 : bytesT Try.prog 157 = 8 := rfl
@[simp] theorem bytesB157 : bytesT BB.P 157 = 8 := rfl
@[simp] theorem bytes158 : bytesT Try.prog 158 = 8 := rfl
@[simp] theorem bytesB158 : bytesT BB.P 158 = 8 := rfl
@[simp] theorem bytes159 : bytesT Try.prog 159 = 24 := rfl
@[simp] theorem bytesB159 : bytesT BB.P 159 = 24 := rfl
@[simp] theorem bytes160 : bytesT Try.prog 160 = 16 := rfl
@[simp] theorem bytesB160 : bytesT BB.P 160 = 16 := rfl
@[simp] theorem bytes161 : bytesT Try.prog 161 = 16 := rfl
@[simp] theorem bytesB161 : bytesT BB.P 161 = 16 := rfl
@[simp] theorem bytes162 : bytesT Try.prog 162 = 8 := rfl
@[simp] theorem bytesB162 : bytesT BB.P 162 = 8 := rfl
@[simp] theorem bytes163 : bytesT Try.prog 163 = 4 := rfl
@[simp] theorem bytesB163 : bytesT BB.P 163 = 4 := rfl
@[simp] theorem bytes165 : bytesT Try.prog 165 = 8 := rfl
@[simp] theorem bytesB165 : bytesT BB.P 165 = 8 := rfl
@[simp] theorem bytes166 : bytesT Try.prog 166 = 8 := rfl
@[simp] theorem bytesB166 : bytesT BB.P 166 = 8 := rfl
@[simp] theorem bytes167 : bytesT Try.prog 167 = 40 := rfl
@[simp] theorem bytesB167 : bytesT BB.P 167 = 40 := rfl
@[simp] theorem bytes168 : bytesT Try.prog 168 = 40 := rfl
@[simp] theorem bytesB168 : bytesT BB.P 168 = 40 := rfl
theorem u8_bnd (x : UInt8) : 0 ≤ (x.toNat : Int) ∧ (x.toNat : Int) ≤ 255 := by have := x.toNat_lt; omega
end Go.Vc

namespace Go.Vc
open Go.Proofs
set_option maxRecDepth 10000
abbrev NodeD := nodeTy.T
abbrev NodeD.up (n : NodeD) : Int := n.2.2.2.2.2.1
abbrev NodeD.kids (n : NodeD) : List Int := n.2.2.2.2.2.2
def isT (l : List NodeD) (i : Int) : Bool := decide (0 ≤ i) && decide (i < l.length)
instance f37 (l : List NodeD) (i : Int) : Fn BB 80 [.agg [.rd nodeTy l], .int .i64 i] True (.bool (isT l i)) := by
  refine Fn.intro (N := 14) [0, 1, 2, 4] [] Try.call80 Try.func80 rfl rfl (by kernel_rfl) (fun hpre => ?_)
  repeat' ((conv => whnf);first|(with_reducible first|rfl|exact absTF|exact absFT)|exact True.intro|intro _|refine And.intro ?_ ?_|refine Fin.mk ?_|refine W1 rfl ?_ ?_|refine W2 rfl ?_ ?_|refine W3 rfl ?_ ?_|refine W4 ?_ ?_|refine W5 rfl ?_ ?_|refine W6 ?_ ?_|refine AppN.mk ?_|refine X1 (W1 rfl ?_ ?_)|refine X1 (W2 rfl ?_ ?_)|refine X2 (W7 rfl ?_ ?_)|refine X3 (W7 rfl ?_ ?_)|refine X4 (W7 rfl ?_ ?_)|refine X5 (W7 rfl ?_ ?_))
  all_goals (try (conv => whnf))
  all_goals (simp_all [isT]; done)
end Go.Vc

namespace Go.Vc
open Go.Proofs
set_option maxRecDepth 10000
theorem take_snoc {α : Type} (l : List α) (i : Nat) (d : α) (h : i < l.length) : l.take (i + 1) = l.take i ++ [l.getD i d] := by
  rw [List.take_succ_eq_append_getElem h]; simp [List.getD, List.getElem?_eq_getElem h]
theorem take_all {α : Type} (p : α → Bool) (l : List α) (i : Nat) (d : α) (h : i < l.length) : (l.take (i + 1)).all p = ((l.take i).all p && p (l.getD i d)) := by
  rw [take_snoc l i d h]; simp
theorem all_false_at {α : Type} {p : α → Bool} {l : List α} {i : Nat} {d : α} (h : i < l.length) (hp : p (l.getD i d) = false) : l.all p = false := by
  rw [List.all_eq_false]
  refine ⟨l.getD i d, ?_, by rw [hp]; simp⟩
  simp [List.getD, List.getElem?_eq_getElem h]
abbrev AttrD := attrTy.T
def attrsOk (l : List AttrD) : Bool := decide (l.length ≤ 14) && l.all fun a => decide (a.1.length ≤ 40) && decide (a.2.length ≤ 150)
instance f33 (l : List AttrD) : Fn BB 40 [.rd attrTy l] True (.bool (attrsOk l)) := by
  refine Fn.intro (N := 25) [0, 2, 4, 7, 8, 9, 10, 11, 23] [] Try.call40 Try.func40 rfl rfl (by kernel_rfl) (fun hpre => ?_)
  repeat' ((conv => whnf);first|(with_reducible first|rfl|exact absTF|exact absFT)|exact True.intro|intro _|refine And.intro ?_ ?_|refine Fin.mk ?_|refine W1 rfl ?_ ?_|refine W2 rfl ?_ ?_|refine W3 rfl ?_ ?_|refine W4 ?_ ?_|refine W5 rfl ?_ ?_|refine W6 ?_ ?_|refine AppN.mk ?_|refine X1 (W1 rfl ?_ ?_)|refine X1 (W2 rfl ?_ ?_)|refine X2 (W7 rfl ?_ ?_)|refine X3 (W7 rfl ?_ ?_)|refine X4 (W7 rfl ?_ ?_)|refine X5 (W7 rfl ?_ ?_))
  all_goals (try (conv => whnf))
  · simp only [attrsOk, decide_eq_true_eq] at *
    rw [decide_eq_false (by omega)]; rfl
  · refine LoopStop.mk (α := Nat) (fun i => [(10, .int .i64 i)]) (fun _ => []) 0 (fun i => i ≤ l.length ∧ (l.take i).all (fun a => decide (a.1.length ≤ 40) && decide (a.2.length ≤ 150)) = true) (fun i => l.length - i) 0 (by simp) ?_ (fun i hi => ?_)
    · repeat' ((conv => whnf);first|(with_reducible first|rfl|exact absTF|exact absFT)|exact True.intro|intro _|refine And.intro ?_ ?_|refine Fin.mk ?_|refine W1 rfl ?_ ?_|refine W2 rfl ?_ ?_|refine W3 rfl ?_ ?_|refine W4 ?_ ?_|refine W5 rfl ?_ ?_|refine W6 ?_ ?_|refine AppN.mk ?_|refine X1 (W1 rfl ?_ ?_)|refine X1 (W2 rfl ?_ ?_)|refine X2 (W7 rfl ?_ ?_)|refine X3 (W7 rfl ?_ ?_)|refine X4 (W7 rfl ?_ ?_)|refine X5 (W7 rfl ?_ ?_))
      all_goals (try (conv => whnf))
      all_goals (try rfl)
    · obtain ⟨hi, ha⟩ := hi
      repeat' ((conv => whnf);first|(with_reducible first|rfl|exact absTF|exact absFT)|exact True.intro|intro _|refine And.intro ?_ ?_|refine Fin.mk ?_|refine W1 rfl ?_ ?_|refine W2 rfl ?_ ?_|refine W3 rfl ?_ ?_|refine W4 ?_ ?_|refine W5 rfl ?_ ?_|refine W6 ?_ ?_|refine AppN.mk ?_|refine X1 (W1 rfl ?_ ?_)|refine X1 (W2 rfl ?_ ?_)|refine X2 (W7 rfl ?_ ?_)|refine X3 (W7 rfl ?_ ?_)|refine X4 (W7 rfl ?_ ?_)|refine X5 (W7 rfl ?_ ?_))
      all_goals (try (conv => whnf))
      all_goals (try first|exact Ob.mk (u8_bnd _)|(refine Ob.mk ?_;first|exact True.intro|assumption|omega|(try simp only [ZA,ZB,ZC,ZD,ZE,ZF,ZG,ZH,ZI,ZJ,ZK,ZL,ZM,ZN,ZO,Int.toNat_natCast,UInt8.ofNat_toNat,cast_eq] at *;omega)))
      all_goals (try first|(show (_:Int) = _;omega)|(show tupSV _ = _;with_unfolding_all rfl)|((first|show (_:Nat) ≤ _|show (_:Nat) ≤ _ ∧ (_:Nat) ≤ _|show (_:Int) ≤ _ ∧ (_:Int) ≤ _ ∧ (_:Int) ≤ _ ∧ (_:Int) ≤ _);(simp <;> omega)))
      all_goals (try simp only [ZA,ZB,ZC,ZD,ZE,ZF,ZG,ZH,ZI,ZJ,ZK,ZL,ZM,ZN,ZO,Int.toNat_natCast,UInt8.ofNat_toNat,cast_eq] at *)
      · have h : i < l.length := by omega
        rw [attrsOk, all_false_at h (d := attrTy.dflt)]
        · simp
        · simp_all; omega
      · have h : i < l.length := by omega
        refine Rnd.mk ⟨i + 1, ?_, ?_, ?_⟩
        · refine ⟨by omega, ?_⟩
          rw [take_all _ l i attrTy.dflt h, ha]
          simp_all
          omega
        · omega
        · repeat' ((conv => whnf);first|(with_reducible first|rfl|exact absTF|exact absFT)|exact True.intro|intro _|refine And.intro ?_ ?_|refine Fin.mk ?_|refine W1 rfl ?_ ?_|refine W2 rfl ?_ ?_|refine W3 rfl ?_ ?_|refine W4 ?_ ?_|refine W5 rfl ?_ ?_|refine W6 ?_ ?_|refine AppN.mk ?_|refine X1 (W1 rfl ?_ ?_)|refine X1 (W2 rfl ?_ ?_)|refine X2 (W7 rfl ?_ ?_)|refine X3 (W7 rfl ?_ ?_)|refine X4 (W7 rfl ?_ ?_)|refine X5 (W7 rfl ?_ ?_))
          all_goals (try (conv => whnf))
          all_goals (try first|exact Ob.mk (u8_bnd _)|(refine Ob.mk ?_;first|exact True.intro|assumption|omega|(try simp only [ZA,ZB,ZC,ZD,ZE,ZF,ZG,ZH,ZI,ZJ,ZK,ZL,ZM,ZN,ZO,Int.toNat_natCast,UInt8.ofNat_toNat,cast_eq] at *;omega)))
          all_goals (try first|(show (_:Int) = _;omega)|(show tupSV _ = _;with_unfolding_all rfl)|((first|show (_:Nat) ≤ _|show (_:Nat) ≤ _ ∧ (_:Nat) ≤ _|show (_:Int) ≤ _ ∧ (_:Int) ≤ _ ∧ (_:Int) ≤ _ ∧ (_:Int) ≤ _);(simp <;> omega)))
      · have : i = l.length := by omega
        subst this
        rw [List.take_length] at ha
        rw [attrsOk, ha, decide_eq_true (by omega)]; rfl
end Go.Vc

namespace Go.Vc
open Go.Proofs
set_option maxRecDepth 10000
instance f14 (l : List Int) : FnM BB 79 [.rd intTy l] [] (l.length ≤ 100000) (.own 0) [(0, .own intTy l)] := by
  refine FnM.intro (N := 8) [0, 2, 4] [] 1 Try.call79 Try.func79 rfl rfl (by kernel_rfl) (fun hpre => ?_)
  repeat' ((conv => whnf);first|(with_reducible first|rfl|exact absTF|exact absFT)|exact True.intro|intro _|refine And.intro ?_ ?_|refine Fin.mk ?_|refine W1 rfl ?_ ?_|refine W2 rfl ?_ ?_|refine W3 rfl ?_ ?_|refine W4 ?_ ?_|refine W5 rfl ?_ ?_|refine W6 ?_ ?_|refine AppN.mk ?_|refine X1 (W1 rfl ?_ ?_)|refine X1 (W2 rfl ?_ ?_)|refine X2 (W7 rfl ?_ ?_)|refine X3 (W7 rfl ?_ ?_)|refine X4 (W7 rfl ?_ ?_)|refine X5 (W7 rfl ?_ ?_))
  all_goals (try (conv => whnf))
  all_goals (try first|exact Ob.mk (u8_bnd _)|(refine Ob.mk ?_;first|exact True.intro|assumption|omega|(try simp only [ZA,ZB,ZC,ZD,ZE,ZF,ZG,ZH,ZI,ZJ,ZK,ZL,ZM,ZN,ZO,Int.toNat_natCast,UInt8.ofNat_toNat,cast_eq] at *;omega)))
  all_goals (try first|(show (_:Int) = _;omega)|(show tupSV _ = _;with_unfolding_all rfl)|((first|show (_:Nat) ≤ _|show (_:Nat) ≤ _ ∧ (_:Nat) ≤ _|show (_:Int) ≤ _ ∧ (_:Int) ≤ _ ∧ (_:Int) ≤ _ ∧ (_:Int) ≤ _);(simp <;> omega)))
  all_goals (try simp_all)
instance f36 (l : List AttrD) : FnM BB 76 [.rd attrTy l] [] (l.length ≤ 100000) (.own 0) [(0, .own attrTy l)] := by
  refine FnM.intro (N := 8) [0, 2, 4] [] 1 Try.call76 Try.func76 rfl rfl (by kernel_rfl) (fun hpre => ?_)
  repeat' ((conv => whnf);first|(with_reducible first|rfl|exact absTF|exact absFT)|exact True.intro|intro _|refine And.intro ?_ ?_|refine Fin.mk ?_|refine W1 rfl ?_ ?_|refine W2 rfl ?_ ?_|refine W3 rfl ?_ ?_|refine W4 ?_ ?_|refine W5 rfl ?_ ?_|refine W6 ?_ ?_|refine AppN.mk ?_|refine X1 (W1 rfl ?_ ?_)|refine X1 (W2 rfl ?_ ?_)|refine X2 (W7 rfl ?_ ?_)|refine X3 (W7 rfl ?_ ?_)|refine X4 (W7 rfl ?_ ?_)|refine X5 (W7 rfl ?_ ?_))
  all_goals (try (conv => whnf))
  all_goals (try first|exact Ob.mk (u8_bnd _)|(refine Ob.mk ?_;first|exact True.intro|assumption|omega|(try simp only [ZA,ZB,ZC,ZD,ZE,ZF,ZG,ZH,ZI,ZJ,ZK,ZL,ZM,ZN,ZO,Int.toNat_natCast,UInt8.ofNat_toNat,cast_eq] at *;omega)))
  all_goals (try first|(show (_:Int) = _;omega)|(show tupSV _ = _;with_unfolding_all rfl)|((first|show (_:Nat) ≤ _|show (_:Nat) ≤ _ ∧ (_:Nat) ≤ _|show (_:Int) ≤ _ ∧ (_:Int) ≤ _ ∧ (_:Int) ≤ _ ∧ (_:Int) ≤ _);(simp <;> omega)))
  all_goals (try simp_all)
def ixOf (l : List Int) (w : Int) : Int := if l.contains w then (l.idxOf w : Int) else -1
theorem ixOf_none {l : List Int} {w : Int} (h : l.contains w = false) : ixOf l w = -1 := by rw [ixOf, h]; rfl
theorem take_has (l : List Int) (i : Nat) (w : Int) (h : i < l.length) : (l.take (i+1)).contains w = ((l.take i).contains w || (l.getD i 0 == w)) := by
  rw [take_snoc l i 0 h]
  simp only [List.contains_eq_any_beq, List.any_append, List.any_cons, List.any_nil, Bool.or_false]
  congr 1
  exact Bool.beq_comm
theorem ixOf_at {l : List Int} {w : Int} {i : Nat} (h : i < l.length) (h1 : (l.take i).contains w = false) (h2 : w = l.getD i 0) : ixOf l w = i := by
  have hc : l.contains w = true := by rw [h2]; simp [List.getD, List.getElem?_eq_getElem h]
  rw [ixOf, hc, if_pos rfl]
  have e := List.take_append_drop i l
  rw [← e, List.idxOf_append, if_neg (by simpa using h1), List.length_take, Nat.min_eq_left (by omega)]
  have e2 : l.drop i = w :: l.drop (i+1) := by rw [List.drop_eq_getElem_cons h, h2]; simp [List.getD, List.getElem?_eq_getElem h]
  rw [e2, List.idxOf_cons_self]; simp
instance f41 (l : List Int) (w : Int) : Fn BB 64 [.rd intTy l, .int .i64 w] True (.int .i64 (ixOf l w)) := by
  refine Fn.intro (N := 19) [0, 1, 4, 5, 7, 8, 9, 16] [] Try.call64 Try.func64 rfl rfl (by kernel_rfl) (fun hpre => ?_)
  repeat' ((conv => whnf);first|(with_reducible first|rfl|exact absTF|exact absFT)|exact True.intro|intro _|refine And.intro ?_ ?_|refine Fin.mk ?_|refine W1 rfl ?_ ?_|refine W2 rfl ?_ ?_|refine W3 rfl ?_ ?_|refine W4 ?_ ?_|refine W5 rfl ?_ ?_|refine W6 ?_ ?_|refine AppN.mk ?_|refine X1 (W1 rfl ?_ ?_)|refine X1 (W2 rfl ?_ ?_)|refine X2 (W7 rfl ?_ ?_)|refine X3 (W7 rfl ?_ ?_)|refine X4 (W7 rfl ?_ ?_)|refine X5 (W7 rfl ?_ ?_))
  all_goals (try (conv => whnf))
  refine LoopStop.mk (α := Nat) (fun i => [(8, .int .i64 i)]) (fun i => []) 20 (fun i => i ≤ l.length ∧ (l.take i).contains w = false) (fun i => l.length - i) 0 (by simp) ?_ (fun i hi => ?_)
  · repeat' ((conv => whnf);first|(with_reducible first|rfl|exact absTF|exact absFT)|exact True.intro|intro _|refine And.intro ?_ ?_|refine Fin.mk ?_|refine W1 rfl ?_ ?_|refine W2 rfl ?_ ?_|refine W3 rfl ?_ ?_|refine W4 ?_ ?_|refine W5 rfl ?_ ?_|refine W6 ?_ ?_|refine AppN.mk ?_|refine X1 (W1 rfl ?_ ?_)|refine X1 (W2 rfl ?_ ?_)|refine X2 (W7 rfl ?_ ?_)|refine X3 (W7 rfl ?_ ?_)|refine X4 (W7 rfl ?_ ?_)|refine X5 (W7 rfl ?_ ?_))
    all_goals (try (conv => whnf))
    all_goals (try rfl)
  · obtain ⟨hi, ha⟩ := hi
    repeat' ((conv => whnf);first|(with_reducible first|rfl|exact absTF|exact absFT)|exact True.intro|intro _|refine And.intro ?_ ?_|refine Fin.mk ?_|refine W1 rfl ?_ ?_|refine W2 rfl ?_ ?_|refine W3 rfl ?_ ?_|refine W4 ?_ ?_|refine W5 rfl ?_ ?_|refine W6 ?_ ?_|refine AppN.mk ?_|refine X1 (W1 rfl ?_ ?_)|refine X1 (W2 rfl ?_ ?_)|refine X2 (W7 rfl ?_ ?_)|refine X3 (W7 rfl ?_ ?_)|refine X4 (W7 rfl ?_ ?_)|refine X5 (W7 rfl ?_ ?_))
    all_goals (try (conv => whnf))
    all_goals (try first|exact Ob.mk (u8_bnd _)|(refine Ob.mk ?_;first|exact True.intro|assumption|omega|(try simp only [ZA,ZB,ZC,ZD,ZE,ZF,ZG,ZH,ZI,ZJ,ZK,ZL,ZM,ZN,ZO,Int.toNat_natCast,UInt8.ofNat_toNat,cast_eq] at *;omega)))
    all_goals (try first|(show (_:Int) = _;omega)|(show tupSV _ = _;with_unfolding_all rfl)|((first|show (_:Nat) ≤ _|show (_:Nat) ≤ _ ∧ (_:Nat) ≤ _|show (_:Int) ≤ _ ∧ (_:Int) ≤ _ ∧ (_:Int) ≤ _ ∧ (_:Int) ≤ _);(simp <;> omega)))
    all_goals (try simp only [ZA,ZB,ZC,ZD,ZE,ZF,ZG,ZH,ZI,ZJ,ZK,ZL,ZM,ZN,ZO,Int.toNat_natCast,UInt8.ofNat_toNat,cast_eq] at *)
    · rw [ixOf_at (i := i) (by omega) (by simpa using ha) (by assumption)]
    · have h : i < l.length := by omega
      refine Rnd.mk ⟨i + 1, ?_, ?_, ?_⟩
      · refine ⟨by omega, ?_⟩
        rw [take_has l i w h, Bool.or_eq_false_iff]
        refine ⟨by simpa using ha, beq_eq_false_iff_ne.2 fun e => ?_⟩
        simp_all
      · omega
      · repeat' ((conv => whnf);first|(with_reducible first|rfl|exact absTF|exact absFT)|exact True.intro|intro _|refine And.intro ?_ ?_|refine Fin.mk ?_|refine W1 rfl ?_ ?_|refine W2 rfl ?_ ?_|refine W3 rfl ?_ ?_|refine W4 ?_ ?_|refine W5 rfl ?_ ?_|refine W6 ?_ ?_|refine AppN.mk ?_|refine X1 (W1 rfl ?_ ?_)|refine X1 (W2 rfl ?_ ?_)|refine X2 (W7 rfl ?_ ?_)|refine X3 (W7 rfl ?_ ?_)|refine X4 (W7 rfl ?_ ?_)|refine X5 (W7 rfl ?_ ?_))
        all_goals (try (conv => whnf))
        all_goals (try first|exact Ob.mk (u8_bnd _)|(refine Ob.mk ?_;first|exact True.intro|assumption|omega|(try simp only [ZA,ZB,ZC,ZD,ZE,ZF,ZG,ZH,ZI,ZJ,ZK,ZL,ZM,ZN,ZO,Int.toNat_natCast,UInt8.ofNat_toNat,cast_eq] at *;omega)))
        all_goals (try first|(show (_:Int) = _;omega)|(show tupSV _ = _;with_unfolding_all rfl)|((first|show (_:Nat) ≤ _|show (_:Nat) ≤ _ ∧ (_:Nat) ≤ _|show (_:Int) ≤ _ ∧ (_:Int) ≤ _ ∧ (_:Int) ≤ _ ∧ (_:Int) ≤ _);(simp <;> omega)))
    · have : i = l.length := by omega
      subst this
      rw [ixOf_none (by simpa using ha)]
end Go.Vc

namespace Go.Vc
open Go.Proofs
set_option maxRecDepth 10000
abbrev nd (l : List NodeD) (i : Int) : NodeD := l.getD i.toNat nodeTy.dflt
def placeT (l : List NodeD) (kid : Int) : Int := if isT l kid && isT l (nd l kid).up then ixOf (nd l (nd l kid).up).kids kid else -1
theorem isT_iff {l : List NodeD} {i : Int} : isT l i = true ↔ 0 ≤ i ∧ i < l.length := by simp [isT]
theorem not_or_true {a b : Bool} (h : (!a || !b) = true) : (a && b) = false := by cases a <;> cases b <;> simp_all
theorem not_or_false {a b : Bool} (h : (!a || !b) = false) : a = true ∧ b = true := by cases a <;> cases b <;> simp_all
instance f34 (l : List NodeD) (kid : Int) : Fn BB 50 [.agg [.rd nodeTy l], .int .i64 kid] True (.int .i64 (placeT l kid)) := by
  refine Fn.intro (N := 33) [0, 1, 2, 4, 19] [(1, [1, 0, 1, 1, 1, 1, 1, 1, 1, 1, 1, 1, 3, 3, 3]), (3, [0, 1, 0, 1, 0, 1, 1, 1, 3, 3, 3, 0, 3, 3])] Try.call50 Try.func50 rfl rfl (by kernel_rfl) (fun hpre => ?_)
  repeat' ((conv => whnf);first|(with_reducible first|rfl|exact absTF|exact absFT)|exact True.intro|intro _|refine And.intro ?_ ?_|refine Fin.mk ?_|refine W1 rfl ?_ ?_|refine W2 rfl ?_ ?_|refine W3 rfl ?_ ?_|refine W4 ?_ ?_|refine W5 rfl ?_ ?_|refine W6 ?_ ?_|refine AppN.mk ?_|refine X1 (W1 rfl ?_ ?_)|refine X1 (W2 rfl ?_ ?_)|refine X2 (W7 rfl ?_ ?_)|refine X3 (W7 rfl ?_ ?_)|refine X4 (W7 rfl ?_ ?_)|refine X5 (W7 rfl ?_ ?_))
  all_goals (try (conv => whnf))
  all_goals (try first|exact Ob.mk (u8_bnd _)|(refine Ob.mk ?_;first|exact True.intro|assumption|omega|(try simp only [ZA,ZB,ZC,ZD,ZE,ZF,ZG,ZH,ZI,ZJ,ZK,ZL,ZM,ZN,ZO,Int.toNat_natCast,UInt8.ofNat_toNat,cast_eq] at *;omega)))
  all_goals (try first|(show (_:Int) = _;omega)|(show tupSV _ = _;with_unfolding_all rfl)|((first|show (_:Nat) ≤ _|show (_:Nat) ≤ _ ∧ (_:Nat) ≤ _|show (_:Int) ≤ _ ∧ (_:Int) ≤ _ ∧ (_:Int) ≤ _ ∧ (_:Int) ≤ _);(simp <;> omega)))
  · exact isT_iff.1 (by simp_all)
  · rename_i h
    rw [placeT]
    have h := not_or_true h
    rw [show (isT l kid && isT l (nd l kid).up) = false from h]; rfl
  · exact isT_iff.1 (not_or_false ‹_›).1
  · exact isT_iff.1 (not_or_false ‹_›).2
  · rename_i h
    obtain ⟨h1, h2⟩ := not_or_false h
    rw [placeT, show isT l (nd l kid).up = true from h2, h1]; rfl
def holdsF : Nat → List NodeD → Int → Int → Bool
  | 0, _, _, _ => false
  | n + 1, l, up, kid => if isT l kid then (if kid = up then true else holdsF n l up (nd l kid).up) else false
def holdsT (l : List NodeD) (up kid : Int) : Bool := isT l up && holdsF (l.length + 1) l up kid
instance f35 (l : List NodeD) (up kid : Int) : Fn BB 51 [.agg [.rd nodeTy l], .int .i64 up, .int .i64 kid] (l.length ≤ 100000) (.bool (holdsT l up kid)) := by
  refine Fn.intro (N := 31) [0, 1, 2, 3, 6, 10, 14, 15, 16, 20, 23] [] Try.call51 Try.func51 rfl rfl (by kernel_rfl) (fun hpre => ?_)
  repeat' ((conv => whnf);first|(with_reducible first|rfl|exact absTF|exact absFT)|exact True.intro|intro _|refine And.intro ?_ ?_|refine Fin.mk ?_|refine W1 rfl ?_ ?_|refine W2 rfl ?_ ?_|refine W3 rfl ?_ ?_|refine W4 ?_ ?_|refine W5 rfl ?_ ?_|refine W6 ?_ ?_|refine AppN.mk ?_|refine X1 (W1 rfl ?_ ?_)|refine X1 (W2 rfl ?_ ?_)|refine X2 (W7 rfl ?_ ?_)|refine X3 (W7 rfl ?_ ?_)|refine X4 (W7 rfl ?_ ?_)|refine X5 (W7 rfl ?_ ?_))
  all_goals (try (conv => whnf))
  all_goals (try first|exact Ob.mk (u8_bnd _)|(refine Ob.mk ?_;first|exact True.intro|assumption|omega|(try simp only [ZA,ZB,ZC,ZD,ZE,ZF,ZG,ZH,ZI,ZJ,ZK,ZL,ZM,ZN,ZO,Int.toNat_natCast,UInt8.ofNat_toNat,cast_eq] at *;omega)))
  all_goals (try first|(show (_:Int) = _;omega)|(show tupSV _ = _;with_unfolding_all rfl)|((first|show (_:Nat) ≤ _|show (_:Nat) ≤ _ ∧ (_:Nat) ≤ _|show (_:Int) ≤ _ ∧ (_:Int) ≤ _ ∧ (_:Int) ≤ _ ∧ (_:Int) ≤ _);(simp <;> omega)))
  · simp_all [holdsT]
  · refine LoopStop.mk (α := Nat × Int) (fun x => [(15, .int .i64 x.1), (2, .int .i64 x.2)]) (fun _ => []) 20 (fun x => x.1 ≤ l.length + 1 ∧ holdsF (l.length + 1 - x.1) l up x.2 = holdsF (l.length + 1) l up kid) (fun x => l.length + 1 - x.1) (0, kid) (by simp) ?_ (fun x hx => ?_)
    · repeat' ((conv => whnf);first|(with_reducible first|rfl|exact absTF|exact absFT)|exact True.intro|intro _|refine And.intro ?_ ?_|refine Fin.mk ?_|refine W1 rfl ?_ ?_|refine W2 rfl ?_ ?_|refine W3 rfl ?_ ?_|refine W4 ?_ ?_|refine W5 rfl ?_ ?_|refine W6 ?_ ?_|refine AppN.mk ?_|refine X1 (W1 rfl ?_ ?_)|refine X1 (W2 rfl ?_ ?_)|refine X2 (W7 rfl ?_ ?_)|refine X3 (W7 rfl ?_ ?_)|refine X4 (W7 rfl ?_ ?_)|refine X5 (W7 rfl ?_ ?_))
      all_goals (try (conv => whnf))
      all_goals (try rfl)
    · obtain ⟨i, k⟩ := x
      obtain ⟨hi, ha⟩ := hx
      have hstep : i < l.length + 1 → holdsF (l.length + 1 - i) l up k = if isT l k then (if k = up then true else holdsF (l.length + 1 - (i + 1)) l up (nd l k).up) else false := by
        intro h
        rw [show l.length + 1 - i = (l.length + 1 - (i + 1)) + 1 by omega]; rfl
      dsimp only at hi ha
      have hg : holdsT l up kid = (isT l up && holdsF (l.length + 1 - i) l up k) := by rw [holdsT, ha]
      repeat' ((conv => whnf);first|(with_reducible first|rfl|exact absTF|exact absFT)|exact True.intro|intro _|refine And.intro ?_ ?_|refine Fin.mk ?_|refine W1 rfl ?_ ?_|refine W2 rfl ?_ ?_|refine W3 rfl ?_ ?_|refine W4 ?_ ?_|refine W5 rfl ?_ ?_|refine W6 ?_ ?_|refine AppN.mk ?_|refine X1 (W1 rfl ?_ ?_)|refine X1 (W2 rfl ?_ ?_)|refine X2 (W7 rfl ?_ ?_)|refine X3 (W7 rfl ?_ ?_)|refine X4 (W7 rfl ?_ ?_)|refine X5 (W7 rfl ?_ ?_))
      all_goals (try (conv => whnf))
      all_goals (try first|exact Ob.mk (u8_bnd _)|(refine Ob.mk ?_;first|exact True.intro|assumption|omega|(try simp only [ZA,ZB,ZC,ZD,ZE,ZF,ZG,ZH,ZI,ZJ,ZK,ZL,ZM,ZN,ZO,Int.toNat_natCast,UInt8.ofNat_toNat,cast_eq] at *;omega)))
      all_goals (try first|(show (_:Int) = _;omega)|(show tupSV _ = _;with_unfolding_all rfl)|((first|show (_:Nat) ≤ _|show (_:Nat) ≤ _ ∧ (_:Nat) ≤ _|show (_:Int) ≤ _ ∧ (_:Int) ≤ _ ∧ (_:Int) ≤ _ ∧ (_:Int) ≤ _);(simp <;> omega)))
      all_goals (simp only [decide_eq_true_eq, decide_eq_false_iff_not, beq_iff_eq, beq_eq_false_iff_ne, Bool.not_eq_true', Bool.not_eq_false'] at *)
      · rw [hg, hstep (by omega)]; simp_all
      · rw [hg, hstep (by omega)]; simp_all
      · exact isT_iff.1 ‹_›
      · refine Rnd.mk ⟨(i + 1, (nd l k).up), ?_, ?_, ?_⟩
        · refine ⟨by omega, ?_⟩
          rw [← ha, hstep (by omega)]
          simp_all
        · simp only []; omega
        · repeat' ((conv => whnf);first|(with_reducible first|rfl|exact absTF|exact absFT)|exact True.intro|intro _|refine And.intro ?_ ?_|refine Fin.mk ?_|refine W1 rfl ?_ ?_|refine W2 rfl ?_ ?_|refine W3 rfl ?_ ?_|refine W4 ?_ ?_|refine W5 rfl ?_ ?_|refine W6 ?_ ?_|refine AppN.mk ?_|refine X1 (W1 rfl ?_ ?_)|refine X1 (W2 rfl ?_ ?_)|refine X2 (W7 rfl ?_ ?_)|refine X3 (W7 rfl ?_ ?_)|refine X4 (W7 rfl ?_ ?_)|refine X5 (W7 rfl ?_ ?_))
          all_goals (try (conv => whnf))
          all_goals (try first|exact Ob.mk (u8_bnd _)|(refine Ob.mk ?_;first|exact True.intro|assumption|omega|(try simp only [ZA,ZB,ZC,ZD,ZE,ZF,ZG,ZH,ZI,ZJ,ZK,ZL,ZM,ZN,ZO,Int.toNat_natCast,UInt8.ofNat_toNat,cast_eq] at *;omega)))
          all_goals (try first|(show (_:Int) = _;omega)|(show tupSV _ = _;with_unfolding_all rfl)|((first|show (_:Nat) ≤ _|show (_:Nat) ≤ _ ∧ (_:Nat) ≤ _|show (_:Int) ≤ _ ∧ (_:Int) ≤ _ ∧ (_:Int) ≤ _ ∧ (_:Int) ≤ _);(simp <;> omega)))
          all_goals (try rfl)
      · have : i = l.length + 1 := by omega
        subst this
        rw [hg]
        simp [holdsF]
theorem take_eq_snoc {α : Type} {a b : List α} {i : Nat} {d : α} (h : i < a.length) (hl : a.length = b.length) (ht : a.take i = b.take i) (he : a.getD i d = b.getD i d) : a.take (i + 1) = b.take (i + 1) := by
  rw [take_snoc a i d h, take_snoc b i d (by omega), ht, he]
instance f54 (a b : List AttrD) : Fn BB 39 [.rd attrTy a, .rd attrTy b] True (.bool (decide (a = b))) := by
  refine Fn.intro (N := 26) [0, 1, 4, 5, 10, 14, 25] [(6, [0, 0, 1, 1, 0, 0, 1, 1, 3])] Try.call39 Try.func39 rfl rfl (by kernel_rfl) (fun hpre => ?_)
  repeat' ((conv => whnf);first|(with_reducible first|rfl|exact absTF|exact absFT)|exact True.intro|intro _|refine And.intro ?_ ?_|refine Fin.mk ?_|refine W1 rfl ?_ ?_|refine W2 rfl ?_ ?_|refine W3 rfl ?_ ?_|refine W4 ?_ ?_|refine W5 rfl ?_ ?_|refine W6 ?_ ?_|refine AppN.mk ?_|refine X1 (W1 rfl ?_ ?_)|refine X1 (W2 rfl ?_ ?_)|refine X2 (W7 rfl ?_ ?_)|refine X3 (W7 rfl ?_ ?_)|refine X4 (W7 rfl ?_ ?_)|refine X5 (W7 rfl ?_ ?_))
  all_goals (try (conv => whnf))
  · refine (decide_eq_false fun e => ?_).symm
    subst e; simp_all
  · refine LoopStop.mk (α := Nat) (fun i => [(5, .int .i64 i)]) (fun _ => []) 20 (fun i => i ≤ a.length ∧ a.take i = b.take i) (fun i => a.length - i) 0 (by simp) ?_ (fun i hi => ?_)
    · repeat' ((conv => whnf);first|(with_reducible first|rfl|exact absTF|exact absFT)|exact True.intro|intro _|refine And.intro ?_ ?_|refine Fin.mk ?_|refine W1 rfl ?_ ?_|refine W2 rfl ?_ ?_|refine W3 rfl ?_ ?_|refine W4 ?_ ?_|refine W5 rfl ?_ ?_|refine W6 ?_ ?_|refine AppN.mk ?_|refine X1 (W1 rfl ?_ ?_)|refine X1 (W2 rfl ?_ ?_)|refine X2 (W7 rfl ?_ ?_)|refine X3 (W7 rfl ?_ ?_)|refine X4 (W7 rfl ?_ ?_)|refine X5 (W7 rfl ?_ ?_))
      all_goals (try (conv => whnf))
      all_goals (try rfl)
    · obtain ⟨hi, ha⟩ := hi
      repeat' ((conv => whnf);first|(with_reducible first|rfl|exact absTF|exact absFT)|exact True.intro|intro _|refine And.intro ?_ ?_|refine Fin.mk ?_|refine W1 rfl ?_ ?_|refine W2 rfl ?_ ?_|refine W3 rfl ?_ ?_|refine W4 ?_ ?_|refine W5 rfl ?_ ?_|refine W6 ?_ ?_|refine AppN.mk ?_|refine X1 (W1 rfl ?_ ?_)|refine X1 (W2 rfl ?_ ?_)|refine X2 (W7 rfl ?_ ?_)|refine X3 (W7 rfl ?_ ?_)|refine X4 (W7 rfl ?_ ?_)|refine X5 (W7 rfl ?_ ?_))
      all_goals (try (conv => whnf))
      all_goals (try first|exact Ob.mk (u8_bnd _)|(refine Ob.mk ?_;first|exact True.intro|assumption|omega|(try simp only [ZA,ZB,ZC,ZD,ZE,ZF,ZG,ZH,ZI,ZJ,ZK,ZL,ZM,ZN,ZO,Int.toNat_natCast,UInt8.ofNat_toNat,cast_eq] at *;omega)))
      all_goals (try first|(show (_:Int) = _;omega)|(show tupSV _ = _;with_unfolding_all rfl)|((first|show (_:Nat) ≤ _|show (_:Nat) ≤ _ ∧ (_:Nat) ≤ _|show (_:Int) ≤ _ ∧ (_:Int) ≤ _ ∧ (_:Int) ≤ _ ∧ (_:Int) ≤ _);(simp <;> omega)))
      all_goals (simp only [decide_eq_true_eq, decide_eq_false_iff_not, bne_eq_false_iff_eq, Bool.not_eq_true', Bool.not_eq_false', Bool.and_true] at *)
      · refine (decide_eq_false fun e => ?_).symm
        subst e; simp_all
      · rename_i h
        simp only [Bool.and_eq_true, beq_iff_eq] at h
        have hil : i < a.length := by omega
        refine Rnd.mk ⟨i + 1, ?_, ?_, ?_⟩
        · exact ⟨by omega, take_eq_snoc (d := attrTy.dflt) hil (by omega) ha (Prod.ext h.1 h.2)⟩
        · omega
        · repeat' ((conv => whnf);first|(with_reducible first|rfl|exact absTF|exact absFT)|exact True.intro|intro _|refine And.intro ?_ ?_|refine Fin.mk ?_|refine W1 rfl ?_ ?_|refine W2 rfl ?_ ?_|refine W3 rfl ?_ ?_|refine W4 ?_ ?_|refine W5 rfl ?_ ?_|refine W6 ?_ ?_|refine AppN.mk ?_|refine X1 (W1 rfl ?_ ?_)|refine X1 (W2 rfl ?_ ?_)|refine X2 (W7 rfl ?_ ?_)|refine X3 (W7 rfl ?_ ?_)|refine X4 (W7 rfl ?_ ?_)|refine X5 (W7 rfl ?_ ?_))
          all_goals (try (conv => whnf))
          all_goals (try first|exact Ob.mk (u8_bnd _)|(refine Ob.mk ?_;first|exact True.intro|assumption|omega|(try simp only [ZA,ZB,ZC,ZD,ZE,ZF,ZG,ZH,ZI,ZJ,ZK,ZL,ZM,ZN,ZO,Int.toNat_natCast,UInt8.ofNat_toNat,cast_eq] at *;omega)))
          all_goals (try first|(show (_:Int) = _;omega)|(show tupSV _ = _;with_unfolding_all rfl)|((first|show (_:Nat) ≤ _|show (_:Nat) ≤ _ ∧ (_:Nat) ≤ _|show (_:Int) ≤ _ ∧ (_:Int) ≤ _ ∧ (_:Int) ≤ _ ∧ (_:Int) ≤ _);(simp <;> omega)))
      · have : i = a.length := by omega
        subst this
        refine (decide_eq_true ?_).symm
        rw [List.take_length, List.take_of_length_le (by omega)] at ha
        exact ha
end Go.Vc

namespace Go.Vc
open Go.Proofs
set_option maxRecDepth 10000
noncomputable def eqB {α : Type} (a b : α) : Bool := @decide (a = b) (Classical.propDecidable _)
theorem eqB_true {α : Type} {a b : α} (h : a = b) : true = eqB a b := by unfold eqB; simp [h]
theorem eqB_false {α : Type} {a b : α} (h : a ≠ b) : false = eqB a b := by unfold eqB; simp [h]
theorem eqB_iff {α : Type} {a b : α} : eqB a b = true ↔ a = b := by unfold eqB; simp
theorem eqB_no {α : Type} {a b : α} : eqB a b = false ↔ a ≠ b := by unfold eqB; simp
end Go.Vc

namespace Go.Vc
open Go.Proofs
set_option maxRecDepth 10000
def smallT (l : List NodeD) : Bool := decide (l.length ≤ 1000) && l.all fun n => decide (n.2.2.2.1.length ≤ 1000) && decide (n.kids.length ≤ 1000)
end Go.Vc

/-
  DERIVED: THE SHELF's CONTRACTS AT THIS DUMP, IN PLAIN WORDS (tools/lay-plain.mjs out of 'TryShelf.lean', which tools/lay-shelf.mjs wrote): THE SAME DECLARATIONS UNDER THE SAME NAMES: 'import', 'namespace', 'open', 'def', 'theorem' AND NOTHING ELSE: no command of the shelf's: FOR A HAND-IN. Each laying: the table of numbers ('.._ren') and one theorem, a field a fact of the dump's own or the kernel's comparison; each contract: ONE APPLICATION.
-/
namespace Go.Proofs
open Go.Shelf
def Try.lays219_ren : Go.Shelf.Ren := ⟨fun | 219 => 134 | 217 => 142 | 225 => 143 | 224 => 144 | 267 => 145 | 266 => 147 | 314 => 148 | n => n, fun | 9 => 9 | 3 => 3 | 4 => 4 | 5 => 5 | 46 => 158 | 146 => 164 | 51 => 163 | n => n, fun | 1 => 0 | n => n⟩
def Try.lays143_ren : Go.Shelf.Ren := ⟨fun | 143 => 123 | 219 => 134 | 217 => 142 | 225 => 143 | 224 => 144 | 267 => 145 | 266 => 147 | 314 => 148 | n => n, fun | 9 => 9 | 3 => 3 | 4 => 4 | 5 => 5 | 46 => 158 | 146 => 164 | 51 => 163 | n => n, fun | 1 => 0 | n => n⟩
theorem Try.lays143 : Go.Proofs.Lays.n143 Try.prog Try.lays143_ren := {
  mixed := by kernel_rfl
  f143 := Try.func123.trans (congrArg some (by kernel_rfl))
  f217 := Try.func142.trans (congrArg some (by kernel_rfl))
  f219 := Try.func134.trans (congrArg some (by kernel_rfl))
  f224 := Try.func144.trans (congrArg some (by kernel_rfl))
  f225 := Try.func143.trans (congrArg some (by kernel_rfl))
  f266 := Try.func147.trans (congrArg some (by kernel_rfl))
  f267 := Try.func145.trans (congrArg some (by kernel_rfl))
  f314 := Try.func148.trans (congrArg some (by kernel_rfl))
  t3 := Try.underlying3
  a3 := Try.isAgg3
  z3 := Try.sizeOf3
  v3 := Try.zeroValue3
  t4 := Try.underlying4
  a4 := Try.isAgg4
  z4 := Try.sizeOf4
  v4 := Try.zeroValue4
  t5 := Try.underlying5
  a5 := Try.isAgg5
  z5 := Try.sizeOf5
  v5 := Try.zeroValue5
  t9 := Try.underlying9
  a9 := Try.isAgg9
  z9 := Try.sizeOf9
  v9 := Try.zeroValue9
  t46 := Try.underlying158
  a46 := Try.isAgg158
  z46 := Try.sizeOf158
  v46 := Try.zeroValue158
  t51 := Try.underlying163
  a51 := Try.isAgg163
  z51 := Try.sizeOf163
  v51 := Try.zeroValue163
  t146 := Try.underlying164
  a146 := Try.isAgg164
  z146 := Try.sizeOf164
  v146 := Try.zeroValue164
  g1 := by kernel_rfl }
open Go.RowKit Go.Lib in
theorem Try.strings_Index (s sub : ByteArray) (m : Int) (w : World) (hs : s.size < 4294967281) (hm : w.cell? ⟨0, 0, none⟩ = some (.int .i64 m)) :
    Calls Try.prog 123 #[.string s, .string sub] w fun e w' => e = .returned (.int .i64 (Lib.index s.data.toList sub.data.toList)) ∧ w' = w := Any.strings_Index Try.lays143 s sub m w hs hm
def Try.laysNm223_ren : Go.Shelf.Ren := ⟨fun | 23 => 78 | n => n, fun | 22 => 28 | 3 => 3 | 4 => 4 | 0 => 0 | n => n, fun | n => n⟩
theorem Try.laysNm223 : Go.Proofs.Lays2.n23 Try.prog Try.laysNm223_ren := {
  mixed := by kernel_rfl
  f23 := Try.func78.trans (congrArg some (by kernel_rfl))
  t0 := Try.underlying0
  a0 := Try.isAgg0
  z0 := Try.sizeOf0
  v0 := Try.zeroValue0
  t3 := Try.underlying3
  a3 := Try.isAgg3
  z3 := Try.sizeOf3
  v3 := Try.zeroValue3
  t4 := Try.underlying4
  a4 := Try.isAgg4
  z4 := Try.sizeOf4
  v4 := Try.zeroValue4
  t22 := Try.underlying28
  a22 := Try.isAgg28
  z22 := Try.sizeOf28
  v22 := Try.zeroValue28
  i3 := by kernel_rfl }
open Go.RowKit Go.Lib Go.Sort in
theorem Try.slices_Delete_int_cells (b off n c i j : Nat) (zs : List Int) (w : World) (hz : n ≤ zs.length) (hcap : n ≤ c) (hm : c ≤ 9223372036854775807) (hij : i ≤ j) (hj : j ≤ n) (hc : ∀ j, j < zs.length → w.cell? ⟨b, off + j, none⟩ = some (.int .i64 (zs.getD j 0))) (hf : ∀ j, j < n → w.frozen? ⟨b, off + j, none⟩ = false) :
    Calls Try.prog 78 #[.slice (some ⟨b, off, none⟩) n c, .int .i64 i, .int .i64 j] w fun e w' => e = .returned (.slice (some ⟨b, off, none⟩) (n - (j - i)) c) ∧ ∃ q, w' = (w.drewN q).setCells b off (((zs.take n).take i ++ (zs.take n).drop j ++ List.replicate (j - i) 0).map (Value.int .i64)) := Any.slices_Delete_int_cells Try.laysNm223 b off n c i j zs w hz hcap hm hij hj hc hf
open Go.RowKit Go.Lib in
theorem Try.slices_Delete_int_empty (a : Option Addr) (c : Nat) (w : World) :
    Calls Try.prog 78 #[.slice a 0 c, .int .i64 0, .int .i64 0] w fun e w' => e = .returned (.slice a 0 c) ∧ w' = w := Any.slices_Delete_int_empty Try.laysNm223 a c w
def Try.laysNm221_ren : Go.Shelf.Ren := ⟨fun | 21 => 82 | 27 => 108 | 28 => 109 | 35 => 128 | 39 => 139 | n => n, fun | 22 => 28 | 3 => 3 | 4 => 4 | 0 => 0 | n => n, fun | n => n⟩
theorem Try.laysNm221 : Go.Proofs.Lays2.n21 Try.prog Try.laysNm221_ren := {
  mixed := by kernel_rfl
  f21 := Try.func82.trans (congrArg some (by kernel_rfl))
  f27 := Try.func108.trans (congrArg some (by kernel_rfl))
  f28 := Try.func109.trans (congrArg some (by kernel_rfl))
  f35 := Try.func128.trans (congrArg some (by kernel_rfl))
  f39 := Try.func139.trans (congrArg some (by kernel_rfl))
  t0 := Try.underlying0
  a0 := Try.isAgg0
  z0 := Try.sizeOf0
  v0 := Try.zeroValue0
  t3 := Try.underlying3
  a3 := Try.isAgg3
  z3 := Try.sizeOf3
  v3 := Try.zeroValue3
  t4 := Try.underlying4
  a4 := Try.isAgg4
  z4 := Try.sizeOf4
  v4 := Try.zeroValue4
  t22 := Try.underlying28
  a22 := Try.isAgg28
  z22 := Try.sizeOf28
  v22 := Try.zeroValue28
  i3 := by kernel_rfl }
end Go.Proofs
