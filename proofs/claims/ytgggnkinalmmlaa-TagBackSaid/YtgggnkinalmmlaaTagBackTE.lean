/- A part of the proof: lemmas and walks that the last text of the claim joins; no condition. -/
import Derived.Test.YtgggnkinalmmlaaTagBackVD
import Derived.Laws.Externs
import Derived.Test.YtgggnkinalmmlaaChecked
import GoSem.Core.Utf8
import Derived.Shelf.Spec.SlicesInsert
import Derived.Shelf.Spec.SlicesInsertGrow
import Derived.Shelf.Strings.Builder1
import Derived.Shelf.Small.Utf8
import Derived.Shelf.Small.Strs
import Derived.Shelf.Strings.BuilderF
import Derived.Shelf.Strings.BuilderK
import Derived.Shelf.Strings.Search1
import Derived.Shelf.Strings.Prefix
import Derived.Test.YtgggnkinalmmlaaProg
set_option linter.unusedVariables false
set_option linter.unusedSimpArgs false
namespace Go.Vc
open Go.Proofs
set_option linter.unusedVariables false
theorem mixed : Try.prog.follows .mixedOrders = true := by kernel_rfl
abbrev intTy : Ty := .int .i64
abbrev spTy : Ty := .pr intTy intTy
abbrev attrTy : Ty := .pr .str .str
abbrev nodeTy : Ty := .pr intTy (.pr intTy (.pr .str (.pr (.sl attrTy) (.pr .str (.pr intTy (.sl intTy))))))
abbrev opTy : Ty := .pr intTy (.pr intTy (.pr intTy (.pr intTy nodeTy)))
def tyB (t : TypeId) : Option Ty :=
  bif Nat.beq t 3 then some intTy else bif Nat.beq t 4 then some .bool else bif Nat.beq t 5 then some .byte else bif Nat.beq t 9 then some .str else bif Nat.beq t 31 then some attrTy else bif Nat.beq t 77 then some (.sl .str) else none
def eqsB (t : TypeId) : Bool := Nat.beq t 31
theorem eqsB_ok : ∀ t, eqsB t = true → Try.prog.stoodInHeld t = false ∧ Try.prog.eqGuardType Try.prog.depth t = false ∧ ((Try.prog.fieldsOf t).toList.all fun f => f.name != "_") = true := by
  intro t h
  obtain rfl := beq_of h
  exact ⟨by kernel_rfl, by kernel_rfl, by kernel_rfl⟩
def neB (f : FuncId) : Bool := Nat.beq f 64
theorem neB_ok : ∀ f, neB f = true → ∀ (x : Value) (w : World), (callFunc f #[x]).run Try.prog w = .ok (.value x) w := by
  intro f h x w
  obtain rfl := beq_of h
  rw [run_callFunc_extern Try.func64 (by kernel_rfl) (by kernel_rfl) (by kernel_rfl) (e := Extern.AbiNoEscape.same) (by kernel_rfl)]
  rfl
def tbB (t : TypeId) : Bool := Nat.beq t 55 || Nat.beq t 57
/-- a cell of the memory that does not change -/
def cellR (r : Mem) (b o : Nat) : Option Value := match r b with | some (.cells c _ _) => c[o]? | _ => none
theorem cellR_le {r r' : Mem} (h : r.le r') {b o v} (hc : cellR r b o = some v) : cellR r' b o = some v := by
  unfold cellR at hc ⊢
  cases hr : r b with
  | none => rw [hr] at hc; cases hc
  | some x => rw [hr] at hc; rw [h b x hr]; exact hc
theorem cellR_at {r : Mem} {w : World} (hv : ∀ b o, r b = some o → w.heap[b]? = some o) {b o v} (hc : cellR r b o = some v) : w.cell? ⟨b, o, none⟩ = some v := by
  unfold cellR at hc
  cases hr : r b with
  | none => rw [hr] at hc; cases hc
  | some x =>
    rw [hr] at hc
    have := hv b x hr
    cases x <;> simp only at hc <;> first | (cases hc; done) | skip
    simp only [World.cell?, this]
    exact hc
noncomputable abbrev BB : Base := { P := Try.prog, mixed := mixed, G := fun r => ∃ c T fr m, r 0 = some (.cells c T fr) ∧ c[0]? = some (.int .i64 m), mono := fun r r' h ⟨c, T, fr, m, h1, h2⟩ => ⟨c, T, fr, m, h 0 _ h1, h2⟩, ty0 := tyB, eqs := eqsB, eqs_ok := eqsB_ok, ne := neB, ne_ok := neB_ok, tb := tbB }

set_option maxRecDepth 10000
@[simp] theorem bytes1 : bytesT Try.prog 1 = 8 := rfl
@[simp] theorem bytesB1 : bytesT BB.P 1 = 8 := rfl
@[simp] theorem bytes2 : bytesT Try.prog 2 = 8 := rfl
@[simp] theorem bytesB2 : bytesT BB.P 2 = 8 := rfl
@[simp] theorem bytes3 : bytesT Try.prog 3 = 8 := rfl
@[simp] theorem bytesB3 : bytesT BB.P 3 = 8 := rfl
@[simp] theorem bytes4 : bytesT Try.prog 4 = 1 := rfl
@[simp] theorem bytesB4 : bytesT BB.P 4 = 1 := rfl
@[simp] theorem bytes5 : bytesT Try.prog 5 = 1 := rfl
@[simp] theorem bytesB5 : bytesT BB.P 5 = 1 := rfl
@[simp] theorem bytes6 : bytesT Try.prog 6 = 1 := rfl
@[simp] theorem bytesB6 : bytesT BB.P 6 = 1 := rfl
@[simp] theorem bytes7 : bytesT Try.prog 7 = 24 := rfl
@[simp] theorem bytesB7 : bytesT BB.P 7 = 24 := rfl
@[simp] theorem bytes8 : bytesT Try.prog 8 = 24 := rfl
@[simp] theorem bytesB8 : bytesT BB.P 8 = 24 := rfl
@[simp] theorem bytes9 : bytesT Try.prog 9 = 16 := rfl
@[simp] theorem bytesB9 : bytesT BB.P 9 = 16 := rfl
@[simp] theorem bytes10 : bytesT Try.prog 10 = 16 := rfl
@[simp] theorem bytesB10 : bytesT BB.P 10 = 16 := rfl
@[simp] theorem bytes11 : bytesT Try.prog 11 = 16 := rfl
@[simp] theorem bytesB11 : bytesT BB.P 11 = 16 := rfl
@[simp] theorem bytes12 : bytesT Try.prog 12 = 8 := rfl
@[simp] theorem bytesB12 : bytesT BB.P 12 = 8 := rfl
@[simp] theorem bytes13 : bytesT Try.prog 13 = 24 := rfl
@[simp] theorem bytesB13 : bytesT BB.P 13 = 24 := rfl
@[simp] theorem bytes14 : bytesT Try.prog 14 = 24 := rfl
@[simp] theorem bytesB14 : bytesT BB.P 14 = 24 := rfl
@[simp] theorem bytes15 : bytesT Try.prog 15 = 8 := rfl
@[simp] theorem bytesB15 : bytesT BB.P 15 = 8 := rfl
@[simp] theorem bytes16 : bytesT Try.prog 16 = 8 := rfl
@[simp] theorem bytesB16 : bytesT BB.P 16 = 8 := rfl
@[simp] theorem bytes17 : bytesT Try.prog 17 = 8 := rfl
@[simp] theorem bytesB17 : bytesT BB.P 17 = 8 := rfl
@[simp] theorem bytes18 : bytesT Try.prog 18 = 8 := rfl
@[simp] theorem bytesB18 : bytesT BB.P 18 = 8 := rfl
@[simp] theorem bytes19 : bytesT Try.prog 19 = 8 := rfl
@[simp] theorem bytesB19 : bytesT BB.P 19 = 8 := rfl
@[simp] theorem bytes20 : bytesT Try.prog 20 = 16 := rfl
@[simp] theorem bytesB20 : bytesT BB.P 20 = 16 := rfl
@[simp] theorem bytes21 : bytesT Try.prog 21 = 4 := rfl
@[simp] theorem bytesB21 : bytesT BB.P 21 = 4 := rfl
@[simp] theorem bytes22 : bytesT Try.prog 22 = 8 := rfl
@[simp] theorem bytesB22 : bytesT BB.P 22 = 8 := rfl
@[simp] theorem bytes23 : bytesT Try.prog 23 = 24 := rfl
@[simp] theorem bytesB23 : bytesT BB.P 23 = 24 := rfl
@[simp] theorem bytes24 : bytesT Try.prog 24 = 72 := rfl
@[simp] theorem bytesB24 : bytesT BB.P 24 = 72 := rfl
@[simp] theorem bytes25 : bytesT Try.prog 25 = 72 := rfl
@[simp] theorem bytesB25 : bytesT BB.P 25 = 72 := rfl
@[simp] theorem bytes27 : bytesT Try.prog 27 = 8 := rfl
@[simp] theorem bytesB27 : bytesT BB.P 27 = 8 := rfl
@[simp] theorem bytes28 : bytesT Try.prog 28 = 8 := rfl
@[simp] theorem bytesB28 : bytesT BB.P 28 = 8 := rfl
@[simp] theorem bytes29 : bytesT Try.prog 29 = 8 := rfl
@[simp] theorem bytesB29 : bytesT BB.P 29 = 8 := rfl
@[simp] theorem bytes30 : bytesT Try.prog 30 = 32 := rfl
@[simp] theorem bytesB30 : bytesT BB.P 30 = 32 := rfl
@[simp] theorem bytes31 : bytesT Try.prog 31 = 32 := rfl
@[simp] theorem bytesB31 : bytesT BB.P 31 = 32 := rfl
@[simp] theorem bytes32 : bytesT Try.prog 32 = 8 := rfl
@[simp] theorem bytesB32 : bytesT BB.P 32 = 8 := rfl
@[simp] theorem bytes33 : bytesT Try.prog 33 = 8 := rfl
@[simp] theorem bytesB33 : bytesT BB.P 33 = 8 := rfl
@[simp] theorem bytes34 : bytesT Try.prog 34 = 8 := rfl
@[simp] theorem bytesB34 : bytesT BB.P 34 = 8 := rfl
@[simp] theorem bytes35 : bytesT Try.prog 35 = 112 := rfl
@[simp] theorem bytesB35 : bytesT BB.P 35 = 112 := rfl
@[simp] theorem bytes36 : bytesT Try.prog 36 = 112 := rfl
@[simp] theorem bytesB36 : bytesT BB.P 36 = 112 := rfl
@[simp] theorem bytes37 : bytesT Try.prog 37 = 8 := rfl
@[simp] theorem bytesB37 : bytesT BB.P 37 = 8 := rfl
@[simp] theorem bytes38 : bytesT Try.prog 38 = 8 := rfl
@[simp] theorem bytesB38 : bytesT BB.P 38 = 8 := rfl
@[simp] theorem bytes39 : bytesT Try.prog 39 = 8 := rfl
@[simp] theorem bytesB39 : bytesT BB.P 39 = 8 := rfl
@[simp] theorem bytes41 : bytesT Try.prog 41 = 8 := rfl
@[simp] theorem bytesB41 : bytesT BB.P 41 = 8 := rfl
@[simp] theorem bytes42 : bytesT Try.prog 42 = 8 := rfl
@[simp] theorem bytesB42 : bytesT BB.P 42 = 8 := rfl
@[simp] theorem bytes43 : bytesT Try.prog 43 = 8 := rfl
@[simp] theorem bytesB43 : bytesT BB.P 43 = 8 := rfl
@[simp] theorem bytes44 : bytesT Try.prog 44 = 8 := rfl
@[simp] theorem bytesB44 : bytesT BB.P 44 = 8 := rfl
@[simp] theorem bytes45 : bytesT Try.prog 45 = 8 := rfl
@[simp] theorem bytesB45 : bytesT BB.P 45 = 8 := rfl
@[simp] theorem bytes46 : bytesT Try.prog 46 = 8 := rfl
@[simp] theorem bytesB46 : bytesT BB.P 46 = 8 := rfl
@[simp] theorem bytes47 : bytesT Try.prog 47 = 24 := rfl
@[simp] theorem bytesB47 : bytesT BB.P 47 = 24 := rfl
@[simp] theorem bytes49 : bytesT Try.prog 49 = 8 := rfl
@[simp] theorem bytesB49 : bytesT BB.P 49 = 8 := rfl
@[simp] theorem bytes51 : bytesT Try.prog 51 = 8 := rfl
@[simp] theorem bytesB51 : bytesT BB.P 51 = 8 := rfl
@[simp] theorem bytes52 : bytesT Try.prog 52 = 8 := rfl
@[simp] theorem bytesB52 : bytesT BB.P 52 = 8 := rfl
@[simp] theorem bytes53 : bytesT Try.prog 53 = 8 := rfl
@[simp] theorem bytesB53 : bytesT BB.P 53 = 8 := rfl
@[simp] theorem bytes54 : bytesT Try.prog 54 = 32 := rfl
@[simp] theorem bytesB54 : bytesT BB.P 54 = 32 := rfl
@[simp] theorem bytes55 : bytesT Try.prog 55 = 32 := rfl
@[simp] theorem bytesB55 : bytesT BB.P 55 = 32 := rfl
@[simp] theorem bytes56 : bytesT Try.prog 56 = 40 := rfl
@[simp] theorem bytesB56 : bytesT BB.P 56 = 40 := rfl
@[simp] theorem bytes57 : bytesT Try.prog 57 = 40 := rfl
@[simp] theorem bytesB57 : bytesT BB.P 57 = 40 := rfl
@[simp] theorem bytes58 : bytesT Try.prog 58 = 8 := rfl
@[simp] theorem bytesB58 : bytesT BB.P 58 = 8 := rfl
@[simp] theorem bytes59 : bytesT Try.prog 59 = 8 := rfl
@[simp] theorem bytesB59 : bytesT BB.P 59 = 8 := rfl
theorem u8_bnd (x : UInt8) : 0 ≤ (x.toNat : Int) ∧ (x.toNat : Int) ≤ 255 := by have := x.toNat_lt; omega
end Go.Vc

/-! Law 04, in plain Lean: what the references stand for, by the program's road and by the document's. -/
namespace Go.Vc
set_option autoImplicit false

/-- a character's bytes -/
def encN (n : Int) : List UInt8 := (Utf8.encode (if n < 0 ∨ n > 1114111 ∨ (55296 ≤ n ∧ n ≤ 57343) then 65533 else n)).data.toList
theorem encN_len (n : Int) : (encN n).length ≤ 4 := by
  unfold encN
  generalize (if n < 0 ∨ n > 1114111 ∨ (55296 ≤ n ∧ n ≤ 57343) then (65533 : Int) else n) = c
  unfold Utf8.encode
  generalize (if Utf8.valid c then c.toNat else Utf8.runeError) = c
  dsimp only
  split
  · simp
  · split
    · simp
    · split <;> simp
def alI (c : Int) : Bool := (decide (65 ≤ c) && decide (c ≤ 90)) || (decide (97 ≤ c) && decide (c ≤ 122))
def anI (c : Int) : Bool := alI c || (decide (48 ≤ c) && decide (c ≤ 57))
def hexI (c : Int) : Int := if 48 ≤ c ∧ c ≤ 57 then c - 48 else if 97 ≤ c ∧ c ≤ 102 then c - 87 else if 65 ≤ c ∧ c ≤ 70 then c - 55 else -1
def alB (c : UInt8) : Bool := alI c.toNat
def anB (c : UInt8) : Bool := anI c.toNat
def hexV (c : UInt8) : Int := hexI c.toNat

def shortTab : List (List UInt8 × Int) := [
  ([97, 109, 112], 38), ([65, 77, 80], 38), ([108, 116], 60), ([76, 84], 60), ([103, 116], 62), ([71, 84], 62),
  ([113, 117, 111, 116], 34), ([81, 85, 79, 84], 34), ([110, 98, 115, 112], 160), ([99, 111, 112, 121], 169), ([114, 101, 103], 174), ([115, 104, 121], 173),
  ([112, 97, 114, 97], 182), ([115, 101, 99, 116], 167), ([116, 105, 109, 101, 115], 215), ([100, 105, 118, 105, 100, 101], 247), ([109, 105, 99, 114, 111], 181), ([109, 105, 100, 100, 111, 116], 183),
  ([110, 111, 116], 172), ([100, 101, 103], 176), ([121, 101, 110], 165), ([99, 101, 110, 116], 162), ([112, 111, 117, 110, 100], 163), ([108, 97, 113, 117, 111], 171),
  ([114, 97, 113, 117, 111], 187)]
def longTab : List (List UInt8 × Int) := [
  ([97, 112, 111, 115], 39), ([99, 111, 108, 111, 110], 58), ([84, 97, 98], 9), ([78, 101, 119, 76, 105, 110, 101], 10), ([108, 112, 97, 114], 40), ([114, 112, 97, 114], 41),
  ([115, 111, 108], 47), ([110, 117, 109], 35), ([115, 101, 109, 105], 59), ([101, 113, 117, 97, 108, 115], 61), ([101, 120, 99, 108], 33), ([99, 111, 109, 109, 97, 116], 64),
  ([113, 117, 101, 115, 116], 63), ([99, 111, 109, 109, 97], 44), ([112, 101, 114, 105, 111, 100], 46), ([108, 98, 114, 97, 99, 101], 123), ([114, 98, 114, 97, 99, 101], 125), ([108, 115, 113, 98], 91),
  ([114, 115, 113, 98], 93), ([103, 114, 97, 118, 101], 96), ([104, 101, 108, 108, 105, 112], 8230), ([109, 100, 97, 115, 104], 8212), ([110, 100, 97, 115, 104], 8211), ([108, 115, 113, 117, 111], 8216),
  ([114, 115, 113, 117, 111], 8217), ([108, 100, 113, 117, 111], 8220), ([114, 100, 113, 117, 111], 8221), ([98, 117, 108, 108], 8226), ([101, 117, 114, 111], 8364), ([116, 114, 97, 100, 101], 8482),
  ([108, 97, 114, 114], 8592), ([114, 97, 114, 114], 8594), ([122, 119, 106], 8205), ([122, 119, 110, 106], 8204), ([110, 111, 116, 105, 110], 8713), ([110, 101], 8800)]
def winTab : List Int := [8364, 0, 8218, 402, 8222, 8230, 8224, 8225, 710, 8240, 352, 8249, 338, 0, 381, 0, 0, 8216, 8217, 8220, 8221, 8226, 8211, 8212, 732, 8482, 353, 8250, 339, 0, 382, 376]
def fromTab : List Int := [128, 130, 131, 132, 133, 134, 135, 136, 137, 138, 139, 140, 142, 145, 146, 147, 148, 149, 150, 151, 152, 153, 154, 155, 156, 158, 159]
def toTab : List Int := [8364, 8218, 402, 8222, 8230, 8224, 8225, 710, 8240, 352, 8249, 338, 381, 8216, 8217, 8220, 8221, 8226, 8211, 8212, 732, 8482, 353, 8250, 339, 382, 376]

def lookT (t : List (List UInt8 × Int)) (k : List UInt8) : Int := match t.find? (fun e => k == e.1) with | some e => e.2 | none => 0
def endedOf (name : List UInt8) : Bool := decide (name.length > 0) && name.getD (name.length - 1) 0 == 59
def bareOf (name : List UInt8) : List UInt8 := if endedOf name = true then name.take (name.length - 1) else name
def namedN (name : List UInt8) : Int :=
  if lookT shortTab (bareOf name) = 0 ∧ endedOf name = true then lookT longTab (bareOf name) else lookT shortTab (bareOf name)
def named (name : List UInt8) : List UInt8 × Bool := if namedN name = 0 then ([], false) else (encN (namedN name), true)

def refTab : List (List UInt8 × Int) := shortTab ++ longTab.map fun e => (e.1 ++ [59], e.2)
def refHit (name : List UInt8) (e : List UInt8 × Int) : Bool := e.1 == name || (e.1.getD (e.1.length - 1) 0 != 59 && e.1 ++ [59] == name)
def refNamed (name : List UInt8) : List UInt8 × Bool := match refTab.find? (refHit name) with | some e => (encN e.2, true) | none => ([], false)

theorem find_congr {α : Type} {l : List α} {p q : α → Bool} (h : ∀ e ∈ l, p e = q e) : l.find? p = l.find? q := by
  induction l with
  | nil => rfl
  | cons x r ih => simp only [List.find?_cons, h x (by simp), ih (fun e he => h e (by simp [he]))]
theorem ended_iff {name : List UInt8} (h : endedOf name = true) : name = bareOf name ++ [59] := by
  have hb : bareOf name = name.take (name.length - 1) := by unfold bareOf; rw [if_pos h]
  rw [hb]
  simp only [endedOf, Bool.and_eq_true, decide_eq_true_eq, beq_iff_eq] at h
  obtain ⟨h1, h2⟩ := h
  have e : name.length - 1 + 1 = name.length := by omega
  have hlt : name.length - 1 < name.length := by omega
  have h3 : name[name.length - 1] = 59 := by rw [← h2]; simp [List.getD, List.getElem?_eq_getElem hlt]
  have h4 : name.take (name.length - 1 + 1) = name.take (name.length - 1) ++ [name[name.length - 1]] := by rw [List.take_append_getElem hlt]
  rw [h3, e, List.take_length] at h4
  exact h4
theorem ended_snoc (l : List UInt8) : endedOf (l ++ [59]) = true := by simp [endedOf]
theorem bare_snoc (l : List UInt8) : bareOf (l ++ [59]) = l := by unfold bareOf; rw [if_pos (ended_snoc l)]; simp
theorem bare_not {name : List UInt8} (h : endedOf name = false) : bareOf name = name := by unfold bareOf; rw [h]; simp
theorem last_ended {l : List UInt8} (h0 : l ≠ []) : endedOf l = (l.getD (l.length - 1) 0 == 59) := by
  have : l.length > 0 := List.length_pos_iff.mpr h0
  simp [endedOf, this]
theorem hit_short {name e : List UInt8} {k : Int} (h0 : endedOf e = false) (h1 : e ≠ []) : refHit name (e, k) = (e == bareOf name) := by
  have hl : (e.getD (e.length - 1) 0 != 59) = true := by
    have := last_ended h1
    rw [h0] at this
    rw [bne, ← this]; rfl
  simp only [refHit, hl, Bool.true_and]
  cases hn : endedOf name with
  | true =>
    have e1 := ended_iff hn
    have e2 : (e == name) = false := by
      rw [beq_eq_false_iff_ne]
      rintro rfl
      rw [h0] at hn; cases hn
    rw [e2, Bool.false_or, Bool.eq_iff_iff, beq_iff_eq, beq_iff_eq]
    constructor
    · intro h; rw [← h, bare_snoc]
    · intro h; rw [h]; exact e1.symm
  | false =>
    rw [bare_not hn]
    have e2 : (e ++ [59] == name) = false := by
      rw [beq_eq_false_iff_ne]
      rintro rfl
      rw [ended_snoc] at hn; cases hn
    rw [e2, Bool.or_false]
theorem hit_long {name e : List UInt8} {k : Int} : refHit name (e ++ [59], k) = (endedOf name && e == bareOf name) := by
  have hl : ((e ++ [59]).getD ((e ++ [59]).length - 1) 0 != 59) = false := by simp
  simp only [refHit, hl, Bool.false_and, Bool.or_false]
  cases hn : endedOf name with
  | true =>
    rw [Bool.true_and, Bool.eq_iff_iff, beq_iff_eq, beq_iff_eq]
    constructor
    · intro h; rw [← h, bare_snoc]
    · intro h; rw [h]; exact (ended_iff hn).symm
  | false =>
    rw [Bool.false_and, beq_eq_false_iff_ne]
    rintro rfl
    rw [ended_snoc] at hn; cases hn
def goodE (e : List UInt8 × Int) : Bool := !endedOf e.1 && (e.1 != [] && (e.2 != 0 && (e.1.all anB && decide (e.1.length ≤ 7))))
theorem good_short : ∀ e ∈ shortTab, goodE e = true := by decide
theorem good_long : ∀ e ∈ longTab, goodE e = true := by decide
theorem goodE_spec {e : List UInt8 × Int} (h : goodE e = true) : endedOf e.1 = false ∧ e.1 ≠ [] ∧ e.2 ≠ 0 ∧ (∀ c ∈ e.1, anB c = true) ∧ e.1.length ≤ 7 := by
  simp only [goodE, Bool.and_eq_true, Bool.not_eq_true', bne_iff_ne, ne_eq, List.all_eq_true, decide_eq_true_eq] at h
  exact h
theorem look_spec {t : List (List UInt8 × Int)} (ht : ∀ e ∈ t, goodE e = true) (k : List UInt8) :
    (lookT t k = 0 ∧ t.find? (fun e => k == e.1) = none) ∨ ∃ e ∈ t, e.1 = k ∧ t.find? (fun e => k == e.1) = some e ∧ lookT t k = e.2 ∧ e.2 ≠ 0 := by
  unfold lookT
  cases hf : t.find? (fun e => k == e.1) with
  | none => exact .inl ⟨rfl, rfl⟩
  | some e =>
    have hm := List.mem_of_find?_eq_some hf
    have hp := List.find?_some hf
    exact .inr ⟨e, hm, by simpa using (by simpa using hp : k = e.1).symm, rfl, rfl, (goodE_spec (ht e hm)).2.2.1⟩
theorem refNamed_eq (name : List UInt8) : refNamed name = named name := by
  unfold refNamed refTab
  rw [List.find?_append, find_congr (l := shortTab) (q := fun e => bareOf name == e.1) (fun e he => by
    obtain ⟨a, k⟩ := e
    have := goodE_spec (good_short _ he)
    exact (hit_short this.1 this.2.1).trans Bool.beq_comm), List.find?_map]
  have e2 : (refHit name ∘ fun e : List UInt8 × Int => (e.1 ++ [59], e.2)) = fun e => endedOf name && bareOf name == e.1 := by
    funext e
    exact hit_long.trans (by rw [Bool.beq_comm])
  rw [e2]
  unfold named namedN
  rcases look_spec good_short (bareOf name) with ⟨h1, h2⟩ | ⟨e, he, h1, h2, h3, h4⟩
  · rw [h2, h1]
    simp only [Option.none_or, true_and]
    cases hn : endedOf name with
    | true =>
      simp only [Bool.true_and, if_true]
      rcases look_spec good_long (bareOf name) with ⟨g1, g2⟩ | ⟨e, he, g1, g2, g3, g4⟩
      · rw [g1, g2]; rfl
      · rw [g2, g3, if_neg g4]; rfl
    | false =>
      simp only [Bool.false_and]
      have : longTab.find? (fun _ => false) = none := by decide
      rw [this]; rfl
  · rw [h2, h3]
    have : ¬ (e.2 = 0 ∧ endedOf name = true) := fun h => h4 h.1
    rw [if_neg this, if_neg h4]; rfl
/-- what is a name is a few letters and digits, and at most one semicolon behind -/
theorem named_ok {x : List UInt8} (h : (named x).2 = true) : ∃ e : List UInt8, (x = e ∨ x = e ++ [59]) ∧ (∀ c ∈ e, anB c = true) ∧ e.length ≤ 7 ∧ e ≠ [] := by
  have hx : x = bareOf x ∨ x = bareOf x ++ [59] := by
    cases hn : endedOf x with
    | true => exact .inr (ended_iff hn)
    | false => exact .inl (bare_not hn).symm
  refine ⟨bareOf x, hx, ?_⟩
  have hN : namedN x ≠ 0 := by
    intro h0
    unfold named at h
    rw [if_pos h0] at h; cases h
  have key : ∃ e, goodE e = true ∧ e.1 = bareOf x := by
    unfold namedN at hN
    split at hN
    · rcases look_spec good_long (bareOf x) with ⟨g1, _⟩ | ⟨e, he, g1, _⟩
      · exact absurd g1 hN
      · exact ⟨e, good_long e he, g1⟩
    · rcases look_spec good_short (bareOf x) with ⟨g1, _⟩ | ⟨e, he, g1, _⟩
      · exact absurd g1 hN
      · exact ⟨e, good_short e he, g1⟩
  obtain ⟨e, he, rfl'⟩ := key
  have := goodE_spec he
  rw [rfl'] at this
  exact ⟨this.2.2.2.1, this.2.2.2.2, this.2.1⟩

/-! Numbers. -/
def numW (n : Int) : Int := if 128 ≤ n ∧ n < 160 then (if winTab.getD (n - 128).toNat 0 > 0 then winTab.getD (n - 128).toNat 0 else n) else n
def numF (n : Int) : List UInt8 := encN (if numW n = 0 then 65533 else numW n)
def refK (n : Int) : Int := match (fromTab.zip toTab).find? (fun e => e.1 == n) with | some e => e.2 | none => if n = 0 then 65533 else n
theorem refK_eq (n : Int) : refK n = if numW n = 0 then 65533 else numW n := by
  by_cases h : 128 ≤ n ∧ n < 160
  · have key : ∀ k : _root_.Fin 32, refK (128 + (k.val : Int)) = if numW (128 + (k.val : Int)) = 0 then 65533 else numW (128 + (k.val : Int)) := by decide
    have := key ⟨(n - 128).toNat, by omega⟩
    have e : (128 : Int) + ((n - 128).toNat : Int) = n := by omega
    simp only [e] at this
    exact this
  · have e1 : numW n = n := by unfold numW; rw [if_neg h]
    have e2 : (fromTab.zip toTab).find? (fun e => e.1 == n) = none := by
      rw [List.find?_eq_none]
      intro e he
      have : ∀ e ∈ fromTab.zip toTab, 128 ≤ e.1 ∧ e.1 < 160 := by decide
      have := this e he
      simp
      omega
    unfold refK
    rw [e2, e1]
def digsL (base : Int) : List UInt8 → Int → Int → Int × Int
  | [], n, i => (n, i)
  | c :: r, n, i => if hexV c < 0 ∨ base ≤ hexV c then (n, i) else digsL base r (min (n * base + hexV c) 1114112) (i + 1)
theorem digsL_bound (base : Int) : ∀ (l : List UInt8) (n i : Int), i ≤ (digsL base l n i).2 ∧ (digsL base l n i).2 ≤ i + l.length := by
  intro l
  induction l with
  | nil => intro n i; simp [digsL]
  | cons c r ih =>
    intro n i
    unfold digsL
    split
    · simp; omega
    · have := ih (min (n * base + hexV c) 1114112) (i + 1)
      simp only [List.length_cons]; omega
def hexS (s : List UInt8) : Bool := decide (s.length > 2) && (s.getD 2 0 == 120 || s.getD 2 0 == 88)
def numAt (s : List UInt8) : Int × Int := if hexS s = true then digsL 16 (s.drop 3) 0 3 else digsL 10 (s.drop 2) 0 2
def numberF (s : List UInt8) : List UInt8 × Int :=
  if (numAt s).2 = (if hexS s = true then 3 else 2) then ([], 0)
  else (numF (numAt s).1, if (numAt s).2 < s.length ∧ s.getD (numAt s).2.toNat 0 = 59 then (numAt s).2 + 1 else (numAt s).2)

/-! Names in a text. -/
def letN : Nat → List UInt8 → Nat
  | 0, _ => 0
  | _ + 1, [] => 0
  | k + 1, c :: r => if anB c = true then letN k r + 1 else 0
theorem letN_le : ∀ (k : Nat) (l : List UInt8), letN k l ≤ k ∧ letN k l ≤ l.length ∧ ∀ j < letN k l, anB (l.getD j 0) = true := by
  intro k
  induction k with
  | zero => intro l; simp [letN]
  | succ k ih =>
    intro l
    cases l with
    | nil => simp [letN]
    | cons c r =>
      unfold letN
      split
      · obtain ⟨h1, h2, h3⟩ := ih r
        refine ⟨by omega, by simp; omega, fun j hj => ?_⟩
        cases j with
        | zero => simpa
        | succ j => simpa using h3 j (by omega)
      · simp
theorem letN_stop : ∀ (k : Nat) (l : List UInt8), letN k l < k → letN k l < l.length → anB (l.getD (letN k l) 0) = false := by
  intro k
  induction k with
  | zero => intro l h; simp at h
  | succ k ih =>
    intro l h1 h2
    cases l with
    | nil => simp at h2
    | cons c r =>
      unfold letN at h1 h2 ⊢
      split at h1
      · rename_i hc
        rw [if_pos hc] at h2 ⊢
        simpa using ih r (by omega) (by simpa using h2)
      · rename_i hc
        rw [if_neg hc]
        simpa using hc
theorem letN_max {k : Nat} {l : List UInt8} {n : Nat} (hk : n ≤ k) (hl : n ≤ l.length) (h : ∀ j < n, anB (l.getD j 0) = true) : n ≤ letN k l := by
  rcases Nat.lt_or_ge (letN k l) n with hlt | hge
  · have := letN_stop k l (by omega) (by omega)
    rw [h _ hlt] at this; cases this
  · exact hge
theorem letN_pos {k : Nat} {l : List UInt8} (hk : 0 < k) : decide (letN k l > 0) = (decide (0 < l.length) && anB (l.getD 0 0)) := by
  match k, l with
  | k + 1, [] => simp [letN]
  | k + 1, c :: r =>
    unfold letN
    by_cases h : anB c = true
    · rw [if_pos h]; simp [h]
    · rw [if_neg h]; simp [h]
/-- bytes 1 to n -/
def upto (s : List UInt8) (n : Nat) : List UInt8 := (s.take (n + 1)).drop 1
theorem upto_len {s : List UInt8} {n : Nat} (h : n + 1 ≤ s.length) : (upto s n).length = n := by simp [upto]; omega
theorem upto_get {s : List UInt8} {n j : Nat} (h : n + 1 ≤ s.length) (hj : j < n) : (upto s n).getD j 0 = s.getD (j + 1) 0 := by
  have h1 : j < (upto s n).length := by rw [upto_len h]; exact hj
  simp only [List.getD, List.getElem?_eq_getElem h1, List.getElem?_eq_getElem (show j + 1 < s.length by omega), Option.getD_some]
  simp [upto, Nat.add_comm]
def stopV (s : List UInt8) (v : Bool) (n : Nat) : Bool := v && (decide (n + 1 < s.length) && (s.getD (n + 1) 0 == 61 || anB (s.getD (n + 1) 0)))
def rdLoop (s : List UInt8) (v : Bool) : Nat → List UInt8 × Int
  | 0 => ([], 0)
  | n + 1 => if (named (upto s (n + 1))).2 = false then rdLoop s v n else if stopV s v (n + 1) = true then ([], 0) else ((named (upto s (n + 1))).1, n + 2)
def refLoop (s : List UInt8) (v : Bool) : Nat → List UInt8 × Int
  | 0 => ([], 0)
  | n + 1 => if (named (upto s (n + 1))).2 = false then refLoop s v n else if (stopV s v (n + 1) && s.getD (n + 1) 0 != 59) = true then ([], 0) else ((named (upto s (n + 1))).1, n + 2)
def semiOk (s : List UInt8) (n : Nat) : Bool := decide (n + 1 < s.length) && (s.getD (n + 1) 0 == 59 && (named (upto s (n + 1))).2)
def rdP (s : List UInt8) (v : Bool) : List UInt8 × Int :=
  if s.length < 2 ∨ s.getD 0 0 ≠ 38 then ([], 0) else if s.getD 1 0 = 35 then numberF s
  else if semiOk s (letN 8 (s.drop 1)) = true then ((named (upto s (letN 8 (s.drop 1) + 1))).1, (letN 8 (s.drop 1) : Int) + 2) else rdLoop s v (letN 8 (s.drop 1))
def rdR (s : List UInt8) (v : Bool) : List UInt8 × Int :=
  if s = [] ∨ s.getD 0 0 ≠ 38 then ([], 0) else if 1 < s.length ∧ s.getD 1 0 = 35 then numberF s else refLoop s v (min (s.length - 1) 12)

theorem name_at {s : List UInt8} {n : Nat} (hn : n + 1 ≤ s.length) (h : (named (upto s n)).2 = true) :
    n ≤ letN 8 (s.drop 1) ∨ (n = letN 8 (s.drop 1) + 1 ∧ s.getD n 0 = 59) := by
  obtain ⟨e, hx, h1, h2, h3⟩ := named_ok h
  have hlen := upto_len hn
  have hd : ∀ j, (s.drop 1).getD j 0 = s.getD (j + 1) 0 := fun j => by simp [List.getD, Nat.add_comm]
  have hget : ∀ {j : Nat}, j < e.length → anB (e.getD j 0) = true := fun {j} hj => h1 _ (by simp [List.getD, List.getElem?_eq_getElem hj])
  rcases hx with hx | hx
  · left
    have hle : e.length = n := by rw [← hx]; exact hlen
    refine letN_max (by omega) (by simp; omega) fun j hj => ?_
    rw [hd, ← upto_get hn hj, hx]
    exact hget (by omega)
  · have hle : e.length + 1 = n := by rw [← hlen, hx]; simp
    have h59 : s.getD n 0 = 59 := by
      have := upto_get hn (show n - 1 < n by omega)
      rw [hx, show n - 1 + 1 = n by omega] at this
      rw [← this, show n - 1 = e.length by omega]
      simp
    right
    refine ⟨?_, h59⟩
    have hge : e.length ≤ letN 8 (s.drop 1) := letN_max (by omega) (by simp; omega) fun j hj => by
      rw [hd, ← upto_get hn (by omega), hx]
      have : (e ++ [59]).getD j 0 = e.getD j 0 := by simp [List.getD, List.getElem?_append_left hj]
      rw [this]; exact hget hj
    rcases Nat.lt_or_ge e.length (letN 8 (s.drop 1)) with hlt | hge'
    · have := (letN_le 8 (s.drop 1)).2.2 _ hlt
      rw [hd, hle, h59] at this
      exact absurd this (by decide)
    · omega
theorem refLoop_skip {s : List UInt8} {v : Bool} {k : Nat} : ∀ {n : Nat}, k ≤ n → (∀ j, k < j → j ≤ n → (named (upto s j)).2 = false) → refLoop s v n = refLoop s v k := by
  intro n
  induction n with
  | zero => intro h _; have : k = 0 := by omega
            subst this; rfl
  | succ n ih =>
    intro h hj
    by_cases hk : k = n + 1
    · subst hk; rfl
    · have := hj (n + 1) (by omega) (by omega)
      rw [refLoop, if_pos this]
      exact ih (by omega) fun j h1 h2 => hj j h1 (by omega)
theorem refLoop_rd {s : List UInt8} {v : Bool} : ∀ {n : Nat}, (∀ j, 0 < j → j ≤ n → s.getD j 0 ≠ 59) → refLoop s v n = rdLoop s v n := by
  intro n
  induction n with
  | zero => intro _; rfl
  | succ n ih =>
    intro h
    rw [refLoop, rdLoop, ih fun j h1 h2 => h j h1 (by omega)]
    have : (s.getD (n + 1) 0 != 59) = true := by simpa using h (n + 1) (by omega) (by omega)
    rw [this, Bool.and_true]
theorem rd_eq (s : List UInt8) (v : Bool) : rdR s v = rdP s v := by
  unfold rdR rdP
  by_cases h0 : s.getD 0 0 = 38
  · by_cases hl : s.length < 2
    · rw [if_pos (Or.inl hl)]
      by_cases he : s = []
      · rw [if_pos (Or.inl he)]
      · have hlen : s.length = 1 := by have := List.length_pos_iff.mpr he; omega
        rw [if_neg (by rintro (h | h); exact he h; exact h h0), if_neg (by omega)]
        simp [hlen, refLoop]
    · have he : s ≠ [] := by rintro rfl; simp at hl
      have hA : ¬ (s = [] ∨ s.getD 0 0 ≠ 38) := by rintro (h | h); exact he h; exact h h0
      have hB : ¬ (s.length < 2 ∨ s.getD 0 0 ≠ 38) := by rintro (h | h); exact hl h; exact h h0
      rw [if_neg hA, if_neg hB]
      by_cases h1 : s.getD 1 0 = 35
      · have hC : 1 < s.length ∧ s.getD 1 0 = 35 := ⟨by omega, h1⟩
        rw [if_pos hC, if_pos h1]
      · have hC : ¬ (1 < s.length ∧ s.getD 1 0 = 35) := by rintro ⟨_, h⟩; exact h1 h
        rw [if_neg hC, if_neg h1]
        obtain ⟨g1, g2, g3⟩ := letN_le 8 (s.drop 1)
        have hd : ∀ j, (s.drop 1).getD j 0 = s.getD (j + 1) 0 := fun j => by simp [List.getD, Nat.add_comm]
        have g2' : letN 8 (s.drop 1) + 1 ≤ s.length := by rw [List.length_drop] at g2; omega
        have no59 : ∀ j, 0 < j → j ≤ letN 8 (s.drop 1) → s.getD j 0 ≠ 59 := by
          intro j hj1 hj2 h59
          have := g3 (j - 1) (by omega)
          rw [hd, show j - 1 + 1 = j by omega, h59] at this
          exact absurd this (by decide)
        generalize hL : letN 8 (s.drop 1) = L at *
        by_cases hs : semiOk s L = true
        · rw [if_pos hs]
          simp only [semiOk, Bool.and_eq_true, decide_eq_true_eq, beq_iff_eq] at hs
          obtain ⟨s1, s2, s3⟩ := hs
          rw [refLoop_skip (k := L + 1) (by omega) (fun j j1 j2 => ?_)]
          · rw [refLoop, if_neg (by rw [s3]; simp), if_neg (by rw [s2]; simp)]
          · cases hq : (named (upto s j)).2 with
            | false => rfl
            | true =>
              rcases name_at (s := s) (n := j) (by omega) hq with h | ⟨h, _⟩ <;> rw [hL] at h <;> omega
        · rw [if_neg hs]
          rw [refLoop_skip (k := L) (by omega) (fun j j1 j2 => ?_)]
          · exact refLoop_rd no59
          · cases hq : (named (upto s j)).2 with
            | false => rfl
            | true =>
              exfalso
              rcases name_at (s := s) (n := j) (by omega) hq with h | ⟨h, h59⟩
              · rw [hL] at h; omega
              · rw [hL] at h
                subst h
                apply hs
                simp only [semiOk, Bool.and_eq_true, decide_eq_true_eq, beq_iff_eq]
                exact ⟨by omega, h59, hq⟩
  · rw [if_pos (Or.inr h0), if_pos (Or.inr h0)]

theorem rdLoop_bound {s : List UInt8} {v : Bool} : ∀ {n : Nat}, n + 1 ≤ s.length → 0 ≤ (rdLoop s v n).2 ∧ (rdLoop s v n).2 ≤ s.length ∧ (rdLoop s v n).1.length ≤ 4 := by
  intro n
  induction n with
  | zero => intro _; simp [rdLoop]
  | succ n ih =>
    intro h
    rw [rdLoop]
    split
    · exact ih (by omega)
    · split
      · simp
      · refine ⟨by simp; omega, by simp; omega, ?_⟩
        unfold named
        split
        · simp
        · exact encN_len _
theorem rd_bound (s : List UInt8) (v : Bool) : 0 ≤ (rdP s v).2 ∧ (rdP s v).2 ≤ s.length ∧ (rdP s v).1.length ≤ 4 := by
  unfold rdP
  split
  · simp
  · rename_i h
    have h2 : 2 ≤ s.length := by
      rcases Nat.lt_or_ge s.length 2 with h' | h'
      · exact absurd (Or.inl h') h
      · exact h'
    split
    · have hb : (if hexS s = true then (3:Int) else 2) ≤ (numAt s).2 ∧ (numAt s).2 ≤ s.length := by
        unfold numAt
        by_cases hx : hexS s = true
        · rw [if_pos hx, if_pos hx]
          have := digsL_bound 16 (s.drop 3) 0 3
          simp only [hexS, Bool.and_eq_true, decide_eq_true_eq] at hx
          simp only [List.length_drop] at this
          omega
        · rw [if_neg hx, if_neg hx]
          have := digsL_bound 10 (s.drop 2) 0 2
          simp only [List.length_drop] at this
          omega
      have h23 : (2 : Int) ≤ if hexS s = true then (3:Int) else 2 := by split <;> omega
      unfold numberF
      by_cases hq : (numAt s).2 = (if hexS s = true then (3:Int) else 2)
      · rw [if_pos hq]; simp
      · rw [if_neg hq]
        refine ⟨?_, ?_, encN_len _⟩
        · simp only; split <;> omega
        · simp only; split <;> omega
    · obtain ⟨g1, g2, _⟩ := letN_le 8 (s.drop 1)
      simp only [List.length_drop] at g2
      split
      · rename_i hs
        simp only [semiOk, Bool.and_eq_true, decide_eq_true_eq] at hs
        refine ⟨by simp only; omega, by simp only; omega, ?_⟩
        unfold named
        split
        · simp
        · exact encN_len _
      · exact rdLoop_bound (by omega)

/-! A text. -/
def dec (v : Bool) : Nat → List UInt8 → List UInt8
  | 0, _ => []
  | f + 1, s => if s = [] then [] else if (rdP s v).2 = 0 then s.getD 0 0 :: dec v f (s.drop 1) else (rdP s v).1 ++ dec v f (s.drop (rdP s v).2.toNat)
def decF (s : List UInt8) (v : Bool) : List UInt8 := dec v s.length s
theorem dec_fuel (v : Bool) : ∀ (f : Nat) (s : List UInt8), s.length ≤ f → dec v f s = dec v s.length s := by
  intro f
  induction f with
  | zero => intro s h; have : s = [] := List.length_eq_zero_iff.1 (by omega)
            subst this; rfl
  | succ f ih =>
    intro s h
    by_cases he : s = []
    · subst he; simp [dec]
    · have hp : 0 < s.length := List.length_pos_iff.mpr he
      obtain ⟨m, hm⟩ : ∃ m, s.length = m + 1 := ⟨s.length - 1, by omega⟩
      rw [hm, dec, dec, if_neg he, if_neg he]
      obtain ⟨b1, b2, _⟩ := rd_bound s v
      by_cases h0 : (rdP s v).2 = 0
      · rw [if_pos h0, if_pos h0, ih (s.drop 1) (by simp; omega)]
        congr 1
        have e : (s.drop 1).length = m := by simp; omega
        rw [e]
      · rw [if_neg h0, if_neg h0, ih (s.drop (rdP s v).2.toNat) (by simp; omega)]
        congr 1
        have e : (s.drop (rdP s v).2.toNat).length ≤ m := by simp; omega
        -- both have fuel enough
        have aux : ∀ (g : Nat) (t : List UInt8), t.length ≤ g → g ≤ f → dec v g t = dec v t.length t := by
          intro g
          induction g with
          | zero => intro t ht _; have : t = [] := List.length_eq_zero_iff.1 (by omega)
                    subst this; rfl
          | succ g ihg =>
            intro t ht hgf
            by_cases hte : t = []
            · subst hte; simp [dec]
            · have hgf' : g + 1 = f ∨ g + 1 < f := by omega
              rcases hgf' with rfl | hlt
              · exact ih t ht
              · have h1 := ih t (by omega)
                rw [← h1]
                have key : ∀ (a b : Nat) (u : List UInt8), u.length ≤ a → a ≤ b → dec v a u = dec v b u := by
                  intro a
                  induction a with
                  | zero => intro b u hu _; have : u = [] := List.length_eq_zero_iff.1 (by omega)
                            subst this; cases b <;> simp [dec]
                  | succ a iha =>
                    intro b u hu hab
                    obtain ⟨b', rfl⟩ : ∃ b', b = b' + 1 := ⟨b - 1, by omega⟩
                    by_cases hue : u = []
                    · subst hue; simp [dec]
                    · rw [dec, dec, if_neg hue, if_neg hue]
                      obtain ⟨c1, c2, _⟩ := rd_bound u v
                      have hup : 0 < u.length := List.length_pos_iff.mpr hue
                      by_cases hz : (rdP u v).2 = 0
                      · rw [if_pos hz, if_pos hz, iha b' (u.drop 1) (by simp; omega) (by omega)]
                      · rw [if_neg hz, if_neg hz, iha b' (u.drop (rdP u v).2.toNat) (by simp; omega) (by omega)]
                exact key (g + 1) f t ht (by omega)
        exact (aux m _ e (by omega)).symm
theorem decF_nil (v : Bool) : decF [] v = [] := rfl
theorem decF_step {s : List UInt8} (v : Bool) (h : s ≠ []) :
    decF s v = if (rdP s v).2 = 0 then s.getD 0 0 :: decF (s.drop 1) v else (rdP s v).1 ++ decF (s.drop (rdP s v).2.toNat) v := by
  have hp : 0 < s.length := List.length_pos_iff.mpr h
  obtain ⟨m, hm⟩ : ∃ m, s.length = m + 1 := ⟨s.length - 1, by omega⟩
  unfold decF
  rw [hm, dec, if_neg h]
  obtain ⟨b1, b2, _⟩ := rd_bound s v
  by_cases h0 : (rdP s v).2 = 0
  · rw [if_pos h0, if_pos h0, dec_fuel v m (s.drop 1) (by simp; omega)]
  · rw [if_neg h0, if_neg h0, dec_fuel v m (s.drop (rdP s v).2.toNat) (by simp; omega)]
end Go.Vc

namespace Go.Vc
open Go.Proofs
set_option linter.unusedVariables false


set_option maxRecDepth 10000
set_option maxHeartbeats 2000000
set_option linter.unusedSimpArgs false
theorem u8_beq (c k : UInt8) : ((c.toNat : Int) == (k.toNat : Int)) = (c == k) := by
  rw [Bool.eq_iff_iff, beq_iff_eq, beq_iff_eq]
  constructor
  · intro h; exact UInt8.toNat_inj.1 (by omega)
  · rintro rfl; rfl
theorem u8_59 (c : UInt8) : ((c.toNat : Int) == 59) = (c == 59) := u8_beq c 59
theorem u8_38 (c : UInt8) : ((c.toNat : Int) == 38) = (c == 38) := u8_beq c 38
theorem u8_35 (c : UInt8) : ((c.toNat : Int) == 35) = (c == 35) := u8_beq c 35
theorem u8_61 (c : UInt8) : ((c.toNat : Int) == 61) = (c == 61) := u8_beq c 61
theorem u8_120 (c : UInt8) : ((c.toNat : Int) == 120) = (c == 120) := u8_beq c 120
theorem u8_88 (c : UInt8) : ((c.toNat : Int) == 88) = (c == 88) := u8_beq c 88
theorem or32 (c : Int) (h : 0 ≤ c ∧ c ≤ 255) : (decide (97 ≤ bitsI .or .u8 c 32) && decide (bitsI .or .u8 c 32 ≤ 122)) = alI c := by
  have key : ∀ k : _root_.Fin 256, (decide (97 ≤ bitsI .or .u8 (k.val : Int) 32) && decide (bitsI .or .u8 (k.val : Int) 32 ≤ 122)) = alI (k.val : Int) := by decide +kernel
  have := key ⟨c.toNat, by omega⟩
  have e : ((c.toNat : Nat) : Int) = c := by omega
  simp only [e] at this
  exact this
theorem wrap8 (n : Int) (h : 0 ≤ n ∧ n ≤ 255) : IntKind.u8.wrap n = n := wrap_kIn (k := .u8) h
theorem wrap32 (n : Int) (h : -2147483648 ≤ n ∧ n ≤ 2147483647) : IntKind.i32.wrap n = n := wrap_kIn (k := .i32) h
instance fLet (c : Int) : Fn BB 16 [.int .u8 c] (0 ≤ c ∧ c ≤ 255) (.bool (alI c)) := by
  refine Fn.intro (N := 11) [0, 2] [] Try.call16 Try.func16 rfl rfl (by kernel_rfl) (fun hpre => ?_)
  repeat' ((conv => whnf); first | (with_reducible rfl) | exact True.intro | (with_reducible exact absTF) | (with_reducible exact absFT) | intro _ | refine And.intro ?_ ?_ | refine Fin.mk ?_ | refine CallG.plain rfl ?_ ?_ | refine CallG.mk rfl ?_ ?_ | refine CallG.nwl rfl ?_ ?_ | refine CallG.nw ?_ ?_ | refine CallF.nwl rfl ?_ ?_ | refine CallF.nw ?_ ?_ | refine AppN.mk ?_ | (refine CallS.q ?_; (conv => whnf); first | refine CallG.plain rfl ?_ ?_ | refine CallG.mk rfl ?_ ?_) | (refine CallS.m ?_; (conv => whnf); refine CallM.mk rfl ?_ ?_) | (refine CallS.h ?_; (conv => whnf); refine CallM.mk rfl ?_ ?_) | (refine CallS.b ?_; (conv => whnf); refine CallM.mk rfl ?_ ?_) | (refine CallS.z ?_; (conv => whnf); refine CallM.mk rfl ?_ ?_))
  all_goals (try (conv => whnf))
  rw [or32 c hpre]
instance fRLet (c : Int) : Fn BB 20 [.int .u8 c] True (.bool (alI c)) := by
  refine Fn.intro (N := 17) [0, 2] [] Try.call20 Try.func20 rfl rfl (by kernel_rfl) (fun hpre => ?_)
  repeat' ((conv => whnf); first | (with_reducible rfl) | exact True.intro | (with_reducible exact absTF) | (with_reducible exact absFT) | intro _ | refine And.intro ?_ ?_ | refine Fin.mk ?_ | refine CallG.plain rfl ?_ ?_ | refine CallG.mk rfl ?_ ?_ | refine CallG.nwl rfl ?_ ?_ | refine CallG.nw ?_ ?_ | refine CallF.nwl rfl ?_ ?_ | refine CallF.nw ?_ ?_ | refine AppN.mk ?_ | (refine CallS.q ?_; (conv => whnf); first | refine CallG.plain rfl ?_ ?_ | refine CallG.mk rfl ?_ ?_) | (refine CallS.m ?_; (conv => whnf); refine CallM.mk rfl ?_ ?_) | (refine CallS.h ?_; (conv => whnf); refine CallM.mk rfl ?_ ?_) | (refine CallS.b ?_; (conv => whnf); refine CallM.mk rfl ?_ ?_) | (refine CallS.z ?_; (conv => whnf); refine CallM.mk rfl ?_ ?_))
  all_goals (try (conv => whnf))
  rfl
instance fRHex (c : Int) : Fn BB 60 [.int .u8 c] (0 ≤ c ∧ c ≤ 255) (.int .i64 (hexI c)) := by
  refine Fn.intro (N := 32) [0, 2, 8, 17, 27] [] Try.call60 Try.func60 rfl rfl (by kernel_rfl) (fun hpre => ?_)
  repeat' ((conv => whnf); first | (with_reducible rfl) | exact True.intro | (with_reducible exact absTF) | (with_reducible exact absFT) | intro _ | refine And.intro ?_ ?_ | refine Fin.mk ?_ | refine CallG.plain rfl ?_ ?_ | refine CallG.mk rfl ?_ ?_ | refine CallG.nwl rfl ?_ ?_ | refine CallG.nw ?_ ?_ | refine CallF.nwl rfl ?_ ?_ | refine CallF.nw ?_ ?_ | refine AppN.mk ?_ | (refine CallS.q ?_; (conv => whnf); first | refine CallG.plain rfl ?_ ?_ | refine CallG.mk rfl ?_ ?_) | (refine CallS.m ?_; (conv => whnf); refine CallM.mk rfl ?_ ?_) | (refine CallS.h ?_; (conv => whnf); refine CallM.mk rfl ?_ ?_) | (refine CallS.b ?_; (conv => whnf); refine CallM.mk rfl ?_ ?_) | (refine CallS.z ?_; (conv => whnf); refine CallM.mk rfl ?_ ?_))
  all_goals (try (conv => whnf))
  all_goals (try simp only [decide_eq_true_eq, decide_eq_false_iff_not, beq_iff_eq, beq_eq_false_iff_ne, bne_iff_ne, bne_eq_false_iff_eq, ne_eq, Bool.and_eq_true, Bool.or_eq_true, Bool.and_eq_false_iff, Bool.or_eq_false_iff, Bool.not_eq_true, Bool.not_eq_false, Bool.not_eq_true', Bool.not_eq_false', Int.toNat_natCast, Int.not_lt, Int.not_le, ge_iff_le, gt_iff_lt, UInt8.ofNat_toNat, cast_eq] at *)
  all_goals (first | rw [wrap8 _ (by omega)] | skip)
  all_goals (try (exact Ob.mk (u8_bnd _)))
  all_goals (try (refine Ob.mk ?_; first | exact True.intro | assumption | omega | (try simp only [decide_eq_true_eq, decide_eq_false_iff_not, beq_iff_eq, beq_eq_false_iff_ne, bne_iff_ne, bne_eq_false_iff_eq, ne_eq, Bool.and_eq_true, Bool.or_eq_true, Bool.not_eq_true, Bool.not_eq_false, Bool.not_eq_true', Bool.not_eq_false', Int.toNat_natCast, Int.not_lt, Int.not_le, UInt8.ofNat_toNat, cast_eq] at *; omega)))
  all_goals (try ((show (_:Int) = _); omega))
  all_goals (try (show tupSV _ = _; with_unfolding_all rfl))
  all_goals (try ((show (_ : Nat) ≤ _); (simp <;> omega)))
  all_goals (try ((show (_ : Nat) ≤ _ ∧ (_ : Nat) ≤ _); (simp <;> omega)))
  all_goals (try ((show (_ : Int) ≤ _ ∧ (_ : Int) ≤ _ ∧ (_ : Int) ≤ _ ∧ (_ : Int) ≤ _); (simp <;> omega)))
  all_goals (first | (show -9223372036854775808 ≤ _ ∧ _ ≤ (9223372036854775807:Int); omega) | skip)
  all_goals (unfold hexI)
  · rw [if_pos (by omega)]
  · rw [if_neg (by omega), if_pos (by omega)]; omega
  · rw [if_neg (by omega), if_neg (by omega), if_pos (by omega)]; omega
  · rw [if_neg (by omega), if_neg (by omega), if_neg (by omega)]
instance fPlain (c : Int) : Fn BB 53 [.int .u8 c] True (.bool (anI c)) := by
  refine Fn.intro (N := 13) [0, 2] [] Try.call53 Try.func53 rfl rfl (by kernel_rfl) (fun hpre => ?_)
  repeat' ((conv => whnf); first | (with_reducible rfl) | exact True.intro | (with_reducible exact absTF) | (with_reducible exact absFT) | intro _ | refine And.intro ?_ ?_ | refine Fin.mk ?_ | refine CallG.plain rfl ?_ ?_ | refine CallG.mk rfl ?_ ?_ | refine CallG.nwl rfl ?_ ?_ | refine CallG.nw ?_ ?_ | refine CallF.nwl rfl ?_ ?_ | refine CallF.nw ?_ ?_ | refine AppN.mk ?_ | (refine CallS.q ?_; (conv => whnf); first | refine CallG.plain rfl ?_ ?_ | refine CallG.mk rfl ?_ ?_) | (refine CallS.m ?_; (conv => whnf); refine CallM.mk rfl ?_ ?_) | (refine CallS.h ?_; (conv => whnf); refine CallM.mk rfl ?_ ?_) | (refine CallS.b ?_; (conv => whnf); refine CallM.mk rfl ?_ ?_) | (refine CallS.z ?_; (conv => whnf); refine CallM.mk rfl ?_ ?_))
  all_goals (try (conv => whnf))
  all_goals (try (exact Ob.mk (u8_bnd _)))
  all_goals (try (refine Ob.mk ?_; first | exact True.intro | assumption | omega | (try simp only [decide_eq_true_eq, decide_eq_false_iff_not, beq_iff_eq, beq_eq_false_iff_ne, bne_iff_ne, bne_eq_false_iff_eq, ne_eq, Bool.and_eq_true, Bool.or_eq_true, Bool.not_eq_true, Bool.not_eq_false, Bool.not_eq_true', Bool.not_eq_false', Int.toNat_natCast, Int.not_lt, Int.not_le, UInt8.ofNat_toNat, cast_eq] at *; omega)))
  all_goals (try ((show (_:Int) = _); omega))
  all_goals (try (show tupSV _ = _; with_unfolding_all rfl))
  all_goals (try ((show (_ : Nat) ≤ _); (simp <;> omega)))
  all_goals (try ((show (_ : Nat) ≤ _ ∧ (_ : Nat) ≤ _); (simp <;> omega)))
  all_goals (try ((show (_ : Int) ≤ _ ∧ (_ : Int) ≤ _ ∧ (_ : Int) ≤ _ ∧ (_ : Int) ≤ _); (simp <;> omega)))
  rfl
def okR (n : Int) : Bool := decide ((0 ≤ n ∧ n < 55296) ∨ (57343 < n ∧ n ≤ 1114111))
instance fVR (n : Int) : Fn BB 72 [.int .i32 n] True (.bool (okR n)) := by
  refine Fn.intro (N := 17) [0, 2, 3, 10] [] Try.call72 Try.func72 rfl rfl (by kernel_rfl) (fun hpre => ?_)
  repeat' ((conv => whnf); first | (with_reducible rfl) | exact True.intro | (with_reducible exact absTF) | (with_reducible exact absFT) | intro _ | refine And.intro ?_ ?_ | refine Fin.mk ?_ | refine CallG.plain rfl ?_ ?_ | refine CallG.mk rfl ?_ ?_ | refine CallG.nwl rfl ?_ ?_ | refine CallG.nw ?_ ?_ | refine CallF.nwl rfl ?_ ?_ | refine CallF.nw ?_ ?_ | refine AppN.mk ?_ | (refine CallS.q ?_; (conv => whnf); first | refine CallG.plain rfl ?_ ?_ | refine CallG.mk rfl ?_ ?_) | (refine CallS.m ?_; (conv => whnf); refine CallM.mk rfl ?_ ?_) | (refine CallS.h ?_; (conv => whnf); refine CallM.mk rfl ?_ ?_) | (refine CallS.b ?_; (conv => whnf); refine CallM.mk rfl ?_ ?_) | (refine CallS.z ?_; (conv => whnf); refine CallM.mk rfl ?_ ?_))
  all_goals (try (conv => whnf))
  all_goals (simp_all [okR]; try omega)
theorem enc_bad : ([239, 191, 189] : List UInt8) = (Utf8.encode 65533).data.toList := by decide
theorem enc_bad2 : (Utf8.encode (IntKind.i32.wrap 65533)).data.toList = (Utf8.encode 65533).data.toList := by decide
instance fEnc (n : Int) : Fn BB 69 [.int .i64 n] True (.str (encN n)) := by
  refine Fn.intro (N := 18) [0, 2, 14] [] Try.call69 Try.func69 rfl rfl (by kernel_rfl) (fun hpre => ?_)
  repeat' ((conv => whnf); first | (with_reducible rfl) | exact True.intro | (with_reducible exact absTF) | (with_reducible exact absFT) | intro _ | refine And.intro ?_ ?_ | refine Fin.mk ?_ | refine CallG.plain rfl ?_ ?_ | refine CallG.mk rfl ?_ ?_ | refine CallG.nwl rfl ?_ ?_ | refine CallG.nw ?_ ?_ | refine CallF.nwl rfl ?_ ?_ | refine CallF.nw ?_ ?_ | refine AppN.mk ?_ | (refine CallS.q ?_; (conv => whnf); first | refine CallG.plain rfl ?_ ?_ | refine CallG.mk rfl ?_ ?_) | (refine CallS.m ?_; (conv => whnf); refine CallM.mk rfl ?_ ?_) | (refine CallS.h ?_; (conv => whnf); refine CallM.mk rfl ?_ ?_) | (refine CallS.b ?_; (conv => whnf); refine CallM.mk rfl ?_ ?_) | (refine CallS.z ?_; (conv => whnf); refine CallM.mk rfl ?_ ?_))
  all_goals (try (conv => whnf))
  all_goals (try (exact Ob.mk (u8_bnd _)))
  all_goals (try (refine Ob.mk ?_; first | exact True.intro | assumption | omega | (try simp only [decide_eq_true_eq, decide_eq_false_iff_not, beq_iff_eq, beq_eq_false_iff_ne, bne_iff_ne, bne_eq_false_iff_eq, ne_eq, Bool.and_eq_true, Bool.or_eq_true, Bool.not_eq_true, Bool.not_eq_false, Bool.not_eq_true', Bool.not_eq_false', Int.toNat_natCast, Int.not_lt, Int.not_le, UInt8.ofNat_toNat, cast_eq] at *; omega)))
  all_goals (try ((show (_:Int) = _); omega))
  all_goals (try (show tupSV _ = _; with_unfolding_all rfl))
  all_goals (try ((show (_ : Nat) ≤ _); (simp <;> omega)))
  all_goals (try ((show (_ : Nat) ≤ _ ∧ (_ : Nat) ≤ _); (simp <;> omega)))
  all_goals (try ((show (_ : Int) ≤ _ ∧ (_ : Int) ≤ _ ∧ (_ : Int) ≤ _ ∧ (_ : Int) ≤ _); (simp <;> omega)))
  all_goals (try simp only [decide_eq_true_eq, decide_eq_false_iff_not, beq_iff_eq, beq_eq_false_iff_ne, bne_iff_ne, bne_eq_false_iff_eq, ne_eq, Bool.and_eq_true, Bool.or_eq_true, Bool.and_eq_false_iff, Bool.or_eq_false_iff, Bool.not_eq_true, Bool.not_eq_false, Bool.not_eq_true', Bool.not_eq_false', Int.toNat_natCast, Int.not_lt, Int.not_le, ge_iff_le, gt_iff_lt, UInt8.ofNat_toNat, cast_eq] at *)
  · rename_i h
    have : n < 0 ∨ n > 1114111 ∨ (55296 ≤ n ∧ n ≤ 57343) := by
      rcases h with (h | h) | h
      · exact .inl h
      · exact .inr (.inl h)
      · by_cases h1 : n < 0 ∨ n > 1114111
        · omega
        · rw [wrap32 n (by omega)] at h
          simp only [okR, decide_eq_false_iff_not] at h
          omega
    unfold encN
    rw [if_pos this, enc_bad]
  · rename_i h
    obtain ⟨⟨h1, h2⟩, h3⟩ := h
    rw [wrap32 n (by omega)] at h3 ⊢
    simp only [okR, decide_eq_true_eq] at h3
    unfold encN
    rw [if_neg (by omega)]
instance fREnc (n : Int) : Fn BB 63 [.int .i64 n] True (.str (encN n)) := by
  refine Fn.intro (N := 20) [0, 2, 16] [] Try.call63 Try.func63 rfl rfl (by kernel_rfl) (fun hpre => ?_)
  repeat' ((conv => whnf); first | (with_reducible rfl) | exact True.intro | (with_reducible exact absTF) | (with_reducible exact absFT) | intro _ | refine And.intro ?_ ?_ | refine Fin.mk ?_ | refine CallG.plain rfl ?_ ?_ | refine CallG.mk rfl ?_ ?_ | refine CallG.nwl rfl ?_ ?_ | refine CallG.nw ?_ ?_ | refine CallF.nwl rfl ?_ ?_ | refine CallF.nw ?_ ?_ | refine AppN.mk ?_ | (refine CallS.q ?_; (conv => whnf); first | refine CallG.plain rfl ?_ ?_ | refine CallG.mk rfl ?_ ?_) | (refine CallS.m ?_; (conv => whnf); refine CallM.mk rfl ?_ ?_) | (refine CallS.h ?_; (conv => whnf); refine CallM.mk rfl ?_ ?_) | (refine CallS.b ?_; (conv => whnf); refine CallM.mk rfl ?_ ?_) | (refine CallS.z ?_; (conv => whnf); refine CallM.mk rfl ?_ ?_))
  all_goals (try (conv => whnf))
  all_goals (try (exact Ob.mk (u8_bnd _)))
  all_goals (try (refine Ob.mk ?_; first | exact True.intro | assumption | omega | (try simp only [decide_eq_true_eq, decide_eq_false_iff_not, beq_iff_eq, beq_eq_false_iff_ne, bne_iff_ne, bne_eq_false_iff_eq, ne_eq, Bool.and_eq_true, Bool.or_eq_true, Bool.not_eq_true, Bool.not_eq_false, Bool.not_eq_true', Bool.not_eq_false', Int.toNat_natCast, Int.not_lt, Int.not_le, UInt8.ofNat_toNat, cast_eq] at *; omega)))
  all_goals (try ((show (_:Int) = _); omega))
  all_goals (try (show tupSV _ = _; with_unfolding_all rfl))
  all_goals (try ((show (_ : Nat) ≤ _); (simp <;> omega)))
  all_goals (try ((show (_ : Nat) ≤ _ ∧ (_ : Nat) ≤ _); (simp <;> omega)))
  all_goals (try ((show (_ : Int) ≤ _ ∧ (_ : Int) ≤ _ ∧ (_ : Int) ≤ _ ∧ (_ : Int) ≤ _); (simp <;> omega)))
  all_goals (try simp only [decide_eq_true_eq, decide_eq_false_iff_not, beq_iff_eq, beq_eq_false_iff_ne, bne_iff_ne, bne_eq_false_iff_eq, ne_eq, Bool.and_eq_true, Bool.or_eq_true, Bool.and_eq_false_iff, Bool.or_eq_false_iff, Bool.not_eq_true, Bool.not_eq_false, Bool.not_eq_true', Bool.not_eq_false', Int.toNat_natCast, Int.not_lt, Int.not_le, ge_iff_le, gt_iff_lt, UInt8.ofNat_toNat, cast_eq] at *)
  · unfold encN
    rw [if_pos (by omega), enc_bad2]
  · unfold encN
    rw [if_neg (by omega), wrap32 n (by omega)]
instance fShort (s : List UInt8) : Fn BB 67 [.str s] True (.int .i64 (lookT shortTab s)) := by
  refine Fn.intro (N := 50) [0, 2, 3, 4, 7, 10, 13, 16, 18, 20, 22, 24, 26, 28, 30, 32, 34, 36, 38, 40, 42, 44, 46, 48] [] Try.call67 Try.func67 rfl rfl (by kernel_rfl) (fun hpre => ?_)
  repeat' ((conv => whnf); first | (with_reducible rfl) | exact True.intro | (with_reducible exact absTF) | (with_reducible exact absFT) | intro _ | refine And.intro ?_ ?_ | refine Fin.mk ?_ | refine CallG.plain rfl ?_ ?_ | refine CallG.mk rfl ?_ ?_ | refine CallG.nwl rfl ?_ ?_ | refine CallG.nw ?_ ?_ | refine CallF.nwl rfl ?_ ?_ | refine CallF.nw ?_ ?_ | refine AppN.mk ?_ | (refine CallS.q ?_; (conv => whnf); first | refine CallG.plain rfl ?_ ?_ | refine CallG.mk rfl ?_ ?_) | (refine CallS.m ?_; (conv => whnf); refine CallM.mk rfl ?_ ?_) | (refine CallS.h ?_; (conv => whnf); refine CallM.mk rfl ?_ ?_) | (refine CallS.b ?_; (conv => whnf); refine CallM.mk rfl ?_ ?_) | (refine CallS.z ?_; (conv => whnf); refine CallM.mk rfl ?_ ?_))
  all_goals (try (conv => whnf))
  all_goals (simp only [lookT, shortTab, List.find?_cons, List.find?_nil, Bool.or_eq_true, Bool.or_eq_false_iff, *])
  all_goals (exfalso; simp_all; done)
instance fLong (s : List UInt8) : Fn BB 68 [.str s] True (.int .i64 (lookT longTab s)) := by
  refine Fn.intro (N := 76) [0, 2, 3, 4, 6, 8, 10, 12, 14, 16, 18, 20, 22, 24, 26, 28, 30, 32, 34, 36, 38, 40, 42, 44, 46, 48, 50, 52, 54, 56, 58, 60, 62, 64, 66, 68, 70, 72, 74] [] Try.call68 Try.func68 rfl rfl (by kernel_rfl) (fun hpre => ?_)
  repeat' ((conv => whnf); first | (with_reducible rfl) | exact True.intro | (with_reducible exact absTF) | (with_reducible exact absFT) | intro _ | refine And.intro ?_ ?_ | refine Fin.mk ?_ | refine CallG.plain rfl ?_ ?_ | refine CallG.mk rfl ?_ ?_ | refine CallG.nwl rfl ?_ ?_ | refine CallG.nw ?_ ?_ | refine CallF.nwl rfl ?_ ?_ | refine CallF.nw ?_ ?_ | refine AppN.mk ?_ | (refine CallS.q ?_; (conv => whnf); first | refine CallG.plain rfl ?_ ?_ | refine CallG.mk rfl ?_ ?_) | (refine CallS.m ?_; (conv => whnf); refine CallM.mk rfl ?_ ?_) | (refine CallS.h ?_; (conv => whnf); refine CallM.mk rfl ?_ ?_) | (refine CallS.b ?_; (conv => whnf); refine CallM.mk rfl ?_ ?_) | (refine CallS.z ?_; (conv => whnf); refine CallM.mk rfl ?_ ?_))
  all_goals (try (conv => whnf))
  all_goals (simp only [lookT, longTab, List.find?_cons, List.find?_nil, *])
end Go.Vc

/-
  DERIVED: THE SHELF's CONTRACTS AT THIS DUMP, IN PLAIN WORDS (tools/lay-plain.mjs out of 'TryShelf.lean', which tools/lay-shelf.mjs wrote): THE SAME DECLARATIONS UNDER THE SAME NAMES: 'import', 'namespace', 'open', 'def', 'theorem' AND NOTHING ELSE: no command of the shelf's: FOR A HAND-IN. Each laying: the table of numbers ('.._ren') and one theorem, a field a fact of the dump's own or the kernel's comparison; each contract: ONE APPLICATION.
-/
namespace Go.Proofs
open Go.Shelf
def Try.lays137_ren : Go.Shelf.Ren := ⟨fun | 137 => 32 | 217 => 42 | 266 => 47 | n => n, fun | 9 => 9 | 5 => 5 | 3 => 3 | n => n, fun | n => n⟩
theorem Try.lays137 : Go.Proofs.Lays.n137 Try.prog Try.lays137_ren := {
  mixed := by kernel_rfl
  f137 := Try.func32.trans (congrArg some (by kernel_rfl))
  f217 := Try.func42.trans (congrArg some (by kernel_rfl))
  f266 := Try.func47.trans (congrArg some (by kernel_rfl))
  t3 := Try.underlying3
  a3 := Try.isAgg3
  z3 := Try.sizeOf3
  v3 := Try.zeroValue3
  t5 := Try.underlying5
  a5 := Try.isAgg5
  z5 := Try.sizeOf5
  v5 := Try.zeroValue5
  t9 := Try.underlying9
  a9 := Try.isAgg9
  z9 := Try.sizeOf9
  v9 := Try.zeroValue9 }
open Go.RowKit in
/-- strings.IndexByte: "IndexByte returns the index of the first instance of c in s, or -1 if c is not present in s.": IT RETURNS 'Lib.indexByte s c'; the world is as it was. (LAID: no walk: one application.) -/
theorem Try.strings_IndexByte (s : ByteArray) (c : Int) (w : World) :
    Calls Try.prog 32 #[.string s, .int .u8 c] w fun e w' => e = .returned (.int .i64 (Lib.indexByte s.data.toList c.toNat.toUInt8)) ∧ w' = w := Any.strings_IndexByte Try.lays137 s c w
end Go.Proofs

namespace Go.Vc
open Go.Proofs
set_option linter.unusedVariables false
set_option maxRecDepth 10000
set_option linter.unusedSimpArgs false
instance fIB (s : List UInt8) (c : Int) : Fn BB 32 [.str s, .int .u8 c] True (.int .i64 (Lib.indexByte s c.toNat.toUInt8)) := by
  refine ⟨Try.call32, fun _ r β w vs hG m hl => ?_⟩
  obtain ⟨v1, vs1, rfl, h1, hl⟩ := hl.uncons
  obtain ⟨v2, vs2, rfl, h2, hl⟩ := hl.uncons
  obtain rfl := hl.nil_inv
  cases h1; cases h2
  refine (Try.strings_IndexByte ⟨s.toArray⟩ c w).mono fun e w' hh => ?_
  obtain ⟨rfl, rfl⟩ := hh
  exact ⟨_, _, r, β, [], rfl, ⟨rfl, rfl⟩, by simpa using (Rel.int), m, Mem.le_refl r, Hid.refl ..⟩
def hexIx (c : Int) : Int := Lib.indexByte [48, 49, 50, 51, 52, 53, 54, 55, 56, 57, 97, 98, 99, 100, 101, 102, 48, 49, 50, 51, 52, 53, 54, 55, 56, 57, 65, 66, 67, 68, 69, 70] c.toNat.toUInt8
theorem hexAt (c : Int) (h : 0 ≤ c ∧ c ≤ 255) : (if hexIx c < 0 then -1 else bitsI .and .i64 (hexIx c) 15) = hexI c := by
  have key : ∀ k : _root_.Fin 256, (if hexIx (k.val : Int) < 0 then -1 else bitsI .and .i64 (hexIx (k.val : Int)) 15) = hexI (k.val : Int) := by decide +kernel
  have := key ⟨c.toNat, by omega⟩
  have e : ((c.toNat : Nat) : Int) = c := by omega
  simp only [e] at this
  exact this
instance fHex (c : Int) : Fn BB 70 [.int .u8 c] (0 ≤ c ∧ c ≤ 255) (.int .i64 (hexI c)) := by
  refine Fn.intro (N := 10) [0, 2, 3, 7] [] Try.call70 Try.func70 rfl rfl (by kernel_rfl) (fun hpre => ?_)
  have hx := hexAt c hpre
  repeat' ((conv => whnf); first | (with_reducible rfl) | exact True.intro | (with_reducible exact absTF) | (with_reducible exact absFT) | intro _ | refine And.intro ?_ ?_ | refine Fin.mk ?_ | refine CallG.plain rfl ?_ ?_ | refine CallG.mk rfl ?_ ?_ | refine CallG.nwl rfl ?_ ?_ | refine CallG.nw ?_ ?_ | refine CallF.nwl rfl ?_ ?_ | refine CallF.nw ?_ ?_ | refine AppN.mk ?_ | (refine CallS.q ?_; (conv => whnf); first | refine CallG.plain rfl ?_ ?_ | refine CallG.mk rfl ?_ ?_) | (refine CallS.m ?_; (conv => whnf); refine CallM.mk rfl ?_ ?_) | (refine CallS.h ?_; (conv => whnf); refine CallM.mk rfl ?_ ?_) | (refine CallS.b ?_; (conv => whnf); refine CallM.mk rfl ?_ ?_) | (refine CallS.z ?_; (conv => whnf); refine CallM.mk rfl ?_ ?_))
  all_goals (try (conv => whnf))
  all_goals (try (exact Ob.mk (u8_bnd _)))
  all_goals (try (refine Ob.mk ?_; first | exact True.intro | assumption | omega | (try simp only [decide_eq_true_eq, decide_eq_false_iff_not, beq_iff_eq, beq_eq_false_iff_ne, bne_iff_ne, bne_eq_false_iff_eq, ne_eq, Bool.and_eq_true, Bool.or_eq_true, Bool.not_eq_true, Bool.not_eq_false, Bool.not_eq_true', Bool.not_eq_false', Int.toNat_natCast, Int.not_lt, Int.not_le, UInt8.ofNat_toNat, cast_eq] at *; omega)))
  all_goals (try ((show (_:Int) = _); omega))
  all_goals (try (show tupSV _ = _; with_unfolding_all rfl))
  all_goals (try ((show (_ : Nat) ≤ _); (simp <;> omega)))
  all_goals (try ((show (_ : Nat) ≤ _ ∧ (_ : Nat) ≤ _); (simp <;> omega)))
  all_goals (try ((show (_ : Int) ≤ _ ∧ (_ : Int) ≤ _ ∧ (_ : Int) ≤ _ ∧ (_ : Int) ≤ _); (simp <;> omega)))
  · have h : hexIx c < 0 := by simpa using ‹decide _ = true›
    rw [if_pos h] at hx; exact hx
  · have h : ¬ hexIx c < 0 := by rename_i h; exact of_decide_eq_false h
    rw [if_neg h] at hx; exact hx
instance fWin : Fn BB 71 [] True (.agg (winTab.map (SV.int .i64))) := by
  refine Fn.intro (N := 2) [0] [] Try.call71 Try.func71 rfl rfl (by kernel_rfl) (fun hpre => ?_)
  repeat' ((conv => whnf); first | (with_reducible rfl) | exact True.intro | (with_reducible exact absTF) | (with_reducible exact absFT) | intro _ | refine And.intro ?_ ?_ | refine Fin.mk ?_ | refine CallG.plain rfl ?_ ?_ | refine CallG.mk rfl ?_ ?_ | refine CallG.nwl rfl ?_ ?_ | refine CallG.nw ?_ ?_ | refine CallF.nwl rfl ?_ ?_ | refine CallF.nw ?_ ?_ | refine AppN.mk ?_ | (refine CallS.q ?_; (conv => whnf); first | refine CallG.plain rfl ?_ ?_ | refine CallG.mk rfl ?_ ?_) | (refine CallS.m ?_; (conv => whnf); refine CallM.mk rfl ?_ ?_) | (refine CallS.h ?_; (conv => whnf); refine CallM.mk rfl ?_ ?_) | (refine CallS.b ?_; (conv => whnf); refine CallM.mk rfl ?_ ?_) | (refine CallS.z ?_; (conv => whnf); refine CallM.mk rfl ?_ ?_))
  all_goals (try (conv => whnf))
  all_goals trace_state
instance fNumd (n : Int) : Fn BB 66 [.int .i64 n] True (.str (numF n)) := by
  refine Fn.intro (N := 21) [0, 2, 3, 9, 15, 18] [] Try.call66 Try.func66 rfl rfl (by kernel_rfl) (fun hpre => ?_)
  repeat' ((conv => whnf); first | (with_reducible rfl) | exact True.intro | (with_reducible exact absTF) | (with_reducible exact absFT) | intro _ | refine And.intro ?_ ?_ | refine Fin.mk ?_ | refine CallG.plain rfl ?_ ?_ | refine CallG.mk rfl ?_ ?_ | refine CallG.nwl rfl ?_ ?_ | refine CallG.nw ?_ ?_ | refine CallF.nwl rfl ?_ ?_ | refine CallF.nw ?_ ?_ | refine AppN.mk ?_ | (refine CallS.q ?_; (conv => whnf); first | refine CallG.plain rfl ?_ ?_ | refine CallG.mk rfl ?_ ?_) | (refine CallS.m ?_; (conv => whnf); refine CallM.mk rfl ?_ ?_) | (refine CallS.h ?_; (conv => whnf); refine CallM.mk rfl ?_ ?_) | (refine CallS.b ?_; (conv => whnf); refine CallM.mk rfl ?_ ?_) | (refine CallS.z ?_; (conv => whnf); refine CallM.mk rfl ?_ ?_))
  all_goals (try (conv => whnf))
  all_goals (try (exact Ob.mk (u8_bnd _)))
  all_goals (try (refine Ob.mk ?_; first | exact True.intro | assumption | omega | (try simp only [decide_eq_true_eq, decide_eq_false_iff_not, beq_iff_eq, beq_eq_false_iff_ne, bne_iff_ne, bne_eq_false_iff_eq, ne_eq, Bool.and_eq_true, Bool.or_eq_true, Bool.not_eq_true, Bool.not_eq_false, Bool.not_eq_true', Bool.not_eq_false', Int.toNat_natCast, Int.not_lt, Int.not_le, UInt8.ofNat_toNat, cast_eq] at *; omega)))
  all_goals (try ((show (_:Int) = _); omega))
  all_goals (try (show tupSV _ = _; with_unfolding_all rfl))
  all_goals (try ((show (_ : Nat) ≤ _); (simp <;> omega)))
  all_goals (try ((show (_ : Nat) ≤ _ ∧ (_ : Nat) ≤ _); (simp <;> omega)))
  all_goals (try ((show (_ : Int) ≤ _ ∧ (_ : Int) ≤ _ ∧ (_ : Int) ≤ _ ∧ (_ : Int) ≤ _); (simp <;> omega)))
  all_goals (try simp only [decide_eq_true_eq, decide_eq_false_iff_not, beq_iff_eq, beq_eq_false_iff_ne, bne_iff_ne, bne_eq_false_iff_eq, ne_eq, Bool.and_eq_true, Bool.or_eq_true, Bool.and_eq_false_iff, Bool.or_eq_false_iff, Bool.not_eq_true, Bool.not_eq_false, Bool.not_eq_true', Bool.not_eq_false', Int.toNat_natCast, Int.not_lt, Int.not_le, ge_iff_le, gt_iff_lt, UInt8.ofNat_toNat, cast_eq] at *)
  all_goals (unfold numF numW winTab)
  all_goals (generalize ([8364, 0, 8218, 402, 8222, 8230, 8224, 8225, 710, 8240, 352, 8249, 338, 0, 381, 0, 0, 8216, 8217, 8220, 8221, 8226, 8211, 8212, 732, 8482, 353, 8250, 339, 0, 382, 376] : List Int).getD (n - 128).toNat 0 = W at *)
  all_goals (congr 1; (repeat' split) <;> omega)
theorem ended_eq (s : List UInt8) : (decide ((s.length : Int) > 0) && ((s.getD ((s.length : Int) - 1).toNat 0).toNat : Int) == 59) = endedOf s := by
  unfold endedOf
  have e : ((s.length : Int) - 1).toNat = s.length - 1 := by omega
  rw [e]
  congr 1
  · simp
  · generalize s.getD (s.length - 1) 0 = c
    rw [Bool.eq_iff_iff, beq_iff_eq, beq_iff_eq]
    constructor
    · intro h; exact UInt8.toNat_inj.1 (by show c.toNat = 59; omega)
    · rintro rfl; rfl
theorem bare_t {s : List UInt8} (h : endedOf s = true) : s.take ((s.length : Int) - 1).toNat = bareOf s := by
  unfold bareOf
  rw [if_pos h]
  congr 1; omega
instance fNamed (s : List UInt8) : Fn BB 59 [.str s] True (.tup [.str (named s).1, .bool (named s).2]) := by
  refine Fn.intro (N := 37) [0, 2, 3, 4, 5, 6, 7, 19, 30, 34] [] Try.call59 Try.func59 rfl rfl (by kernel_rfl) (fun hpre => ?_)
  have hb := bare_t (s := s)
  have hn := bare_not (name := s)
  repeat' ((conv => whnf); first | (with_reducible rfl) | exact True.intro | (with_reducible exact absTF) | (with_reducible exact absFT) | intro _ | refine And.intro ?_ ?_ | refine Fin.mk ?_ | refine CallG.plain rfl ?_ ?_ | refine CallG.mk rfl ?_ ?_ | refine CallG.nwl rfl ?_ ?_ | refine CallG.nw ?_ ?_ | refine CallF.nwl rfl ?_ ?_ | refine CallF.nw ?_ ?_ | refine AppN.mk ?_ | (refine CallS.q ?_; (conv => whnf); first | refine CallG.plain rfl ?_ ?_ | refine CallG.mk rfl ?_ ?_) | (refine CallS.m ?_; (conv => whnf); refine CallM.mk rfl ?_ ?_) | (refine CallS.h ?_; (conv => whnf); refine CallM.mk rfl ?_ ?_) | (refine CallS.b ?_; (conv => whnf); refine CallM.mk rfl ?_ ?_) | (refine CallS.z ?_; (conv => whnf); refine CallM.mk rfl ?_ ?_))
  all_goals (try (conv => whnf))
  all_goals (try (exact Ob.mk (u8_bnd _)))
  all_goals (try (refine Ob.mk ?_; first | exact True.intro | assumption | omega | (try simp only [decide_eq_true_eq, decide_eq_false_iff_not, beq_iff_eq, beq_eq_false_iff_ne, bne_iff_ne, bne_eq_false_iff_eq, ne_eq, Bool.and_eq_true, Bool.or_eq_true, Bool.not_eq_true, Bool.not_eq_false, Bool.not_eq_true', Bool.not_eq_false', Int.toNat_natCast, Int.not_lt, Int.not_le, UInt8.ofNat_toNat, cast_eq] at *; omega)))
  all_goals (try ((show (_:Int) = _); omega))
  all_goals (try (show tupSV _ = _; with_unfolding_all rfl))
  all_goals (try ((show (_ : Nat) ≤ _); (simp <;> omega)))
  all_goals (try ((show (_ : Nat) ≤ _ ∧ (_ : Nat) ≤ _); (simp <;> omega)))
  all_goals (try ((show (_ : Int) ≤ _ ∧ (_ : Int) ≤ _ ∧ (_ : Int) ≤ _ ∧ (_ : Int) ≤ _); (simp <;> omega)))
  all_goals (simp only [ended_eq] at *)
  all_goals (first | (rw [hb ‹_›] at *) | skip)
  all_goals (unfold named namedN)
  all_goals (simp_all)
theorem refTab_len : refTab.length = 61 := by decide
theorem refTab_good : ∀ e ∈ refTab, 0 < e.1.length ∧ e.1.length ≤ 8 := by decide
def rtN (i : Nat) : List UInt8 := (refTab.map (·.1)).getD i []
theorem rt_at {i : Nat} (h : i < 61) : refTab.drop i = (rtN i, (refTab.map (·.2)).getD i 0) :: refTab.drop (i + 1) := by
  have hl : i < refTab.length := by rw [refTab_len]; exact h
  rw [List.drop_eq_getElem_cons hl]
  congr 1
  simp [rtN, List.getD, List.getElem?_eq_getElem hl]
theorem rt_good {i : Nat} (h : i < 61) : 0 < (rtN i).length ∧ (rtN i).length ≤ 8 := by
  have hl : i < refTab.length := by rw [refTab_len]; exact h
  have := refTab_good refTab[i] (by simp)
  simpa [rtN, List.getD, List.getElem?_eq_getElem hl] using this
theorem refNamed_def (s : List UInt8) : refNamed s = match refTab.find? (refHit s) with | some e => (encN e.2, true) | none => ([], false) := rfl
theorem hit_int (s e : List UInt8) (k : Int) : (e == s || ((e.getD ((e.length : Int) - 1).toNat 0).toNat : Int) != 59 && e ++ [59] == s) = refHit s (e, k) := by
  have h : ((e.length : Int) - 1).toNat = e.length - 1 := by omega
  rw [h]
  unfold refHit
  congr 2
  simp only [bne, u8_59]
instance fTable : Fn BB 62 [] True (.tup [.rd .str (refTab.map (·.1)), .rd intTy (refTab.map (·.2))]) := by
  refine Fn.intro (N := 4) [0, 1] [] Try.call62 Try.func62 rfl rfl (by kernel_rfl) (fun hpre => ?_)
  repeat' ((conv => whnf); first | (with_reducible rfl) | exact True.intro | (with_reducible exact absTF) | (with_reducible exact absFT) | intro _ | refine And.intro ?_ ?_ | refine Fin.mk ?_ | refine CallG.plain rfl ?_ ?_ | refine CallG.mk rfl ?_ ?_ | refine CallG.nwl rfl ?_ ?_ | refine CallG.nw ?_ ?_ | refine CallF.nwl rfl ?_ ?_ | refine CallF.nw ?_ ?_ | refine AppN.mk ?_ | (refine CallS.q ?_; (conv => whnf); first | refine CallG.plain rfl ?_ ?_ | refine CallG.mk rfl ?_ ?_) | (refine CallS.m ?_; (conv => whnf); refine CallM.mk rfl ?_ ?_) | (refine CallS.h ?_; (conv => whnf); refine CallM.mk rfl ?_ ?_) | (refine CallS.b ?_; (conv => whnf); refine CallM.mk rfl ?_ ?_) | (refine CallS.z ?_; (conv => whnf); refine CallM.mk rfl ?_ ?_))
  all_goals (try (conv => whnf))
  all_goals (try (exact Ob.mk (u8_bnd _)))
  all_goals (try (refine Ob.mk ?_; first | exact True.intro | assumption | omega | (try simp only [decide_eq_true_eq, decide_eq_false_iff_not, beq_iff_eq, beq_eq_false_iff_ne, bne_iff_ne, bne_eq_false_iff_eq, ne_eq, Bool.and_eq_true, Bool.or_eq_true, Bool.not_eq_true, Bool.not_eq_false, Bool.not_eq_true', Bool.not_eq_false', Int.toNat_natCast, Int.not_lt, Int.not_le, UInt8.ofNat_toNat, cast_eq] at *; omega)))
  all_goals (try ((show (_:Int) = _); omega))
  all_goals (try (show tupSV _ = _; with_unfolding_all rfl))
  all_goals (try ((show (_ : Nat) ≤ _); (simp <;> omega)))
  all_goals (try ((show (_ : Nat) ≤ _ ∧ (_ : Nat) ≤ _); (simp <;> omega)))
  all_goals (try ((show (_ : Int) ≤ _ ∧ (_ : Int) ≤ _ ∧ (_ : Int) ≤ _ ∧ (_ : Int) ≤ _); (simp <;> omega)))
  · rfl
  · rfl
instance fRNamed (s : List UInt8) : Fn BB 52 [.str s] (s.length ≤ 100000) (.tup [.str (named s).1, .bool (named s).2]) := by
  refine Fn.intro (N := 44) [0, 2, 3, 4, 5, 6, 7, 15, 38] [] Try.call52 Try.func52 rfl rfl (by kernel_rfl) (fun hpre => ?_)
  repeat' ((conv => whnf); first | (with_reducible rfl) | exact True.intro | (with_reducible exact absTF) | (with_reducible exact absFT) | intro _ | refine And.intro ?_ ?_ | refine Fin.mk ?_ | refine CallG.plain rfl ?_ ?_ | refine CallG.mk rfl ?_ ?_ | refine CallG.nwl rfl ?_ ?_ | refine CallG.nw ?_ ?_ | refine CallF.nwl rfl ?_ ?_ | refine CallF.nw ?_ ?_ | refine AppN.mk ?_ | (refine CallS.q ?_; (conv => whnf); first | refine CallG.plain rfl ?_ ?_ | refine CallG.mk rfl ?_ ?_) | (refine CallS.m ?_; (conv => whnf); refine CallM.mk rfl ?_ ?_) | (refine CallS.h ?_; (conv => whnf); refine CallM.mk rfl ?_ ?_) | (refine CallS.b ?_; (conv => whnf); refine CallM.mk rfl ?_ ?_) | (refine CallS.z ?_; (conv => whnf); refine CallM.mk rfl ?_ ?_))
  all_goals (try (conv => whnf))
  all_goals (try (exact Ob.mk (u8_bnd _)))
  all_goals (try (refine Ob.mk ?_; first | exact True.intro | assumption | omega | (try simp only [decide_eq_true_eq, decide_eq_false_iff_not, beq_iff_eq, beq_eq_false_iff_ne, bne_iff_ne, bne_eq_false_iff_eq, ne_eq, Bool.and_eq_true, Bool.or_eq_true, Bool.not_eq_true, Bool.not_eq_false, Bool.not_eq_true', Bool.not_eq_false', Int.toNat_natCast, Int.not_lt, Int.not_le, UInt8.ofNat_toNat, cast_eq] at *; omega)))
  all_goals (try ((show (_:Int) = _); omega))
  all_goals (try (show tupSV _ = _; with_unfolding_all rfl))
  all_goals (try ((show (_ : Nat) ≤ _); (simp <;> omega)))
  all_goals (try ((show (_ : Nat) ≤ _ ∧ (_ : Nat) ≤ _); (simp <;> omega)))
  all_goals (try ((show (_ : Int) ≤ _ ∧ (_ : Int) ≤ _ ∧ (_ : Int) ≤ _ ∧ (_ : Int) ≤ _); (simp <;> omega)))
  refine LoopStop.mk (α := Nat) (fun i => [(6, .int .i64 i)]) (fun _ => []) 0 (fun i => i ≤ 61 ∧ refTab.find? (refHit s) = (refTab.drop i).find? (refHit s)) (fun i => 61 - i) 0 (by simp) ?_ (fun i hi => ?_)
  · repeat' ((conv => whnf); first | (with_reducible rfl) | exact True.intro | (with_reducible exact absTF) | (with_reducible exact absFT) | intro _ | refine And.intro ?_ ?_ | refine Fin.mk ?_ | refine CallG.plain rfl ?_ ?_ | refine CallG.mk rfl ?_ ?_ | refine CallG.nwl rfl ?_ ?_ | refine CallG.nw ?_ ?_ | refine CallF.nwl rfl ?_ ?_ | refine CallF.nw ?_ ?_ | refine AppN.mk ?_ | (refine CallS.q ?_; (conv => whnf); first | refine CallG.plain rfl ?_ ?_ | refine CallG.mk rfl ?_ ?_) | (refine CallS.m ?_; (conv => whnf); refine CallM.mk rfl ?_ ?_) | (refine CallS.h ?_; (conv => whnf); refine CallM.mk rfl ?_ ?_) | (refine CallS.b ?_; (conv => whnf); refine CallM.mk rfl ?_ ?_) | (refine CallS.z ?_; (conv => whnf); refine CallM.mk rfl ?_ ?_))
    all_goals (try (conv => whnf))
    all_goals (try rfl)
  · have hn := (refNamed_eq s).symm.trans (refNamed_def s)
    have hl1 : (refTab.map (·.1)).length = 61 := by decide
    have hl2 : (refTab.map (·.2)).length = 61 := by decide
    repeat' ((conv => whnf); first | (with_reducible rfl) | exact True.intro | (with_reducible exact absTF) | (with_reducible exact absFT) | intro _ | refine And.intro ?_ ?_ | refine Fin.mk ?_ | refine CallG.plain rfl ?_ ?_ | refine CallG.mk rfl ?_ ?_ | refine CallG.nwl rfl ?_ ?_ | refine CallG.nw ?_ ?_ | refine CallF.nwl rfl ?_ ?_ | refine CallF.nw ?_ ?_ | refine AppN.mk ?_ | (refine CallS.q ?_; (conv => whnf); first | refine CallG.plain rfl ?_ ?_ | refine CallG.mk rfl ?_ ?_) | (refine CallS.m ?_; (conv => whnf); refine CallM.mk rfl ?_ ?_) | (refine CallS.h ?_; (conv => whnf); refine CallM.mk rfl ?_ ?_) | (refine CallS.b ?_; (conv => whnf); refine CallM.mk rfl ?_ ?_) | (refine CallS.z ?_; (conv => whnf); refine CallM.mk rfl ?_ ?_))
    all_goals (try (conv => whnf))
    all_goals (try (exact Ob.mk (u8_bnd _)))
    all_goals (try (refine Ob.mk ?_; first | exact True.intro | assumption | omega | (try simp only [decide_eq_true_eq, decide_eq_false_iff_not, beq_iff_eq, beq_eq_false_iff_ne, bne_iff_ne, bne_eq_false_iff_eq, ne_eq, Bool.and_eq_true, Bool.or_eq_true, Bool.not_eq_true, Bool.not_eq_false, Bool.not_eq_true', Bool.not_eq_false', Int.toNat_natCast, Int.not_lt, Int.not_le, UInt8.ofNat_toNat, cast_eq] at *; omega)))
    all_goals (try ((show (_:Int) = _); omega))
    all_goals (try (show tupSV _ = _; with_unfolding_all rfl))
    all_goals (try ((show (_ : Nat) ≤ _); (simp <;> omega)))
    all_goals (try ((show (_ : Nat) ≤ _ ∧ (_ : Nat) ≤ _); (simp <;> omega)))
    all_goals (try ((show (_ : Int) ≤ _ ∧ (_ : Int) ≤ _ ∧ (_ : Int) ≤ _ ∧ (_ : Int) ≤ _); (simp <;> omega)))
    all_goals (try (simp only [Int.toNat_natCast, Int.reduceToNat, Ty.dflt, cast_eq] at *))
    all_goals (have hrt : (List.map (fun x => x.fst) refTab).getD i [] = rtN i := rfl)
    all_goals (simp only [hrt, hl1, hl2, decide_eq_true_eq, decide_eq_false_iff_not] at *)
    all_goals (try (have hi61 : i < 61 := by omega))
    all_goals (try (have hg := rt_good hi61))
    all_goals (try (have hat := rt_at hi61))
    all_goals (try (simp only [hit_int s (rtN i) ((refTab.map (·.2)).getD i 0)] at *))
    all_goals (try omega)
    all_goals (try (show -9223372036854775808 ≤ _ ∧ _ ≤ (9223372036854775807:Int); omega))
    all_goals (try (simp only [List.length_cons, List.length_nil]; omega))
    · rw [hn, hi.2, hat, List.find?_cons_of_pos ‹_›]
    · rw [hn, hi.2, hat, List.find?_cons_of_pos ‹_›]
    · refine Rnd.mk ⟨i + 1, ?_, ?_, ?_⟩
      · exact ⟨hi61, by rw [hi.2, hat, List.find?_cons_of_neg (by rw [‹refHit s _ = false›]; simp)]⟩
      · omega
      · repeat' ((conv => whnf); first | (with_reducible rfl) | exact True.intro | (with_reducible exact absTF) | (with_reducible exact absFT) | intro _ | refine And.intro ?_ ?_ | refine Fin.mk ?_ | refine CallG.plain rfl ?_ ?_ | refine CallG.mk rfl ?_ ?_ | refine CallG.nwl rfl ?_ ?_ | refine CallG.nw ?_ ?_ | refine CallF.nwl rfl ?_ ?_ | refine CallF.nw ?_ ?_ | refine AppN.mk ?_ | (refine CallS.q ?_; (conv => whnf); first | refine CallG.plain rfl ?_ ?_ | refine CallG.mk rfl ?_ ?_) | (refine CallS.m ?_; (conv => whnf); refine CallM.mk rfl ?_ ?_) | (refine CallS.h ?_; (conv => whnf); refine CallM.mk rfl ?_ ?_) | (refine CallS.b ?_; (conv => whnf); refine CallM.mk rfl ?_ ?_) | (refine CallS.z ?_; (conv => whnf); refine CallM.mk rfl ?_ ?_))
        all_goals (try (conv => whnf))
        all_goals (try (exact Ob.mk (u8_bnd _)))
        all_goals (try (refine Ob.mk ?_; first | exact True.intro | assumption | omega | (try simp only [decide_eq_true_eq, decide_eq_false_iff_not, beq_iff_eq, beq_eq_false_iff_ne, bne_iff_ne, bne_eq_false_iff_eq, ne_eq, Bool.and_eq_true, Bool.or_eq_true, Bool.not_eq_true, Bool.not_eq_false, Bool.not_eq_true', Bool.not_eq_false', Int.toNat_natCast, Int.not_lt, Int.not_le, UInt8.ofNat_toNat, cast_eq] at *; omega)))
        all_goals (try ((show (_:Int) = _); omega))
        all_goals (try (show tupSV _ = _; with_unfolding_all rfl))
        all_goals (try ((show (_ : Nat) ≤ _); (simp <;> omega)))
        all_goals (try ((show (_ : Nat) ≤ _ ∧ (_ : Nat) ≤ _); (simp <;> omega)))
        all_goals (try ((show (_ : Int) ≤ _ ∧ (_ : Int) ≤ _ ∧ (_ : Int) ≤ _ ∧ (_ : Int) ≤ _); (simp <;> omega)))
    · rw [hn, hi.2, List.drop_of_length_le (by rw [refTab_len]; omega)]; rfl
    · rw [hn, hi.2, List.drop_of_length_le (by rw [refTab_len]; omega)]; rfl
end Go.Vc

namespace Go.Vc
open Go.Proofs
set_option linter.unusedVariables false
set_option maxRecDepth 10000
set_option linter.unusedSimpArgs false
theorem ft_at {n : Int} {i : Nat} (h : i < 27) : (fromTab.zip toTab).drop i = (fromTab.getD i 0, toTab.getD i 0) :: (fromTab.zip toTab).drop (i + 1) := by
  have key : ∀ k : _root_.Fin 27, (fromTab.zip toTab).drop k.val = (fromTab.getD k.val 0, toTab.getD k.val 0) :: (fromTab.zip toTab).drop (k.val + 1) := by decide
  exact key ⟨i, h⟩
theorem ft_f : ([128, 130, 131, 132, 133, 134, 135, 136, 137, 138, 139, 140, 142, 145, 146, 147, 148, 149, 150, 151, 152, 153, 154, 155, 156, 158, 159] : List Int) = fromTab := rfl
theorem ft_t : ([8364, 8218, 402, 8222, 8230, 8224, 8225, 710, 8240, 352, 8249, 338, 381, 8216, 8217, 8220, 8221, 8226, 8211, 8212, 732, 8482, 353, 8250, 339, 382, 376] : List Int) = toTab := rfl
theorem ft_fl : fromTab.length = 27 := rfl
theorem ft_tl : toTab.length = 27 := rfl
theorem refK_def (n : Int) : refK n = match (fromTab.zip toTab).find? (fun e => e.1 == n) with | some e => e.2 | none => if n = 0 then 65533 else n := rfl
theorem numF_ref (n : Int) : numF n = encN (refK n) := by unfold numF; rw [refK_eq]
instance fRNumd (n : Int) : Fn BB 61 [.int .i64 n] True (.str (numF n)) := by
  refine Fn.intro (N := 29) [0, 2, 3, 4, 5, 11, 19, 26] [] Try.call61 Try.func61 rfl rfl (by kernel_rfl) (fun hpre => ?_)
  repeat' ((conv => whnf); first | (with_reducible rfl) | exact True.intro | (with_reducible exact absTF) | (with_reducible exact absFT) | intro _ | refine And.intro ?_ ?_ | refine Fin.mk ?_ | refine CallG.plain rfl ?_ ?_ | refine CallG.mk rfl ?_ ?_ | refine CallG.nwl rfl ?_ ?_ | refine CallG.nw ?_ ?_ | refine CallF.nwl rfl ?_ ?_ | refine CallF.nw ?_ ?_ | refine AppN.mk ?_ | (refine CallS.q ?_; (conv => whnf); first | refine CallG.plain rfl ?_ ?_ | refine CallG.mk rfl ?_ ?_) | (refine CallS.m ?_; (conv => whnf); refine CallM.mk rfl ?_ ?_) | (refine CallS.h ?_; (conv => whnf); refine CallM.mk rfl ?_ ?_) | (refine CallS.b ?_; (conv => whnf); refine CallM.mk rfl ?_ ?_) | (refine CallS.z ?_; (conv => whnf); refine CallM.mk rfl ?_ ?_))
  all_goals (try (conv => whnf))
  all_goals (try (exact Ob.mk (u8_bnd _)))
  all_goals (try (refine Ob.mk ?_; first | exact True.intro | assumption | omega | (try simp only [decide_eq_true_eq, decide_eq_false_iff_not, beq_iff_eq, beq_eq_false_iff_ne, bne_iff_ne, bne_eq_false_iff_eq, ne_eq, Bool.and_eq_true, Bool.or_eq_true, Bool.not_eq_true, Bool.not_eq_false, Bool.not_eq_true', Bool.not_eq_false', Int.toNat_natCast, Int.not_lt, Int.not_le, UInt8.ofNat_toNat, cast_eq] at *; omega)))
  all_goals (try ((show (_:Int) = _); omega))
  all_goals (try (show tupSV _ = _; with_unfolding_all rfl))
  all_goals (try ((show (_ : Nat) ≤ _); (simp <;> omega)))
  all_goals (try ((show (_ : Nat) ≤ _ ∧ (_ : Nat) ≤ _); (simp <;> omega)))
  all_goals (try ((show (_ : Int) ≤ _ ∧ (_ : Int) ≤ _ ∧ (_ : Int) ≤ _ ∧ (_ : Int) ≤ _); (simp <;> omega)))
  have hn := refK_def n
  refine LoopStop.mk (α := Nat) (fun i => [(5, .int .i64 i)]) (fun _ => []) 0 (fun i => i ≤ 27 ∧ (fromTab.zip toTab).find? (fun e => e.1 == n) = ((fromTab.zip toTab).drop i).find? (fun e => e.1 == n)) (fun i => 27 - i) 0 (by simp) ?_ (fun i hi => ?_)
  · repeat' ((conv => whnf); first | (with_reducible rfl) | exact True.intro | (with_reducible exact absTF) | (with_reducible exact absFT) | intro _ | refine And.intro ?_ ?_ | refine Fin.mk ?_ | refine CallG.plain rfl ?_ ?_ | refine CallG.mk rfl ?_ ?_ | refine CallG.nwl rfl ?_ ?_ | refine CallG.nw ?_ ?_ | refine CallF.nwl rfl ?_ ?_ | refine CallF.nw ?_ ?_ | refine AppN.mk ?_ | (refine CallS.q ?_; (conv => whnf); first | refine CallG.plain rfl ?_ ?_ | refine CallG.mk rfl ?_ ?_) | (refine CallS.m ?_; (conv => whnf); refine CallM.mk rfl ?_ ?_) | (refine CallS.h ?_; (conv => whnf); refine CallM.mk rfl ?_ ?_) | (refine CallS.b ?_; (conv => whnf); refine CallM.mk rfl ?_ ?_) | (refine CallS.z ?_; (conv => whnf); refine CallM.mk rfl ?_ ?_))
    all_goals (try (conv => whnf))
    all_goals (try rfl)
  · repeat' ((conv => whnf); first | (with_reducible rfl) | exact True.intro | (with_reducible exact absTF) | (with_reducible exact absFT) | intro _ | refine And.intro ?_ ?_ | refine Fin.mk ?_ | refine CallG.plain rfl ?_ ?_ | refine CallG.mk rfl ?_ ?_ | refine CallG.nwl rfl ?_ ?_ | refine CallG.nw ?_ ?_ | refine CallF.nwl rfl ?_ ?_ | refine CallF.nw ?_ ?_ | refine AppN.mk ?_ | (refine CallS.q ?_; (conv => whnf); first | refine CallG.plain rfl ?_ ?_ | refine CallG.mk rfl ?_ ?_) | (refine CallS.m ?_; (conv => whnf); refine CallM.mk rfl ?_ ?_) | (refine CallS.h ?_; (conv => whnf); refine CallM.mk rfl ?_ ?_) | (refine CallS.b ?_; (conv => whnf); refine CallM.mk rfl ?_ ?_) | (refine CallS.z ?_; (conv => whnf); refine CallM.mk rfl ?_ ?_))
    all_goals (try (conv => whnf))
    all_goals (try (exact Ob.mk (u8_bnd _)))
    all_goals (try (refine Ob.mk ?_; first | exact True.intro | assumption | omega | (try simp only [decide_eq_true_eq, decide_eq_false_iff_not, beq_iff_eq, beq_eq_false_iff_ne, bne_iff_ne, bne_eq_false_iff_eq, ne_eq, Bool.and_eq_true, Bool.or_eq_true, Bool.not_eq_true, Bool.not_eq_false, Bool.not_eq_true', Bool.not_eq_false', Int.toNat_natCast, Int.not_lt, Int.not_le, UInt8.ofNat_toNat, cast_eq] at *; omega)))
    all_goals (try ((show (_:Int) = _); omega))
    all_goals (try (show tupSV _ = _; with_unfolding_all rfl))
    all_goals (try ((show (_ : Nat) ≤ _); (simp <;> omega)))
    all_goals (try ((show (_ : Nat) ≤ _ ∧ (_ : Nat) ≤ _); (simp <;> omega)))
    all_goals (try ((show (_ : Int) ≤ _ ∧ (_ : Int) ≤ _ ∧ (_ : Int) ≤ _ ∧ (_ : Int) ≤ _); (simp <;> omega)))
    all_goals (try (simp only [Int.toNat_natCast, Int.reduceToNat, Ty.dflt, cast_eq] at *))
    all_goals (simp only [ft_f, ft_t, ft_fl, ft_tl, decide_eq_true_eq, decide_eq_false_iff_not] at *)
    all_goals (try (have hi27 : i < 27 := by omega))
    all_goals (try (have hat := ft_at (n := n) hi27))
    all_goals (try omega)
    · rw [numF_ref, hn, hi.2, hat, List.find?_cons_of_pos ‹_›]
    · refine Rnd.mk ⟨i + 1, ?_, ?_, ?_⟩
      · exact ⟨hi27, by rw [hi.2, hat, List.find?_cons_of_neg (by simpa using ‹(fromTab.getD i 0 == n) = false›)]⟩
      · omega
      · repeat' ((conv => whnf); first | (with_reducible rfl) | exact True.intro | (with_reducible exact absTF) | (with_reducible exact absFT) | intro _ | refine And.intro ?_ ?_ | refine Fin.mk ?_ | refine CallG.plain rfl ?_ ?_ | refine CallG.mk rfl ?_ ?_ | refine CallG.nwl rfl ?_ ?_ | refine CallG.nw ?_ ?_ | refine CallF.nwl rfl ?_ ?_ | refine CallF.nw ?_ ?_ | refine AppN.mk ?_ | (refine CallS.q ?_; (conv => whnf); first | refine CallG.plain rfl ?_ ?_ | refine CallG.mk rfl ?_ ?_) | (refine CallS.m ?_; (conv => whnf); refine CallM.mk rfl ?_ ?_) | (refine CallS.h ?_; (conv => whnf); refine CallM.mk rfl ?_ ?_) | (refine CallS.b ?_; (conv => whnf); refine CallM.mk rfl ?_ ?_) | (refine CallS.z ?_; (conv => whnf); refine CallM.mk rfl ?_ ?_))
        all_goals (try (conv => whnf))
        all_goals (try (exact Ob.mk (u8_bnd _)))
        all_goals (try (refine Ob.mk ?_; first | exact True.intro | assumption | omega | (try simp only [decide_eq_true_eq, decide_eq_false_iff_not, beq_iff_eq, beq_eq_false_iff_ne, bne_iff_ne, bne_eq_false_iff_eq, ne_eq, Bool.and_eq_true, Bool.or_eq_true, Bool.not_eq_true, Bool.not_eq_false, Bool.not_eq_true', Bool.not_eq_false', Int.toNat_natCast, Int.not_lt, Int.not_le, UInt8.ofNat_toNat, cast_eq] at *; omega)))
        all_goals (try ((show (_:Int) = _); omega))
        all_goals (try (show tupSV _ = _; with_unfolding_all rfl))
        all_goals (try ((show (_ : Nat) ≤ _); (simp <;> omega)))
        all_goals (try ((show (_ : Nat) ≤ _ ∧ (_ : Nat) ≤ _); (simp <;> omega)))
        all_goals (try ((show (_ : Int) ≤ _ ∧ (_ : Int) ≤ _ ∧ (_ : Int) ≤ _ ∧ (_ : Int) ≤ _); (simp <;> omega)))
    all_goals (have he : (fromTab.zip toTab).drop i = [] := List.drop_of_length_le (by rw [List.length_zip, ft_fl, ft_tl]; omega))
    all_goals (have hk : refK n = if n = 0 then 65533 else n := by rw [hn, hi.2, he]; rfl)
    · rw [numF_ref, hk, if_pos (by simpa using ‹(n == 0) = true›)]
    · rw [numF_ref, hk, if_neg (by simpa using ‹(n == 0) = false›)]
end Go.Vc

namespace Go.Vc
open Go.Proofs
set_option linter.unusedVariables false
set_option maxRecDepth 10000
set_option linter.unusedSimpArgs false
theorem digs_step {base : Int} {s : List UInt8} {i : Nat} {n : Int} (h : i < s.length) :
    digsL base (s.drop i) n i = if hexI (s.getD i 0).toNat < 0 ∨ base ≤ hexI (s.getD i 0).toNat then (n, (i : Int)) else digsL base (s.drop (i + 1)) (min (n * base + hexI (s.getD i 0).toNat) 1114112) ((i + 1 : Nat) : Int) := by
  rw [List.drop_eq_getElem_cons h, digsL]
  have e : s.getD i 0 = s[i] := by simp [List.getD, List.getElem?_eq_getElem h]
  rw [e]; rfl
theorem digs_end {base : Int} {s : List UInt8} {i : Nat} {n : Int} (h : s.length ≤ i) : digsL base (s.drop i) n i = (n, (i : Int)) := by
  rw [List.drop_of_length_le h]; rfl
theorem hexI_le (c : Int) : hexI c ≤ 15 := by unfold hexI; (repeat' split) <;> omega
instance fDig (s : List UInt8) (at_ base : Int) : Fn BB 65 [.str s, .int .i64 at_, .int .i64 base] (0 ≤ at_ ∧ at_ ≤ s.length ∧ s.length ≤ 100000 ∧ (base = 10 ∨ base = 16)) (.tup [.int .i64 (digsL base (s.drop at_.toNat) 0 at_).1, .int .i64 (digsL base (s.drop at_.toNat) 0 at_).2]) := by
  refine Fn.intro (N := 36) [0, 1, 2, 6, 7, 8, 9, 13, 26, 33] [] Try.call65 Try.func65 rfl rfl (by kernel_rfl) (fun hpre => ?_)
  obtain ⟨p1, p2, p3, p4⟩ := hpre
  repeat' ((conv => whnf); first | (with_reducible rfl) | exact True.intro | (with_reducible exact absTF) | (with_reducible exact absFT) | intro _ | refine And.intro ?_ ?_ | refine Fin.mk ?_ | refine CallG.plain rfl ?_ ?_ | refine CallG.mk rfl ?_ ?_ | refine CallG.nwl rfl ?_ ?_ | refine CallG.nw ?_ ?_ | refine CallF.nwl rfl ?_ ?_ | refine CallF.nw ?_ ?_ | refine AppN.mk ?_ | (refine CallS.q ?_; (conv => whnf); first | refine CallG.plain rfl ?_ ?_ | refine CallG.mk rfl ?_ ?_) | (refine CallS.m ?_; (conv => whnf); refine CallM.mk rfl ?_ ?_) | (refine CallS.h ?_; (conv => whnf); refine CallM.mk rfl ?_ ?_) | (refine CallS.b ?_; (conv => whnf); refine CallM.mk rfl ?_ ?_) | (refine CallS.z ?_; (conv => whnf); refine CallM.mk rfl ?_ ?_))
  all_goals (try (conv => whnf))
  all_goals (try (exact Ob.mk (u8_bnd _)))
  all_goals (try (refine Ob.mk ?_; first | exact True.intro | assumption | omega | (try simp only [decide_eq_true_eq, decide_eq_false_iff_not, beq_iff_eq, beq_eq_false_iff_ne, bne_iff_ne, bne_eq_false_iff_eq, ne_eq, Bool.and_eq_true, Bool.or_eq_true, Bool.not_eq_true, Bool.not_eq_false, Bool.not_eq_true', Bool.not_eq_false', Int.toNat_natCast, Int.not_lt, Int.not_le, UInt8.ofNat_toNat, cast_eq] at *; omega)))
  all_goals (try ((show (_:Int) = _); omega))
  all_goals (try (show tupSV _ = _; with_unfolding_all rfl))
  all_goals (try ((show (_ : Nat) ≤ _); (simp <;> omega)))
  all_goals (try ((show (_ : Nat) ≤ _ ∧ (_ : Nat) ≤ _); (simp <;> omega)))
  all_goals (try ((show (_ : Int) ≤ _ ∧ (_ : Int) ≤ _ ∧ (_ : Int) ≤ _ ∧ (_ : Int) ≤ _); (simp <;> omega)))
  refine LoopStop.mk (α := Int × Nat) (fun a => [(8, .int .i64 a.1), (1, .int .i64 (a.2 : Nat))]) (fun _ => []) 0 (fun a => 0 ≤ a.1 ∧ a.1 ≤ 1114112 ∧ a.2 ≤ s.length ∧ digsL base (s.drop a.2) a.1 a.2 = digsL base (s.drop at_.toNat) 0 at_) (fun a => s.length - a.2) (0, at_.toNat) ⟨by simp, by simp, by simp; omega, by rw [show ((at_.toNat : Nat) : Int) = at_ by omega]⟩ ?_ (fun a ha => ?_)
  · repeat' ((conv => whnf); first | (with_reducible rfl) | exact True.intro | (with_reducible exact absTF) | (with_reducible exact absFT) | intro _ | refine And.intro ?_ ?_ | refine Fin.mk ?_ | refine CallG.plain rfl ?_ ?_ | refine CallG.mk rfl ?_ ?_ | refine CallG.nwl rfl ?_ ?_ | refine CallG.nw ?_ ?_ | refine CallF.nwl rfl ?_ ?_ | refine CallF.nw ?_ ?_ | refine AppN.mk ?_ | (refine CallS.q ?_; (conv => whnf); first | refine CallG.plain rfl ?_ ?_ | refine CallG.mk rfl ?_ ?_) | (refine CallS.m ?_; (conv => whnf); refine CallM.mk rfl ?_ ?_) | (refine CallS.h ?_; (conv => whnf); refine CallM.mk rfl ?_ ?_) | (refine CallS.b ?_; (conv => whnf); refine CallM.mk rfl ?_ ?_) | (refine CallS.z ?_; (conv => whnf); refine CallM.mk rfl ?_ ?_))
    all_goals (try (conv => whnf))
    all_goals (try (exact Ob.mk (u8_bnd _)))
    all_goals (try (refine Ob.mk ?_; first | exact True.intro | assumption | omega | (try simp only [decide_eq_true_eq, decide_eq_false_iff_not, beq_iff_eq, beq_eq_false_iff_ne, bne_iff_ne, bne_eq_false_iff_eq, ne_eq, Bool.and_eq_true, Bool.or_eq_true, Bool.not_eq_true, Bool.not_eq_false, Bool.not_eq_true', Bool.not_eq_false', Int.toNat_natCast, Int.not_lt, Int.not_le, UInt8.ofNat_toNat, cast_eq] at *; omega)))
    all_goals (try ((show (_:Int) = _); omega))
    all_goals (try (show tupSV _ = _; with_unfolding_all rfl))
    all_goals (try ((show (_ : Nat) ≤ _); (simp <;> omega)))
    all_goals (try ((show (_ : Nat) ≤ _ ∧ (_ : Nat) ≤ _); (simp <;> omega)))
    all_goals (try ((show (_ : Int) ≤ _ ∧ (_ : Int) ≤ _ ∧ (_ : Int) ≤ _ ∧ (_ : Int) ≤ _); (simp <;> omega)))
    all_goals (try rfl)
  · obtain ⟨n, i⟩ := a
    obtain ⟨a1, a2, a3, a4⟩ := ha
    dsimp only at a1 a2 a3 a4 ⊢
    have hh := hexI_le (s.getD i 0).toNat
    have hstep := digs_step (base := base) (s := s) (i := i) (n := n)
    have hend := digs_end (base := base) (s := s) (i := i) (n := n)
    have hm : 0 ≤ n * base ∧ n * base ≤ 17825792 := by rcases p4 with rfl | rfl <;> omega
    repeat' ((conv => whnf); first | (with_reducible rfl) | exact True.intro | (with_reducible exact absTF) | (with_reducible exact absFT) | intro _ | refine And.intro ?_ ?_ | refine Fin.mk ?_ | refine CallG.plain rfl ?_ ?_ | refine CallG.mk rfl ?_ ?_ | refine CallG.nwl rfl ?_ ?_ | refine CallG.nw ?_ ?_ | refine CallF.nwl rfl ?_ ?_ | refine CallF.nw ?_ ?_ | refine AppN.mk ?_ | (refine CallS.q ?_; (conv => whnf); first | refine CallG.plain rfl ?_ ?_ | refine CallG.mk rfl ?_ ?_) | (refine CallS.m ?_; (conv => whnf); refine CallM.mk rfl ?_ ?_) | (refine CallS.h ?_; (conv => whnf); refine CallM.mk rfl ?_ ?_) | (refine CallS.b ?_; (conv => whnf); refine CallM.mk rfl ?_ ?_) | (refine CallS.z ?_; (conv => whnf); refine CallM.mk rfl ?_ ?_))
    all_goals (try (conv => whnf))
    all_goals (try (exact Ob.mk (u8_bnd _)))
    all_goals (try (refine Ob.mk ?_; first | exact True.intro | assumption | omega | (try simp only [decide_eq_true_eq, decide_eq_false_iff_not, beq_iff_eq, beq_eq_false_iff_ne, bne_iff_ne, bne_eq_false_iff_eq, ne_eq, Bool.and_eq_true, Bool.or_eq_true, Bool.not_eq_true, Bool.not_eq_false, Bool.not_eq_true', Bool.not_eq_false', Int.toNat_natCast, Int.not_lt, Int.not_le, UInt8.ofNat_toNat, cast_eq] at *; omega)))
    all_goals (try ((show (_:Int) = _); omega))
    all_goals (try (show tupSV _ = _; with_unfolding_all rfl))
    all_goals (try ((show (_ : Nat) ≤ _); (simp <;> omega)))
    all_goals (try ((show (_ : Nat) ≤ _ ∧ (_ : Nat) ≤ _); (simp <;> omega)))
    all_goals (try ((show (_ : Int) ≤ _ ∧ (_ : Int) ≤ _ ∧ (_ : Int) ≤ _ ∧ (_ : Int) ≤ _); (simp <;> omega)))
    all_goals (try (simp only [Int.toNat_natCast, Int.reduceToNat, Ty.dflt, cast_eq] at *))
    all_goals (try simp only [decide_eq_true_eq, decide_eq_false_iff_not, beq_iff_eq, beq_eq_false_iff_ne, bne_iff_ne, bne_eq_false_iff_eq, ne_eq, Bool.and_eq_true, Bool.or_eq_true, Bool.and_eq_false_iff, Bool.or_eq_false_iff, Bool.not_eq_true, Bool.not_eq_false, Bool.not_eq_true', Bool.not_eq_false', Int.toNat_natCast, Int.not_lt, Int.not_le, ge_iff_le, gt_iff_lt, UInt8.ofNat_toNat, cast_eq] at *)
    all_goals (try omega)
    all_goals (try (have hlt : i < s.length := by omega))
    all_goals (try (have hst := hstep hlt))
    · rw [← a4, hst, if_pos ‹_›]
    · rw [← a4, hst, if_pos ‹_›]
    · refine Rnd.mk ⟨(1114112, i + 1), ?_, ?_, ?_⟩
      · refine ⟨by simp, by simp, hlt, ?_⟩
        rw [← a4, hst, if_neg (by omega)]
        congr 1; omega
      · simp only; omega
      · repeat' ((conv => whnf); first | (with_reducible rfl) | exact True.intro | (with_reducible exact absTF) | (with_reducible exact absFT) | intro _ | refine And.intro ?_ ?_ | refine Fin.mk ?_ | refine CallG.plain rfl ?_ ?_ | refine CallG.mk rfl ?_ ?_ | refine CallG.nwl rfl ?_ ?_ | refine CallG.nw ?_ ?_ | refine CallF.nwl rfl ?_ ?_ | refine CallF.nw ?_ ?_ | refine AppN.mk ?_ | (refine CallS.q ?_; (conv => whnf); first | refine CallG.plain rfl ?_ ?_ | refine CallG.mk rfl ?_ ?_) | (refine CallS.m ?_; (conv => whnf); refine CallM.mk rfl ?_ ?_) | (refine CallS.h ?_; (conv => whnf); refine CallM.mk rfl ?_ ?_) | (refine CallS.b ?_; (conv => whnf); refine CallM.mk rfl ?_ ?_) | (refine CallS.z ?_; (conv => whnf); refine CallM.mk rfl ?_ ?_))
        all_goals (try (conv => whnf))
        all_goals (try (exact Ob.mk (u8_bnd _)))
        all_goals (try (refine Ob.mk ?_; first | exact True.intro | assumption | omega | (try simp only [decide_eq_true_eq, decide_eq_false_iff_not, beq_iff_eq, beq_eq_false_iff_ne, bne_iff_ne, bne_eq_false_iff_eq, ne_eq, Bool.and_eq_true, Bool.or_eq_true, Bool.not_eq_true, Bool.not_eq_false, Bool.not_eq_true', Bool.not_eq_false', Int.toNat_natCast, Int.not_lt, Int.not_le, UInt8.ofNat_toNat, cast_eq] at *; omega)))
        all_goals (try ((show (_:Int) = _); omega))
        all_goals (try (show tupSV _ = _; with_unfolding_all rfl))
        all_goals (try ((show (_ : Nat) ≤ _); (simp <;> omega)))
        all_goals (try ((show (_ : Nat) ≤ _ ∧ (_ : Nat) ≤ _); (simp <;> omega)))
        all_goals (try ((show (_ : Int) ≤ _ ∧ (_ : Int) ≤ _ ∧ (_ : Int) ≤ _ ∧ (_ : Int) ≤ _); (simp <;> omega)))
    · refine Rnd.mk ⟨(n * base + hexI (s.getD i 0).toNat, i + 1), ?_, ?_, ?_⟩
      · refine ⟨by simp only; omega, by simp only; omega, hlt, ?_⟩
        rw [← a4, hst, if_neg (by omega)]
        congr 1; omega
      · simp only; omega
      · repeat' ((conv => whnf); first | (with_reducible rfl) | exact True.intro | (with_reducible exact absTF) | (with_reducible exact absFT) | intro _ | refine And.intro ?_ ?_ | refine Fin.mk ?_ | refine CallG.plain rfl ?_ ?_ | refine CallG.mk rfl ?_ ?_ | refine CallG.nwl rfl ?_ ?_ | refine CallG.nw ?_ ?_ | refine CallF.nwl rfl ?_ ?_ | refine CallF.nw ?_ ?_ | refine AppN.mk ?_ | (refine CallS.q ?_; (conv => whnf); first | refine CallG.plain rfl ?_ ?_ | refine CallG.mk rfl ?_ ?_) | (refine CallS.m ?_; (conv => whnf); refine CallM.mk rfl ?_ ?_) | (refine CallS.h ?_; (conv => whnf); refine CallM.mk rfl ?_ ?_) | (refine CallS.b ?_; (conv => whnf); refine CallM.mk rfl ?_ ?_) | (refine CallS.z ?_; (conv => whnf); refine CallM.mk rfl ?_ ?_))
        all_goals (try (conv => whnf))
        all_goals (try (exact Ob.mk (u8_bnd _)))
        all_goals (try (refine Ob.mk ?_; first | exact True.intro | assumption | omega | (try simp only [decide_eq_true_eq, decide_eq_false_iff_not, beq_iff_eq, beq_eq_false_iff_ne, bne_iff_ne, bne_eq_false_iff_eq, ne_eq, Bool.and_eq_true, Bool.or_eq_true, Bool.not_eq_true, Bool.not_eq_false, Bool.not_eq_true', Bool.not_eq_false', Int.toNat_natCast, Int.not_lt, Int.not_le, UInt8.ofNat_toNat, cast_eq] at *; omega)))
        all_goals (try ((show (_:Int) = _); omega))
        all_goals (try (show tupSV _ = _; with_unfolding_all rfl))
        all_goals (try ((show (_ : Nat) ≤ _); (simp <;> omega)))
        all_goals (try ((show (_ : Nat) ≤ _ ∧ (_ : Nat) ≤ _); (simp <;> omega)))
        all_goals (try ((show (_ : Int) ≤ _ ∧ (_ : Int) ≤ _ ∧ (_ : Int) ≤ _ ∧ (_ : Int) ≤ _); (simp <;> omega)))
    · rw [← a4, hend (by omega)]
    · rw [← a4, hend (by omega)]
theorem an_def (c : UInt8) : (alI (c.toNat : Int) || decide (48 ≤ (c.toNat : Int)) && decide ((c.toNat : Int) ≤ 57)) = anB c := rfl
theorem let_step {s : List UInt8} {i : Nat} (h : i < s.length) (hi : i < 8) : letN (8 - i) (s.drop i) = if anB (s.getD i 0) = true then letN (8 - (i + 1)) (s.drop (i + 1)) + 1 else 0 := by
  rw [List.drop_eq_getElem_cons h, show 8 - i = (8 - (i + 1)) + 1 by omega, letN]
  have e : s.getD i 0 = s[i] := by simp [List.getD, List.getElem?_eq_getElem h]
  rw [e]
theorem let_end {s : List UInt8} {i : Nat} (h : s.length ≤ i ∨ 8 ≤ i) : letN (8 - i) (s.drop i) = 0 := by
  rcases h with h | h
  · rw [List.drop_of_length_le h]; cases 8 - i <;> rfl
  · rw [show 8 - i = 0 by omega]; rfl
instance fLetN (s : List UInt8) : Fn BB 58 [.str s] (s.length ≤ 100000) (.int .i64 (letN 8 s)) := by
  refine Fn.intro (N := 33) [0, 2, 3, 29] [] Try.call58 Try.func58 rfl rfl (by kernel_rfl) (fun hpre => ?_)
  repeat' ((conv => whnf); first | (with_reducible rfl) | exact True.intro | (with_reducible exact absTF) | (with_reducible exact absFT) | intro _ | refine And.intro ?_ ?_ | refine Fin.mk ?_ | refine CallG.plain rfl ?_ ?_ | refine CallG.mk rfl ?_ ?_ | refine CallG.nwl rfl ?_ ?_ | refine CallG.nw ?_ ?_ | refine CallF.nwl rfl ?_ ?_ | refine CallF.nw ?_ ?_ | refine AppN.mk ?_ | (refine CallS.q ?_; (conv => whnf); first | refine CallG.plain rfl ?_ ?_ | refine CallG.mk rfl ?_ ?_) | (refine CallS.m ?_; (conv => whnf); refine CallM.mk rfl ?_ ?_) | (refine CallS.h ?_; (conv => whnf); refine CallM.mk rfl ?_ ?_) | (refine CallS.b ?_; (conv => whnf); refine CallM.mk rfl ?_ ?_) | (refine CallS.z ?_; (conv => whnf); refine CallM.mk rfl ?_ ?_))
  all_goals (try (conv => whnf))
  all_goals (try (exact Ob.mk (u8_bnd _)))
  all_goals (try (refine Ob.mk ?_; first | exact True.intro | assumption | omega | (try simp only [decide_eq_true_eq, decide_eq_false_iff_not, beq_iff_eq, beq_eq_false_iff_ne, bne_iff_ne, bne_eq_false_iff_eq, ne_eq, Bool.and_eq_true, Bool.or_eq_true, Bool.not_eq_true, Bool.not_eq_false, Bool.not_eq_true', Bool.not_eq_false', Int.toNat_natCast, Int.not_lt, Int.not_le, UInt8.ofNat_toNat, cast_eq] at *; omega)))
  all_goals (try ((show (_:Int) = _); omega))
  all_goals (try (show tupSV _ = _; with_unfolding_all rfl))
  all_goals (try ((show (_ : Nat) ≤ _); (simp <;> omega)))
  all_goals (try ((show (_ : Nat) ≤ _ ∧ (_ : Nat) ≤ _); (simp <;> omega)))
  all_goals (try ((show (_ : Int) ≤ _ ∧ (_ : Int) ≤ _ ∧ (_ : Int) ≤ _ ∧ (_ : Int) ≤ _); (simp <;> omega)))
  refine LoopStop.mk (α := Nat) (fun i => [(3, .int .i64 i)]) (fun _ => []) 0 (fun i => i ≤ s.length ∧ i ≤ 8 ∧ letN 8 s = i + letN (8 - i) (s.drop i)) (fun i => 8 - i) 0 (by simp) ?_ (fun i hi => ?_)
  · repeat' ((conv => whnf); first | (with_reducible rfl) | exact True.intro | (with_reducible exact absTF) | (with_reducible exact absFT) | intro _ | refine And.intro ?_ ?_ | refine Fin.mk ?_ | refine CallG.plain rfl ?_ ?_ | refine CallG.mk rfl ?_ ?_ | refine CallG.nwl rfl ?_ ?_ | refine CallG.nw ?_ ?_ | refine CallF.nwl rfl ?_ ?_ | refine CallF.nw ?_ ?_ | refine AppN.mk ?_ | (refine CallS.q ?_; (conv => whnf); first | refine CallG.plain rfl ?_ ?_ | refine CallG.mk rfl ?_ ?_) | (refine CallS.m ?_; (conv => whnf); refine CallM.mk rfl ?_ ?_) | (refine CallS.h ?_; (conv => whnf); refine CallM.mk rfl ?_ ?_) | (refine CallS.b ?_; (conv => whnf); refine CallM.mk rfl ?_ ?_) | (refine CallS.z ?_; (conv => whnf); refine CallM.mk rfl ?_ ?_))
    all_goals (try (conv => whnf))
    all_goals (try (exact Ob.mk (u8_bnd _)))
    all_goals (try (refine Ob.mk ?_; first | exact True.intro | assumption | omega | (try simp only [decide_eq_true_eq, decide_eq_false_iff_not, beq_iff_eq, beq_eq_false_iff_ne, bne_iff_ne, bne_eq_false_iff_eq, ne_eq, Bool.and_eq_true, Bool.or_eq_true, Bool.not_eq_true, Bool.not_eq_false, Bool.not_eq_true', Bool.not_eq_false', Int.toNat_natCast, Int.not_lt, Int.not_le, UInt8.ofNat_toNat, cast_eq] at *; omega)))
    all_goals (try ((show (_:Int) = _); omega))
    all_goals (try (show tupSV _ = _; with_unfolding_all rfl))
    all_goals (try ((show (_ : Nat) ≤ _); (simp <;> omega)))
    all_goals (try ((show (_ : Nat) ≤ _ ∧ (_ : Nat) ≤ _); (simp <;> omega)))
    all_goals (try ((show (_ : Int) ≤ _ ∧ (_ : Int) ≤ _ ∧ (_ : Int) ≤ _ ∧ (_ : Int) ≤ _); (simp <;> omega)))
    all_goals (try rfl)
  · obtain ⟨h1, h2, h3⟩ := hi
    have hstep := let_step (s := s) (i := i)
    have hend := let_end (s := s) (i := i)
    repeat' ((conv => whnf); first | (with_reducible rfl) | exact True.intro | (with_reducible exact absTF) | (with_reducible exact absFT) | intro _ | refine And.intro ?_ ?_ | refine Fin.mk ?_ | refine CallG.plain rfl ?_ ?_ | refine CallG.mk rfl ?_ ?_ | refine CallG.nwl rfl ?_ ?_ | refine CallG.nw ?_ ?_ | refine CallF.nwl rfl ?_ ?_ | refine CallF.nw ?_ ?_ | refine AppN.mk ?_ | (refine CallS.q ?_; (conv => whnf); first | refine CallG.plain rfl ?_ ?_ | refine CallG.mk rfl ?_ ?_) | (refine CallS.m ?_; (conv => whnf); refine CallM.mk rfl ?_ ?_) | (refine CallS.h ?_; (conv => whnf); refine CallM.mk rfl ?_ ?_) | (refine CallS.b ?_; (conv => whnf); refine CallM.mk rfl ?_ ?_) | (refine CallS.z ?_; (conv => whnf); refine CallM.mk rfl ?_ ?_))
    all_goals (try (conv => whnf))
    all_goals (try (exact Ob.mk (u8_bnd _)))
    all_goals (try (refine Ob.mk ?_; first | exact True.intro | assumption | omega | (try simp only [decide_eq_true_eq, decide_eq_false_iff_not, beq_iff_eq, beq_eq_false_iff_ne, bne_iff_ne, bne_eq_false_iff_eq, ne_eq, Bool.and_eq_true, Bool.or_eq_true, Bool.not_eq_true, Bool.not_eq_false, Bool.not_eq_true', Bool.not_eq_false', Int.toNat_natCast, Int.not_lt, Int.not_le, UInt8.ofNat_toNat, cast_eq] at *; omega)))
    all_goals (try ((show (_:Int) = _); omega))
    all_goals (try (show tupSV _ = _; with_unfolding_all rfl))
    all_goals (try ((show (_ : Nat) ≤ _); (simp <;> omega)))
    all_goals (try ((show (_ : Nat) ≤ _ ∧ (_ : Nat) ≤ _); (simp <;> omega)))
    all_goals (try ((show (_ : Int) ≤ _ ∧ (_ : Int) ≤ _ ∧ (_ : Int) ≤ _ ∧ (_ : Int) ≤ _); (simp <;> omega)))
    all_goals (try (simp only [Int.toNat_natCast, Int.reduceToNat, Ty.dflt, cast_eq] at *))
    all_goals (simp only [an_def] at *)
    all_goals (try simp only [decide_eq_true_eq, decide_eq_false_iff_not, beq_iff_eq, beq_eq_false_iff_ne, bne_iff_ne, bne_eq_false_iff_eq, ne_eq, Bool.and_eq_true, Bool.or_eq_true, Bool.and_eq_false_iff, Bool.or_eq_false_iff, Bool.not_eq_true, Bool.not_eq_false, Bool.not_eq_true', Bool.not_eq_false', Int.toNat_natCast, Int.not_lt, Int.not_le, ge_iff_le, gt_iff_lt, UInt8.ofNat_toNat, cast_eq] at *)
    · obtain ⟨⟨g1, g2⟩, g3⟩ := ‹_ ∧ anB _ = true›
      have hst := hstep (by omega) (by omega)
      rw [if_pos g3] at hst
      refine Rnd.mk ⟨i + 1, ?_, ?_, ?_⟩
      · exact ⟨by omega, by omega, by omega⟩
      · omega
      · repeat' ((conv => whnf); first | (with_reducible rfl) | exact True.intro | (with_reducible exact absTF) | (with_reducible exact absFT) | intro _ | refine And.intro ?_ ?_ | refine Fin.mk ?_ | refine CallG.plain rfl ?_ ?_ | refine CallG.mk rfl ?_ ?_ | refine CallG.nwl rfl ?_ ?_ | refine CallG.nw ?_ ?_ | refine CallF.nwl rfl ?_ ?_ | refine CallF.nw ?_ ?_ | refine AppN.mk ?_ | (refine CallS.q ?_; (conv => whnf); first | refine CallG.plain rfl ?_ ?_ | refine CallG.mk rfl ?_ ?_) | (refine CallS.m ?_; (conv => whnf); refine CallM.mk rfl ?_ ?_) | (refine CallS.h ?_; (conv => whnf); refine CallM.mk rfl ?_ ?_) | (refine CallS.b ?_; (conv => whnf); refine CallM.mk rfl ?_ ?_) | (refine CallS.z ?_; (conv => whnf); refine CallM.mk rfl ?_ ?_))
        all_goals (try (conv => whnf))
        all_goals (try (exact Ob.mk (u8_bnd _)))
        all_goals (try (refine Ob.mk ?_; first | exact True.intro | assumption | omega | (try simp only [decide_eq_true_eq, decide_eq_false_iff_not, beq_iff_eq, beq_eq_false_iff_ne, bne_iff_ne, bne_eq_false_iff_eq, ne_eq, Bool.and_eq_true, Bool.or_eq_true, Bool.not_eq_true, Bool.not_eq_false, Bool.not_eq_true', Bool.not_eq_false', Int.toNat_natCast, Int.not_lt, Int.not_le, UInt8.ofNat_toNat, cast_eq] at *; omega)))
        all_goals (try ((show (_:Int) = _); omega))
        all_goals (try (show tupSV _ = _; with_unfolding_all rfl))
        all_goals (try ((show (_ : Nat) ≤ _); (simp <;> omega)))
        all_goals (try ((show (_ : Nat) ≤ _ ∧ (_ : Nat) ≤ _); (simp <;> omega)))
        all_goals (try ((show (_ : Int) ≤ _ ∧ (_ : Int) ≤ _ ∧ (_ : Int) ≤ _ ∧ (_ : Int) ≤ _); (simp <;> omega)))
    · have : letN (8 - i) (s.drop i) = 0 := by
        by_cases h8 : s.length ≤ i ∨ 8 ≤ i
        · exact hend h8
        · rw [hstep (by omega) (by omega), if_neg]
          rcases ‹(_ ∨ _) ∨ anB _ = false› with g | g
          · omega
          · rw [g]; simp
      omega
theorem hexS_or (s : List UInt8) (h : 2 < s.length) : (bitsI .or .u8 ((s.getD 2 0).toNat : Int) 32 == 120) = hexS s := by
  have key : ∀ k : _root_.Fin 256, (bitsI .or .u8 (k.val : Int) 32 == 120) = ((k.val : Int) == 120 || (k.val : Int) == 88) := by decide +kernel
  unfold hexS
  have h2 : decide (s.length > 2) = true := by simpa using h
  rw [h2, Bool.true_and, ← u8_120, ← u8_88]
  exact key ⟨(s.getD 2 0).toNat, (s.getD 2 0).toNat_lt⟩
theorem hexS_len {s : List UInt8} (h : hexS s = true) : 2 < s.length := by
  simp only [hexS, Bool.and_eq_true, decide_eq_true_eq] at h; exact h.1
theorem hexS_no {s : List UInt8} (h : s.length ≤ 2) : hexS s = false := by
  unfold hexS; rw [show decide (s.length > 2) = false by simpa using h]; rfl
theorem numAt_bound {s : List UInt8} (h : 2 ≤ s.length) : 2 ≤ (numAt s).2 ∧ (numAt s).2 ≤ s.length := by
  unfold numAt
  by_cases hx : hexS s = true
  · rw [if_pos hx]
    have := digsL_bound 16 (s.drop 3) 0 3
    have := hexS_len hx
    simp only [List.length_drop] at *
    omega
  · rw [if_neg hx]
    have := digsL_bound 10 (s.drop 2) 0 2
    simp only [List.length_drop] at *
    omega
theorem hexC (s : List UInt8) : (decide ((s.length : Int) > 2) && bitsI .or .u8 ((s.getD 2 0).toNat : Int) 32 == 120) = hexS s := by
  by_cases h : 2 < s.length
  · rw [hexS_or s h, show decide ((s.length : Int) > 2) = true from decide_eq_true (by omega), Bool.true_and]
  · rw [hexS_no (by omega), show decide ((s.length : Int) > 2) = false from decide_eq_false (by omega), Bool.false_and]
theorem hexC2 (s : List UInt8) : (decide ((s.length : Int) > 2) && (((s.getD 2 0).toNat : Int) == 120 || ((s.getD 2 0).toNat : Int) == 88)) = hexS s := by
  rw [u8_120, u8_88]
  unfold hexS
  congr 1
  rw [decide_eq_decide]; omega
def hexFrom (s : List UInt8) : Int := if hexS s = true then 3 else 2
theorem numberF_no {s : List UInt8} (h : (numAt s).2 = hexFrom s) : numberF s = ([], 0) := by
  unfold numberF; exact if_pos h
theorem numberF_semi {s : List UInt8} (h : ¬ (numAt s).2 = hexFrom s) (h2 : (numAt s).2 < s.length ∧ s.getD (numAt s).2.toNat 0 = 59) : numberF s = (numF (numAt s).1, (numAt s).2 + 1) := by
  unfold numberF; refine (if_neg h).trans ?_; rw [if_pos h2]
theorem numberF_bare {s : List UInt8} (h : ¬ (numAt s).2 = hexFrom s) (h2 : ¬ ((numAt s).2 < s.length ∧ s.getD (numAt s).2.toNat 0 = 59)) : numberF s = (numF (numAt s).1, (numAt s).2) := by
  unfold numberF; refine (if_neg h).trans ?_; rw [if_neg h2]
theorem numAt_hex {s : List UInt8} (h : hexS s = true) : digsL 16 (s.drop 3) 0 3 = numAt s ∧ hexFrom s = 3 := by
  unfold numAt hexFrom; rw [if_pos h, if_pos h]; exact ⟨rfl, rfl⟩
theorem numAt_dec {s : List UInt8} (h : hexS s = false) : digsL 10 (s.drop 2) 0 2 = numAt s ∧ hexFrom s = 2 := by
  unfold numAt hexFrom; rw [h]; exact ⟨rfl, rfl⟩
instance fNum (s : List UInt8) : Fn BB 57 [.str s] (2 ≤ s.length ∧ s.length ≤ 100000) (.tup [.str (numberF s).1, .int .i64 (numberF s).2]) := by
  refine Fn.intro (N := 42) [0, 2, 3, 4, 5, 6, 7, 16, 26, 36] [] Try.call57 Try.func57 rfl rfl (by kernel_rfl) (fun hpre => ?_)
  obtain ⟨p1, p2⟩ := hpre
  have hb := numAt_bound p1
  have hA := numAt_hex (s := s)
  have hB := numAt_dec (s := s)
  have hl := hexS_len (s := s)
  repeat' ((conv => whnf); first | (with_reducible rfl) | exact True.intro | (with_reducible exact absTF) | (with_reducible exact absFT) | intro _ | refine And.intro ?_ ?_ | refine Fin.mk ?_ | refine CallG.plain rfl ?_ ?_ | refine CallG.mk rfl ?_ ?_ | refine CallG.nwl rfl ?_ ?_ | refine CallG.nw ?_ ?_ | refine CallF.nwl rfl ?_ ?_ | refine CallF.nw ?_ ?_ | refine AppN.mk ?_ | (refine CallS.q ?_; (conv => whnf); first | refine CallG.plain rfl ?_ ?_ | refine CallG.mk rfl ?_ ?_) | (refine CallS.m ?_; (conv => whnf); refine CallM.mk rfl ?_ ?_) | (refine CallS.h ?_; (conv => whnf); refine CallM.mk rfl ?_ ?_) | (refine CallS.b ?_; (conv => whnf); refine CallM.mk rfl ?_ ?_) | (refine CallS.z ?_; (conv => whnf); refine CallM.mk rfl ?_ ?_))
  all_goals (try (conv => whnf))
  all_goals (try (exact Ob.mk (u8_bnd _)))
  all_goals (try (refine Ob.mk ?_; first | exact True.intro | assumption | omega | (try simp only [decide_eq_true_eq, decide_eq_false_iff_not, beq_iff_eq, beq_eq_false_iff_ne, bne_iff_ne, bne_eq_false_iff_eq, ne_eq, Bool.and_eq_true, Bool.or_eq_true, Bool.not_eq_true, Bool.not_eq_false, Bool.not_eq_true', Bool.not_eq_false', Int.toNat_natCast, Int.not_lt, Int.not_le, UInt8.ofNat_toNat, cast_eq] at *; omega)))
  all_goals (try ((show (_:Int) = _); omega))
  all_goals (try (show tupSV _ = _; with_unfolding_all rfl))
  all_goals (try ((show (_ : Nat) ≤ _); (simp <;> omega)))
  all_goals (try ((show (_ : Nat) ≤ _ ∧ (_ : Nat) ≤ _); (simp <;> omega)))
  all_goals (try ((show (_ : Int) ≤ _ ∧ (_ : Int) ≤ _ ∧ (_ : Int) ≤ _ ∧ (_ : Int) ≤ _); (simp <;> omega)))
  all_goals (try (simp only [Int.toNat_natCast, Int.reduceToNat, Ty.dflt, cast_eq] at *))
  all_goals (simp only [hexC, u8_59] at *)
  all_goals (first | (have hx := ‹hexS s = true›; have e2 := (hA hx).2; have hl3 := hl hx; clear hA hB hl; (try (simp only [(numAt_hex hx).1] at *))) | (have hx := ‹hexS s = false›; have e2 := (hB hx).2; clear hA hB hl; (try (simp only [(numAt_dec hx).1] at *))) | skip)
  all_goals (try (simp only [or_true, true_or, and_true]))
  all_goals (try simp only [decide_eq_true_eq, decide_eq_false_iff_not, beq_iff_eq, beq_eq_false_iff_ne, bne_iff_ne, bne_eq_false_iff_eq, ne_eq, Bool.and_eq_true, Bool.or_eq_true, Bool.and_eq_false_iff, Bool.or_eq_false_iff, Bool.not_eq_true, Bool.not_eq_false, Bool.not_eq_true', Bool.not_eq_false', Int.toNat_natCast, Int.not_lt, Int.not_le, ge_iff_le, gt_iff_lt, UInt8.ofNat_toNat, cast_eq] at *)
  all_goals (try omega)
  all_goals (try (show InI64 _; constructor <;> omega))
  all_goals (try (rw [numberF_no (by rw [e2]; assumption)]))
  all_goals (try (rw [numberF_semi (by rw [e2]; assumption) (by assumption)]))
  all_goals (try (rw [numberF_bare (by rw [e2]; assumption) (by rintro ⟨g1, g2⟩; rcases ‹_ ∨ _› with g | g; omega; exact g g2)]))
end Go.Vc

namespace Go.Vc
open Go.Proofs
set_option linter.unusedVariables false
set_option maxRecDepth 10000
set_option linter.unusedSimpArgs false
instance fRNum (s : List UInt8) : Fn BB 51 [.str s] (2 ≤ s.length ∧ s.length ≤ 100000) (.tup [.str (numberF s).1, .int .i64 (numberF s).2]) := by
  refine Fn.intro (N := 64) [0, 2, 3, 4, 5, 6, 7, 8, 21, 26, 37, 48, 58] [] Try.call51 Try.func51 rfl rfl (by kernel_rfl) (fun hpre => ?_)
  obtain ⟨p1, p2⟩ := hpre
  have hb := numAt_bound p1
  cases hx : hexS s
  · have hx' := hx
    obtain ⟨hA, hF⟩ := numAt_dec hx
    repeat' ((conv => whnf); first | (with_reducible rfl) | exact True.intro | (with_reducible exact absTF) | (with_reducible exact absFT) | intro _ | refine And.intro ?_ ?_ | refine Fin.mk ?_ | refine CallG.plain rfl ?_ ?_ | refine CallG.mk rfl ?_ ?_ | refine CallG.nwl rfl ?_ ?_ | refine CallG.nw ?_ ?_ | refine CallF.nwl rfl ?_ ?_ | refine CallF.nw ?_ ?_ | refine AppN.mk ?_ | (refine CallS.q ?_; (conv => whnf); first | refine CallG.plain rfl ?_ ?_ | refine CallG.mk rfl ?_ ?_) | (refine CallS.m ?_; (conv => whnf); refine CallM.mk rfl ?_ ?_) | (refine CallS.h ?_; (conv => whnf); refine CallM.mk rfl ?_ ?_) | (refine CallS.b ?_; (conv => whnf); refine CallM.mk rfl ?_ ?_) | (refine CallS.z ?_; (conv => whnf); refine CallM.mk rfl ?_ ?_))
    all_goals (try (conv => whnf))
    all_goals (try (exact Ob.mk (u8_bnd _)))
    all_goals (try (refine Ob.mk ?_; first | exact True.intro | assumption | omega | (try simp only [decide_eq_true_eq, decide_eq_false_iff_not, beq_iff_eq, beq_eq_false_iff_ne, bne_iff_ne, bne_eq_false_iff_eq, ne_eq, Bool.and_eq_true, Bool.or_eq_true, Bool.not_eq_true, Bool.not_eq_false, Bool.not_eq_true', Bool.not_eq_false', Int.toNat_natCast, Int.not_lt, Int.not_le, UInt8.ofNat_toNat, cast_eq] at *; omega)))
    all_goals (try ((show (_:Int) = _); omega))
    all_goals (try (show tupSV _ = _; with_unfolding_all rfl))
    all_goals (try ((show (_ : Nat) ≤ _); (simp <;> omega)))
    all_goals (try ((show (_ : Nat) ≤ _ ∧ (_ : Nat) ≤ _); (simp <;> omega)))
    all_goals (try ((show (_ : Int) ≤ _ ∧ (_ : Int) ≤ _ ∧ (_ : Int) ≤ _ ∧ (_ : Int) ≤ _); (simp <;> omega)))
    all_goals (try (simp only [Int.toNat_natCast, Int.reduceToNat, Ty.dflt, cast_eq] at *))
    all_goals (simp only [hexC2] at *)
    all_goals (first | (exfalso; rw [hx] at *; contradiction) | skip)
    refine LoopStop.mk (α := Int × Nat) (fun a => [(6, .int .i64 a.1), (4, .int .i64 (a.2 : Nat))]) (fun _ => []) 0 (fun a => 0 ≤ a.1 ∧ a.1 ≤ 1114112 ∧ 2 ≤ a.2 ∧ a.2 ≤ s.length ∧ digsL 10 (s.drop a.2) a.1 a.2 = numAt s) (fun a => s.length - a.2) (0, 2) ⟨by simp, by simp, by simp, by simp; omega, by exact hA⟩ ?_ (fun a ha => ?_)
    · repeat' ((conv => whnf); first | (with_reducible rfl) | exact True.intro | (with_reducible exact absTF) | (with_reducible exact absFT) | intro _ | refine And.intro ?_ ?_ | refine Fin.mk ?_ | refine CallG.plain rfl ?_ ?_ | refine CallG.mk rfl ?_ ?_ | refine CallG.nwl rfl ?_ ?_ | refine CallG.nw ?_ ?_ | refine CallF.nwl rfl ?_ ?_ | refine CallF.nw ?_ ?_ | refine AppN.mk ?_ | (refine CallS.q ?_; (conv => whnf); first | refine CallG.plain rfl ?_ ?_ | refine CallG.mk rfl ?_ ?_) | (refine CallS.m ?_; (conv => whnf); refine CallM.mk rfl ?_ ?_) | (refine CallS.h ?_; (conv => whnf); refine CallM.mk rfl ?_ ?_) | (refine CallS.b ?_; (conv => whnf); refine CallM.mk rfl ?_ ?_) | (refine CallS.z ?_; (conv => whnf); refine CallM.mk rfl ?_ ?_))
      all_goals (try (conv => whnf))
      all_goals (try (exact Ob.mk (u8_bnd _)))
      all_goals (try (refine Ob.mk ?_; first | exact True.intro | assumption | omega | (try simp only [decide_eq_true_eq, decide_eq_false_iff_not, beq_iff_eq, beq_eq_false_iff_ne, bne_iff_ne, bne_eq_false_iff_eq, ne_eq, Bool.and_eq_true, Bool.or_eq_true, Bool.not_eq_true, Bool.not_eq_false, Bool.not_eq_true', Bool.not_eq_false', Int.toNat_natCast, Int.not_lt, Int.not_le, UInt8.ofNat_toNat, cast_eq] at *; omega)))
      all_goals (try ((show (_:Int) = _); omega))
      all_goals (try (show tupSV _ = _; with_unfolding_all rfl))
      all_goals (try ((show (_ : Nat) ≤ _); (simp <;> omega)))
      all_goals (try ((show (_ : Nat) ≤ _ ∧ (_ : Nat) ≤ _); (simp <;> omega)))
      all_goals (try ((show (_ : Int) ≤ _ ∧ (_ : Int) ≤ _ ∧ (_ : Int) ≤ _ ∧ (_ : Int) ≤ _); (simp <;> omega)))
      all_goals (try rfl)
    · obtain ⟨n, i⟩ := a
      obtain ⟨a1, a2, a0, a3, a4⟩ := ha
      dsimp only at a1 a2 a3 a0 a4 ⊢
      have hh := hexI_le (s.getD i 0).toNat
      have hstep := digs_step (base := 10) (s := s) (i := i) (n := n)
      have hend := digs_end (base := 10) (s := s) (i := i) (n := n)
      repeat' ((conv => whnf); first | (with_reducible rfl) | exact True.intro | (with_reducible exact absTF) | (with_reducible exact absFT) | intro _ | refine And.intro ?_ ?_ | refine Fin.mk ?_ | refine CallG.plain rfl ?_ ?_ | refine CallG.mk rfl ?_ ?_ | refine CallG.nwl rfl ?_ ?_ | refine CallG.nw ?_ ?_ | refine CallF.nwl rfl ?_ ?_ | refine CallF.nw ?_ ?_ | refine AppN.mk ?_ | (refine CallS.q ?_; (conv => whnf); first | refine CallG.plain rfl ?_ ?_ | refine CallG.mk rfl ?_ ?_) | (refine CallS.m ?_; (conv => whnf); refine CallM.mk rfl ?_ ?_) | (refine CallS.h ?_; (conv => whnf); refine CallM.mk rfl ?_ ?_) | (refine CallS.b ?_; (conv => whnf); refine CallM.mk rfl ?_ ?_) | (refine CallS.z ?_; (conv => whnf); refine CallM.mk rfl ?_ ?_))
      all_goals (try (conv => whnf))
      all_goals (try (exact Ob.mk (u8_bnd _)))
      all_goals (try (refine Ob.mk ?_; first | exact True.intro | assumption | omega | (try simp only [decide_eq_true_eq, decide_eq_false_iff_not, beq_iff_eq, beq_eq_false_iff_ne, bne_iff_ne, bne_eq_false_iff_eq, ne_eq, Bool.and_eq_true, Bool.or_eq_true, Bool.not_eq_true, Bool.not_eq_false, Bool.not_eq_true', Bool.not_eq_false', Int.toNat_natCast, Int.not_lt, Int.not_le, UInt8.ofNat_toNat, cast_eq] at *; omega)))
      all_goals (try ((show (_:Int) = _); omega))
      all_goals (try (show tupSV _ = _; with_unfolding_all rfl))
      all_goals (try ((show (_ : Nat) ≤ _); (simp <;> omega)))
      all_goals (try ((show (_ : Nat) ≤ _ ∧ (_ : Nat) ≤ _); (simp <;> omega)))
      all_goals (try ((show (_ : Int) ≤ _ ∧ (_ : Int) ≤ _ ∧ (_ : Int) ≤ _ ∧ (_ : Int) ≤ _); (simp <;> omega)))
      all_goals (try (simp only [Int.toNat_natCast, Int.reduceToNat, Ty.dflt, cast_eq] at *))
      all_goals (try (simp only [u8_59] at *))
      all_goals (try simp only [decide_eq_true_eq, decide_eq_false_iff_not, beq_iff_eq, beq_eq_false_iff_ne, bne_iff_ne, bne_eq_false_iff_eq, ne_eq, Bool.and_eq_true, Bool.or_eq_true, Bool.and_eq_false_iff, Bool.or_eq_false_iff, Bool.not_eq_true, Bool.not_eq_false, Bool.not_eq_true', Bool.not_eq_false', Int.toNat_natCast, Int.not_lt, Int.not_le, ge_iff_le, gt_iff_lt, UInt8.ofNat_toNat, cast_eq] at *)
      all_goals (try omega)
      all_goals (try (show InI64 _; constructor <;> omega))
      all_goals (first
        | (have hge : s.length ≤ i := by omega
           have e := a4.symm.trans (hend hge))
        | (have hlt : i < s.length := by omega
           have e := (a4.symm.trans (hstep hlt)).trans (if_pos (by omega)))
        | skip)
      all_goals (try (rw [numberF_no (by rw [e, hF]; show (i : Int) = _; omega)]; done))
      all_goals (try (rw [numberF_semi (by rw [e, hF]; show ¬ (i : Int) = _; omega) (by rw [e]; refine ⟨?_, ?_⟩; (show (i : Int) < _; omega); simpa using ‹_ ∧ _›.2), e]; done))
      all_goals (try (rw [numberF_bare (by rw [e, hF]; show ¬ (i : Int) = _; omega) (by rw [e]; rintro ⟨g1, g2⟩; simp only [Int.toNat_natCast] at g1 g2; rcases ‹_ ∨ _› with g | g; omega; exact g g2), e]; done))
      refine Rnd.mk ⟨(min (n * 10 + hexI (s.getD i 0).toNat) 1114112, i + 1), ?_, ?_, ?_⟩
      · have hlt : i < s.length := by omega
        have e := (a4.symm.trans (hstep hlt)).trans (if_neg (by omega))
        exact ⟨by simp only; omega, by simp only; omega, by simp only; omega, hlt, e.symm⟩
      · simp only; omega
      · repeat' ((conv => whnf); first | (with_reducible rfl) | exact True.intro | (with_reducible exact absTF) | (with_reducible exact absFT) | intro _ | refine And.intro ?_ ?_ | refine Fin.mk ?_ | refine CallG.plain rfl ?_ ?_ | refine CallG.mk rfl ?_ ?_ | refine CallG.nwl rfl ?_ ?_ | refine CallG.nw ?_ ?_ | refine CallF.nwl rfl ?_ ?_ | refine CallF.nw ?_ ?_ | refine AppN.mk ?_ | (refine CallS.q ?_; (conv => whnf); first | refine CallG.plain rfl ?_ ?_ | refine CallG.mk rfl ?_ ?_) | (refine CallS.m ?_; (conv => whnf); refine CallM.mk rfl ?_ ?_) | (refine CallS.h ?_; (conv => whnf); refine CallM.mk rfl ?_ ?_) | (refine CallS.b ?_; (conv => whnf); refine CallM.mk rfl ?_ ?_) | (refine CallS.z ?_; (conv => whnf); refine CallM.mk rfl ?_ ?_))
        all_goals (try (conv => whnf))
        all_goals (try (exact Ob.mk (u8_bnd _)))
        all_goals (try (refine Ob.mk ?_; first | exact True.intro | assumption | omega | (try simp only [decide_eq_true_eq, decide_eq_false_iff_not, beq_iff_eq, beq_eq_false_iff_ne, bne_iff_ne, bne_eq_false_iff_eq, ne_eq, Bool.and_eq_true, Bool.or_eq_true, Bool.not_eq_true, Bool.not_eq_false, Bool.not_eq_true', Bool.not_eq_false', Int.toNat_natCast, Int.not_lt, Int.not_le, UInt8.ofNat_toNat, cast_eq] at *; omega)))
        all_goals (try ((show (_:Int) = _); omega))
        all_goals (try (show tupSV _ = _; with_unfolding_all rfl))
        all_goals (try ((show (_ : Nat) ≤ _); (simp <;> omega)))
        all_goals (try ((show (_ : Nat) ≤ _ ∧ (_ : Nat) ≤ _); (simp <;> omega)))
        all_goals (try ((show (_ : Int) ≤ _ ∧ (_ : Int) ≤ _ ∧ (_ : Int) ≤ _ ∧ (_ : Int) ≤ _); (simp <;> omega)))
        all_goals (try rfl)
  · have hx' := hx
    obtain ⟨hA, hF⟩ := numAt_hex hx
    have hl3 := hexS_len hx
    repeat' ((conv => whnf); first | (with_reducible rfl) | exact True.intro | (with_reducible exact absTF) | (with_reducible exact absFT) | intro _ | refine And.intro ?_ ?_ | refine Fin.mk ?_ | refine CallG.plain rfl ?_ ?_ | refine CallG.mk rfl ?_ ?_ | refine CallG.nwl rfl ?_ ?_ | refine CallG.nw ?_ ?_ | refine CallF.nwl rfl ?_ ?_ | refine CallF.nw ?_ ?_ | refine AppN.mk ?_ | (refine CallS.q ?_; (conv => whnf); first | refine CallG.plain rfl ?_ ?_ | refine CallG.mk rfl ?_ ?_) | (refine CallS.m ?_; (conv => whnf); refine CallM.mk rfl ?_ ?_) | (refine CallS.h ?_; (conv => whnf); refine CallM.mk rfl ?_ ?_) | (refine CallS.b ?_; (conv => whnf); refine CallM.mk rfl ?_ ?_) | (refine CallS.z ?_; (conv => whnf); refine CallM.mk rfl ?_ ?_))
    all_goals (try (conv => whnf))
    all_goals (try (exact Ob.mk (u8_bnd _)))
    all_goals (try (refine Ob.mk ?_; first | exact True.intro | assumption | omega | (try simp only [decide_eq_true_eq, decide_eq_false_iff_not, beq_iff_eq, beq_eq_false_iff_ne, bne_iff_ne, bne_eq_false_iff_eq, ne_eq, Bool.and_eq_true, Bool.or_eq_true, Bool.not_eq_true, Bool.not_eq_false, Bool.not_eq_true', Bool.not_eq_false', Int.toNat_natCast, Int.not_lt, Int.not_le, UInt8.ofNat_toNat, cast_eq] at *; omega)))
    all_goals (try ((show (_:Int) = _); omega))
    all_goals (try (show tupSV _ = _; with_unfolding_all rfl))
    all_goals (try ((show (_ : Nat) ≤ _); (simp <;> omega)))
    all_goals (try ((show (_ : Nat) ≤ _ ∧ (_ : Nat) ≤ _); (simp <;> omega)))
    all_goals (try ((show (_ : Int) ≤ _ ∧ (_ : Int) ≤ _ ∧ (_ : Int) ≤ _ ∧ (_ : Int) ≤ _); (simp <;> omega)))
    all_goals (try (simp only [Int.toNat_natCast, Int.reduceToNat, Ty.dflt, cast_eq] at *))
    all_goals (simp only [hexC2] at *)
    all_goals (first | (exfalso; rw [hx] at *; contradiction) | skip)
    refine LoopStop.mk (α := Int × Nat) (fun a => [(6, .int .i64 a.1), (4, .int .i64 (a.2 : Nat))]) (fun _ => []) 0 (fun a => 0 ≤ a.1 ∧ a.1 ≤ 1114112 ∧ 3 ≤ a.2 ∧ a.2 ≤ s.length ∧ digsL 16 (s.drop a.2) a.1 a.2 = numAt s) (fun a => s.length - a.2) (0, 3) ⟨by simp, by simp, by simp, by simp; omega, by exact hA⟩ ?_ (fun a ha => ?_)
    · repeat' ((conv => whnf); first | (with_reducible rfl) | exact True.intro | (with_reducible exact absTF) | (with_reducible exact absFT) | intro _ | refine And.intro ?_ ?_ | refine Fin.mk ?_ | refine CallG.plain rfl ?_ ?_ | refine CallG.mk rfl ?_ ?_ | refine CallG.nwl rfl ?_ ?_ | refine CallG.nw ?_ ?_ | refine CallF.nwl rfl ?_ ?_ | refine CallF.nw ?_ ?_ | refine AppN.mk ?_ | (refine CallS.q ?_; (conv => whnf); first | refine CallG.plain rfl ?_ ?_ | refine CallG.mk rfl ?_ ?_) | (refine CallS.m ?_; (conv => whnf); refine CallM.mk rfl ?_ ?_) | (refine CallS.h ?_; (conv => whnf); refine CallM.mk rfl ?_ ?_) | (refine CallS.b ?_; (conv => whnf); refine CallM.mk rfl ?_ ?_) | (refine CallS.z ?_; (conv => whnf); refine CallM.mk rfl ?_ ?_))
      all_goals (try (conv => whnf))
      all_goals (try (exact Ob.mk (u8_bnd _)))
      all_goals (try (refine Ob.mk ?_; first | exact True.intro | assumption | omega | (try simp only [decide_eq_true_eq, decide_eq_false_iff_not, beq_iff_eq, beq_eq_false_iff_ne, bne_iff_ne, bne_eq_false_iff_eq, ne_eq, Bool.and_eq_true, Bool.or_eq_true, Bool.not_eq_true, Bool.not_eq_false, Bool.not_eq_true', Bool.not_eq_false', Int.toNat_natCast, Int.not_lt, Int.not_le, UInt8.ofNat_toNat, cast_eq] at *; omega)))
      all_goals (try ((show (_:Int) = _); omega))
      all_goals (try (show tupSV _ = _; with_unfolding_all rfl))
      all_goals (try ((show (_ : Nat) ≤ _); (simp <;> omega)))
      all_goals (try ((show (_ : Nat) ≤ _ ∧ (_ : Nat) ≤ _); (simp <;> omega)))
      all_goals (try ((show (_ : Int) ≤ _ ∧ (_ : Int) ≤ _ ∧ (_ : Int) ≤ _ ∧ (_ : Int) ≤ _); (simp <;> omega)))
      all_goals (try rfl)
    · obtain ⟨n, i⟩ := a
      obtain ⟨a1, a2, a0, a3, a4⟩ := ha
      dsimp only at a1 a2 a3 a0 a4 ⊢
      have hh := hexI_le (s.getD i 0).toNat
      have hstep := digs_step (base := 16) (s := s) (i := i) (n := n)
      have hend := digs_end (base := 16) (s := s) (i := i) (n := n)
      repeat' ((conv => whnf); first | (with_reducible rfl) | exact True.intro | (with_reducible exact absTF) | (with_reducible exact absFT) | intro _ | refine And.intro ?_ ?_ | refine Fin.mk ?_ | refine CallG.plain rfl ?_ ?_ | refine CallG.mk rfl ?_ ?_ | refine CallG.nwl rfl ?_ ?_ | refine CallG.nw ?_ ?_ | refine CallF.nwl rfl ?_ ?_ | refine CallF.nw ?_ ?_ | refine AppN.mk ?_ | (refine CallS.q ?_; (conv => whnf); first | refine CallG.plain rfl ?_ ?_ | refine CallG.mk rfl ?_ ?_) | (refine CallS.m ?_; (conv => whnf); refine CallM.mk rfl ?_ ?_) | (refine CallS.h ?_; (conv => whnf); refine CallM.mk rfl ?_ ?_) | (refine CallS.b ?_; (conv => whnf); refine CallM.mk rfl ?_ ?_) | (refine CallS.z ?_; (conv => whnf); refine CallM.mk rfl ?_ ?_))
      all_goals (try (conv => whnf))
      all_goals (try (exact Ob.mk (u8_bnd _)))
      all_goals (try (refine Ob.mk ?_; first | exact True.intro | assumption | omega | (try simp only [decide_eq_true_eq, decide_eq_false_iff_not, beq_iff_eq, beq_eq_false_iff_ne, bne_iff_ne, bne_eq_false_iff_eq, ne_eq, Bool.and_eq_true, Bool.or_eq_true, Bool.not_eq_true, Bool.not_eq_false, Bool.not_eq_true', Bool.not_eq_false', Int.toNat_natCast, Int.not_lt, Int.not_le, UInt8.ofNat_toNat, cast_eq] at *; omega)))
      all_goals (try ((show (_:Int) = _); omega))
      all_goals (try (show tupSV _ = _; with_unfolding_all rfl))
      all_goals (try ((show (_ : Nat) ≤ _); (simp <;> omega)))
      all_goals (try ((show (_ : Nat) ≤ _ ∧ (_ : Nat) ≤ _); (simp <;> omega)))
      all_goals (try ((show (_ : Int) ≤ _ ∧ (_ : Int) ≤ _ ∧ (_ : Int) ≤ _ ∧ (_ : Int) ≤ _); (simp <;> omega)))
      all_goals (try (simp only [Int.toNat_natCast, Int.reduceToNat, Ty.dflt, cast_eq] at *))
      all_goals (try (simp only [u8_59] at *))
      all_goals (try simp only [decide_eq_true_eq, decide_eq_false_iff_not, beq_iff_eq, beq_eq_false_iff_ne, bne_iff_ne, bne_eq_false_iff_eq, ne_eq, Bool.and_eq_true, Bool.or_eq_true, Bool.and_eq_false_iff, Bool.or_eq_false_iff, Bool.not_eq_true, Bool.not_eq_false, Bool.not_eq_true', Bool.not_eq_false', Int.toNat_natCast, Int.not_lt, Int.not_le, ge_iff_le, gt_iff_lt, UInt8.ofNat_toNat, cast_eq] at *)
      all_goals (try omega)
      all_goals (try (show InI64 _; constructor <;> omega))
      all_goals (first
        | (have hge : s.length ≤ i := by omega
           have e := a4.symm.trans (hend hge))
        | (have hlt : i < s.length := by omega
           have e := (a4.symm.trans (hstep hlt)).trans (if_pos (by omega)))
        | skip)
      all_goals (try (rw [numberF_no (by rw [e, hF]; show (i : Int) = _; omega)]; done))
      all_goals (try (rw [numberF_semi (by rw [e, hF]; show ¬ (i : Int) = _; omega) (by rw [e]; refine ⟨?_, ?_⟩; (show (i : Int) < _; omega); simpa using ‹_ ∧ _›.2), e]; done))
      all_goals (try (rw [numberF_bare (by rw [e, hF]; show ¬ (i : Int) = _; omega) (by rw [e]; rintro ⟨g1, g2⟩; simp only [Int.toNat_natCast] at g1 g2; rcases ‹_ ∨ _› with g | g; omega; exact g g2), e]; done))
      refine Rnd.mk ⟨(min (n * 16 + hexI (s.getD i 0).toNat) 1114112, i + 1), ?_, ?_, ?_⟩
      · have hlt : i < s.length := by omega
        have e := (a4.symm.trans (hstep hlt)).trans (if_neg (by omega))
        exact ⟨by simp only; omega, by simp only; omega, by simp only; omega, hlt, e.symm⟩
      · simp only; omega
      · repeat' ((conv => whnf); first | (with_reducible rfl) | exact True.intro | (with_reducible exact absTF) | (with_reducible exact absFT) | intro _ | refine And.intro ?_ ?_ | refine Fin.mk ?_ | refine CallG.plain rfl ?_ ?_ | refine CallG.mk rfl ?_ ?_ | refine CallG.nwl rfl ?_ ?_ | refine CallG.nw ?_ ?_ | refine CallF.nwl rfl ?_ ?_ | refine CallF.nw ?_ ?_ | refine AppN.mk ?_ | (refine CallS.q ?_; (conv => whnf); first | refine CallG.plain rfl ?_ ?_ | refine CallG.mk rfl ?_ ?_) | (refine CallS.m ?_; (conv => whnf); refine CallM.mk rfl ?_ ?_) | (refine CallS.h ?_; (conv => whnf); refine CallM.mk rfl ?_ ?_) | (refine CallS.b ?_; (conv => whnf); refine CallM.mk rfl ?_ ?_) | (refine CallS.z ?_; (conv => whnf); refine CallM.mk rfl ?_ ?_))
        all_goals (try (conv => whnf))
        all_goals (try (exact Ob.mk (u8_bnd _)))
        all_goals (try (refine Ob.mk ?_; first | exact True.intro | assumption | omega | (try simp only [decide_eq_true_eq, decide_eq_false_iff_not, beq_iff_eq, beq_eq_false_iff_ne, bne_iff_ne, bne_eq_false_iff_eq, ne_eq, Bool.and_eq_true, Bool.or_eq_true, Bool.not_eq_true, Bool.not_eq_false, Bool.not_eq_true', Bool.not_eq_false', Int.toNat_natCast, Int.not_lt, Int.not_le, UInt8.ofNat_toNat, cast_eq] at *; omega)))
        all_goals (try ((show (_:Int) = _); omega))
        all_goals (try (show tupSV _ = _; with_unfolding_all rfl))
        all_goals (try ((show (_ : Nat) ≤ _); (simp <;> omega)))
        all_goals (try ((show (_ : Nat) ≤ _ ∧ (_ : Nat) ≤ _); (simp <;> omega)))
        all_goals (try ((show (_ : Int) ≤ _ ∧ (_ : Int) ≤ _ ∧ (_ : Int) ≤ _ ∧ (_ : Int) ≤ _); (simp <;> omega)))
        all_goals (try rfl)
end Go.Vc

namespace Go.Vc
open Go.Proofs
set_option linter.unusedVariables false
set_option maxRecDepth 10000
set_option linter.unusedSimpArgs false
theorem take_snoc {α : Type} (l : List α) (i : Nat) (d : α) (h : i < l.length) : l.take (i + 1) = l.take i ++ [l.getD i d] := by
  rw [List.take_succ_eq_append_getElem h]; simp [List.getD, List.getElem?_eq_getElem h]
theorem drop_take_one (s : List UInt8) (i : Nat) (h : i < s.length) : (s.take (i+1)).drop i = [s.getD i 0] := by
  rw [take_snoc s i 0 h, List.drop_append, List.length_take, Nat.min_eq_left (by omega)]; simp
theorem ti1 (i : Nat) : ((i : Int) + 1).toNat = i + 1 := by omega
theorem ti2 (i : Nat) : ((i : Int) + 2).toNat = i + 2 := by omega
theorem upto_def (s : List UInt8) (n : Nat) : List.drop 1 (List.take (n + 1) s) = upto s n := rfl
theorem u8n_38 (c : UInt8) : ((c.toNat : Int) != 38) = (c != 38) := by simp only [bne, u8_38]
theorem rdP_bad {s : List UInt8} {v : Bool} (h : s.length < 2 ∨ ¬ s.getD 0 0 = 38) : rdP s v = ([], 0) := by unfold rdP; exact if_pos h
theorem rdP_go {s : List UInt8} {v : Bool} (h : 2 ≤ s.length ∧ s.getD 0 0 = 38) : rdP s v = if s.getD 1 0 = 35 then numberF s
    else if semiOk s (letN 8 (s.drop 1)) = true then ((named (upto s (letN 8 (s.drop 1) + 1))).1, (letN 8 (s.drop 1) : Int) + 2) else rdLoop s v (letN 8 (s.drop 1)) := by
  unfold rdP
  exact if_neg (by rintro (g | g); omega; exact g h.2)
theorem rdP_num {s : List UInt8} {v : Bool} (h : 2 ≤ s.length ∧ s.getD 0 0 = 38) (h1 : s.getD 1 0 = 35) : rdP s v = numberF s := by
  rw [rdP_go h, if_pos h1]
theorem rdP_semi {s : List UInt8} {v : Bool} (h : 2 ≤ s.length ∧ s.getD 0 0 = 38) (h1 : ¬ s.getD 1 0 = 35) {L : Nat} (hL : L = letN 8 (s.drop 1)) (h2 : L + 1 < s.length ∧ s.getD (L + 1) 0 = 59) (h3 : (named (upto s (L + 1))).2 = true) :
    rdP s v = ((named (upto s (L + 1))).1, (L : Int) + 2) := by
  subst hL
  rw [rdP_go h, if_neg h1, if_pos]
  simp only [semiOk, Bool.and_eq_true, decide_eq_true_eq, beq_iff_eq]
  exact ⟨h2.1, h2.2, h3⟩
theorem rdP_loop {s : List UInt8} {v : Bool} (h : 2 ≤ s.length ∧ s.getD 0 0 = 38) (h1 : ¬ s.getD 1 0 = 35) {L : Nat} (hL : L = letN 8 (s.drop 1)) (h2 : ¬ (L + 1 < s.length ∧ s.getD (L + 1) 0 = 59 ∧ (named (upto s (L + 1))).2 = true)) :
    rdP s v = rdLoop s v L := by
  subst hL
  rw [rdP_go h, if_neg h1, if_neg]
  simp only [semiOk, Bool.and_eq_true, decide_eq_true_eq, beq_iff_eq]
  exact h2
theorem stop_eq (s : List UInt8) (v : Bool) (n : Nat) : (v && decide ((n : Int) + 1 < (s.length : Int)) && (((s.getD (n + 1) 0).toNat : Int) == 61 || decide ((letN 8 (s.drop (n + 1)) : Int) > 0))) = stopV s v n := by
  have e : decide ((letN 8 (s.drop (n + 1)) : Int) > 0) = decide (letN 8 (s.drop (n + 1)) > 0) := by rw [decide_eq_decide]; omega
  have e2 : decide ((n : Int) + 1 < (s.length : Int)) = decide (n + 1 < s.length) := by rw [decide_eq_decide]; omega
  rw [u8_61, e, e2, letN_pos (by omega), stopV]
  by_cases h : n + 1 < s.length
  · have h1 : decide (0 < (s.drop (n + 1)).length) = true := decide_eq_true (by rw [List.length_drop]; omega)
    have h2 : (s.drop (n + 1)).getD 0 0 = s.getD (n + 1) 0 := by simp [List.getD]
    rw [h1, h2, Bool.true_and, decide_eq_true h]
    cases v <;> rfl
  · rw [decide_eq_false h]
    cases v <;> rfl
theorem rdL_no {s : List UInt8} {v : Bool} {n : Nat} (h0 : 0 < n) (h : (named (upto s n)).2 = false) : rdLoop s v n = rdLoop s v (n - 1) := by
  obtain ⟨m, rfl⟩ : ∃ m, n = m + 1 := ⟨n - 1, by omega⟩
  rw [rdLoop, if_pos h]; rfl
theorem rdL_stop {s : List UInt8} {v : Bool} {n : Nat} (h0 : 0 < n) (h : (named (upto s n)).2 = true) (h2 : stopV s v n = true) : rdLoop s v n = ([], 0) := by
  obtain ⟨m, rfl⟩ : ∃ m, n = m + 1 := ⟨n - 1, by omega⟩
  rw [rdLoop, if_neg (by rw [h]; simp), if_pos h2]
theorem rdL_yes {s : List UInt8} {v : Bool} {n : Nat} (h0 : 0 < n) (h : (named (upto s n)).2 = true) (h2 : stopV s v n = false) : rdLoop s v n = ((named (upto s n)).1, (n : Int) + 1) := by
  obtain ⟨m, rfl⟩ : ∃ m, n = m + 1 := ⟨n - 1, by omega⟩
  rw [rdLoop, if_neg (by rw [h]; simp), if_neg (by rw [h2]; simp)]
  congr 1
instance fRead (s : List UInt8) (v : Bool) : Fn BB 50 [.str s, .bool v] (s.length ≤ 100000) (.tup [.str (rdP s v).1, .int .i64 (rdP s v).2]) := by
  refine Fn.intro (N := 93) [0, 1, 4, 5, 6, 7, 8, 9, 10, 18, 21, 40, 49, 54, 66, 89] [] Try.call50 Try.func50 rfl rfl (by kernel_rfl) (fun hpre => ?_)
  obtain ⟨g1, g2, g3⟩ := letN_le 8 (s.drop 1)
  simp only [List.length_drop] at g2
  repeat' ((conv => whnf); first | (with_reducible rfl) | exact True.intro | (with_reducible exact absTF) | (with_reducible exact absFT) | intro _ | refine And.intro ?_ ?_ | refine Fin.mk ?_ | refine CallG.plain rfl ?_ ?_ | refine CallG.mk rfl ?_ ?_ | refine CallG.nwl rfl ?_ ?_ | refine CallG.nw ?_ ?_ | refine CallF.nwl rfl ?_ ?_ | refine CallF.nw ?_ ?_ | refine AppN.mk ?_ | (refine CallS.q ?_; (conv => whnf); first | refine CallG.plain rfl ?_ ?_ | refine CallG.mk rfl ?_ ?_) | (refine CallS.m ?_; (conv => whnf); refine CallM.mk rfl ?_ ?_) | (refine CallS.h ?_; (conv => whnf); refine CallM.mk rfl ?_ ?_) | (refine CallS.b ?_; (conv => whnf); refine CallM.mk rfl ?_ ?_) | (refine CallS.z ?_; (conv => whnf); refine CallM.mk rfl ?_ ?_))
  all_goals (try (conv => whnf))
  all_goals (try (exact Ob.mk (u8_bnd _)))
  all_goals (try (refine Ob.mk ?_; first | exact True.intro | assumption | omega | (try simp only [decide_eq_true_eq, decide_eq_false_iff_not, beq_iff_eq, beq_eq_false_iff_ne, bne_iff_ne, bne_eq_false_iff_eq, ne_eq, Bool.and_eq_true, Bool.or_eq_true, Bool.not_eq_true, Bool.not_eq_false, Bool.not_eq_true', Bool.not_eq_false', Int.toNat_natCast, Int.not_lt, Int.not_le, UInt8.ofNat_toNat, cast_eq] at *; omega)))
  all_goals (try ((show (_:Int) = _); omega))
  all_goals (try (show tupSV _ = _; with_unfolding_all rfl))
  all_goals (try ((show (_ : Nat) ≤ _); (simp <;> omega)))
  all_goals (try ((show (_ : Nat) ≤ _ ∧ (_ : Nat) ≤ _); (simp <;> omega)))
  all_goals (try ((show (_ : Int) ≤ _ ∧ (_ : Int) ≤ _ ∧ (_ : Int) ≤ _ ∧ (_ : Int) ≤ _); (simp <;> omega)))
  all_goals (try (simp only [Int.toNat_natCast, Int.reduceToNat, Ty.dflt, cast_eq] at *))
  all_goals (try (simp only [ti1, ti2, upto_def, u8_38, u8n_38, u8_59, u8_35] at *))
  all_goals (try simp only [decide_eq_true_eq, decide_eq_false_iff_not, beq_iff_eq, beq_eq_false_iff_ne, bne_iff_ne, bne_eq_false_iff_eq, ne_eq, Bool.and_eq_true, Bool.or_eq_true, Bool.and_eq_false_iff, Bool.or_eq_false_iff, Bool.not_eq_true, Bool.not_eq_false, Bool.not_eq_true', Bool.not_eq_false', Int.toNat_natCast, Int.not_lt, Int.not_le, ge_iff_le, gt_iff_lt, UInt8.ofNat_toNat, cast_eq] at *)
  all_goals (try omega)
  all_goals (try (rw [rdP_bad (by rcases ‹_ ∨ ¬ _› with g | g; exact .inl (by omega); exact .inr g)]; done))
  all_goals (try (have hgo : 2 ≤ s.length ∧ s.getD 0 0 = 38 := ⟨by have := ‹2 ≤ (s.length : Int) ∧ _›.1; omega, ‹2 ≤ (s.length : Int) ∧ _›.2⟩))
  all_goals (try (rw [rdP_num hgo ‹_›]; done))
  all_goals (try (rw [rdP_semi hgo ‹¬ _› rfl ⟨by have := ‹_ ∧ s.getD _ 0 = 59›.1; omega, ‹_ ∧ s.getD _ 0 = 59›.2⟩ ‹_›]; done))
  · have hR := rdP_loop (v := v) hgo ‹¬ _› rfl (by rintro ⟨_, _, q⟩; rw [‹(named _).2 = false›] at q; cases q)
    refine LoopStop.mk (α := Nat) (fun i => [(6, .int .i64 i)]) (fun _ => []) 0 (fun i => i ≤ letN 8 (s.drop 1) ∧ rdP s v = rdLoop s v i) (fun i => i) (letN 8 (s.drop 1)) ⟨Nat.le_refl _, hR⟩ ?_ (fun i hi => ?_)
    · repeat' ((conv => whnf); first | (with_reducible rfl) | exact True.intro | (with_reducible exact absTF) | (with_reducible exact absFT) | intro _ | refine And.intro ?_ ?_ | refine Fin.mk ?_ | refine CallG.plain rfl ?_ ?_ | refine CallG.mk rfl ?_ ?_ | refine CallG.nwl rfl ?_ ?_ | refine CallG.nw ?_ ?_ | refine CallF.nwl rfl ?_ ?_ | refine CallF.nw ?_ ?_ | refine AppN.mk ?_ | (refine CallS.q ?_; (conv => whnf); first | refine CallG.plain rfl ?_ ?_ | refine CallG.mk rfl ?_ ?_) | (refine CallS.m ?_; (conv => whnf); refine CallM.mk rfl ?_ ?_) | (refine CallS.h ?_; (conv => whnf); refine CallM.mk rfl ?_ ?_) | (refine CallS.b ?_; (conv => whnf); refine CallM.mk rfl ?_ ?_) | (refine CallS.z ?_; (conv => whnf); refine CallM.mk rfl ?_ ?_))
      all_goals (try (conv => whnf))
      all_goals (try (exact Ob.mk (u8_bnd _)))
      all_goals (try (refine Ob.mk ?_; first | exact True.intro | assumption | omega | (try simp only [decide_eq_true_eq, decide_eq_false_iff_not, beq_iff_eq, beq_eq_false_iff_ne, bne_iff_ne, bne_eq_false_iff_eq, ne_eq, Bool.and_eq_true, Bool.or_eq_true, Bool.not_eq_true, Bool.not_eq_false, Bool.not_eq_true', Bool.not_eq_false', Int.toNat_natCast, Int.not_lt, Int.not_le, UInt8.ofNat_toNat, cast_eq] at *; omega)))
      all_goals (try ((show (_:Int) = _); omega))
      all_goals (try (show tupSV _ = _; with_unfolding_all rfl))
      all_goals (try ((show (_ : Nat) ≤ _); (simp <;> omega)))
      all_goals (try ((show (_ : Nat) ≤ _ ∧ (_ : Nat) ≤ _); (simp <;> omega)))
      all_goals (try ((show (_ : Int) ≤ _ ∧ (_ : Int) ≤ _ ∧ (_ : Int) ≤ _ ∧ (_ : Int) ≤ _); (simp <;> omega)))
      all_goals (try rfl)
    · obtain ⟨i1, i2⟩ := hi
      repeat' ((conv => whnf); first | (with_reducible rfl) | exact True.intro | (with_reducible exact absTF) | (with_reducible exact absFT) | intro _ | refine And.intro ?_ ?_ | refine Fin.mk ?_ | refine CallG.plain rfl ?_ ?_ | refine CallG.mk rfl ?_ ?_ | refine CallG.nwl rfl ?_ ?_ | refine CallG.nw ?_ ?_ | refine CallF.nwl rfl ?_ ?_ | refine CallF.nw ?_ ?_ | refine AppN.mk ?_ | (refine CallS.q ?_; (conv => whnf); first | refine CallG.plain rfl ?_ ?_ | refine CallG.mk rfl ?_ ?_) | (refine CallS.m ?_; (conv => whnf); refine CallM.mk rfl ?_ ?_) | (refine CallS.h ?_; (conv => whnf); refine CallM.mk rfl ?_ ?_) | (refine CallS.b ?_; (conv => whnf); refine CallM.mk rfl ?_ ?_) | (refine CallS.z ?_; (conv => whnf); refine CallM.mk rfl ?_ ?_))
      all_goals (try (conv => whnf))
      all_goals (try (exact Ob.mk (u8_bnd _)))
      all_goals (try (refine Ob.mk ?_; first | exact True.intro | assumption | omega | (try simp only [decide_eq_true_eq, decide_eq_false_iff_not, beq_iff_eq, beq_eq_false_iff_ne, bne_iff_ne, bne_eq_false_iff_eq, ne_eq, Bool.and_eq_true, Bool.or_eq_true, Bool.not_eq_true, Bool.not_eq_false, Bool.not_eq_true', Bool.not_eq_false', Int.toNat_natCast, Int.not_lt, Int.not_le, UInt8.ofNat_toNat, cast_eq] at *; omega)))
      all_goals (try ((show (_:Int) = _); omega))
      all_goals (try (show tupSV _ = _; with_unfolding_all rfl))
      all_goals (try ((show (_ : Nat) ≤ _); (simp <;> omega)))
      all_goals (try ((show (_ : Nat) ≤ _ ∧ (_ : Nat) ≤ _); (simp <;> omega)))
      all_goals (try ((show (_ : Int) ≤ _ ∧ (_ : Int) ≤ _ ∧ (_ : Int) ≤ _ ∧ (_ : Int) ≤ _); (simp <;> omega)))
      all_goals (try (simp only [Int.toNat_natCast, Int.reduceToNat, Ty.dflt, cast_eq] at *))
      all_goals (try (simp only [ti1, ti2, upto_def, stop_eq] at *))
      all_goals (try simp only [decide_eq_true_eq, decide_eq_false_iff_not, beq_iff_eq, beq_eq_false_iff_ne, bne_iff_ne, bne_eq_false_iff_eq, ne_eq, Bool.and_eq_true, Bool.or_eq_true, Bool.and_eq_false_iff, Bool.or_eq_false_iff, Bool.not_eq_true, Bool.not_eq_false, Bool.not_eq_true', Bool.not_eq_false', Int.toNat_natCast, Int.not_lt, Int.not_le, ge_iff_le, gt_iff_lt, UInt8.ofNat_toNat, cast_eq] at *)
      all_goals (try omega)
      all_goals (first | (have h0 : 0 < i := by omega) | (have h0 : i = 0 := by omega))
      all_goals (try (rw [i2, rdL_stop h0 ‹_› ‹_›]; done))
      all_goals (try (rw [i2, rdL_yes h0 ‹_› ‹_›]; done))
      all_goals (try (rw [i2, h0]; rfl))
      refine Rnd.mk ⟨i - 1, ?_, ?_, ?_⟩
      · exact ⟨by omega, by rw [i2, rdL_no h0 ‹_›]⟩
      · omega
      · repeat' ((conv => whnf); first | (with_reducible rfl) | exact True.intro | (with_reducible exact absTF) | (with_reducible exact absFT) | intro _ | refine And.intro ?_ ?_ | refine Fin.mk ?_ | refine CallG.plain rfl ?_ ?_ | refine CallG.mk rfl ?_ ?_ | refine CallG.nwl rfl ?_ ?_ | refine CallG.nw ?_ ?_ | refine CallF.nwl rfl ?_ ?_ | refine CallF.nw ?_ ?_ | refine AppN.mk ?_ | (refine CallS.q ?_; (conv => whnf); first | refine CallG.plain rfl ?_ ?_ | refine CallG.mk rfl ?_ ?_) | (refine CallS.m ?_; (conv => whnf); refine CallM.mk rfl ?_ ?_) | (refine CallS.h ?_; (conv => whnf); refine CallM.mk rfl ?_ ?_) | (refine CallS.b ?_; (conv => whnf); refine CallM.mk rfl ?_ ?_) | (refine CallS.z ?_; (conv => whnf); refine CallM.mk rfl ?_ ?_))
        all_goals (try (conv => whnf))
        all_goals (try (exact Ob.mk (u8_bnd _)))
        all_goals (try (refine Ob.mk ?_; first | exact True.intro | assumption | omega | (try simp only [decide_eq_true_eq, decide_eq_false_iff_not, beq_iff_eq, beq_eq_false_iff_ne, bne_iff_ne, bne_eq_false_iff_eq, ne_eq, Bool.and_eq_true, Bool.or_eq_true, Bool.not_eq_true, Bool.not_eq_false, Bool.not_eq_true', Bool.not_eq_false', Int.toNat_natCast, Int.not_lt, Int.not_le, UInt8.ofNat_toNat, cast_eq] at *; omega)))
        all_goals (try ((show (_:Int) = _); omega))
        all_goals (try (show tupSV _ = _; with_unfolding_all rfl))
        all_goals (try ((show (_ : Nat) ≤ _); (simp <;> omega)))
        all_goals (try ((show (_ : Nat) ≤ _ ∧ (_ : Nat) ≤ _); (simp <;> omega)))
        all_goals (try ((show (_ : Int) ≤ _ ∧ (_ : Int) ≤ _ ∧ (_ : Int) ≤ _ ∧ (_ : Int) ≤ _); (simp <;> omega)))
  · have hR := rdP_loop (v := v) hgo ‹¬ _› rfl (by rintro ⟨q1, q2, _⟩; rcases ‹_ ∨ ¬ _› with g | g; omega; exact g q2)
    refine LoopStop.mk (α := Nat) (fun i => [(6, .int .i64 i)]) (fun _ => []) 0 (fun i => i ≤ letN 8 (s.drop 1) ∧ rdP s v = rdLoop s v i) (fun i => i) (letN 8 (s.drop 1)) ⟨Nat.le_refl _, hR⟩ ?_ (fun i hi => ?_)
    · repeat' ((conv => whnf); first | (with_reducible rfl) | exact True.intro | (with_reducible exact absTF) | (with_reducible exact absFT) | intro _ | refine And.intro ?_ ?_ | refine Fin.mk ?_ | refine CallG.plain rfl ?_ ?_ | refine CallG.mk rfl ?_ ?_ | refine CallG.nwl rfl ?_ ?_ | refine CallG.nw ?_ ?_ | refine CallF.nwl rfl ?_ ?_ | refine CallF.nw ?_ ?_ | refine AppN.mk ?_ | (refine CallS.q ?_; (conv => whnf); first | refine CallG.plain rfl ?_ ?_ | refine CallG.mk rfl ?_ ?_) | (refine CallS.m ?_; (conv => whnf); refine CallM.mk rfl ?_ ?_) | (refine CallS.h ?_; (conv => whnf); refine CallM.mk rfl ?_ ?_) | (refine CallS.b ?_; (conv => whnf); refine CallM.mk rfl ?_ ?_) | (refine CallS.z ?_; (conv => whnf); refine CallM.mk rfl ?_ ?_))
      all_goals (try (conv => whnf))
      all_goals (try (exact Ob.mk (u8_bnd _)))
      all_goals (try (refine Ob.mk ?_; first | exact True.intro | assumption | omega | (try simp only [decide_eq_true_eq, decide_eq_false_iff_not, beq_iff_eq, beq_eq_false_iff_ne, bne_iff_ne, bne_eq_false_iff_eq, ne_eq, Bool.and_eq_true, Bool.or_eq_true, Bool.not_eq_true, Bool.not_eq_false, Bool.not_eq_true', Bool.not_eq_false', Int.toNat_natCast, Int.not_lt, Int.not_le, UInt8.ofNat_toNat, cast_eq] at *; omega)))
      all_goals (try ((show (_:Int) = _); omega))
      all_goals (try (show tupSV _ = _; with_unfolding_all rfl))
      all_goals (try ((show (_ : Nat) ≤ _); (simp <;> omega)))
      all_goals (try ((show (_ : Nat) ≤ _ ∧ (_ : Nat) ≤ _); (simp <;> omega)))
      all_goals (try ((show (_ : Int) ≤ _ ∧ (_ : Int) ≤ _ ∧ (_ : Int) ≤ _ ∧ (_ : Int) ≤ _); (simp <;> omega)))
      all_goals (try rfl)
    · obtain ⟨i1, i2⟩ := hi
      repeat' ((conv => whnf); first | (with_reducible rfl) | exact True.intro | (with_reducible exact absTF) | (with_reducible exact absFT) | intro _ | refine And.intro ?_ ?_ | refine Fin.mk ?_ | refine CallG.plain rfl ?_ ?_ | refine CallG.mk rfl ?_ ?_ | refine CallG.nwl rfl ?_ ?_ | refine CallG.nw ?_ ?_ | refine CallF.nwl rfl ?_ ?_ | refine CallF.nw ?_ ?_ | refine AppN.mk ?_ | (refine CallS.q ?_; (conv => whnf); first | refine CallG.plain rfl ?_ ?_ | refine CallG.mk rfl ?_ ?_) | (refine CallS.m ?_; (conv => whnf); refine CallM.mk rfl ?_ ?_) | (refine CallS.h ?_; (conv => whnf); refine CallM.mk rfl ?_ ?_) | (refine CallS.b ?_; (conv => whnf); refine CallM.mk rfl ?_ ?_) | (refine CallS.z ?_; (conv => whnf); refine CallM.mk rfl ?_ ?_))
      all_goals (try (conv => whnf))
      all_goals (try (exact Ob.mk (u8_bnd _)))
      all_goals (try (refine Ob.mk ?_; first | exact True.intro | assumption | omega | (try simp only [decide_eq_true_eq, decide_eq_false_iff_not, beq_iff_eq, beq_eq_false_iff_ne, bne_iff_ne, bne_eq_false_iff_eq, ne_eq, Bool.and_eq_true, Bool.or_eq_true, Bool.not_eq_true, Bool.not_eq_false, Bool.not_eq_true', Bool.not_eq_false', Int.toNat_natCast, Int.not_lt, Int.not_le, UInt8.ofNat_toNat, cast_eq] at *; omega)))
      all_goals (try ((show (_:Int) = _); omega))
      all_goals (try (show tupSV _ = _; with_unfolding_all rfl))
      all_goals (try ((show (_ : Nat) ≤ _); (simp <;> omega)))
      all_goals (try ((show (_ : Nat) ≤ _ ∧ (_ : Nat) ≤ _); (simp <;> omega)))
      all_goals (try ((show (_ : Int) ≤ _ ∧ (_ : Int) ≤ _ ∧ (_ : Int) ≤ _ ∧ (_ : Int) ≤ _); (simp <;> omega)))
      all_goals (try (simp only [Int.toNat_natCast, Int.reduceToNat, Ty.dflt, cast_eq] at *))
      all_goals (try (simp only [ti1, ti2, upto_def, stop_eq] at *))
      all_goals (try simp only [decide_eq_true_eq, decide_eq_false_iff_not, beq_iff_eq, beq_eq_false_iff_ne, bne_iff_ne, bne_eq_false_iff_eq, ne_eq, Bool.and_eq_true, Bool.or_eq_true, Bool.and_eq_false_iff, Bool.or_eq_false_iff, Bool.not_eq_true, Bool.not_eq_false, Bool.not_eq_true', Bool.not_eq_false', Int.toNat_natCast, Int.not_lt, Int.not_le, ge_iff_le, gt_iff_lt, UInt8.ofNat_toNat, cast_eq] at *)
      all_goals (try omega)
      all_goals (first | (have h0 : 0 < i := by omega) | (have h0 : i = 0 := by omega))
      all_goals (try (rw [i2, rdL_stop h0 ‹_› ‹_›]; done))
      all_goals (try (rw [i2, rdL_yes h0 ‹_› ‹_›]; done))
      all_goals (try (rw [i2, h0]; rfl))
      refine Rnd.mk ⟨i - 1, ?_, ?_, ?_⟩
      · exact ⟨by omega, by rw [i2, rdL_no h0 ‹_›]⟩
      · omega
      · repeat' ((conv => whnf); first | (with_reducible rfl) | exact True.intro | (with_reducible exact absTF) | (with_reducible exact absFT) | intro _ | refine And.intro ?_ ?_ | refine Fin.mk ?_ | refine CallG.plain rfl ?_ ?_ | refine CallG.mk rfl ?_ ?_ | refine CallG.nwl rfl ?_ ?_ | refine CallG.nw ?_ ?_ | refine CallF.nwl rfl ?_ ?_ | refine CallF.nw ?_ ?_ | refine AppN.mk ?_ | (refine CallS.q ?_; (conv => whnf); first | refine CallG.plain rfl ?_ ?_ | refine CallG.mk rfl ?_ ?_) | (refine CallS.m ?_; (conv => whnf); refine CallM.mk rfl ?_ ?_) | (refine CallS.h ?_; (conv => whnf); refine CallM.mk rfl ?_ ?_) | (refine CallS.b ?_; (conv => whnf); refine CallM.mk rfl ?_ ?_) | (refine CallS.z ?_; (conv => whnf); refine CallM.mk rfl ?_ ?_))
        all_goals (try (conv => whnf))
        all_goals (try (exact Ob.mk (u8_bnd _)))
        all_goals (try (refine Ob.mk ?_; first | exact True.intro | assumption | omega | (try simp only [decide_eq_true_eq, decide_eq_false_iff_not, beq_iff_eq, beq_eq_false_iff_ne, bne_iff_ne, bne_eq_false_iff_eq, ne_eq, Bool.and_eq_true, Bool.or_eq_true, Bool.not_eq_true, Bool.not_eq_false, Bool.not_eq_true', Bool.not_eq_false', Int.toNat_natCast, Int.not_lt, Int.not_le, UInt8.ofNat_toNat, cast_eq] at *; omega)))
        all_goals (try ((show (_:Int) = _); omega))
        all_goals (try (show tupSV _ = _; with_unfolding_all rfl))
        all_goals (try ((show (_ : Nat) ≤ _); (simp <;> omega)))
        all_goals (try ((show (_ : Nat) ≤ _ ∧ (_ : Nat) ≤ _); (simp <;> omega)))
        all_goals (try ((show (_ : Int) ≤ _ ∧ (_ : Int) ≤ _ ∧ (_ : Int) ≤ _ ∧ (_ : Int) ≤ _); (simp <;> omega)))
theorem rdR_bad {s : List UInt8} {v : Bool} (h : s = [] ∨ ¬ s.getD 0 0 = 38) : rdR s v = ([], 0) := by unfold rdR; exact if_pos h
theorem rdR_num {s : List UInt8} {v : Bool} (h : ¬ s = [] ∧ s.getD 0 0 = 38) (h1 : 1 < s.length ∧ s.getD 1 0 = 35) : rdR s v = numberF s := by
  unfold rdR; refine (if_neg (by rintro (g | g); exact h.1 g; exact g h.2)).trans ?_; exact if_pos h1
theorem rdR_loop {s : List UInt8} {v : Bool} (h : ¬ s = [] ∧ s.getD 0 0 = 38) (h1 : ¬ (1 < s.length ∧ s.getD 1 0 = 35)) : rdR s v = refLoop s v (min (s.length - 1) 12) := by
  unfold rdR; refine (if_neg (by rintro (g | g); exact h.1 g; exact g h.2)).trans ?_; exact if_neg h1
theorem u8n_59 (c : UInt8) : ((c.toNat : Int) != 59) = (c != 59) := by simp only [bne, u8_59]
theorem stop_eq2 (s : List UInt8) (v : Bool) (n : Nat) : (v && s.getD n 0 != 59 && decide ((n : Int) + 1 < (s.length : Int)) && (s.getD (n + 1) 0 == 61 || anI ((s.getD (n + 1) 0).toNat : Int))) = (stopV s v n && s.getD n 0 != 59) := by
  have e2 : decide ((n : Int) + 1 < (s.length : Int)) = decide (n + 1 < s.length) := by rw [decide_eq_decide]; omega
  rw [e2]
  unfold stopV
  show (v && s.getD n 0 != 59 && decide (n + 1 < s.length) && (s.getD (n + 1) 0 == 61 || anB (s.getD (n + 1) 0))) = _
  cases v <;> cases (s.getD n 0 != 59) <;> cases decide (n + 1 < s.length) <;> simp
theorem rfL_no {s : List UInt8} {v : Bool} {n : Nat} (h0 : 0 < n) (h : (named (upto s n)).2 = false) : refLoop s v n = refLoop s v (n - 1) := by
  obtain ⟨m, rfl⟩ : ∃ m, n = m + 1 := ⟨n - 1, by omega⟩
  rw [refLoop, if_pos h]; rfl
theorem rfL_stop {s : List UInt8} {v : Bool} {n : Nat} (h0 : 0 < n) (h : (named (upto s n)).2 = true) (h2 : stopV s v n = true ∧ ¬ s.getD n 0 = 59) : refLoop s v n = ([], 0) := by
  obtain ⟨m, rfl⟩ : ∃ m, n = m + 1 := ⟨n - 1, by omega⟩
  rw [refLoop, if_neg (by rw [h]; simp), if_pos (by simpa using h2)]
theorem rfL_yes {s : List UInt8} {v : Bool} {n : Nat} (h0 : 0 < n) (h : (named (upto s n)).2 = true) (h2 : stopV s v n = false ∨ s.getD n 0 = 59) : refLoop s v n = ((named (upto s n)).1, (n : Int) + 1) := by
  obtain ⟨m, rfl⟩ : ∃ m, n = m + 1 := ⟨n - 1, by omega⟩
  rw [refLoop, if_neg (by rw [h]; simp), if_neg (by rw [Bool.and_eq_true, bne_iff_ne]; rintro ⟨q1, q2⟩; rcases h2 with h2 | h2; rw [q1] at h2; cases h2; exact q2 h2)]
  congr 1
instance fRRead (s : List UInt8) (v : Bool) : Fn BB 45 [.str s, .bool v] (s.length ≤ 100000) (.tup [.str (rdR s v).1, .int .i64 (rdR s v).2]) := by
  refine Fn.intro (N := 77) [0, 1, 4, 5, 6, 7, 8, 15, 23, 33, 45, 73] [] Try.call45 Try.func45 rfl rfl (by kernel_rfl) (fun hpre => ?_)
  have hne : ¬ s = [] → 0 < s.length := fun h => List.length_pos_iff.mpr h
  repeat' ((conv => whnf); first | (with_reducible rfl) | exact True.intro | (with_reducible exact absTF) | (with_reducible exact absFT) | intro _ | refine And.intro ?_ ?_ | refine Fin.mk ?_ | refine CallG.plain rfl ?_ ?_ | refine CallG.mk rfl ?_ ?_ | refine CallG.nwl rfl ?_ ?_ | refine CallG.nw ?_ ?_ | refine CallF.nwl rfl ?_ ?_ | refine CallF.nw ?_ ?_ | refine AppN.mk ?_ | (refine CallS.q ?_; (conv => whnf); first | refine CallG.plain rfl ?_ ?_ | refine CallG.mk rfl ?_ ?_) | (refine CallS.m ?_; (conv => whnf); refine CallM.mk rfl ?_ ?_) | (refine CallS.h ?_; (conv => whnf); refine CallM.mk rfl ?_ ?_) | (refine CallS.b ?_; (conv => whnf); refine CallM.mk rfl ?_ ?_) | (refine CallS.z ?_; (conv => whnf); refine CallM.mk rfl ?_ ?_))
  all_goals (try (conv => whnf))
  all_goals (try (exact Ob.mk (u8_bnd _)))
  all_goals (try (refine Ob.mk ?_; first | exact True.intro | assumption | omega | (try simp only [decide_eq_true_eq, decide_eq_false_iff_not, beq_iff_eq, beq_eq_false_iff_ne, bne_iff_ne, bne_eq_false_iff_eq, ne_eq, Bool.and_eq_true, Bool.or_eq_true, Bool.not_eq_true, Bool.not_eq_false, Bool.not_eq_true', Bool.not_eq_false', Int.toNat_natCast, Int.not_lt, Int.not_le, UInt8.ofNat_toNat, cast_eq] at *; omega)))
  all_goals (try ((show (_:Int) = _); omega))
  all_goals (try (show tupSV _ = _; with_unfolding_all rfl))
  all_goals (try ((show (_ : Nat) ≤ _); (simp <;> omega)))
  all_goals (try ((show (_ : Nat) ≤ _ ∧ (_ : Nat) ≤ _); (simp <;> omega)))
  all_goals (try ((show (_ : Int) ≤ _ ∧ (_ : Int) ≤ _ ∧ (_ : Int) ≤ _ ∧ (_ : Int) ≤ _); (simp <;> omega)))
  all_goals (try (simp only [Int.toNat_natCast, Int.reduceToNat, Ty.dflt, cast_eq] at *))
  all_goals (try (simp only [ti1, ti2, upto_def, u8_38, u8n_38, u8_59, u8_35] at *))
  all_goals (try simp only [decide_eq_true_eq, decide_eq_false_iff_not, beq_iff_eq, beq_eq_false_iff_ne, bne_iff_ne, bne_eq_false_iff_eq, ne_eq, Bool.and_eq_true, Bool.or_eq_true, Bool.and_eq_false_iff, Bool.or_eq_false_iff, Bool.not_eq_true, Bool.not_eq_false, Bool.not_eq_true', Bool.not_eq_false', Int.toNat_natCast, Int.not_lt, Int.not_le, ge_iff_le, gt_iff_lt, UInt8.ofNat_toNat, cast_eq] at *)
  all_goals (try (have := hne (by first | exact ‹¬ s = [] ∧ _›.1 | assumption)))
  all_goals (try omega)
  all_goals (try (rw [rdR_bad ‹_›]; done))
  all_goals (try (rw [rdR_num ‹¬ s = [] ∧ _› ⟨by have := ‹1 < (s.length : Int) ∧ _›.1; omega, ‹1 < (s.length : Int) ∧ _›.2⟩]; done))
  all_goals (try (show 2 ≤ s.length ∧ _; omega))
  have hR := rdR_loop (v := v) ‹¬ s = [] ∧ _› (by rintro ⟨q1, q2⟩; rcases ‹_ ∨ ¬ _› with g | g; omega; exact g q2)
  have hm : min (s.length - 1) 12 + 1 ≤ s.length := by omega
  refine LoopStop.mk (α := Nat) (fun i => [(6, .int .i64 i)]) (fun _ => []) 0 (fun i => i ≤ min (s.length - 1) 12 ∧ rdR s v = refLoop s v i) (fun i => i) (min (s.length - 1) 12) ⟨Nat.le_refl _, hR⟩ ?_ (fun i hi => ?_)
  · repeat' ((conv => whnf); first | (with_reducible rfl) | exact True.intro | (with_reducible exact absTF) | (with_reducible exact absFT) | intro _ | refine And.intro ?_ ?_ | refine Fin.mk ?_ | refine CallG.plain rfl ?_ ?_ | refine CallG.mk rfl ?_ ?_ | refine CallG.nwl rfl ?_ ?_ | refine CallG.nw ?_ ?_ | refine CallF.nwl rfl ?_ ?_ | refine CallF.nw ?_ ?_ | refine AppN.mk ?_ | (refine CallS.q ?_; (conv => whnf); first | refine CallG.plain rfl ?_ ?_ | refine CallG.mk rfl ?_ ?_) | (refine CallS.m ?_; (conv => whnf); refine CallM.mk rfl ?_ ?_) | (refine CallS.h ?_; (conv => whnf); refine CallM.mk rfl ?_ ?_) | (refine CallS.b ?_; (conv => whnf); refine CallM.mk rfl ?_ ?_) | (refine CallS.z ?_; (conv => whnf); refine CallM.mk rfl ?_ ?_))
    all_goals (try (conv => whnf))
    all_goals (try (exact Ob.mk (u8_bnd _)))
    all_goals (try (refine Ob.mk ?_; first | exact True.intro | assumption | omega | (try simp only [decide_eq_true_eq, decide_eq_false_iff_not, beq_iff_eq, beq_eq_false_iff_ne, bne_iff_ne, bne_eq_false_iff_eq, ne_eq, Bool.and_eq_true, Bool.or_eq_true, Bool.not_eq_true, Bool.not_eq_false, Bool.not_eq_true', Bool.not_eq_false', Int.toNat_natCast, Int.not_lt, Int.not_le, UInt8.ofNat_toNat, cast_eq] at *; omega)))
    all_goals (try ((show (_:Int) = _); omega))
    all_goals (try (show tupSV _ = _; with_unfolding_all rfl))
    all_goals (try ((show (_ : Nat) ≤ _); (simp <;> omega)))
    all_goals (try ((show (_ : Nat) ≤ _ ∧ (_ : Nat) ≤ _); (simp <;> omega)))
    all_goals (try ((show (_ : Int) ≤ _ ∧ (_ : Int) ≤ _ ∧ (_ : Int) ≤ _ ∧ (_ : Int) ≤ _); (simp <;> omega)))
    all_goals (try rfl)
    all_goals (try (show min _ _ = _; omega))
  · obtain ⟨i1, i2⟩ := hi
    repeat' ((conv => whnf); first | (with_reducible rfl) | exact True.intro | (with_reducible exact absTF) | (with_reducible exact absFT) | intro _ | refine And.intro ?_ ?_ | refine Fin.mk ?_ | refine CallG.plain rfl ?_ ?_ | refine CallG.mk rfl ?_ ?_ | refine CallG.nwl rfl ?_ ?_ | refine CallG.nw ?_ ?_ | refine CallF.nwl rfl ?_ ?_ | refine CallF.nw ?_ ?_ | refine AppN.mk ?_ | (refine CallS.q ?_; (conv => whnf); first | refine CallG.plain rfl ?_ ?_ | refine CallG.mk rfl ?_ ?_) | (refine CallS.m ?_; (conv => whnf); refine CallM.mk rfl ?_ ?_) | (refine CallS.h ?_; (conv => whnf); refine CallM.mk rfl ?_ ?_) | (refine CallS.b ?_; (conv => whnf); refine CallM.mk rfl ?_ ?_) | (refine CallS.z ?_; (conv => whnf); refine CallM.mk rfl ?_ ?_))
    all_goals (try (conv => whnf))
    all_goals (try (exact Ob.mk (u8_bnd _)))
    all_goals (try (refine Ob.mk ?_; first | exact True.intro | assumption | omega | (try simp only [decide_eq_true_eq, decide_eq_false_iff_not, beq_iff_eq, beq_eq_false_iff_ne, bne_iff_ne, bne_eq_false_iff_eq, ne_eq, Bool.and_eq_true, Bool.or_eq_true, Bool.not_eq_true, Bool.not_eq_false, Bool.not_eq_true', Bool.not_eq_false', Int.toNat_natCast, Int.not_lt, Int.not_le, UInt8.ofNat_toNat, cast_eq] at *; omega)))
    all_goals (try ((show (_:Int) = _); omega))
    all_goals (try (show tupSV _ = _; with_unfolding_all rfl))
    all_goals (try ((show (_ : Nat) ≤ _); (simp <;> omega)))
    all_goals (try ((show (_ : Nat) ≤ _ ∧ (_ : Nat) ≤ _); (simp <;> omega)))
    all_goals (try ((show (_ : Int) ≤ _ ∧ (_ : Int) ≤ _ ∧ (_ : Int) ≤ _ ∧ (_ : Int) ≤ _); (simp <;> omega)))
    all_goals (try (simp only [Int.toNat_natCast, Int.reduceToNat, Ty.dflt, cast_eq] at *))
    all_goals (try (simp only [ti1, ti2, upto_def, u8_61, u8n_59, stop_eq2] at *))
    all_goals (first | (have h0 : 0 < i := by simp only [decide_eq_true_eq] at *; omega) | (have h0 : i = 0 := by simp only [decide_eq_false_iff_not] at *; omega) | skip)
    all_goals (try (rw [i2, h0]; rfl))
    all_goals (try simp only [decide_eq_true_eq, decide_eq_false_iff_not, beq_iff_eq, beq_eq_false_iff_ne, bne_iff_ne, bne_eq_false_iff_eq, ne_eq, Bool.and_eq_true, Bool.or_eq_true, Bool.and_eq_false_iff, Bool.or_eq_false_iff, Bool.not_eq_true, Bool.not_eq_false, Bool.not_eq_true', Bool.not_eq_false', Int.toNat_natCast, Int.not_lt, Int.not_le, ge_iff_le, gt_iff_lt, UInt8.ofNat_toNat, cast_eq] at *)
    all_goals (try (rw [i2, rfL_stop h0 ‹_› ‹_›]; done))
    all_goals (try (rw [i2, rfL_yes h0 ‹_› ‹_›]; done))
    all_goals (try omega)
    refine Rnd.mk ⟨i - 1, ?_, ?_, ?_⟩
    · exact ⟨by omega, by rw [i2, rfL_no h0 ‹_›]⟩
    · omega
    · repeat' ((conv => whnf); first | (with_reducible rfl) | exact True.intro | (with_reducible exact absTF) | (with_reducible exact absFT) | intro _ | refine And.intro ?_ ?_ | refine Fin.mk ?_ | refine CallG.plain rfl ?_ ?_ | refine CallG.mk rfl ?_ ?_ | refine CallG.nwl rfl ?_ ?_ | refine CallG.nw ?_ ?_ | refine CallF.nwl rfl ?_ ?_ | refine CallF.nw ?_ ?_ | refine AppN.mk ?_ | (refine CallS.q ?_; (conv => whnf); first | refine CallG.plain rfl ?_ ?_ | refine CallG.mk rfl ?_ ?_) | (refine CallS.m ?_; (conv => whnf); refine CallM.mk rfl ?_ ?_) | (refine CallS.h ?_; (conv => whnf); refine CallM.mk rfl ?_ ?_) | (refine CallS.b ?_; (conv => whnf); refine CallM.mk rfl ?_ ?_) | (refine CallS.z ?_; (conv => whnf); refine CallM.mk rfl ?_ ?_))
      all_goals (try (conv => whnf))
      all_goals (try (exact Ob.mk (u8_bnd _)))
      all_goals (try (refine Ob.mk ?_; first | exact True.intro | assumption | omega | (try simp only [decide_eq_true_eq, decide_eq_false_iff_not, beq_iff_eq, beq_eq_false_iff_ne, bne_iff_ne, bne_eq_false_iff_eq, ne_eq, Bool.and_eq_true, Bool.or_eq_true, Bool.not_eq_true, Bool.not_eq_false, Bool.not_eq_true', Bool.not_eq_false', Int.toNat_natCast, Int.not_lt, Int.not_le, UInt8.ofNat_toNat, cast_eq] at *; omega)))
      all_goals (try ((show (_:Int) = _); omega))
      all_goals (try (show tupSV _ = _; with_unfolding_all rfl))
      all_goals (try ((show (_ : Nat) ≤ _); (simp <;> omega)))
      all_goals (try ((show (_ : Nat) ≤ _ ∧ (_ : Nat) ≤ _); (simp <;> omega)))
      all_goals (try ((show (_ : Int) ≤ _ ∧ (_ : Int) ≤ _ ∧ (_ : Int) ≤ _ ∧ (_ : Int) ≤ _); (simp <;> omega)))
instance fRRead' (s : List UInt8) (v : Bool) : Fn BB 45 [.str s, .bool v] (s.length ≤ 100000) (.tup [.str (rdP s v).1, .int .i64 (rdP s v).2]) := by
  rw [← rd_eq]; exact fRRead s v
theorem dec_inv {s out : List UInt8} {v : Bool} {i : Nat} (h : i < s.length) (hd : out ++ decF (s.drop i) v = decF s v) :
    (¬ (rdP (s.drop i) v).2 = 0 → (out ++ (rdP (s.drop i) v).1) ++ decF (s.drop (i + (rdP (s.drop i) v).2.toNat)) v = decF s v) ∧
    ((rdP (s.drop i) v).2 = 0 → (out ++ [s.getD i 0]) ++ decF (s.drop (i + 1)) v = decF s v) := by
  have hne : s.drop i ≠ [] := fun h' => by have := congrArg List.length h'; simp at this; omega
  rw [decF_step v hne] at hd
  refine ⟨fun h0 => ?_, fun h0 => ?_⟩
  · rw [if_neg h0, List.drop_drop] at hd
    rw [← hd, List.append_assoc]
  · rw [if_pos h0, List.drop_drop] at hd
    rw [← hd, List.append_assoc]
    simp [List.getD]
instance fDec (s : List UInt8) (v : Bool) : Fn BB 44 [.str s, .bool v] (s.length ≤ 100000) (.str (decF s v)) := by
  refine Fn.intro (N := 36) [0, 1, 4, 5, 6, 7, 8, 12, 22] [] Try.call44 Try.func44 rfl rfl (by kernel_rfl) (fun hpre => ?_)
  repeat' ((conv => whnf); first | (with_reducible rfl) | exact True.intro | (with_reducible exact absTF) | (with_reducible exact absFT) | intro _ | refine And.intro ?_ ?_ | refine Fin.mk ?_ | refine CallG.plain rfl ?_ ?_ | refine CallG.mk rfl ?_ ?_ | refine CallG.nwl rfl ?_ ?_ | refine CallG.nw ?_ ?_ | refine CallF.nwl rfl ?_ ?_ | refine CallF.nw ?_ ?_ | refine AppN.mk ?_ | (refine CallS.q ?_; (conv => whnf); first | refine CallG.plain rfl ?_ ?_ | refine CallG.mk rfl ?_ ?_) | (refine CallS.m ?_; (conv => whnf); refine CallM.mk rfl ?_ ?_) | (refine CallS.h ?_; (conv => whnf); refine CallM.mk rfl ?_ ?_) | (refine CallS.b ?_; (conv => whnf); refine CallM.mk rfl ?_ ?_) | (refine CallS.z ?_; (conv => whnf); refine CallM.mk rfl ?_ ?_))
  all_goals (try (conv => whnf))
  all_goals (try (exact Ob.mk (u8_bnd _)))
  all_goals (try (refine Ob.mk ?_; first | exact True.intro | assumption | omega | (try simp only [decide_eq_true_eq, decide_eq_false_iff_not, beq_iff_eq, beq_eq_false_iff_ne, bne_iff_ne, bne_eq_false_iff_eq, ne_eq, Bool.and_eq_true, Bool.or_eq_true, Bool.not_eq_true, Bool.not_eq_false, Bool.not_eq_true', Bool.not_eq_false', Int.toNat_natCast, Int.not_lt, Int.not_le, UInt8.ofNat_toNat, cast_eq] at *; omega)))
  all_goals (try ((show (_:Int) = _); omega))
  all_goals (try (show tupSV _ = _; with_unfolding_all rfl))
  all_goals (try ((show (_ : Nat) ≤ _); (simp <;> omega)))
  all_goals (try ((show (_ : Nat) ≤ _ ∧ (_ : Nat) ≤ _); (simp <;> omega)))
  all_goals (try ((show (_ : Int) ≤ _ ∧ (_ : Int) ≤ _ ∧ (_ : Int) ≤ _ ∧ (_ : Int) ≤ _); (simp <;> omega)))
  refine LoopStop.mk (α := List UInt8 × Nat) (fun a => [(5, .own 20), (6, .int .i64 (a.2 : Nat))]) (fun a => [(20, .own .byte a.1)]) 40 (fun a => a.2 ≤ s.length ∧ a.1.length ≤ 4 * a.2 ∧ a.1 ++ decF (s.drop a.2) v = decF s v) (fun a => s.length - a.2) ([], 0) ⟨by simp, by simp, by simp⟩ ?_ (fun a ha => ?_)
  · repeat' ((conv => whnf); first | (with_reducible rfl) | exact True.intro | (with_reducible exact absTF) | (with_reducible exact absFT) | intro _ | refine And.intro ?_ ?_ | refine Fin.mk ?_ | refine CallG.plain rfl ?_ ?_ | refine CallG.mk rfl ?_ ?_ | refine CallG.nwl rfl ?_ ?_ | refine CallG.nw ?_ ?_ | refine CallF.nwl rfl ?_ ?_ | refine CallF.nw ?_ ?_ | refine AppN.mk ?_ | (refine CallS.q ?_; (conv => whnf); first | refine CallG.plain rfl ?_ ?_ | refine CallG.mk rfl ?_ ?_) | (refine CallS.m ?_; (conv => whnf); refine CallM.mk rfl ?_ ?_) | (refine CallS.h ?_; (conv => whnf); refine CallM.mk rfl ?_ ?_) | (refine CallS.b ?_; (conv => whnf); refine CallM.mk rfl ?_ ?_) | (refine CallS.z ?_; (conv => whnf); refine CallM.mk rfl ?_ ?_))
    all_goals (try (conv => whnf))
    all_goals (try (exact Ob.mk (u8_bnd _)))
    all_goals (try (refine Ob.mk ?_; first | exact True.intro | assumption | omega | (try simp only [decide_eq_true_eq, decide_eq_false_iff_not, beq_iff_eq, beq_eq_false_iff_ne, bne_iff_ne, bne_eq_false_iff_eq, ne_eq, Bool.and_eq_true, Bool.or_eq_true, Bool.not_eq_true, Bool.not_eq_false, Bool.not_eq_true', Bool.not_eq_false', Int.toNat_natCast, Int.not_lt, Int.not_le, UInt8.ofNat_toNat, cast_eq] at *; omega)))
    all_goals (try ((show (_:Int) = _); omega))
    all_goals (try (show tupSV _ = _; with_unfolding_all rfl))
    all_goals (try ((show (_ : Nat) ≤ _); (simp <;> omega)))
    all_goals (try ((show (_ : Nat) ≤ _ ∧ (_ : Nat) ≤ _); (simp <;> omega)))
    all_goals (try ((show (_ : Int) ≤ _ ∧ (_ : Int) ≤ _ ∧ (_ : Int) ≤ _ ∧ (_ : Int) ≤ _); (simp <;> omega)))
    all_goals (try rfl)
  · obtain ⟨out, i⟩ := a
    obtain ⟨a1, a2, a3⟩ := ha
    dsimp only at a1 a2 a3 ⊢
    obtain ⟨b1, b2, b3⟩ := rd_bound (s.drop i) v
    have hinv := dec_inv (s := s) (out := out) (v := v) (i := i)
    repeat' ((conv => whnf); first | (with_reducible rfl) | exact True.intro | (with_reducible exact absTF) | (with_reducible exact absFT) | intro _ | refine And.intro ?_ ?_ | refine Fin.mk ?_ | refine CallG.plain rfl ?_ ?_ | refine CallG.mk rfl ?_ ?_ | refine CallG.nwl rfl ?_ ?_ | refine CallG.nw ?_ ?_ | refine CallF.nwl rfl ?_ ?_ | refine CallF.nw ?_ ?_ | refine AppN.mk ?_ | (refine CallS.q ?_; (conv => whnf); first | refine CallG.plain rfl ?_ ?_ | refine CallG.mk rfl ?_ ?_) | (refine CallS.m ?_; (conv => whnf); refine CallM.mk rfl ?_ ?_) | (refine CallS.h ?_; (conv => whnf); refine CallM.mk rfl ?_ ?_) | (refine CallS.b ?_; (conv => whnf); refine CallM.mk rfl ?_ ?_) | (refine CallS.z ?_; (conv => whnf); refine CallM.mk rfl ?_ ?_))
    all_goals (try (conv => whnf))
    all_goals (try (exact Ob.mk (u8_bnd _)))
    all_goals (try (refine Ob.mk ?_; first | exact True.intro | assumption | omega | (try simp only [decide_eq_true_eq, decide_eq_false_iff_not, beq_iff_eq, beq_eq_false_iff_ne, bne_iff_ne, bne_eq_false_iff_eq, ne_eq, Bool.and_eq_true, Bool.or_eq_true, Bool.not_eq_true, Bool.not_eq_false, Bool.not_eq_true', Bool.not_eq_false', Int.toNat_natCast, Int.not_lt, Int.not_le, UInt8.ofNat_toNat, cast_eq] at *; omega)))
    all_goals (try ((show (_:Int) = _); omega))
    all_goals (try (show tupSV _ = _; with_unfolding_all rfl))
    all_goals (try ((show (_ : Nat) ≤ _); (simp <;> omega)))
    all_goals (try ((show (_ : Nat) ≤ _ ∧ (_ : Nat) ≤ _); (simp <;> omega)))
    all_goals (try ((show (_ : Int) ≤ _ ∧ (_ : Int) ≤ _ ∧ (_ : Int) ≤ _ ∧ (_ : Int) ≤ _); (simp <;> omega)))
    all_goals (try (simp only [Int.toNat_natCast, Int.reduceToNat, Ty.dflt, cast_eq] at *))
    all_goals (try (simp only [ti1] at *))
    all_goals (try simp only [decide_eq_true_eq, decide_eq_false_iff_not, beq_iff_eq, beq_eq_false_iff_ne, bne_iff_ne, bne_eq_false_iff_eq, ne_eq, Bool.and_eq_true, Bool.or_eq_true, Bool.and_eq_false_iff, Bool.or_eq_false_iff, Bool.not_eq_true, Bool.not_eq_false, Bool.not_eq_true', Bool.not_eq_false', Int.toNat_natCast, Int.not_lt, Int.not_le, ge_iff_le, gt_iff_lt, UInt8.ofNat_toNat, cast_eq] at *)
    all_goals (try (have hlt : i < s.length := by omega))
    all_goals (try (have hstep := hinv hlt a3))
    all_goals (try (simp only [List.length_drop] at b2))
    all_goals (try (show InI64 _; constructor <;> omega))
    all_goals (try (rw [drop_take_one s i hlt]))
    · refine Rnd.mk ⟨(out ++ [s.getD i 0], i + 1), ?_, ?_, ?_⟩
      · exact ⟨hlt, by simp; omega, hstep.2 ‹_›⟩
      · simp only; omega
      · repeat' ((conv => whnf); first | (with_reducible rfl) | exact True.intro | (with_reducible exact absTF) | (with_reducible exact absFT) | intro _ | refine And.intro ?_ ?_ | refine Fin.mk ?_ | refine CallG.plain rfl ?_ ?_ | refine CallG.mk rfl ?_ ?_ | refine CallG.nwl rfl ?_ ?_ | refine CallG.nw ?_ ?_ | refine CallF.nwl rfl ?_ ?_ | refine CallF.nw ?_ ?_ | refine AppN.mk ?_ | (refine CallS.q ?_; (conv => whnf); first | refine CallG.plain rfl ?_ ?_ | refine CallG.mk rfl ?_ ?_) | (refine CallS.m ?_; (conv => whnf); refine CallM.mk rfl ?_ ?_) | (refine CallS.h ?_; (conv => whnf); refine CallM.mk rfl ?_ ?_) | (refine CallS.b ?_; (conv => whnf); refine CallM.mk rfl ?_ ?_) | (refine CallS.z ?_; (conv => whnf); refine CallM.mk rfl ?_ ?_))
        all_goals (try (conv => whnf))
        all_goals (try (exact Ob.mk (u8_bnd _)))
        all_goals (try (refine Ob.mk ?_; first | exact True.intro | assumption | omega | (try simp only [decide_eq_true_eq, decide_eq_false_iff_not, beq_iff_eq, beq_eq_false_iff_ne, bne_iff_ne, bne_eq_false_iff_eq, ne_eq, Bool.and_eq_true, Bool.or_eq_true, Bool.not_eq_true, Bool.not_eq_false, Bool.not_eq_true', Bool.not_eq_false', Int.toNat_natCast, Int.not_lt, Int.not_le, UInt8.ofNat_toNat, cast_eq] at *; omega)))
        all_goals (try ((show (_:Int) = _); omega))
        all_goals (try (show tupSV _ = _; with_unfolding_all rfl))
        all_goals (try ((show (_ : Nat) ≤ _); (simp <;> omega)))
        all_goals (try ((show (_ : Nat) ≤ _ ∧ (_ : Nat) ≤ _); (simp <;> omega)))
        all_goals (try ((show (_ : Int) ≤ _ ∧ (_ : Int) ≤ _ ∧ (_ : Int) ≤ _ ∧ (_ : Int) ≤ _); (simp <;> omega)))
        all_goals (try (rw [drop_take_one s i hlt]))
    · refine Rnd.mk ⟨(out ++ (rdP (s.drop i) v).1, i + (rdP (s.drop i) v).2.toNat), ?_, ?_, ?_⟩
      · refine ⟨by simp only; omega, ?_, hstep.1 ‹_›⟩
        rw [List.length_append]
        simp only; omega
      · simp only; omega
      · repeat' ((conv => whnf); first | (with_reducible rfl) | exact True.intro | (with_reducible exact absTF) | (with_reducible exact absFT) | intro _ | refine And.intro ?_ ?_ | refine Fin.mk ?_ | refine CallG.plain rfl ?_ ?_ | refine CallG.mk rfl ?_ ?_ | refine CallG.nwl rfl ?_ ?_ | refine CallG.nw ?_ ?_ | refine CallF.nwl rfl ?_ ?_ | refine CallF.nw ?_ ?_ | refine AppN.mk ?_ | (refine CallS.q ?_; (conv => whnf); first | refine CallG.plain rfl ?_ ?_ | refine CallG.mk rfl ?_ ?_) | (refine CallS.m ?_; (conv => whnf); refine CallM.mk rfl ?_ ?_) | (refine CallS.h ?_; (conv => whnf); refine CallM.mk rfl ?_ ?_) | (refine CallS.b ?_; (conv => whnf); refine CallM.mk rfl ?_ ?_) | (refine CallS.z ?_; (conv => whnf); refine CallM.mk rfl ?_ ?_))
        all_goals (try (conv => whnf))
        all_goals (try (exact Ob.mk (u8_bnd _)))
        all_goals (try (refine Ob.mk ?_; first | exact True.intro | assumption | omega | (try simp only [decide_eq_true_eq, decide_eq_false_iff_not, beq_iff_eq, beq_eq_false_iff_ne, bne_iff_ne, bne_eq_false_iff_eq, ne_eq, Bool.and_eq_true, Bool.or_eq_true, Bool.not_eq_true, Bool.not_eq_false, Bool.not_eq_true', Bool.not_eq_false', Int.toNat_natCast, Int.not_lt, Int.not_le, UInt8.ofNat_toNat, cast_eq] at *; omega)))
        all_goals (try ((show (_:Int) = _); omega))
        all_goals (try (show tupSV _ = _; with_unfolding_all rfl))
        all_goals (try ((show (_ : Nat) ≤ _); (simp <;> omega)))
        all_goals (try ((show (_ : Nat) ≤ _ ∧ (_ : Nat) ≤ _); (simp <;> omega)))
        all_goals (try ((show (_ : Int) ≤ _ ∧ (_ : Int) ≤ _ ∧ (_ : Int) ≤ _ ∧ (_ : Int) ≤ _); (simp <;> omega)))
        all_goals (try (show _ = (_ : Int); simp only; omega))
    · have he : s.drop i = [] := List.drop_of_length_le (by omega)
      rw [he, decF_nil, List.append_nil] at a3
      rw [a3]
instance fRDec (s : List UInt8) (v : Bool) : Fn BB 38 [.str s, .bool v] (s.length ≤ 100000) (.str (decF s v)) := by
  refine Fn.intro (N := 39) [0, 1, 4, 5, 6, 7, 8, 12, 22] [] Try.call38 Try.func38 rfl rfl (by kernel_rfl) (fun hpre => ?_)
  repeat' ((conv => whnf); first | (with_reducible rfl) | exact True.intro | (with_reducible exact absTF) | (with_reducible exact absFT) | intro _ | refine And.intro ?_ ?_ | refine Fin.mk ?_ | refine CallG.plain rfl ?_ ?_ | refine CallG.mk rfl ?_ ?_ | refine CallG.nwl rfl ?_ ?_ | refine CallG.nw ?_ ?_ | refine CallF.nwl rfl ?_ ?_ | refine CallF.nw ?_ ?_ | refine AppN.mk ?_ | (refine CallS.q ?_; (conv => whnf); first | refine CallG.plain rfl ?_ ?_ | refine CallG.mk rfl ?_ ?_) | (refine CallS.m ?_; (conv => whnf); refine CallM.mk rfl ?_ ?_) | (refine CallS.h ?_; (conv => whnf); refine CallM.mk rfl ?_ ?_) | (refine CallS.b ?_; (conv => whnf); refine CallM.mk rfl ?_ ?_) | (refine CallS.z ?_; (conv => whnf); refine CallM.mk rfl ?_ ?_))
  all_goals (try (conv => whnf))
  all_goals (try (exact Ob.mk (u8_bnd _)))
  all_goals (try (refine Ob.mk ?_; first | exact True.intro | assumption | omega | (try simp only [decide_eq_true_eq, decide_eq_false_iff_not, beq_iff_eq, beq_eq_false_iff_ne, bne_iff_ne, bne_eq_false_iff_eq, ne_eq, Bool.and_eq_true, Bool.or_eq_true, Bool.not_eq_true, Bool.not_eq_false, Bool.not_eq_true', Bool.not_eq_false', Int.toNat_natCast, Int.not_lt, Int.not_le, UInt8.ofNat_toNat, cast_eq] at *; omega)))
  all_goals (try ((show (_:Int) = _); omega))
  all_goals (try (show tupSV _ = _; with_unfolding_all rfl))
  all_goals (try ((show (_ : Nat) ≤ _); (simp <;> omega)))
  all_goals (try ((show (_ : Nat) ≤ _ ∧ (_ : Nat) ≤ _); (simp <;> omega)))
  all_goals (try ((show (_ : Int) ≤ _ ∧ (_ : Int) ≤ _ ∧ (_ : Int) ≤ _ ∧ (_ : Int) ≤ _); (simp <;> omega)))
  refine LoopStop.mk (α := List UInt8 × Nat) (fun a => [(5, .str a.1), (6, .int .i64 (a.2 : Nat))]) (fun a => []) 40 (fun a => a.2 ≤ s.length ∧ a.1.length ≤ 4 * a.2 ∧ a.1 ++ decF (s.drop a.2) v = decF s v) (fun a => s.length - a.2) ([], 0) ⟨by simp, by simp, by simp⟩ ?_ (fun a ha => ?_)
  · repeat' ((conv => whnf); first | (with_reducible rfl) | exact True.intro | (with_reducible exact absTF) | (with_reducible exact absFT) | intro _ | refine And.intro ?_ ?_ | refine Fin.mk ?_ | refine CallG.plain rfl ?_ ?_ | refine CallG.mk rfl ?_ ?_ | refine CallG.nwl rfl ?_ ?_ | refine CallG.nw ?_ ?_ | refine CallF.nwl rfl ?_ ?_ | refine CallF.nw ?_ ?_ | refine AppN.mk ?_ | (refine CallS.q ?_; (conv => whnf); first | refine CallG.plain rfl ?_ ?_ | refine CallG.mk rfl ?_ ?_) | (refine CallS.m ?_; (conv => whnf); refine CallM.mk rfl ?_ ?_) | (refine CallS.h ?_; (conv => whnf); refine CallM.mk rfl ?_ ?_) | (refine CallS.b ?_; (conv => whnf); refine CallM.mk rfl ?_ ?_) | (refine CallS.z ?_; (conv => whnf); refine CallM.mk rfl ?_ ?_))
    all_goals (try (conv => whnf))
    all_goals (try (exact Ob.mk (u8_bnd _)))
    all_goals (try (refine Ob.mk ?_; first | exact True.intro | assumption | omega | (try simp only [decide_eq_true_eq, decide_eq_false_iff_not, beq_iff_eq, beq_eq_false_iff_ne, bne_iff_ne, bne_eq_false_iff_eq, ne_eq, Bool.and_eq_true, Bool.or_eq_true, Bool.not_eq_true, Bool.not_eq_false, Bool.not_eq_true', Bool.not_eq_false', Int.toNat_natCast, Int.not_lt, Int.not_le, UInt8.ofNat_toNat, cast_eq] at *; omega)))
    all_goals (try ((show (_:Int) = _); omega))
    all_goals (try (show tupSV _ = _; with_unfolding_all rfl))
    all_goals (try ((show (_ : Nat) ≤ _); (simp <;> omega)))
    all_goals (try ((show (_ : Nat) ≤ _ ∧ (_ : Nat) ≤ _); (simp <;> omega)))
    all_goals (try ((show (_ : Int) ≤ _ ∧ (_ : Int) ≤ _ ∧ (_ : Int) ≤ _ ∧ (_ : Int) ≤ _); (simp <;> omega)))
    all_goals (try rfl)
  · obtain ⟨out, i⟩ := a
    obtain ⟨a1, a2, a3⟩ := ha
    dsimp only at a1 a2 a3 ⊢
    obtain ⟨b1, b2, b3⟩ := rd_bound (s.drop i) v
    have hinv := dec_inv (s := s) (out := out) (v := v) (i := i)
    repeat' ((conv => whnf); first | (with_reducible rfl) | exact True.intro | (with_reducible exact absTF) | (with_reducible exact absFT) | intro _ | refine And.intro ?_ ?_ | refine Fin.mk ?_ | refine CallG.plain rfl ?_ ?_ | refine CallG.mk rfl ?_ ?_ | refine CallG.nwl rfl ?_ ?_ | refine CallG.nw ?_ ?_ | refine CallF.nwl rfl ?_ ?_ | refine CallF.nw ?_ ?_ | refine AppN.mk ?_ | (refine CallS.q ?_; (conv => whnf); first | refine CallG.plain rfl ?_ ?_ | refine CallG.mk rfl ?_ ?_) | (refine CallS.m ?_; (conv => whnf); refine CallM.mk rfl ?_ ?_) | (refine CallS.h ?_; (conv => whnf); refine CallM.mk rfl ?_ ?_) | (refine CallS.b ?_; (conv => whnf); refine CallM.mk rfl ?_ ?_) | (refine CallS.z ?_; (conv => whnf); refine CallM.mk rfl ?_ ?_))
    all_goals (try (conv => whnf))
    all_goals (try (exact Ob.mk (u8_bnd _)))
    all_goals (try (refine Ob.mk ?_; first | exact True.intro | assumption | omega | (try simp only [decide_eq_true_eq, decide_eq_false_iff_not, beq_iff_eq, beq_eq_false_iff_ne, bne_iff_ne, bne_eq_false_iff_eq, ne_eq, Bool.and_eq_true, Bool.or_eq_true, Bool.not_eq_true, Bool.not_eq_false, Bool.not_eq_true', Bool.not_eq_false', Int.toNat_natCast, Int.not_lt, Int.not_le, UInt8.ofNat_toNat, cast_eq] at *; omega)))
    all_goals (try ((show (_:Int) = _); omega))
    all_goals (try (show tupSV _ = _; with_unfolding_all rfl))
    all_goals (try ((show (_ : Nat) ≤ _); (simp <;> omega)))
    all_goals (try ((show (_ : Nat) ≤ _ ∧ (_ : Nat) ≤ _); (simp <;> omega)))
    all_goals (try ((show (_ : Int) ≤ _ ∧ (_ : Int) ≤ _ ∧ (_ : Int) ≤ _ ∧ (_ : Int) ≤ _); (simp <;> omega)))
    all_goals (try (simp only [Int.toNat_natCast, Int.reduceToNat, Ty.dflt, cast_eq] at *))
    all_goals (try (simp only [ti1] at *))
    all_goals (try simp only [decide_eq_true_eq, decide_eq_false_iff_not, beq_iff_eq, beq_eq_false_iff_ne, bne_iff_ne, bne_eq_false_iff_eq, ne_eq, Bool.and_eq_true, Bool.or_eq_true, Bool.and_eq_false_iff, Bool.or_eq_false_iff, Bool.not_eq_true, Bool.not_eq_false, Bool.not_eq_true', Bool.not_eq_false', Int.toNat_natCast, Int.not_lt, Int.not_le, ge_iff_le, gt_iff_lt, UInt8.ofNat_toNat, cast_eq] at *)
    all_goals (try (have hlt : i < s.length := by omega))
    all_goals (try (have hstep := hinv hlt a3))
    all_goals (try (simp only [List.length_drop] at b2))
    all_goals (try (show InI64 _; constructor <;> omega))
    all_goals (try (rw [drop_take_one s i hlt]))

    · refine Rnd.mk ⟨(out ++ [s.getD i 0], i + 1), ?_, ?_, ?_⟩
      · exact ⟨hlt, by simp; omega, hstep.2 ‹_›⟩
      · simp only; omega
      · repeat' ((conv => whnf); first | (with_reducible rfl) | exact True.intro | (with_reducible exact absTF) | (with_reducible exact absFT) | intro _ | refine And.intro ?_ ?_ | refine Fin.mk ?_ | refine CallG.plain rfl ?_ ?_ | refine CallG.mk rfl ?_ ?_ | refine CallG.nwl rfl ?_ ?_ | refine CallG.nw ?_ ?_ | refine CallF.nwl rfl ?_ ?_ | refine CallF.nw ?_ ?_ | refine AppN.mk ?_ | (refine CallS.q ?_; (conv => whnf); first | refine CallG.plain rfl ?_ ?_ | refine CallG.mk rfl ?_ ?_) | (refine CallS.m ?_; (conv => whnf); refine CallM.mk rfl ?_ ?_) | (refine CallS.h ?_; (conv => whnf); refine CallM.mk rfl ?_ ?_) | (refine CallS.b ?_; (conv => whnf); refine CallM.mk rfl ?_ ?_) | (refine CallS.z ?_; (conv => whnf); refine CallM.mk rfl ?_ ?_))
        all_goals (try (conv => whnf))
        all_goals (try (exact Ob.mk (u8_bnd _)))
        all_goals (try (refine Ob.mk ?_; first | exact True.intro | assumption | omega | (try simp only [decide_eq_true_eq, decide_eq_false_iff_not, beq_iff_eq, beq_eq_false_iff_ne, bne_iff_ne, bne_eq_false_iff_eq, ne_eq, Bool.and_eq_true, Bool.or_eq_true, Bool.not_eq_true, Bool.not_eq_false, Bool.not_eq_true', Bool.not_eq_false', Int.toNat_natCast, Int.not_lt, Int.not_le, UInt8.ofNat_toNat, cast_eq] at *; omega)))
        all_goals (try ((show (_:Int) = _); omega))
        all_goals (try (show tupSV _ = _; with_unfolding_all rfl))
        all_goals (try ((show (_ : Nat) ≤ _); (simp <;> omega)))
        all_goals (try ((show (_ : Nat) ≤ _ ∧ (_ : Nat) ≤ _); (simp <;> omega)))
        all_goals (try ((show (_ : Int) ≤ _ ∧ (_ : Int) ≤ _ ∧ (_ : Int) ≤ _ ∧ (_ : Int) ≤ _); (simp <;> omega)))
        all_goals (try (rw [drop_take_one s i hlt]))
    · refine Rnd.mk ⟨(out ++ (rdP (s.drop i) v).1, i + (rdP (s.drop i) v).2.toNat), ?_, ?_, ?_⟩
      · refine ⟨by simp only; omega, ?_, hstep.1 ‹_›⟩
        rw [List.length_append]
        simp only; omega
      · simp only; omega
      · repeat' ((conv => whnf); first | (with_reducible rfl) | exact True.intro | (with_reducible exact absTF) | (with_reducible exact absFT) | intro _ | refine And.intro ?_ ?_ | refine Fin.mk ?_ | refine CallG.plain rfl ?_ ?_ | refine CallG.mk rfl ?_ ?_ | refine CallG.nwl rfl ?_ ?_ | refine CallG.nw ?_ ?_ | refine CallF.nwl rfl ?_ ?_ | refine CallF.nw ?_ ?_ | refine AppN.mk ?_ | (refine CallS.q ?_; (conv => whnf); first | refine CallG.plain rfl ?_ ?_ | refine CallG.mk rfl ?_ ?_) | (refine CallS.m ?_; (conv => whnf); refine CallM.mk rfl ?_ ?_) | (refine CallS.h ?_; (conv => whnf); refine CallM.mk rfl ?_ ?_) | (refine CallS.b ?_; (conv => whnf); refine CallM.mk rfl ?_ ?_) | (refine CallS.z ?_; (conv => whnf); refine CallM.mk rfl ?_ ?_))
        all_goals (try (conv => whnf))
        all_goals (try (exact Ob.mk (u8_bnd _)))
        all_goals (try (refine Ob.mk ?_; first | exact True.intro | assumption | omega | (try simp only [decide_eq_true_eq, decide_eq_false_iff_not, beq_iff_eq, beq_eq_false_iff_ne, bne_iff_ne, bne_eq_false_iff_eq, ne_eq, Bool.and_eq_true, Bool.or_eq_true, Bool.not_eq_true, Bool.not_eq_false, Bool.not_eq_true', Bool.not_eq_false', Int.toNat_natCast, Int.not_lt, Int.not_le, UInt8.ofNat_toNat, cast_eq] at *; omega)))
        all_goals (try ((show (_:Int) = _); omega))
        all_goals (try (show tupSV _ = _; with_unfolding_all rfl))
        all_goals (try ((show (_ : Nat) ≤ _); (simp <;> omega)))
        all_goals (try ((show (_ : Nat) ≤ _ ∧ (_ : Nat) ≤ _); (simp <;> omega)))
        all_goals (try ((show (_ : Int) ≤ _ ∧ (_ : Int) ≤ _ ∧ (_ : Int) ≤ _ ∧ (_ : Int) ≤ _); (simp <;> omega)))
        all_goals (try (show _ = (_ : Int); simp only; omega))
    · have he : s.drop i = [] := List.drop_of_length_le (by omega)
      rw [he, decF_nil, List.append_nil] at a3
      rw [a3]
end Go.Vc

namespace Go.Vc.W
open Go.Proofs
set_option linter.unusedVariables false
def isSp (c : Int) : Bool := c == 9 || c == 10 || c == 12 || c == 13 || c == 32
set_option maxRecDepth 10000
set_option linter.unusedSimpArgs false
instance f31 (c : Int) : Fn BB 28 [.int .u8 c] True (.bool (isSp c)) := by
  refine Fn.intro (N := 10) [0, 2, 3, 4] [] Try.call28 Try.func28 rfl rfl (by kernel_rfl) (fun hpre => ?_)
  repeat' ((conv => whnf); first | (with_reducible rfl) | exact True.intro | (with_reducible exact absTF) | (with_reducible exact absFT) | intro _ | refine And.intro ?_ ?_ | refine Fin.mk ?_ | refine CallG.plain rfl ?_ ?_ | refine CallG.mk rfl ?_ ?_ | refine CallG.nwl rfl ?_ ?_ | refine CallG.nw ?_ ?_ | refine CallF.nwl rfl ?_ ?_ | refine CallF.nw ?_ ?_ | refine AppN.mk ?_ | (refine CallS.q ?_; (conv => whnf); first | refine CallG.plain rfl ?_ ?_ | refine CallG.mk rfl ?_ ?_) | (refine CallS.m ?_; (conv => whnf); refine CallM.mk rfl ?_ ?_) | (refine CallS.h ?_; (conv => whnf); refine CallM.mk rfl ?_ ?_) | (refine CallS.b ?_; (conv => whnf); refine CallM.mk rfl ?_ ?_) | (refine CallS.z ?_; (conv => whnf); refine CallM.mk rfl ?_ ?_))
  all_goals (try (conv => whnf))
  all_goals (simp_all [isSp]; done)
instance f40 (c : Int) : Fn BB 21 [.int .u8 c] True (.bool (isSp c)) := by
  refine Fn.intro (N := 21) [0, 2] [] Try.call21 Try.func21 rfl rfl (by kernel_rfl) (fun hpre => ?_)
  repeat' ((conv => whnf); first | (with_reducible rfl) | exact True.intro | (with_reducible exact absTF) | (with_reducible exact absFT) | intro _ | refine And.intro ?_ ?_ | refine Fin.mk ?_ | refine CallG.plain rfl ?_ ?_ | refine CallG.mk rfl ?_ ?_ | refine CallG.nwl rfl ?_ ?_ | refine CallG.nw ?_ ?_ | refine CallF.nwl rfl ?_ ?_ | refine CallF.nw ?_ ?_ | refine AppN.mk ?_ | (refine CallS.q ?_; (conv => whnf); first | refine CallG.plain rfl ?_ ?_ | refine CallG.mk rfl ?_ ?_) | (refine CallS.m ?_; (conv => whnf); refine CallM.mk rfl ?_ ?_) | (refine CallS.h ?_; (conv => whnf); refine CallM.mk rfl ?_ ?_) | (refine CallS.b ?_; (conv => whnf); refine CallM.mk rfl ?_ ?_) | (refine CallS.z ?_; (conv => whnf); refine CallM.mk rfl ?_ ?_))
  all_goals (try (conv => whnf))
  all_goals (simp_all [isSp]; done)

theorem take_snoc {α : Type} (l : List α) (i : Nat) (d : α) (h : i < l.length) : l.take (i + 1) = l.take i ++ [l.getD i d] := by
  rw [List.take_succ_eq_append_getElem h]; simp [List.getD, List.getElem?_eq_getElem h]

theorem take_has (l : List (List UInt8)) (i : Nat) (w : List UInt8) (h : i < l.length) : (l.take (i+1)).contains w = ((l.take i).contains w || (l.getD i [] == w)) := by
  rw [take_snoc l i [] h]
  simp only [List.contains_eq_any_beq, List.any_append, List.any_cons, List.any_nil, Bool.or_false]
  congr 1
  exact Bool.beq_comm

end Go.Vc.W

namespace Go.Vc
open Go.Proofs
set_option linter.unusedVariables false
set_option maxRecDepth 10000
set_option linter.unusedSimpArgs false
set_option maxHeartbeats 2000000
def upB (c : UInt8) : Bool := decide (65 ≤ c.toNat) && decide (c.toNat ≤ 90)
def lowB (c : UInt8) : UInt8 := if upB c then c + 32 else c
def lowL (s : List UInt8) : List UInt8 := s.map lowB
def lowAt (s : List UInt8) (i : Nat) : List UInt8 := (s.take i).map lowB ++ s.drop i
theorem lowAt_len (s : List UInt8) (i : Nat) (h : i ≤ s.length) : (lowAt s i).length = s.length := by simp [lowAt]; omega
theorem lowAt_get (s : List UInt8) (i : Nat) (h : i < s.length) : (lowAt s i).getD i 0 = s.getD i 0 := by
  unfold lowAt
  have hl : ((s.take i).map lowB).length = i := by simp; omega
  simp only [List.getD]
  rw [List.getElem?_append_right (by omega), hl]
  simp
theorem lowAt_set (s : List UInt8) (i : Nat) (h : i < s.length) : (lowAt s i).set i (lowB (s.getD i 0)) = lowAt s (i + 1) := by
  unfold lowAt
  have hl : ((s.take i).map lowB).length = i := by simp; omega
  rw [List.set_append_right _ _ (by omega), hl, Nat.sub_self, List.drop_eq_getElem_cons h, List.set_cons_zero, List.take_succ_eq_append_getElem h, List.map_append]
  simp [List.getD, List.getElem?_eq_getElem h]
theorem lowAt_same (s : List UInt8) (i : Nat) (h : i < s.length) (hu : upB (s.getD i 0) = false) : lowAt s (i + 1) = lowAt s i := by
  rw [← lowAt_set s i h]
  have : lowB (s.getD i 0) = s.getD i 0 := by unfold lowB; rw [hu]; rfl
  rw [this]
  have h2 := lowAt_get s i h
  have hl := lowAt_len s i (by omega)
  apply List.ext_getElem? 
  intro j
  rw [List.getElem?_set]
  split
  · rename_i e
    subst e
    rw [if_pos (by omega), ← h2]
    simp [List.getD, List.getElem?_eq_getElem (show i < (lowAt s i).length by omega)]
  · rfl
theorem lowAt_end (s : List UInt8) : lowAt s s.length = lowL s := by simp [lowAt, lowL]
theorem low_or (c : UInt8) (h : upB c = true) : UInt8.ofNat (bitsI .or .u8 (c.toNat : Int) 32).toNat = lowB c := by
  have key : ∀ k : _root_.Fin 256, upB (UInt8.ofNat k.val) = true → UInt8.ofNat (bitsI .or .u8 (k.val : Int) 32).toNat = lowB (UInt8.ofNat k.val) := by decide +kernel
  have := key ⟨c.toNat, c.toNat_lt⟩
  simp only [UInt8.ofNat_toNat] at this
  exact this h
theorem low_orb (c : UInt8) : 0 ≤ bitsI .or .u8 (c.toNat : Int) 32 ∧ bitsI .or .u8 (c.toNat : Int) 32 ≤ 255 := by
  have key : ∀ k : _root_.Fin 256, 0 ≤ bitsI .or .u8 (k.val : Int) 32 ∧ bitsI .or .u8 (k.val : Int) 32 ≤ 255 := by decide +kernel
  exact key ⟨c.toNat, c.toNat_lt⟩
theorem low_add (c : UInt8) (h : upB c = true) : UInt8.ofNat (IntKind.u8.wrap ((c.toNat : Int) + 32)).toNat = lowB c := by
  have key : ∀ k : _root_.Fin 256, upB (UInt8.ofNat k.val) = true → UInt8.ofNat (IntKind.u8.wrap ((k.val : Int) + 32)).toNat = lowB (UInt8.ofNat k.val) := by decide +kernel
  have := key ⟨c.toNat, c.toNat_lt⟩
  simp only [UInt8.ofNat_toNat] at this
  exact this h
theorem low_addb (c : UInt8) : 0 ≤ IntKind.u8.wrap ((c.toNat : Int) + 32) ∧ IntKind.u8.wrap ((c.toNat : Int) + 32) ≤ 255 := by
  have key : ∀ k : _root_.Fin 256, 0 ≤ IntKind.u8.wrap ((k.val : Int) + 32) ∧ IntKind.u8.wrap ((k.val : Int) + 32) ≤ 255 := by decide +kernel
  exact key ⟨c.toNat, c.toNat_lt⟩
theorem up_eq (c : UInt8) : (decide ((65 : Int) ≤ (c.toNat : Int)) && decide ((c.toNat : Int) ≤ 90)) = upB c := by
  unfold upB
  congr 1 <;> (rw [Bool.eq_iff_iff]; simp; try omega)
instance lLower (s : List UInt8) : Fn BB 18 [.str s] True (.str (lowL s)) := by
  refine Fn.intro (N := 29) [0, 2, 3, 4, 5, 8, 9, 10, 11, 20] [] Try.call18 Try.func18 rfl rfl (by kernel_rfl) (fun hpre => ?_)
  repeat' ((conv => whnf); first | (with_reducible rfl) | exact True.intro | (with_reducible exact absTF) | (with_reducible exact absFT) | intro _ | refine And.intro ?_ ?_ | refine Fin.mk ?_ | refine CallG.plain rfl ?_ ?_ | refine CallG.mk rfl ?_ ?_ | refine CallG.nwl rfl ?_ ?_ | refine CallG.nw ?_ ?_ | refine CallF.nwl rfl ?_ ?_ | refine CallF.nw ?_ ?_ | refine AppN.mk ?_ | (refine CallS.q ?_; (conv => whnf); first | refine CallG.plain rfl ?_ ?_ | refine CallG.mk rfl ?_ ?_) | (refine CallS.m ?_; (conv => whnf); refine CallM.mk rfl ?_ ?_) | (refine CallS.h ?_; (conv => whnf); refine CallM.mk rfl ?_ ?_) | (refine CallS.b ?_; (conv => whnf); refine CallM.mk rfl ?_ ?_) | (refine CallS.z ?_; (conv => whnf); refine CallM.mk rfl ?_ ?_))
  all_goals (try (conv => whnf))
  all_goals (try (exact Ob.mk (u8_bnd _)))
  all_goals (try (refine Ob.mk ?_; first | exact True.intro | assumption | omega | (try simp only [decide_eq_true_eq, decide_eq_false_iff_not, beq_iff_eq, beq_eq_false_iff_ne, bne_iff_ne, bne_eq_false_iff_eq, ne_eq, Bool.and_eq_true, Bool.or_eq_true, Bool.not_eq_true, Bool.not_eq_false, Bool.not_eq_true', Bool.not_eq_false', Int.toNat_natCast, Int.not_lt, Int.not_le, UInt8.ofNat_toNat, cast_eq] at *; omega)))
  all_goals (try ((show (_:Int) = _); omega))
  all_goals (try (show tupSV _ = _; with_unfolding_all rfl))
  all_goals (try ((show (_ : Nat) ≤ _); (simp <;> omega)))
  all_goals (try ((show (_ : Nat) ≤ _ ∧ (_ : Nat) ≤ _); (simp <;> omega)))
  all_goals (try ((show (_ : Int) ≤ _ ∧ (_ : Int) ≤ _ ∧ (_ : Int) ≤ _ ∧ (_ : Int) ≤ _); (simp <;> omega)))
  refine LoopStop.mk (α := Nat) (fun i => [(10, .int .i64 i)]) (fun i => [(0, .own .byte (lowAt s i))]) 20 (fun i => i ≤ s.length) (fun i => s.length + 1 - i) 0 (by simp) ?_ (fun i hi => ?_)
  · repeat' ((conv => whnf); first | (with_reducible rfl) | exact True.intro | (with_reducible exact absTF) | (with_reducible exact absFT) | intro _ | refine And.intro ?_ ?_ | refine Fin.mk ?_ | refine CallG.plain rfl ?_ ?_ | refine CallG.mk rfl ?_ ?_ | refine CallG.nwl rfl ?_ ?_ | refine CallG.nw ?_ ?_ | refine CallF.nwl rfl ?_ ?_ | refine CallF.nw ?_ ?_ | refine AppN.mk ?_ | (refine CallS.q ?_; (conv => whnf); first | refine CallG.plain rfl ?_ ?_ | refine CallG.mk rfl ?_ ?_) | (refine CallS.m ?_; (conv => whnf); refine CallM.mk rfl ?_ ?_) | (refine CallS.h ?_; (conv => whnf); refine CallM.mk rfl ?_ ?_) | (refine CallS.b ?_; (conv => whnf); refine CallM.mk rfl ?_ ?_) | (refine CallS.z ?_; (conv => whnf); refine CallM.mk rfl ?_ ?_))
    all_goals (try (conv => whnf))
    all_goals (try (exact Ob.mk (u8_bnd _)))
    all_goals (try (refine Ob.mk ?_; first | exact True.intro | assumption | omega | (try simp only [decide_eq_true_eq, decide_eq_false_iff_not, beq_iff_eq, beq_eq_false_iff_ne, bne_iff_ne, bne_eq_false_iff_eq, ne_eq, Bool.and_eq_true, Bool.or_eq_true, Bool.not_eq_true, Bool.not_eq_false, Bool.not_eq_true', Bool.not_eq_false', Int.toNat_natCast, Int.not_lt, Int.not_le, UInt8.ofNat_toNat, cast_eq] at *; omega)))
    all_goals (try ((show (_:Int) = _); omega))
    all_goals (try (show tupSV _ = _; with_unfolding_all rfl))
    all_goals (try ((show (_ : Nat) ≤ _); (simp <;> omega)))
    all_goals (try ((show (_ : Nat) ≤ _ ∧ (_ : Nat) ≤ _); (simp <;> omega)))
    all_goals (try ((show (_ : Int) ≤ _ ∧ (_ : Int) ≤ _ ∧ (_ : Int) ≤ _ ∧ (_ : Int) ≤ _); (simp <;> omega)))
    all_goals rfl
  · have hg := fun h => lowAt_get s i h
    have hst := fun h => lowAt_set s i h
    have hln := lowAt_len s i hi
    repeat' ((conv => whnf); first | (with_reducible rfl) | exact True.intro | (with_reducible exact absTF) | (with_reducible exact absFT) | intro _ | refine And.intro ?_ ?_ | refine Fin.mk ?_ | refine CallG.plain rfl ?_ ?_ | refine CallG.mk rfl ?_ ?_ | refine CallG.nwl rfl ?_ ?_ | refine CallG.nw ?_ ?_ | refine CallF.nwl rfl ?_ ?_ | refine CallF.nw ?_ ?_ | refine AppN.mk ?_ | (refine CallS.q ?_; (conv => whnf); first | refine CallG.plain rfl ?_ ?_ | refine CallG.mk rfl ?_ ?_) | (refine CallS.m ?_; (conv => whnf); refine CallM.mk rfl ?_ ?_) | (refine CallS.h ?_; (conv => whnf); refine CallM.mk rfl ?_ ?_) | (refine CallS.b ?_; (conv => whnf); refine CallM.mk rfl ?_ ?_) | (refine CallS.z ?_; (conv => whnf); refine CallM.mk rfl ?_ ?_))
    all_goals (try (conv => whnf))
    all_goals (try (exact Ob.mk (u8_bnd _)))
    all_goals (try (refine Ob.mk ?_; first | exact True.intro | assumption | omega | (try simp only [decide_eq_true_eq, decide_eq_false_iff_not, beq_iff_eq, beq_eq_false_iff_ne, bne_iff_ne, bne_eq_false_iff_eq, ne_eq, Bool.and_eq_true, Bool.or_eq_true, Bool.not_eq_true, Bool.not_eq_false, Bool.not_eq_true', Bool.not_eq_false', Int.toNat_natCast, Int.not_lt, Int.not_le, UInt8.ofNat_toNat, cast_eq] at *; omega)))
    all_goals (try ((show (_:Int) = _); omega))
    all_goals (try (show tupSV _ = _; with_unfolding_all rfl))
    all_goals (try ((show (_ : Nat) ≤ _); (simp <;> omega)))
    all_goals (try ((show (_ : Nat) ≤ _ ∧ (_ : Nat) ≤ _); (simp <;> omega)))
    all_goals (try ((show (_ : Int) ≤ _ ∧ (_ : Int) ≤ _ ∧ (_ : Int) ≤ _ ∧ (_ : Int) ≤ _); (simp <;> omega)))
    all_goals (try simp only [Int.toNat_natCast, Ty.dflt] at *)
    all_goals (first | exact low_orb _ | skip)
    · rename_i hl h
      have hl := of_decide_eq_true hl
      have h : upB ((lowAt s i).getD i 0) = true := (up_eq _).symm.trans h
      refine Rnd.mk ⟨i + 1, by omega, by omega, ?_⟩
      repeat' ((conv => whnf); first | (with_reducible rfl) | exact True.intro | (with_reducible exact absTF) | (with_reducible exact absFT) | intro _ | refine And.intro ?_ ?_ | refine Fin.mk ?_ | refine CallG.plain rfl ?_ ?_ | refine CallG.mk rfl ?_ ?_ | refine CallG.nwl rfl ?_ ?_ | refine CallG.nw ?_ ?_ | refine CallF.nwl rfl ?_ ?_ | refine CallF.nw ?_ ?_ | refine AppN.mk ?_ | (refine CallS.q ?_; (conv => whnf); first | refine CallG.plain rfl ?_ ?_ | refine CallG.mk rfl ?_ ?_) | (refine CallS.m ?_; (conv => whnf); refine CallM.mk rfl ?_ ?_) | (refine CallS.h ?_; (conv => whnf); refine CallM.mk rfl ?_ ?_) | (refine CallS.b ?_; (conv => whnf); refine CallM.mk rfl ?_ ?_) | (refine CallS.z ?_; (conv => whnf); refine CallM.mk rfl ?_ ?_))
      all_goals (try (conv => whnf))
      all_goals (try (exact Ob.mk (u8_bnd _)))
      all_goals (try (refine Ob.mk ?_; first | exact True.intro | assumption | omega | (try simp only [decide_eq_true_eq, decide_eq_false_iff_not, beq_iff_eq, beq_eq_false_iff_ne, bne_iff_ne, bne_eq_false_iff_eq, ne_eq, Bool.and_eq_true, Bool.or_eq_true, Bool.not_eq_true, Bool.not_eq_false, Bool.not_eq_true', Bool.not_eq_false', Int.toNat_natCast, Int.not_lt, Int.not_le, UInt8.ofNat_toNat, cast_eq] at *; omega)))
      all_goals (try ((show (_:Int) = _); omega))
      all_goals (try (show tupSV _ = _; with_unfolding_all rfl))
      all_goals (try ((show (_ : Nat) ≤ _); (simp <;> omega)))
      all_goals (try ((show (_ : Nat) ≤ _ ∧ (_ : Nat) ≤ _); (simp <;> omega)))
      all_goals (try ((show (_ : Int) ≤ _ ∧ (_ : Int) ≤ _ ∧ (_ : Int) ≤ _ ∧ (_ : Int) ≤ _); (simp <;> omega)))
      all_goals (rw [low_or _ h, hg (by omega), hst (by omega)])
    · rename_i hl h
      have hl := of_decide_eq_true hl
      have h : upB ((lowAt s i).getD i 0) = false := (up_eq _).symm.trans h
      rw [hg (by omega)] at h
      refine Rnd.mk ⟨i + 1, by omega, by omega, ?_⟩
      repeat' ((conv => whnf); first | (with_reducible rfl) | exact True.intro | (with_reducible exact absTF) | (with_reducible exact absFT) | intro _ | refine And.intro ?_ ?_ | refine Fin.mk ?_ | refine CallG.plain rfl ?_ ?_ | refine CallG.mk rfl ?_ ?_ | refine CallG.nwl rfl ?_ ?_ | refine CallG.nw ?_ ?_ | refine CallF.nwl rfl ?_ ?_ | refine CallF.nw ?_ ?_ | refine AppN.mk ?_ | (refine CallS.q ?_; (conv => whnf); first | refine CallG.plain rfl ?_ ?_ | refine CallG.mk rfl ?_ ?_) | (refine CallS.m ?_; (conv => whnf); refine CallM.mk rfl ?_ ?_) | (refine CallS.h ?_; (conv => whnf); refine CallM.mk rfl ?_ ?_) | (refine CallS.b ?_; (conv => whnf); refine CallM.mk rfl ?_ ?_) | (refine CallS.z ?_; (conv => whnf); refine CallM.mk rfl ?_ ?_))
      all_goals (try (conv => whnf))
      all_goals (try (exact Ob.mk (u8_bnd _)))
      all_goals (try (refine Ob.mk ?_; first | exact True.intro | assumption | omega | (try simp only [decide_eq_true_eq, decide_eq_false_iff_not, beq_iff_eq, beq_eq_false_iff_ne, bne_iff_ne, bne_eq_false_iff_eq, ne_eq, Bool.and_eq_true, Bool.or_eq_true, Bool.not_eq_true, Bool.not_eq_false, Bool.not_eq_true', Bool.not_eq_false', Int.toNat_natCast, Int.not_lt, Int.not_le, UInt8.ofNat_toNat, cast_eq] at *; omega)))
      all_goals (try ((show (_:Int) = _); omega))
      all_goals (try (show tupSV _ = _; with_unfolding_all rfl))
      all_goals (try ((show (_ : Nat) ≤ _); (simp <;> omega)))
      all_goals (try ((show (_ : Nat) ≤ _ ∧ (_ : Nat) ≤ _); (simp <;> omega)))
      all_goals (try ((show (_ : Int) ≤ _ ∧ (_ : Int) ≤ _ ∧ (_ : Int) ≤ _ ∧ (_ : Int) ≤ _); (simp <;> omega)))
      all_goals (rw [lowAt_same s i (by omega) h])
    · rename_i hl
      have hl := of_decide_eq_false hl
      have : i = s.length := by omega
      rw [this, lowAt_end]
instance lRLower (s : List UInt8) : Fn BB 22 [.str s] True (.str (lowL s)) := by
  refine Fn.intro (N := 33) [0, 2, 3, 4, 10, 24] [] Try.call22 Try.func22 rfl rfl (by kernel_rfl) (fun hpre => ?_)
  repeat' ((conv => whnf); first | (with_reducible rfl) | exact True.intro | (with_reducible exact absTF) | (with_reducible exact absFT) | intro _ | refine And.intro ?_ ?_ | refine Fin.mk ?_ | refine CallG.plain rfl ?_ ?_ | refine CallG.mk rfl ?_ ?_ | refine CallG.nwl rfl ?_ ?_ | refine CallG.nw ?_ ?_ | refine CallF.nwl rfl ?_ ?_ | refine CallF.nw ?_ ?_ | refine AppN.mk ?_ | (refine CallS.q ?_; (conv => whnf); first | refine CallG.plain rfl ?_ ?_ | refine CallG.mk rfl ?_ ?_) | (refine CallS.m ?_; (conv => whnf); refine CallM.mk rfl ?_ ?_) | (refine CallS.h ?_; (conv => whnf); refine CallM.mk rfl ?_ ?_) | (refine CallS.b ?_; (conv => whnf); refine CallM.mk rfl ?_ ?_) | (refine CallS.z ?_; (conv => whnf); refine CallM.mk rfl ?_ ?_))
  all_goals (try (conv => whnf))
  all_goals (try (exact Ob.mk (u8_bnd _)))
  all_goals (try (refine Ob.mk ?_; first | exact True.intro | assumption | omega | (try simp only [decide_eq_true_eq, decide_eq_false_iff_not, beq_iff_eq, beq_eq_false_iff_ne, bne_iff_ne, bne_eq_false_iff_eq, ne_eq, Bool.and_eq_true, Bool.or_eq_true, Bool.not_eq_true, Bool.not_eq_false, Bool.not_eq_true', Bool.not_eq_false', Int.toNat_natCast, Int.not_lt, Int.not_le, UInt8.ofNat_toNat, cast_eq] at *; omega)))
  all_goals (try ((show (_:Int) = _); omega))
  all_goals (try (show tupSV _ = _; with_unfolding_all rfl))
  all_goals (try ((show (_ : Nat) ≤ _); (simp <;> omega)))
  all_goals (try ((show (_ : Nat) ≤ _ ∧ (_ : Nat) ≤ _); (simp <;> omega)))
  all_goals (try ((show (_ : Int) ≤ _ ∧ (_ : Int) ≤ _ ∧ (_ : Int) ≤ _ ∧ (_ : Int) ≤ _); (simp <;> omega)))
  refine LoopStop.mk (α := Nat) (fun i => [(4, .int .i64 i)]) (fun i => [(0, .own .byte (lowAt s i))]) 20 (fun i => i ≤ s.length) (fun i => s.length + 1 - i) 0 (by simp) ?_ (fun i hi => ?_)
  · repeat' ((conv => whnf); first | (with_reducible rfl) | exact True.intro | (with_reducible exact absTF) | (with_reducible exact absFT) | intro _ | refine And.intro ?_ ?_ | refine Fin.mk ?_ | refine CallG.plain rfl ?_ ?_ | refine CallG.mk rfl ?_ ?_ | refine CallG.nwl rfl ?_ ?_ | refine CallG.nw ?_ ?_ | refine CallF.nwl rfl ?_ ?_ | refine CallF.nw ?_ ?_ | refine AppN.mk ?_ | (refine CallS.q ?_; (conv => whnf); first | refine CallG.plain rfl ?_ ?_ | refine CallG.mk rfl ?_ ?_) | (refine CallS.m ?_; (conv => whnf); refine CallM.mk rfl ?_ ?_) | (refine CallS.h ?_; (conv => whnf); refine CallM.mk rfl ?_ ?_) | (refine CallS.b ?_; (conv => whnf); refine CallM.mk rfl ?_ ?_) | (refine CallS.z ?_; (conv => whnf); refine CallM.mk rfl ?_ ?_))
    all_goals (try (conv => whnf))
    all_goals (try (exact Ob.mk (u8_bnd _)))
    all_goals (try (refine Ob.mk ?_; first | exact True.intro | assumption | omega | (try simp only [decide_eq_true_eq, decide_eq_false_iff_not, beq_iff_eq, beq_eq_false_iff_ne, bne_iff_ne, bne_eq_false_iff_eq, ne_eq, Bool.and_eq_true, Bool.or_eq_true, Bool.not_eq_true, Bool.not_eq_false, Bool.not_eq_true', Bool.not_eq_false', Int.toNat_natCast, Int.not_lt, Int.not_le, UInt8.ofNat_toNat, cast_eq] at *; omega)))
    all_goals (try ((show (_:Int) = _); omega))
    all_goals (try (show tupSV _ = _; with_unfolding_all rfl))
    all_goals (try ((show (_ : Nat) ≤ _); (simp <;> omega)))
    all_goals (try ((show (_ : Nat) ≤ _ ∧ (_ : Nat) ≤ _); (simp <;> omega)))
    all_goals (try ((show (_ : Int) ≤ _ ∧ (_ : Int) ≤ _ ∧ (_ : Int) ≤ _ ∧ (_ : Int) ≤ _); (simp <;> omega)))
    all_goals rfl
  · have hg := fun h => lowAt_get s i h
    have hst := fun h => lowAt_set s i h
    have hln := lowAt_len s i hi
    have ue : (decide ((((lowAt s i).getD i 0).toNat : Int) ≥ 65) && decide ((((lowAt s i).getD i 0).toNat : Int) ≤ 90)) = upB ((lowAt s i).getD i 0) := up_eq _
    repeat' ((conv => whnf); first | (with_reducible rfl) | exact True.intro | (with_reducible exact absTF) | (with_reducible exact absFT) | intro _ | refine And.intro ?_ ?_ | refine Fin.mk ?_ | refine CallG.plain rfl ?_ ?_ | refine CallG.mk rfl ?_ ?_ | refine CallG.nwl rfl ?_ ?_ | refine CallG.nw ?_ ?_ | refine CallF.nwl rfl ?_ ?_ | refine CallF.nw ?_ ?_ | refine AppN.mk ?_ | (refine CallS.q ?_; (conv => whnf); first | refine CallG.plain rfl ?_ ?_ | refine CallG.mk rfl ?_ ?_) | (refine CallS.m ?_; (conv => whnf); refine CallM.mk rfl ?_ ?_) | (refine CallS.h ?_; (conv => whnf); refine CallM.mk rfl ?_ ?_) | (refine CallS.b ?_; (conv => whnf); refine CallM.mk rfl ?_ ?_) | (refine CallS.z ?_; (conv => whnf); refine CallM.mk rfl ?_ ?_))
    all_goals (try (conv => whnf))
    all_goals (try (exact Ob.mk (u8_bnd _)))
    all_goals (try (refine Ob.mk ?_; first | exact True.intro | assumption | omega | (try simp only [decide_eq_true_eq, decide_eq_false_iff_not, beq_iff_eq, beq_eq_false_iff_ne, bne_iff_ne, bne_eq_false_iff_eq, ne_eq, Bool.and_eq_true, Bool.or_eq_true, Bool.not_eq_true, Bool.not_eq_false, Bool.not_eq_true', Bool.not_eq_false', Int.toNat_natCast, Int.not_lt, Int.not_le, UInt8.ofNat_toNat, cast_eq] at *; omega)))
    all_goals (try ((show (_:Int) = _); omega))
    all_goals (try (show tupSV _ = _; with_unfolding_all rfl))
    all_goals (try ((show (_ : Nat) ≤ _); (simp <;> omega)))
    all_goals (try ((show (_ : Nat) ≤ _ ∧ (_ : Nat) ≤ _); (simp <;> omega)))
    all_goals (try ((show (_ : Int) ≤ _ ∧ (_ : Int) ≤ _ ∧ (_ : Int) ≤ _ ∧ (_ : Int) ≤ _); (simp <;> omega)))
    all_goals (try simp only [Int.toNat_natCast, Ty.dflt] at *)
    all_goals (first | exact low_addb _ | skip)
    · rename_i hl h
      have hl := of_decide_eq_true hl
      have h : upB ((lowAt s i).getD i 0) = true := ue.symm.trans h
      refine Rnd.mk ⟨i + 1, by omega, by omega, ?_⟩
      repeat' ((conv => whnf); first | (with_reducible rfl) | exact True.intro | (with_reducible exact absTF) | (with_reducible exact absFT) | intro _ | refine And.intro ?_ ?_ | refine Fin.mk ?_ | refine CallG.plain rfl ?_ ?_ | refine CallG.mk rfl ?_ ?_ | refine CallG.nwl rfl ?_ ?_ | refine CallG.nw ?_ ?_ | refine CallF.nwl rfl ?_ ?_ | refine CallF.nw ?_ ?_ | refine AppN.mk ?_ | (refine CallS.q ?_; (conv => whnf); first | refine CallG.plain rfl ?_ ?_ | refine CallG.mk rfl ?_ ?_) | (refine CallS.m ?_; (conv => whnf); refine CallM.mk rfl ?_ ?_) | (refine CallS.h ?_; (conv => whnf); refine CallM.mk rfl ?_ ?_) | (refine CallS.b ?_; (conv => whnf); refine CallM.mk rfl ?_ ?_) | (refine CallS.z ?_; (conv => whnf); refine CallM.mk rfl ?_ ?_))
      all_goals (try (conv => whnf))
      all_goals (try (exact Ob.mk (u8_bnd _)))
      all_goals (try (refine Ob.mk ?_; first | exact True.intro | assumption | omega | (try simp only [decide_eq_true_eq, decide_eq_false_iff_not, beq_iff_eq, beq_eq_false_iff_ne, bne_iff_ne, bne_eq_false_iff_eq, ne_eq, Bool.and_eq_true, Bool.or_eq_true, Bool.not_eq_true, Bool.not_eq_false, Bool.not_eq_true', Bool.not_eq_false', Int.toNat_natCast, Int.not_lt, Int.not_le, UInt8.ofNat_toNat, cast_eq] at *; omega)))
      all_goals (try ((show (_:Int) = _); omega))
      all_goals (try (show tupSV _ = _; with_unfolding_all rfl))
      all_goals (try ((show (_ : Nat) ≤ _); (simp <;> omega)))
      all_goals (try ((show (_ : Nat) ≤ _ ∧ (_ : Nat) ≤ _); (simp <;> omega)))
      all_goals (try ((show (_ : Int) ≤ _ ∧ (_ : Int) ≤ _ ∧ (_ : Int) ≤ _ ∧ (_ : Int) ≤ _); (simp <;> omega)))
      all_goals (rw [low_add _ h, hg (by omega), hst (by omega)])
    · rename_i hl h
      have hl := of_decide_eq_true hl
      have h : upB ((lowAt s i).getD i 0) = false := ue.symm.trans h
      rw [hg (by omega)] at h
      refine Rnd.mk ⟨i + 1, by omega, by omega, ?_⟩
      repeat' ((conv => whnf); first | (with_reducible rfl) | exact True.intro | (with_reducible exact absTF) | (with_reducible exact absFT) | intro _ | refine And.intro ?_ ?_ | refine Fin.mk ?_ | refine CallG.plain rfl ?_ ?_ | refine CallG.mk rfl ?_ ?_ | refine CallG.nwl rfl ?_ ?_ | refine CallG.nw ?_ ?_ | refine CallF.nwl rfl ?_ ?_ | refine CallF.nw ?_ ?_ | refine AppN.mk ?_ | (refine CallS.q ?_; (conv => whnf); first | refine CallG.plain rfl ?_ ?_ | refine CallG.mk rfl ?_ ?_) | (refine CallS.m ?_; (conv => whnf); refine CallM.mk rfl ?_ ?_) | (refine CallS.h ?_; (conv => whnf); refine CallM.mk rfl ?_ ?_) | (refine CallS.b ?_; (conv => whnf); refine CallM.mk rfl ?_ ?_) | (refine CallS.z ?_; (conv => whnf); refine CallM.mk rfl ?_ ?_))
      all_goals (try (conv => whnf))
      all_goals (try (exact Ob.mk (u8_bnd _)))
      all_goals (try (refine Ob.mk ?_; first | exact True.intro | assumption | omega | (try simp only [decide_eq_true_eq, decide_eq_false_iff_not, beq_iff_eq, beq_eq_false_iff_ne, bne_iff_ne, bne_eq_false_iff_eq, ne_eq, Bool.and_eq_true, Bool.or_eq_true, Bool.not_eq_true, Bool.not_eq_false, Bool.not_eq_true', Bool.not_eq_false', Int.toNat_natCast, Int.not_lt, Int.not_le, UInt8.ofNat_toNat, cast_eq] at *; omega)))
      all_goals (try ((show (_:Int) = _); omega))
      all_goals (try (show tupSV _ = _; with_unfolding_all rfl))
      all_goals (try ((show (_ : Nat) ≤ _); (simp <;> omega)))
      all_goals (try ((show (_ : Nat) ≤ _ ∧ (_ : Nat) ≤ _); (simp <;> omega)))
      all_goals (try ((show (_ : Int) ≤ _ ∧ (_ : Int) ≤ _ ∧ (_ : Int) ≤ _ ∧ (_ : Int) ≤ _); (simp <;> omega)))
      all_goals (rw [lowAt_same s i (by omega) h])
    · rename_i hl
      have hl := of_decide_eq_false hl
      have : i = s.length := by omega
      rw [this, lowAt_end]
theorem lowL_len (s : List UInt8) : (lowL s).length = s.length := by simp [lowL]
instance aFold (s t : List UInt8) : Fn BB 27 [.str s, .str t] True (.bool (lowL s == lowL t)) := by
  refine Fn.intro (N := 17) [0, 1, 4] [] Try.call27 Try.func27 rfl rfl (by kernel_rfl) (fun hpre => ?_)
  repeat' ((conv => whnf); first | (with_reducible rfl) | exact True.intro | (with_reducible exact absTF) | (with_reducible exact absFT) | intro _ | refine And.intro ?_ ?_ | refine Fin.mk ?_ | refine CallG.plain rfl ?_ ?_ | refine CallG.mk rfl ?_ ?_ | refine CallG.nwl rfl ?_ ?_ | refine CallG.nw ?_ ?_ | refine CallF.nwl rfl ?_ ?_ | refine CallF.nw ?_ ?_ | refine AppN.mk ?_ | (refine CallS.q ?_; (conv => whnf); first | refine CallG.plain rfl ?_ ?_ | refine CallG.mk rfl ?_ ?_) | (refine CallS.m ?_; (conv => whnf); refine CallM.mk rfl ?_ ?_) | (refine CallS.h ?_; (conv => whnf); refine CallM.mk rfl ?_ ?_) | (refine CallS.b ?_; (conv => whnf); refine CallM.mk rfl ?_ ?_) | (refine CallS.z ?_; (conv => whnf); refine CallM.mk rfl ?_ ?_))
  all_goals (try (conv => whnf))
  all_goals (try (exact Ob.mk (u8_bnd _)))
  all_goals (try (refine Ob.mk ?_; first | exact True.intro | assumption | omega | (try simp only [decide_eq_true_eq, decide_eq_false_iff_not, beq_iff_eq, beq_eq_false_iff_ne, bne_iff_ne, bne_eq_false_iff_eq, ne_eq, Bool.and_eq_true, Bool.or_eq_true, Bool.not_eq_true, Bool.not_eq_false, Bool.not_eq_true', Bool.not_eq_false', Int.toNat_natCast, Int.not_lt, Int.not_le, UInt8.ofNat_toNat, cast_eq] at *; omega)))
  all_goals (try ((show (_:Int) = _); omega))
  all_goals (try (show tupSV _ = _; with_unfolding_all rfl))
  all_goals (try ((show (_ : Nat) ≤ _); (simp <;> omega)))
  all_goals (try ((show (_ : Nat) ≤ _ ∧ (_ : Nat) ≤ _); (simp <;> omega)))
  all_goals (try ((show (_ : Int) ≤ _ ∧ (_ : Int) ≤ _ ∧ (_ : Int) ≤ _ ∧ (_ : Int) ≤ _); (simp <;> omega)))
  by_cases q : lowL s = lowL t
  · have h1 := congrArg List.length q
    rw [lowL_len, lowL_len] at h1
    simp [q, h1]
  · simp [q]
instance aRFold (s t : List UInt8) : Fn BB 29 [.str s, .str t] True (.bool (lowL s == lowL t)) := by
  refine Fn.intro (N := 10) [0, 1, 4] [] Try.call29 Try.func29 rfl rfl (by kernel_rfl) (fun hpre => ?_)
  repeat' ((conv => whnf); first | (with_reducible rfl) | exact True.intro | (with_reducible exact absTF) | (with_reducible exact absFT) | intro _ | refine And.intro ?_ ?_ | refine Fin.mk ?_ | refine CallG.plain rfl ?_ ?_ | refine CallG.mk rfl ?_ ?_ | refine CallG.nwl rfl ?_ ?_ | refine CallG.nw ?_ ?_ | refine CallF.nwl rfl ?_ ?_ | refine CallF.nw ?_ ?_ | refine AppN.mk ?_ | (refine CallS.q ?_; (conv => whnf); first | refine CallG.plain rfl ?_ ?_ | refine CallG.mk rfl ?_ ?_) | (refine CallS.m ?_; (conv => whnf); refine CallM.mk rfl ?_ ?_) | (refine CallS.h ?_; (conv => whnf); refine CallM.mk rfl ?_ ?_) | (refine CallS.b ?_; (conv => whnf); refine CallM.mk rfl ?_ ?_) | (refine CallS.z ?_; (conv => whnf); refine CallM.mk rfl ?_ ?_))
  all_goals (try (conv => whnf))
  all_goals (try (exact Ob.mk (u8_bnd _)))
  all_goals (try (refine Ob.mk ?_; first | exact True.intro | assumption | omega | (try simp only [decide_eq_true_eq, decide_eq_false_iff_not, beq_iff_eq, beq_eq_false_iff_ne, bne_iff_ne, bne_eq_false_iff_eq, ne_eq, Bool.and_eq_true, Bool.or_eq_true, Bool.not_eq_true, Bool.not_eq_false, Bool.not_eq_true', Bool.not_eq_false', Int.toNat_natCast, Int.not_lt, Int.not_le, UInt8.ofNat_toNat, cast_eq] at *; omega)))
  all_goals (try ((show (_:Int) = _); omega))
  all_goals (try (show tupSV _ = _; with_unfolding_all rfl))
  all_goals (try ((show (_ : Nat) ≤ _); (simp <;> omega)))
  all_goals (try ((show (_ : Nat) ≤ _ ∧ (_ : Nat) ≤ _); (simp <;> omega)))
  all_goals (try ((show (_ : Int) ≤ _ ∧ (_ : Int) ≤ _ ∧ (_ : Int) ≤ _ ∧ (_ : Int) ≤ _); (simp <;> omega)))
end Go.Vc
