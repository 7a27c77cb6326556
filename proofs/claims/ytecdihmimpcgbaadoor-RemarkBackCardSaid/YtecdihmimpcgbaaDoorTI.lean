/- A part of the proof: lemmas and walks that the last text of the claim joins; no condition. -/
import Derived.Test.YtecdihmimpcgbaaDoorVcH
import Derived.Laws.Externs
import Derived.Shelf.Unicode.DecodeSlow
import Derived.Test.YtecdihmimpcgbaaDoorChecked
import GoSem.Core.Utf8
import Derived.Shelf.Spec.SlicesInsert
import Derived.Shelf.Spec.SlicesInsertGrow
import Derived.Shelf.Strings.Trim
import Derived.Shelf.Small.Utf8
import Derived.Shelf.Small.Strs
import Derived.Shelf.Strings.Search1
import Derived.Shelf.Strings.Search2
import Derived.Shelf.Strings.Search3
import Derived.Shelf.LaysM
import Derived.Shelf.Strings.Shaped
import Derived.Shelf.Strings.Prefix
import Derived.Shelf.Unicode.Decode
import Derived.Shelf.Strings.Runes
import Derived.Shelf.Strings.IndexAny
import Derived.Shelf.Strings.AsciiSet
import Derived.Shelf.Strings.IndexAnyAll
import Derived.Shelf.Unicode.DecodeAny
import Derived.Shelf.Unicode.DecodeLast
import Derived.Test.YtecdihmimpcgbaaDoorProg
import Derived.Shelf.Strings.SlTrimAscii
set_option linter.unusedVariables false
set_option linter.unusedSimpArgs false
namespace Go.Vc
open Go.Proofs
set_option linter.unusedVariables false
theorem mixed : Tryd.prog.follows .mixedOrders = true := by kernel_rfl
abbrev intTy : Ty := .int .i64
abbrev spTy : Ty := .pr intTy intTy
abbrev attrTy : Ty := .pr .str .str
abbrev nodeTy : Ty := .pr intTy (.pr intTy (.pr .str (.pr (.sl attrTy) (.pr .str (.pr intTy (.sl intTy))))))
abbrev opTy : Ty := .pr intTy (.pr intTy (.pr intTy (.pr intTy nodeTy)))
def tyB (t : TypeId) : Option Ty :=
  bif Nat.beq t 3 then some intTy else bif Nat.beq t 4 then some .bool else bif Nat.beq t 5 then some .byte else bif Nat.beq t 9 then some .str else bif Nat.beq t 57 then some attrTy else bif Nat.beq t 61 then some (.sl .str) else none
def eqsB (t : TypeId) : Bool := Nat.beq t 57
theorem eqsB_ok : ∀ t, eqsB t = true → Tryd.prog.stoodInHeld t = false ∧ Tryd.prog.eqGuardType Tryd.prog.depth t = false ∧ ((Tryd.prog.fieldsOf t).toList.all fun f => f.name != "_") = true := by
  intro t h
  obtain rfl := beq_of h
  exact ⟨by kernel_rfl, by kernel_rfl, by kernel_rfl⟩
/-- a cell of the memory that does not change -/
def cellR (r : Mem) (b o : Nat) : Option Value := match r b with | some (.cells c _ _) => c[o]? | _ => none
theorem cellR_le {r r' : Mem} (h : r.le r') {b o v} (hc : cellR r b o = some v) : cellR r' b o = some v := by
  unfold cellR at hc ⊢
  cases hr : r b with
  | none => rw [hr] at hc; cases hc
  | some x => rw [hr] at hc; rw [h b x hr]; exact hc
theorem cellR_at {r : Mem} {w : World} (hv : ∀ b o, r b = some o → w.heap[b]? = some o) {b o v} (hc : cellR r b o = some v) : w.cell? ⟨b, o, none⟩ = some v := by
  unfold cellR at hc
  cases hr : r b with
  | none => rw [hr] at hc; cases hc
  | some x =>
    rw [hr] at hc
    have := hv b x hr
    cases x <;> simp only at hc <;> first | (cases hc; done) | skip
    simp only [World.cell?, this]
    exact hc
/-- the library's two tables, and a number -/
structure GB (r : Mem) : Prop where
  first : ∀ c, c < 256 → cellR r 1 c = some (.int .u8 (Lib.firstT c))
  acc : ∀ i, i < 16 → cellR r 2 (2 * i) = some (.int .u8 (Lib.accLo i)) ∧ cellR r 2 (2 * i + 1) = some (.int .u8 (Lib.accHi i))
  len : ∃ m : Int, cellR r 0 0 = some (.int .i64 m)
theorem GB.le {r r' : Mem} (h : r.le r') (g : GB r) : GB r' :=
  ⟨fun c hc => cellR_le h (g.first c hc), fun i hi => ⟨cellR_le h (g.acc i hi).1, cellR_le h (g.acc i hi).2⟩, g.len.elim fun m hm => ⟨m, cellR_le h hm⟩⟩
theorem GB.tabs {r : Mem} {w : World} (g : GB r) (hv : ∀ b o, r b = some o → w.heap[b]? = some o) : Lib.Utf8Tabs 1 2 w :=
  ⟨fun c hc => cellR_at hv (g.first c hc), fun i hi => ⟨cellR_at hv (g.acc i hi).1, cellR_at hv (g.acc i hi).2⟩⟩
noncomputable abbrev BB : Base := { P := Tryd.prog, mixed := mixed, G := GB, mono := fun r r' h g => g.le h, ty0 := tyB, eqs := eqsB, eqs_ok := eqsB_ok }

set_option maxRecDepth 10000

theorem u8_bnd (x : UInt8) : 0 ≤ (x.toNat : Int) ∧ (x.toNat : Int) ≤ 255 := by have := x.toNat_lt; omega
end Go.Vc

/-! Law 04, in plain Lean: what the references stand for, by the program's road and by the document's. -/
namespace Go.Vc
set_option autoImplicit false

/-- a character's bytes -/
def encN (n : Int) : List UInt8 := (Utf8.encode (if n < 0 ∨ n > 1114111 ∨ (55296 ≤ n ∧ n ≤ 57343) then 65533 else n)).data.toList
theorem encN_len (n : Int) : (encN n).length ≤ 4 := by
  unfold encN
  generalize (if n < 0 ∨ n > 1114111 ∨ (55296 ≤ n ∧ n ≤ 57343) then (65533 : Int) else n) = c
  unfold Utf8.encode
  generalize (if Utf8.valid c then c.toNat else Utf8.runeError) = c
  dsimp only
  split
  · simp
  · split
    · simp
    · split <;> simp
def alI (c : Int) : Bool := (decide (65 ≤ c) && decide (c ≤ 90)) || (decide (97 ≤ c) && decide (c ≤ 122))
def anI (c : Int) : Bool := alI c || (decide (48 ≤ c) && decide (c ≤ 57))
def hexI (c : Int) : Int := if 48 ≤ c ∧ c ≤ 57 then c - 48 else if 97 ≤ c ∧ c ≤ 102 then c - 87 else if 65 ≤ c ∧ c ≤ 70 then c - 55 else -1
def alB (c : UInt8) : Bool := alI c.toNat
def anB (c : UInt8) : Bool := anI c.toNat
def hexV (c : UInt8) : Int := hexI c.toNat

def shortTab : List (List UInt8 × Int) := [
  ([97, 109, 112], 38), ([65, 77, 80], 38), ([108, 116], 60), ([76, 84], 60), ([103, 116], 62), ([71, 84], 62),
  ([113, 117, 111, 116], 34), ([81, 85, 79, 84], 34), ([110, 98, 115, 112], 160), ([99, 111, 112, 121], 169), ([114, 101, 103], 174), ([115, 104, 121], 173),
  ([112, 97, 114, 97], 182), ([115, 101, 99, 116], 167), ([116, 105, 109, 101, 115], 215), ([100, 105, 118, 105, 100, 101], 247), ([109, 105, 99, 114, 111], 181), ([109, 105, 100, 100, 111, 116], 183),
  ([110, 111, 116], 172), ([100, 101, 103], 176), ([121, 101, 110], 165), ([99, 101, 110, 116], 162), ([112, 111, 117, 110, 100], 163), ([108, 97, 113, 117, 111], 171),
  ([114, 97, 113, 117, 111], 187)]
def longTab : List (List UInt8 × Int) := [
  ([97, 112, 111, 115], 39), ([99, 111, 108, 111, 110], 58), ([84, 97, 98], 9), ([78, 101, 119, 76, 105, 110, 101], 10), ([108, 112, 97, 114], 40), ([114, 112, 97, 114], 41),
  ([115, 111, 108], 47), ([110, 117, 109], 35), ([115, 101, 109, 105], 59), ([101, 113, 117, 97, 108, 115], 61), ([101, 120, 99, 108], 33), ([99, 111, 109, 109, 97, 116], 64),
  ([113, 117, 101, 115, 116], 63), ([99, 111, 109, 109, 97], 44), ([112, 101, 114, 105, 111, 100], 46), ([108, 98, 114, 97, 99, 101], 123), ([114, 98, 114, 97, 99, 101], 125), ([108, 115, 113, 98], 91),
  ([114, 115, 113, 98], 93), ([103, 114, 97, 118, 101], 96), ([104, 101, 108, 108, 105, 112], 8230), ([109, 100, 97, 115, 104], 8212), ([110, 100, 97, 115, 104], 8211), ([108, 115, 113, 117, 111], 8216),
  ([114, 115, 113, 117, 111], 8217), ([108, 100, 113, 117, 111], 8220), ([114, 100, 113, 117, 111], 8221), ([98, 117, 108, 108], 8226), ([101, 117, 114, 111], 8364), ([116, 114, 97, 100, 101], 8482),
  ([108, 97, 114, 114], 8592), ([114, 97, 114, 114], 8594), ([122, 119, 106], 8205), ([122, 119, 110, 106], 8204), ([110, 111, 116, 105, 110], 8713), ([110, 101], 8800)]
def winTab : List Int := [8364, 0, 8218, 402, 8222, 8230, 8224, 8225, 710, 8240, 352, 8249, 338, 0, 381, 0, 0, 8216, 8217, 8220, 8221, 8226, 8211, 8212, 732, 8482, 353, 8250, 339, 0, 382, 376]
def fromTab : List Int := [128, 130, 131, 132, 133, 134, 135, 136, 137, 138, 139, 140, 142, 145, 146, 147, 148, 149, 150, 151, 152, 153, 154, 155, 156, 158, 159]
def toTab : List Int := [8364, 8218, 402, 8222, 8230, 8224, 8225, 710, 8240, 352, 8249, 338, 381, 8216, 8217, 8220, 8221, 8226, 8211, 8212, 732, 8482, 353, 8250, 339, 382, 376]

def lookT (t : List (List UInt8 × Int)) (k : List UInt8) : Int := match t.find? (fun e => k == e.1) with | some e => e.2 | none => 0
def endedOf (name : List UInt8) : Bool := decide (name.length > 0) && name.getD (name.length - 1) 0 == 59
def bareOf (name : List UInt8) : List UInt8 := if endedOf name = true then name.take (name.length - 1) else name
def namedN (name : List UInt8) : Int :=
  if lookT shortTab (bareOf name) = 0 ∧ endedOf name = true then lookT longTab (bareOf name) else lookT shortTab (bareOf name)
def named (name : List UInt8) : List UInt8 × Bool := if namedN name = 0 then ([], false) else (encN (namedN name), true)

def refTab : List (List UInt8 × Int) := shortTab ++ longTab.map fun e => (e.1 ++ [59], e.2)
def refHit (name : List UInt8) (e : List UInt8 × Int) : Bool := e.1 == name || (e.1.getD (e.1.length - 1) 0 != 59 && e.1 ++ [59] == name)
def refNamed (name : List UInt8) : List UInt8 × Bool := match refTab.find? (refHit name) with | some e => (encN e.2, true) | none => ([], false)

theorem find_congr {α : Type} {l : List α} {p q : α → Bool} (h : ∀ e ∈ l, p e = q e) : l.find? p = l.find? q := by
  induction l with
  | nil => rfl
  | cons x r ih => simp only [List.find?_cons, h x (by simp), ih (fun e he => h e (by simp [he]))]
theorem ended_iff {name : List UInt8} (h : endedOf name = true) : name = bareOf name ++ [59] := by
  have hb : bareOf name = name.take (name.length - 1) := by unfold bareOf; rw [if_pos h]
  rw [hb]
  simp only [endedOf, Bool.and_eq_true, decide_eq_true_eq, beq_iff_eq] at h
  obtain ⟨h1, h2⟩ := h
  have e : name.length - 1 + 1 = name.length := by omega
  have hlt : name.length - 1 < name.length := by omega
  have h3 : name[name.length - 1] = 59 := by rw [← h2]; simp [List.getD, List.getElem?_eq_getElem hlt]
  have h4 : name.take (name.length - 1 + 1) = name.take (name.length - 1) ++ [name[name.length - 1]] := by rw [List.take_append_getElem hlt]
  rw [h3, e, List.take_length] at h4
  exact h4
theorem ended_snoc (l : List UInt8) : endedOf (l ++ [59]) = true := by simp [endedOf]
theorem bare_snoc (l : List UInt8) : bareOf (l ++ [59]) = l := by unfold bareOf; rw [if_pos (ended_snoc l)]; simp
theorem bare_not {name : List UInt8} (h : endedOf name = false) : bareOf name = name := by unfold bareOf; rw [h]; simp
theorem last_ended {l : List UInt8} (h0 : l ≠ []) : endedOf l = (l.getD (l.length - 1) 0 == 59) := by
  have : l.length > 0 := List.length_pos_iff.mpr h0
  simp [endedOf, this]
theorem hit_short {name e : List UInt8} {k : Int} (h0 : endedOf e = false) (h1 : e ≠ []) : refHit name (e, k) = (e == bareOf name) := by
  have hl : (e.getD (e.length - 1) 0 != 59) = true := by
    have := last_ended h1
    rw [h0] at this
    rw [bne, ← this]; rfl
  simp only [refHit, hl, Bool.true_and]
  cases hn : endedOf name with
  | true =>
    have e1 := ended_iff hn
    have e2 : (e == name) = false := by
      rw [beq_eq_false_iff_ne]
      rintro rfl
      rw [h0] at hn; cases hn
    rw [e2, Bool.false_or, Bool.eq_iff_iff, beq_iff_eq, beq_iff_eq]
    constructor
    · intro h; rw [← h, bare_snoc]
    · intro h; rw [h]; exact e1.symm
  | false =>
    rw [bare_not hn]
    have e2 : (e ++ [59] == name) = false := by
      rw [beq_eq_false_iff_ne]
      rintro rfl
      rw [ended_snoc] at hn; cases hn
    rw [e2, Bool.or_false]
theorem hit_long {name e : List UInt8} {k : Int} : refHit name (e ++ [59], k) = (endedOf name && e == bareOf name) := by
  have hl : ((e ++ [59]).getD ((e ++ [59]).length - 1) 0 != 59) = false := by simp
  simp only [refHit, hl, Bool.false_and, Bool.or_false]
  cases hn : endedOf name with
  | true =>
    rw [Bool.true_and, Bool.eq_iff_iff, beq_iff_eq, beq_iff_eq]
    constructor
    · intro h; rw [← h, bare_snoc]
    · intro h; rw [h]; exact (ended_iff hn).symm
  | false =>
    rw [Bool.false_and, beq_eq_false_iff_ne]
    rintro rfl
    rw [ended_snoc] at hn; cases hn
def goodE (e : List UInt8 × Int) : Bool := !endedOf e.1 && (e.1 != [] && (e.2 != 0 && (e.1.all anB && decide (e.1.length ≤ 7))))
theorem good_short : ∀ e ∈ shortTab, goodE e = true := by decide
theorem good_long : ∀ e ∈ longTab, goodE e = true := by decide
theorem goodE_spec {e : List UInt8 × Int} (h : goodE e = true) : endedOf e.1 = false ∧ e.1 ≠ [] ∧ e.2 ≠ 0 ∧ (∀ c ∈ e.1, anB c = true) ∧ e.1.length ≤ 7 := by
  simp only [goodE, Bool.and_eq_true, Bool.not_eq_true', bne_iff_ne, ne_eq, List.all_eq_true, decide_eq_true_eq] at h
  exact h
theorem look_spec {t : List (List UInt8 × Int)} (ht : ∀ e ∈ t, goodE e = true) (k : List UInt8) :
    (lookT t k = 0 ∧ t.find? (fun e => k == e.1) = none) ∨ ∃ e ∈ t, e.1 = k ∧ t.find? (fun e => k == e.1) = some e ∧ lookT t k = e.2 ∧ e.2 ≠ 0 := by
  unfold lookT
  cases hf : t.find? (fun e => k == e.1) with
  | none => exact .inl ⟨rfl, rfl⟩
  | some e =>
    have hm := List.mem_of_find?_eq_some hf
    have hp := List.find?_some hf
    exact .inr ⟨e, hm, by simpa using (by simpa using hp : k = e.1).symm, rfl, rfl, (goodE_spec (ht e hm)).2.2.1⟩
theorem refNamed_eq (name : List UInt8) : refNamed name = named name := by
  unfold refNamed refTab
  rw [List.find?_append, find_congr (l := shortTab) (q := fun e => bareOf name == e.1) (fun e he => by
    obtain ⟨a, k⟩ := e
    have := goodE_spec (good_short _ he)
    exact (hit_short this.1 this.2.1).trans Bool.beq_comm), List.find?_map]
  have e2 : (refHit name ∘ fun e : List UInt8 × Int => (e.1 ++ [59], e.2)) = fun e => endedOf name && bareOf name == e.1 := by
    funext e
    exact hit_long.trans (by rw [Bool.beq_comm])
  rw [e2]
  unfold named namedN
  rcases look_spec good_short (bareOf name) with ⟨h1, h2⟩ | ⟨e, he, h1, h2, h3, h4⟩
  · rw [h2, h1]
    simp only [Option.none_or, true_and]
    cases hn : endedOf name with
    | true =>
      simp only [Bool.true_and, if_true]
      rcases look_spec good_long (bareOf name) with ⟨g1, g2⟩ | ⟨e, he, g1, g2, g3, g4⟩
      · rw [g1, g2]; rfl
      · rw [g2, g3, if_neg g4]; rfl
    | false =>
      simp only [Bool.false_and]
      have : longTab.find? (fun _ => false) = none := by decide
      rw [this]; rfl
  · rw [h2, h3]
    have : ¬ (e.2 = 0 ∧ endedOf name = true) := fun h => h4 h.1
    rw [if_neg this, if_neg h4]; rfl
/-- what is a name is a few letters and digits, and at most one semicolon behind -/
theorem named_ok {x : List UInt8} (h : (named x).2 = true) : ∃ e : List UInt8, (x = e ∨ x = e ++ [59]) ∧ (∀ c ∈ e, anB c = true) ∧ e.length ≤ 7 ∧ e ≠ [] := by
  have hx : x = bareOf x ∨ x = bareOf x ++ [59] := by
    cases hn : endedOf x with
    | true => exact .inr (ended_iff hn)
    | false => exact .inl (bare_not hn).symm
  refine ⟨bareOf x, hx, ?_⟩
  have hN : namedN x ≠ 0 := by
    intro h0
    unfold named at h
    rw [if_pos h0] at h; cases h
  have key : ∃ e, goodE e = true ∧ e.1 = bareOf x := by
    unfold namedN at hN
    split at hN
    · rcases look_spec good_long (bareOf x) with ⟨g1, _⟩ | ⟨e, he, g1, _⟩
      · exact absurd g1 hN
      · exact ⟨e, good_long e he, g1⟩
    · rcases look_spec good_short (bareOf x) with ⟨g1, _⟩ | ⟨e, he, g1, _⟩
      · exact absurd g1 hN
      · exact ⟨e, good_short e he, g1⟩
  obtain ⟨e, he, rfl'⟩ := key
  have := goodE_spec he
  rw [rfl'] at this
  exact ⟨this.2.2.2.1, this.2.2.2.2, this.2.1⟩

/-! Numbers. -/
def numW (n : Int) : Int := if 128 ≤ n ∧ n < 160 then (if winTab.getD (n - 128).toNat 0 > 0 then winTab.getD (n - 128).toNat 0 else n) else n
def numF (n : Int) : List UInt8 := encN (if numW n = 0 then 65533 else numW n)
def refK (n : Int) : Int := match (fromTab.zip toTab).find? (fun e => e.1 == n) with | some e => e.2 | none => if n = 0 then 65533 else n
theorem refK_eq (n : Int) : refK n = if numW n = 0 then 65533 else numW n := by
  by_cases h : 128 ≤ n ∧ n < 160
  · have key : ∀ k : _root_.Fin 32, refK (128 + (k.val : Int)) = if numW (128 + (k.val : Int)) = 0 then 65533 else numW (128 + (k.val : Int)) := by decide
    have := key ⟨(n - 128).toNat, by omega⟩
    have e : (128 : Int) + ((n - 128).toNat : Int) = n := by omega
    simp only [e] at this
    exact this
  · have e1 : numW n = n := by unfold numW; rw [if_neg h]
    have e2 : (fromTab.zip toTab).find? (fun e => e.1 == n) = none := by
      rw [List.find?_eq_none]
      intro e he
      have : ∀ e ∈ fromTab.zip toTab, 128 ≤ e.1 ∧ e.1 < 160 := by decide
      have := this e he
      simp
      omega
    unfold refK
    rw [e2, e1]
def digsL (base : Int) : List UInt8 → Int → Int → Int × Int
  | [], n, i => (n, i)
  | c :: r, n, i => if hexV c < 0 ∨ base ≤ hexV c then (n, i) else digsL base r (min (n * base + hexV c) 1114112) (i + 1)
theorem digsL_bound (base : Int) : ∀ (l : List UInt8) (n i : Int), i ≤ (digsL base l n i).2 ∧ (digsL base l n i).2 ≤ i + l.length := by
  intro l
  induction l with
  | nil => intro n i; simp [digsL]
  | cons c r ih =>
    intro n i
    unfold digsL
    split
    · simp; omega
    · have := ih (min (n * base + hexV c) 1114112) (i + 1)
      simp only [List.length_cons]; omega
def hexS (s : List UInt8) : Bool := decide (s.length > 2) && (s.getD 2 0 == 120 || s.getD 2 0 == 88)
def numAt (s : List UInt8) : Int × Int := if hexS s = true then digsL 16 (s.drop 3) 0 3 else digsL 10 (s.drop 2) 0 2
def numberF (s : List UInt8) : List UInt8 × Int :=
  if (numAt s).2 = (if hexS s = true then 3 else 2) then ([], 0)
  else (numF (numAt s).1, if (numAt s).2 < s.length ∧ s.getD (numAt s).2.toNat 0 = 59 then (numAt s).2 + 1 else (numAt s).2)

/-! Names in a text. -/
def letN : Nat → List UInt8 → Nat
  | 0, _ => 0
  | _ + 1, [] => 0
  | k + 1, c :: r => if anB c = true then letN k r + 1 else 0
theorem letN_le : ∀ (k : Nat) (l : List UInt8), letN k l ≤ k ∧ letN k l ≤ l.length ∧ ∀ j < letN k l, anB (l.getD j 0) = true := by
  intro k
  induction k with
  | zero => intro l; simp [letN]
  | succ k ih =>
    intro l
    cases l with
    | nil => simp [letN]
    | cons c r =>
      unfold letN
      split
      · obtain ⟨h1, h2, h3⟩ := ih r
        refine ⟨by omega, by simp; omega, fun j hj => ?_⟩
        cases j with
        | zero => simpa
        | succ j => simpa using h3 j (by omega)
      · simp
theorem letN_stop : ∀ (k : Nat) (l : List UInt8), letN k l < k → letN k l < l.length → anB (l.getD (letN k l) 0) = false := by
  intro k
  induction k with
  | zero => intro l h; simp at h
  | succ k ih =>
    intro l h1 h2
    cases l with
    | nil => simp at h2
    | cons c r =>
      unfold letN at h1 h2 ⊢
      split at h1
      · rename_i hc
        rw [if_pos hc] at h2 ⊢
        simpa using ih r (by omega) (by simpa using h2)
      · rename_i hc
        rw [if_neg hc]
        simpa using hc
theorem letN_max {k : Nat} {l : List UInt8} {n : Nat} (hk : n ≤ k) (hl : n ≤ l.length) (h : ∀ j < n, anB (l.getD j 0) = true) : n ≤ letN k l := by
  rcases Nat.lt_or_ge (letN k l) n with hlt | hge
  · have := letN_stop k l (by omega) (by omega)
    rw [h _ hlt] at this; cases this
  · exact hge
theorem letN_pos {k : Nat} {l : List UInt8} (hk : 0 < k) : decide (letN k l > 0) = (decide (0 < l.length) && anB (l.getD 0 0)) := by
  match k, l with
  | k + 1, [] => simp [letN]
  | k + 1, c :: r =>
    unfold letN
    by_cases h : anB c = true
    · rw [if_pos h]; simp [h]
    · rw [if_neg h]; simp [h]
/-- bytes 1 to n -/
def upto (s : List UInt8) (n : Nat) : List UInt8 := (s.take (n + 1)).drop 1
theorem upto_len {s : List UInt8} {n : Nat} (h : n + 1 ≤ s.length) : (upto s n).length = n := by simp [upto]; omega
theorem upto_get {s : List UInt8} {n j : Nat} (h : n + 1 ≤ s.length) (hj : j < n) : (upto s n).getD j 0 = s.getD (j + 1) 0 := by
  have h1 : j < (upto s n).length := by rw [upto_len h]; exact hj
  simp only [List.getD, List.getElem?_eq_getElem h1, List.getElem?_eq_getElem (show j + 1 < s.length by omega), Option.getD_some]
  simp [upto, Nat.add_comm]
def stopV (s : List UInt8) (v : Bool) (n : Nat) : Bool := v && (decide (n + 1 < s.length) && (s.getD (n + 1) 0 == 61 || anB (s.getD (n + 1) 0)))
def rdLoop (s : List UInt8) (v : Bool) : Nat → List UInt8 × Int
  | 0 => ([], 0)
  | n + 1 => if (named (upto s (n + 1))).2 = false then rdLoop s v n else if stopV s v (n + 1) = true then ([], 0) else ((named (upto s (n + 1))).1, n + 2)
def refLoop (s : List UInt8) (v : Bool) : Nat → List UInt8 × Int
  | 0 => ([], 0)
  | n + 1 => if (named (upto s (n + 1))).2 = false then refLoop s v n else if (stopV s v (n + 1) && s.getD (n + 1) 0 != 59) = true then ([], 0) else ((named (upto s (n + 1))).1, n + 2)
def semiOk (s : List UInt8) (n : Nat) : Bool := decide (n + 1 < s.length) && (s.getD (n + 1) 0 == 59 && (named (upto s (n + 1))).2)
def rdP (s : List UInt8) (v : Bool) : List UInt8 × Int :=
  if s.length < 2 ∨ s.getD 0 0 ≠ 38 then ([], 0) else if s.getD 1 0 = 35 then numberF s
  else if semiOk s (letN 8 (s.drop 1)) = true then ((named (upto s (letN 8 (s.drop 1) + 1))).1, (letN 8 (s.drop 1) : Int) + 2) else rdLoop s v (letN 8 (s.drop 1))
def rdR (s : List UInt8) (v : Bool) : List UInt8 × Int :=
  if s = [] ∨ s.getD 0 0 ≠ 38 then ([], 0) else if 1 < s.length ∧ s.getD 1 0 = 35 then numberF s else refLoop s v (min (s.length - 1) 12)

theorem name_at {s : List UInt8} {n : Nat} (hn : n + 1 ≤ s.length) (h : (named (upto s n)).2 = true) :
    n ≤ letN 8 (s.drop 1) ∨ (n = letN 8 (s.drop 1) + 1 ∧ s.getD n 0 = 59) := by
  obtain ⟨e, hx, h1, h2, h3⟩ := named_ok h
  have hlen := upto_len hn
  have hd : ∀ j, (s.drop 1).getD j 0 = s.getD (j + 1) 0 := fun j => by simp [List.getD, Nat.add_comm]
  have hget : ∀ {j : Nat}, j < e.length → anB (e.getD j 0) = true := fun {j} hj => h1 _ (by simp [List.getD, List.getElem?_eq_getElem hj])
  rcases hx with hx | hx
  · left
    have hle : e.length = n := by rw [← hx]; exact hlen
    refine letN_max (by omega) (by simp; omega) fun j hj => ?_
    rw [hd, ← upto_get hn hj, hx]
    exact hget (by omega)
  · have hle : e.length + 1 = n := by rw [← hlen, hx]; simp
    have h59 : s.getD n 0 = 59 := by
      have := upto_get hn (show n - 1 < n by omega)
      rw [hx, show n - 1 + 1 = n by omega] at this
      rw [← this, show n - 1 = e.length by omega]
      simp
    right
    refine ⟨?_, h59⟩
    have hge : e.length ≤ letN 8 (s.drop 1) := letN_max (by omega) (by simp; omega) fun j hj => by
      rw [hd, ← upto_get hn (by omega), hx]
      have : (e ++ [59]).getD j 0 = e.getD j 0 := by simp [List.getD, List.getElem?_append_left hj]
      rw [this]; exact hget hj
    rcases Nat.lt_or_ge e.length (letN 8 (s.drop 1)) with hlt | hge'
    · have := (letN_le 8 (s.drop 1)).2.2 _ hlt
      rw [hd, hle, h59] at this
      exact absurd this (by decide)
    · omega
theorem refLoop_skip {s : List UInt8} {v : Bool} {k : Nat} : ∀ {n : Nat}, k ≤ n → (∀ j, k < j → j ≤ n → (named (upto s j)).2 = false) → refLoop s v n = refLoop s v k := by
  intro n
  induction n with
  | zero => intro h _; have : k = 0 := by omega
            subst this; rfl
  | succ n ih =>
    intro h hj
    by_cases hk : k = n + 1
    · subst hk; rfl
    · have := hj (n + 1) (by omega) (by omega)
      rw [refLoop, if_pos this]
      exact ih (by omega) fun j h1 h2 => hj j h1 (by omega)
theorem refLoop_rd {s : List UInt8} {v : Bool} : ∀ {n : Nat}, (∀ j, 0 < j → j ≤ n → s.getD j 0 ≠ 59) → refLoop s v n = rdLoop s v n := by
  intro n
  induction n with
  | zero => intro _; rfl
  | succ n ih =>
    intro h
    rw [refLoop, rdLoop, ih fun j h1 h2 => h j h1 (by omega)]
    have : (s.getD (n + 1) 0 != 59) = true := by simpa using h (n + 1) (by omega) (by omega)
    rw [this, Bool.and_true]
theorem rd_eq (s : List UInt8) (v : Bool) : rdR s v = rdP s v := by
  unfold rdR rdP
  by_cases h0 : s.getD 0 0 = 38
  · by_cases hl : s.length < 2
    · rw [if_pos (Or.inl hl)]
      by_cases he : s = []
      · rw [if_pos (Or.inl he)]
      · have hlen : s.length = 1 := by have := List.length_pos_iff.mpr he; omega
        rw [if_neg (by rintro (h | h); exact he h; exact h h0), if_neg (by omega)]
        simp [hlen, refLoop]
    · have he : s ≠ [] := by rintro rfl; simp at hl
      have hA : ¬ (s = [] ∨ s.getD 0 0 ≠ 38) := by rintro (h | h); exact he h; exact h h0
      have hB : ¬ (s.length < 2 ∨ s.getD 0 0 ≠ 38) := by rintro (h | h); exact hl h; exact h h0
      rw [if_neg hA, if_neg hB]
      by_cases h1 : s.getD 1 0 = 35
      · have hC : 1 < s.length ∧ s.getD 1 0 = 35 := ⟨by omega, h1⟩
        rw [if_pos hC, if_pos h1]
      · have hC : ¬ (1 < s.length ∧ s.getD 1 0 = 35) := by rintro ⟨_, h⟩; exact h1 h
        rw [if_neg hC, if_neg h1]
        obtain ⟨g1, g2, g3⟩ := letN_le 8 (s.drop 1)
        have hd : ∀ j, (s.drop 1).getD j 0 = s.getD (j + 1) 0 := fun j => by simp [List.getD, Nat.add_comm]
        have g2' : letN 8 (s.drop 1) + 1 ≤ s.length := by rw [List.length_drop] at g2; omega
        have no59 : ∀ j, 0 < j → j ≤ letN 8 (s.drop 1) → s.getD j 0 ≠ 59 := by
          intro j hj1 hj2 h59
          have := g3 (j - 1) (by omega)
          rw [hd, show j - 1 + 1 = j by omega, h59] at this
          exact absurd this (by decide)
        generalize hL : letN 8 (s.drop 1) = L at *
        by_cases hs : semiOk s L = true
        · rw [if_pos hs]
          simp only [semiOk, Bool.and_eq_true, decide_eq_true_eq, beq_iff_eq] at hs
          obtain ⟨s1, s2, s3⟩ := hs
          rw [refLoop_skip (k := L + 1) (by omega) (fun j j1 j2 => ?_)]
          · rw [refLoop, if_neg (by rw [s3]; simp), if_neg (by rw [s2]; simp)]
          · cases hq : (named (upto s j)).2 with
            | false => rfl
            | true =>
              rcases name_at (s := s) (n := j) (by omega) hq with h | ⟨h, _⟩ <;> rw [hL] at h <;> omega
        · rw [if_neg hs]
          rw [refLoop_skip (k := L) (by omega) (fun j j1 j2 => ?_)]
          · exact refLoop_rd no59
          · cases hq : (named (upto s j)).2 with
            | false => rfl
            | true =>
              exfalso
              rcases name_at (s := s) (n := j) (by omega) hq with h | ⟨h, h59⟩
              · rw [hL] at h; omega
              · rw [hL] at h
                subst h
                apply hs
                simp only [semiOk, Bool.and_eq_true, decide_eq_true_eq, beq_iff_eq]
                exact ⟨by omega, h59, hq⟩
  · rw [if_pos (Or.inr h0), if_pos (Or.inr h0)]

theorem rdLoop_bound {s : List UInt8} {v : Bool} : ∀ {n : Nat}, n + 1 ≤ s.length → 0 ≤ (rdLoop s v n).2 ∧ (rdLoop s v n).2 ≤ s.length ∧ (rdLoop s v n).1.length ≤ 4 := by
  intro n
  induction n with
  | zero => intro _; simp [rdLoop]
  | succ n ih =>
    intro h
    rw [rdLoop]
    split
    · exact ih (by omega)
    · split
      · simp
      · refine ⟨by simp; omega, by simp; omega, ?_⟩
        unfold named
        split
        · simp
        · exact encN_len _
theorem rd_bound (s : List UInt8) (v : Bool) : 0 ≤ (rdP s v).2 ∧ (rdP s v).2 ≤ s.length ∧ (rdP s v).1.length ≤ 4 := by
  unfold rdP
  split
  · simp
  · rename_i h
    have h2 : 2 ≤ s.length := by
      rcases Nat.lt_or_ge s.length 2 with h' | h'
      · exact absurd (Or.inl h') h
      · exact h'
    split
    · have hb : (if hexS s = true then (3:Int) else 2) ≤ (numAt s).2 ∧ (numAt s).2 ≤ s.length := by
        unfold numAt
        by_cases hx : hexS s = true
        · rw [if_pos hx, if_pos hx]
          have := digsL_bound 16 (s.drop 3) 0 3
          simp only [hexS, Bool.and_eq_true, decide_eq_true_eq] at hx
          simp only [List.length_drop] at this
          omega
        · rw [if_neg hx, if_neg hx]
          have := digsL_bound 10 (s.drop 2) 0 2
          simp only [List.length_drop] at this
          omega
      have h23 : (2 : Int) ≤ if hexS s = true then (3:Int) else 2 := by split <;> omega
      unfold numberF
      by_cases hq : (numAt s).2 = (if hexS s = true then (3:Int) else 2)
      · rw [if_pos hq]; simp
      · rw [if_neg hq]
        refine ⟨?_, ?_, encN_len _⟩
        · simp only; split <;> omega
        · simp only; split <;> omega
    · obtain ⟨g1, g2, _⟩ := letN_le 8 (s.drop 1)
      simp only [List.length_drop] at g2
      split
      · rename_i hs
        simp only [semiOk, Bool.and_eq_true, decide_eq_true_eq] at hs
        refine ⟨by simp only; omega, by simp only; omega, ?_⟩
        unfold named
        split
        · simp
        · exact encN_len _
      · exact rdLoop_bound (by omega)

/-! A text. -/
def dec (v : Bool) : Nat → List UInt8 → List UInt8
  | 0, _ => []
  | f + 1, s => if s = [] then [] else if (rdP s v).2 = 0 then s.getD 0 0 :: dec v f (s.drop 1) else (rdP s v).1 ++ dec v f (s.drop (rdP s v).2.toNat)
def decF (s : List UInt8) (v : Bool) : List UInt8 := dec v s.length s
theorem dec_fuel (v : Bool) : ∀ (f : Nat) (s : List UInt8), s.length ≤ f → dec v f s = dec v s.length s := by
  intro f
  induction f with
  | zero => intro s h; have : s = [] := List.length_eq_zero_iff.1 (by omega)
            subst this; rfl
  | succ f ih =>
    intro s h
    by_cases he : s = []
    · subst he; simp [dec]
    · have hp : 0 < s.length := List.length_pos_iff.mpr he
      obtain ⟨m, hm⟩ : ∃ m, s.length = m + 1 := ⟨s.length - 1, by omega⟩
      rw [hm, dec, dec, if_neg he, if_neg he]
      obtain ⟨b1, b2, _⟩ := rd_bound s v
      by_cases h0 : (rdP s v).2 = 0
      · rw [if_pos h0, if_pos h0, ih (s.drop 1) (by simp; omega)]
        congr 1
        have e : (s.drop 1).length = m := by simp; omega
        rw [e]
      · rw [if_neg h0, if_neg h0, ih (s.drop (rdP s v).2.toNat) (by simp; omega)]
        congr 1
        have e : (s.drop (rdP s v).2.toNat).length ≤ m := by simp; omega
        -- both have fuel enough
        have aux : ∀ (g : Nat) (t : List UInt8), t.length ≤ g → g ≤ f → dec v g t = dec v t.length t := by
          intro g
          induction g with
          | zero => intro t ht _; have : t = [] := List.length_eq_zero_iff.1 (by omega)
                    subst this; rfl
          | succ g ihg =>
            intro t ht hgf
            by_cases hte : t = []
            · subst hte; simp [dec]
            · have hgf' : g + 1 = f ∨ g + 1 < f := by omega
              rcases hgf' with rfl | hlt
              · exact ih t ht
              · have h1 := ih t (by omega)
                rw [← h1]
                have key : ∀ (a b : Nat) (u : List UInt8), u.length ≤ a → a ≤ b → dec v a u = dec v b u := by
                  intro a
                  induction a with
                  | zero => intro b u hu _; have : u = [] := List.length_eq_zero_iff.1 (by omega)
                            subst this; cases b <;> simp [dec]
                  | succ a iha =>
                    intro b u hu hab
                    obtain ⟨b', rfl⟩ : ∃ b', b = b' + 1 := ⟨b - 1, by omega⟩
                    by_cases hue : u = []
                    · subst hue; simp [dec]
                    · rw [dec, dec, if_neg hue, if_neg hue]
                      obtain ⟨c1, c2, _⟩ := rd_bound u v
                      have hup : 0 < u.length := List.length_pos_iff.mpr hue
                      by_cases hz : (rdP u v).2 = 0
                      · rw [if_pos hz, if_pos hz, iha b' (u.drop 1) (by simp; omega) (by omega)]
                      · rw [if_neg hz, if_neg hz, iha b' (u.drop (rdP u v).2.toNat) (by simp; omega) (by omega)]
                exact key (g + 1) f t ht (by omega)
        exact (aux m _ e (by omega)).symm
theorem decF_nil (v : Bool) : decF [] v = [] := rfl
theorem decF_step {s : List UInt8} (v : Bool) (h : s ≠ []) :
    decF s v = if (rdP s v).2 = 0 then s.getD 0 0 :: decF (s.drop 1) v else (rdP s v).1 ++ decF (s.drop (rdP s v).2.toNat) v := by
  have hp : 0 < s.length := List.length_pos_iff.mpr h
  obtain ⟨m, hm⟩ : ∃ m, s.length = m + 1 := ⟨s.length - 1, by omega⟩
  unfold decF
  rw [hm, dec, if_neg h]
  obtain ⟨b1, b2, _⟩ := rd_bound s v
  by_cases h0 : (rdP s v).2 = 0
  · rw [if_pos h0, if_pos h0, dec_fuel v m (s.drop 1) (by simp; omega)]
  · rw [if_neg h0, if_neg h0, dec_fuel v m (s.drop (rdP s v).2.toNat) (by simp; omega)]
end Go.Vc

namespace Go.Vc
open Go.Proofs
set_option linter.unusedVariables false


set_option maxRecDepth 10000
set_option maxHeartbeats 2000000
set_option linter.unusedSimpArgs false
theorem u8_beq (c k : UInt8) : ((c.toNat : Int) == (k.toNat : Int)) = (c == k) := by
  rw [Bool.eq_iff_iff, beq_iff_eq, beq_iff_eq]
  constructor
  · intro h; exact UInt8.toNat_inj.1 (by omega)
  · rintro rfl; rfl
theorem u8_59 (c : UInt8) : ((c.toNat : Int) == 59) = (c == 59) := u8_beq c 59
theorem u8_38 (c : UInt8) : ((c.toNat : Int) == 38) = (c == 38) := u8_beq c 38
theorem u8_35 (c : UInt8) : ((c.toNat : Int) == 35) = (c == 35) := u8_beq c 35
theorem u8_61 (c : UInt8) : ((c.toNat : Int) == 61) = (c == 61) := u8_beq c 61
theorem u8_120 (c : UInt8) : ((c.toNat : Int) == 120) = (c == 120) := u8_beq c 120
theorem u8_88 (c : UInt8) : ((c.toNat : Int) == 88) = (c == 88) := u8_beq c 88
theorem or32 (c : Int) (h : 0 ≤ c ∧ c ≤ 255) : (decide (97 ≤ bitsI .or .u8 c 32) && decide (bitsI .or .u8 c 32 ≤ 122)) = alI c := by
  have key : ∀ k : _root_.Fin 256, (decide (97 ≤ bitsI .or .u8 (k.val : Int) 32) && decide (bitsI .or .u8 (k.val : Int) 32 ≤ 122)) = alI (k.val : Int) := by decide +kernel
  have := key ⟨c.toNat, by omega⟩
  have e : ((c.toNat : Nat) : Int) = c := by omega
  simp only [e] at this
  exact this
theorem wrap8 (n : Int) (h : 0 ≤ n ∧ n ≤ 255) : IntKind.u8.wrap n = n := wrap_kIn (k := .u8) h
theorem wrap32 (n : Int) (h : -2147483648 ≤ n ∧ n ≤ 2147483647) : IntKind.i32.wrap n = n := wrap_kIn (k := .i32) h
instance fLet (c : Int) : Fn BB 11 [.int .u8 c] (0 ≤ c ∧ c ≤ 255) (.bool (alI c)) := by
  refine Fn.intro (N := 11) [0, 2] [] Tryd.call11 Tryd.func11 rfl rfl (by kernel_rfl) (fun hpre => ?_)
  repeat' ((conv => whnf); first | (with_reducible rfl) | exact True.intro | (with_reducible exact absTF) | (with_reducible exact absFT) | intro _ | refine And.intro ?_ ?_ | refine Fin.mk ?_ | refine CallG.plain rfl ?_ ?_ | refine CallG.mk rfl ?_ ?_ | refine CallG.nwl rfl ?_ ?_ | refine CallG.nw ?_ ?_ | refine CallF.nwl rfl ?_ ?_ | refine CallF.nw ?_ ?_ | refine AppN.mk ?_ | (refine CallS.q ?_; (conv => whnf); first | refine CallG.plain rfl ?_ ?_ | refine CallG.mk rfl ?_ ?_) | (refine CallS.m ?_; (conv => whnf); refine CallM.mk rfl ?_ ?_) | (refine CallS.h ?_; (conv => whnf); refine CallM.mk rfl ?_ ?_) | (refine CallS.b ?_; (conv => whnf); refine CallM.mk rfl ?_ ?_) | (refine CallS.z ?_; (conv => whnf); refine CallM.mk rfl ?_ ?_))
  all_goals (try (conv => whnf))
  rw [or32 c hpre]
instance fRLet (c : Int) : Fn BB 12 [.int .u8 c] True (.bool (alI c)) := by
  refine Fn.intro (N := 17) [0, 2] [] Tryd.call12 Tryd.func12 rfl rfl (by kernel_rfl) (fun hpre => ?_)
  repeat' ((conv => whnf); first | (with_reducible rfl) | exact True.intro | (with_reducible exact absTF) | (with_reducible exact absFT) | intro _ | refine And.intro ?_ ?_ | refine Fin.mk ?_ | refine CallG.plain rfl ?_ ?_ | refine CallG.mk rfl ?_ ?_ | refine CallG.nwl rfl ?_ ?_ | refine CallG.nw ?_ ?_ | refine CallF.nwl rfl ?_ ?_ | refine CallF.nw ?_ ?_ | refine AppN.mk ?_ | (refine CallS.q ?_; (conv => whnf); first | refine CallG.plain rfl ?_ ?_ | refine CallG.mk rfl ?_ ?_) | (refine CallS.m ?_; (conv => whnf); refine CallM.mk rfl ?_ ?_) | (refine CallS.h ?_; (conv => whnf); refine CallM.mk rfl ?_ ?_) | (refine CallS.b ?_; (conv => whnf); refine CallM.mk rfl ?_ ?_) | (refine CallS.z ?_; (conv => whnf); refine CallM.mk rfl ?_ ?_))
  all_goals (try (conv => whnf))
  rfl
instance fRHex (c : Int) : Fn BB 14 [.int .u8 c] (0 ≤ c ∧ c ≤ 255) (.int .i64 (hexI c)) := by
  refine Fn.intro (N := 32) [0, 2, 8, 17, 27] [] Tryd.call14 Tryd.func14 rfl rfl (by kernel_rfl) (fun hpre => ?_)
  repeat' ((conv => whnf); first | (with_reducible rfl) | exact True.intro | (with_reducible exact absTF) | (with_reducible exact absFT) | intro _ | refine And.intro ?_ ?_ | refine Fin.mk ?_ | refine CallG.plain rfl ?_ ?_ | refine CallG.mk rfl ?_ ?_ | refine CallG.nwl rfl ?_ ?_ | refine CallG.nw ?_ ?_ | refine CallF.nwl rfl ?_ ?_ | refine CallF.nw ?_ ?_ | refine AppN.mk ?_ | (refine CallS.q ?_; (conv => whnf); first | refine CallG.plain rfl ?_ ?_ | refine CallG.mk rfl ?_ ?_) | (refine CallS.m ?_; (conv => whnf); refine CallM.mk rfl ?_ ?_) | (refine CallS.h ?_; (conv => whnf); refine CallM.mk rfl ?_ ?_) | (refine CallS.b ?_; (conv => whnf); refine CallM.mk rfl ?_ ?_) | (refine CallS.z ?_; (conv => whnf); refine CallM.mk rfl ?_ ?_))
  all_goals (try (conv => whnf))
  all_goals (try simp only [decide_eq_true_eq, decide_eq_false_iff_not, beq_iff_eq, beq_eq_false_iff_ne, bne_iff_ne, bne_eq_false_iff_eq, ne_eq, Bool.and_eq_true, Bool.or_eq_true, Bool.and_eq_false_iff, Bool.or_eq_false_iff, Bool.not_eq_true, Bool.not_eq_false, Bool.not_eq_true', Bool.not_eq_false', Int.toNat_natCast, Int.not_lt, Int.not_le, ge_iff_le, gt_iff_lt, UInt8.ofNat_toNat, cast_eq] at *)
  all_goals (first | rw [wrap8 _ (by omega)] | skip)
  all_goals (try (exact Ob.mk (u8_bnd _)))
  all_goals (try (refine Ob.mk ?_; first | exact True.intro | assumption | omega | (try simp only [decide_eq_true_eq, decide_eq_false_iff_not, beq_iff_eq, beq_eq_false_iff_ne, bne_iff_ne, bne_eq_false_iff_eq, ne_eq, Bool.and_eq_true, Bool.or_eq_true, Bool.not_eq_true, Bool.not_eq_false, Bool.not_eq_true', Bool.not_eq_false', Int.toNat_natCast, Int.not_lt, Int.not_le, UInt8.ofNat_toNat, cast_eq] at *; omega)))
  all_goals (try ((show (_:Int) = _); omega))
  all_goals (try (show tupSV _ = _; with_unfolding_all rfl))
  all_goals (try ((show (_ : Nat) ≤ _); (simp <;> omega)))
  all_goals (try ((show (_ : Nat) ≤ _ ∧ (_ : Nat) ≤ _); (simp <;> omega)))
  all_goals (try ((show (_ : Int) ≤ _ ∧ (_ : Int) ≤ _ ∧ (_ : Int) ≤ _ ∧ (_ : Int) ≤ _); (simp <;> omega)))
  all_goals (first | (show -9223372036854775808 ≤ _ ∧ _ ≤ (9223372036854775807:Int); omega) | skip)
  all_goals (unfold hexI)
  · rw [if_pos (by omega)]
  · rw [if_neg (by omega), if_pos (by omega)]; omega
  · rw [if_neg (by omega), if_neg (by omega), if_pos (by omega)]; omega
  · rw [if_neg (by omega), if_neg (by omega), if_neg (by omega)]
def okR (n : Int) : Bool := decide ((0 ≤ n ∧ n < 55296) ∨ (57343 < n ∧ n ≤ 1114111))
instance fVR (n : Int) : Fn BB 75 [.int .i32 n] True (.bool (okR n)) := by
  refine Fn.intro (N := 17) [0, 2, 3, 10] [] Tryd.call75 Tryd.func75 rfl rfl (by kernel_rfl) (fun hpre => ?_)
  repeat' ((conv => whnf); first | (with_reducible rfl) | exact True.intro | (with_reducible exact absTF) | (with_reducible exact absFT) | intro _ | refine And.intro ?_ ?_ | refine Fin.mk ?_ | refine CallG.plain rfl ?_ ?_ | refine CallG.mk rfl ?_ ?_ | refine CallG.nwl rfl ?_ ?_ | refine CallG.nw ?_ ?_ | refine CallF.nwl rfl ?_ ?_ | refine CallF.nw ?_ ?_ | refine AppN.mk ?_ | (refine CallS.q ?_; (conv => whnf); first | refine CallG.plain rfl ?_ ?_ | refine CallG.mk rfl ?_ ?_) | (refine CallS.m ?_; (conv => whnf); refine CallM.mk rfl ?_ ?_) | (refine CallS.h ?_; (conv => whnf); refine CallM.mk rfl ?_ ?_) | (refine CallS.b ?_; (conv => whnf); refine CallM.mk rfl ?_ ?_) | (refine CallS.z ?_; (conv => whnf); refine CallM.mk rfl ?_ ?_))
  all_goals (try (conv => whnf))
  all_goals (simp_all [okR]; try omega)
theorem enc_bad : ([239, 191, 189] : List UInt8) = (Utf8.encode 65533).data.toList := by decide
theorem enc_bad2 : (Utf8.encode (IntKind.i32.wrap 65533)).data.toList = (Utf8.encode 65533).data.toList := by decide
end Go.Vc

/-
  DERIVED: THE SHELF's CONTRACTS AT THIS DUMP, IN PLAIN WORDS (tools/lay-plain.mjs out of 'TrydShelf.lean', which tools/lay-shelf.mjs wrote): THE SAME DECLARATIONS UNDER THE SAME NAMES: 'import', 'namespace', 'open', 'def', 'theorem' AND NOTHING ELSE: no command of the shelf's: FOR A HAND-IN. Each laying: the table of numbers ('.._ren') and one theorem, a field a fact of the dump's own or the kernel's comparison; each contract: ONE APPLICATION.
-/
namespace Go.Proofs
open Go.Shelf
def Tryd.lays161_ren : Go.Shelf.Ren := ⟨fun | 161 => 63 | 231 => 42 | 227 => 44 | 233 => 45 | 235 => 47 | 228 => 57 | 197 => 58 | 151 => 59 | 260 => 68 | 152 => 69 | 137 => 29 | 119 => 75 | 224 => 66 | 225 => 65 | 217 => 41 | 266 => 56 | n => n, fun | 9 => 9 | 4 => 4 | 3 => 3 | 5 => 5 | 117 => 48 | 116 => 47 | 0 => 0 | 124 => 51 | 105 => 58 | 21 => 21 | 119 => 69 | 46 => 63 | 139 => 72 | 138 => 71 | n => n, fun | 3 => 1 | 4 => 2 | n => n⟩
theorem Tryd.lays161 : Go.Proofs.Lays.n161 Tryd.prog Tryd.lays161_ren := {
  mixed := by kernel_rfl
  f119 := Tryd.func75.trans (congrArg some (by kernel_rfl))
  f137 := Tryd.func29.trans (congrArg some (by kernel_rfl))
  f151 := Tryd.func59.trans (congrArg some (by kernel_rfl))
  f152 := Tryd.func69.trans (congrArg some (by kernel_rfl))
  f161 := Tryd.func63.trans (congrArg some (by kernel_rfl))
  f197 := Tryd.func58.trans (congrArg some (by kernel_rfl))
  f217 := Tryd.func41.trans (congrArg some (by kernel_rfl))
  f224 := Tryd.func66.trans (congrArg some (by kernel_rfl))
  f225 := Tryd.func65.trans (congrArg some (by kernel_rfl))
  f227 := Tryd.func44.trans (congrArg some (by kernel_rfl))
  f228 := Tryd.func57.trans (congrArg some (by kernel_rfl))
  f231 := Tryd.func42.trans (congrArg some (by kernel_rfl))
  f233 := Tryd.func45.trans (congrArg some (by kernel_rfl))
  f235 := Tryd.func47.trans (congrArg some (by kernel_rfl))
  f260 := Tryd.func68.trans (congrArg some (by kernel_rfl))
  f266 := Tryd.func56.trans (congrArg some (by kernel_rfl))
  t0 := Tryd.underlying0
  a0 := Tryd.isAgg0
  z0 := Tryd.sizeOf0
  v0 := Tryd.zeroValue0
  t3 := Tryd.underlying3
  a3 := Tryd.isAgg3
  z3 := Tryd.sizeOf3
  v3 := Tryd.zeroValue3
  t4 := Tryd.underlying4
  a4 := Tryd.isAgg4
  z4 := Tryd.sizeOf4
  v4 := Tryd.zeroValue4
  t5 := Tryd.underlying5
  a5 := Tryd.isAgg5
  z5 := Tryd.sizeOf5
  v5 := Tryd.zeroValue5
  t9 := Tryd.underlying9
  a9 := Tryd.isAgg9
  z9 := Tryd.sizeOf9
  v9 := Tryd.zeroValue9
  t21 := Tryd.underlying21
  a21 := Tryd.isAgg21
  z21 := Tryd.sizeOf21
  v21 := Tryd.zeroValue21
  t46 := Tryd.underlying63
  a46 := Tryd.isAgg63
  z46 := Tryd.sizeOf63
  v46 := Tryd.zeroValue63
  t105 := Tryd.underlying58
  a105 := Tryd.isAgg58
  z105 := Tryd.sizeOf58
  v105 := Tryd.zeroValue58
  t116 := Tryd.underlying47
  a116 := Tryd.isAgg47
  z116 := Tryd.sizeOf47
  t117 := Tryd.underlying48
  a117 := Tryd.isAgg48
  z117 := Tryd.sizeOf48
  v117 := Tryd.zeroValue48
  t119 := Tryd.underlying69
  a119 := Tryd.isAgg69
  z119 := Tryd.sizeOf69
  t124 := Tryd.underlying51
  a124 := Tryd.isAgg51
  z124 := Tryd.sizeOf51
  v124 := Tryd.zeroValue51
  t138 := Tryd.underlying71
  a138 := Tryd.isAgg71
  z138 := Tryd.sizeOf71
  v138 := Tryd.zeroValue71
  t139 := Tryd.underlying72
  a139 := Tryd.isAgg72
  z139 := Tryd.sizeOf72
  v139 := Tryd.zeroValue72
  g3 := by kernel_rfl
  g4 := by kernel_rfl }
def Tryd.lays160_ren : Go.Shelf.Ren := ⟨fun | 160 => 30 | 232 => 43 | 231 => 42 | 227 => 44 | 234 => 46 | 233 => 45 | 236 => 48 | 235 => 47 | 228 => 57 | 271 => 60 | 151 => 59 | 197 => 58 | 120 => 70 | 152 => 69 | 260 => 68 | 137 => 29 | 119 => 75 | 224 => 66 | 225 => 65 | 217 => 41 | 266 => 56 | n => n, fun | 9 => 9 | 4 => 4 | 3 => 3 | 5 => 5 | 117 => 48 | 116 => 47 | 0 => 0 | 124 => 51 | 21 => 21 | 105 => 58 | 46 => 63 | 119 => 69 | 139 => 72 | 138 => 71 | n => n, fun | 3 => 1 | 4 => 2 | n => n⟩
theorem Tryd.lays160 : Go.Proofs.Lays.n160 Tryd.prog Tryd.lays160_ren := {
  mixed := by kernel_rfl
  f119 := Tryd.func75.trans (congrArg some (by kernel_rfl))
  f120 := Tryd.func70.trans (congrArg some (by kernel_rfl))
  f137 := Tryd.func29.trans (congrArg some (by kernel_rfl))
  f151 := Tryd.func59.trans (congrArg some (by kernel_rfl))
  f152 := Tryd.func69.trans (congrArg some (by kernel_rfl))
  f160 := Tryd.func30.trans (congrArg some (by kernel_rfl))
  f197 := Tryd.func58.trans (congrArg some (by kernel_rfl))
  f217 := Tryd.func41.trans (congrArg some (by kernel_rfl))
  f224 := Tryd.func66.trans (congrArg some (by kernel_rfl))
  f225 := Tryd.func65.trans (congrArg some (by kernel_rfl))
  f227 := Tryd.func44.trans (congrArg some (by kernel_rfl))
  f228 := Tryd.func57.trans (congrArg some (by kernel_rfl))
  f231 := Tryd.func42.trans (congrArg some (by kernel_rfl))
  f232 := Tryd.func43.trans (congrArg some (by kernel_rfl))
  f233 := Tryd.func45.trans (congrArg some (by kernel_rfl))
  f234 := Tryd.func46.trans (congrArg some (by kernel_rfl))
  f235 := Tryd.func47.trans (congrArg some (by kernel_rfl))
  f236 := Tryd.func48.trans (congrArg some (by kernel_rfl))
  f260 := Tryd.func68.trans (congrArg some (by kernel_rfl))
  f266 := Tryd.func56.trans (congrArg some (by kernel_rfl))
  f271 := Tryd.func60.trans (congrArg some (by kernel_rfl))
  t0 := Tryd.underlying0
  a0 := Tryd.isAgg0
  z0 := Tryd.sizeOf0
  v0 := Tryd.zeroValue0
  t3 := Tryd.underlying3
  a3 := Tryd.isAgg3
  z3 := Tryd.sizeOf3
  v3 := Tryd.zeroValue3
  t4 := Tryd.underlying4
  a4 := Tryd.isAgg4
  z4 := Tryd.sizeOf4
  v4 := Tryd.zeroValue4
  t5 := Tryd.underlying5
  a5 := Tryd.isAgg5
  z5 := Tryd.sizeOf5
  v5 := Tryd.zeroValue5
  t9 := Tryd.underlying9
  a9 := Tryd.isAgg9
  z9 := Tryd.sizeOf9
  v9 := Tryd.zeroValue9
  t21 := Tryd.underlying21
  a21 := Tryd.isAgg21
  z21 := Tryd.sizeOf21
  v21 := Tryd.zeroValue21
  t46 := Tryd.underlying63
  a46 := Tryd.isAgg63
  z46 := Tryd.sizeOf63
  v46 := Tryd.zeroValue63
  t105 := Tryd.underlying58
  a105 := Tryd.isAgg58
  z105 := Tryd.sizeOf58
  v105 := Tryd.zeroValue58
  t116 := Tryd.underlying47
  a116 := Tryd.isAgg47
  z116 := Tryd.sizeOf47
  t117 := Tryd.underlying48
  a117 := Tryd.isAgg48
  z117 := Tryd.sizeOf48
  v117 := Tryd.zeroValue48
  t119 := Tryd.underlying69
  a119 := Tryd.isAgg69
  z119 := Tryd.sizeOf69
  t124 := Tryd.underlying51
  a124 := Tryd.isAgg51
  z124 := Tryd.sizeOf51
  v124 := Tryd.zeroValue51
  t138 := Tryd.underlying71
  a138 := Tryd.isAgg71
  z138 := Tryd.sizeOf71
  v138 := Tryd.zeroValue71
  t139 := Tryd.underlying72
  a139 := Tryd.isAgg72
  z139 := Tryd.sizeOf72
  v139 := Tryd.zeroValue72
  g3 := by kernel_rfl
  g4 := by kernel_rfl }
def Tryd.lays137_ren : Go.Shelf.Ren := ⟨fun | 137 => 29 | 217 => 41 | 266 => 56 | n => n, fun | 9 => 9 | 5 => 5 | 3 => 3 | n => n, fun | n => n⟩
theorem Tryd.lays137 : Go.Proofs.Lays.n137 Tryd.prog Tryd.lays137_ren := {
  mixed := by kernel_rfl
  f137 := Tryd.func29.trans (congrArg some (by kernel_rfl))
  f217 := Tryd.func41.trans (congrArg some (by kernel_rfl))
  f266 := Tryd.func56.trans (congrArg some (by kernel_rfl))
  t3 := Tryd.underlying3
  a3 := Tryd.isAgg3
  z3 := Tryd.sizeOf3
  v3 := Tryd.zeroValue3
  t5 := Tryd.underlying5
  a5 := Tryd.isAgg5
  z5 := Tryd.sizeOf5
  v5 := Tryd.zeroValue5
  t9 := Tryd.underlying9
  a9 := Tryd.isAgg9
  z9 := Tryd.sizeOf9
  v9 := Tryd.zeroValue9 }
open Go.RowKit in
/-- strings.IndexByte: "IndexByte returns the index of the first instance of c in s, or -1 if c is not present in s.": IT RETURNS 'Lib.indexByte s c'; the world is as it was. (LAID: no walk: one application.) -/
theorem Tryd.strings_IndexByte (s : ByteArray) (c : Int) (w : World) :
    Calls Tryd.prog 29 #[.string s, .int .u8 c] w fun e w' => e = .returned (.int .i64 (Lib.indexByte s.data.toList c.toNat.toUInt8)) ∧ w' = w := Any.strings_IndexByte Tryd.lays137 s c w
def Tryd.lays143_ren : Go.Shelf.Ren := ⟨fun | 143 => 40 | 219 => 55 | 217 => 41 | 225 => 65 | 224 => 66 | 267 => 67 | 266 => 56 | 314 => 74 | n => n, fun | 9 => 9 | 3 => 3 | 4 => 4 | 5 => 5 | 46 => 63 | 146 => 67 | 51 => 66 | n => n, fun | 1 => 0 | n => n⟩
theorem Tryd.lays143 : Go.Proofs.Lays.n143 Tryd.prog Tryd.lays143_ren := {
  mixed := by kernel_rfl
  f143 := Tryd.func40.trans (congrArg some (by kernel_rfl))
  f217 := Tryd.func41.trans (congrArg some (by kernel_rfl))
  f219 := Tryd.func55.trans (congrArg some (by kernel_rfl))
  f224 := Tryd.func66.trans (congrArg some (by kernel_rfl))
  f225 := Tryd.func65.trans (congrArg some (by kernel_rfl))
  f266 := Tryd.func56.trans (congrArg some (by kernel_rfl))
  f267 := Tryd.func67.trans (congrArg some (by kernel_rfl))
  f314 := Tryd.func74.trans (congrArg some (by kernel_rfl))
  t3 := Tryd.underlying3
  a3 := Tryd.isAgg3
  z3 := Tryd.sizeOf3
  v3 := Tryd.zeroValue3
  t4 := Tryd.underlying4
  a4 := Tryd.isAgg4
  z4 := Tryd.sizeOf4
  v4 := Tryd.zeroValue4
  t5 := Tryd.underlying5
  a5 := Tryd.isAgg5
  z5 := Tryd.sizeOf5
  v5 := Tryd.zeroValue5
  t9 := Tryd.underlying9
  a9 := Tryd.isAgg9
  z9 := Tryd.sizeOf9
  v9 := Tryd.zeroValue9
  t46 := Tryd.underlying63
  a46 := Tryd.isAgg63
  z46 := Tryd.sizeOf63
  v46 := Tryd.zeroValue63
  t51 := Tryd.underlying66
  a51 := Tryd.isAgg66
  z51 := Tryd.sizeOf66
  v51 := Tryd.zeroValue66
  t146 := Tryd.underlying67
  a146 := Tryd.isAgg67
  z146 := Tryd.sizeOf67
  v146 := Tryd.zeroValue67
  g1 := by kernel_rfl }
open Go.RowKit Go.Lib in
/-- strings.Index: "Index returns the index of the first instance of substr in s, or -1 if substr is not present in s.": IT RETURNS 'Lib.index s substr'; the world is as it was. (LAID: no walk: one application.) -/
theorem Tryd.strings_Index (s sub : ByteArray) (m : Int) (w : World) (hs : s.size < 4294967281) (hm : w.cell? ⟨0, 0, none⟩ = some (.int .i64 m)) :
    Calls Tryd.prog 40 #[.string s, .string sub] w fun e w' => e = .returned (.int .i64 (Lib.index s.data.toList sub.data.toList)) ∧ w' = w := Any.strings_Index Tryd.lays143 s sub m w hs hm
def Tryd.laysM143_ren : Go.Shelf.Ren := ⟨fun | 143 => 40 | 219 => 55 | 217 => 41 | 225 => 65 | 224 => 66 | 267 => 67 | 266 => 56 | 314 => 74 | n => n, fun | 9 => 9 | 3 => 3 | 4 => 4 | 5 => 5 | 46 => 63 | 146 => 67 | 51 => 66 | n => n, fun | 1 => 0 | n => n⟩
theorem Tryd.laysM143 : Go.Proofs.LaysM.n143 Tryd.prog Tryd.laysM143_ren := {
  mixed := by kernel_rfl
  f143 := Tryd.func40.trans (congrArg some (by kernel_rfl))
  f217 := Tryd.func41.trans (congrArg some (by kernel_rfl))
  f219 := Tryd.func55.trans (congrArg some (by kernel_rfl))
  f224 := Tryd.func66.trans (congrArg some (by kernel_rfl))
  f225 := Tryd.func65.trans (congrArg some (by kernel_rfl))
  f266 := Tryd.func56.trans (congrArg some (by kernel_rfl))
  f267 := Tryd.func67.trans (congrArg some (by kernel_rfl))
  f314 := Tryd.func74.trans (congrArg some (by kernel_rfl))
  t3 := Tryd.underlying3
  a3 := Tryd.isAgg3
  z3 := Tryd.sizeOf3
  v3 := Tryd.zeroValue3
  t4 := Tryd.underlying4
  a4 := Tryd.isAgg4
  z4 := Tryd.sizeOf4
  v4 := Tryd.zeroValue4
  t5 := Tryd.underlying5
  a5 := Tryd.isAgg5
  z5 := Tryd.sizeOf5
  v5 := Tryd.zeroValue5
  t9 := Tryd.underlying9
  a9 := Tryd.isAgg9
  z9 := Tryd.sizeOf9
  v9 := Tryd.zeroValue9
  t46 := Tryd.underlying63
  a46 := Tryd.isAgg63
  z46 := Tryd.sizeOf63
  v46 := Tryd.zeroValue63
  t51 := Tryd.underlying66
  a51 := Tryd.isAgg66
  z51 := Tryd.sizeOf66
  v51 := Tryd.zeroValue66
  t146 := Tryd.underlying67
  a146 := Tryd.isAgg67
  z146 := Tryd.sizeOf67
  v146 := Tryd.zeroValue67
  g1 := by kernel_rfl
  i3 := by kernel_rfl
  i4 := by kernel_rfl
  i5 := by kernel_rfl
  i9 := by kernel_rfl
  i46 := by kernel_rfl
  i51 := by kernel_rfl
  i146 := by kernel_rfl
  m1 := by kernel_rfl
  s1_3 := fun w h => Go.Proofs.cell_of_shapedOpen_int (zero := #[.int .i64 0]) (t := 3) h (of_decide_eq_true (by kernel_rfl)) (by kernel_rfl) rfl (by kernel_rfl) (by kernel_rfl) Tryd.underlying3 }
def Tryd.lays153_ren : Go.Shelf.Ren := ⟨fun | 153 => 64 | 152 => 69 | 226 => 73 | 227 => 44 | 228 => 57 | 137 => 29 | 119 => 75 | 224 => 66 | 225 => 65 | 217 => 41 | 266 => 56 | n => n, fun | 9 => 9 | 3 => 3 | 4 => 4 | 5 => 5 | 21 => 21 | 117 => 48 | 116 => 47 | 0 => 0 | 46 => 63 | 124 => 51 | n => n, fun | n => n⟩
theorem Tryd.lays153 : Go.Proofs.Lays.n153 Tryd.prog Tryd.lays153_ren := {
  mixed := by kernel_rfl
  f119 := Tryd.func75.trans (congrArg some (by kernel_rfl))
  f137 := Tryd.func29.trans (congrArg some (by kernel_rfl))
  f152 := Tryd.func69.trans (congrArg some (by kernel_rfl))
  f153 := Tryd.func64.trans (congrArg some (by kernel_rfl))
  f217 := Tryd.func41.trans (congrArg some (by kernel_rfl))
  f224 := Tryd.func66.trans (congrArg some (by kernel_rfl))
  f225 := Tryd.func65.trans (congrArg some (by kernel_rfl))
  f226 := Tryd.func73.trans (congrArg some (by kernel_rfl))
  f227 := Tryd.func44.trans (congrArg some (by kernel_rfl))
  f228 := Tryd.func57.trans (congrArg some (by kernel_rfl))
  f266 := Tryd.func56.trans (congrArg some (by kernel_rfl))
  t0 := Tryd.underlying0
  a0 := Tryd.isAgg0
  z0 := Tryd.sizeOf0
  v0 := Tryd.zeroValue0
  t3 := Tryd.underlying3
  a3 := Tryd.isAgg3
  z3 := Tryd.sizeOf3
  v3 := Tryd.zeroValue3
  t4 := Tryd.underlying4
  a4 := Tryd.isAgg4
  z4 := Tryd.sizeOf4
  v4 := Tryd.zeroValue4
  t5 := Tryd.underlying5
  a5 := Tryd.isAgg5
  z5 := Tryd.sizeOf5
  v5 := Tryd.zeroValue5
  t9 := Tryd.underlying9
  a9 := Tryd.isAgg9
  z9 := Tryd.sizeOf9
  v9 := Tryd.zeroValue9
  t21 := Tryd.underlying21
  a21 := Tryd.isAgg21
  z21 := Tryd.sizeOf21
  v21 := Tryd.zeroValue21
  t46 := Tryd.underlying63
  a46 := Tryd.isAgg63
  z46 := Tryd.sizeOf63
  v46 := Tryd.zeroValue63
  t116 := Tryd.underlying47
  a116 := Tryd.isAgg47
  z116 := Tryd.sizeOf47
  t117 := Tryd.underlying48
  a117 := Tryd.isAgg48
  z117 := Tryd.sizeOf48
  v117 := Tryd.zeroValue48
  t124 := Tryd.underlying51
  a124 := Tryd.isAgg51
  z124 := Tryd.sizeOf51
  v124 := Tryd.zeroValue51 }
open Go.RowKit Go.Lib in
theorem Tryd.strings_IndexAny_long (hv116 : ∀ w, (zeroValue 47).run Tryd.prog w = .ok (.agg (Array.replicate 256 (.bool false))) w) (s chars : ByteArray) (w : World) (h2 : 2 ≤ chars.size) (h8 : 8 < s.size) (hs : s.size < 4294967281) (hcs : chars.size < 4294967281) (hascii : ∀ (j : Nat) b, chars.data.toList[j]? = some b → b.toNat < 128) :
    Calls Tryd.prog 64 #[.string s, .string chars] w fun e w' => e = .returned (.int .i64 (Lib.indexAny s.data.toList chars.data.toList)) ∧ w' = ((w.alloc (.cells (Lib.setCells chars.data.toList) 47)).alloc (.cells (Lib.setCells chars.data.toList) 47)) := Any.strings_IndexAny_long Tryd.lays153 hv116 (by kernel_rfl) s chars w h2 h8 hs hcs hascii
def Tryd.lays260_ren : Go.Shelf.Ren := ⟨fun | 260 => 68 | n => n, fun | 9 => 9 | 21 => 21 | 3 => 3 | 4 => 4 | 5 => 5 | 119 => 69 | 0 => 0 | 46 => 63 | 139 => 72 | 138 => 71 | n => n, fun | 3 => 1 | 4 => 2 | n => n⟩
theorem Tryd.lays260 : Go.Proofs.Lays.n260 Tryd.prog Tryd.lays260_ren := {
  mixed := by kernel_rfl
  f260 := Tryd.func68.trans (congrArg some (by kernel_rfl))
  t0 := Tryd.underlying0
  a0 := Tryd.isAgg0
  z0 := Tryd.sizeOf0
  v0 := Tryd.zeroValue0
  t3 := Tryd.underlying3
  a3 := Tryd.isAgg3
  z3 := Tryd.sizeOf3
  v3 := Tryd.zeroValue3
  t4 := Tryd.underlying4
  a4 := Tryd.isAgg4
  z4 := Tryd.sizeOf4
  v4 := Tryd.zeroValue4
  t5 := Tryd.underlying5
  a5 := Tryd.isAgg5
  z5 := Tryd.sizeOf5
  v5 := Tryd.zeroValue5
  t9 := Tryd.underlying9
  a9 := Tryd.isAgg9
  z9 := Tryd.sizeOf9
  v9 := Tryd.zeroValue9
  t21 := Tryd.underlying21
  a21 := Tryd.isAgg21
  z21 := Tryd.sizeOf21
  v21 := Tryd.zeroValue21
  t46 := Tryd.underlying63
  a46 := Tryd.isAgg63
  z46 := Tryd.sizeOf63
  v46 := Tryd.zeroValue63
  t119 := Tryd.underlying69
  a119 := Tryd.isAgg69
  z119 := Tryd.sizeOf69
  t138 := Tryd.underlying71
  a138 := Tryd.isAgg71
  z138 := Tryd.sizeOf71
  v138 := Tryd.zeroValue71
  t139 := Tryd.underlying72
  a139 := Tryd.isAgg72
  z139 := Tryd.sizeOf72
  v139 := Tryd.zeroValue72
  g3 := by kernel_rfl
  g4 := by kernel_rfl }
end Go.Proofs

namespace Go.Vc
open Go.Proofs
set_option linter.unusedVariables false
set_option maxRecDepth 10000
set_option linter.unusedSimpArgs false
instance fIB (s : List UInt8) (c : Int) : Fn BB 29 [.str s, .int .u8 c] True (.int .i64 (Lib.indexByte s c.toNat.toUInt8)) := by
  refine ⟨Tryd.call29, fun _ r β w vs hG m hl => ?_⟩
  obtain ⟨v1, vs1, rfl, h1, hl⟩ := hl.uncons
  obtain ⟨v2, vs2, rfl, h2, hl⟩ := hl.uncons
  obtain rfl := hl.nil_inv
  cases h1; cases h2
  refine (Tryd.strings_IndexByte ⟨s.toArray⟩ c w).mono fun e w' hh => ?_
  obtain ⟨rfl, rfl⟩ := hh
  exact ⟨_, _, r, β, [], rfl, ⟨rfl, rfl⟩, by simpa using (Rel.int), m, Mem.le_refl r, Hid.refl ..⟩
def hexIx (c : Int) : Int := Lib.indexByte [48, 49, 50, 51, 52, 53, 54, 55, 56, 57, 97, 98, 99, 100, 101, 102, 48, 49, 50, 51, 52, 53, 54, 55, 56, 57, 65, 66, 67, 68, 69, 70] c.toNat.toUInt8
theorem hexAt (c : Int) (h : 0 ≤ c ∧ c ≤ 255) : (if hexIx c < 0 then -1 else bitsI .and .i64 (hexIx c) 15) = hexI c := by
  have key : ∀ k : _root_.Fin 256, (if hexIx (k.val : Int) < 0 then -1 else bitsI .and .i64 (hexIx (k.val : Int)) 15) = hexI (k.val : Int) := by decide +kernel
  have := key ⟨c.toNat, by omega⟩
  have e : ((c.toNat : Nat) : Int) = c := by omega
  simp only [e] at this
  exact this
instance fHex (c : Int) : Fn BB 13 [.int .u8 c] (0 ≤ c ∧ c ≤ 255) (.int .i64 (hexI c)) := by
  refine Fn.intro (N := 10) [0, 2, 3, 7] [] Tryd.call13 Tryd.func13 rfl rfl (by kernel_rfl) (fun hpre => ?_)
  have hx := hexAt c hpre
  repeat' ((conv => whnf); first | (with_reducible rfl) | exact True.intro | (with_reducible exact absTF) | (with_reducible exact absFT) | intro _ | refine And.intro ?_ ?_ | refine Fin.mk ?_ | refine CallG.plain rfl ?_ ?_ | refine CallG.mk rfl ?_ ?_ | refine CallG.nwl rfl ?_ ?_ | refine CallG.nw ?_ ?_ | refine CallF.nwl rfl ?_ ?_ | refine CallF.nw ?_ ?_ | refine AppN.mk ?_ | (refine CallS.q ?_; (conv => whnf); first | refine CallG.plain rfl ?_ ?_ | refine CallG.mk rfl ?_ ?_) | (refine CallS.m ?_; (conv => whnf); refine CallM.mk rfl ?_ ?_) | (refine CallS.h ?_; (conv => whnf); refine CallM.mk rfl ?_ ?_) | (refine CallS.b ?_; (conv => whnf); refine CallM.mk rfl ?_ ?_) | (refine CallS.z ?_; (conv => whnf); refine CallM.mk rfl ?_ ?_))
  all_goals (try (conv => whnf))
  all_goals (try (exact Ob.mk (u8_bnd _)))
  all_goals (try (refine Ob.mk ?_; first | exact True.intro | assumption | omega | (try simp only [decide_eq_true_eq, decide_eq_false_iff_not, beq_iff_eq, beq_eq_false_iff_ne, bne_iff_ne, bne_eq_false_iff_eq, ne_eq, Bool.and_eq_true, Bool.or_eq_true, Bool.not_eq_true, Bool.not_eq_false, Bool.not_eq_true', Bool.not_eq_false', Int.toNat_natCast, Int.not_lt, Int.not_le, UInt8.ofNat_toNat, cast_eq] at *; omega)))
  all_goals (try ((show (_:Int) = _); omega))
  all_goals (try (show tupSV _ = _; with_unfolding_all rfl))
  all_goals (try ((show (_ : Nat) ≤ _); (simp <;> omega)))
  all_goals (try ((show (_ : Nat) ≤ _ ∧ (_ : Nat) ≤ _); (simp <;> omega)))
  all_goals (try ((show (_ : Int) ≤ _ ∧ (_ : Int) ≤ _ ∧ (_ : Int) ≤ _ ∧ (_ : Int) ≤ _); (simp <;> omega)))
  · have h : hexIx c < 0 := by simpa using ‹decide _ = true›
    rw [if_pos h] at hx; exact hx
  · have h : ¬ hexIx c < 0 := by rename_i h; exact of_decide_eq_false h
    rw [if_neg h] at hx; exact hx
theorem ended_eq (s : List UInt8) : (decide ((s.length : Int) > 0) && ((s.getD ((s.length : Int) - 1).toNat 0).toNat : Int) == 59) = endedOf s := by
  unfold endedOf
  have e : ((s.length : Int) - 1).toNat = s.length - 1 := by omega
  rw [e]
  congr 1
  · simp
  · generalize s.getD (s.length - 1) 0 = c
    rw [Bool.eq_iff_iff, beq_iff_eq, beq_iff_eq]
    constructor
    · intro h; exact UInt8.toNat_inj.1 (by show c.toNat = 59; omega)
    · rintro rfl; rfl
theorem bare_t {s : List UInt8} (h : endedOf s = true) : s.take ((s.length : Int) - 1).toNat = bareOf s := by
  unfold bareOf
  rw [if_pos h]
  congr 1; omega
theorem refTab_len : refTab.length = 61 := by decide
theorem refTab_good : ∀ e ∈ refTab, 0 < e.1.length ∧ e.1.length ≤ 8 := by decide
def rtN (i : Nat) : List UInt8 := (refTab.map (·.1)).getD i []
theorem rt_at {i : Nat} (h : i < 61) : refTab.drop i = (rtN i, (refTab.map (·.2)).getD i 0) :: refTab.drop (i + 1) := by
  have hl : i < refTab.length := by rw [refTab_len]; exact h
  rw [List.drop_eq_getElem_cons hl]
  congr 1
  simp [rtN, List.getD, List.getElem?_eq_getElem hl]
theorem rt_good {i : Nat} (h : i < 61) : 0 < (rtN i).length ∧ (rtN i).length ≤ 8 := by
  have hl : i < refTab.length := by rw [refTab_len]; exact h
  have := refTab_good refTab[i] (by simp)
  simpa [rtN, List.getD, List.getElem?_eq_getElem hl] using this
theorem refNamed_def (s : List UInt8) : refNamed s = match refTab.find? (refHit s) with | some e => (encN e.2, true) | none => ([], false) := rfl
theorem hit_int (s e : List UInt8) (k : Int) : (e == s || ((e.getD ((e.length : Int) - 1).toNat 0).toNat : Int) != 59 && e ++ [59] == s) = refHit s (e, k) := by
  have h : ((e.length : Int) - 1).toNat = e.length - 1 := by omega
  rw [h]
  unfold refHit
  congr 2
  simp only [bne, u8_59]
end Go.Vc

namespace Go.Vc.W
open Go.Proofs
set_option linter.unusedVariables false
def isSp (c : Int) : Bool := c == 9 || c == 10 || c == 12 || c == 13 || c == 32
set_option maxRecDepth 10000
set_option linter.unusedSimpArgs false
instance f31 (c : Int) : Fn BB 9 [.int .u8 c] True (.bool (isSp c)) := by
  refine Fn.intro (N := 10) [0, 2, 3, 4] [] Tryd.call9 Tryd.func9 rfl rfl (by kernel_rfl) (fun hpre => ?_)
  repeat' ((conv => whnf); first | (with_reducible rfl) | exact True.intro | (with_reducible exact absTF) | (with_reducible exact absFT) | intro _ | refine And.intro ?_ ?_ | refine Fin.mk ?_ | refine CallG.plain rfl ?_ ?_ | refine CallG.mk rfl ?_ ?_ | refine CallG.nwl rfl ?_ ?_ | refine CallG.nw ?_ ?_ | refine CallF.nwl rfl ?_ ?_ | refine CallF.nw ?_ ?_ | refine AppN.mk ?_ | (refine CallS.q ?_; (conv => whnf); first | refine CallG.plain rfl ?_ ?_ | refine CallG.mk rfl ?_ ?_) | (refine CallS.m ?_; (conv => whnf); refine CallM.mk rfl ?_ ?_) | (refine CallS.h ?_; (conv => whnf); refine CallM.mk rfl ?_ ?_) | (refine CallS.b ?_; (conv => whnf); refine CallM.mk rfl ?_ ?_) | (refine CallS.z ?_; (conv => whnf); refine CallM.mk rfl ?_ ?_))
  all_goals (try (conv => whnf))
  all_goals (simp_all [isSp]; done)
instance f40 (c : Int) : Fn BB 10 [.int .u8 c] True (.bool (isSp c)) := by
  refine Fn.intro (N := 21) [0, 2] [] Tryd.call10 Tryd.func10 rfl rfl (by kernel_rfl) (fun hpre => ?_)
  repeat' ((conv => whnf); first | (with_reducible rfl) | exact True.intro | (with_reducible exact absTF) | (with_reducible exact absFT) | intro _ | refine And.intro ?_ ?_ | refine Fin.mk ?_ | refine CallG.plain rfl ?_ ?_ | refine CallG.mk rfl ?_ ?_ | refine CallG.nwl rfl ?_ ?_ | refine CallG.nw ?_ ?_ | refine CallF.nwl rfl ?_ ?_ | refine CallF.nw ?_ ?_ | refine AppN.mk ?_ | (refine CallS.q ?_; (conv => whnf); first | refine CallG.plain rfl ?_ ?_ | refine CallG.mk rfl ?_ ?_) | (refine CallS.m ?_; (conv => whnf); refine CallM.mk rfl ?_ ?_) | (refine CallS.h ?_; (conv => whnf); refine CallM.mk rfl ?_ ?_) | (refine CallS.b ?_; (conv => whnf); refine CallM.mk rfl ?_ ?_) | (refine CallS.z ?_; (conv => whnf); refine CallM.mk rfl ?_ ?_))
  all_goals (try (conv => whnf))
  all_goals (simp_all [isSp]; done)

theorem take_snoc {α : Type} (l : List α) (i : Nat) (d : α) (h : i < l.length) : l.take (i + 1) = l.take i ++ [l.getD i d] := by
  rw [List.take_succ_eq_append_getElem h]; simp [List.getD, List.getElem?_eq_getElem h]

theorem take_has (l : List (List UInt8)) (i : Nat) (w : List UInt8) (h : i < l.length) : (l.take (i+1)).contains w = ((l.take i).contains w || (l.getD i [] == w)) := by
  rw [take_snoc l i [] h]
  simp only [List.contains_eq_any_beq, List.any_append, List.any_cons, List.any_nil, Bool.or_false]
  congr 1
  exact Bool.beq_comm

end Go.Vc.W

namespace Go.Vc
open Go.Proofs
set_option linter.unusedVariables false
set_option maxRecDepth 10000
set_option linter.unusedSimpArgs false
set_option maxHeartbeats 2000000
def upB (c : UInt8) : Bool := decide (65 ≤ c.toNat) && decide (c.toNat ≤ 90)
def lowB (c : UInt8) : UInt8 := if upB c then c + 32 else c
def lowL (s : List UInt8) : List UInt8 := s.map lowB
def lowAt (s : List UInt8) (i : Nat) : List UInt8 := (s.take i).map lowB ++ s.drop i
theorem lowAt_len (s : List UInt8) (i : Nat) (h : i ≤ s.length) : (lowAt s i).length = s.length := by simp [lowAt]; omega
theorem lowAt_get (s : List UInt8) (i : Nat) (h : i < s.length) : (lowAt s i).getD i 0 = s.getD i 0 := by
  unfold lowAt
  have hl : ((s.take i).map lowB).length = i := by simp; omega
  simp only [List.getD]
  rw [List.getElem?_append_right (by omega), hl]
  simp
theorem lowAt_set (s : List UInt8) (i : Nat) (h : i < s.length) : (lowAt s i).set i (lowB (s.getD i 0)) = lowAt s (i + 1) := by
  unfold lowAt
  have hl : ((s.take i).map lowB).length = i := by simp; omega
  rw [List.set_append_right _ _ (by omega), hl, Nat.sub_self, List.drop_eq_getElem_cons h, List.set_cons_zero, List.take_succ_eq_append_getElem h, List.map_append]
  simp [List.getD, List.getElem?_eq_getElem h]
theorem lowAt_same (s : List UInt8) (i : Nat) (h : i < s.length) (hu : upB (s.getD i 0) = false) : lowAt s (i + 1) = lowAt s i := by
  rw [← lowAt_set s i h]
  have : lowB (s.getD i 0) = s.getD i 0 := by unfold lowB; rw [hu]; rfl
  rw [this]
  have h2 := lowAt_get s i h
  have hl := lowAt_len s i (by omega)
  apply List.ext_getElem? 
  intro j
  rw [List.getElem?_set]
  split
  · rename_i e
    subst e
    rw [if_pos (by omega), ← h2]
    simp [List.getD, List.getElem?_eq_getElem (show i < (lowAt s i).length by omega)]
  · rfl
theorem lowAt_end (s : List UInt8) : lowAt s s.length = lowL s := by simp [lowAt, lowL]
theorem low_or (c : UInt8) (h : upB c = true) : UInt8.ofNat (bitsI .or .u8 (c.toNat : Int) 32).toNat = lowB c := by
  have key : ∀ k : _root_.Fin 256, upB (UInt8.ofNat k.val) = true → UInt8.ofNat (bitsI .or .u8 (k.val : Int) 32).toNat = lowB (UInt8.ofNat k.val) := by decide +kernel
  have := key ⟨c.toNat, c.toNat_lt⟩
  simp only [UInt8.ofNat_toNat] at this
  exact this h
theorem low_orb (c : UInt8) : 0 ≤ bitsI .or .u8 (c.toNat : Int) 32 ∧ bitsI .or .u8 (c.toNat : Int) 32 ≤ 255 := by
  have key : ∀ k : _root_.Fin 256, 0 ≤ bitsI .or .u8 (k.val : Int) 32 ∧ bitsI .or .u8 (k.val : Int) 32 ≤ 255 := by decide +kernel
  exact key ⟨c.toNat, c.toNat_lt⟩
theorem low_add (c : UInt8) (h : upB c = true) : UInt8.ofNat (IntKind.u8.wrap ((c.toNat : Int) + 32)).toNat = lowB c := by
  have key : ∀ k : _root_.Fin 256, upB (UInt8.ofNat k.val) = true → UInt8.ofNat (IntKind.u8.wrap ((k.val : Int) + 32)).toNat = lowB (UInt8.ofNat k.val) := by decide +kernel
  have := key ⟨c.toNat, c.toNat_lt⟩
  simp only [UInt8.ofNat_toNat] at this
  exact this h
theorem low_addb (c : UInt8) : 0 ≤ IntKind.u8.wrap ((c.toNat : Int) + 32) ∧ IntKind.u8.wrap ((c.toNat : Int) + 32) ≤ 255 := by
  have key : ∀ k : _root_.Fin 256, 0 ≤ IntKind.u8.wrap ((k.val : Int) + 32) ∧ IntKind.u8.wrap ((k.val : Int) + 32) ≤ 255 := by decide +kernel
  exact key ⟨c.toNat, c.toNat_lt⟩
theorem up_eq (c : UInt8) : (decide ((65 : Int) ≤ (c.toNat : Int)) && decide ((c.toNat : Int) ≤ 90)) = upB c := by
  unfold upB
  congr 1 <;> (rw [Bool.eq_iff_iff]; simp; try omega)
instance lLower (s : List UInt8) : Fn BB 15 [.str s] True (.str (lowL s)) := by
  refine Fn.intro (N := 29) [0, 2, 3, 4, 5, 8, 9, 10, 11, 20] [] Tryd.call15 Tryd.func15 rfl rfl (by kernel_rfl) (fun hpre => ?_)
  repeat' ((conv => whnf); first | (with_reducible rfl) | exact True.intro | (with_reducible exact absTF) | (with_reducible exact absFT) | intro _ | refine And.intro ?_ ?_ | refine Fin.mk ?_ | refine CallG.plain rfl ?_ ?_ | refine CallG.mk rfl ?_ ?_ | refine CallG.nwl rfl ?_ ?_ | refine CallG.nw ?_ ?_ | refine CallF.nwl rfl ?_ ?_ | refine CallF.nw ?_ ?_ | refine AppN.mk ?_ | (refine CallS.q ?_; (conv => whnf); first | refine CallG.plain rfl ?_ ?_ | refine CallG.mk rfl ?_ ?_) | (refine CallS.m ?_; (conv => whnf); refine CallM.mk rfl ?_ ?_) | (refine CallS.h ?_; (conv => whnf); refine CallM.mk rfl ?_ ?_) | (refine CallS.b ?_; (conv => whnf); refine CallM.mk rfl ?_ ?_) | (refine CallS.z ?_; (conv => whnf); refine CallM.mk rfl ?_ ?_))
  all_goals (try (conv => whnf))
  all_goals (try (exact Ob.mk (u8_bnd _)))
  all_goals (try (refine Ob.mk ?_; first | exact True.intro | assumption | omega | (try simp only [decide_eq_true_eq, decide_eq_false_iff_not, beq_iff_eq, beq_eq_false_iff_ne, bne_iff_ne, bne_eq_false_iff_eq, ne_eq, Bool.and_eq_true, Bool.or_eq_true, Bool.not_eq_true, Bool.not_eq_false, Bool.not_eq_true', Bool.not_eq_false', Int.toNat_natCast, Int.not_lt, Int.not_le, UInt8.ofNat_toNat, cast_eq] at *; omega)))
  all_goals (try ((show (_:Int) = _); omega))
  all_goals (try (show tupSV _ = _; with_unfolding_all rfl))
  all_goals (try ((show (_ : Nat) ≤ _); (simp <;> omega)))
  all_goals (try ((show (_ : Nat) ≤ _ ∧ (_ : Nat) ≤ _); (simp <;> omega)))
  all_goals (try ((show (_ : Int) ≤ _ ∧ (_ : Int) ≤ _ ∧ (_ : Int) ≤ _ ∧ (_ : Int) ≤ _); (simp <;> omega)))
  refine LoopStop.mk (α := Nat) (fun i => [(10, .int .i64 i)]) (fun i => [(0, .own .byte (lowAt s i))]) 20 (fun i => i ≤ s.length) (fun i => s.length + 1 - i) 0 (by simp) ?_ (fun i hi => ?_)
  · repeat' ((conv => whnf); first | (with_reducible rfl) | exact True.intro | (with_reducible exact absTF) | (with_reducible exact absFT) | intro _ | refine And.intro ?_ ?_ | refine Fin.mk ?_ | refine CallG.plain rfl ?_ ?_ | refine CallG.mk rfl ?_ ?_ | refine CallG.nwl rfl ?_ ?_ | refine CallG.nw ?_ ?_ | refine CallF.nwl rfl ?_ ?_ | refine CallF.nw ?_ ?_ | refine AppN.mk ?_ | (refine CallS.q ?_; (conv => whnf); first | refine CallG.plain rfl ?_ ?_ | refine CallG.mk rfl ?_ ?_) | (refine CallS.m ?_; (conv => whnf); refine CallM.mk rfl ?_ ?_) | (refine CallS.h ?_; (conv => whnf); refine CallM.mk rfl ?_ ?_) | (refine CallS.b ?_; (conv => whnf); refine CallM.mk rfl ?_ ?_) | (refine CallS.z ?_; (conv => whnf); refine CallM.mk rfl ?_ ?_))
    all_goals (try (conv => whnf))
    all_goals (try (exact Ob.mk (u8_bnd _)))
    all_goals (try (refine Ob.mk ?_; first | exact True.intro | assumption | omega | (try simp only [decide_eq_true_eq, decide_eq_false_iff_not, beq_iff_eq, beq_eq_false_iff_ne, bne_iff_ne, bne_eq_false_iff_eq, ne_eq, Bool.and_eq_true, Bool.or_eq_true, Bool.not_eq_true, Bool.not_eq_false, Bool.not_eq_true', Bool.not_eq_false', Int.toNat_natCast, Int.not_lt, Int.not_le, UInt8.ofNat_toNat, cast_eq] at *; omega)))
    all_goals (try ((show (_:Int) = _); omega))
    all_goals (try (show tupSV _ = _; with_unfolding_all rfl))
    all_goals (try ((show (_ : Nat) ≤ _); (simp <;> omega)))
    all_goals (try ((show (_ : Nat) ≤ _ ∧ (_ : Nat) ≤ _); (simp <;> omega)))
    all_goals (try ((show (_ : Int) ≤ _ ∧ (_ : Int) ≤ _ ∧ (_ : Int) ≤ _ ∧ (_ : Int) ≤ _); (simp <;> omega)))
    all_goals rfl
  · have hg := fun h => lowAt_get s i h
    have hst := fun h => lowAt_set s i h
    have hln := lowAt_len s i hi
    repeat' ((conv => whnf); first | (with_reducible rfl) | exact True.intro | (with_reducible exact absTF) | (with_reducible exact absFT) | intro _ | refine And.intro ?_ ?_ | refine Fin.mk ?_ | refine CallG.plain rfl ?_ ?_ | refine CallG.mk rfl ?_ ?_ | refine CallG.nwl rfl ?_ ?_ | refine CallG.nw ?_ ?_ | refine CallF.nwl rfl ?_ ?_ | refine CallF.nw ?_ ?_ | refine AppN.mk ?_ | (refine CallS.q ?_; (conv => whnf); first | refine CallG.plain rfl ?_ ?_ | refine CallG.mk rfl ?_ ?_) | (refine CallS.m ?_; (conv => whnf); refine CallM.mk rfl ?_ ?_) | (refine CallS.h ?_; (conv => whnf); refine CallM.mk rfl ?_ ?_) | (refine CallS.b ?_; (conv => whnf); refine CallM.mk rfl ?_ ?_) | (refine CallS.z ?_; (conv => whnf); refine CallM.mk rfl ?_ ?_))
    all_goals (try (conv => whnf))
    all_goals (try (exact Ob.mk (u8_bnd _)))
    all_goals (try (refine Ob.mk ?_; first | exact True.intro | assumption | omega | (try simp only [decide_eq_true_eq, decide_eq_false_iff_not, beq_iff_eq, beq_eq_false_iff_ne, bne_iff_ne, bne_eq_false_iff_eq, ne_eq, Bool.and_eq_true, Bool.or_eq_true, Bool.not_eq_true, Bool.not_eq_false, Bool.not_eq_true', Bool.not_eq_false', Int.toNat_natCast, Int.not_lt, Int.not_le, UInt8.ofNat_toNat, cast_eq] at *; omega)))
    all_goals (try ((show (_:Int) = _); omega))
    all_goals (try (show tupSV _ = _; with_unfolding_all rfl))
    all_goals (try ((show (_ : Nat) ≤ _); (simp <;> omega)))
    all_goals (try ((show (_ : Nat) ≤ _ ∧ (_ : Nat) ≤ _); (simp <;> omega)))
    all_goals (try ((show (_ : Int) ≤ _ ∧ (_ : Int) ≤ _ ∧ (_ : Int) ≤ _ ∧ (_ : Int) ≤ _); (simp <;> omega)))
    all_goals (try simp only [Int.toNat_natCast, Ty.dflt] at *)
    all_goals (first | exact low_orb _ | skip)
    · rename_i hl h
      have hl := of_decide_eq_true hl
      have h : upB ((lowAt s i).getD i 0) = true := (up_eq _).symm.trans h
      refine Rnd.mk ⟨i + 1, by omega, by omega, ?_⟩
      repeat' ((conv => whnf); first | (with_reducible rfl) | exact True.intro | (with_reducible exact absTF) | (with_reducible exact absFT) | intro _ | refine And.intro ?_ ?_ | refine Fin.mk ?_ | refine CallG.plain rfl ?_ ?_ | refine CallG.mk rfl ?_ ?_ | refine CallG.nwl rfl ?_ ?_ | refine CallG.nw ?_ ?_ | refine CallF.nwl rfl ?_ ?_ | refine CallF.nw ?_ ?_ | refine AppN.mk ?_ | (refine CallS.q ?_; (conv => whnf); first | refine CallG.plain rfl ?_ ?_ | refine CallG.mk rfl ?_ ?_) | (refine CallS.m ?_; (conv => whnf); refine CallM.mk rfl ?_ ?_) | (refine CallS.h ?_; (conv => whnf); refine CallM.mk rfl ?_ ?_) | (refine CallS.b ?_; (conv => whnf); refine CallM.mk rfl ?_ ?_) | (refine CallS.z ?_; (conv => whnf); refine CallM.mk rfl ?_ ?_))
      all_goals (try (conv => whnf))
      all_goals (try (exact Ob.mk (u8_bnd _)))
      all_goals (try (refine Ob.mk ?_; first | exact True.intro | assumption | omega | (try simp only [decide_eq_true_eq, decide_eq_false_iff_not, beq_iff_eq, beq_eq_false_iff_ne, bne_iff_ne, bne_eq_false_iff_eq, ne_eq, Bool.and_eq_true, Bool.or_eq_true, Bool.not_eq_true, Bool.not_eq_false, Bool.not_eq_true', Bool.not_eq_false', Int.toNat_natCast, Int.not_lt, Int.not_le, UInt8.ofNat_toNat, cast_eq] at *; omega)))
      all_goals (try ((show (_:Int) = _); omega))
      all_goals (try (show tupSV _ = _; with_unfolding_all rfl))
      all_goals (try ((show (_ : Nat) ≤ _); (simp <;> omega)))
      all_goals (try ((show (_ : Nat) ≤ _ ∧ (_ : Nat) ≤ _); (simp <;> omega)))
      all_goals (try ((show (_ : Int) ≤ _ ∧ (_ : Int) ≤ _ ∧ (_ : Int) ≤ _ ∧ (_ : Int) ≤ _); (simp <;> omega)))
      all_goals (rw [low_or _ h, hg (by omega), hst (by omega)])
    · rename_i hl h
      have hl := of_decide_eq_true hl
      have h : upB ((lowAt s i).getD i 0) = false := (up_eq _).symm.trans h
      rw [hg (by omega)] at h
      refine Rnd.mk ⟨i + 1, by omega, by omega, ?_⟩
      repeat' ((conv => whnf); first | (with_reducible rfl) | exact True.intro | (with_reducible exact absTF) | (with_reducible exact absFT) | intro _ | refine And.intro ?_ ?_ | refine Fin.mk ?_ | refine CallG.plain rfl ?_ ?_ | refine CallG.mk rfl ?_ ?_ | refine CallG.nwl rfl ?_ ?_ | refine CallG.nw ?_ ?_ | refine CallF.nwl rfl ?_ ?_ | refine CallF.nw ?_ ?_ | refine AppN.mk ?_ | (refine CallS.q ?_; (conv => whnf); first | refine CallG.plain rfl ?_ ?_ | refine CallG.mk rfl ?_ ?_) | (refine CallS.m ?_; (conv => whnf); refine CallM.mk rfl ?_ ?_) | (refine CallS.h ?_; (conv => whnf); refine CallM.mk rfl ?_ ?_) | (refine CallS.b ?_; (conv => whnf); refine CallM.mk rfl ?_ ?_) | (refine CallS.z ?_; (conv => whnf); refine CallM.mk rfl ?_ ?_))
      all_goals (try (conv => whnf))
      all_goals (try (exact Ob.mk (u8_bnd _)))
      all_goals (try (refine Ob.mk ?_; first | exact True.intro | assumption | omega | (try simp only [decide_eq_true_eq, decide_eq_false_iff_not, beq_iff_eq, beq_eq_false_iff_ne, bne_iff_ne, bne_eq_false_iff_eq, ne_eq, Bool.and_eq_true, Bool.or_eq_true, Bool.not_eq_true, Bool.not_eq_false, Bool.not_eq_true', Bool.not_eq_false', Int.toNat_natCast, Int.not_lt, Int.not_le, UInt8.ofNat_toNat, cast_eq] at *; omega)))
      all_goals (try ((show (_:Int) = _); omega))
      all_goals (try (show tupSV _ = _; with_unfolding_all rfl))
      all_goals (try ((show (_ : Nat) ≤ _); (simp <;> omega)))
      all_goals (try ((show (_ : Nat) ≤ _ ∧ (_ : Nat) ≤ _); (simp <;> omega)))
      all_goals (try ((show (_ : Int) ≤ _ ∧ (_ : Int) ≤ _ ∧ (_ : Int) ≤ _ ∧ (_ : Int) ≤ _); (simp <;> omega)))
      all_goals (rw [lowAt_same s i (by omega) h])
    · rename_i hl
      have hl := of_decide_eq_false hl
      have : i = s.length := by omega
      rw [this, lowAt_end]
instance lRLower (s : List UInt8) : Fn BB 16 [.str s] True (.str (lowL s)) := by
  refine Fn.intro (N := 33) [0, 2, 3, 4, 10, 24] [] Tryd.call16 Tryd.func16 rfl rfl (by kernel_rfl) (fun hpre => ?_)
  repeat' ((conv => whnf); first | (with_reducible rfl) | exact True.intro | (with_reducible exact absTF) | (with_reducible exact absFT) | intro _ | refine And.intro ?_ ?_ | refine Fin.mk ?_ | refine CallG.plain rfl ?_ ?_ | refine CallG.mk rfl ?_ ?_ | refine CallG.nwl rfl ?_ ?_ | refine CallG.nw ?_ ?_ | refine CallF.nwl rfl ?_ ?_ | refine CallF.nw ?_ ?_ | refine AppN.mk ?_ | (refine CallS.q ?_; (conv => whnf); first | refine CallG.plain rfl ?_ ?_ | refine CallG.mk rfl ?_ ?_) | (refine CallS.m ?_; (conv => whnf); refine CallM.mk rfl ?_ ?_) | (refine CallS.h ?_; (conv => whnf); refine CallM.mk rfl ?_ ?_) | (refine CallS.b ?_; (conv => whnf); refine CallM.mk rfl ?_ ?_) | (refine CallS.z ?_; (conv => whnf); refine CallM.mk rfl ?_ ?_))
  all_goals (try (conv => whnf))
  all_goals (try (exact Ob.mk (u8_bnd _)))
  all_goals (try (refine Ob.mk ?_; first | exact True.intro | assumption | omega | (try simp only [decide_eq_true_eq, decide_eq_false_iff_not, beq_iff_eq, beq_eq_false_iff_ne, bne_iff_ne, bne_eq_false_iff_eq, ne_eq, Bool.and_eq_true, Bool.or_eq_true, Bool.not_eq_true, Bool.not_eq_false, Bool.not_eq_true', Bool.not_eq_false', Int.toNat_natCast, Int.not_lt, Int.not_le, UInt8.ofNat_toNat, cast_eq] at *; omega)))
  all_goals (try ((show (_:Int) = _); omega))
  all_goals (try (show tupSV _ = _; with_unfolding_all rfl))
  all_goals (try ((show (_ : Nat) ≤ _); (simp <;> omega)))
  all_goals (try ((show (_ : Nat) ≤ _ ∧ (_ : Nat) ≤ _); (simp <;> omega)))
  all_goals (try ((show (_ : Int) ≤ _ ∧ (_ : Int) ≤ _ ∧ (_ : Int) ≤ _ ∧ (_ : Int) ≤ _); (simp <;> omega)))
  refine LoopStop.mk (α := Nat) (fun i => [(4, .int .i64 i)]) (fun i => [(0, .own .byte (lowAt s i))]) 20 (fun i => i ≤ s.length) (fun i => s.length + 1 - i) 0 (by simp) ?_ (fun i hi => ?_)
  · repeat' ((conv => whnf); first | (with_reducible rfl) | exact True.intro | (with_reducible exact absTF) | (with_reducible exact absFT) | intro _ | refine And.intro ?_ ?_ | refine Fin.mk ?_ | refine CallG.plain rfl ?_ ?_ | refine CallG.mk rfl ?_ ?_ | refine CallG.nwl rfl ?_ ?_ | refine CallG.nw ?_ ?_ | refine CallF.nwl rfl ?_ ?_ | refine CallF.nw ?_ ?_ | refine AppN.mk ?_ | (refine CallS.q ?_; (conv => whnf); first | refine CallG.plain rfl ?_ ?_ | refine CallG.mk rfl ?_ ?_) | (refine CallS.m ?_; (conv => whnf); refine CallM.mk rfl ?_ ?_) | (refine CallS.h ?_; (conv => whnf); refine CallM.mk rfl ?_ ?_) | (refine CallS.b ?_; (conv => whnf); refine CallM.mk rfl ?_ ?_) | (refine CallS.z ?_; (conv => whnf); refine CallM.mk rfl ?_ ?_))
    all_goals (try (conv => whnf))
    all_goals (try (exact Ob.mk (u8_bnd _)))
    all_goals (try (refine Ob.mk ?_; first | exact True.intro | assumption | omega | (try simp only [decide_eq_true_eq, decide_eq_false_iff_not, beq_iff_eq, beq_eq_false_iff_ne, bne_iff_ne, bne_eq_false_iff_eq, ne_eq, Bool.and_eq_true, Bool.or_eq_true, Bool.not_eq_true, Bool.not_eq_false, Bool.not_eq_true', Bool.not_eq_false', Int.toNat_natCast, Int.not_lt, Int.not_le, UInt8.ofNat_toNat, cast_eq] at *; omega)))
    all_goals (try ((show (_:Int) = _); omega))
    all_goals (try (show tupSV _ = _; with_unfolding_all rfl))
    all_goals (try ((show (_ : Nat) ≤ _); (simp <;> omega)))
    all_goals (try ((show (_ : Nat) ≤ _ ∧ (_ : Nat) ≤ _); (simp <;> omega)))
    all_goals (try ((show (_ : Int) ≤ _ ∧ (_ : Int) ≤ _ ∧ (_ : Int) ≤ _ ∧ (_ : Int) ≤ _); (simp <;> omega)))
    all_goals rfl
  · have hg := fun h => lowAt_get s i h
    have hst := fun h => lowAt_set s i h
    have hln := lowAt_len s i hi
    have ue : (decide ((((lowAt s i).getD i 0).toNat : Int) ≥ 65) && decide ((((lowAt s i).getD i 0).toNat : Int) ≤ 90)) = upB ((lowAt s i).getD i 0) := up_eq _
    repeat' ((conv => whnf); first | (with_reducible rfl) | exact True.intro | (with_reducible exact absTF) | (with_reducible exact absFT) | intro _ | refine And.intro ?_ ?_ | refine Fin.mk ?_ | refine CallG.plain rfl ?_ ?_ | refine CallG.mk rfl ?_ ?_ | refine CallG.nwl rfl ?_ ?_ | refine CallG.nw ?_ ?_ | refine CallF.nwl rfl ?_ ?_ | refine CallF.nw ?_ ?_ | refine AppN.mk ?_ | (refine CallS.q ?_; (conv => whnf); first | refine CallG.plain rfl ?_ ?_ | refine CallG.mk rfl ?_ ?_) | (refine CallS.m ?_; (conv => whnf); refine CallM.mk rfl ?_ ?_) | (refine CallS.h ?_; (conv => whnf); refine CallM.mk rfl ?_ ?_) | (refine CallS.b ?_; (conv => whnf); refine CallM.mk rfl ?_ ?_) | (refine CallS.z ?_; (conv => whnf); refine CallM.mk rfl ?_ ?_))
    all_goals (try (conv => whnf))
    all_goals (try (exact Ob.mk (u8_bnd _)))
    all_goals (try (refine Ob.mk ?_; first | exact True.intro | assumption | omega | (try simp only [decide_eq_true_eq, decide_eq_false_iff_not, beq_iff_eq, beq_eq_false_iff_ne, bne_iff_ne, bne_eq_false_iff_eq, ne_eq, Bool.and_eq_true, Bool.or_eq_true, Bool.not_eq_true, Bool.not_eq_false, Bool.not_eq_true', Bool.not_eq_false', Int.toNat_natCast, Int.not_lt, Int.not_le, UInt8.ofNat_toNat, cast_eq] at *; omega)))
    all_goals (try ((show (_:Int) = _); omega))
    all_goals (try (show tupSV _ = _; with_unfolding_all rfl))
    all_goals (try ((show (_ : Nat) ≤ _); (simp <;> omega)))
    all_goals (try ((show (_ : Nat) ≤ _ ∧ (_ : Nat) ≤ _); (simp <;> omega)))
    all_goals (try ((show (_ : Int) ≤ _ ∧ (_ : Int) ≤ _ ∧ (_ : Int) ≤ _ ∧ (_ : Int) ≤ _); (simp <;> omega)))
    all_goals (try simp only [Int.toNat_natCast, Ty.dflt] at *)
    all_goals (first | exact low_addb _ | skip)
    · rename_i hl h
      have hl := of_decide_eq_true hl
      have h : upB ((lowAt s i).getD i 0) = true := ue.symm.trans h
      refine Rnd.mk ⟨i + 1, by omega, by omega, ?_⟩
      repeat' ((conv => whnf); first | (with_reducible rfl) | exact True.intro | (with_reducible exact absTF) | (with_reducible exact absFT) | intro _ | refine And.intro ?_ ?_ | refine Fin.mk ?_ | refine CallG.plain rfl ?_ ?_ | refine CallG.mk rfl ?_ ?_ | refine CallG.nwl rfl ?_ ?_ | refine CallG.nw ?_ ?_ | refine CallF.nwl rfl ?_ ?_ | refine CallF.nw ?_ ?_ | refine AppN.mk ?_ | (refine CallS.q ?_; (conv => whnf); first | refine CallG.plain rfl ?_ ?_ | refine CallG.mk rfl ?_ ?_) | (refine CallS.m ?_; (conv => whnf); refine CallM.mk rfl ?_ ?_) | (refine CallS.h ?_; (conv => whnf); refine CallM.mk rfl ?_ ?_) | (refine CallS.b ?_; (conv => whnf); refine CallM.mk rfl ?_ ?_) | (refine CallS.z ?_; (conv => whnf); refine CallM.mk rfl ?_ ?_))
      all_goals (try (conv => whnf))
      all_goals (try (exact Ob.mk (u8_bnd _)))
      all_goals (try (refine Ob.mk ?_; first | exact True.intro | assumption | omega | (try simp only [decide_eq_true_eq, decide_eq_false_iff_not, beq_iff_eq, beq_eq_false_iff_ne, bne_iff_ne, bne_eq_false_iff_eq, ne_eq, Bool.and_eq_true, Bool.or_eq_true, Bool.not_eq_true, Bool.not_eq_false, Bool.not_eq_true', Bool.not_eq_false', Int.toNat_natCast, Int.not_lt, Int.not_le, UInt8.ofNat_toNat, cast_eq] at *; omega)))
      all_goals (try ((show (_:Int) = _); omega))
      all_goals (try (show tupSV _ = _; with_unfolding_all rfl))
      all_goals (try ((show (_ : Nat) ≤ _); (simp <;> omega)))
      all_goals (try ((show (_ : Nat) ≤ _ ∧ (_ : Nat) ≤ _); (simp <;> omega)))
      all_goals (try ((show (_ : Int) ≤ _ ∧ (_ : Int) ≤ _ ∧ (_ : Int) ≤ _ ∧ (_ : Int) ≤ _); (simp <;> omega)))
      all_goals (rw [low_add _ h, hg (by omega), hst (by omega)])
    · rename_i hl h
      have hl := of_decide_eq_true hl
      have h : upB ((lowAt s i).getD i 0) = false := ue.symm.trans h
      rw [hg (by omega)] at h
      refine Rnd.mk ⟨i + 1, by omega, by omega, ?_⟩
      repeat' ((conv => whnf); first | (with_reducible rfl) | exact True.intro | (with_reducible exact absTF) | (with_reducible exact absFT) | intro _ | refine And.intro ?_ ?_ | refine Fin.mk ?_ | refine CallG.plain rfl ?_ ?_ | refine CallG.mk rfl ?_ ?_ | refine CallG.nwl rfl ?_ ?_ | refine CallG.nw ?_ ?_ | refine CallF.nwl rfl ?_ ?_ | refine CallF.nw ?_ ?_ | refine AppN.mk ?_ | (refine CallS.q ?_; (conv => whnf); first | refine CallG.plain rfl ?_ ?_ | refine CallG.mk rfl ?_ ?_) | (refine CallS.m ?_; (conv => whnf); refine CallM.mk rfl ?_ ?_) | (refine CallS.h ?_; (conv => whnf); refine CallM.mk rfl ?_ ?_) | (refine CallS.b ?_; (conv => whnf); refine CallM.mk rfl ?_ ?_) | (refine CallS.z ?_; (conv => whnf); refine CallM.mk rfl ?_ ?_))
      all_goals (try (conv => whnf))
      all_goals (try (exact Ob.mk (u8_bnd _)))
      all_goals (try (refine Ob.mk ?_; first | exact True.intro | assumption | omega | (try simp only [decide_eq_true_eq, decide_eq_false_iff_not, beq_iff_eq, beq_eq_false_iff_ne, bne_iff_ne, bne_eq_false_iff_eq, ne_eq, Bool.and_eq_true, Bool.or_eq_true, Bool.not_eq_true, Bool.not_eq_false, Bool.not_eq_true', Bool.not_eq_false', Int.toNat_natCast, Int.not_lt, Int.not_le, UInt8.ofNat_toNat, cast_eq] at *; omega)))
      all_goals (try ((show (_:Int) = _); omega))
      all_goals (try (show tupSV _ = _; with_unfolding_all rfl))
      all_goals (try ((show (_ : Nat) ≤ _); (simp <;> omega)))
      all_goals (try ((show (_ : Nat) ≤ _ ∧ (_ : Nat) ≤ _); (simp <;> omega)))
      all_goals (try ((show (_ : Int) ≤ _ ∧ (_ : Int) ≤ _ ∧ (_ : Int) ≤ _ ∧ (_ : Int) ≤ _); (simp <;> omega)))
      all_goals (rw [lowAt_same s i (by omega) h])
    · rename_i hl
      have hl := of_decide_eq_false hl
      have : i = s.length := by omega
      rw [this, lowAt_end]
theorem lowL_len (s : List UInt8) : (lowL s).length = s.length := by simp [lowL]
instance aFold (s t : List UInt8) : Fn BB 17 [.str s, .str t] True (.bool (lowL s == lowL t)) := by
  refine Fn.intro (N := 17) [0, 1, 4] [] Tryd.call17 Tryd.func17 rfl rfl (by kernel_rfl) (fun hpre => ?_)
  repeat' ((conv => whnf); first | (with_reducible rfl) | exact True.intro | (with_reducible exact absTF) | (with_reducible exact absFT) | intro _ | refine And.intro ?_ ?_ | refine Fin.mk ?_ | refine CallG.plain rfl ?_ ?_ | refine CallG.mk rfl ?_ ?_ | refine CallG.nwl rfl ?_ ?_ | refine CallG.nw ?_ ?_ | refine CallF.nwl rfl ?_ ?_ | refine CallF.nw ?_ ?_ | refine AppN.mk ?_ | (refine CallS.q ?_; (conv => whnf); first | refine CallG.plain rfl ?_ ?_ | refine CallG.mk rfl ?_ ?_) | (refine CallS.m ?_; (conv => whnf); refine CallM.mk rfl ?_ ?_) | (refine CallS.h ?_; (conv => whnf); refine CallM.mk rfl ?_ ?_) | (refine CallS.b ?_; (conv => whnf); refine CallM.mk rfl ?_ ?_) | (refine CallS.z ?_; (conv => whnf); refine CallM.mk rfl ?_ ?_))
  all_goals (try (conv => whnf))
  all_goals (try (exact Ob.mk (u8_bnd _)))
  all_goals (try (refine Ob.mk ?_; first | exact True.intro | assumption | omega | (try simp only [decide_eq_true_eq, decide_eq_false_iff_not, beq_iff_eq, beq_eq_false_iff_ne, bne_iff_ne, bne_eq_false_iff_eq, ne_eq, Bool.and_eq_true, Bool.or_eq_true, Bool.not_eq_true, Bool.not_eq_false, Bool.not_eq_true', Bool.not_eq_false', Int.toNat_natCast, Int.not_lt, Int.not_le, UInt8.ofNat_toNat, cast_eq] at *; omega)))
  all_goals (try ((show (_:Int) = _); omega))
  all_goals (try (show tupSV _ = _; with_unfolding_all rfl))
  all_goals (try ((show (_ : Nat) ≤ _); (simp <;> omega)))
  all_goals (try ((show (_ : Nat) ≤ _ ∧ (_ : Nat) ≤ _); (simp <;> omega)))
  all_goals (try ((show (_ : Int) ≤ _ ∧ (_ : Int) ≤ _ ∧ (_ : Int) ≤ _ ∧ (_ : Int) ≤ _); (simp <;> omega)))
  by_cases q : lowL s = lowL t
  · have h1 := congrArg List.length q
    rw [lowL_len, lowL_len] at h1
    simp [q, h1]
  · simp [q]
instance aRFold (s t : List UInt8) : Fn BB 18 [.str s, .str t] True (.bool (lowL s == lowL t)) := by
  refine Fn.intro (N := 10) [0, 1, 4] [] Tryd.call18 Tryd.func18 rfl rfl (by kernel_rfl) (fun hpre => ?_)
  repeat' ((conv => whnf); first | (with_reducible rfl) | exact True.intro | (with_reducible exact absTF) | (with_reducible exact absFT) | intro _ | refine And.intro ?_ ?_ | refine Fin.mk ?_ | refine CallG.plain rfl ?_ ?_ | refine CallG.mk rfl ?_ ?_ | refine CallG.nwl rfl ?_ ?_ | refine CallG.nw ?_ ?_ | refine CallF.nwl rfl ?_ ?_ | refine CallF.nw ?_ ?_ | refine AppN.mk ?_ | (refine CallS.q ?_; (conv => whnf); first | refine CallG.plain rfl ?_ ?_ | refine CallG.mk rfl ?_ ?_) | (refine CallS.m ?_; (conv => whnf); refine CallM.mk rfl ?_ ?_) | (refine CallS.h ?_; (conv => whnf); refine CallM.mk rfl ?_ ?_) | (refine CallS.b ?_; (conv => whnf); refine CallM.mk rfl ?_ ?_) | (refine CallS.z ?_; (conv => whnf); refine CallM.mk rfl ?_ ?_))
  all_goals (try (conv => whnf))
  all_goals (try (exact Ob.mk (u8_bnd _)))
  all_goals (try (refine Ob.mk ?_; first | exact True.intro | assumption | omega | (try simp only [decide_eq_true_eq, decide_eq_false_iff_not, beq_iff_eq, beq_eq_false_iff_ne, bne_iff_ne, bne_eq_false_iff_eq, ne_eq, Bool.and_eq_true, Bool.or_eq_true, Bool.not_eq_true, Bool.not_eq_false, Bool.not_eq_true', Bool.not_eq_false', Int.toNat_natCast, Int.not_lt, Int.not_le, UInt8.ofNat_toNat, cast_eq] at *; omega)))
  all_goals (try ((show (_:Int) = _); omega))
  all_goals (try (show tupSV _ = _; with_unfolding_all rfl))
  all_goals (try ((show (_ : Nat) ≤ _); (simp <;> omega)))
  all_goals (try ((show (_ : Nat) ≤ _ ∧ (_ : Nat) ≤ _); (simp <;> omega)))
  all_goals (try ((show (_ : Int) ≤ _ ∧ (_ : Int) ≤ _ ∧ (_ : Int) ≤ _ ∧ (_ : Int) ≤ _); (simp <;> omega)))
end Go.Vc

namespace Go.Vc
open Go.Proofs
set_option linter.unusedVariables false
set_option maxRecDepth 10000
set_option linter.unusedSimpArgs false
set_option maxHeartbeats 2000000
def spS : List UInt8 := [9, 10, 12, 13, 32]
def spB (c : UInt8) : Bool := W.isSp c.toNat
theorem sp_contains (c : UInt8) : spS.contains c = spB c := by
  have key : ∀ k : _root_.Fin 256, spS.contains (UInt8.ofNat k.val) = W.isSp (k.val : Int) := by decide +kernel
  have := key ⟨c.toNat, c.toNat_lt⟩
  simp only [UInt8.ofNat_toNat] at this
  exact this
def dropR (p : UInt8 → Bool) (l : List UInt8) : List UInt8 := (l.reverse.dropWhile p).reverse
def trimW (l : List UInt8) : List UInt8 := (dropR spB l).dropWhile spB
theorem trimS_W (l : List UInt8) : Lib.trimS l spS = trimW l := by
  unfold Lib.trimS Lib.trimLeftS Lib.trimRightS trimW dropR
  have : (fun x => spS.contains x) = spB := funext sp_contains
  simp only [this]
theorem trimW_le (l : List UInt8) : (trimW l).length ≤ l.length := by
  unfold trimW dropR
  have h1 := (List.dropWhile_sublist spB (l := (l.reverse.dropWhile spB).reverse)).length_le
  have h2 := (List.dropWhile_sublist spB (l := l.reverse)).length_le
  simp at h1 h2 ⊢
  omega
theorem dw_nil (p : UInt8 → Bool) (l : List UInt8) : l.dropWhile p = [] ↔ ∀ x ∈ l, p x = true := by
  induction l with
  | nil => simp
  | cons c r ih =>
    rw [List.dropWhile_cons]
    split
    · rename_i h; rw [ih]; simp [h]
    · rename_i h; simp [h]
instance aTrimL (s : List UInt8) : Fn BB 30 [.str s, .str [9, 10, 12, 13, 32]] True (.str (trimW s)) := by
  refine Fn.liftB Tryd.call30 fun hp r β w vs hG m h => ?_
  obtain ⟨rfl, h1, h2⟩ := h.str2
  refine ⟨_, (Any.strings_Trim_laid Tryd.lays160 (by kernel_rfl) ⟨s.toArray⟩ ⟨spS.toArray⟩ w (by show s.toArray.size ≤ _; simpa using h1) (by decide) (fun j b hb => ?_)).mono fun e w' hh => ?_, .str (by have := trimW_le s; omega)⟩
  · have := List.mem_of_getElem? hb
    revert this
    show b ∈ spS → _
    simp only [spS, List.mem_cons, List.not_mem_nil, or_false]
    rintro (rfl | rfl | rfl | rfl | rfl) <;> decide
  · obtain ⟨rfl, hb⟩ := hh
    refine ⟨?_, hb⟩
    show _ = Ending.returned (Value.string ⟨(trimW s).toArray⟩)
    rw [← trimS_W]
instance aTrim (s : List UInt8) : Fn BB 21 [.str s] True (.str (trimW s)) := by
  refine Fn.intro (N := 5) [0, 2] [] Tryd.call21 Tryd.func21 rfl rfl (by kernel_rfl) (fun hpre => ?_)
  repeat' ((conv => whnf); first | (with_reducible rfl) | exact True.intro | (with_reducible exact absTF) | (with_reducible exact absFT) | intro _ | refine And.intro ?_ ?_ | refine Fin.mk ?_ | refine CallG.plain rfl ?_ ?_ | refine CallG.mk rfl ?_ ?_ | refine CallG.nwl rfl ?_ ?_ | refine CallG.nw ?_ ?_ | refine CallF.nwl rfl ?_ ?_ | refine CallF.nw ?_ ?_ | refine AppN.mk ?_ | (refine CallS.q ?_; (conv => whnf); first | refine CallG.plain rfl ?_ ?_ | refine CallG.mk rfl ?_ ?_) | (refine CallS.m ?_; (conv => whnf); refine CallM.mk rfl ?_ ?_) | (refine CallS.h ?_; (conv => whnf); refine CallM.mk rfl ?_ ?_) | (refine CallS.b ?_; (conv => whnf); refine CallM.mk rfl ?_ ?_) | (refine CallS.z ?_; (conv => whnf); refine CallM.mk rfl ?_ ?_))
  all_goals (try (conv => whnf))
  all_goals (try (exact Ob.mk (u8_bnd _)))
  all_goals (try (refine Ob.mk ?_; first | exact True.intro | assumption | omega | (try simp only [decide_eq_true_eq, decide_eq_false_iff_not, beq_iff_eq, beq_eq_false_iff_ne, bne_iff_ne, bne_eq_false_iff_eq, ne_eq, Bool.and_eq_true, Bool.or_eq_true, Bool.not_eq_true, Bool.not_eq_false, Bool.not_eq_true', Bool.not_eq_false', Int.toNat_natCast, Int.not_lt, Int.not_le, UInt8.ofNat_toNat, cast_eq] at *; omega)))
  all_goals (try ((show (_:Int) = _); omega))
  all_goals (try (show tupSV _ = _; with_unfolding_all rfl))
  all_goals (try ((show (_ : Nat) ≤ _); (simp <;> omega)))
  all_goals (try ((show (_ : Nat) ≤ _ ∧ (_ : Nat) ≤ _); (simp <;> omega)))
  all_goals (try ((show (_ : Int) ≤ _ ∧ (_ : Int) ≤ _ ∧ (_ : Int) ≤ _ ∧ (_ : Int) ≤ _); (simp <;> omega)))
instance aBlank (s : List UInt8) : Fn BB 19 [.str s] True (.bool (trimW s == [])) := by
  refine Fn.intro (N := 6) [0, 2] [] Tryd.call19 Tryd.func19 rfl rfl (by kernel_rfl) (fun hpre => ?_)
  repeat' ((conv => whnf); first | (with_reducible rfl) | exact True.intro | (with_reducible exact absTF) | (with_reducible exact absFT) | intro _ | refine And.intro ?_ ?_ | refine Fin.mk ?_ | refine CallG.plain rfl ?_ ?_ | refine CallG.mk rfl ?_ ?_ | refine CallG.nwl rfl ?_ ?_ | refine CallG.nw ?_ ?_ | refine CallF.nwl rfl ?_ ?_ | refine CallF.nw ?_ ?_ | refine AppN.mk ?_ | (refine CallS.q ?_; (conv => whnf); first | refine CallG.plain rfl ?_ ?_ | refine CallG.mk rfl ?_ ?_) | (refine CallS.m ?_; (conv => whnf); refine CallM.mk rfl ?_ ?_) | (refine CallS.h ?_; (conv => whnf); refine CallM.mk rfl ?_ ?_) | (refine CallS.b ?_; (conv => whnf); refine CallM.mk rfl ?_ ?_) | (refine CallS.z ?_; (conv => whnf); refine CallM.mk rfl ?_ ?_))
  all_goals (try (conv => whnf))
  all_goals (try (exact Ob.mk (u8_bnd _)))
  all_goals (try (refine Ob.mk ?_; first | exact True.intro | assumption | omega | (try simp only [decide_eq_true_eq, decide_eq_false_iff_not, beq_iff_eq, beq_eq_false_iff_ne, bne_iff_ne, bne_eq_false_iff_eq, ne_eq, Bool.and_eq_true, Bool.or_eq_true, Bool.not_eq_true, Bool.not_eq_false, Bool.not_eq_true', Bool.not_eq_false', Int.toNat_natCast, Int.not_lt, Int.not_le, UInt8.ofNat_toNat, cast_eq] at *; omega)))
  all_goals (try ((show (_:Int) = _); omega))
  all_goals (try (show tupSV _ = _; with_unfolding_all rfl))
  all_goals (try ((show (_ : Nat) ≤ _); (simp <;> omega)))
  all_goals (try ((show (_ : Nat) ≤ _ ∧ (_ : Nat) ≤ _); (simp <;> omega)))
  all_goals (try ((show (_ : Int) ≤ _ ∧ (_ : Int) ≤ _ ∧ (_ : Int) ≤ _ ∧ (_ : Int) ≤ _); (simp <;> omega)))
theorem dropWhile_idem (p : UInt8 → Bool) (l : List UInt8) : (l.dropWhile p).dropWhile p = l.dropWhile p := by
  induction l with
  | nil => rfl
  | cons c r ih =>
    rw [List.dropWhile_cons]
    split
    · exact ih
    · rename_i h; rw [List.dropWhile_cons, if_neg h]
theorem dropR_snoc (p : UInt8 → Bool) (l : List UInt8) (c : UInt8) : dropR p (l ++ [c]) = if p c then dropR p l else l ++ [c] := by
  unfold dropR
  rw [List.reverse_append, List.reverse_singleton, List.singleton_append, List.dropWhile_cons]
  split <;> simp
theorem dropR_cons (p : UInt8 → Bool) (l : List UInt8) (c : UInt8) (h : p c = false) : dropR p (c :: l) = c :: dropR p l := by
  unfold dropR
  rw [List.reverse_cons]
  have key : ∀ m : List UInt8, ((m ++ [c]).dropWhile p) = m.dropWhile p ++ [c] := by
    intro m
    induction m with
    | nil => simp [List.dropWhile_cons, h]
    | cons x r ih =>
      rw [List.cons_append, List.dropWhile_cons, List.dropWhile_cons]
      split
      · exact ih
      · rfl
  rw [key]; simp
theorem dropR_all (p : UInt8 → Bool) (l : List UInt8) (h : ∀ c ∈ l, p c = true) : dropR p l = [] := by
  unfold dropR
  rw [List.reverse_eq_nil_iff, dw_nil]
  intro c hc; exact h c (by simpa using hc)
/-- both ends: it does not matter which goes first -/
theorem dropR_dropWhile (p : UInt8 → Bool) (l : List UInt8) : dropR p (l.dropWhile p) = (dropR p l).dropWhile p := by
  induction l with
  | nil => rfl
  | cons c r ih =>
    rw [List.dropWhile_cons]
    cases h : p c with
    | false =>
      rw [if_neg (by simp), dropR_cons p r c h, List.dropWhile_cons, if_neg (by simp [h])]
    | true =>
      rw [if_pos rfl, ih]
      by_cases ha : ∀ x ∈ r, p x = true
      · rw [dropR_all p r ha, dropR_all p (c :: r) (by intro x hx; rcases List.mem_cons.1 hx with rfl | hx; exact h; exact ha x hx)]
      · have : dropR p (c :: r) = c :: dropR p r := by
          unfold dropR
          rw [List.reverse_cons]
          have key : ∀ m : List UInt8, (¬ ∀ x ∈ m, p x = true) → ((m ++ [c]).dropWhile p) = m.dropWhile p ++ [c] := by
            intro m
            induction m with
            | nil => intro q; exact absurd (by simp) q
            | cons x t ih2 =>
              intro q
              rw [List.cons_append, List.dropWhile_cons, List.dropWhile_cons]
              split
              · rename_i hx
                exact ih2 fun q2 => q fun y hy => by
                  rcases List.mem_cons.1 hy with rfl | hy
                  · exact hx
                  · exact q2 y hy
              · rfl
          rw [key r.reverse (fun q => ha fun x hx => q x (by simpa using hx))]; simp
        rw [this, List.dropWhile_cons, if_pos h]
theorem dropR_idem (p : UInt8 → Bool) (l : List UInt8) : dropR p (dropR p l) = dropR p l := by
  unfold dropR
  rw [List.reverse_reverse, dropWhile_idem]
theorem trimW_idem (l : List UInt8) : trimW (trimW l) = trimW l := by
  unfold trimW
  rw [dropR_dropWhile, dropWhile_idem, dropR_idem]
theorem trimW_blank (l : List UInt8) : (trimW l == []) = l.all spB := by
  rw [Bool.eq_iff_iff, beq_iff_eq, List.all_eq_true]
  constructor
  · intro h c hc
    unfold trimW at h
    rw [← dropR_dropWhile] at h
    unfold dropR at h
    rw [List.reverse_eq_nil_iff, dw_nil] at h
    have h' : ∀ x ∈ l.dropWhile spB, spB x = true := fun x hx => h x (by simpa using hx)
    have : l.dropWhile spB = [] := by
      cases hd : l.dropWhile spB with
      | nil => rfl
      | cons y t =>
        have hy := List.head?_dropWhile_not spB l
        rw [hd] at hy
        simp at hy
        rw [h' y (by rw [hd]; simp)] at hy
        cases hy
    exact (dw_nil spB l).1 this c hc
  · intro h
    unfold trimW
    rw [dropR_all spB l h]; rfl
theorem lowB_idem (c : UInt8) : lowB (lowB c) = lowB c := by
  have key : ∀ k : _root_.Fin 256, lowB (lowB (UInt8.ofNat k.val)) = lowB (UInt8.ofNat k.val) := by decide +kernel
  have := key ⟨c.toNat, c.toNat_lt⟩
  simpa only [UInt8.ofNat_toNat] using this
theorem lowL_idem (l : List UInt8) : lowL (lowL l) = lowL l := by
  unfold lowL
  rw [List.map_map]
  congr 1
  funext c
  exact lowB_idem c
end Go.Vc
