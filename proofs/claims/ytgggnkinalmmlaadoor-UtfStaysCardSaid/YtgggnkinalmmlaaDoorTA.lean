/- A part of the proof: lemmas and walks that the last text of the claim joins; no condition. -/
import GoSem.Core.Utf8
import Derived.Lib.DecodeN
import Derived.Lib.TrimU
set_option linter.unusedVariables false
set_option linter.unusedSimpArgs false
/-! Law 04, in plain Lean: what the references stand for, by the program's road and by the document's. -/
namespace Go.Vc
set_option autoImplicit false

/-- a character's bytes -/
def encN (n : Int) : List UInt8 := (Utf8.encode (if n < 0 ∨ n > 1114111 ∨ (55296 ≤ n ∧ n ≤ 57343) then 65533 else n)).data.toList
theorem encN_len (n : Int) : (encN n).length ≤ 4 := by
  unfold encN
  generalize (if n < 0 ∨ n > 1114111 ∨ (55296 ≤ n ∧ n ≤ 57343) then (65533 : Int) else n) = c
  unfold Utf8.encode
  generalize (if Utf8.valid c then c.toNat else Utf8.runeError) = c
  dsimp only
  split
  · simp
  · split
    · simp
    · split <;> simp
def alI (c : Int) : Bool := (decide (65 ≤ c) && decide (c ≤ 90)) || (decide (97 ≤ c) && decide (c ≤ 122))
def anI (c : Int) : Bool := alI c || (decide (48 ≤ c) && decide (c ≤ 57))
def hexI (c : Int) : Int := if 48 ≤ c ∧ c ≤ 57 then c - 48 else if 97 ≤ c ∧ c ≤ 102 then c - 87 else if 65 ≤ c ∧ c ≤ 70 then c - 55 else -1
def alB (c : UInt8) : Bool := alI c.toNat
def anB (c : UInt8) : Bool := anI c.toNat
def hexV (c : UInt8) : Int := hexI c.toNat

def shortTab : List (List UInt8 × Int) := [
  ([97, 109, 112], 38), ([65, 77, 80], 38), ([108, 116], 60), ([76, 84], 60), ([103, 116], 62), ([71, 84], 62),
  ([113, 117, 111, 116], 34), ([81, 85, 79, 84], 34), ([110, 98, 115, 112], 160), ([99, 111, 112, 121], 169), ([114, 101, 103], 174), ([115, 104, 121], 173),
  ([112, 97, 114, 97], 182), ([115, 101, 99, 116], 167), ([116, 105, 109, 101, 115], 215), ([100, 105, 118, 105, 100, 101], 247), ([109, 105, 99, 114, 111], 181), ([109, 105, 100, 100, 111, 116], 183),
  ([110, 111, 116], 172), ([100, 101, 103], 176), ([121, 101, 110], 165), ([99, 101, 110, 116], 162), ([112, 111, 117, 110, 100], 163), ([108, 97, 113, 117, 111], 171),
  ([114, 97, 113, 117, 111], 187)]
def longTab : List (List UInt8 × Int) := [
  ([97, 112, 111, 115], 39), ([99, 111, 108, 111, 110], 58), ([84, 97, 98], 9), ([78, 101, 119, 76, 105, 110, 101], 10), ([108, 112, 97, 114], 40), ([114, 112, 97, 114], 41),
  ([115, 111, 108], 47), ([110, 117, 109], 35), ([115, 101, 109, 105], 59), ([101, 113, 117, 97, 108, 115], 61), ([101, 120, 99, 108], 33), ([99, 111, 109, 109, 97, 116], 64),
  ([113, 117, 101, 115, 116], 63), ([99, 111, 109, 109, 97], 44), ([112, 101, 114, 105, 111, 100], 46), ([108, 98, 114, 97, 99, 101], 123), ([114, 98, 114, 97, 99, 101], 125), ([108, 115, 113, 98], 91),
  ([114, 115, 113, 98], 93), ([103, 114, 97, 118, 101], 96), ([104, 101, 108, 108, 105, 112], 8230), ([109, 100, 97, 115, 104], 8212), ([110, 100, 97, 115, 104], 8211), ([108, 115, 113, 117, 111], 8216),
  ([114, 115, 113, 117, 111], 8217), ([108, 100, 113, 117, 111], 8220), ([114, 100, 113, 117, 111], 8221), ([98, 117, 108, 108], 8226), ([101, 117, 114, 111], 8364), ([116, 114, 97, 100, 101], 8482),
  ([108, 97, 114, 114], 8592), ([114, 97, 114, 114], 8594), ([122, 119, 106], 8205), ([122, 119, 110, 106], 8204), ([110, 111, 116, 105, 110], 8713), ([110, 101], 8800)]
def winTab : List Int := [8364, 0, 8218, 402, 8222, 8230, 8224, 8225, 710, 8240, 352, 8249, 338, 0, 381, 0, 0, 8216, 8217, 8220, 8221, 8226, 8211, 8212, 732, 8482, 353, 8250, 339, 0, 382, 376]
def fromTab : List Int := [128, 130, 131, 132, 133, 134, 135, 136, 137, 138, 139, 140, 142, 145, 146, 147, 148, 149, 150, 151, 152, 153, 154, 155, 156, 158, 159]
def toTab : List Int := [8364, 8218, 402, 8222, 8230, 8224, 8225, 710, 8240, 352, 8249, 338, 381, 8216, 8217, 8220, 8221, 8226, 8211, 8212, 732, 8482, 353, 8250, 339, 382, 376]

def lookT (t : List (List UInt8 × Int)) (k : List UInt8) : Int := match t.find? (fun e => k == e.1) with | some e => e.2 | none => 0
def endedOf (name : List UInt8) : Bool := decide (name.length > 0) && name.getD (name.length - 1) 0 == 59
def bareOf (name : List UInt8) : List UInt8 := if endedOf name = true then name.take (name.length - 1) else name
def namedN (name : List UInt8) : Int :=
  if lookT shortTab (bareOf name) = 0 ∧ endedOf name = true then lookT longTab (bareOf name) else lookT shortTab (bareOf name)
def named (name : List UInt8) : List UInt8 × Bool := if namedN name = 0 then ([], false) else (encN (namedN name), true)

def refTab : List (List UInt8 × Int) := shortTab ++ longTab.map fun e => (e.1 ++ [59], e.2)
def refHit (name : List UInt8) (e : List UInt8 × Int) : Bool := e.1 == name || (e.1.getD (e.1.length - 1) 0 != 59 && e.1 ++ [59] == name)
def refNamed (name : List UInt8) : List UInt8 × Bool := match refTab.find? (refHit name) with | some e => (encN e.2, true) | none => ([], false)

theorem find_congr {α : Type} {l : List α} {p q : α → Bool} (h : ∀ e ∈ l, p e = q e) : l.find? p = l.find? q := by
  induction l with
  | nil => rfl
  | cons x r ih => simp only [List.find?_cons, h x (by simp), ih (fun e he => h e (by simp [he]))]
theorem ended_iff {name : List UInt8} (h : endedOf name = true) : name = bareOf name ++ [59] := by
  have hb : bareOf name = name.take (name.length - 1) := by unfold bareOf; rw [if_pos h]
  rw [hb]
  simp only [endedOf, Bool.and_eq_true, decide_eq_true_eq, beq_iff_eq] at h
  obtain ⟨h1, h2⟩ := h
  have e : name.length - 1 + 1 = name.length := by omega
  have hlt : name.length - 1 < name.length := by omega
  have h3 : name[name.length - 1] = 59 := by rw [← h2]; simp [List.getD, List.getElem?_eq_getElem hlt]
  have h4 : name.take (name.length - 1 + 1) = name.take (name.length - 1) ++ [name[name.length - 1]] := by rw [List.take_append_getElem hlt]
  rw [h3, e, List.take_length] at h4
  exact h4
theorem ended_snoc (l : List UInt8) : endedOf (l ++ [59]) = true := by simp [endedOf]
theorem bare_snoc (l : List UInt8) : bareOf (l ++ [59]) = l := by unfold bareOf; rw [if_pos (ended_snoc l)]; simp
theorem bare_not {name : List UInt8} (h : endedOf name = false) : bareOf name = name := by unfold bareOf; rw [h]; simp
theorem last_ended {l : List UInt8} (h0 : l ≠ []) : endedOf l = (l.getD (l.length - 1) 0 == 59) := by
  have : l.length > 0 := List.length_pos_iff.mpr h0
  simp [endedOf, this]
theorem hit_short {name e : List UInt8} {k : Int} (h0 : endedOf e = false) (h1 : e ≠ []) : refHit name (e, k) = (e == bareOf name) := by
  have hl : (e.getD (e.length - 1) 0 != 59) = true := by
    have := last_ended h1
    rw [h0] at this
    rw [bne, ← this]; rfl
  simp only [refHit, hl, Bool.true_and]
  cases hn : endedOf name with
  | true =>
    have e1 := ended_iff hn
    have e2 : (e == name) = false := by
      rw [beq_eq_false_iff_ne]
      rintro rfl
      rw [h0] at hn; cases hn
    rw [e2, Bool.false_or, Bool.eq_iff_iff, beq_iff_eq, beq_iff_eq]
    constructor
    · intro h; rw [← h, bare_snoc]
    · intro h; rw [h]; exact e1.symm
  | false =>
    rw [bare_not hn]
    have e2 : (e ++ [59] == name) = false := by
      rw [beq_eq_false_iff_ne]
      rintro rfl
      rw [ended_snoc] at hn; cases hn
    rw [e2, Bool.or_false]
theorem hit_long {name e : List UInt8} {k : Int} : refHit name (e ++ [59], k) = (endedOf name && e == bareOf name) := by
  have hl : ((e ++ [59]).getD ((e ++ [59]).length - 1) 0 != 59) = false := by simp
  simp only [refHit, hl, Bool.false_and, Bool.or_false]
  cases hn : endedOf name with
  | true =>
    rw [Bool.true_and, Bool.eq_iff_iff, beq_iff_eq, beq_iff_eq]
    constructor
    · intro h; rw [← h, bare_snoc]
    · intro h; rw [h]; exact (ended_iff hn).symm
  | false =>
    rw [Bool.false_and, beq_eq_false_iff_ne]
    rintro rfl
    rw [ended_snoc] at hn; cases hn
def goodE (e : List UInt8 × Int) : Bool := !endedOf e.1 && (e.1 != [] && (e.2 != 0 && (e.1.all anB && decide (e.1.length ≤ 7))))
theorem good_short : ∀ e ∈ shortTab, goodE e = true := by decide
theorem good_long : ∀ e ∈ longTab, goodE e = true := by decide
theorem goodE_spec {e : List UInt8 × Int} (h : goodE e = true) : endedOf e.1 = false ∧ e.1 ≠ [] ∧ e.2 ≠ 0 ∧ (∀ c ∈ e.1, anB c = true) ∧ e.1.length ≤ 7 := by
  simp only [goodE, Bool.and_eq_true, Bool.not_eq_true', bne_iff_ne, ne_eq, List.all_eq_true, decide_eq_true_eq] at h
  exact h
theorem look_spec {t : List (List UInt8 × Int)} (ht : ∀ e ∈ t, goodE e = true) (k : List UInt8) :
    (lookT t k = 0 ∧ t.find? (fun e => k == e.1) = none) ∨ ∃ e ∈ t, e.1 = k ∧ t.find? (fun e => k == e.1) = some e ∧ lookT t k = e.2 ∧ e.2 ≠ 0 := by
  unfold lookT
  cases hf : t.find? (fun e => k == e.1) with
  | none => exact .inl ⟨rfl, rfl⟩
  | some e =>
    have hm := List.mem_of_find?_eq_some hf
    have hp := List.find?_some hf
    exact .inr ⟨e, hm, by simpa using (by simpa using hp : k = e.1).symm, rfl, rfl, (goodE_spec (ht e hm)).2.2.1⟩
theorem refNamed_eq (name : List UInt8) : refNamed name = named name := by
  unfold refNamed refTab
  rw [List.find?_append, find_congr (l := shortTab) (q := fun e => bareOf name == e.1) (fun e he => by
    obtain ⟨a, k⟩ := e
    have := goodE_spec (good_short _ he)
    exact (hit_short this.1 this.2.1).trans Bool.beq_comm), List.find?_map]
  have e2 : (refHit name ∘ fun e : List UInt8 × Int => (e.1 ++ [59], e.2)) = fun e => endedOf name && bareOf name == e.1 := by
    funext e
    exact hit_long.trans (by rw [Bool.beq_comm])
  rw [e2]
  unfold named namedN
  rcases look_spec good_short (bareOf name) with ⟨h1, h2⟩ | ⟨e, he, h1, h2, h3, h4⟩
  · rw [h2, h1]
    simp only [Option.none_or, true_and]
    cases hn : endedOf name with
    | true =>
      simp only [Bool.true_and, if_true]
      rcases look_spec good_long (bareOf name) with ⟨g1, g2⟩ | ⟨e, he, g1, g2, g3, g4⟩
      · rw [g1, g2]; rfl
      · rw [g2, g3, if_neg g4]; rfl
    | false =>
      simp only [Bool.false_and]
      have : longTab.find? (fun _ => false) = none := by decide
      rw [this]; rfl
  · rw [h2, h3]
    have : ¬ (e.2 = 0 ∧ endedOf name = true) := fun h => h4 h.1
    rw [if_neg this, if_neg h4]; rfl
/-- what is a name is a few letters and digits, and at most one semicolon behind -/
theorem named_ok {x : List UInt8} (h : (named x).2 = true) : ∃ e : List UInt8, (x = e ∨ x = e ++ [59]) ∧ (∀ c ∈ e, anB c = true) ∧ e.length ≤ 7 ∧ e ≠ [] := by
  have hx : x = bareOf x ∨ x = bareOf x ++ [59] := by
    cases hn : endedOf x with
    | true => exact .inr (ended_iff hn)
    | false => exact .inl (bare_not hn).symm
  refine ⟨bareOf x, hx, ?_⟩
  have hN : namedN x ≠ 0 := by
    intro h0
    unfold named at h
    rw [if_pos h0] at h; cases h
  have key : ∃ e, goodE e = true ∧ e.1 = bareOf x := by
    unfold namedN at hN
    split at hN
    · rcases look_spec good_long (bareOf x) with ⟨g1, _⟩ | ⟨e, he, g1, _⟩
      · exact absurd g1 hN
      · exact ⟨e, good_long e he, g1⟩
    · rcases look_spec good_short (bareOf x) with ⟨g1, _⟩ | ⟨e, he, g1, _⟩
      · exact absurd g1 hN
      · exact ⟨e, good_short e he, g1⟩
  obtain ⟨e, he, rfl'⟩ := key
  have := goodE_spec he
  rw [rfl'] at this
  exact ⟨this.2.2.2.1, this.2.2.2.2, this.2.1⟩

/-! Numbers. -/
def numW (n : Int) : Int := if 128 ≤ n ∧ n < 160 then (if winTab.getD (n - 128).toNat 0 > 0 then winTab.getD (n - 128).toNat 0 else n) else n
def numF (n : Int) : List UInt8 := encN (if numW n = 0 then 65533 else numW n)
def refK (n : Int) : Int := match (fromTab.zip toTab).find? (fun e => e.1 == n) with | some e => e.2 | none => if n = 0 then 65533 else n
theorem refK_eq (n : Int) : refK n = if numW n = 0 then 65533 else numW n := by
  by_cases h : 128 ≤ n ∧ n < 160
  · have key : ∀ k : _root_.Fin 32, refK (128 + (k.val : Int)) = if numW (128 + (k.val : Int)) = 0 then 65533 else numW (128 + (k.val : Int)) := by decide
    have := key ⟨(n - 128).toNat, by omega⟩
    have e : (128 : Int) + ((n - 128).toNat : Int) = n := by omega
    simp only [e] at this
    exact this
  · have e1 : numW n = n := by unfold numW; rw [if_neg h]
    have e2 : (fromTab.zip toTab).find? (fun e => e.1 == n) = none := by
      rw [List.find?_eq_none]
      intro e he
      have : ∀ e ∈ fromTab.zip toTab, 128 ≤ e.1 ∧ e.1 < 160 := by decide
      have := this e he
      simp
      omega
    unfold refK
    rw [e2, e1]
def digsL (base : Int) : List UInt8 → Int → Int → Int × Int
  | [], n, i => (n, i)
  | c :: r, n, i => if hexV c < 0 ∨ base ≤ hexV c then (n, i) else digsL base r (min (n * base + hexV c) 1114112) (i + 1)
theorem digsL_bound (base : Int) : ∀ (l : List UInt8) (n i : Int), i ≤ (digsL base l n i).2 ∧ (digsL base l n i).2 ≤ i + l.length := by
  intro l
  induction l with
  | nil => intro n i; simp [digsL]
  | cons c r ih =>
    intro n i
    unfold digsL
    split
    · simp; omega
    · have := ih (min (n * base + hexV c) 1114112) (i + 1)
      simp only [List.length_cons]; omega
def hexS (s : List UInt8) : Bool := decide (s.length > 2) && (s.getD 2 0 == 120 || s.getD 2 0 == 88)
def numAt (s : List UInt8) : Int × Int := if hexS s = true then digsL 16 (s.drop 3) 0 3 else digsL 10 (s.drop 2) 0 2
def numberF (s : List UInt8) : List UInt8 × Int :=
  if (numAt s).2 = (if hexS s = true then 3 else 2) then ([], 0)
  else (numF (numAt s).1, if (numAt s).2 < s.length ∧ s.getD (numAt s).2.toNat 0 = 59 then (numAt s).2 + 1 else (numAt s).2)

/-! Names in a text. -/
def letN : Nat → List UInt8 → Nat
  | 0, _ => 0
  | _ + 1, [] => 0
  | k + 1, c :: r => if anB c = true then letN k r + 1 else 0
theorem letN_le : ∀ (k : Nat) (l : List UInt8), letN k l ≤ k ∧ letN k l ≤ l.length ∧ ∀ j < letN k l, anB (l.getD j 0) = true := by
  intro k
  induction k with
  | zero => intro l; simp [letN]
  | succ k ih =>
    intro l
    cases l with
    | nil => simp [letN]
    | cons c r =>
      unfold letN
      split
      · obtain ⟨h1, h2, h3⟩ := ih r
        refine ⟨by omega, by simp; omega, fun j hj => ?_⟩
        cases j with
        | zero => simpa
        | succ j => simpa using h3 j (by omega)
      · simp
theorem letN_stop : ∀ (k : Nat) (l : List UInt8), letN k l < k → letN k l < l.length → anB (l.getD (letN k l) 0) = false := by
  intro k
  induction k with
  | zero => intro l h; simp at h
  | succ k ih =>
    intro l h1 h2
    cases l with
    | nil => simp at h2
    | cons c r =>
      unfold letN at h1 h2 ⊢
      split at h1
      · rename_i hc
        rw [if_pos hc] at h2 ⊢
        simpa using ih r (by omega) (by simpa using h2)
      · rename_i hc
        rw [if_neg hc]
        simpa using hc
theorem letN_max {k : Nat} {l : List UInt8} {n : Nat} (hk : n ≤ k) (hl : n ≤ l.length) (h : ∀ j < n, anB (l.getD j 0) = true) : n ≤ letN k l := by
  rcases Nat.lt_or_ge (letN k l) n with hlt | hge
  · have := letN_stop k l (by omega) (by omega)
    rw [h _ hlt] at this; cases this
  · exact hge
theorem letN_pos {k : Nat} {l : List UInt8} (hk : 0 < k) : decide (letN k l > 0) = (decide (0 < l.length) && anB (l.getD 0 0)) := by
  match k, l with
  | k + 1, [] => simp [letN]
  | k + 1, c :: r =>
    unfold letN
    by_cases h : anB c = true
    · rw [if_pos h]; simp [h]
    · rw [if_neg h]; simp [h]
/-- bytes 1 to n -/
def upto (s : List UInt8) (n : Nat) : List UInt8 := (s.take (n + 1)).drop 1
theorem upto_len {s : List UInt8} {n : Nat} (h : n + 1 ≤ s.length) : (upto s n).length = n := by simp [upto]; omega
theorem upto_get {s : List UInt8} {n j : Nat} (h : n + 1 ≤ s.length) (hj : j < n) : (upto s n).getD j 0 = s.getD (j + 1) 0 := by
  have h1 : j < (upto s n).length := by rw [upto_len h]; exact hj
  simp only [List.getD, List.getElem?_eq_getElem h1, List.getElem?_eq_getElem (show j + 1 < s.length by omega), Option.getD_some]
  simp [upto, Nat.add_comm]
def stopV (s : List UInt8) (v : Bool) (n : Nat) : Bool := v && (decide (n + 1 < s.length) && (s.getD (n + 1) 0 == 61 || anB (s.getD (n + 1) 0)))
def rdLoop (s : List UInt8) (v : Bool) : Nat → List UInt8 × Int
  | 0 => ([], 0)
  | n + 1 => if (named (upto s (n + 1))).2 = false then rdLoop s v n else if stopV s v (n + 1) = true then ([], 0) else ((named (upto s (n + 1))).1, n + 2)
def refLoop (s : List UInt8) (v : Bool) : Nat → List UInt8 × Int
  | 0 => ([], 0)
  | n + 1 => if (named (upto s (n + 1))).2 = false then refLoop s v n else if (stopV s v (n + 1) && s.getD (n + 1) 0 != 59) = true then ([], 0) else ((named (upto s (n + 1))).1, n + 2)
def semiOk (s : List UInt8) (n : Nat) : Bool := decide (n + 1 < s.length) && (s.getD (n + 1) 0 == 59 && (named (upto s (n + 1))).2)
def rdP (s : List UInt8) (v : Bool) : List UInt8 × Int :=
  if s.length < 2 ∨ s.getD 0 0 ≠ 38 then ([], 0) else if s.getD 1 0 = 35 then numberF s
  else if semiOk s (letN 8 (s.drop 1)) = true then ((named (upto s (letN 8 (s.drop 1) + 1))).1, (letN 8 (s.drop 1) : Int) + 2) else rdLoop s v (letN 8 (s.drop 1))
def rdR (s : List UInt8) (v : Bool) : List UInt8 × Int :=
  if s = [] ∨ s.getD 0 0 ≠ 38 then ([], 0) else if 1 < s.length ∧ s.getD 1 0 = 35 then numberF s else refLoop s v (min (s.length - 1) 12)

theorem name_at {s : List UInt8} {n : Nat} (hn : n + 1 ≤ s.length) (h : (named (upto s n)).2 = true) :
    n ≤ letN 8 (s.drop 1) ∨ (n = letN 8 (s.drop 1) + 1 ∧ s.getD n 0 = 59) := by
  obtain ⟨e, hx, h1, h2, h3⟩ := named_ok h
  have hlen := upto_len hn
  have hd : ∀ j, (s.drop 1).getD j 0 = s.getD (j + 1) 0 := fun j => by simp [List.getD, Nat.add_comm]
  have hget : ∀ {j : Nat}, j < e.length → anB (e.getD j 0) = true := fun {j} hj => h1 _ (by simp [List.getD, List.getElem?_eq_getElem hj])
  rcases hx with hx | hx
  · left
    have hle : e.length = n := by rw [← hx]; exact hlen
    refine letN_max (by omega) (by simp; omega) fun j hj => ?_
    rw [hd, ← upto_get hn hj, hx]
    exact hget (by omega)
  · have hle : e.length + 1 = n := by rw [← hlen, hx]; simp
    have h59 : s.getD n 0 = 59 := by
      have := upto_get hn (show n - 1 < n by omega)
      rw [hx, show n - 1 + 1 = n by omega] at this
      rw [← this, show n - 1 = e.length by omega]
      simp
    right
    refine ⟨?_, h59⟩
    have hge : e.length ≤ letN 8 (s.drop 1) := letN_max (by omega) (by simp; omega) fun j hj => by
      rw [hd, ← upto_get hn (by omega), hx]
      have : (e ++ [59]).getD j 0 = e.getD j 0 := by simp [List.getD, List.getElem?_append_left hj]
      rw [this]; exact hget hj
    rcases Nat.lt_or_ge e.length (letN 8 (s.drop 1)) with hlt | hge'
    · have := (letN_le 8 (s.drop 1)).2.2 _ hlt
      rw [hd, hle, h59] at this
      exact absurd this (by decide)
    · omega
theorem refLoop_skip {s : List UInt8} {v : Bool} {k : Nat} : ∀ {n : Nat}, k ≤ n → (∀ j, k < j → j ≤ n → (named (upto s j)).2 = false) → refLoop s v n = refLoop s v k := by
  intro n
  induction n with
  | zero => intro h _; have : k = 0 := by omega
            subst this; rfl
  | succ n ih =>
    intro h hj
    by_cases hk : k = n + 1
    · subst hk; rfl
    · have := hj (n + 1) (by omega) (by omega)
      rw [refLoop, if_pos this]
      exact ih (by omega) fun j h1 h2 => hj j h1 (by omega)
theorem refLoop_rd {s : List UInt8} {v : Bool} : ∀ {n : Nat}, (∀ j, 0 < j → j ≤ n → s.getD j 0 ≠ 59) → refLoop s v n = rdLoop s v n := by
  intro n
  induction n with
  | zero => intro _; rfl
  | succ n ih =>
    intro h
    rw [refLoop, rdLoop, ih fun j h1 h2 => h j h1 (by omega)]
    have : (s.getD (n + 1) 0 != 59) = true := by simpa using h (n + 1) (by omega) (by omega)
    rw [this, Bool.and_true]
theorem rd_eq (s : List UInt8) (v : Bool) : rdR s v = rdP s v := by
  unfold rdR rdP
  by_cases h0 : s.getD 0 0 = 38
  · by_cases hl : s.length < 2
    · rw [if_pos (Or.inl hl)]
      by_cases he : s = []
      · rw [if_pos (Or.inl he)]
      · have hlen : s.length = 1 := by have := List.length_pos_iff.mpr he; omega
        rw [if_neg (by rintro (h | h); exact he h; exact h h0), if_neg (by omega)]
        simp [hlen, refLoop]
    · have he : s ≠ [] := by rintro rfl; simp at hl
      have hA : ¬ (s = [] ∨ s.getD 0 0 ≠ 38) := by rintro (h | h); exact he h; exact h h0
      have hB : ¬ (s.length < 2 ∨ s.getD 0 0 ≠ 38) := by rintro (h | h); exact hl h; exact h h0
      rw [if_neg hA, if_neg hB]
      by_cases h1 : s.getD 1 0 = 35
      · have hC : 1 < s.length ∧ s.getD 1 0 = 35 := ⟨by omega, h1⟩
        rw [if_pos hC, if_pos h1]
      · have hC : ¬ (1 < s.length ∧ s.getD 1 0 = 35) := by rintro ⟨_, h⟩; exact h1 h
        rw [if_neg hC, if_neg h1]
        obtain ⟨g1, g2, g3⟩ := letN_le 8 (s.drop 1)
        have hd : ∀ j, (s.drop 1).getD j 0 = s.getD (j + 1) 0 := fun j => by simp [List.getD, Nat.add_comm]
        have g2' : letN 8 (s.drop 1) + 1 ≤ s.length := by rw [List.length_drop] at g2; omega
        have no59 : ∀ j, 0 < j → j ≤ letN 8 (s.drop 1) → s.getD j 0 ≠ 59 := by
          intro j hj1 hj2 h59
          have := g3 (j - 1) (by omega)
          rw [hd, show j - 1 + 1 = j by omega, h59] at this
          exact absurd this (by decide)
        generalize hL : letN 8 (s.drop 1) = L at *
        by_cases hs : semiOk s L = true
        · rw [if_pos hs]
          simp only [semiOk, Bool.and_eq_true, decide_eq_true_eq, beq_iff_eq] at hs
          obtain ⟨s1, s2, s3⟩ := hs
          rw [refLoop_skip (k := L + 1) (by omega) (fun j j1 j2 => ?_)]
          · rw [refLoop, if_neg (by rw [s3]; simp), if_neg (by rw [s2]; simp)]
          · cases hq : (named (upto s j)).2 with
            | false => rfl
            | true =>
              rcases name_at (s := s) (n := j) (by omega) hq with h | ⟨h, _⟩ <;> rw [hL] at h <;> omega
        · rw [if_neg hs]
          rw [refLoop_skip (k := L) (by omega) (fun j j1 j2 => ?_)]
          · exact refLoop_rd no59
          · cases hq : (named (upto s j)).2 with
            | false => rfl
            | true =>
              exfalso
              rcases name_at (s := s) (n := j) (by omega) hq with h | ⟨h, h59⟩
              · rw [hL] at h; omega
              · rw [hL] at h
                subst h
                apply hs
                simp only [semiOk, Bool.and_eq_true, decide_eq_true_eq, beq_iff_eq]
                exact ⟨by omega, h59, hq⟩
  · rw [if_pos (Or.inr h0), if_pos (Or.inr h0)]

theorem rdLoop_bound {s : List UInt8} {v : Bool} : ∀ {n : Nat}, n + 1 ≤ s.length → 0 ≤ (rdLoop s v n).2 ∧ (rdLoop s v n).2 ≤ s.length ∧ (rdLoop s v n).1.length ≤ 4 := by
  intro n
  induction n with
  | zero => intro _; simp [rdLoop]
  | succ n ih =>
    intro h
    rw [rdLoop]
    split
    · exact ih (by omega)
    · split
      · simp
      · refine ⟨by simp; omega, by simp; omega, ?_⟩
        unfold named
        split
        · simp
        · exact encN_len _
theorem rd_bound (s : List UInt8) (v : Bool) : 0 ≤ (rdP s v).2 ∧ (rdP s v).2 ≤ s.length ∧ (rdP s v).1.length ≤ 4 := by
  unfold rdP
  split
  · simp
  · rename_i h
    have h2 : 2 ≤ s.length := by
      rcases Nat.lt_or_ge s.length 2 with h' | h'
      · exact absurd (Or.inl h') h
      · exact h'
    split
    · have hb : (if hexS s = true then (3:Int) else 2) ≤ (numAt s).2 ∧ (numAt s).2 ≤ s.length := by
        unfold numAt
        by_cases hx : hexS s = true
        · rw [if_pos hx, if_pos hx]
          have := digsL_bound 16 (s.drop 3) 0 3
          simp only [hexS, Bool.and_eq_true, decide_eq_true_eq] at hx
          simp only [List.length_drop] at this
          omega
        · rw [if_neg hx, if_neg hx]
          have := digsL_bound 10 (s.drop 2) 0 2
          simp only [List.length_drop] at this
          omega
      have h23 : (2 : Int) ≤ if hexS s = true then (3:Int) else 2 := by split <;> omega
      unfold numberF
      by_cases hq : (numAt s).2 = (if hexS s = true then (3:Int) else 2)
      · rw [if_pos hq]; simp
      · rw [if_neg hq]
        refine ⟨?_, ?_, encN_len _⟩
        · simp only; split <;> omega
        · simp only; split <;> omega
    · obtain ⟨g1, g2, _⟩ := letN_le 8 (s.drop 1)
      simp only [List.length_drop] at g2
      split
      · rename_i hs
        simp only [semiOk, Bool.and_eq_true, decide_eq_true_eq] at hs
        refine ⟨by simp only; omega, by simp only; omega, ?_⟩
        unfold named
        split
        · simp
        · exact encN_len _
      · exact rdLoop_bound (by omega)

/-! A text. -/
def dec (v : Bool) : Nat → List UInt8 → List UInt8
  | 0, _ => []
  | f + 1, s => if s = [] then [] else if (rdP s v).2 = 0 then s.getD 0 0 :: dec v f (s.drop 1) else (rdP s v).1 ++ dec v f (s.drop (rdP s v).2.toNat)
def decF (s : List UInt8) (v : Bool) : List UInt8 := dec v s.length s
theorem dec_fuel (v : Bool) : ∀ (f : Nat) (s : List UInt8), s.length ≤ f → dec v f s = dec v s.length s := by
  intro f
  induction f with
  | zero => intro s h; have : s = [] := List.length_eq_zero_iff.1 (by omega)
            subst this; rfl
  | succ f ih =>
    intro s h
    by_cases he : s = []
    · subst he; simp [dec]
    · have hp : 0 < s.length := List.length_pos_iff.mpr he
      obtain ⟨m, hm⟩ : ∃ m, s.length = m + 1 := ⟨s.length - 1, by omega⟩
      rw [hm, dec, dec, if_neg he, if_neg he]
      obtain ⟨b1, b2, _⟩ := rd_bound s v
      by_cases h0 : (rdP s v).2 = 0
      · rw [if_pos h0, if_pos h0, ih (s.drop 1) (by simp; omega)]
        congr 1
        have e : (s.drop 1).length = m := by simp; omega
        rw [e]
      · rw [if_neg h0, if_neg h0, ih (s.drop (rdP s v).2.toNat) (by simp; omega)]
        congr 1
        have e : (s.drop (rdP s v).2.toNat).length ≤ m := by simp; omega
        -- both have fuel enough
        have aux : ∀ (g : Nat) (t : List UInt8), t.length ≤ g → g ≤ f → dec v g t = dec v t.length t := by
          intro g
          induction g with
          | zero => intro t ht _; have : t = [] := List.length_eq_zero_iff.1 (by omega)
                    subst this; rfl
          | succ g ihg =>
            intro t ht hgf
            by_cases hte : t = []
            · subst hte; simp [dec]
            · have hgf' : g + 1 = f ∨ g + 1 < f := by omega
              rcases hgf' with rfl | hlt
              · exact ih t ht
              · have h1 := ih t (by omega)
                rw [← h1]
                have key : ∀ (a b : Nat) (u : List UInt8), u.length ≤ a → a ≤ b → dec v a u = dec v b u := by
                  intro a
                  induction a with
                  | zero => intro b u hu _; have : u = [] := List.length_eq_zero_iff.1 (by omega)
                            subst this; cases b <;> simp [dec]
                  | succ a iha =>
                    intro b u hu hab
                    obtain ⟨b', rfl⟩ : ∃ b', b = b' + 1 := ⟨b - 1, by omega⟩
                    by_cases hue : u = []
                    · subst hue; simp [dec]
                    · rw [dec, dec, if_neg hue, if_neg hue]
                      obtain ⟨c1, c2, _⟩ := rd_bound u v
                      have hup : 0 < u.length := List.length_pos_iff.mpr hue
                      by_cases hz : (rdP u v).2 = 0
                      · rw [if_pos hz, if_pos hz, iha b' (u.drop 1) (by simp; omega) (by omega)]
                      · rw [if_neg hz, if_neg hz, iha b' (u.drop (rdP u v).2.toNat) (by simp; omega) (by omega)]
                exact key (g + 1) f t ht (by omega)
        exact (aux m _ e (by omega)).symm
theorem decF_nil (v : Bool) : decF [] v = [] := rfl
theorem decF_step {s : List UInt8} (v : Bool) (h : s ≠ []) :
    decF s v = if (rdP s v).2 = 0 then s.getD 0 0 :: decF (s.drop 1) v else (rdP s v).1 ++ decF (s.drop (rdP s v).2.toNat) v := by
  have hp : 0 < s.length := List.length_pos_iff.mpr h
  obtain ⟨m, hm⟩ : ∃ m, s.length = m + 1 := ⟨s.length - 1, by omega⟩
  unfold decF
  rw [hm, dec, if_neg h]
  obtain ⟨b1, b2, _⟩ := rd_bound s v
  by_cases h0 : (rdP s v).2 = 0
  · rw [if_pos h0, if_pos h0, dec_fuel v m (s.drop 1) (by simp; omega)]
  · rw [if_neg h0, if_neg h0, dec_fuel v m (s.drop (rdP s v).2.toNat) (by simp; omega)]
end Go.Vc

/-! Law 02, in plain Lean: bytes as text, by the document. -/
namespace Go.Vc
set_option autoImplicit false
def mU (c : Nat) : Nat := if c < 194 ∨ c > 244 then 0 else if c < 224 then 1 else if c < 240 then 2 else 3
def loU (c : Nat) : Nat := if c < 194 ∨ c > 244 then 0 else if c = 224 then 160 else if c = 240 then 144 else 128
def hiU (c : Nat) : Nat := if c < 194 ∨ c > 244 then 0 else if c = 237 then 159 else if c = 244 then 143 else 191
def cutN (n b0 b1 b2 b3 : Nat) : Nat :=
  if 1 ≤ mU b0 ∧ 1 < n ∧ loU b0 ≤ b1 ∧ b1 ≤ hiU b0 then
    if 2 ≤ mU b0 ∧ 2 < n ∧ 128 ≤ b2 ∧ b2 ≤ 191 then
      if 3 ≤ mU b0 ∧ 3 < n ∧ 128 ≤ b3 ∧ b3 ≤ 191 then 4 else 3
    else 2
  else 1
def okN (n b0 b1 b2 b3 : Nat) : Prop := b0 < 128 ∨ (1 ≤ mU b0 ∧ cutN n b0 b1 b2 b3 = mU b0 + 1)
instance (n b0 b1 b2 b3 : Nat) : Decidable (okN n b0 b1 b2 b3) := by unfold okN; infer_instance
set_option maxHeartbeats 4000000
theorem cutN_bnd (n b0 b1 b2 b3 : Nat) (h : 1 ≤ n) : 1 ≤ cutN n b0 b1 b2 b3 ∧ cutN n b0 b1 b2 b3 ≤ n ∧ cutN n b0 b1 b2 b3 ≤ 4 ∧ cutN n b0 b1 b2 b3 ≤ mU b0 + 1 := by
  unfold cutN; repeat' split
  all_goals omega
theorem cutN_small (n b0 b1 b2 b3 : Nat) (h : b0 < 128) : cutN n b0 b1 b2 b3 = 1 := by
  have : mU b0 = 0 := by unfold mU; rw [if_pos (by omega)]
  unfold cutN; rw [if_neg (by omega)]
theorem dec_bad (n b0 b1 b2 b3 : Nat) (h : ¬ okN n b0 b1 b2 b3) (h0 : b0 < 256) (h1 : b1 < 256) (h2 : b2 < 256) (h3 : b3 < 256) : Lib.decodeN n b0 b1 b2 b3 = (65533, 1) := by
  unfold okN at h
  unfold Lib.decodeN
  rw [if_neg (by omega)]
  unfold cutN at h
  unfold mU loU hiU at h
  repeat' (split)
  all_goals first | rfl | (exfalso; apply h; clear h; right; (repeat' split) <;> omega)
theorem dec_ok (n b0 b1 b2 b3 : Nat) (h : okN n b0 b1 b2 b3) (h0 : b0 < 256) (h1 : b1 < 256) (h2 : b2 < 256) (h3 : b3 < 256) :
    (Lib.decodeN n b0 b1 b2 b3).2 = cutN n b0 b1 b2 b3 ∧ (b0 < 128 → (Lib.decodeN n b0 b1 b2 b3).1 = b0) ∧ (128 ≤ b0 → 2 ≤ cutN n b0 b1 b2 b3 ∧ 128 ≤ (Lib.decodeN n b0 b1 b2 b3).1) := by
  by_cases hb : b0 < 128
  · have : Lib.decodeN n b0 b1 b2 b3 = (b0, 1) := by unfold Lib.decodeN; rw [if_pos hb]
    rw [this, cutN_small _ _ _ _ _ hb]
    exact ⟨rfl, fun _ => rfl, fun h => absurd h (by omega)⟩
  · rcases h with h | ⟨hm, hc⟩
    · omega
    · have hm3 : mU b0 = 1 ∧ 194 ≤ b0 ∧ b0 ≤ 223 ∨ mU b0 = 2 ∧ 224 ≤ b0 ∧ b0 ≤ 239 ∨ mU b0 = 3 ∧ 240 ≤ b0 ∧ b0 ≤ 244 := by
        unfold mU at *; (repeat' split) <;> simp_all <;> omega
      clear hm
      unfold cutN at hc ⊢
      unfold Lib.decodeN
      rw [if_neg hb]
      have hl : ∀ x, loU b0 = x → x = 128 ∨ x = 160 ∨ x = 144 := by unfold loU; intro x hx; (repeat' split at hx) <;> omega
      rcases hm3 with ⟨hm1, hm2⟩ | ⟨hm1, hm2⟩ | ⟨hm1, hm2⟩
      · have e1 : loU b0 = 128 := by unfold loU; (repeat' split) <;> omega
        have e2 : hiU b0 = 191 := by unfold hiU; (repeat' split) <;> omega
        rw [hm1, e1, e2] at hc ⊢
        rw [if_neg (by omega : ¬ (2 ≤ 1 ∧ 2 < n ∧ 128 ≤ b2 ∧ b2 ≤ 191))] at hc ⊢
        split at hc
        · rename_i hq
          rw [if_pos hq, if_pos (by omega), if_pos (by omega)]
          refine ⟨rfl, fun h => absurd h hb, fun _ => ⟨by omega, ?_⟩⟩
          show 128 ≤ b0 % 32 * 64 + b1 % 64
          omega
        · omega
      · rw [hm1] at hc ⊢
        rw [if_neg (by omega : ¬ (3 ≤ 2 ∧ 3 < n ∧ 128 ≤ b3 ∧ b3 ≤ 191))] at hc ⊢
        split at hc
        · rename_i hq
          split at hc
          · rename_i hq2
            have e1 : b0 = 224 ∧ 160 ≤ b1 ∧ b1 ≤ 191 ∨ b0 = 237 ∧ 128 ≤ b1 ∧ b1 ≤ 159 ∨ (b0 ≠ 224 ∧ b0 ≠ 237) ∧ 128 ≤ b1 ∧ b1 ≤ 191 := by
              unfold loU hiU at hq
              revert hq
              (repeat' split) <;> omega
            rw [if_pos hq, if_pos hq2, if_neg (by omega), if_pos (by omega), if_pos (by omega)]
            refine ⟨rfl, fun h => absurd h hb, fun _ => ⟨by omega, ?_⟩⟩
            show 128 ≤ b0 % 16 * 4096 + b1 % 64 * 64 + b2 % 64
            omega
          · omega
        · omega
      · rw [hm1] at hc ⊢
        split at hc
        · rename_i hq
          split at hc
          · rename_i hq2
            split at hc
            · rename_i hq3
              have e1 : b0 = 240 ∧ 144 ≤ b1 ∧ b1 ≤ 191 ∨ b0 = 244 ∧ 128 ≤ b1 ∧ b1 ≤ 143 ∨ (b0 ≠ 240 ∧ b0 ≠ 244) ∧ 128 ≤ b1 ∧ b1 ≤ 191 := by
                unfold loU hiU at hq
                revert hq
                (repeat' split) <;> omega
              rw [if_pos hq, if_pos hq2, if_pos hq3, if_neg (by omega), if_neg (by omega), if_pos (by omega), if_pos (by omega)]
              refine ⟨rfl, fun h => absurd h hb, fun _ => ⟨by omega, ?_⟩⟩
              show 128 ≤ b0 % 8 * 262144 + b1 % 64 * 4096 + b2 % 64 * 64 + b3 % 64
              omega
            · omega
          · omega
        · omega
/-- how many bytes at the beginning are one, character or not -/
def cutU (l : List UInt8) : Nat := cutN l.length (l.getD 0 0).toNat (l.getD 1 0).toNat (l.getD 2 0).toNat (l.getD 3 0).toNat
def okU (l : List UInt8) : Bool := decide (okN l.length (l.getD 0 0).toNat (l.getD 1 0).toNat (l.getD 2 0).toNat (l.getD 3 0).toNat)
theorem cutU_bnd (l : List UInt8) (h : l ≠ []) : 1 ≤ cutU l ∧ cutU l ≤ l.length ∧ cutU l ≤ 4 := by
  have : 1 ≤ l.length := List.length_pos_iff.mpr h
  have := cutN_bnd l.length (l.getD 0 0).toNat (l.getD 1 0).toNat (l.getD 2 0).toNat (l.getD 3 0).toNat this
  exact ⟨this.1, this.2.1, this.2.2.1⟩
def oddU : List UInt8 := [239, 191, 189]
/-- how far the step goes -/
def stepU (l : List UInt8) : Nat :=
  if okU l = true ∧ l.getD 0 0 = 13 ∧ 1 < l.length ∧ l.getD 1 0 = 10 then 2 else cutU l
def chrU (l : List UInt8) : List UInt8 :=
  if okU l = false ∨ l.getD 0 0 = 0 then oddU else if l.getD 0 0 = 13 then [10] else l.take (cutU l)
theorem stepU_bnd (l : List UInt8) (h : l ≠ []) : 1 ≤ stepU l ∧ stepU l ≤ l.length := by
  have := cutU_bnd l h
  unfold stepU; split <;> omega
/-- bytes as text -/
def decU (l : List UInt8) : List UInt8 :=
  if h : l = [] then [] else chrU l ++ decU (l.drop (stepU l))
termination_by l.length
decreasing_by
  have := stepU_bnd l h
  have : 0 < l.length := List.length_pos_iff.mpr h
  rw [List.length_drop]; omega
theorem decU_nil : decU [] = [] := by rw [decU]; rfl
theorem decU_eq (l : List UInt8) (h : l ≠ []) : decU l = chrU l ++ decU (l.drop (stepU l)) := by rw [decU, dif_neg h]
theorem chrU_len (l : List UInt8) (h : l ≠ []) : 1 ≤ (chrU l).length ∧ (chrU l).length ≤ 3 * stepU l := by
  have h1 := cutU_bnd l h
  have h2 := stepU_bnd l h
  unfold chrU
  split
  · simp only [oddU, List.length_cons, List.length_nil]; omega
  · split
    · simp; omega
    · rename_i h3 h4
      have : stepU l = cutU l := by unfold stepU; rw [if_neg (fun h => h4 h.2.1)]
      rw [List.length_take]; omega
theorem decU_len (l : List UInt8) : (decU l).length ≤ 3 * l.length := by
  induction hn : l.length using Nat.strongRecOn generalizing l with
  | _ n ih =>
    subst hn
    by_cases h : l = []
    · subst h; rw [decU_nil]; simp
    · have h1 := chrU_len l h
      have h2 := stepU_bnd l h
      rw [decU_eq l h, List.length_append]
      have := ih _ (by rw [List.length_drop]; omega : (l.drop (stepU l)).length < l.length) _ rfl
      rw [List.length_drop] at this
      omega
end Go.Vc
