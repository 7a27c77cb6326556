/- A part of the proof: lemmas and walks that the last text of the claim joins; no condition. -/
import GoSem.Core.Utf8
import Derived.Test.YtgggnkinalmmlaaDoorTI
set_option linter.unusedVariables false
set_option linter.unusedSimpArgs false
/-! Law 04, in plain Lean: what the references stand for, by the program's road and by the document's. -/
namespace Go.Vc
set_option autoImplicit false

/-- a character's bytes -/
def encN (n : Int) : List UInt8 := (Utf8.encode (if n < 0 ∨ n > 1114111 ∨ (55296 ≤ n ∧ n ≤ 57343) then 65533 else n)).data.toList
theorem encN_len (n : Int) : (encN n).length ≤ 4 := by
  unfold encN
  generalize (if n < 0 ∨ n > 1114111 ∨ (55296 ≤ n ∧ n ≤ 57343) then (65533 : Int) else n) = c
  unfold Utf8.encode
  generalize (if Utf8.valid c then c.toNat else Utf8.runeError) = c
  dsimp only
  split
  · simp
  · split
    · simp
    · split <;> simp
def alI (c : Int) : Bool := (decide (65 ≤ c) && decide (c ≤ 90)) || (decide (97 ≤ c) && decide (c ≤ 122))
def anI (c : Int) : Bool := alI c || (decide (48 ≤ c) && decide (c ≤ 57))
def hexI (c : Int) : Int := if 48 ≤ c ∧ c ≤ 57 then c - 48 else if 97 ≤ c ∧ c ≤ 102 then c - 87 else if 65 ≤ c ∧ c ≤ 70 then c - 55 else -1
def alB (c : UInt8) : Bool := alI c.toNat
def anB (c : UInt8) : Bool := anI c.toNat
def hexV (c : UInt8) : Int := hexI c.toNat

def shortTab : List (List UInt8 × Int) := [
  ([97, 109, 112], 38), ([65, 77, 80], 38), ([108, 116], 60), ([76, 84], 60), ([103, 116], 62), ([71, 84], 62),
  ([113, 117, 111, 116], 34), ([81, 85, 79, 84], 34), ([110, 98, 115, 112], 160), ([99, 111, 112, 121], 169), ([114, 101, 103], 174), ([115, 104, 121], 173),
  ([112, 97, 114, 97], 182), ([115, 101, 99, 116], 167), ([116, 105, 109, 101, 115], 215), ([100, 105, 118, 105, 100, 101], 247), ([109, 105, 99, 114, 111], 181), ([109, 105, 100, 100, 111, 116], 183),
  ([110, 111, 116], 172), ([100, 101, 103], 176), ([121, 101, 110], 165), ([99, 101, 110, 116], 162), ([112, 111, 117, 110, 100], 163), ([108, 97, 113, 117, 111], 171),
  ([114, 97, 113, 117, 111], 187)]
def longTab : List (List UInt8 × Int) := [
  ([97, 112, 111, 115], 39), ([99, 111, 108, 111, 110], 58), ([84, 97, 98], 9), ([78, 101, 119, 76, 105, 110, 101], 10), ([108, 112, 97, 114], 40), ([114, 112, 97, 114], 41),
  ([115, 111, 108], 47), ([110, 117, 109], 35), ([115, 101, 109, 105], 59), ([101, 113, 117, 97, 108, 115], 61), ([101, 120, 99, 108], 33), ([99, 111, 109, 109, 97, 116], 64),
  ([113, 117, 101, 115, 116], 63), ([99, 111, 109, 109, 97], 44), ([112, 101, 114, 105, 111, 100], 46), ([108, 98, 114, 97, 99, 101], 123), ([114, 98, 114, 97, 99, 101], 125), ([108, 115, 113, 98], 91),
  ([114, 115, 113, 98], 93), ([103, 114, 97, 118, 101], 96), ([104, 101, 108, 108, 105, 112], 8230), ([109, 100, 97, 115, 104], 8212), ([110, 100, 97, 115, 104], 8211), ([108, 115, 113, 117, 111], 8216),
  ([114, 115, 113, 117, 111], 8217), ([108, 100, 113, 117, 111], 8220), ([114, 100, 113, 117, 111], 8221), ([98, 117, 108, 108], 8226), ([101, 117, 114, 111], 8364), ([116, 114, 97, 100, 101], 8482),
  ([108, 97, 114, 114], 8592), ([114, 97, 114, 114], 8594), ([122, 119, 106], 8205), ([122, 119, 110, 106], 8204), ([110, 111, 116, 105, 110], 8713), ([110, 101], 8800)]
def winTab : List Int := [8364, 0, 8218, 402, 8222, 8230, 8224, 8225, 710, 8240, 352, 8249, 338, 0, 381, 0, 0, 8216, 8217, 8220, 8221, 8226, 8211, 8212, 732, 8482, 353, 8250, 339, 0, 382, 376]
def fromTab : List Int := [128, 130, 131, 132, 133, 134, 135, 136, 137, 138, 139, 140, 142, 145, 146, 147, 148, 149, 150, 151, 152, 153, 154, 155, 156, 158, 159]
def toTab : List Int := [8364, 8218, 402, 8222, 8230, 8224, 8225, 710, 8240, 352, 8249, 338, 381, 8216, 8217, 8220, 8221, 8226, 8211, 8212, 732, 8482, 353, 8250, 339, 382, 376]

def lookT (t : List (List UInt8 × Int)) (k : List UInt8) : Int := match t.find? (fun e => k == e.1) with | some e => e.2 | none => 0
def endedOf (name : List UInt8) : Bool := decide (name.length > 0) && name.getD (name.length - 1) 0 == 59
def bareOf (name : List UInt8) : List UInt8 := if endedOf name = true then name.take (name.length - 1) else name
def namedN (name : List UInt8) : Int :=
  if lookT shortTab (bareOf name) = 0 ∧ endedOf name = true then lookT longTab (bareOf name) else lookT shortTab (bareOf name)
def named (name : List UInt8) : List UInt8 × Bool := if namedN name = 0 then ([], false) else (encN (namedN name), true)

def refTab : List (List UInt8 × Int) := shortTab ++ longTab.map fun e => (e.1 ++ [59], e.2)
def refHit (name : List UInt8) (e : List UInt8 × Int) : Bool := e.1 == name || (e.1.getD (e.1.length - 1) 0 != 59 && e.1 ++ [59] == name)
def refNamed (name : List UInt8) : List UInt8 × Bool := match refTab.find? (refHit name) with | some e => (encN e.2, true) | none => ([], false)

theorem find_congr {α : Type} {l : List α} {p q : α → Bool} (h : ∀ e ∈ l, p e = q e) : l.find? p = l.find? q := by
  induction l with
  | nil => rfl
  | cons x r ih => simp only [List.find?_cons, h x (by simp), ih (fun e he => h e (by simp [he]))]
theorem ended_iff {name : List UInt8} (h : endedOf name = true) : name = bareOf name ++ [59] := by
  have hb : bareOf name = name.take (name.length - 1) := by unfold bareOf; rw [if_pos h]
  rw [hb]
  simp only [endedOf, Bool.and_eq_true, decide_eq_true_eq, beq_iff_eq] at h
  obtain ⟨h1, h2⟩ := h
  have e : name.length - 1 + 1 = name.length := by omega
  have hlt : name.length - 1 < name.length := by omega
  have h3 : name[name.length - 1] = 59 := by rw [← h2]; simp [List.getD, List.getElem?_eq_getElem hlt]
  have h4 : name.take (name.length - 1 + 1) = name.take (name.length - 1) ++ [name[name.length - 1]] := by rw [List.take_append_getElem hlt]
  rw [h3, e, List.take_length] at h4
  exact h4
theorem ended_snoc (l : List UInt8) : endedOf (l ++ [59]) = true := by simp [endedOf]
theorem bare_snoc (l : List UInt8) : bareOf (l ++ [59]) = l := by unfold bareOf; rw [if_pos (ended_snoc l)]; simp
theorem bare_not {name : List UInt8} (h : endedOf name = false) : bareOf name = name := by unfold bareOf; rw [h]; simp
theorem last_ended {l : List UInt8} (h0 : l ≠ []) : endedOf l = (l.getD (l.length - 1) 0 == 59) := by
  have : l.length > 0 := List.length_pos_iff.mpr h0
  simp [endedOf, this]
theorem hit_short {name e : List UInt8} {k : Int} (h0 : endedOf e = false) (h1 : e ≠ []) : refHit name (e, k) = (e == bareOf name) := by
  have hl : (e.getD (e.length - 1) 0 != 59) = true := by
    have := last_ended h1
    rw [h0] at this
    rw [bne, ← this]; rfl
  simp only [refHit, hl, Bool.true_and]
  cases hn : endedOf name with
  | true =>
    have e1 := ended_iff hn
    have e2 : (e == name) = false := by
      rw [beq_eq_false_iff_ne]
      rintro rfl
      rw [h0] at hn; cases hn
    rw [e2, Bool.false_or, Bool.eq_iff_iff, beq_iff_eq, beq_iff_eq]
    constructor
    · intro h; rw [← h, bare_snoc]
    · intro h; rw [h]; exact e1.symm
  | false =>
    rw [bare_not hn]
    have e2 : (e ++ [59] == name) = false := by
      rw [beq_eq_false_iff_ne]
      rintro rfl
      rw [ended_snoc] at hn; cases hn
    rw [e2, Bool.or_false]
theorem hit_long {name e : List UInt8} {k : Int} : refHit name (e ++ [59], k) = (endedOf name && e == bareOf name) := by
  have hl : ((e ++ [59]).getD ((e ++ [59]).length - 1) 0 != 59) = false := by simp
  simp only [refHit, hl, Bool.false_and, Bool.or_false]
  cases hn : endedOf name with
  | true =>
    rw [Bool.true_and, Bool.eq_iff_iff, beq_iff_eq, beq_iff_eq]
    constructor
    · intro h; rw [← h, bare_snoc]
    · intro h; rw [h]; exact (ended_iff hn).symm
  | false =>
    rw [Bool.false_and, beq_eq_false_iff_ne]
    rintro rfl
    rw [ended_snoc] at hn; cases hn
def goodE (e : List UInt8 × Int) : Bool := !endedOf e.1 && (e.1 != [] && (e.2 != 0 && (e.1.all anB && decide (e.1.length ≤ 7))))
theorem good_short : ∀ e ∈ shortTab, goodE e = true := by decide
theorem good_long : ∀ e ∈ longTab, goodE e = true := by decide
theorem goodE_spec {e : List UInt8 × Int} (h : goodE e = true) : endedOf e.1 = false ∧ e.1 ≠ [] ∧ e.2 ≠ 0 ∧ (∀ c ∈ e.1, anB c = true) ∧ e.1.length ≤ 7 := by
  simp only [goodE, Bool.and_eq_true, Bool.not_eq_true', bne_iff_ne, ne_eq, List.all_eq_true, decide_eq_true_eq] at h
  exact h
theorem look_spec {t : List (List UInt8 × Int)} (ht : ∀ e ∈ t, goodE e = true) (k : List UInt8) :
    (lookT t k = 0 ∧ t.find? (fun e => k == e.1) = none) ∨ ∃ e ∈ t, e.1 = k ∧ t.find? (fun e => k == e.1) = some e ∧ lookT t k = e.2 ∧ e.2 ≠ 0 := by
  unfold lookT
  cases hf : t.find? (fun e => k == e.1) with
  | none => exact .inl ⟨rfl, rfl⟩
  | some e =>
    have hm := List.mem_of_find?_eq_some hf
    have hp := List.find?_some hf
    exact .inr ⟨e, hm, by simpa using (by simpa using hp : k = e.1).symm, rfl, rfl, (goodE_spec (ht e hm)).2.2.1⟩
theorem refNamed_eq (name : List UInt8) : refNamed name = named name := by
  unfold refNamed refTab
  rw [List.find?_append, find_congr (l := shortTab) (q := fun e => bareOf name == e.1) (fun e he => by
    obtain ⟨a, k⟩ := e
    have := goodE_spec (good_short _ he)
    exact (hit_short this.1 this.2.1).trans Bool.beq_comm), List.find?_map]
  have e2 : (refHit name ∘ fun e : List UInt8 × Int => (e.1 ++ [59], e.2)) = fun e => endedOf name && bareOf name == e.1 := by
    funext e
    exact hit_long.trans (by rw [Bool.beq_comm])
  rw [e2]
  unfold named namedN
  rcases look_spec good_short (bareOf name) with ⟨h1, h2⟩ | ⟨e, he, h1, h2, h3, h4⟩
  · rw [h2, h1]
    simp only [Option.none_or, true_and]
    cases hn : endedOf name with
    | true =>
      simp only [Bool.true_and, if_true]
      rcases look_spec good_long (bareOf name) with ⟨g1, g2⟩ | ⟨e, he, g1, g2, g3, g4⟩
      · rw [g1, g2]; rfl
      · rw [g2, g3, if_neg g4]; rfl
    | false =>
      simp only [Bool.false_and]
      have : longTab.find? (fun _ => false) = none := by decide
      rw [this]; rfl
  · rw [h2, h3]
    have : ¬ (e.2 = 0 ∧ endedOf name = true) := fun h => h4 h.1
    rw [if_neg this, if_neg h4]; rfl
/-- what is a name is a few letters and digits, and at most one semicolon behind -/
theorem named_ok {x : List UInt8} (h : (named x).2 = true) : ∃ e : List UInt8, (x = e ∨ x = e ++ [59]) ∧ (∀ c ∈ e, anB c = true) ∧ e.length ≤ 7 ∧ e ≠ [] := by
  have hx : x = bareOf x ∨ x = bareOf x ++ [59] := by
    cases hn : endedOf x with
    | true => exact .inr (ended_iff hn)
    | false => exact .inl (bare_not hn).symm
  refine ⟨bareOf x, hx, ?_⟩
  have hN : namedN x ≠ 0 := by
    intro h0
    unfold named at h
    rw [if_pos h0] at h; cases h
  have key : ∃ e, goodE e = true ∧ e.1 = bareOf x := by
    unfold namedN at hN
    split at hN
    · rcases look_spec good_long (bareOf x) with ⟨g1, _⟩ | ⟨e, he, g1, _⟩
      · exact absurd g1 hN
      · exact ⟨e, good_long e he, g1⟩
    · rcases look_spec good_short (bareOf x) with ⟨g1, _⟩ | ⟨e, he, g1, _⟩
      · exact absurd g1 hN
      · exact ⟨e, good_short e he, g1⟩
  obtain ⟨e, he, rfl'⟩ := key
  have := goodE_spec he
  rw [rfl'] at this
  exact ⟨this.2.2.2.1, this.2.2.2.2, this.2.1⟩

/-! Numbers. -/
def numW (n : Int) : Int := if 128 ≤ n ∧ n < 160 then (if winTab.getD (n - 128).toNat 0 > 0 then winTab.getD (n - 128).toNat 0 else n) else n
def numF (n : Int) : List UInt8 := encN (if numW n = 0 then 65533 else numW n)
def refK (n : Int) : Int := match (fromTab.zip toTab).find? (fun e => e.1 == n) with | some e => e.2 | none => if n = 0 then 65533 else n
theorem refK_eq (n : Int) : refK n = if numW n = 0 then 65533 else numW n := by
  by_cases h : 128 ≤ n ∧ n < 160
  · have key : ∀ k : _root_.Fin 32, refK (128 + (k.val : Int)) = if numW (128 + (k.val : Int)) = 0 then 65533 else numW (128 + (k.val : Int)) := by decide
    have := key ⟨(n - 128).toNat, by omega⟩
    have e : (128 : Int) + ((n - 128).toNat : Int) = n := by omega
    simp only [e] at this
    exact this
  · have e1 : numW n = n := by unfold numW; rw [if_neg h]
    have e2 : (fromTab.zip toTab).find? (fun e => e.1 == n) = none := by
      rw [List.find?_eq_none]
      intro e he
      have : ∀ e ∈ fromTab.zip toTab, 128 ≤ e.1 ∧ e.1 < 160 := by decide
      have := this e he
      simp
      omega
    unfold refK
    rw [e2, e1]
def digsL (base : Int) : List UInt8 → Int → Int → Int × Int
  | [], n, i => (n, i)
  | c :: r, n, i => if hexV c < 0 ∨ base ≤ hexV c then (n, i) else digsL base r (min (n * base + hexV c) 1114112) (i + 1)
theorem digsL_bound (base : Int) : ∀ (l : List UInt8) (n i : Int), i ≤ (digsL base l n i).2 ∧ (digsL base l n i).2 ≤ i + l.length := by
  intro l
  induction l with
  | nil => intro n i; simp [digsL]
  | cons c r ih =>
    intro n i
    unfold digsL
    split
    · simp; omega
    · have := ih (min (n * base + hexV c) 1114112) (i + 1)
      simp only [List.length_cons]; omega
def hexS (s : List UInt8) : Bool := decide (s.length > 2) && (s.getD 2 0 == 120 || s.getD 2 0 == 88)
def numAt (s : List UInt8) : Int × Int := if hexS s = true then digsL 16 (s.drop 3) 0 3 else digsL 10 (s.drop 2) 0 2
def numberF (s : List UInt8) : List UInt8 × Int :=
  if (numAt s).2 = (if hexS s = true then 3 else 2) then ([], 0)
  else (numF (numAt s).1, if (numAt s).2 < s.length ∧ s.getD (numAt s).2.toNat 0 = 59 then (numAt s).2 + 1 else (numAt s).2)

/-! Names in a text. -/
def letN : Nat → List UInt8 → Nat
  | 0, _ => 0
  | _ + 1, [] => 0
  | k + 1, c :: r => if anB c = true then letN k r + 1 else 0
theorem letN_le : ∀ (k : Nat) (l : List UInt8), letN k l ≤ k ∧ letN k l ≤ l.length ∧ ∀ j < letN k l, anB (l.getD j 0) = true := by
  intro k
  induction k with
  | zero => intro l; simp [letN]
  | succ k ih =>
    intro l
    cases l with
    | nil => simp [letN]
    | cons c r =>
      unfold letN
      split
      · obtain ⟨h1, h2, h3⟩ := ih r
        refine ⟨by omega, by simp; omega, fun j hj => ?_⟩
        cases j with
        | zero => simpa
        | succ j => simpa using h3 j (by omega)
      · simp
theorem letN_stop : ∀ (k : Nat) (l : List UInt8), letN k l < k → letN k l < l.length → anB (l.getD (letN k l) 0) = false := by
  intro k
  induction k with
  | zero => intro l h; simp at h
  | succ k ih =>
    intro l h1 h2
    cases l with
    | nil => simp at h2
    | cons c r =>
      unfold letN at h1 h2 ⊢
      split at h1
      · rename_i hc
        rw [if_pos hc] at h2 ⊢
        simpa using ih r (by omega) (by simpa using h2)
      · rename_i hc
        rw [if_neg hc]
        simpa using hc
theorem letN_max {k : Nat} {l : List UInt8} {n : Nat} (hk : n ≤ k) (hl : n ≤ l.length) (h : ∀ j < n, anB (l.getD j 0) = true) : n ≤ letN k l := by
  rcases Nat.lt_or_ge (letN k l) n with hlt | hge
  · have := letN_stop k l (by omega) (by omega)
    rw [h _ hlt] at this; cases this
  · exact hge
theorem letN_pos {k : Nat} {l : List UInt8} (hk : 0 < k) : decide (letN k l > 0) = (decide (0 < l.length) && anB (l.getD 0 0)) := by
  match k, l with
  | k + 1, [] => simp [letN]
  | k + 1, c :: r =>
    unfold letN
    by_cases h : anB c = true
    · rw [if_pos h]; simp [h]
    · rw [if_neg h]; simp [h]
/-- bytes 1 to n -/
def upto (s : List UInt8) (n : Nat) : List UInt8 := (s.take (n + 1)).drop 1
theorem upto_len {s : List UInt8} {n : Nat} (h : n + 1 ≤ s.length) : (upto s n).length = n := by simp [upto]; omega
theorem upto_get {s : List UInt8} {n j : Nat} (h : n + 1 ≤ s.length) (hj : j < n) : (upto s n).getD j 0 = s.getD (j + 1) 0 := by
  have h1 : j < (upto s n).length := by rw [upto_len h]; exact hj
  simp only [List.getD, List.getElem?_eq_getElem h1, List.getElem?_eq_getElem (show j + 1 < s.length by omega), Option.getD_some]
  simp [upto, Nat.add_comm]
def stopV (s : List UInt8) (v : Bool) (n : Nat) : Bool := v && (decide (n + 1 < s.length) && (s.getD (n + 1) 0 == 61 || anB (s.getD (n + 1) 0)))
def rdLoop (s : List UInt8) (v : Bool) : Nat → List UInt8 × Int
  | 0 => ([], 0)
  | n + 1 => if (named (upto s (n + 1))).2 = false then rdLoop s v n else if stopV s v (n + 1) = true then ([], 0) else ((named (upto s (n + 1))).1, n + 2)
def refLoop (s : List UInt8) (v : Bool) : Nat → List UInt8 × Int
  | 0 => ([], 0)
  | n + 1 => if (named (upto s (n + 1))).2 = false then refLoop s v n else if (stopV s v (n + 1) && s.getD (n + 1) 0 != 59) = true then ([], 0) else ((named (upto s (n + 1))).1, n + 2)
def semiOk (s : List UInt8) (n : Nat) : Bool := decide (n + 1 < s.length) && (s.getD (n + 1) 0 == 59 && (named (upto s (n + 1))).2)
def rdP (s : List UInt8) (v : Bool) : List UInt8 × Int :=
  if s.length < 2 ∨ s.getD 0 0 ≠ 38 then ([], 0) else if s.getD 1 0 = 35 then numberF s
  else if semiOk s (letN 8 (s.drop 1)) = true then ((named (upto s (letN 8 (s.drop 1) + 1))).1, (letN 8 (s.drop 1) : Int) + 2) else rdLoop s v (letN 8 (s.drop 1))
def rdR (s : List UInt8) (v : Bool) : List UInt8 × Int :=
  if s = [] ∨ s.getD 0 0 ≠ 38 then ([], 0) else if 1 < s.length ∧ s.getD 1 0 = 35 then numberF s else refLoop s v (min (s.length - 1) 12)

theorem name_at {s : List UInt8} {n : Nat} (hn : n + 1 ≤ s.length) (h : (named (upto s n)).2 = true) :
    n ≤ letN 8 (s.drop 1) ∨ (n = letN 8 (s.drop 1) + 1 ∧ s.getD n 0 = 59) := by
  obtain ⟨e, hx, h1, h2, h3⟩ := named_ok h
  have hlen := upto_len hn
  have hd : ∀ j, (s.drop 1).getD j 0 = s.getD (j + 1) 0 := fun j => by simp [List.getD, Nat.add_comm]
  have hget : ∀ {j : Nat}, j < e.length → anB (e.getD j 0) = true := fun {j} hj => h1 _ (by simp [List.getD, List.getElem?_eq_getElem hj])
  rcases hx with hx | hx
  · left
    have hle : e.length = n := by rw [← hx]; exact hlen
    refine letN_max (by omega) (by simp; omega) fun j hj => ?_
    rw [hd, ← upto_get hn hj, hx]
    exact hget (by omega)
  · have hle : e.length + 1 = n := by rw [← hlen, hx]; simp
    have h59 : s.getD n 0 = 59 := by
      have := upto_get hn (show n - 1 < n by omega)
      rw [hx, show n - 1 + 1 = n by omega] at this
      rw [← this, show n - 1 = e.length by omega]
      simp
    right
    refine ⟨?_, h59⟩
    have hge : e.length ≤ letN 8 (s.drop 1) := letN_max (by omega) (by simp; omega) fun j hj => by
      rw [hd, ← upto_get hn (by omega), hx]
      have : (e ++ [59]).getD j 0 = e.getD j 0 := by simp [List.getD, List.getElem?_append_left hj]
      rw [this]; exact hget hj
    rcases Nat.lt_or_ge e.length (letN 8 (s.drop 1)) with hlt | hge'
    · have := (letN_le 8 (s.drop 1)).2.2 _ hlt
      rw [hd, hle, h59] at this
      exact absurd this (by decide)
    · omega
theorem refLoop_skip {s : List UInt8} {v : Bool} {k : Nat} : ∀ {n : Nat}, k ≤ n → (∀ j, k < j → j ≤ n → (named (upto s j)).2 = false) → refLoop s v n = refLoop s v k := by
  intro n
  induction n with
  | zero => intro h _; have : k = 0 := by omega
            subst this; rfl
  | succ n ih =>
    intro h hj
    by_cases hk : k = n + 1
    · subst hk; rfl
    · have := hj (n + 1) (by omega) (by omega)
      rw [refLoop, if_pos this]
      exact ih (by omega) fun j h1 h2 => hj j h1 (by omega)
theorem refLoop_rd {s : List UInt8} {v : Bool} : ∀ {n : Nat}, (∀ j, 0 < j → j ≤ n → s.getD j 0 ≠ 59) → refLoop s v n = rdLoop s v n := by
  intro n
  induction n with
  | zero => intro _; rfl
  | succ n ih =>
    intro h
    rw [refLoop, rdLoop, ih fun j h1 h2 => h j h1 (by omega)]
    have : (s.getD (n + 1) 0 != 59) = true := by simpa using h (n + 1) (by omega) (by omega)
    rw [this, Bool.and_true]
theorem rd_eq (s : List UInt8) (v : Bool) : rdR s v = rdP s v := by
  unfold rdR rdP
  by_cases h0 : s.getD 0 0 = 38
  · by_cases hl : s.length < 2
    · rw [if_pos (Or.inl hl)]
      by_cases he : s = []
      · rw [if_pos (Or.inl he)]
      · have hlen : s.length = 1 := by have := List.length_pos_iff.mpr he; omega
        rw [if_neg (by rintro (h | h); exact he h; exact h h0), if_neg (by omega)]
        simp [hlen, refLoop]
    · have he : s ≠ [] := by rintro rfl; simp at hl
      have hA : ¬ (s = [] ∨ s.getD 0 0 ≠ 38) := by rintro (h | h); exact he h; exact h h0
      have hB : ¬ (s.length < 2 ∨ s.getD 0 0 ≠ 38) := by rintro (h | h); exact hl h; exact h h0
      rw [if_neg hA, if_neg hB]
      by_cases h1 : s.getD 1 0 = 35
      · have hC : 1 < s.length ∧ s.getD 1 0 = 35 := ⟨by omega, h1⟩
        rw [if_pos hC, if_pos h1]
      · have hC : ¬ (1 < s.length ∧ s.getD 1 0 = 35) := by rintro ⟨_, h⟩; exact h1 h
        rw [if_neg hC, if_neg h1]
        obtain ⟨g1, g2, g3⟩ := letN_le 8 (s.drop 1)
        have hd : ∀ j, (s.drop 1).getD j 0 = s.getD (j + 1) 0 := fun j => by simp [List.getD, Nat.add_comm]
        have g2' : letN 8 (s.drop 1) + 1 ≤ s.length := by rw [List.length_drop] at g2; omega
        have no59 : ∀ j, 0 < j → j ≤ letN 8 (s.drop 1) → s.getD j 0 ≠ 59 := by
          intro j hj1 hj2 h59
          have := g3 (j - 1) (by omega)
          rw [hd, show j - 1 + 1 = j by omega, h59] at this
          exact absurd this (by decide)
        generalize hL : letN 8 (s.drop 1) = L at *
        by_cases hs : semiOk s L = true
        · rw [if_pos hs]
          simp only [semiOk, Bool.and_eq_true, decide_eq_true_eq, beq_iff_eq] at hs
          obtain ⟨s1, s2, s3⟩ := hs
          rw [refLoop_skip (k := L + 1) (by omega) (fun j j1 j2 => ?_)]
          · rw [refLoop, if_neg (by rw [s3]; simp), if_neg (by rw [s2]; simp)]
          · cases hq : (named (upto s j)).2 with
            | false => rfl
            | true =>
              rcases name_at (s := s) (n := j) (by omega) hq with h | ⟨h, _⟩ <;> rw [hL] at h <;> omega
        · rw [if_neg hs]
          rw [refLoop_skip (k := L) (by omega) (fun j j1 j2 => ?_)]
          · exact refLoop_rd no59
          · cases hq : (named (upto s j)).2 with
            | false => rfl
            | true =>
              exfalso
              rcases name_at (s := s) (n := j) (by omega) hq with h | ⟨h, h59⟩
              · rw [hL] at h; omega
              · rw [hL] at h
                subst h
                apply hs
                simp only [semiOk, Bool.and_eq_true, decide_eq_true_eq, beq_iff_eq]
                exact ⟨by omega, h59, hq⟩
  · rw [if_pos (Or.inr h0), if_pos (Or.inr h0)]

theorem rdLoop_bound {s : List UInt8} {v : Bool} : ∀ {n : Nat}, n + 1 ≤ s.length → 0 ≤ (rdLoop s v n).2 ∧ (rdLoop s v n).2 ≤ s.length ∧ (rdLoop s v n).1.length ≤ 4 := by
  intro n
  induction n with
  | zero => intro _; simp [rdLoop]
  | succ n ih =>
    intro h
    rw [rdLoop]
    split
    · exact ih (by omega)
    · split
      · simp
      · refine ⟨by simp; omega, by simp; omega, ?_⟩
        unfold named
        split
        · simp
        · exact encN_len _
theorem rd_bound (s : List UInt8) (v : Bool) : 0 ≤ (rdP s v).2 ∧ (rdP s v).2 ≤ s.length ∧ (rdP s v).1.length ≤ 4 := by
  unfold rdP
  split
  · simp
  · rename_i h
    have h2 : 2 ≤ s.length := by
      rcases Nat.lt_or_ge s.length 2 with h' | h'
      · exact absurd (Or.inl h') h
      · exact h'
    split
    · have hb : (if hexS s = true then (3:Int) else 2) ≤ (numAt s).2 ∧ (numAt s).2 ≤ s.length := by
        unfold numAt
        by_cases hx : hexS s = true
        · rw [if_pos hx, if_pos hx]
          have := digsL_bound 16 (s.drop 3) 0 3
          simp only [hexS, Bool.and_eq_true, decide_eq_true_eq] at hx
          simp only [List.length_drop] at this
          omega
        · rw [if_neg hx, if_neg hx]
          have := digsL_bound 10 (s.drop 2) 0 2
          simp only [List.length_drop] at this
          omega
      have h23 : (2 : Int) ≤ if hexS s = true then (3:Int) else 2 := by split <;> omega
      unfold numberF
      by_cases hq : (numAt s).2 = (if hexS s = true then (3:Int) else 2)
      · rw [if_pos hq]; simp
      · rw [if_neg hq]
        refine ⟨?_, ?_, encN_len _⟩
        · simp only; split <;> omega
        · simp only; split <;> omega
    · obtain ⟨g1, g2, _⟩ := letN_le 8 (s.drop 1)
      simp only [List.length_drop] at g2
      split
      · rename_i hs
        simp only [semiOk, Bool.and_eq_true, decide_eq_true_eq] at hs
        refine ⟨by simp only; omega, by simp only; omega, ?_⟩
        unfold named
        split
        · simp
        · exact encN_len _
      · exact rdLoop_bound (by omega)

/-! A text. -/
def dec (v : Bool) : Nat → List UInt8 → List UInt8
  | 0, _ => []
  | f + 1, s => if s = [] then [] else if (rdP s v).2 = 0 then s.getD 0 0 :: dec v f (s.drop 1) else (rdP s v).1 ++ dec v f (s.drop (rdP s v).2.toNat)
def decF (s : List UInt8) (v : Bool) : List UInt8 := dec v s.length s
theorem dec_fuel (v : Bool) : ∀ (f : Nat) (s : List UInt8), s.length ≤ f → dec v f s = dec v s.length s := by
  intro f
  induction f with
  | zero => intro s h; have : s = [] := List.length_eq_zero_iff.1 (by omega)
            subst this; rfl
  | succ f ih =>
    intro s h
    by_cases he : s = []
    · subst he; simp [dec]
    · have hp : 0 < s.length := List.length_pos_iff.mpr he
      obtain ⟨m, hm⟩ : ∃ m, s.length = m + 1 := ⟨s.length - 1, by omega⟩
      rw [hm, dec, dec, if_neg he, if_neg he]
      obtain ⟨b1, b2, _⟩ := rd_bound s v
      by_cases h0 : (rdP s v).2 = 0
      · rw [if_pos h0, if_pos h0, ih (s.drop 1) (by simp; omega)]
        congr 1
        have e : (s.drop 1).length = m := by simp; omega
        rw [e]
      · rw [if_neg h0, if_neg h0, ih (s.drop (rdP s v).2.toNat) (by simp; omega)]
        congr 1
        have e : (s.drop (rdP s v).2.toNat).length ≤ m := by simp; omega
        -- both have fuel enough
        have aux : ∀ (g : Nat) (t : List UInt8), t.length ≤ g → g ≤ f → dec v g t = dec v t.length t := by
          intro g
          induction g with
          | zero => intro t ht _; have : t = [] := List.length_eq_zero_iff.1 (by omega)
                    subst this; rfl
          | succ g ihg =>
            intro t ht hgf
            by_cases hte : t = []
            · subst hte; simp [dec]
            · have hgf' : g + 1 = f ∨ g + 1 < f := by omega
              rcases hgf' with rfl | hlt
              · exact ih t ht
              · have h1 := ih t (by omega)
                rw [← h1]
                have key : ∀ (a b : Nat) (u : List UInt8), u.length ≤ a → a ≤ b → dec v a u = dec v b u := by
                  intro a
                  induction a with
                  | zero => intro b u hu _; have : u = [] := List.length_eq_zero_iff.1 (by omega)
                            subst this; cases b <;> simp [dec]
                  | succ a iha =>
                    intro b u hu hab
                    obtain ⟨b', rfl⟩ : ∃ b', b = b' + 1 := ⟨b - 1, by omega⟩
                    by_cases hue : u = []
                    · subst hue; simp [dec]
                    · rw [dec, dec, if_neg hue, if_neg hue]
                      obtain ⟨c1, c2, _⟩ := rd_bound u v
                      have hup : 0 < u.length := List.length_pos_iff.mpr hue
                      by_cases hz : (rdP u v).2 = 0
                      · rw [if_pos hz, if_pos hz, iha b' (u.drop 1) (by simp; omega) (by omega)]
                      · rw [if_neg hz, if_neg hz, iha b' (u.drop (rdP u v).2.toNat) (by simp; omega) (by omega)]
                exact key (g + 1) f t ht (by omega)
        exact (aux m _ e (by omega)).symm
theorem decF_nil (v : Bool) : decF [] v = [] := rfl
theorem decF_step {s : List UInt8} (v : Bool) (h : s ≠ []) :
    decF s v = if (rdP s v).2 = 0 then s.getD 0 0 :: decF (s.drop 1) v else (rdP s v).1 ++ decF (s.drop (rdP s v).2.toNat) v := by
  have hp : 0 < s.length := List.length_pos_iff.mpr h
  obtain ⟨m, hm⟩ : ∃ m, s.length = m + 1 := ⟨s.length - 1, by omega⟩
  unfold decF
  rw [hm, dec, if_neg h]
  obtain ⟨b1, b2, _⟩ := rd_bound s v
  by_cases h0 : (rdP s v).2 = 0
  · rw [if_pos h0, if_pos h0, dec_fuel v m (s.drop 1) (by simp; omega)]
  · rw [if_neg h0, if_neg h0, dec_fuel v m (s.drop (rdP s v).2.toNat) (by simp; omega)]
end Go.Vc

namespace Go.Vc.W
open Go.Proofs
set_option linter.unusedVariables false
def isSp (c : Int) : Bool := c == 9 || c == 10 || c == 12 || c == 13 || c == 32
set_option maxRecDepth 10000
set_option linter.unusedSimpArgs false
instance f31 (c : Int) : Fn BB 119 [.int .u8 c] True (.bool (isSp c)) := by
  refine Fn.intro (N := 10) [0, 2, 3, 4] [] Tryd.call119 Tryd.func119 rfl rfl (by kernel_rfl) (fun hpre => ?_)
  repeat' ((conv => whnf); first | (with_reducible rfl) | exact True.intro | (with_reducible exact absTF) | (with_reducible exact absFT) | intro _ | refine And.intro ?_ ?_ | refine Fin.mk ?_ | refine CallG.plain rfl ?_ ?_ | refine CallG.mk rfl ?_ ?_ | refine CallG.nwl rfl ?_ ?_ | refine CallG.nw ?_ ?_ | refine CallF.nwl rfl ?_ ?_ | refine CallF.nw ?_ ?_ | refine AppN.mk ?_ | (refine CallS.q ?_; (conv => whnf); first | refine CallG.plain rfl ?_ ?_ | refine CallG.mk rfl ?_ ?_) | (refine CallS.m ?_; (conv => whnf); refine CallM.mk rfl ?_ ?_) | (refine CallS.h ?_; (conv => whnf); refine CallM.mk rfl ?_ ?_) | (refine CallS.b ?_; (conv => whnf); refine CallM.mk rfl ?_ ?_) | (refine CallS.z ?_; (conv => whnf); refine CallM.mk rfl ?_ ?_))
  all_goals (try (conv => whnf))
  all_goals (simp_all [isSp]; done)
instance f40 (c : Int) : Fn BB 139 [.int .u8 c] True (.bool (isSp c)) := by
  refine Fn.intro (N := 21) [0, 2] [] Tryd.call139 Tryd.func139 rfl rfl (by kernel_rfl) (fun hpre => ?_)
  repeat' ((conv => whnf); first | (with_reducible rfl) | exact True.intro | (with_reducible exact absTF) | (with_reducible exact absFT) | intro _ | refine And.intro ?_ ?_ | refine Fin.mk ?_ | refine CallG.plain rfl ?_ ?_ | refine CallG.mk rfl ?_ ?_ | refine CallG.nwl rfl ?_ ?_ | refine CallG.nw ?_ ?_ | refine CallF.nwl rfl ?_ ?_ | refine CallF.nw ?_ ?_ | refine AppN.mk ?_ | (refine CallS.q ?_; (conv => whnf); first | refine CallG.plain rfl ?_ ?_ | refine CallG.mk rfl ?_ ?_) | (refine CallS.m ?_; (conv => whnf); refine CallM.mk rfl ?_ ?_) | (refine CallS.h ?_; (conv => whnf); refine CallM.mk rfl ?_ ?_) | (refine CallS.b ?_; (conv => whnf); refine CallM.mk rfl ?_ ?_) | (refine CallS.z ?_; (conv => whnf); refine CallM.mk rfl ?_ ?_))
  all_goals (try (conv => whnf))
  all_goals (simp_all [isSp]; done)

theorem take_snoc {α : Type} (l : List α) (i : Nat) (d : α) (h : i < l.length) : l.take (i + 1) = l.take i ++ [l.getD i d] := by
  rw [List.take_succ_eq_append_getElem h]; simp [List.getD, List.getElem?_eq_getElem h]

theorem take_has (l : List (List UInt8)) (i : Nat) (w : List UInt8) (h : i < l.length) : (l.take (i+1)).contains w = ((l.take i).contains w || (l.getD i [] == w)) := by
  rw [take_snoc l i [] h]
  simp only [List.contains_eq_any_beq, List.any_append, List.any_cons, List.any_nil, Bool.or_false]
  congr 1
  exact Bool.beq_comm

/-- Has -/
instance f34 (l : List (List UInt8)) (w : List UInt8) : Fn BB 86 [.rd .str l, .str w] True (.bool (l.contains w)) := by
  refine Fn.intro (N := 18) [0, 1, 4, 5, 9, 17] [] Tryd.call86 Tryd.func86 rfl rfl (by kernel_rfl) (fun hpre => ?_)
  (conv => whnf)
  refine LoopStop.mk (α := Nat) (fun i => [(5, .int .i64 i)]) (fun _ => []) 0 (fun i => i ≤ l.length ∧ (l.take i).contains w = false) (fun i => l.length - i) 0 (by simp) ?_ (fun i hi => ?_)
  · repeat' ((conv => whnf); first | (with_reducible rfl) | exact True.intro | (with_reducible exact absTF) | (with_reducible exact absFT) | intro _ | refine And.intro ?_ ?_ | refine Fin.mk ?_ | refine CallG.plain rfl ?_ ?_ | refine CallG.mk rfl ?_ ?_ | refine CallG.nwl rfl ?_ ?_ | refine CallG.nw ?_ ?_ | refine CallF.nwl rfl ?_ ?_ | refine CallF.nw ?_ ?_ | refine AppN.mk ?_ | (refine CallS.q ?_; (conv => whnf); first | refine CallG.plain rfl ?_ ?_ | refine CallG.mk rfl ?_ ?_) | (refine CallS.m ?_; (conv => whnf); refine CallM.mk rfl ?_ ?_) | (refine CallS.h ?_; (conv => whnf); refine CallM.mk rfl ?_ ?_) | (refine CallS.b ?_; (conv => whnf); refine CallM.mk rfl ?_ ?_) | (refine CallS.z ?_; (conv => whnf); refine CallM.mk rfl ?_ ?_))
    all_goals (try (conv => whnf))
    all_goals (try rfl)
  · repeat' ((conv => whnf); first | (with_reducible rfl) | exact True.intro | (with_reducible exact absTF) | (with_reducible exact absFT) | intro _ | refine And.intro ?_ ?_ | refine Fin.mk ?_ | refine CallG.plain rfl ?_ ?_ | refine CallG.mk rfl ?_ ?_ | refine CallG.nwl rfl ?_ ?_ | refine CallG.nw ?_ ?_ | refine CallF.nwl rfl ?_ ?_ | refine CallF.nw ?_ ?_ | refine AppN.mk ?_ | (refine CallS.q ?_; (conv => whnf); first | refine CallG.plain rfl ?_ ?_ | refine CallG.mk rfl ?_ ?_) | (refine CallS.m ?_; (conv => whnf); refine CallM.mk rfl ?_ ?_) | (refine CallS.h ?_; (conv => whnf); refine CallM.mk rfl ?_ ?_) | (refine CallS.b ?_; (conv => whnf); refine CallM.mk rfl ?_ ?_) | (refine CallS.z ?_; (conv => whnf); refine CallM.mk rfl ?_ ?_))
    all_goals (try (conv => whnf))
    all_goals (try (exact Ob.mk (u8_bnd _)))
    all_goals (try (refine Ob.mk ?_; first | exact True.intro | assumption | omega | (try simp only [decide_eq_true_eq, decide_eq_false_iff_not, beq_iff_eq, beq_eq_false_iff_ne, bne_iff_ne, bne_eq_false_iff_eq, ne_eq, Bool.and_eq_true, Bool.or_eq_true, Bool.not_eq_true, Bool.not_eq_false, Bool.not_eq_true', Bool.not_eq_false', Int.toNat_natCast, Int.not_lt, Int.not_le, UInt8.ofNat_toNat, cast_eq] at *; omega)))
    all_goals (try ((show (_:Int) = _); omega))
    all_goals (try (show tupSV _ = _; with_unfolding_all rfl))
    all_goals (try ((show (_ : Nat) ≤ _); (simp <;> omega)))
    all_goals (try ((show (_ : Nat) ≤ _ ∧ (_ : Nat) ≤ _); (simp <;> omega)))
    all_goals (try ((show (_ : Int) ≤ _ ∧ (_ : Int) ≤ _ ∧ (_ : Int) ≤ _ ∧ (_ : Int) ≤ _); (simp <;> omega)))
    all_goals (try simp only [decide_eq_true_eq, decide_eq_false_iff_not, beq_iff_eq, beq_eq_false_iff_ne, bne_iff_ne, bne_eq_false_iff_eq, ne_eq, Bool.and_eq_true, Bool.or_eq_true, Bool.not_eq_true, Bool.not_eq_false, Bool.not_eq_true', Bool.not_eq_false', Int.toNat_natCast, Int.not_lt, Int.not_le, UInt8.ofNat_toNat, cast_eq] at *)
    · rename_i h1 h2 h3
      have h4 : i < l.length := by omega
      rw [← h3]; simp [List.getD, List.getElem?_eq_getElem h4]
    · rename_i h1 h2 h3
      have h4 : i < l.length := by omega
      refine Rnd.mk ⟨i + 1, ?_, ?_, ?_⟩
      · refine ⟨by omega, ?_⟩
        rw [take_has l i w h4, hi.2, Bool.false_or]; exact beq_eq_false_iff_ne.mpr h3
      · omega
      · repeat' ((conv => whnf); first | (with_reducible rfl) | exact True.intro | (with_reducible exact absTF) | (with_reducible exact absFT) | intro _ | refine And.intro ?_ ?_ | refine Fin.mk ?_ | refine CallG.plain rfl ?_ ?_ | refine CallG.mk rfl ?_ ?_ | refine CallG.nwl rfl ?_ ?_ | refine CallG.nw ?_ ?_ | refine CallF.nwl rfl ?_ ?_ | refine CallF.nw ?_ ?_ | refine AppN.mk ?_ | (refine CallS.q ?_; (conv => whnf); first | refine CallG.plain rfl ?_ ?_ | refine CallG.mk rfl ?_ ?_) | (refine CallS.m ?_; (conv => whnf); refine CallM.mk rfl ?_ ?_) | (refine CallS.h ?_; (conv => whnf); refine CallM.mk rfl ?_ ?_) | (refine CallS.b ?_; (conv => whnf); refine CallM.mk rfl ?_ ?_) | (refine CallS.z ?_; (conv => whnf); refine CallM.mk rfl ?_ ?_))
        all_goals (try (conv => whnf))
        all_goals (try (exact Ob.mk (u8_bnd _)))
        all_goals (try (refine Ob.mk ?_; first | exact True.intro | assumption | omega | (try simp only [decide_eq_true_eq, decide_eq_false_iff_not, beq_iff_eq, beq_eq_false_iff_ne, bne_iff_ne, bne_eq_false_iff_eq, ne_eq, Bool.and_eq_true, Bool.or_eq_true, Bool.not_eq_true, Bool.not_eq_false, Bool.not_eq_true', Bool.not_eq_false', Int.toNat_natCast, Int.not_lt, Int.not_le, UInt8.ofNat_toNat, cast_eq] at *; omega)))
        all_goals (try ((show (_:Int) = _); omega))
        all_goals (try (show tupSV _ = _; with_unfolding_all rfl))
        all_goals (try ((show (_ : Nat) ≤ _); (simp <;> omega)))
        all_goals (try ((show (_ : Nat) ≤ _ ∧ (_ : Nat) ≤ _); (simp <;> omega)))
        all_goals (try ((show (_ : Int) ≤ _ ∧ (_ : Int) ≤ _ ∧ (_ : Int) ≤ _ ∧ (_ : Int) ≤ _); (simp <;> omega)))
    · rename_i h1 h2
      have : i = l.length := by omega
      subst this; simp_all
end Go.Vc.W

namespace Go.Vc.W
open Go.Proofs
set_option linter.unusedVariables false
set_option maxRecDepth 10000
set_option linter.unusedSimpArgs false

def spStep (p : List (List UInt8) × List UInt8) (c : UInt8) : List (List UInt8) × List UInt8 :=
  if isSp c.toNat then (if p.2 = [] then (p.1, []) else (p.1 ++ [p.2], [])) else (p.1, p.2 ++ [c])
def spFin (p : List (List UInt8) × List UInt8) : List (List UInt8) := if p.2 = [] then p.1 else p.1 ++ [p.2]
def spl (s : List UInt8) : List (List UInt8) := spFin (s.foldl spStep ([], []))
def spAt (s : List UInt8) (i : Nat) : List (List UInt8) × List UInt8 := (s.take i).foldl spStep ([], [])

theorem spAt_succ (s : List UInt8) (i : Nat) (h : i < s.length) : spAt s (i + 1) = spStep (spAt s i) (s.getD i 0) := by
  unfold spAt; rw [take_snoc s i 0 h, List.foldl_append]; rfl
theorem spAt_all (s : List UInt8) (i : Nat) (h : s.length ≤ i) : spAt s i = s.foldl spStep ([], []) := by
  unfold spAt; rw [List.take_of_length_le h]
theorem spStep_len (p : List (List UInt8) × List UInt8) (c : UInt8) : (spStep p c).1.length + (spStep p c).2.length ≤ p.1.length + p.2.length + 1 := by
  unfold spStep
  by_cases h : isSp c.toNat = true
  · by_cases h2 : p.2 = []
    · simp [h, h2]
    · have := List.length_pos_iff.mpr h2
      simp [h, h2]
  · simp [h]; omega
theorem spAt_len (s : List UInt8) (i : Nat) : (spAt s i).1.length + (spAt s i).2.length ≤ i := by
  induction i with
  | zero => simp [spAt]
  | succ i ih =>
    by_cases h : i < s.length
    · rw [spAt_succ s i h]; have := spStep_len (spAt s i) (s.getD i 0); omega
    · have e : spAt s (i+1) = spAt s i := by rw [spAt_all s (i+1) (by omega), spAt_all s i (by omega)]
      rw [e]; exact Nat.le_succ_of_le ih
theorem drop_take_one (s : List UInt8) (i : Nat) (h : i < s.length) : (s.take (i+1)).drop i = [s.getD i 0] := by
  rw [take_snoc s i 0 h, List.drop_append, List.length_take, Nat.min_eq_left (by omega)]; simp
theorem toNat_add_one (i : Nat) : ((i:Int)+1).toNat = i+1 := by omega
theorem spl_w {s : List UInt8} {i : Nat} (h : s.length ≤ i) (h2 : ¬ (spAt s i).2 = []) : spl s = (spAt s i).1 ++ [(spAt s i).2] := by
  unfold spl; rw [← spAt_all s i h]; simp [spFin, h2]
theorem spl_e {s : List UInt8} {i : Nat} (h : s.length ≤ i) (h2 : (spAt s i).2 = []) : spl s = (spAt s i).1 := by
  unfold spl; rw [← spAt_all s i h]; simp [spFin, h2]

theorem spStep_no {p : List (List UInt8) × List UInt8} {c : UInt8} (h : isSp c.toNat = false) : spStep p c = (p.1, p.2 ++ [c]) := by
  simp [spStep, h]
theorem spStep_sp {p : List (List UInt8) × List UInt8} {c : UInt8} (h : isSp c.toNat = true) (h2 : p.2 = []) : spStep p c = (p.1, []) := by
  simp [spStep, h, h2]
theorem spStep_spw {p : List (List UInt8) × List UInt8} {c : UInt8} (h : isSp c.toNat = true) (h2 : ¬ p.2 = []) : spStep p c = (p.1 ++ [p.2], []) := by
  simp [spStep, h, h2]

/-- ref03.Split -/
instance f35 (s : List UInt8) : Fn BB 117 [.str s] (s.length ≤ 100000) (.rd .str (spl s)) := by
  refine Fn.intro (N := 37) [0, 2, 3, 4, 5, 9, 16, 25, 31] [] Tryd.call117 Tryd.func117 rfl rfl (by kernel_rfl) (fun hpre => ?_)
  (conv => whnf)
  refine LoopStop.mk (α := Nat) (fun i => [(3, .own 0), (4, .str (spAt s i).2), (5, .int .i64 i)]) (fun i => [(0, .own .str (spAt s i).1)]) 1 (fun i => i ≤ s.length) (fun i => s.length - i) 0 (by simp) ?_ (fun i hi => ?_)
  · repeat' ((conv => whnf); first | (with_reducible rfl) | exact True.intro | (with_reducible exact absTF) | (with_reducible exact absFT) | intro _ | refine And.intro ?_ ?_ | refine Fin.mk ?_ | refine CallG.plain rfl ?_ ?_ | refine CallG.mk rfl ?_ ?_ | refine CallG.nwl rfl ?_ ?_ | refine CallG.nw ?_ ?_ | refine CallF.nwl rfl ?_ ?_ | refine CallF.nw ?_ ?_ | refine AppN.mk ?_ | (refine CallS.q ?_; (conv => whnf); first | refine CallG.plain rfl ?_ ?_ | refine CallG.mk rfl ?_ ?_) | (refine CallS.m ?_; (conv => whnf); refine CallM.mk rfl ?_ ?_) | (refine CallS.h ?_; (conv => whnf); refine CallM.mk rfl ?_ ?_) | (refine CallS.b ?_; (conv => whnf); refine CallM.mk rfl ?_ ?_) | (refine CallS.z ?_; (conv => whnf); refine CallM.mk rfl ?_ ?_))
    all_goals (try (conv => whnf))
    all_goals (try rfl)
  · have hl := spAt_len s i
    repeat' ((conv => whnf); first | (with_reducible rfl) | exact True.intro | (with_reducible exact absTF) | (with_reducible exact absFT) | intro _ | refine And.intro ?_ ?_ | refine Fin.mk ?_ | refine CallG.plain rfl ?_ ?_ | refine CallG.mk rfl ?_ ?_ | refine CallG.nwl rfl ?_ ?_ | refine CallG.nw ?_ ?_ | refine CallF.nwl rfl ?_ ?_ | refine CallF.nw ?_ ?_ | refine AppN.mk ?_ | (refine CallS.q ?_; (conv => whnf); first | refine CallG.plain rfl ?_ ?_ | refine CallG.mk rfl ?_ ?_) | (refine CallS.m ?_; (conv => whnf); refine CallM.mk rfl ?_ ?_) | (refine CallS.h ?_; (conv => whnf); refine CallM.mk rfl ?_ ?_) | (refine CallS.b ?_; (conv => whnf); refine CallM.mk rfl ?_ ?_) | (refine CallS.z ?_; (conv => whnf); refine CallM.mk rfl ?_ ?_))
    all_goals (try (conv => whnf))
    all_goals (try (exact Ob.mk (u8_bnd _)))
    all_goals (try (refine Ob.mk ?_; first | exact True.intro | assumption | omega | (try simp only [decide_eq_true_eq, decide_eq_false_iff_not, beq_iff_eq, beq_eq_false_iff_ne, bne_iff_ne, bne_eq_false_iff_eq, ne_eq, Bool.and_eq_true, Bool.or_eq_true, Bool.not_eq_true, Bool.not_eq_false, Bool.not_eq_true', Bool.not_eq_false', Int.toNat_natCast, Int.not_lt, Int.not_le, UInt8.ofNat_toNat, cast_eq] at *; omega)))
    all_goals (try ((show (_:Int) = _); omega))
    all_goals (try (show tupSV _ = _; with_unfolding_all rfl))
    all_goals (try ((show (_ : Nat) ≤ _); (simp <;> omega)))
    all_goals (try ((show (_ : Nat) ≤ _ ∧ (_ : Nat) ≤ _); (simp <;> omega)))
    all_goals (try ((show (_ : Int) ≤ _ ∧ (_ : Int) ≤ _ ∧ (_ : Int) ≤ _ ∧ (_ : Int) ≤ _); (simp <;> omega)))
    all_goals (try simp only [decide_eq_true_eq, decide_eq_false_iff_not, beq_iff_eq, beq_eq_false_iff_ne, bne_iff_ne, bne_eq_false_iff_eq, ne_eq, Bool.and_eq_true, Bool.or_eq_true, Bool.not_eq_true, Bool.not_eq_false, Bool.not_eq_true', Bool.not_eq_false', Int.toNat_natCast, Int.not_lt, Int.not_le, UInt8.ofNat_toNat, cast_eq] at *)
    · have h : i < s.length := by omega
      have e := spAt_succ s i h
      rw [spStep_no ‹_›] at e
      refine Rnd.mk ⟨i + 1, ?_, ?_, ?_⟩
      · exact h
      · omega
      · repeat' ((conv => whnf); first | (with_reducible rfl) | exact True.intro | (with_reducible exact absTF) | (with_reducible exact absFT) | intro _ | refine And.intro ?_ ?_ | refine Fin.mk ?_ | refine CallG.plain rfl ?_ ?_ | refine CallG.mk rfl ?_ ?_ | refine CallG.nwl rfl ?_ ?_ | refine CallG.nw ?_ ?_ | refine CallF.nwl rfl ?_ ?_ | refine CallF.nw ?_ ?_ | refine AppN.mk ?_ | (refine CallS.q ?_; (conv => whnf); first | refine CallG.plain rfl ?_ ?_ | refine CallG.mk rfl ?_ ?_) | (refine CallS.m ?_; (conv => whnf); refine CallM.mk rfl ?_ ?_) | (refine CallS.h ?_; (conv => whnf); refine CallM.mk rfl ?_ ?_) | (refine CallS.b ?_; (conv => whnf); refine CallM.mk rfl ?_ ?_) | (refine CallS.z ?_; (conv => whnf); refine CallM.mk rfl ?_ ?_))
        all_goals (try (conv => whnf))
        all_goals (try (exact Ob.mk (u8_bnd _)))
        all_goals (try (refine Ob.mk ?_; first | exact True.intro | assumption | omega | (try simp only [decide_eq_true_eq, decide_eq_false_iff_not, beq_iff_eq, beq_eq_false_iff_ne, bne_iff_ne, bne_eq_false_iff_eq, ne_eq, Bool.and_eq_true, Bool.or_eq_true, Bool.not_eq_true, Bool.not_eq_false, Bool.not_eq_true', Bool.not_eq_false', Int.toNat_natCast, Int.not_lt, Int.not_le, UInt8.ofNat_toNat, cast_eq] at *; omega)))
        all_goals (try ((show (_:Int) = _); omega))
        all_goals (try (show tupSV _ = _; with_unfolding_all rfl))
        all_goals (try ((show (_ : Nat) ≤ _); (simp <;> omega)))
        all_goals (try ((show (_ : Nat) ≤ _ ∧ (_ : Nat) ≤ _); (simp <;> omega)))
        all_goals (try ((show (_ : Int) ≤ _ ∧ (_ : Int) ≤ _ ∧ (_ : Int) ≤ _ ∧ (_ : Int) ≤ _); (simp <;> omega)))
        all_goals (simp only [e, toNat_add_one, drop_take_one s i h]; done)
    · skip
      have h : i < s.length := by omega
      have e := spAt_succ s i h
      rw [spStep_spw ‹_› ‹_›] at e
      repeat' ((conv => whnf); first | (with_reducible rfl) | exact True.intro | (with_reducible exact absTF) | (with_reducible exact absFT) | intro _ | refine And.intro ?_ ?_ | refine Fin.mk ?_ | refine CallG.plain rfl ?_ ?_ | refine CallG.mk rfl ?_ ?_ | refine CallG.nwl rfl ?_ ?_ | refine CallG.nw ?_ ?_ | refine CallF.nwl rfl ?_ ?_ | refine CallF.nw ?_ ?_ | refine AppN.mk ?_ | (refine CallS.q ?_; (conv => whnf); first | refine CallG.plain rfl ?_ ?_ | refine CallG.mk rfl ?_ ?_) | (refine CallS.m ?_; (conv => whnf); refine CallM.mk rfl ?_ ?_) | (refine CallS.h ?_; (conv => whnf); refine CallM.mk rfl ?_ ?_) | (refine CallS.b ?_; (conv => whnf); refine CallM.mk rfl ?_ ?_) | (refine CallS.z ?_; (conv => whnf); refine CallM.mk rfl ?_ ?_))
      all_goals (try (conv => whnf))
      all_goals (try (exact Ob.mk (u8_bnd _)))
      all_goals (try (refine Ob.mk ?_; first | exact True.intro | assumption | omega | (try simp only [decide_eq_true_eq, decide_eq_false_iff_not, beq_iff_eq, beq_eq_false_iff_ne, bne_iff_ne, bne_eq_false_iff_eq, ne_eq, Bool.and_eq_true, Bool.or_eq_true, Bool.not_eq_true, Bool.not_eq_false, Bool.not_eq_true', Bool.not_eq_false', Int.toNat_natCast, Int.not_lt, Int.not_le, UInt8.ofNat_toNat, cast_eq] at *; omega)))
      all_goals (try ((show (_:Int) = _); omega))
      all_goals (try (show tupSV _ = _; with_unfolding_all rfl))
      all_goals (try ((show (_ : Nat) ≤ _); (simp <;> omega)))
      all_goals (try ((show (_ : Nat) ≤ _ ∧ (_ : Nat) ≤ _); (simp <;> omega)))
      all_goals (try ((show (_ : Int) ≤ _ ∧ (_ : Int) ≤ _ ∧ (_ : Int) ≤ _ ∧ (_ : Int) ≤ _); (simp <;> omega)))
      refine Rnd.mk ⟨i + 1, ?_, ?_, ?_⟩
      · exact h
      · omega
      · repeat' ((conv => whnf); first | (with_reducible rfl) | exact True.intro | (with_reducible exact absTF) | (with_reducible exact absFT) | intro _ | refine And.intro ?_ ?_ | refine Fin.mk ?_ | refine CallG.plain rfl ?_ ?_ | refine CallG.mk rfl ?_ ?_ | refine CallG.nwl rfl ?_ ?_ | refine CallG.nw ?_ ?_ | refine CallF.nwl rfl ?_ ?_ | refine CallF.nw ?_ ?_ | refine AppN.mk ?_ | (refine CallS.q ?_; (conv => whnf); first | refine CallG.plain rfl ?_ ?_ | refine CallG.mk rfl ?_ ?_) | (refine CallS.m ?_; (conv => whnf); refine CallM.mk rfl ?_ ?_) | (refine CallS.h ?_; (conv => whnf); refine CallM.mk rfl ?_ ?_) | (refine CallS.b ?_; (conv => whnf); refine CallM.mk rfl ?_ ?_) | (refine CallS.z ?_; (conv => whnf); refine CallM.mk rfl ?_ ?_))
        all_goals (try (conv => whnf))
        all_goals (try (exact Ob.mk (u8_bnd _)))
        all_goals (try (refine Ob.mk ?_; first | exact True.intro | assumption | omega | (try simp only [decide_eq_true_eq, decide_eq_false_iff_not, beq_iff_eq, beq_eq_false_iff_ne, bne_iff_ne, bne_eq_false_iff_eq, ne_eq, Bool.and_eq_true, Bool.or_eq_true, Bool.not_eq_true, Bool.not_eq_false, Bool.not_eq_true', Bool.not_eq_false', Int.toNat_natCast, Int.not_lt, Int.not_le, UInt8.ofNat_toNat, cast_eq] at *; omega)))
        all_goals (try ((show (_:Int) = _); omega))
        all_goals (try (show tupSV _ = _; with_unfolding_all rfl))
        all_goals (try ((show (_ : Nat) ≤ _); (simp <;> omega)))
        all_goals (try ((show (_ : Nat) ≤ _ ∧ (_ : Nat) ≤ _); (simp <;> omega)))
        all_goals (try ((show (_ : Int) ≤ _ ∧ (_ : Int) ≤ _ ∧ (_ : Int) ≤ _ ∧ (_ : Int) ≤ _); (simp <;> omega)))
        all_goals (simp only [e]; done)
    · have h : i < s.length := by omega
      have e := spAt_succ s i h
      rw [spStep_sp ‹_› ‹_›] at e
      refine Rnd.mk ⟨i + 1, ?_, ?_, ?_⟩
      · exact h
      · omega
      · repeat' ((conv => whnf); first | (with_reducible rfl) | exact True.intro | (with_reducible exact absTF) | (with_reducible exact absFT) | intro _ | refine And.intro ?_ ?_ | refine Fin.mk ?_ | refine CallG.plain rfl ?_ ?_ | refine CallG.mk rfl ?_ ?_ | refine CallG.nwl rfl ?_ ?_ | refine CallG.nw ?_ ?_ | refine CallF.nwl rfl ?_ ?_ | refine CallF.nw ?_ ?_ | refine AppN.mk ?_ | (refine CallS.q ?_; (conv => whnf); first | refine CallG.plain rfl ?_ ?_ | refine CallG.mk rfl ?_ ?_) | (refine CallS.m ?_; (conv => whnf); refine CallM.mk rfl ?_ ?_) | (refine CallS.h ?_; (conv => whnf); refine CallM.mk rfl ?_ ?_) | (refine CallS.b ?_; (conv => whnf); refine CallM.mk rfl ?_ ?_) | (refine CallS.z ?_; (conv => whnf); refine CallM.mk rfl ?_ ?_))
        all_goals (try (conv => whnf))
        all_goals (try (exact Ob.mk (u8_bnd _)))
        all_goals (try (refine Ob.mk ?_; first | exact True.intro | assumption | omega | (try simp only [decide_eq_true_eq, decide_eq_false_iff_not, beq_iff_eq, beq_eq_false_iff_ne, bne_iff_ne, bne_eq_false_iff_eq, ne_eq, Bool.and_eq_true, Bool.or_eq_true, Bool.not_eq_true, Bool.not_eq_false, Bool.not_eq_true', Bool.not_eq_false', Int.toNat_natCast, Int.not_lt, Int.not_le, UInt8.ofNat_toNat, cast_eq] at *; omega)))
        all_goals (try ((show (_:Int) = _); omega))
        all_goals (try (show tupSV _ = _; with_unfolding_all rfl))
        all_goals (try ((show (_ : Nat) ≤ _); (simp <;> omega)))
        all_goals (try ((show (_ : Nat) ≤ _ ∧ (_ : Nat) ≤ _); (simp <;> omega)))
        all_goals (try ((show (_ : Int) ≤ _ ∧ (_ : Int) ≤ _ ∧ (_ : Int) ≤ _ ∧ (_ : Int) ≤ _); (simp <;> omega)))
        all_goals (simp only [e]; done)
    · skip
      repeat' ((conv => whnf); first | (with_reducible rfl) | exact True.intro | (with_reducible exact absTF) | (with_reducible exact absFT) | intro _ | refine And.intro ?_ ?_ | refine Fin.mk ?_ | refine CallG.plain rfl ?_ ?_ | refine CallG.mk rfl ?_ ?_ | refine CallG.nwl rfl ?_ ?_ | refine CallG.nw ?_ ?_ | refine CallF.nwl rfl ?_ ?_ | refine CallF.nw ?_ ?_ | refine AppN.mk ?_ | (refine CallS.q ?_; (conv => whnf); first | refine CallG.plain rfl ?_ ?_ | refine CallG.mk rfl ?_ ?_) | (refine CallS.m ?_; (conv => whnf); refine CallM.mk rfl ?_ ?_) | (refine CallS.h ?_; (conv => whnf); refine CallM.mk rfl ?_ ?_) | (refine CallS.b ?_; (conv => whnf); refine CallM.mk rfl ?_ ?_) | (refine CallS.z ?_; (conv => whnf); refine CallM.mk rfl ?_ ?_))
      all_goals (try (conv => whnf))
      rw [spl_w (i := i) (by omega) ‹_›]
    · rw [spl_e (i := i) (by omega) ‹_›]
end Go.Vc.W

namespace Go.Vc.W
open Go.Proofs
set_option linter.unusedVariables false
set_option maxRecDepth 10000
set_option linter.unusedSimpArgs false

instance f29 (s w : List UInt8) : Fn BB 87 [.str s, .str w] (s.length ≤ 100000) (.bool ((spl s).contains w)) := by
  refine Fn.intro (N := 9) [0, 1, 4] [] Tryd.call87 Tryd.func87 rfl rfl (by kernel_rfl) (fun hpre => ?_)
  repeat' ((conv => whnf); first | (with_reducible rfl) | exact True.intro | (with_reducible exact absTF) | (with_reducible exact absFT) | intro _ | refine And.intro ?_ ?_ | refine Fin.mk ?_ | refine CallG.plain rfl ?_ ?_ | refine CallG.mk rfl ?_ ?_ | refine CallG.nwl rfl ?_ ?_ | refine CallG.nw ?_ ?_ | refine CallF.nwl rfl ?_ ?_ | refine CallF.nw ?_ ?_ | refine AppN.mk ?_ | (refine CallS.q ?_; (conv => whnf); first | refine CallG.plain rfl ?_ ?_ | refine CallG.mk rfl ?_ ?_) | (refine CallS.m ?_; (conv => whnf); refine CallM.mk rfl ?_ ?_) | (refine CallS.h ?_; (conv => whnf); refine CallM.mk rfl ?_ ?_) | (refine CallS.b ?_; (conv => whnf); refine CallM.mk rfl ?_ ?_) | (refine CallS.z ?_; (conv => whnf); refine CallM.mk rfl ?_ ?_))
  all_goals (try (conv => whnf))
  all_goals (try (exact Ob.mk (u8_bnd _)))
  all_goals (try (refine Ob.mk ?_; first | exact True.intro | assumption | omega | (try simp only [decide_eq_true_eq, decide_eq_false_iff_not, beq_iff_eq, beq_eq_false_iff_ne, bne_iff_ne, bne_eq_false_iff_eq, ne_eq, Bool.and_eq_true, Bool.or_eq_true, Bool.not_eq_true, Bool.not_eq_false, Bool.not_eq_true', Bool.not_eq_false', Int.toNat_natCast, Int.not_lt, Int.not_le, UInt8.ofNat_toNat, cast_eq] at *; omega)))
  all_goals (try ((show (_:Int) = _); omega))
  all_goals (try (show tupSV _ = _; with_unfolding_all rfl))
  all_goals (try ((show (_ : Nat) ≤ _); (simp <;> omega)))
  all_goals (try ((show (_ : Nat) ≤ _ ∧ (_ : Nat) ≤ _); (simp <;> omega)))
  all_goals (try ((show (_ : Int) ≤ _ ∧ (_ : Int) ≤ _ ∧ (_ : Int) ≤ _ ∧ (_ : Int) ≤ _); (simp <;> omega)))
theorem contains_of_getD {l : List (List UInt8)} {i : Nat} (h : i < l.length) : l.contains (l.getD i []) = true := by
  simp [List.getD, List.getElem?_eq_getElem h]
def ixOf (l : List (List UInt8)) (w : List UInt8) : Int := if l.contains w then (l.idxOf w : Int) else -1
theorem ixOf_none {l : List (List UInt8)} {w : List UInt8} (h : l.contains w = false) : ixOf l w = -1 := by rw [ixOf, h]; rfl
theorem ixOf_at {l : List (List UInt8)} {w : List UInt8} {i : Nat} (h : i < l.length) (h1 : (l.take i).contains w = false) (h2 : w = l.getD i []) : ixOf l w = i := by
  rw [ixOf, h2, contains_of_getD h, ← h2, if_pos rfl]
  have e := List.take_append_drop i l
  rw [← e, List.idxOf_append, if_neg (by simpa using h1), List.length_take, Nat.min_eq_left (by omega)]
  have e2 : l.drop i = w :: l.drop (i+1) := by rw [List.drop_eq_getElem_cons h, h2]; simp [List.getD, List.getElem?_eq_getElem h]
  rw [e2, List.idxOf_cons_self]; simp
instance f37 (l : List (List UInt8)) (w : List UInt8) : Fn BB 63 [.rd .str l, .str w] True (.int .i64 (ixOf l w)) := by
  refine Fn.intro (N := 19) [0, 1, 4, 5, 7, 8, 9, 16] [] Tryd.call63 Tryd.func63 rfl rfl (by kernel_rfl) (fun hpre => ?_)
  (conv => whnf)
  intro hlen
  (conv => whnf)
  refine LoopStop.mk (α := Nat) (fun i => [(8, .int .i64 i)]) (fun i => []) 0 (fun i => i ≤ l.length ∧ (l.take i).contains w = false) (fun i => l.length - i) 0 (by simp) ?_ (fun i hi => ?_)
  · repeat' ((conv => whnf); first | (with_reducible rfl) | exact True.intro | (with_reducible exact absTF) | (with_reducible exact absFT) | intro _ | refine And.intro ?_ ?_ | refine Fin.mk ?_ | refine CallG.plain rfl ?_ ?_ | refine CallG.mk rfl ?_ ?_ | refine CallG.nwl rfl ?_ ?_ | refine CallG.nw ?_ ?_ | refine CallF.nwl rfl ?_ ?_ | refine CallF.nw ?_ ?_ | refine AppN.mk ?_ | (refine CallS.q ?_; (conv => whnf); first | refine CallG.plain rfl ?_ ?_ | refine CallG.mk rfl ?_ ?_) | (refine CallS.m ?_; (conv => whnf); refine CallM.mk rfl ?_ ?_) | (refine CallS.h ?_; (conv => whnf); refine CallM.mk rfl ?_ ?_) | (refine CallS.b ?_; (conv => whnf); refine CallM.mk rfl ?_ ?_) | (refine CallS.z ?_; (conv => whnf); refine CallM.mk rfl ?_ ?_))
    all_goals (try (conv => whnf))
    all_goals (try rfl)
  · repeat' ((conv => whnf); first | (with_reducible rfl) | exact True.intro | (with_reducible exact absTF) | (with_reducible exact absFT) | intro _ | refine And.intro ?_ ?_ | refine Fin.mk ?_ | refine CallG.plain rfl ?_ ?_ | refine CallG.mk rfl ?_ ?_ | refine CallG.nwl rfl ?_ ?_ | refine CallG.nw ?_ ?_ | refine CallF.nwl rfl ?_ ?_ | refine CallF.nw ?_ ?_ | refine AppN.mk ?_ | (refine CallS.q ?_; (conv => whnf); first | refine CallG.plain rfl ?_ ?_ | refine CallG.mk rfl ?_ ?_) | (refine CallS.m ?_; (conv => whnf); refine CallM.mk rfl ?_ ?_) | (refine CallS.h ?_; (conv => whnf); refine CallM.mk rfl ?_ ?_) | (refine CallS.b ?_; (conv => whnf); refine CallM.mk rfl ?_ ?_) | (refine CallS.z ?_; (conv => whnf); refine CallM.mk rfl ?_ ?_))
    all_goals (try (conv => whnf))
    all_goals (try (exact Ob.mk (u8_bnd _)))
    all_goals (try (refine Ob.mk ?_; first | exact True.intro | assumption | omega | (try simp only [decide_eq_true_eq, decide_eq_false_iff_not, beq_iff_eq, beq_eq_false_iff_ne, bne_iff_ne, bne_eq_false_iff_eq, ne_eq, Bool.and_eq_true, Bool.or_eq_true, Bool.not_eq_true, Bool.not_eq_false, Bool.not_eq_true', Bool.not_eq_false', Int.toNat_natCast, Int.not_lt, Int.not_le, UInt8.ofNat_toNat, cast_eq] at *; omega)))
    all_goals (try ((show (_:Int) = _); omega))
    all_goals (try (show tupSV _ = _; with_unfolding_all rfl))
    all_goals (try ((show (_ : Nat) ≤ _); (simp <;> omega)))
    all_goals (try ((show (_ : Nat) ≤ _ ∧ (_ : Nat) ≤ _); (simp <;> omega)))
    all_goals (try ((show (_ : Int) ≤ _ ∧ (_ : Int) ≤ _ ∧ (_ : Int) ≤ _ ∧ (_ : Int) ≤ _); (simp <;> omega)))
    all_goals (try simp only [decide_eq_true_eq, decide_eq_false_iff_not, beq_iff_eq, beq_eq_false_iff_ne, bne_iff_ne, bne_eq_false_iff_eq, ne_eq, Bool.and_eq_true, Bool.or_eq_true, Bool.not_eq_true, Bool.not_eq_false, Bool.not_eq_true', Bool.not_eq_false', Int.toNat_natCast, Int.not_lt, Int.not_le, UInt8.ofNat_toNat, cast_eq] at *)
    · rw [ixOf_at (by omega) hi.2 ‹_›]
    · have h : i < l.length := by omega
      refine Rnd.mk ⟨i + 1, ?_, ?_, ?_⟩
      · refine ⟨by omega, ?_⟩
        rw [take_has l i w h, hi.2, Bool.false_or]; exact beq_eq_false_iff_ne.mpr (fun e => by simp_all)
      · omega
      · repeat' ((conv => whnf); first | (with_reducible rfl) | exact True.intro | (with_reducible exact absTF) | (with_reducible exact absFT) | intro _ | refine And.intro ?_ ?_ | refine Fin.mk ?_ | refine CallG.plain rfl ?_ ?_ | refine CallG.mk rfl ?_ ?_ | refine CallG.nwl rfl ?_ ?_ | refine CallG.nw ?_ ?_ | refine CallF.nwl rfl ?_ ?_ | refine CallF.nw ?_ ?_ | refine AppN.mk ?_ | (refine CallS.q ?_; (conv => whnf); first | refine CallG.plain rfl ?_ ?_ | refine CallG.mk rfl ?_ ?_) | (refine CallS.m ?_; (conv => whnf); refine CallM.mk rfl ?_ ?_) | (refine CallS.h ?_; (conv => whnf); refine CallM.mk rfl ?_ ?_) | (refine CallS.b ?_; (conv => whnf); refine CallM.mk rfl ?_ ?_) | (refine CallS.z ?_; (conv => whnf); refine CallM.mk rfl ?_ ?_))
        all_goals (try (conv => whnf))
        all_goals (try (exact Ob.mk (u8_bnd _)))
        all_goals (try (refine Ob.mk ?_; first | exact True.intro | assumption | omega | (try simp only [decide_eq_true_eq, decide_eq_false_iff_not, beq_iff_eq, beq_eq_false_iff_ne, bne_iff_ne, bne_eq_false_iff_eq, ne_eq, Bool.and_eq_true, Bool.or_eq_true, Bool.not_eq_true, Bool.not_eq_false, Bool.not_eq_true', Bool.not_eq_false', Int.toNat_natCast, Int.not_lt, Int.not_le, UInt8.ofNat_toNat, cast_eq] at *; omega)))
        all_goals (try ((show (_:Int) = _); omega))
        all_goals (try (show tupSV _ = _; with_unfolding_all rfl))
        all_goals (try ((show (_ : Nat) ≤ _); (simp <;> omega)))
        all_goals (try ((show (_ : Nat) ≤ _ ∧ (_ : Nat) ≤ _); (simp <;> omega)))
        all_goals (try ((show (_ : Int) ≤ _ ∧ (_ : Int) ≤ _ ∧ (_ : Int) ≤ _ ∧ (_ : Int) ≤ _); (simp <;> omega)))
    · have : i = l.length := by omega
      subst this
      rw [ixOf_none (by simpa using hi.2)]
instance f32 (l : List (List UInt8)) (w : List UInt8) : Fn BB 23 [.rd .str l, .str w] True (.bool (decide (ixOf l w ≥ 0))) := by
  refine Fn.intro (N := 9) [0, 1, 4] [] Tryd.call23 Tryd.func23 rfl rfl (by kernel_rfl) (fun hpre => ?_)
  repeat' ((conv => whnf); first | (with_reducible rfl) | exact True.intro | (with_reducible exact absTF) | (with_reducible exact absFT) | intro _ | refine And.intro ?_ ?_ | refine Fin.mk ?_ | refine CallG.plain rfl ?_ ?_ | refine CallG.mk rfl ?_ ?_ | refine CallG.nwl rfl ?_ ?_ | refine CallG.nw ?_ ?_ | refine CallF.nwl rfl ?_ ?_ | refine CallF.nw ?_ ?_ | refine AppN.mk ?_ | (refine CallS.q ?_; (conv => whnf); first | refine CallG.plain rfl ?_ ?_ | refine CallG.mk rfl ?_ ?_) | (refine CallS.m ?_; (conv => whnf); refine CallM.mk rfl ?_ ?_) | (refine CallS.h ?_; (conv => whnf); refine CallM.mk rfl ?_ ?_) | (refine CallS.b ?_; (conv => whnf); refine CallM.mk rfl ?_ ?_) | (refine CallS.z ?_; (conv => whnf); refine CallM.mk rfl ?_ ?_))
  all_goals (try (conv => whnf))
  all_goals (try (exact Ob.mk (u8_bnd _)))
  all_goals (try (refine Ob.mk ?_; first | exact True.intro | assumption | omega | (try simp only [decide_eq_true_eq, decide_eq_false_iff_not, beq_iff_eq, beq_eq_false_iff_ne, bne_iff_ne, bne_eq_false_iff_eq, ne_eq, Bool.and_eq_true, Bool.or_eq_true, Bool.not_eq_true, Bool.not_eq_false, Bool.not_eq_true', Bool.not_eq_false', Int.toNat_natCast, Int.not_lt, Int.not_le, UInt8.ofNat_toNat, cast_eq] at *; omega)))
  all_goals (try ((show (_:Int) = _); omega))
  all_goals (try (show tupSV _ = _; with_unfolding_all rfl))
  all_goals (try ((show (_ : Nat) ≤ _); (simp <;> omega)))
  all_goals (try ((show (_ : Nat) ≤ _ ∧ (_ : Nat) ≤ _); (simp <;> omega)))
  all_goals (try ((show (_ : Int) ≤ _ ∧ (_ : Int) ≤ _ ∧ (_ : Int) ≤ _ ∧ (_ : Int) ≤ _); (simp <;> omega)))
end Go.Vc.W

namespace Go.Vc.W
open Go.Proofs
set_option linter.unusedVariables false
set_option maxRecDepth 10000
set_option linter.unusedSimpArgs false
def spR (r : Int) : Bool := decide (r < 128) && isSp (IntKind.u8.wrap r)
instance f39 (r : Int) : Fn BB 124 [.int .i32 r] (0 ≤ r) (.bool (spR r)) := by
  refine Fn.intro (N := 10) [0, 2] [] Tryd.call124 Tryd.func124 rfl rfl (by kernel_rfl) (fun hpre => ?_)
  repeat' ((conv => whnf); first | (with_reducible rfl) | exact True.intro | (with_reducible exact absTF) | (with_reducible exact absFT) | intro _ | refine And.intro ?_ ?_ | refine Fin.mk ?_ | refine CallG.plain rfl ?_ ?_ | refine CallG.mk rfl ?_ ?_ | refine CallG.nwl rfl ?_ ?_ | refine CallG.nw ?_ ?_ | refine CallF.nwl rfl ?_ ?_ | refine CallF.nw ?_ ?_ | refine AppN.mk ?_ | (refine CallS.q ?_; (conv => whnf); first | refine CallG.plain rfl ?_ ?_ | refine CallG.mk rfl ?_ ?_) | (refine CallS.m ?_; (conv => whnf); refine CallM.mk rfl ?_ ?_) | (refine CallS.h ?_; (conv => whnf); refine CallM.mk rfl ?_ ?_) | (refine CallS.b ?_; (conv => whnf); refine CallM.mk rfl ?_ ?_) | (refine CallS.z ?_; (conv => whnf); refine CallM.mk rfl ?_ ?_))
  all_goals (try (conv => whnf))
  all_goals (try (exact Ob.mk (u8_bnd _)))
  all_goals (try (refine Ob.mk ?_; first | exact True.intro | assumption | omega | (try simp only [decide_eq_true_eq, decide_eq_false_iff_not, beq_iff_eq, beq_eq_false_iff_ne, bne_iff_ne, bne_eq_false_iff_eq, ne_eq, Bool.and_eq_true, Bool.or_eq_true, Bool.not_eq_true, Bool.not_eq_false, Bool.not_eq_true', Bool.not_eq_false', Int.toNat_natCast, Int.not_lt, Int.not_le, UInt8.ofNat_toNat, cast_eq] at *; omega)))
  all_goals (try ((show (_:Int) = _); omega))
  all_goals (try (show tupSV _ = _; with_unfolding_all rfl))
  all_goals (try ((show (_ : Nat) ≤ _); (simp <;> omega)))
  all_goals (try ((show (_ : Nat) ≤ _ ∧ (_ : Nat) ≤ _); (simp <;> omega)))
  all_goals (try ((show (_ : Int) ≤ _ ∧ (_ : Int) ≤ _ ∧ (_ : Int) ≤ _ ∧ (_ : Int) ≤ _); (simp <;> omega)))
  all_goals rfl

theorem getB (s : List UInt8) (j : Nat) : (ByteArray.get! ⟨s.toArray⟩ j) = s.getD j 0 := by
  by_cases h : j < s.length
  · have : j < s.toArray.size := by simpa using h
    simp [ByteArray.get!, List.getD, h]
  · simp [ByteArray.get!, List.getD, h]; rfl
theorem decL_pos (s : List UInt8) (pos : Nat) (h : pos < s.length) : 1 ≤ (decL s pos).2 ∧ pos + (decL s pos).2 ≤ s.length ∧
    (if (decL s pos).1 < 128 then (decL s pos).2 = 1 ∧ (decL s pos).1 = (s.getD pos 0).toNat else ∀ j, pos ≤ j → j < pos + (decL s pos).2 → 128 ≤ (s.getD j 0).toNat) := by
  have hsz : ByteArray.size ⟨s.toArray⟩ = s.length := by simp [ByteArray.size]
  have hb : ∀ j, (s.getD j 0).toNat < 256 := fun j => UInt8.toNat_lt _
  unfold decL Utf8.decode
  simp only [getB, hsz, Nat.add_zero]
  generalize e0 : (s.getD pos 0).toNat = b0
  generalize e1 : (s.getD (pos+1) 0).toNat = b1
  generalize e2 : (s.getD (pos+2) 0).toNat = b2
  generalize e3 : (s.getD (pos+3) 0).toNat = b3
  have k0 := hb pos
  have k1 := hb (pos+1)
  have k2 := hb (pos+2)
  have k3 := hb (pos+3)
  rw [e0] at k0; rw [e1] at k1; rw [e2] at k2; rw [e3] at k3
  have one : ∀ j, pos ≤ j → j < pos + 1 → (s.getD j 0).toNat = b0 := fun j h1 h2 => by
    have : j = pos := by omega
    subst this; exact e0
  split
  · simp; omega
  · rename_i hb0
    have fallb : ∀ j, pos ≤ j → j < pos + 1 → 128 ≤ (s.getD j 0).toNat := fun j h1 h2 => by rw [one j h1 h2]; omega
    have err : 1 ≤ ((Utf8.runeError, 1) : Nat × Nat).2 ∧ pos + ((Utf8.runeError, 1) : Nat × Nat).2 ≤ s.length ∧ (if ((Utf8.runeError, 1) : Nat × Nat).1 < 128 then ((Utf8.runeError, 1) : Nat × Nat).2 = 1 ∧ ((Utf8.runeError, 1) : Nat × Nat).1 = b0 else ∀ j, pos ≤ j → j < pos + ((Utf8.runeError, 1) : Nat × Nat).2 → 128 ≤ (s.getD j 0).toNat) := by
      refine ⟨Nat.le_refl _, h, ?_⟩
      rw [if_neg (by decide)]; exact fallb
    split
    · rename_i h2
      simp only [Bool.and_eq_true, decide_eq_true_eq, beq_iff_eq] at h2
      split
      · refine ⟨by simp, by simp; omega, ?_⟩
        rw [if_neg (by simp; omega)]
        intro j h3 h4
        have : j = pos ∨ j = pos + 1 := by simp at h4; omega
        rcases this with rfl | rfl
        · rw [e0]; omega
        · rw [e1]; omega
      · exact err
    · split
      · rename_i h2
        simp only [Bool.and_eq_true, decide_eq_true_eq, beq_iff_eq] at h2
        split
        · rename_i h5
          simp only [Bool.and_eq_true, decide_eq_true_eq, beq_iff_eq] at h5
          refine ⟨by simp, by simp; omega, ?_⟩
          rw [if_neg (by simp; omega)]
          intro j h3 h4
          have : j = pos ∨ j = pos + 1 ∨ j = pos + 2 := by simp at h4; omega
          rcases this with rfl | rfl | rfl
          · rw [e0]; omega
          · rw [e1]; omega
          · rw [e2]; omega
        · exact err
      · split
        · rename_i h2
          simp only [Bool.and_eq_true, decide_eq_true_eq, beq_iff_eq] at h2
          split
          · rename_i h5
            simp only [Bool.and_eq_true, decide_eq_true_eq, beq_iff_eq] at h5
            refine ⟨by simp, by simp; omega, ?_⟩
            rw [if_neg (by simp; omega)]
            intro j h3 h4
            have : j = pos ∨ j = pos + 1 ∨ j = pos + 2 ∨ j = pos + 3 := by simp at h4; omega
            rcases this with rfl | rfl | rfl | rfl
            · rw [e0]; omega
            · rw [e1]; omega
            · rw [e2]; omega
            · rw [e3]; omega
          · exact err
        · exact err
def cut (s : List UInt8) (p : Int × Int) : List UInt8 := (s.take p.2.toNat).drop p.1.toNat
theorem isSp_high {c : Nat} (h : 128 ≤ c) : isSp c = false := by
  simp only [isSp, Bool.or_eq_false_iff, beq_eq_false_iff_ne]; omega
theorem cut_more (s : List UInt8) (i pos : Nat) (h : i ≤ pos) (h2 : pos < s.length) : cut s (i, (pos+1:Nat)) = cut s (i, pos) ++ [s.getD pos 0] := by
  unfold cut
  simp only [Int.toNat_natCast]
  rw [take_snoc s pos 0 h2, List.drop_append_of_le_length (by rw [List.length_take]; omega)]
theorem spAt_run (s : List UInt8) (pos k : Nat) (h : pos + k ≤ s.length) (hh : ∀ j, pos ≤ j → j < pos + k → isSp (s.getD j 0).toNat = false) :
    spAt s (pos + k) = ((spAt s pos).1, (spAt s pos).2 ++ cut s (pos, (pos + k : Nat))) := by
  induction k with
  | zero => simp [cut]
  | succ k ih =>
    rw [← Nat.add_assoc, spAt_succ s _ (by omega), spStep_no (hh _ (by omega) (by omega)), ih (by omega) (fun j h1 h2 => hh j h1 (by omega)), cut_more s pos (pos+k) (by omega) (by omega)]
    simp
theorem cut_cat (s : List UInt8) (i j k : Nat) (h : i ≤ j) (h2 : j ≤ k) (h3 : k ≤ s.length) : cut s (i, j) ++ cut s (j, k) = cut s (i, k) := by
  induction k with
  | zero => have : j = 0 := by omega
            have : i = 0 := by omega
            subst_vars; simp [cut]
  | succ k ih =>
    by_cases e : j = k + 1
    · subst e; simp [cut]
    · rw [cut_more s j k (by omega) (by omega), cut_more s i k (by omega) (by omega), ← List.append_assoc, ih (by omega) (by omega)]
end Go.Vc.W

namespace Go.Vc.W
open Go.Proofs
set_option linter.unusedVariables false
set_option maxRecDepth 10000
set_option linter.unusedSimpArgs false
structure FS where
  pos : Nat
  spans : List (Int × Int)
  start : Int
abbrev encP (p : Int × Int) : List SV := [.int .i64 p.1, .int .i64 p.2]
structure FSok (s : List UInt8) (a : FS) : Prop where
  hp : a.pos ≤ s.length
  hs : a.spans.map (cut s) = (spAt s a.pos).1
  hr : ∀ p ∈ a.spans, 0 ≤ p.1 ∧ p.1 ≤ p.2 ∧ p.2 ≤ s.length
  hb : -(s.length : Int) - 1 ≤ a.start ∧ a.start ≤ s.length
  hw : if a.start < 0 then (spAt s a.pos).2 = [] else a.start < a.pos ∧ (spAt s a.pos).2 = cut s (a.start, a.pos)
theorem FSok.len {s : List UInt8} {a : FS} (h : FSok s a) : a.spans.length ≤ a.pos := by
  have := spAt_len s a.pos
  rw [← h.hs, List.length_map] at this; omega
theorem cut_ne {s : List UInt8} {i : Int} {j : Nat} (h0 : 0 ≤ i) (h : i < j) (h2 : j ≤ s.length) : ¬ cut s (i, j) = [] := by
  intro e
  have := congrArg List.length e
  simp [cut] at this
  omega
theorem spR_eq {s : List UInt8} {pos : Nat} (h : pos < s.length) :
    (spR (decL s pos).1 = true → (decL s pos).2 = 1 ∧ isSp (s.getD pos 0).toNat = true) ∧
    (spR (decL s pos).1 = false → pos < pos + (decL s pos).2 ∧ pos + (decL s pos).2 ≤ s.length ∧ ∀ j, pos ≤ j → j < pos + (decL s pos).2 → isSp (s.getD j 0).toNat = false) := by
  have ⟨d1, d2, d3⟩ := decL_pos s pos h
  have hw : (decL s pos).1 < 128 → IntKind.u8.wrap ((decL s pos).1 : Int) = (decL s pos).1 := fun hh => by
    simp [IntKind.wrap, IntKind.signed, IntKind.bits]; omega
  by_cases hh : (decL s pos).1 < 128
  · rw [if_pos hh] at d3
    have e : spR (decL s pos).1 = isSp (s.getD pos 0).toNat := by
      unfold spR; rw [hw hh, decide_eq_true (by omega), Bool.true_and, d3.2]
    rw [e]
    refine ⟨fun k => ⟨d3.1, k⟩, fun k => ⟨by omega, d2, fun j h1 h2 => ?_⟩⟩
    have : j = pos := by omega
    subst this; exact k
  · rw [if_neg hh] at d3
    have e : spR (decL s pos).1 = false := by unfold spR; simp; intro k; omega
    rw [e]
    refine ⟨fun k => (nomatch k), fun _ => ⟨by omega, d2, fun j h1 h2 => isSp_high (d3 j h1 h2)⟩⟩
theorem fs_sp1 {s : List UInt8} {a : FS} (h : FSok s a) (h1 : a.pos < s.length) (h2 : spR (decL s a.pos).1 = true) (h3 : 0 ≤ a.start) :
    FSok s ⟨a.pos + (decL s a.pos).2, a.spans ++ [(a.start, (a.pos:Int))], -a.start - 1⟩ := by
  have ⟨e1, e2⟩ := (spR_eq h1).1 h2
  have hw := h.hw; rw [if_neg (by omega)] at hw
  have hb := h.hb
  have e := spAt_succ s a.pos h1
  rw [spStep_spw e2 (by rw [hw.2]; exact cut_ne h3 hw.1 h.hp)] at e
  constructor
  · simp only [e1]; omega
  · simp only [e1, e, List.map_append, h.hs, hw.2]; rfl
  · intro p hp
    rcases List.mem_append.mp hp with hp | hp
    · exact h.hr p hp
    · simp at hp; subst hp; simp; omega
  · simp; omega
  · rw [if_pos (by simp; omega)]; simp only [e1, e]
theorem fs_sp0 {s : List UInt8} {a : FS} (h : FSok s a) (h1 : a.pos < s.length) (h2 : spR (decL s a.pos).1 = true) (h3 : a.start < 0) :
    FSok s ⟨a.pos + (decL s a.pos).2, a.spans, a.start⟩ := by
  have ⟨e1, e2⟩ := (spR_eq h1).1 h2
  have hw := h.hw; rw [if_pos (by omega)] at hw
  have e := spAt_succ s a.pos h1
  rw [spStep_sp e2 hw] at e
  constructor
  · simp only [e1]; omega
  · simp only [e1, e, h.hs]
  · exact h.hr
  · exact h.hb
  · rw [if_pos (by simpa using h3)]; simp only [e1, e]
theorem fs_no1 {s : List UInt8} {a : FS} (h : FSok s a) (h1 : a.pos < s.length) (h2 : spR (decL s a.pos).1 = false) (h3 : 0 ≤ a.start) :
    FSok s ⟨a.pos + (decL s a.pos).2, a.spans, a.start⟩ := by
  have ⟨e0, e1, e2⟩ := (spR_eq h1).2 h2
  have hw := h.hw; rw [if_neg (by omega)] at hw
  have e := spAt_run s a.pos _ e1 e2
  constructor
  · exact e1
  · simp only [e, h.hs]
  · exact h.hr
  · exact h.hb
  · rw [if_neg (by simp; omega)]; simp only [e]
    refine ⟨by omega, ?_⟩
    rw [hw.2]
    obtain ⟨i, hi⟩ : ∃ i : Nat, a.start = i := ⟨a.start.toNat, by omega⟩
    rw [hi, cut_cat s i a.pos _ (by omega) (by omega) e1]
theorem fs_no0 {s : List UInt8} {a : FS} (h : FSok s a) (h1 : a.pos < s.length) (h2 : spR (decL s a.pos).1 = false) (h3 : a.start < 0) :
    FSok s ⟨a.pos + (decL s a.pos).2, a.spans, (a.pos : Int)⟩ := by
  have ⟨e0, e1, e2⟩ := (spR_eq h1).2 h2
  have hw := h.hw; rw [if_pos (by omega)] at hw
  have e := spAt_run s a.pos _ e1 e2
  constructor
  · exact e1
  · simp only [e, h.hs]
  · exact h.hr
  · simp; omega
  · rw [if_neg (by simp)]; simp only [e]
    refine ⟨by omega, ?_⟩
    rw [hw]; rfl
theorem fs_end1 {s : List UInt8} {a : FS} (h : FSok s a) (h1 : ¬ a.pos < s.length) (h3 : 0 ≤ a.start) :
    (a.spans ++ [(a.start, (s.length:Int))]).map (cut s) = spl s ∧ ∀ p ∈ (a.spans ++ [(a.start, (s.length:Int))]), 0 ≤ p.1 ∧ p.1 ≤ p.2 ∧ p.2 ≤ s.length := by
  have hp := h.hp
  have e : a.pos = s.length := by omega
  have hw := h.hw; rw [if_neg (by omega)] at hw
  have hb := h.hb
  refine ⟨?_, ?_⟩
  · rw [spl_w (i := a.pos) (by omega) (by rw [hw.2]; exact cut_ne h3 hw.1 h.hp), hw.2, ← h.hs, e, List.map_append]; rfl
  · intro p hp
    rcases List.mem_append.mp hp with hp | hp
    · exact h.hr p hp
    · simp at hp; subst hp; simp; omega
theorem fs_end0 {s : List UInt8} {a : FS} (h : FSok s a) (h1 : ¬ a.pos < s.length) (h3 : a.start < 0) :
    a.spans.map (cut s) = spl s ∧ ∀ p ∈ a.spans, 0 ≤ p.1 ∧ p.1 ≤ p.2 ∧ p.2 ≤ s.length := by
  have hp := h.hp
  have e : a.pos = s.length := by omega
  have hw := h.hw; rw [if_pos (by omega)] at hw
  exact ⟨by rw [spl_e (i := a.pos) (by omega) hw, h.hs], h.hr⟩
end Go.Vc.W

namespace Go.Vc.W
open Go.Proofs
set_option linter.unusedVariables false
set_option maxRecDepth 10000
set_option linter.unusedSimpArgs false
theorem bits_not (x : Int) (h : -100001 ≤ x ∧ x ≤ 100000) : bitsI BinOp.xor IntKind.i64 (if IntKind.i64.signed = true then -1 else IntKind.i64.max) x = -x - 1 := by
  have e : (if IntKind.i64.signed = true then (-1:Int) else IntKind.i64.max) = -1 := rfl
  rw [e]
  show IntKind.wrap .i64 ((BitVec.ofInt 64 (-1) ^^^ BitVec.ofInt 64 x).toNat : Int) = _
  have e2 : BitVec.ofInt 64 (-1) = BitVec.allOnes 64 := by decide
  rw [e2, BitVec.allOnes_xor, BitVec.toNat_not, BitVec.toNat_ofInt]
  simp [IntKind.wrap, IntKind.signed, IntKind.bits]
  omega
def fin2 (s : List UInt8) (sp : List (Int × Int)) (i : Nat) : List (List UInt8) := (sp.take i).map (cut s) ++ List.replicate (sp.length - i) []
theorem fin2_len (s : List UInt8) (sp : List (Int × Int)) (i : Nat) (h : i ≤ sp.length) : (fin2 s sp i).length = sp.length := by
  simp [fin2]; omega
theorem fin2_set (s : List UInt8) (sp : List (Int × Int)) (i : Nat) (h : i < sp.length) : (fin2 s sp i).set i (cut s (sp.getD i (0,0))) = fin2 s sp (i+1) := by
  unfold fin2
  rw [take_snoc sp i (0,0) h]
  have e : sp.length - i = (sp.length - (i+1)) + 1 := by omega
  rw [e, List.replicate_succ, List.set_append_right _ _ (by simp; omega)]
  simp
  have : i - min i sp.length = 0 := by omega
  rw [this]; simp
theorem fin2_end (s : List UInt8) (sp : List (Int × Int)) (i : Nat) (h : sp.length ≤ i) : fin2 s sp i = sp.map (cut s) := by
  unfold fin2; rw [List.take_of_length_le h]; simp; omega
theorem getD_mem' {α : Type} {l : List α} {i : Nat} {d : α} (h : i < l.length) : l.getD i d ∈ l := by
  simp [List.getD, List.getElem?_eq_getElem h]
instance f38 (s : List UInt8) : Fn BB 123 [.str s, .fn 124 []] (s.length ≤ 100000) (.rd .str (spl s)) := by
  refine Fn.intro (N := 65) [0, 1, 4, 5, 6, 7, 8, 9, 10, 11, 14, 15, 16, 21, 23, 33, 36, 47, 48, 49, 50] [] Tryd.call123 Tryd.func123 rfl rfl (by kernel_rfl) (fun hpre => ?_)
  repeat' ((conv => whnf); first | (with_reducible rfl) | exact True.intro | (with_reducible exact absTF) | (with_reducible exact absFT) | intro _ | refine And.intro ?_ ?_ | refine Fin.mk ?_ | refine CallG.plain rfl ?_ ?_ | refine CallG.mk rfl ?_ ?_ | refine CallG.nwl rfl ?_ ?_ | refine CallG.nw ?_ ?_ | refine CallF.nwl rfl ?_ ?_ | refine CallF.nw ?_ ?_ | refine AppN.mk ?_ | (refine CallS.q ?_; (conv => whnf); first | refine CallG.plain rfl ?_ ?_ | refine CallG.mk rfl ?_ ?_) | (refine CallS.m ?_; (conv => whnf); refine CallM.mk rfl ?_ ?_) | (refine CallS.h ?_; (conv => whnf); refine CallM.mk rfl ?_ ?_) | (refine CallS.b ?_; (conv => whnf); refine CallM.mk rfl ?_ ?_) | (refine CallS.z ?_; (conv => whnf); refine CallM.mk rfl ?_ ?_))
  all_goals (try (conv => whnf))
  all_goals (try (exact Ob.mk (u8_bnd _)))
  all_goals (try (refine Ob.mk ?_; first | exact True.intro | assumption | omega | (try simp only [decide_eq_true_eq, decide_eq_false_iff_not, beq_iff_eq, beq_eq_false_iff_ne, bne_iff_ne, bne_eq_false_iff_eq, ne_eq, Bool.and_eq_true, Bool.or_eq_true, Bool.not_eq_true, Bool.not_eq_false, Bool.not_eq_true', Bool.not_eq_false', Int.toNat_natCast, Int.not_lt, Int.not_le, UInt8.ofNat_toNat, cast_eq] at *; omega)))
  all_goals (try ((show (_:Int) = _); omega))
  all_goals (try (show tupSV _ = _; with_unfolding_all rfl))
  all_goals (try ((show (_ : Nat) ≤ _); (simp <;> omega)))
  all_goals (try ((show (_ : Nat) ≤ _ ∧ (_ : Nat) ≤ _); (simp <;> omega)))
  all_goals (try ((show (_ : Int) ≤ _ ∧ (_ : Int) ≤ _ ∧ (_ : Int) ≤ _ ∧ (_ : Int) ≤ _); (simp <;> omega)))
  repeat' ((conv => whnf); first | (with_reducible rfl) | exact True.intro | (with_reducible exact absTF) | (with_reducible exact absFT) | intro _ | refine And.intro ?_ ?_ | refine Fin.mk ?_ | refine CallG.plain rfl ?_ ?_ | refine CallG.mk rfl ?_ ?_ | refine CallG.nwl rfl ?_ ?_ | refine CallG.nw ?_ ?_ | refine CallF.nwl rfl ?_ ?_ | refine CallF.nw ?_ ?_ | refine AppN.mk ?_ | (refine CallS.q ?_; (conv => whnf); first | refine CallG.plain rfl ?_ ?_ | refine CallG.mk rfl ?_ ?_) | (refine CallS.m ?_; (conv => whnf); refine CallM.mk rfl ?_ ?_) | (refine CallS.h ?_; (conv => whnf); refine CallM.mk rfl ?_ ?_) | (refine CallS.b ?_; (conv => whnf); refine CallM.mk rfl ?_ ?_) | (refine CallS.z ?_; (conv => whnf); refine CallM.mk rfl ?_ ?_))
  all_goals (try (conv => whnf))
  refine LoopStop.mk (α := FS) (fun a => [(5, .own 0), (6, .int .i64 a.start)]) (fun a => [(0, .own spTy a.spans), (1, .iter s a.pos)]) 2 (FSok s) (fun a => s.length - a.pos) ⟨0, [], -1⟩ ⟨by simp, by simp [spAt], by simp, by simp; omega, by simp [spAt]⟩ ?_ (fun a ha => ?_)
  · repeat' ((conv => whnf); first | (with_reducible rfl) | exact True.intro | (with_reducible exact absTF) | (with_reducible exact absFT) | intro _ | refine And.intro ?_ ?_ | refine Fin.mk ?_ | refine CallG.plain rfl ?_ ?_ | refine CallG.mk rfl ?_ ?_ | refine CallG.nwl rfl ?_ ?_ | refine CallG.nw ?_ ?_ | refine CallF.nwl rfl ?_ ?_ | refine CallF.nw ?_ ?_ | refine AppN.mk ?_ | (refine CallS.q ?_; (conv => whnf); first | refine CallG.plain rfl ?_ ?_ | refine CallG.mk rfl ?_ ?_) | (refine CallS.m ?_; (conv => whnf); refine CallM.mk rfl ?_ ?_) | (refine CallS.h ?_; (conv => whnf); refine CallM.mk rfl ?_ ?_) | (refine CallS.b ?_; (conv => whnf); refine CallM.mk rfl ?_ ?_) | (refine CallS.z ?_; (conv => whnf); refine CallM.mk rfl ?_ ?_))
    all_goals (try (conv => whnf))
    all_goals (try rfl)
    all_goals trace_state
  · have hl := ha.len
    have h1 := ha.hp
    have h2 := ha.hb
    repeat' ((conv => whnf); first | (with_reducible rfl) | exact True.intro | (with_reducible exact absTF) | (with_reducible exact absFT) | intro _ | refine And.intro ?_ ?_ | refine Fin.mk ?_ | refine CallG.plain rfl ?_ ?_ | refine CallG.mk rfl ?_ ?_ | refine CallG.nwl rfl ?_ ?_ | refine CallG.nw ?_ ?_ | refine CallF.nwl rfl ?_ ?_ | refine CallF.nw ?_ ?_ | refine AppN.mk ?_ | (refine CallS.q ?_; (conv => whnf); first | refine CallG.plain rfl ?_ ?_ | refine CallG.mk rfl ?_ ?_) | (refine CallS.m ?_; (conv => whnf); refine CallM.mk rfl ?_ ?_) | (refine CallS.h ?_; (conv => whnf); refine CallM.mk rfl ?_ ?_) | (refine CallS.b ?_; (conv => whnf); refine CallM.mk rfl ?_ ?_) | (refine CallS.z ?_; (conv => whnf); refine CallM.mk rfl ?_ ?_))
    all_goals (try (conv => whnf))
    all_goals (try (exact Ob.mk (u8_bnd _)))
    all_goals (try (refine Ob.mk ?_; first | exact True.intro | assumption | omega | (try simp only [decide_eq_true_eq, decide_eq_false_iff_not, beq_iff_eq, beq_eq_false_iff_ne, bne_iff_ne, bne_eq_false_iff_eq, ne_eq, Bool.and_eq_true, Bool.or_eq_true, Bool.not_eq_true, Bool.not_eq_false, Bool.not_eq_true', Bool.not_eq_false', Int.toNat_natCast, Int.not_lt, Int.not_le, UInt8.ofNat_toNat, cast_eq] at *; omega)))
    all_goals (try ((show (_:Int) = _); omega))
    all_goals (try (show tupSV _ = _; with_unfolding_all rfl))
    all_goals (try ((show (_ : Nat) ≤ _); (simp <;> omega)))
    all_goals (try ((show (_ : Nat) ≤ _ ∧ (_ : Nat) ≤ _); (simp <;> omega)))
    all_goals (try ((show (_ : Int) ≤ _ ∧ (_ : Int) ≤ _ ∧ (_ : Int) ≤ _ ∧ (_ : Int) ≤ _); (simp <;> omega)))
    all_goals (try simp only [decide_eq_true_eq, decide_eq_false_iff_not, beq_iff_eq, beq_eq_false_iff_ne, bne_iff_ne, bne_eq_false_iff_eq, ne_eq, Bool.and_eq_true, Bool.or_eq_true, Bool.not_eq_true, Bool.not_eq_false, Bool.not_eq_true', Bool.not_eq_false', Int.toNat_natCast, Int.not_lt, Int.not_le, UInt8.ofNat_toNat, cast_eq] at *)
    · skip
      repeat' ((conv => whnf); first | (with_reducible rfl) | exact True.intro | (with_reducible exact absTF) | (with_reducible exact absFT) | intro _ | refine And.intro ?_ ?_ | refine Fin.mk ?_ | refine CallG.plain rfl ?_ ?_ | refine CallG.mk rfl ?_ ?_ | refine CallG.nwl rfl ?_ ?_ | refine CallG.nw ?_ ?_ | refine CallF.nwl rfl ?_ ?_ | refine CallF.nw ?_ ?_ | refine AppN.mk ?_ | (refine CallS.q ?_; (conv => whnf); first | refine CallG.plain rfl ?_ ?_ | refine CallG.mk rfl ?_ ?_) | (refine CallS.m ?_; (conv => whnf); refine CallM.mk rfl ?_ ?_) | (refine CallS.h ?_; (conv => whnf); refine CallM.mk rfl ?_ ?_) | (refine CallS.b ?_; (conv => whnf); refine CallM.mk rfl ?_ ?_) | (refine CallS.z ?_; (conv => whnf); refine CallM.mk rfl ?_ ?_))
      all_goals (try (conv => whnf))
      all_goals (try (exact Ob.mk (u8_bnd _)))
      all_goals (try (refine Ob.mk ?_; first | exact True.intro | assumption | omega | (try simp only [decide_eq_true_eq, decide_eq_false_iff_not, beq_iff_eq, beq_eq_false_iff_ne, bne_iff_ne, bne_eq_false_iff_eq, ne_eq, Bool.and_eq_true, Bool.or_eq_true, Bool.not_eq_true, Bool.not_eq_false, Bool.not_eq_true', Bool.not_eq_false', Int.toNat_natCast, Int.not_lt, Int.not_le, UInt8.ofNat_toNat, cast_eq] at *; omega)))
      all_goals (try ((show (_:Int) = _); omega))
      all_goals (try (show tupSV _ = _; with_unfolding_all rfl))
      all_goals (try ((show (_ : Nat) ≤ _); (simp <;> omega)))
      all_goals (try ((show (_ : Nat) ≤ _ ∧ (_ : Nat) ≤ _); (simp <;> omega)))
      all_goals (try ((show (_ : Int) ≤ _ ∧ (_ : Int) ≤ _ ∧ (_ : Int) ≤ _ ∧ (_ : Int) ≤ _); (simp <;> omega)))
      refine Rnd.mk ⟨⟨a.pos + (decL s a.pos).2, a.spans ++ [(a.start, (a.pos:Int))], -a.start - 1⟩, ?_, ?_, ?_⟩
      · exact fs_sp1 ha ‹_› ‹_› (by omega)
      · have := (decL_pos s a.pos ‹_›).1; simp; omega
      · repeat' ((conv => whnf); first | (with_reducible rfl) | exact True.intro | (with_reducible exact absTF) | (with_reducible exact absFT) | intro _ | refine And.intro ?_ ?_ | refine Fin.mk ?_ | refine CallG.plain rfl ?_ ?_ | refine CallG.mk rfl ?_ ?_ | refine CallG.nwl rfl ?_ ?_ | refine CallG.nw ?_ ?_ | refine CallF.nwl rfl ?_ ?_ | refine CallF.nw ?_ ?_ | refine AppN.mk ?_ | (refine CallS.q ?_; (conv => whnf); first | refine CallG.plain rfl ?_ ?_ | refine CallG.mk rfl ?_ ?_) | (refine CallS.m ?_; (conv => whnf); refine CallM.mk rfl ?_ ?_) | (refine CallS.h ?_; (conv => whnf); refine CallM.mk rfl ?_ ?_) | (refine CallS.b ?_; (conv => whnf); refine CallM.mk rfl ?_ ?_) | (refine CallS.z ?_; (conv => whnf); refine CallM.mk rfl ?_ ?_))
        all_goals (try (conv => whnf))
        all_goals (try (exact Ob.mk (u8_bnd _)))
        all_goals (try (refine Ob.mk ?_; first | exact True.intro | assumption | omega | (try simp only [decide_eq_true_eq, decide_eq_false_iff_not, beq_iff_eq, beq_eq_false_iff_ne, bne_iff_ne, bne_eq_false_iff_eq, ne_eq, Bool.and_eq_true, Bool.or_eq_true, Bool.not_eq_true, Bool.not_eq_false, Bool.not_eq_true', Bool.not_eq_false', Int.toNat_natCast, Int.not_lt, Int.not_le, UInt8.ofNat_toNat, cast_eq] at *; omega)))
        all_goals (try ((show (_:Int) = _); omega))
        all_goals (try (show tupSV _ = _; with_unfolding_all rfl))
        all_goals (try ((show (_ : Nat) ≤ _); (simp <;> omega)))
        all_goals (try ((show (_ : Nat) ≤ _ ∧ (_ : Nat) ≤ _); (simp <;> omega)))
        all_goals (try ((show (_ : Int) ≤ _ ∧ (_ : Int) ≤ _ ∧ (_ : Int) ≤ _ ∧ (_ : Int) ≤ _); (simp <;> omega)))
        all_goals (first | (rw [bits_not _ (by omega)]; done) | skip)
        all_goals trace_state
    · have := (decL_pos s a.pos ‹_›).1
      refine Rnd.mk ⟨⟨a.pos + (decL s a.pos).2, a.spans, a.start⟩, ?_, ?_, ?_⟩
      · exact fs_sp0 ha ‹_› ‹_› (by omega)
      · simp; omega
      · repeat' ((conv => whnf); first | (with_reducible rfl) | exact True.intro | (with_reducible exact absTF) | (with_reducible exact absFT) | intro _ | refine And.intro ?_ ?_ | refine Fin.mk ?_ | refine CallG.plain rfl ?_ ?_ | refine CallG.mk rfl ?_ ?_ | refine CallG.nwl rfl ?_ ?_ | refine CallG.nw ?_ ?_ | refine CallF.nwl rfl ?_ ?_ | refine CallF.nw ?_ ?_ | refine AppN.mk ?_ | (refine CallS.q ?_; (conv => whnf); first | refine CallG.plain rfl ?_ ?_ | refine CallG.mk rfl ?_ ?_) | (refine CallS.m ?_; (conv => whnf); refine CallM.mk rfl ?_ ?_) | (refine CallS.h ?_; (conv => whnf); refine CallM.mk rfl ?_ ?_) | (refine CallS.b ?_; (conv => whnf); refine CallM.mk rfl ?_ ?_) | (refine CallS.z ?_; (conv => whnf); refine CallM.mk rfl ?_ ?_))
        all_goals (try (conv => whnf))
        all_goals (try (exact Ob.mk (u8_bnd _)))
        all_goals (try (refine Ob.mk ?_; first | exact True.intro | assumption | omega | (try simp only [decide_eq_true_eq, decide_eq_false_iff_not, beq_iff_eq, beq_eq_false_iff_ne, bne_iff_ne, bne_eq_false_iff_eq, ne_eq, Bool.and_eq_true, Bool.or_eq_true, Bool.not_eq_true, Bool.not_eq_false, Bool.not_eq_true', Bool.not_eq_false', Int.toNat_natCast, Int.not_lt, Int.not_le, UInt8.ofNat_toNat, cast_eq] at *; omega)))
        all_goals (try ((show (_:Int) = _); omega))
        all_goals (try (show tupSV _ = _; with_unfolding_all rfl))
        all_goals (try ((show (_ : Nat) ≤ _); (simp <;> omega)))
        all_goals (try ((show (_ : Nat) ≤ _ ∧ (_ : Nat) ≤ _); (simp <;> omega)))
        all_goals (try ((show (_ : Int) ≤ _ ∧ (_ : Int) ≤ _ ∧ (_ : Int) ≤ _ ∧ (_ : Int) ≤ _); (simp <;> omega)))
        all_goals trace_state
    · have := (decL_pos s a.pos ‹_›).1
      refine Rnd.mk ⟨⟨a.pos + (decL s a.pos).2, a.spans, a.pos⟩, ?_, ?_, ?_⟩
      · exact fs_no0 ha ‹_› ‹_› (by omega)
      · simp; omega
      · repeat' ((conv => whnf); first | (with_reducible rfl) | exact True.intro | (with_reducible exact absTF) | (with_reducible exact absFT) | intro _ | refine And.intro ?_ ?_ | refine Fin.mk ?_ | refine CallG.plain rfl ?_ ?_ | refine CallG.mk rfl ?_ ?_ | refine CallG.nwl rfl ?_ ?_ | refine CallG.nw ?_ ?_ | refine CallF.nwl rfl ?_ ?_ | refine CallF.nw ?_ ?_ | refine AppN.mk ?_ | (refine CallS.q ?_; (conv => whnf); first | refine CallG.plain rfl ?_ ?_ | refine CallG.mk rfl ?_ ?_) | (refine CallS.m ?_; (conv => whnf); refine CallM.mk rfl ?_ ?_) | (refine CallS.h ?_; (conv => whnf); refine CallM.mk rfl ?_ ?_) | (refine CallS.b ?_; (conv => whnf); refine CallM.mk rfl ?_ ?_) | (refine CallS.z ?_; (conv => whnf); refine CallM.mk rfl ?_ ?_))
        all_goals (try (conv => whnf))
        all_goals (try (exact Ob.mk (u8_bnd _)))
        all_goals (try (refine Ob.mk ?_; first | exact True.intro | assumption | omega | (try simp only [decide_eq_true_eq, decide_eq_false_iff_not, beq_iff_eq, beq_eq_false_iff_ne, bne_iff_ne, bne_eq_false_iff_eq, ne_eq, Bool.and_eq_true, Bool.or_eq_true, Bool.not_eq_true, Bool.not_eq_false, Bool.not_eq_true', Bool.not_eq_false', Int.toNat_natCast, Int.not_lt, Int.not_le, UInt8.ofNat_toNat, cast_eq] at *; omega)))
        all_goals (try ((show (_:Int) = _); omega))
        all_goals (try (show tupSV _ = _; with_unfolding_all rfl))
        all_goals (try ((show (_ : Nat) ≤ _); (simp <;> omega)))
        all_goals (try ((show (_ : Nat) ≤ _ ∧ (_ : Nat) ≤ _); (simp <;> omega)))
        all_goals (try ((show (_ : Int) ≤ _ ∧ (_ : Int) ≤ _ ∧ (_ : Int) ≤ _ ∧ (_ : Int) ≤ _); (simp <;> omega)))
        all_goals trace_state
    · have := (decL_pos s a.pos ‹_›).1
      refine Rnd.mk ⟨⟨a.pos + (decL s a.pos).2, a.spans, a.start⟩, ?_, ?_, ?_⟩
      · exact fs_no1 ha ‹_› ‹_› (by omega)
      · simp; omega
      · repeat' ((conv => whnf); first | (with_reducible rfl) | exact True.intro | (with_reducible exact absTF) | (with_reducible exact absFT) | intro _ | refine And.intro ?_ ?_ | refine Fin.mk ?_ | refine CallG.plain rfl ?_ ?_ | refine CallG.mk rfl ?_ ?_ | refine CallG.nwl rfl ?_ ?_ | refine CallG.nw ?_ ?_ | refine CallF.nwl rfl ?_ ?_ | refine CallF.nw ?_ ?_ | refine AppN.mk ?_ | (refine CallS.q ?_; (conv => whnf); first | refine CallG.plain rfl ?_ ?_ | refine CallG.mk rfl ?_ ?_) | (refine CallS.m ?_; (conv => whnf); refine CallM.mk rfl ?_ ?_) | (refine CallS.h ?_; (conv => whnf); refine CallM.mk rfl ?_ ?_) | (refine CallS.b ?_; (conv => whnf); refine CallM.mk rfl ?_ ?_) | (refine CallS.z ?_; (conv => whnf); refine CallM.mk rfl ?_ ?_))
        all_goals (try (conv => whnf))
        all_goals (try (exact Ob.mk (u8_bnd _)))
        all_goals (try (refine Ob.mk ?_; first | exact True.intro | assumption | omega | (try simp only [decide_eq_true_eq, decide_eq_false_iff_not, beq_iff_eq, beq_eq_false_iff_ne, bne_iff_ne, bne_eq_false_iff_eq, ne_eq, Bool.and_eq_true, Bool.or_eq_true, Bool.not_eq_true, Bool.not_eq_false, Bool.not_eq_true', Bool.not_eq_false', Int.toNat_natCast, Int.not_lt, Int.not_le, UInt8.ofNat_toNat, cast_eq] at *; omega)))
        all_goals (try ((show (_:Int) = _); omega))
        all_goals (try (show tupSV _ = _; with_unfolding_all rfl))
        all_goals (try ((show (_ : Nat) ≤ _); (simp <;> omega)))
        all_goals (try ((show (_ : Nat) ≤ _ ∧ (_ : Nat) ≤ _); (simp <;> omega)))
        all_goals (try ((show (_ : Int) ≤ _ ∧ (_ : Int) ≤ _ ∧ (_ : Int) ≤ _ ∧ (_ : Int) ≤ _); (simp <;> omega)))
        all_goals trace_state
    · skip
      have hh := fs_end1 ha ‹_› (by omega)
      have hlen : (a.spans ++ [(a.start, (s.length:Int))]).length ≤ s.length + 1 := by simp; omega
      revert hh hlen
      generalize a.spans ++ [(a.start, (s.length:Int))] = sp
      intro hh hlen
      repeat' ((conv => whnf); first | (with_reducible rfl) | exact True.intro | (with_reducible exact absTF) | (with_reducible exact absFT) | intro _ | refine And.intro ?_ ?_ | refine Fin.mk ?_ | refine CallG.plain rfl ?_ ?_ | refine CallG.mk rfl ?_ ?_ | refine CallG.nwl rfl ?_ ?_ | refine CallG.nw ?_ ?_ | refine CallF.nwl rfl ?_ ?_ | refine CallF.nw ?_ ?_ | refine AppN.mk ?_ | (refine CallS.q ?_; (conv => whnf); first | refine CallG.plain rfl ?_ ?_ | refine CallG.mk rfl ?_ ?_) | (refine CallS.m ?_; (conv => whnf); refine CallM.mk rfl ?_ ?_) | (refine CallS.h ?_; (conv => whnf); refine CallM.mk rfl ?_ ?_) | (refine CallS.b ?_; (conv => whnf); refine CallM.mk rfl ?_ ?_) | (refine CallS.z ?_; (conv => whnf); refine CallM.mk rfl ?_ ?_))
      all_goals (try (conv => whnf))
      all_goals (try (exact Ob.mk (u8_bnd _)))
      all_goals (try (refine Ob.mk ?_; first | exact True.intro | assumption | omega | (try simp only [decide_eq_true_eq, decide_eq_false_iff_not, beq_iff_eq, beq_eq_false_iff_ne, bne_iff_ne, bne_eq_false_iff_eq, ne_eq, Bool.and_eq_true, Bool.or_eq_true, Bool.not_eq_true, Bool.not_eq_false, Bool.not_eq_true', Bool.not_eq_false', Int.toNat_natCast, Int.not_lt, Int.not_le, UInt8.ofNat_toNat, cast_eq] at *; omega)))
      all_goals (try ((show (_:Int) = _); omega))
      all_goals (try (show tupSV _ = _; with_unfolding_all rfl))
      all_goals (try ((show (_ : Nat) ≤ _); (simp <;> omega)))
      all_goals (try ((show (_ : Nat) ≤ _ ∧ (_ : Nat) ≤ _); (simp <;> omega)))
      all_goals (try ((show (_ : Int) ≤ _ ∧ (_ : Int) ≤ _ ∧ (_ : Int) ≤ _ ∧ (_ : Int) ≤ _); (simp <;> omega)))
      repeat' ((conv => whnf); first | (with_reducible rfl) | exact True.intro | (with_reducible exact absTF) | (with_reducible exact absFT) | intro _ | refine And.intro ?_ ?_ | refine Fin.mk ?_ | refine CallG.plain rfl ?_ ?_ | refine CallG.mk rfl ?_ ?_ | refine CallG.nwl rfl ?_ ?_ | refine CallG.nw ?_ ?_ | refine CallF.nwl rfl ?_ ?_ | refine CallF.nw ?_ ?_ | refine AppN.mk ?_ | (refine CallS.q ?_; (conv => whnf); first | refine CallG.plain rfl ?_ ?_ | refine CallG.mk rfl ?_ ?_) | (refine CallS.m ?_; (conv => whnf); refine CallM.mk rfl ?_ ?_) | (refine CallS.h ?_; (conv => whnf); refine CallM.mk rfl ?_ ?_) | (refine CallS.b ?_; (conv => whnf); refine CallM.mk rfl ?_ ?_) | (refine CallS.z ?_; (conv => whnf); refine CallM.mk rfl ?_ ?_))
      all_goals (try (conv => whnf))
      refine LoopStop.mk (α := Nat) (fun i => [(49, .int .i64 i)]) (fun i => [(3, .own .str (fin2 s sp i))]) 20 (fun i => i ≤ sp.length) (fun i => sp.length - i) 0 (by simp) ?_ (fun i hi => ?_)
      · repeat' ((conv => whnf); first | (with_reducible rfl) | exact True.intro | (with_reducible exact absTF) | (with_reducible exact absFT) | intro _ | refine And.intro ?_ ?_ | refine Fin.mk ?_ | refine CallG.plain rfl ?_ ?_ | refine CallG.mk rfl ?_ ?_ | refine CallG.nwl rfl ?_ ?_ | refine CallG.nw ?_ ?_ | refine CallF.nwl rfl ?_ ?_ | refine CallF.nw ?_ ?_ | refine AppN.mk ?_ | (refine CallS.q ?_; (conv => whnf); first | refine CallG.plain rfl ?_ ?_ | refine CallG.mk rfl ?_ ?_) | (refine CallS.m ?_; (conv => whnf); refine CallM.mk rfl ?_ ?_) | (refine CallS.h ?_; (conv => whnf); refine CallM.mk rfl ?_ ?_) | (refine CallS.b ?_; (conv => whnf); refine CallM.mk rfl ?_ ?_) | (refine CallS.z ?_; (conv => whnf); refine CallM.mk rfl ?_ ?_))
        all_goals (try (conv => whnf))
        all_goals (try rfl)
        all_goals trace_state
      · repeat' ((conv => whnf); first | (with_reducible rfl) | exact True.intro | (with_reducible exact absTF) | (with_reducible exact absFT) | intro _ | refine And.intro ?_ ?_ | refine Fin.mk ?_ | refine CallG.plain rfl ?_ ?_ | refine CallG.mk rfl ?_ ?_ | refine CallG.nwl rfl ?_ ?_ | refine CallG.nw ?_ ?_ | refine CallF.nwl rfl ?_ ?_ | refine CallF.nw ?_ ?_ | refine AppN.mk ?_ | (refine CallS.q ?_; (conv => whnf); first | refine CallG.plain rfl ?_ ?_ | refine CallG.mk rfl ?_ ?_) | (refine CallS.m ?_; (conv => whnf); refine CallM.mk rfl ?_ ?_) | (refine CallS.h ?_; (conv => whnf); refine CallM.mk rfl ?_ ?_) | (refine CallS.b ?_; (conv => whnf); refine CallM.mk rfl ?_ ?_) | (refine CallS.z ?_; (conv => whnf); refine CallM.mk rfl ?_ ?_))
        all_goals (try (conv => whnf))
        all_goals (try (exact Ob.mk (u8_bnd _)))
        all_goals (try (refine Ob.mk ?_; first | exact True.intro | assumption | omega | (try simp only [decide_eq_true_eq, decide_eq_false_iff_not, beq_iff_eq, beq_eq_false_iff_ne, bne_iff_ne, bne_eq_false_iff_eq, ne_eq, Bool.and_eq_true, Bool.or_eq_true, Bool.not_eq_true, Bool.not_eq_false, Bool.not_eq_true', Bool.not_eq_false', Int.toNat_natCast, Int.not_lt, Int.not_le, UInt8.ofNat_toNat, cast_eq] at *; omega)))
        all_goals (try ((show (_:Int) = _); omega))
        all_goals (try (show tupSV _ = _; with_unfolding_all rfl))
        all_goals (try ((show (_ : Nat) ≤ _); (simp <;> omega)))
        all_goals (try ((show (_ : Nat) ≤ _ ∧ (_ : Nat) ≤ _); (simp <;> omega)))
        all_goals (try ((show (_ : Int) ≤ _ ∧ (_ : Int) ≤ _ ∧ (_ : Int) ≤ _ ∧ (_ : Int) ≤ _); (simp <;> omega)))
        all_goals (try simp only [decide_eq_true_eq, decide_eq_false_iff_not, beq_iff_eq, beq_eq_false_iff_ne, bne_iff_ne, bne_eq_false_iff_eq, ne_eq, Bool.and_eq_true, Bool.or_eq_true, Bool.not_eq_true, Bool.not_eq_false, Bool.not_eq_true', Bool.not_eq_false', Int.toNat_natCast, Int.not_lt, Int.not_le, UInt8.ofNat_toNat, cast_eq] at *)
        · exact hh.2 _ (getD_mem' (by omega))
        · rw [fin2_len s sp i hi]; omega
        · rw [fin2_len s sp i hi]; omega
        · skip
          have e := fin2_set s sp i (by omega)
          repeat' ((conv => whnf); first | (with_reducible rfl) | exact True.intro | (with_reducible exact absTF) | (with_reducible exact absFT) | intro _ | refine And.intro ?_ ?_ | refine Fin.mk ?_ | refine CallG.plain rfl ?_ ?_ | refine CallG.mk rfl ?_ ?_ | refine CallG.nwl rfl ?_ ?_ | refine CallG.nw ?_ ?_ | refine CallF.nwl rfl ?_ ?_ | refine CallF.nw ?_ ?_ | refine AppN.mk ?_ | (refine CallS.q ?_; (conv => whnf); first | refine CallG.plain rfl ?_ ?_ | refine CallG.mk rfl ?_ ?_) | (refine CallS.m ?_; (conv => whnf); refine CallM.mk rfl ?_ ?_) | (refine CallS.h ?_; (conv => whnf); refine CallM.mk rfl ?_ ?_) | (refine CallS.b ?_; (conv => whnf); refine CallM.mk rfl ?_ ?_) | (refine CallS.z ?_; (conv => whnf); refine CallM.mk rfl ?_ ?_))
          all_goals (try (conv => whnf))
          all_goals (try (exact Ob.mk (u8_bnd _)))
          all_goals (try (refine Ob.mk ?_; first | exact True.intro | assumption | omega | (try simp only [decide_eq_true_eq, decide_eq_false_iff_not, beq_iff_eq, beq_eq_false_iff_ne, bne_iff_ne, bne_eq_false_iff_eq, ne_eq, Bool.and_eq_true, Bool.or_eq_true, Bool.not_eq_true, Bool.not_eq_false, Bool.not_eq_true', Bool.not_eq_false', Int.toNat_natCast, Int.not_lt, Int.not_le, UInt8.ofNat_toNat, cast_eq] at *; omega)))
          all_goals (try ((show (_:Int) = _); omega))
          all_goals (try (show tupSV _ = _; with_unfolding_all rfl))
          all_goals (try ((show (_ : Nat) ≤ _); (simp <;> omega)))
          all_goals (try ((show (_ : Nat) ≤ _ ∧ (_ : Nat) ≤ _); (simp <;> omega)))
          all_goals (try ((show (_ : Int) ≤ _ ∧ (_ : Int) ≤ _ ∧ (_ : Int) ≤ _ ∧ (_ : Int) ≤ _); (simp <;> omega)))
          refine Rnd.mk ⟨i + 1, ?_, ?_, ?_⟩
          · omega
          · omega
          · repeat' ((conv => whnf); first | (with_reducible rfl) | exact True.intro | (with_reducible exact absTF) | (with_reducible exact absFT) | intro _ | refine And.intro ?_ ?_ | refine Fin.mk ?_ | refine CallG.plain rfl ?_ ?_ | refine CallG.mk rfl ?_ ?_ | refine CallG.nwl rfl ?_ ?_ | refine CallG.nw ?_ ?_ | refine CallF.nwl rfl ?_ ?_ | refine CallF.nw ?_ ?_ | refine AppN.mk ?_ | (refine CallS.q ?_; (conv => whnf); first | refine CallG.plain rfl ?_ ?_ | refine CallG.mk rfl ?_ ?_) | (refine CallS.m ?_; (conv => whnf); refine CallM.mk rfl ?_ ?_) | (refine CallS.h ?_; (conv => whnf); refine CallM.mk rfl ?_ ?_) | (refine CallS.b ?_; (conv => whnf); refine CallM.mk rfl ?_ ?_) | (refine CallS.z ?_; (conv => whnf); refine CallM.mk rfl ?_ ?_))
            all_goals (try (conv => whnf))
            all_goals (try (exact Ob.mk (u8_bnd _)))
            all_goals (try (refine Ob.mk ?_; first | exact True.intro | assumption | omega | (try simp only [decide_eq_true_eq, decide_eq_false_iff_not, beq_iff_eq, beq_eq_false_iff_ne, bne_iff_ne, bne_eq_false_iff_eq, ne_eq, Bool.and_eq_true, Bool.or_eq_true, Bool.not_eq_true, Bool.not_eq_false, Bool.not_eq_true', Bool.not_eq_false', Int.toNat_natCast, Int.not_lt, Int.not_le, UInt8.ofNat_toNat, cast_eq] at *; omega)))
            all_goals (try ((show (_:Int) = _); omega))
            all_goals (try (show tupSV _ = _; with_unfolding_all rfl))
            all_goals (try ((show (_ : Nat) ≤ _); (simp <;> omega)))
            all_goals (try ((show (_ : Nat) ≤ _ ∧ (_ : Nat) ≤ _); (simp <;> omega)))
            all_goals (try ((show (_ : Int) ≤ _ ∧ (_ : Int) ≤ _ ∧ (_ : Int) ≤ _ ∧ (_ : Int) ≤ _); (simp <;> omega)))
            all_goals (rw [← e]; rfl)
        · rw [fin2_end s sp i (by omega), hh.1]
    · have hh := fs_end0 ha ‹_› (by omega)
      have hlen : a.spans.length ≤ s.length + 1 := by omega
      revert hh hlen
      generalize a.spans = sp
      intro hh hlen
      repeat' ((conv => whnf); first | (with_reducible rfl) | exact True.intro | (with_reducible exact absTF) | (with_reducible exact absFT) | intro _ | refine And.intro ?_ ?_ | refine Fin.mk ?_ | refine CallG.plain rfl ?_ ?_ | refine CallG.mk rfl ?_ ?_ | refine CallG.nwl rfl ?_ ?_ | refine CallG.nw ?_ ?_ | refine CallF.nwl rfl ?_ ?_ | refine CallF.nw ?_ ?_ | refine AppN.mk ?_ | (refine CallS.q ?_; (conv => whnf); first | refine CallG.plain rfl ?_ ?_ | refine CallG.mk rfl ?_ ?_) | (refine CallS.m ?_; (conv => whnf); refine CallM.mk rfl ?_ ?_) | (refine CallS.h ?_; (conv => whnf); refine CallM.mk rfl ?_ ?_) | (refine CallS.b ?_; (conv => whnf); refine CallM.mk rfl ?_ ?_) | (refine CallS.z ?_; (conv => whnf); refine CallM.mk rfl ?_ ?_))
      all_goals (try (conv => whnf))
      refine LoopStop.mk (α := Nat) (fun i => [(49, .int .i64 i)]) (fun i => [(2, .own .str (fin2 s sp i))]) 3 (fun i => i ≤ sp.length) (fun i => sp.length - i) 0 (by simp) ?_ (fun i hi => ?_)
      · repeat' ((conv => whnf); first | (with_reducible rfl) | exact True.intro | (with_reducible exact absTF) | (with_reducible exact absFT) | intro _ | refine And.intro ?_ ?_ | refine Fin.mk ?_ | refine CallG.plain rfl ?_ ?_ | refine CallG.mk rfl ?_ ?_ | refine CallG.nwl rfl ?_ ?_ | refine CallG.nw ?_ ?_ | refine CallF.nwl rfl ?_ ?_ | refine CallF.nw ?_ ?_ | refine AppN.mk ?_ | (refine CallS.q ?_; (conv => whnf); first | refine CallG.plain rfl ?_ ?_ | refine CallG.mk rfl ?_ ?_) | (refine CallS.m ?_; (conv => whnf); refine CallM.mk rfl ?_ ?_) | (refine CallS.h ?_; (conv => whnf); refine CallM.mk rfl ?_ ?_) | (refine CallS.b ?_; (conv => whnf); refine CallM.mk rfl ?_ ?_) | (refine CallS.z ?_; (conv => whnf); refine CallM.mk rfl ?_ ?_))
        all_goals (try (conv => whnf))
        all_goals (try rfl)
        all_goals trace_state
      · repeat' ((conv => whnf); first | (with_reducible rfl) | exact True.intro | (with_reducible exact absTF) | (with_reducible exact absFT) | intro _ | refine And.intro ?_ ?_ | refine Fin.mk ?_ | refine CallG.plain rfl ?_ ?_ | refine CallG.mk rfl ?_ ?_ | refine CallG.nwl rfl ?_ ?_ | refine CallG.nw ?_ ?_ | refine CallF.nwl rfl ?_ ?_ | refine CallF.nw ?_ ?_ | refine AppN.mk ?_ | (refine CallS.q ?_; (conv => whnf); first | refine CallG.plain rfl ?_ ?_ | refine CallG.mk rfl ?_ ?_) | (refine CallS.m ?_; (conv => whnf); refine CallM.mk rfl ?_ ?_) | (refine CallS.h ?_; (conv => whnf); refine CallM.mk rfl ?_ ?_) | (refine CallS.b ?_; (conv => whnf); refine CallM.mk rfl ?_ ?_) | (refine CallS.z ?_; (conv => whnf); refine CallM.mk rfl ?_ ?_))
        all_goals (try (conv => whnf))
        all_goals (try (exact Ob.mk (u8_bnd _)))
        all_goals (try (refine Ob.mk ?_; first | exact True.intro | assumption | omega | (try simp only [decide_eq_true_eq, decide_eq_false_iff_not, beq_iff_eq, beq_eq_false_iff_ne, bne_iff_ne, bne_eq_false_iff_eq, ne_eq, Bool.and_eq_true, Bool.or_eq_true, Bool.not_eq_true, Bool.not_eq_false, Bool.not_eq_true', Bool.not_eq_false', Int.toNat_natCast, Int.not_lt, Int.not_le, UInt8.ofNat_toNat, cast_eq] at *; omega)))
        all_goals (try ((show (_:Int) = _); omega))
        all_goals (try (show tupSV _ = _; with_unfolding_all rfl))
        all_goals (try ((show (_ : Nat) ≤ _); (simp <;> omega)))
        all_goals (try ((show (_ : Nat) ≤ _ ∧ (_ : Nat) ≤ _); (simp <;> omega)))
        all_goals (try ((show (_ : Int) ≤ _ ∧ (_ : Int) ≤ _ ∧ (_ : Int) ≤ _ ∧ (_ : Int) ≤ _); (simp <;> omega)))
        all_goals (try simp only [decide_eq_true_eq, decide_eq_false_iff_not, beq_iff_eq, beq_eq_false_iff_ne, bne_iff_ne, bne_eq_false_iff_eq, ne_eq, Bool.and_eq_true, Bool.or_eq_true, Bool.not_eq_true, Bool.not_eq_false, Bool.not_eq_true', Bool.not_eq_false', Int.toNat_natCast, Int.not_lt, Int.not_le, UInt8.ofNat_toNat, cast_eq] at *)
        · exact hh.2 _ (getD_mem' (by omega))
        · rw [fin2_len s sp i hi]; omega
        · rw [fin2_len s sp i hi]; omega
        · skip
          have e := fin2_set s sp i (by omega)
          repeat' ((conv => whnf); first | (with_reducible rfl) | exact True.intro | (with_reducible exact absTF) | (with_reducible exact absFT) | intro _ | refine And.intro ?_ ?_ | refine Fin.mk ?_ | refine CallG.plain rfl ?_ ?_ | refine CallG.mk rfl ?_ ?_ | refine CallG.nwl rfl ?_ ?_ | refine CallG.nw ?_ ?_ | refine CallF.nwl rfl ?_ ?_ | refine CallF.nw ?_ ?_ | refine AppN.mk ?_ | (refine CallS.q ?_; (conv => whnf); first | refine CallG.plain rfl ?_ ?_ | refine CallG.mk rfl ?_ ?_) | (refine CallS.m ?_; (conv => whnf); refine CallM.mk rfl ?_ ?_) | (refine CallS.h ?_; (conv => whnf); refine CallM.mk rfl ?_ ?_) | (refine CallS.b ?_; (conv => whnf); refine CallM.mk rfl ?_ ?_) | (refine CallS.z ?_; (conv => whnf); refine CallM.mk rfl ?_ ?_))
          all_goals (try (conv => whnf))
          all_goals (try (exact Ob.mk (u8_bnd _)))
          all_goals (try (refine Ob.mk ?_; first | exact True.intro | assumption | omega | (try simp only [decide_eq_true_eq, decide_eq_false_iff_not, beq_iff_eq, beq_eq_false_iff_ne, bne_iff_ne, bne_eq_false_iff_eq, ne_eq, Bool.and_eq_true, Bool.or_eq_true, Bool.not_eq_true, Bool.not_eq_false, Bool.not_eq_true', Bool.not_eq_false', Int.toNat_natCast, Int.not_lt, Int.not_le, UInt8.ofNat_toNat, cast_eq] at *; omega)))
          all_goals (try ((show (_:Int) = _); omega))
          all_goals (try (show tupSV _ = _; with_unfolding_all rfl))
          all_goals (try ((show (_ : Nat) ≤ _); (simp <;> omega)))
          all_goals (try ((show (_ : Nat) ≤ _ ∧ (_ : Nat) ≤ _); (simp <;> omega)))
          all_goals (try ((show (_ : Int) ≤ _ ∧ (_ : Int) ≤ _ ∧ (_ : Int) ≤ _ ∧ (_ : Int) ≤ _); (simp <;> omega)))
          refine Rnd.mk ⟨i + 1, ?_, ?_, ?_⟩
          · omega
          · omega
          · repeat' ((conv => whnf); first | (with_reducible rfl) | exact True.intro | (with_reducible exact absTF) | (with_reducible exact absFT) | intro _ | refine And.intro ?_ ?_ | refine Fin.mk ?_ | refine CallG.plain rfl ?_ ?_ | refine CallG.mk rfl ?_ ?_ | refine CallG.nwl rfl ?_ ?_ | refine CallG.nw ?_ ?_ | refine CallF.nwl rfl ?_ ?_ | refine CallF.nw ?_ ?_ | refine AppN.mk ?_ | (refine CallS.q ?_; (conv => whnf); first | refine CallG.plain rfl ?_ ?_ | refine CallG.mk rfl ?_ ?_) | (refine CallS.m ?_; (conv => whnf); refine CallM.mk rfl ?_ ?_) | (refine CallS.h ?_; (conv => whnf); refine CallM.mk rfl ?_ ?_) | (refine CallS.b ?_; (conv => whnf); refine CallM.mk rfl ?_ ?_) | (refine CallS.z ?_; (conv => whnf); refine CallM.mk rfl ?_ ?_))
            all_goals (try (conv => whnf))
            all_goals (try (exact Ob.mk (u8_bnd _)))
            all_goals (try (refine Ob.mk ?_; first | exact True.intro | assumption | omega | (try simp only [decide_eq_true_eq, decide_eq_false_iff_not, beq_iff_eq, beq_eq_false_iff_ne, bne_iff_ne, bne_eq_false_iff_eq, ne_eq, Bool.and_eq_true, Bool.or_eq_true, Bool.not_eq_true, Bool.not_eq_false, Bool.not_eq_true', Bool.not_eq_false', Int.toNat_natCast, Int.not_lt, Int.not_le, UInt8.ofNat_toNat, cast_eq] at *; omega)))
            all_goals (try ((show (_:Int) = _); omega))
            all_goals (try (show tupSV _ = _; with_unfolding_all rfl))
            all_goals (try ((show (_ : Nat) ≤ _); (simp <;> omega)))
            all_goals (try ((show (_ : Nat) ≤ _ ∧ (_ : Nat) ≤ _); (simp <;> omega)))
            all_goals (try ((show (_ : Int) ≤ _ ∧ (_ : Int) ≤ _ ∧ (_ : Int) ≤ _ ∧ (_ : Int) ≤ _); (simp <;> omega)))
            all_goals (rw [← e]; rfl)
        · rw [fin2_end s sp i (by omega), hh.1]
end Go.Vc.W

namespace Go.Vc.W
open Go.Proofs
set_option linter.unusedVariables false
set_option maxRecDepth 10000
set_option linter.unusedSimpArgs false
instance f33 (s : List UInt8) : Fn BB 95 [.str s] (s.length ≤ 100000) (.rd .str (spl s)) := by
  refine Fn.intro (N := 5) [0, 2] [] Tryd.call95 Tryd.func95 rfl rfl (by kernel_rfl) (fun hpre => ?_)
  repeat' ((conv => whnf); first | (with_reducible rfl) | exact True.intro | (with_reducible exact absTF) | (with_reducible exact absFT) | intro _ | refine And.intro ?_ ?_ | refine Fin.mk ?_ | refine CallG.plain rfl ?_ ?_ | refine CallG.mk rfl ?_ ?_ | refine CallG.nwl rfl ?_ ?_ | refine CallG.nw ?_ ?_ | refine CallF.nwl rfl ?_ ?_ | refine CallF.nw ?_ ?_ | refine AppN.mk ?_ | (refine CallS.q ?_; (conv => whnf); first | refine CallG.plain rfl ?_ ?_ | refine CallG.mk rfl ?_ ?_) | (refine CallS.m ?_; (conv => whnf); refine CallM.mk rfl ?_ ?_) | (refine CallS.h ?_; (conv => whnf); refine CallM.mk rfl ?_ ?_) | (refine CallS.b ?_; (conv => whnf); refine CallM.mk rfl ?_ ?_) | (refine CallS.z ?_; (conv => whnf); refine CallM.mk rfl ?_ ?_))
  all_goals (try (conv => whnf))
  all_goals (try (exact Ob.mk (u8_bnd _)))
  all_goals (try (refine Ob.mk ?_; first | exact True.intro | assumption | omega | (try simp only [decide_eq_true_eq, decide_eq_false_iff_not, beq_iff_eq, beq_eq_false_iff_ne, bne_iff_ne, bne_eq_false_iff_eq, ne_eq, Bool.and_eq_true, Bool.or_eq_true, Bool.not_eq_true, Bool.not_eq_false, Bool.not_eq_true', Bool.not_eq_false', Int.toNat_natCast, Int.not_lt, Int.not_le, UInt8.ofNat_toNat, cast_eq] at *; omega)))
  all_goals (try ((show (_:Int) = _); omega))
  all_goals (try (show tupSV _ = _; with_unfolding_all rfl))
  all_goals (try ((show (_ : Nat) ≤ _); (simp <;> omega)))
  all_goals (try ((show (_ : Nat) ≤ _ ∧ (_ : Nat) ≤ _); (simp <;> omega)))
  all_goals (try ((show (_ : Int) ≤ _ ∧ (_ : Int) ≤ _ ∧ (_ : Int) ≤ _ ∧ (_ : Int) ≤ _); (simp <;> omega)))
instance f30 (s t : List UInt8) : Fn BB 113 [.str s, .str t] (s.length ≤ 4294967280) (.int .i64 (Lib.index s t)) := by
  refine Fn.lift Tryd.call113 fun hp r β w vs hG m hl => ?_
  obtain ⟨rfl, h1, h2⟩ := hl.str2
  obtain ⟨mm, e1⟩ := hG.len
  exact ⟨_, Tryd.strings_Index ⟨s.toArray⟩ ⟨t.toArray⟩ mm w (by show s.toArray.size < _; simp; omega) (cellR_at m.vis e1), .int⟩
end Go.Vc.W
