/- A part of the proof: lemmas and walks that the last text of the claim joins; no condition. -/
import Derived.Deep.Quiet
import Derived.Laws.Strings
import Derived.Laws.Strings2
import Derived.KernelRfl
import Derived.Laws.Sem
namespace Go.Vc
set_option autoImplicit false


abbrev InI64 (n : Int) : Prop := -9223372036854775808 ≤ n ∧ n ≤ 9223372036854775807

/-- Symbolic values: what is known of a slot, as plain data. -/
inductive SV : Type 1 where
  | int (k : IntKind) (n : Int)
  | bool (b : Bool)
  | str (l : List UInt8)
  | v (x : Value)
  | loc (id off : Nat)
  | own (id : Nat)
  | nils
  | lits (sz : Nat) (rows : List (List SV))
  | rd {α : Type} (sz : Nat) (d : α) (enc : α → List SV) (l : List α)
  | agg (l : List SV)
  | tup (l : List SV)
  | fn (f : FuncId) (caps : List SV)
  | el {α : Type} (sz : Nat) (d : α) (enc : α → List SV) (l : List α) (i off : Nat)
  | oel (id sz i off : Nat)
  | und

/-- it fills one cell -/
def SV.one : SV → Bool
  | .agg _ | .tup _ | .und => false
  | .v x => x.oneCell'
  | _ => true

abbrev Mem := Nat → Option Obj
def Mem.le (r r' : Mem) : Prop := ∀ b o, r b = some o → r' b = some o
theorem Mem.le_refl (r : Mem) : r.le r := fun _ _ h => h
theorem Mem.le_trans {a b c : Mem} (h : a.le b) (k : b.le c) : a.le c := fun x o q => k x o (h x o q)

abbrev Bind := Nat → Value
def β0 : Bind := fun _ => .nilIface

/-- What a symbolic value says of a value, in the memory r that does not change any more. -/
inductive Rel (r : Mem) : Bind → SV → Value → Prop
  | int {β k n} : Rel r β (.int k n) (.int k n)
  | bool {β b} : Rel r β (.bool b) (.bool b)
  | str {β l} (h : l.length ≤ 9223372036854775807) : Rel r β (.str l) (.string ⟨l.toArray⟩)
  | v {β x} : Rel r β (.v x) x
  | loc {β id off b} (h : β id = .pointer (some ⟨b, 0, none⟩)) : Rel r β (.loc id off) (.pointer (some ⟨b, off, none⟩))
  | own {β id} (h : (β id).oneCell' = true) : Rel r β (.own id) (β id)
  | nils {β} : Rel r β .nils (.slice none 0 0)
  | litsE {β sz a cap} : Rel r β (.lits sz []) (.slice a 0 cap)
  | lits {β sz rows b off cap c T fr} (hb : r b = some (.cells c T fr)) (hn : rows.length ≤ 9223372036854775807) (hcap : rows.length ≤ cap)
      (hrow : ∀ (i : Nat) (row : List SV), rows[i]? = some row → row.length = sz)
      (ho : ∀ (i : Nat) (row : List SV) (j : Nat) (sv : SV), rows[i]? = some row → row[j]? = some sv → sv.one = true)
      (hc : off + rows.length * sz ≤ c.size)
      (hr : ∀ (i : Nat) (row : List SV) (j : Nat) (sv : SV) (v : Value), rows[i]? = some row → row[j]? = some sv → c[off + i * sz + j]? = some v → Rel r β0 sv v) :
      Rel r β (.lits sz rows) (.slice (some ⟨b, off, none⟩) rows.length cap)
  | rd {β α sz d enc v} {l : List α} (h : Rel r β (.lits sz (l.map enc)) v) : Rel r β (.rd sz d enc l) v
  | agg {β l} {cs : List Value} (hl : cs.length = l.length) (h : ∀ (i : Nat) (sv : SV) (v : Value), l[i]? = some sv → cs[i]? = some v → Rel r β sv v) : Rel r β (.agg l) (.agg cs.toArray)
  | tup {β l} {cs : List Value} (hl : cs.length = l.length) (h : ∀ (i : Nat) (sv : SV) (v : Value), l[i]? = some sv → cs[i]? = some v → Rel r β sv v) : Rel r β (.tup l) (.tuple cs.toArray)
  | fn {β f l} {cs : List Value} (hl : cs.length = l.length) (h : ∀ (i : Nat) (sv : SV) (v : Value), l[i]? = some sv → cs[i]? = some v → Rel r β sv v) : Rel r β (.fn f l) (.func (.func f) #[] cs.toArray)
  | el {β α sz d enc b off0 n cap i off} {l : List α} (h : Rel r β (.lits sz (l.map enc)) (.slice (some ⟨b, off0, none⟩) n cap)) (hi : i < l.length) :
      Rel r β (.el sz d enc l i off) (.pointer (some ⟨b, off0 + i * sz + off, none⟩))
  | oel {β id sz i off b off0 n cap} (h : β id = .slice (some ⟨b, off0, none⟩) n cap) : Rel r β (.oel id sz i off) (.pointer (some ⟨b, off0 + i * sz + off, none⟩))
  | und {β v} : Rel r β .und v

theorem Rel.mono {r r' : Mem} (hr : r.le r') {β : Bind} {sv : SV} {v : Value} (h : Rel r β sv v) : Rel r' β sv v := by
  induction h with
  | int => exact .int
  | bool => exact .bool
  | str h => exact .str h
  | v => exact .v
  | loc h => exact .loc h
  | own h => exact .own h
  | nils => exact .nils
  | litsE => exact .litsE
  | lits hb hn hcap hrow ho hc hr' ih => exact .lits (hr _ _ hb) hn hcap hrow ho hc ih
  | rd _ ih => exact .rd ih
  | agg hl _ ih => exact .agg hl ih
  | tup hl _ ih => exact .tup hl ih
  | fn hl _ ih => exact .fn hl ih
  | el _ hi ih => exact .el ih hi
  | oel h => exact .oel h
  | und => exact .und

mutual
/-- all ids that stand in it satisfy p -/
def SV.okIds (p : Nat → Bool) : SV → Bool
  | .loc id _ => p id
  | .own id => p id
  | .oel id _ _ _ => p id
  | .agg l => SV.okIdsL p l
  | .tup l => SV.okIdsL p l
  | .fn _ l => SV.okIdsL p l
  | _ => true
def SV.okIdsL (p : Nat → Bool) : List SV → Bool
  | [] => true
  | x :: r => SV.okIds p x && SV.okIdsL p r
end

theorem SV.okIdsL_get {p : Nat → Bool} {l : List SV} (h : SV.okIdsL p l = true) (i : Nat) (sv : SV) (hi : l[i]? = some sv) : sv.okIds p = true := by
  induction l generalizing i with
  | nil => simp at hi
  | cons x r ih =>
    simp only [SV.okIdsL, Bool.and_eq_true] at h
    cases i with
    | zero => simp at hi; subst hi; exact h.1
    | succ i => simp at hi; exact ih h.2 i hi

theorem Rel.bind {r : Mem} {β β' : Bind} {p : Nat → Bool} (hp : ∀ id, p id = true → β' id = β id) {sv : SV} {v : Value} (h : Rel r β sv v)
    (hs : sv.okIds p = true) : Rel r β' sv v := by
  induction h with
  | int => exact .int
  | bool => exact .bool
  | str h => exact .str h
  | v => exact .v
  | loc h => exact .loc (by rw [hp _ (by simpa [SV.okIds] using hs)]; exact h)
  | @own β id h => rw [← hp id (by simpa [SV.okIds] using hs)] at h ⊢; exact .own h
  | nils => exact .nils
  | litsE => exact .litsE
  | lits hb hn hcap hrow ho hc hr' ih => exact .lits hb hn hcap hrow ho hc hr'
  | rd _ ih => exact .rd (ih hp rfl)
  | agg hl _ ih => exact .agg hl fun i sv v h1 h2 => ih i sv v h1 h2 hp (SV.okIdsL_get (by simpa [SV.okIds] using hs) i sv h1)
  | tup hl _ ih => exact .tup hl fun i sv v h1 h2 => ih i sv v h1 h2 hp (SV.okIdsL_get (by simpa [SV.okIds] using hs) i sv h1)
  | fn hl _ ih => exact .fn hl fun i sv v h1 h2 => ih i sv v h1 h2 hp (SV.okIdsL_get (by simpa [SV.okIds] using hs) i sv h1)
  | el _ hi ih => exact .el (ih hp rfl) hi
  | oel h => exact .oel (by rw [hp _ (by simpa [SV.okIds] using hs)]; exact h)
  | und => exact .und

/-- Memory of the call's own, that may still be written. -/
inductive Chunk : Type 1 where
  | box (cells : List SV)
  | own {α : Type} (sz : Nat) (d : α) (enc : α → List SV) (l : List α)
  | ownl (sz : Nat) (rows : List (List SV))
  | iter (s : List UInt8) (pos : Nat)

abbrev Phi := List (Nat × Chunk)
def Phi.get : Phi → Nat → Option Chunk
  | [], _ => none
  | (k, c) :: r, j => bif Nat.beq k j then some c else Phi.get r j

/-- the block of a chunk, if it has one -/
def Chunk.blk : Chunk → Value → Option Nat
  | .box _, .pointer (some a) => some a.block
  | .iter _ _, .pointer (some a) => some a.block
  | .own _ _ _ _, .slice (some a) _ cap => bif Nat.beq cap 0 then none else some a.block
  | .ownl _ _, .slice (some a) _ cap => bif Nat.beq cap 0 then none else some a.block
  | _, _ => none

/-- rows that lie in a block of the call's own -/
def RowsAt (r : Mem) (w : World) (x : Value) (sz : Nat) (rows : List (List SV)) : Prop :=
  (∃ a, x = .slice a 0 0 ∧ rows = []) ∨
  ∃ b off cap c T fr, x = .slice (some ⟨b, off, none⟩) rows.length cap ∧ cap ≠ 0 ∧ w.heap[b]? = some (.cells c T fr) ∧ (∀ i, i < c.size → ¬ (fr.1 ≤ i ∧ i < fr.2)) ∧
    rows.length ≤ 9223372036854775807 ∧ rows.length ≤ cap ∧ off + cap * sz ≤ c.size ∧ (∀ (i : Nat) (row : List SV), rows[i]? = some row → row.length = sz) ∧
    (∀ (i : Nat) (row : List SV) (j : Nat) (sv : SV), rows[i]? = some row → row[j]? = some sv → sv.one = true) ∧
    (∀ (i : Nat) (row : List SV) (j : Nat) (sv : SV) (v : Value), rows[i]? = some row → row[j]? = some sv → c[off + i * sz + j]? = some v → Rel r β0 sv v)

inductive Chunk.Sat (r : Mem) (β : Bind) (w : World) (x : Value) : Chunk → Prop
  | box {b c T cells} (hx : x = .pointer (some ⟨b, 0, none⟩)) (hw : w.heap[b]? = some (.cells c T (0, 0))) (hl : c.size = cells.length)
      (h : ∀ (i : Nat) (sv : SV) (v : Value), cells[i]? = some sv → c[i]? = some v → Rel r β sv v) : Chunk.Sat r β w x (.box cells)
  | own {α sz d enc} {l : List α} (h : RowsAt r w x sz (l.map enc)) : Chunk.Sat r β w x (.own sz d enc l)
  | ownl {sz rows} (h : RowsAt r w x sz rows) : Chunk.Sat r β w x (.ownl sz rows)
  | iter {b s pos} (hx : x = .pointer (some ⟨b, 0, none⟩)) (hw : w.heap[b]? = some (.stringIter ⟨s.toArray⟩ pos)) (hs : s.length ≤ 9223372036854775807) : Chunk.Sat r β w x (.iter s pos)

structure MemSat (r : Mem) (β : Bind) (Φ : Phi) (w : World) : Prop where
  vis : ∀ b o, r b = some o → w.heap[b]? = some o
  chs : ∀ id ch, Φ.get id = some ch → ch.Sat r β w (β id)
  sep : ∀ id ch b, Φ.get id = some ch → ch.blk (β id) = some b → r b = none
  nod : ∀ id id' ch ch' b, Φ.get id = some ch → Φ.get id' = some ch' → ch.blk (β id) = some b → ch'.blk (β id') = some b → id = id'

abbrev Ent := Nat × Option (Nat × Bool) × SV
abbrev Env := List Ent
def Env.get : Env → Nat → Option (Option (Nat × Bool) × SV)
  | [], _ => none
  | (k, g, sv) :: r, j => bif Nat.beq k j then some (g, sv) else Env.get r j

def EntSat (r : Mem) (β : Bind) (t : Array Value) (k : Nat) : Option (Nat × Bool) → SV → Prop
  | none, sv => ∃ v, t[k]? = some v ∧ Rel r β sv v
  | some (s, w), sv => (t[s]? = some (.bool w) → ∃ v, t[k]? = some v ∧ Rel r β sv v) ∧ (t[s]? ≠ some (.bool w) → t[k]? = some undef)

def Agree (r : Mem) (β : Bind) (σ : Env) (t : Array Value) : Prop := ∀ k g sv, σ.get k = some (g, sv) → EntSat r β t k g sv

end Go.Vc
