/- A part of the proof: lemmas and walks that the last text of the claim joins; no condition. -/
import Derived.Deep.Quiet
import Derived.Laws.Strings
import Derived.Laws.Strings2
import Derived.KernelRfl
import Derived.Laws.Sem
import Derived.Laws.StructEq
import Derived.CallsIn
set_option linter.unusedVariables false
set_option linter.unusedSimpArgs false
namespace Go.Vc
set_option autoImplicit false


abbrev InI64 (n : Int) : Prop := -9223372036854775808 ≤ n ∧ n ≤ 9223372036854775807

/-- The kinds of a map's keys. -/
inductive KTy where
  | s
  | i (k : IntKind)
  | p
@[reducible] def KTy.T : KTy → Type
  | .s => List UInt8
  | .i _ => Int
  | .p => List UInt8 × List UInt8
def KTy.val : (κ : KTy) → κ.T → Value
  | .s, l => .string ⟨l.toArray⟩
  | .i k, n => .int k n
  | .p, q => .agg #[.string ⟨q.1.toArray⟩, .string ⟨q.2.toArray⟩]
def KTy.beq : (κ : KTy) → κ.T → κ.T → Bool
  | .s, a, b => (a : List UInt8) == b
  | .i _, a, b => (a : Int) == b
  | .p, a, b => (a : List UInt8 × List UInt8) == b
/-- the entry of a key -/
def mget {α : Type} (κ : KTy) : List (κ.T × α) → κ.T → Option α
  | [], _ => none
  | (k', v) :: r, k => bif κ.beq k k' then some v else mget κ r k
/-- an entry, set -/
def mset {α : Type} (κ : KTy) : List (κ.T × α) → κ.T → α → List (κ.T × α)
  | [], k, v => [(k, v)]
  | (k', v') :: r, k, v => bif κ.beq k k' then (k, v) :: r else (k', v') :: mset κ r k v
/-- an entry, gone -/
def mdel {α : Type} (κ : KTy) : List (κ.T × α) → κ.T → List (κ.T × α)
  | [], _ => []
  | (k', v') :: r, k => bif κ.beq k k' then r else (k', v') :: mdel κ r k

/-- The kinds of data: a type of Lean for each. -/
inductive Ty where
  | int (k : IntKind)
  | byte
  | bool
  | str
  | sl (e : Ty)
  | pr (a b : Ty)
@[reducible] def Ty.T : Ty → Type
  | .int _ => Int
  | .byte => UInt8
  | .bool => Bool
  | .str => List UInt8
  | .sl e => List e.T
  | .pr a b => a.T × b.T
def Ty.dflt : (τ : Ty) → τ.T
  | .int _ => (0 : Int)
  | .byte => (0 : UInt8)
  | .bool => false
  | .str => ([] : List UInt8)
  | .sl _ => []
  | .pr a b => (a.dflt, b.dflt)
/-- rows of bytes: they may bear the mark that '[]byte(s)' sets behind their last cell -/
def Ty.isB : Ty → Bool
  | .byte => true
  | _ => false
def Ty.size : Ty → Nat
  | .pr a b => Nat.add a.size b.size
  | _ => 1

/-- Symbolic values: what is known of a slot, as plain data. -/
inductive SV where
  | int (k : IntKind) (n : Int)
  | bool (b : Bool)
  | str (l : List UInt8)
  | v (x : Value)
  | loc (id off : Nat)
  | own (id : Nat)
  | nils
  | lits (sz : Nat) (rows : List (List SV))
  | rd (τ : Ty) (l : List τ.T)
  | agg (l : List SV)
  | tup (l : List SV)
  | fn (f : FuncId) (caps : List SV)
  | el (τ : Ty) (l : List τ.T) (i off : Nat)
  | oel (id sz i off : Nat)
  | mref (id : Nat)
  | otl (id sz k : Nat)
  | und

def Ty.enc : (τ : Ty) → τ.T → List SV
  | .int k, n => [.int k n]
  | .byte, b => [.int .u8 b.toNat]
  | .bool, b => [.bool b]
  | .str, l => [.str l]
  | .sl e, l => [.rd e l]
  | .pr a b, p => a.enc p.1 ++ b.enc p.2

/-- it fills one cell -/
def SV.one : SV → Bool
  | .agg _ | .tup _ | .und => false
  | .v x => x.oneCell'
  | _ => true

abbrev Mem := Nat → Option Obj
def Mem.le (r r' : Mem) : Prop := ∀ b o, r b = some o → r' b = some o
theorem Mem.le_refl (r : Mem) : r.le r := fun _ _ h => h
theorem Mem.le_trans {a b c : Mem} (h : a.le b) (k : b.le c) : a.le c := fun x o q => k x o (h x o q)

abbrev Bind := Nat → Value
def β0 : Bind := fun _ => .nilIface

/-- What a symbolic value says of a value, in the memory r that does not change any more. -/
inductive Rel (r : Mem) : Bind → SV → Value → Prop
  | int {β k n} : Rel r β (.int k n) (.int k n)
  | bool {β b} : Rel r β (.bool b) (.bool b)
  | str {β l} (h : l.length ≤ 9223372036854775807) : Rel r β (.str l) (.string ⟨l.toArray⟩)
  | v {β x} : Rel r β (.v x) x
  | loc {β id off b} (h : β id = .pointer (some ⟨b, 0, none⟩)) : Rel r β (.loc id off) (.pointer (some ⟨b, off, none⟩))
  | own {β id} (h : (β id).oneCell' = true) : Rel r β (.own id) (β id)
  | nils {β} : Rel r β .nils (.slice none 0 0)
  | litsE {β sz a cap} : Rel r β (.lits sz []) (.slice a 0 cap)
  | lits {β sz rows b off cap c T fr} (hb : r b = some (.cells c T fr)) (hn : rows.length ≤ 9223372036854775807) (hcap : rows.length ≤ cap)
      (hrow : ∀ (i : Nat) (row : List SV), rows[i]? = some row → row.length = sz)
      (ho : ∀ (i : Nat) (row : List SV) (j : Nat) (sv : SV), rows[i]? = some row → row[j]? = some sv → sv.one = true)
      (hc : off + rows.length * sz ≤ c.size)
      (hr : ∀ (i : Nat) (row : List SV) (j : Nat) (sv : SV) (v : Value), rows[i]? = some row → row[j]? = some sv → c[off + i * sz + j]? = some v → Rel r β0 sv v) :
      Rel r β (.lits sz rows) (.slice (some ⟨b, off, none⟩) rows.length cap)
  | rd {β τ v} {l : List (Ty.T τ)} (h : Rel r β (.lits τ.size (l.map τ.enc)) v) : Rel r β (.rd τ l) v
  | agg {β l} {cs : List Value} (hl : cs.length = l.length) (h : ∀ (i : Nat) (sv : SV) (v : Value), l[i]? = some sv → cs[i]? = some v → Rel r β sv v) : Rel r β (.agg l) (.agg cs.toArray)
  | tup {β l} {cs : List Value} (hl : cs.length = l.length) (h : ∀ (i : Nat) (sv : SV) (v : Value), l[i]? = some sv → cs[i]? = some v → Rel r β sv v) : Rel r β (.tup l) (.tuple cs.toArray)
  | fn {β f l} {cs : List Value} (hl : cs.length = l.length) (h : ∀ (i : Nat) (sv : SV) (v : Value), l[i]? = some sv → cs[i]? = some v → Rel r β sv v) : Rel r β (.fn f l) (.func (.func f) #[] cs.toArray)
  | el {β τ b off0 n cap i off} {l : List (Ty.T τ)} (h : Rel r β (.lits τ.size (l.map τ.enc)) (.slice (some ⟨b, off0, none⟩) n cap)) (hi : i < l.length) :
      Rel r β (.el τ l i off) (.pointer (some ⟨b, off0 + i * τ.size + off, none⟩))
  | oel {β id sz i off b off0 n cap} (h : β id = .slice (some ⟨b, off0, none⟩) n cap) : Rel r β (.oel id sz i off) (.pointer (some ⟨b, off0 + i * sz + off, none⟩))
  | mref {β id b} (h : β id = .map (some b)) : Rel r β (.mref id) (.map (some b))
  | otl {β id sz k n cap} {a : Option Addr} (h : β id = .slice a n cap) (hk : k ≤ n) (hn : n ≤ cap) : Rel r β (.otl id sz k) (.slice (if cap - k = 0 then a else a.map (·.add (k * sz))) (n - k) (cap - k))
  | und {β v} : Rel r β .und v

theorem Rel.mono {r r' : Mem} (hr : r.le r') {β : Bind} {sv : SV} {v : Value} (h : Rel r β sv v) : Rel r' β sv v := by
  induction h with
  | int => exact .int
  | bool => exact .bool
  | str h => exact .str h
  | v => exact .v
  | loc h => exact .loc h
  | own h => exact .own h
  | nils => exact .nils
  | litsE => exact .litsE
  | lits hb hn hcap hrow ho hc hr' ih => exact .lits (hr _ _ hb) hn hcap hrow ho hc ih
  | rd _ ih => exact .rd ih
  | agg hl _ ih => exact .agg hl ih
  | tup hl _ ih => exact .tup hl ih
  | fn hl _ ih => exact .fn hl ih
  | el _ hi ih => exact .el ih hi
  | oel h => exact .oel h
  | mref h => exact .mref h
  | otl h hk hn => exact .otl h hk hn
  | und => exact .und

mutual
/-- all ids that stand in it satisfy p -/
def SV.okIds (p : Nat → Bool) : SV → Bool
  | .loc id _ => p id
  | .own id => p id
  | .oel id _ _ _ => p id
  | .mref id => p id
  | .otl id _ _ => p id
  | .agg l => SV.okIdsL p l
  | .tup l => SV.okIdsL p l
  | .fn _ l => SV.okIdsL p l
  | _ => true
def SV.okIdsL (p : Nat → Bool) : List SV → Bool
  | [] => true
  | x :: r => SV.okIds p x && SV.okIdsL p r
end

theorem SV.okIdsL_get {p : Nat → Bool} {l : List SV} (h : SV.okIdsL p l = true) (i : Nat) (sv : SV) (hi : l[i]? = some sv) : sv.okIds p = true := by
  induction l generalizing i with
  | nil => simp at hi
  | cons x r ih =>
    simp only [SV.okIdsL, Bool.and_eq_true] at h
    cases i with
    | zero => simp at hi; subst hi; exact h.1
    | succ i => simp at hi; exact ih h.2 i hi

theorem Rel.bind {r : Mem} {β β' : Bind} {p : Nat → Bool} (hp : ∀ id, p id = true → β' id = β id) {sv : SV} {v : Value} (h : Rel r β sv v)
    (hs : sv.okIds p = true) : Rel r β' sv v := by
  induction h with
  | int => exact .int
  | bool => exact .bool
  | str h => exact .str h
  | v => exact .v
  | loc h => exact .loc (by rw [hp _ (by simpa [SV.okIds] using hs)]; exact h)
  | @own β id h => rw [← hp id (by simpa [SV.okIds] using hs)] at h ⊢; exact .own h
  | nils => exact .nils
  | litsE => exact .litsE
  | lits hb hn hcap hrow ho hc hr' ih => exact .lits hb hn hcap hrow ho hc hr'
  | rd _ ih => exact .rd (ih hp rfl)
  | agg hl _ ih => exact .agg hl fun i sv v h1 h2 => ih i sv v h1 h2 hp (SV.okIdsL_get (by simpa [SV.okIds] using hs) i sv h1)
  | tup hl _ ih => exact .tup hl fun i sv v h1 h2 => ih i sv v h1 h2 hp (SV.okIdsL_get (by simpa [SV.okIds] using hs) i sv h1)
  | fn hl _ ih => exact .fn hl fun i sv v h1 h2 => ih i sv v h1 h2 hp (SV.okIdsL_get (by simpa [SV.okIds] using hs) i sv h1)
  | el _ hi ih => exact .el (ih hp rfl) hi
  | oel h => exact .oel (by rw [hp _ (by simpa [SV.okIds] using hs)]; exact h)
  | mref h => exact .mref (by rw [hp _ (by simpa [SV.okIds] using hs)]; exact h)
  | otl h hk hn => exact .otl (by rw [hp _ (by simpa [SV.okIds] using hs)]; exact h) hk hn
  | und => exact .und

/-- Memory of the call's own, that may still be written. -/
inductive Chunk where
  | bx (To : Option Nat) (cells : List SV)
  | own (τ : Ty) (l : List τ.T)
  | iter (s : List UInt8) (pos : Nat)
  | mp (κ : KTy) (τ : Ty) (l : List (κ.T × τ.T))
  | ro (τ : Ty) (l : List τ.T)
  | gh (i : Option Nat)

/-- a box of whatever type -/
@[match_pattern, reducible] def Chunk.box (cells : List SV) : Chunk := .bx none cells

/-- what kind it is: the header of one that is not of kind 0 never turns -/
def Chunk.kind : Chunk → Nat
  | .own _ _ => 0
  | .bx _ _ => 1
  | .iter _ _ => 2
  | .mp _ _ _ => 3
  | .ro _ _ => 4
  | .gh _ => 5
/-- how many rounds a range over a function has begun; none: it is over -/
def ghV : Option Nat → Value
  | some i => .int .i64 i
  | none => .int .i64 (-1)
theorem ghV_inj {a b : Option Nat} (h : ghV a = ghV b) : a = b := by
  cases a <;> cases b <;> simp only [ghV, Value.int.injEq, true_and] at h <;> first | rfl | omega | (congr 1; omega)

abbrev Phi := List (Nat × Chunk)
def Phi.get : Phi → Nat → Option Chunk
  | [], _ => none
  | (k, c) :: r, j => bif Nat.beq k j then some c else Phi.get r j
/-- rows that may be read -/
def Phi.row (Φ : Phi) (id : Nat) : Option Chunk := match Φ.get id with | some (.ro τ l) => some (.own τ l) | o => o

/-- the block of a chunk, if it has one -/
def Chunk.blk : Chunk → Value → Option Nat
  | .bx _ _, .pointer (some a) => some a.block
  | .iter _ _, .pointer (some a) => some a.block
  | .mp _ _ _, .map (some b) => some b
  | .own _ _, .slice (some a) _ cap => bif Nat.beq cap 0 then none else some a.block
  | .ro _ _, .slice (some a) _ cap => bif Nat.beq cap 0 then none else some a.block
  | _, _ => none

/-- what is frozen: nothing, or a mark behind the last cell -/
def FrOk (bt : Bool) (off : Nat) (T : TypeId) (c : Array Value) (fr : Nat × Nat) : Prop := (bt = true → T = 5 ∧ off = 0) ∧ (fr = (0, 0) ∨ (bt = true ∧ fr = (c.size, c.size + 1)))
theorem FrOk.cell {bt off T c fr} (h : FrOk bt off T c fr) (j : Nat) (hj : j < c.size) : ¬ (fr.1 ≤ j ∧ j < fr.2) := by
  rcases h.2 with rfl | ⟨_, rfl⟩ <;> simp <;> omega
theorem FrOk.turn {bt off T c c' fr} (h : FrOk bt off T c fr) (hs : c'.size = c.size) : FrOk bt off T c' fr := by
  rcases h with ⟨h0, rfl | ⟨h, rfl⟩⟩
  · exact ⟨h0, .inl rfl⟩
  · exact ⟨h0, .inr ⟨h, by rw [hs]⟩⟩
/-- rows that lie in a block of the call's own -/
def RowsAt (r : Mem) (w : World) (x : Value) (bt : Bool) (sz : Nat) (rows : List (List SV)) : Prop :=
  (∃ a, x = .slice a 0 0 ∧ rows = []) ∨
  ∃ b off cap c T fr, x = .slice (some ⟨b, off, none⟩) rows.length cap ∧ cap ≠ 0 ∧ w.heap[b]? = some (.cells c T fr) ∧ FrOk bt off T c fr ∧
    cap ≤ 9223372036854775807 ∧ rows.length ≤ cap ∧ off + cap * sz ≤ c.size ∧ (∀ (i : Nat) (row : List SV), rows[i]? = some row → row.length = sz) ∧
    (∀ (i : Nat) (row : List SV) (j : Nat) (sv : SV), rows[i]? = some row → row[j]? = some sv → sv.one = true) ∧
    (∀ (i : Nat) (row : List SV) (j : Nat) (sv : SV) (v : Value), rows[i]? = some row → row[j]? = some sv → c[off + i * sz + j]? = some v → Rel r β0 sv v)

inductive Chunk.Sat (r : Mem) (β : Bind) (w : World) (x : Value) : Chunk → Prop
  | box {b c T To cells} (hx : x = .pointer (some ⟨b, 0, none⟩)) (hw : w.heap[b]? = some (.cells c T (0, 0))) (hl : c.size = cells.length)
      (h : ∀ (i : Nat) (sv : SV) (v : Value), cells[i]? = some sv → c[i]? = some v → Rel r β sv v) (hT : ∀ t, To = some t → T = t) : Chunk.Sat r β w x (.bx To cells)
  | own {τ} {l : List (Ty.T τ)} (h : RowsAt r w x τ.isB τ.size (l.map τ.enc)) : Chunk.Sat r β w x (.own τ l)
  | iter {b s pos} (hx : x = .pointer (some ⟨b, 0, none⟩)) (hw : w.heap[b]? = some (.stringIter ⟨s.toArray⟩ pos)) (hs : s.length ≤ 9223372036854775807) : Chunk.Sat r β w x (.iter s pos)

  | mp {b es clock} {κ : KTy} {τ : Ty} {l : List (KTy.T κ × Ty.T τ)} (hx : x = .map (some b)) (hw : w.heap[b]? = some (.map es clock)) (hl : es.size = l.length)
      (hk : ∀ (i : Nat) (k : κ.T) (v : τ.T) (e : MapEntry), l[i]? = some (k, v) → es[i]? = some e → e.key = κ.val k)
      (hv : ∀ (i : Nat) (k : κ.T) (v : τ.T) (e : MapEntry), l[i]? = some (k, v) → es[i]? = some e → ∃ sv, τ.enc v = [sv] ∧ sv.one = true ∧ Rel r β0 sv e.val)
      (hb : ∀ (i : Nat) (e : MapEntry), es[i]? = some e → e.born < clock) (hn : es.toList.Pairwise fun a b => a.born ≠ b.born) : Chunk.Sat r β w x (.mp κ τ l)
  | ro {τ} {l : List (Ty.T τ)} (h : RowsAt r w x τ.isB τ.size (l.map τ.enc)) : Chunk.Sat r β w x (.ro τ l)
  | gh {i} (hx : x = ghV i) : Chunk.Sat r β w x (.gh i)

structure MemSat (r : Mem) (β : Bind) (Φ : Phi) (w : World) : Prop where
  vis : ∀ b o, r b = some o → w.heap[b]? = some o
  chs : ∀ id ch, Φ.get id = some ch → ch.Sat r β w (β id)
  sep : ∀ id ch b, Φ.get id = some ch → ch.blk (β id) = some b → r b = none
  nod : ∀ id id' ch ch' b, Φ.get id = some ch → Φ.get id' = some ch' → ch.blk (β id) = some b → ch'.blk (β id') = some b → id = id'

abbrev Ent := Nat × Option (Nat × Bool) × SV
abbrev Env := List Ent
def Env.get : Env → Nat → Option (Option (Nat × Bool) × SV)
  | [], _ => none
  | (k, g, sv) :: r, j => bif Nat.beq k j then some (g, sv) else Env.get r j

def EntSat (r : Mem) (β : Bind) (t : Array Value) (k : Nat) : Option (Nat × Bool) → SV → Prop
  | none, sv => ∃ v, t[k]? = some v ∧ Rel r β sv v
  | some (s, w), sv => (t[s]? = some (.bool w) → ∃ v, t[k]? = some v ∧ Rel r β sv v) ∧ (t[s]? ≠ some (.bool w) → t[k]? = some undef)

def Agree (r : Mem) (β : Bind) (σ : Env) (t : Array Value) : Prop := ∀ k g sv, σ.get k = some (g, sv) → EntSat r β t k g sv

end Go.Vc

namespace Go.Vc
set_option autoImplicit false

/-- An obligation, kept closed. -/
structure Ob (p : Prop) : Prop where
  h : p

def nth {α : Type _} : List α → Nat → Option α
  | [], _ => none
  | x :: _, 0 => some x
  | _ :: r, n + 1 => nth r n

def kCode : IntKind → Nat
  | .i8 => 0 | .i16 => 1 | .i32 => 2 | .i64 => 3 | .u8 => 4 | .u16 => 5 | .u32 => 6 | .u64 => 7
def kEq (a b : IntKind) : Bool := Nat.beq (kCode a) (kCode b)
/-- every value of the first kind is one of the second -/
def kWide : IntKind → IntKind → Bool
  | .u8, .u8 | .u8, .i32 | .u8, .i64 | .u8, .u64 | .u8, .u32 | .i32, .i32 | .i32, .i64 | .i64, .i64 | .u32, .i64 | .u32, .u64 | .u32, .u32 | .u64, .u64 => true
  | _, _ => false
def kIn : IntKind → Int → Prop
  | .i64, n => InI64 n
  | .i32, n => -2147483648 ≤ n ∧ n ≤ 2147483647
  | .u8, n => 0 ≤ n ∧ n ≤ 255
  | .u32, n => 0 ≤ n ∧ n ≤ 4294967295
  | .u64, n => 0 ≤ n ∧ n ≤ 18446744073709551615
  | k, n => k.min ≤ n ∧ n ≤ k.max

def sizeT (P : Program) (t : TypeId) : Nat := match P.info? t with | some i => i.size | none => 0

/-- the elements have so many cells -/
def szOk (P : Program) (e : TypeId) (sz : Nat) : Bool := match P.info? e with | some i => Nat.beq i.size sz | none => false

/-- a constant -/
def constK (x : Value) (K : SV → Prop) : Prop :=
  match x with
  | .int k n => K (.int k n)
  | .bool b => K (.bool b)
  | .string ⟨⟨l⟩⟩ => bif Nat.ble l.length 9223372036854775807 then K (.str l) else K (.v x)
  | .slice none 0 0 => K .nils
  | x => K (.v x)
def constsK : List Value → (List SV → Prop) → Prop
  | [], K => K []
  | x :: r, K => constK x fun a => constsK r fun l => K (a :: l)
def constAK (x : Value) (K : SV → Prop) : Prop :=
  match x with
  | .agg ⟨l⟩ => constsK l fun l => K (.agg l)
  | x => constK x K

abbrev Ctx := List (Nat × Bool)
def ctxMem (s : Nat) (w : Bool) : Ctx → Bool
  | [] => false
  | (s', w') :: r => bif Nat.beq s s' then (bif w then w' else !w') else ctxMem s w r

def opK (σ : Env) (ctx : Ctx) (x : Operand) (K : SV → Prop) : Prop :=
  match x with
  | .tmp t =>
    match σ.get t with
    | some (none, sv) => K sv
    | some (some (s, w), sv) => bif ctxMem s w ctx then K sv else K .und
    | none => K .und
  | .const v => constAK v K
  | .func f => K (.fn f [])
  | .global g => K (.v (.pointer (some ⟨g, 0, none⟩)))
def opsK (σ : Env) (ctx : Ctx) : List Operand → (List SV → Prop) → Prop
  | [], K => K []
  | x :: r, K => opK σ ctx x fun a => opsK σ ctx r fun l => K (a :: l)

/-- under which conditions a guarded operation is carried out -/
def ctxK (σ : Env) : Nat → Nat → Bool → (Ctx → (Prop → Prop) → Prop) → Prop
  | 0, _, _, _ => False
  | f + 1, s, w, K =>
    match σ.get s with
    | some (none, .bool b) => K [(s, w)] (fun p => b = w → p)
    | some (some (s', w'), .bool b) => ctxK σ f s' w' fun c g => K ((s, w) :: c) (fun p => g (b = w → p))
    | _ => False

def wrapK (k : IntKind) (n : Int) (g : Prop → Prop) (K : SV → Prop) : Prop :=
  match k with
  | .i64 => g (Ob (InI64 n)) ∧ K (.int .i64 n)
  | k => K (.int k (k.wrap n))
def bitsI (op : BinOp) (k : IntKind) (x y : Int) : Int :=
  let a := BitVec.ofInt k.bits x
  let b := BitVec.ofInt k.bits y
  match op with
  | .and => k.wrap (a &&& b).toNat
  | .or => k.wrap (a ||| b).toNat
  | .xor => k.wrap (a ^^^ b).toNat
  | _ => k.wrap (a &&& ~~~b).toNat
def evInt2 (op : BinOp) (k : IntKind) (a b : Int) (g : Prop → Prop) (K : SV → Prop) : Prop :=
  match op with
  | .add => wrapK k (a + b) g K
  | .sub => wrapK k (a - b) g K
  | .mul => wrapK k (a * b) g K
  | .quo => g (Ob (b ≠ 0)) ∧ wrapK k (a.tdiv b) g K
  | .rem => g (Ob (b ≠ 0)) ∧ K (.int k (a.tmod b))
  | .and => K (.int k (bitsI .and k a b))
  | .or => K (.int k (bitsI .or k a b))
  | .xor => K (.int k (bitsI .xor k a b))
  | .andNot => K (.int k (bitsI .andNot k a b))
  | .eql => K (.bool (a == b))
  | .neq => K (.bool (a != b))
  | .lss => K (.bool (decide (a < b)))
  | .leq => K (.bool (decide (a ≤ b)))
  | .gtr => K (.bool (decide (a > b)))
  | .geq => K (.bool (decide (a ≥ b)))
  | _ => False
def evInt (op : BinOp) (k : IntKind) (a : Int) (k' : IntKind) (b : Int) (g : Prop → Prop) (K : SV → Prop) : Prop :=
  match op with
  | .shl => g (Ob (0 ≤ b)) ∧ K (.int k (k.wrap (a * 2 ^ (min b.toNat k.bits))))
  | .shr => g (Ob (0 ≤ b)) ∧ K (.int k (a.fdiv (2 ^ (min b.toNat k.bits))))
  | op => bif kEq k k' then evInt2 op k a b g K else False
def evStr (op : BinOp) (a b : List UInt8) (g : Prop → Prop) (K : SV → Prop) : Prop :=
  match op with
  | .add => g (Ob (a.length + b.length ≤ 9223372036854775807)) ∧ K (.str (a ++ b))
  | .eql => K (.bool (a == b))
  | .neq => K (.bool (!(a == b)))
  | .lss => K (.bool (Op.bytesLess a b))
  | .leq => K (.bool (Op.bytesLess a b || a == b))
  | .gtr => K (.bool (!(Op.bytesLess a b || a == b)))
  | .geq => K (.bool (!(Op.bytesLess a b)))
  | _ => False
def evBin (P : Program) (op : BinOp) (t : TypeId) (x y : SV) (g : Prop → Prop) (K : SV → Prop) : Prop :=
  match x, y with
  | .int k a, .int k' b => evInt op k a k' b g K
  | .str a, .str b => evStr op a b g K
  | .bool a, .bool b =>
    match P.underlying t, op with
    | some .bool, .eql => K (.bool (a == b))
    | some .bool, .neq => K (.bool (!(a == b)))
    | _, _ => False
  | _, _ => False
def evUn (op : UnOp) (x : SV) (g : Prop → Prop) (K : SV → Prop) : Prop :=
  match op, x with
  | .not, .bool b => K (.bool (!b))
  | .neg, .int k n => wrapK k (0 - n) g K
  | .xor, .int k n => K (.int k (bitsI .xor k (if k.signed then -1 else k.max) n))
  | _, _ => False
def evConv (P : Program) (src dst : TypeId) (x : SV) (g : Prop → Prop) (K : SV → Prop) : Prop :=
  match P.underlying src, P.underlying dst, x with
  | some _, some (.int k'), .int k n => bif kWide k k' then g (Ob (kIn k' n)) ∧ K (.int k' n) else K (.int k' (k'.wrap n))
  | some _, some .string, .int _ n => K (.str (Utf8.encode n).data.toList)
  | some _, some .string, .str l => K (.str l)
  | _, _, _ => False
/-- the cells, if they are all of one kind -/
def intsK : IntKind → List SV → (List Int → Prop) → Prop
  | _, [], K => K []
  | k, .int k' n :: r, K => bif kEq k k' then intsK k r fun l => K (n :: l) else False
  | _, _, _ => False
def len : List SV → Nat
  | [] => 0
  | _ :: r => Nat.succ (len r)
def evIndex (P : Program) (t : TypeId) (x i : SV) (g : Prop → Prop) (K : SV → Prop) : Prop :=
  match P.underlying t, x, i with
  | some .string, .str l, .int _ i => g (Ob (0 ≤ i ∧ i < l.length)) ∧ K (.int .u8 (l.getD i.toNat 0).toNat)
  | some (.array n e), .agg cs, .int _ i =>
    match P.underlying e with
    | some (.int k) => bif szOk P e 1 && Nat.beq (len cs) n then g (Ob (0 ≤ i ∧ i < n)) ∧ intsK k cs fun ns => K (.int k (ns.getD i.toNat 0)) else False
    | _ => False
  | _, _, _ => False
def loK (σ : Env) (ctx : Ctx) (x : Option Operand) (K : Option Int → Prop) : Prop :=
  match x with
  | none => K none
  | some o => opK σ ctx o fun
    | .int _ i => K (some i)
    | _ => False
def evSlice (P : Program) (t : TypeId) (x : SV) (lo hi : Option Int) (g : Prop → Prop) (K : SV → Prop) : Prop :=
  match P.underlying t, x with
  | some .string, .str l =>
    match lo, hi with
    | none, none => K (.str l)
    | some a, none => g (Ob (0 ≤ a ∧ a ≤ l.length)) ∧ K (.str (l.drop a.toNat))
    | none, some b => g (Ob (0 ≤ b ∧ b ≤ l.length)) ∧ K (.str (l.take b.toNat))
    | some a, some b => g (Ob (0 ≤ a ∧ a ≤ b ∧ b ≤ l.length)) ∧ K (.str ((l.take b.toNat).drop a.toNat))
  | some (.slice e), .rd τ l =>
    bif szOk P e τ.size then
    match lo, hi with
    | none, none => K (.rd τ l)
    | some a, none => g (Ob (0 ≤ a ∧ a ≤ l.length)) ∧ K (.rd τ (l.drop a.toNat))
    | none, some b => g (Ob (0 ≤ b ∧ b ≤ l.length)) ∧ K (.rd τ (l.take b.toNat))
    | some a, some b => g (Ob (0 ≤ a ∧ a ≤ b ∧ b ≤ l.length)) ∧ K (.rd τ ((l.take b.toNat).drop a.toNat))
    else False
  | _, _ => False
def lenK (ung : Bool) (n : Nat) (K : SV → Prop) : Prop :=
  bif ung then (n ≤ 9223372036854775807 → K (.int .i64 n)) else K (.int .i64 n)
def evLen (P : Program) (Φ : Phi) (t : TypeId) (x : SV) (ung : Bool) (K : SV → Prop) : Prop :=
  match P.underlying t, x with
  | some .string, .str l => lenK ung l.length K
  | some (.slice _), .rd _ l => lenK ung l.length K
  | some (.slice _), .lits _ rows => lenK ung rows.length K
  | some (.slice _), .nils => K (.int .i64 0)
  | some (.slice _), .own id =>
    match Φ.row id with
    | some (.own _ l) => lenK ung l.length K
    | _ => False
  | _, _ => False
def minmaxK (mx : Bool) : SV → List SV → (SV → Prop) → Prop
  | x, [], K => K x
  | .int k a, .int _ b :: r, K => minmaxK mx (.int k (bif mx then max a b else min a b)) r K
  | _, _, _ => False
def evBuiltin (P : Program) (Φ : Phi) (b : Builtin) (ts : List TypeId) (xs : List SV) (ung : Bool) (K : SV → Prop) : Prop :=
  match b, ts, xs with
  | .len, t :: _, [x] => evLen P Φ t x ung K
  | .min, _, x :: r => minmaxK false x r K
  | .max, _, x :: r => minmaxK true x r K
  | _, _, _ => False
/-- the cells [off, off + n) -/
def subK : List SV → Nat → Nat → (List SV → Prop) → Prop
  | _, 0, 0, K => K []
  | x :: r, 0, n + 1, K => subK r 0 n fun l => K (x :: l)
  | _ :: r, o + 1, n, K => subK r o n K
  | [], _, _, _ => False
def isAggD : TypeDesc → Bool
  | .struct _ | .array _ _ => true
  | _ => false
def partK (P : Program) (t : TypeId) (cs : List SV) (off : Nat) (K : SV → Prop) : Prop :=
  match P.underlying t with
  | none => False
  | some d =>
    bif isAggD d then subK cs off (sizeT P t) fun l => K (.agg l)
    else match nth cs off with
      | some sv => K sv
      | none => False
/-- no part of it lies in memory of the call's own -/
def pureK (sv : SV) (K : SV → Prop) : Prop := bif sv.okIds (fun _ => false) then K sv else False
def evField (P : Program) (t : TypeId) (x : SV) (f : Nat) (K : SV → Prop) : Prop :=
  match P.underlying t, x with
  | some (.struct ⟨fs⟩), .agg cs => (match nth fs f with | some fd => partK P fd.type cs fd.offset K | none => False)
  | _, _ => False
def evLoad (P : Program) (Φ : Phi) (t : TypeId) (x : SV) (g : Prop → Prop) (K : SV → Prop) : Prop :=
  match x with
  | .loc id off => (match Φ.get id with | some (.bx _ cs) => partK P t cs off K | _ => False)
  | .el τ l i off => partK P t (τ.enc (l.getD i τ.dflt)) off fun sv => pureK sv K
  | .oel id sz0 i off => (match Φ.row id with | some (.own τ l) => (bif Nat.beq sz0 τ.size then g (Ob (i < l.length)) ∧ (partK P t (τ.enc (l.getD i τ.dflt)) off fun sv => pureK sv K) else False) | _ => False)
  | _ => False
/-- a number, as a numeral -/
def natK : Nat → (Nat → Prop) → Prop
  | 0, K => K 0
  | 1, K => K 1
  | 2, K => K 2
  | 3, K => K 3
  | 4, K => K 4
  | 5, K => K 5
  | 6, K => K 6
  | 7, K => K 7
  | 8, K => K 8
  | 9, K => K 9
  | 10, K => K 10
  | 11, K => K 11
  | 12, K => K 12
  | n, K => K n
theorem natK_eq (n : Nat) (K : Nat → Prop) : natK n K = K n := by unfold natK; split <;> rfl
def evFieldAddr (P : Program) (t : TypeId) (x : SV) (f : Nat) (K : SV → Prop) : Prop :=
  match P.underlying t with
  | some (.struct ⟨fs⟩) =>
    match nth fs f with
    | some fd =>
      bif Nat.beq (sizeT P fd.type) 0 then False else
      match x with
      | .loc id off => natK (Nat.add off fd.offset) fun o => K (.loc id o)
      | .el τ l i off => natK (Nat.add off fd.offset) fun o => K (.el τ l i o)
      | .oel id sz i off => natK (Nat.add off fd.offset) fun o => K (.oel id sz i o)
      | _ => False
    | none => False
  | _ => False
def evIndexAddr (P : Program) (Φ : Phi) (t : TypeId) (x i : SV) (g : Prop → Prop) (K : SV → Prop) : Prop :=
  match P.underlying t, x, i with
  | some (.slice e), .rd τ l, .int _ i => bif szOk P e τ.size then g (Ob (0 ≤ i ∧ i < l.length)) ∧ K (.el τ l i.toNat 0) else False
  | some (.slice e), .own id, .int _ i =>
    (match Φ.row id with
     | some (.own τ l) => bif szOk P e τ.size then g (Ob (0 ≤ i ∧ i < l.length)) ∧ K (.oel id τ.size i.toNat 0) else False
     | _ => False)
  | _, _, _ => False
/-- a pointer that is not nil -/
def evNil (x : SV) (K : SV → Prop) : Prop :=
  match x with
  | .loc _ _ | .el _ _ _ _ | .oel _ _ _ _ => K x
  | _ => False
/-- the operand behind a pick, as it is where the pick takes it -/
def pickK (σ : Env) (ctx : Ctx) (s : Nat) (w : Bool) (x : Operand) (K : SV → Prop) : Prop := opK σ ((s, w) :: ctx) x K
def evPick (σ : Env) (ctx : Ctx) (c a b : Operand) (K : SV → Prop) : Prop :=
  match c with
  | .tmp s => opK σ ctx c fun
    | .bool t => pickK σ ctx s true a fun x => pickK σ ctx s false b fun y =>
      match a, b, x, y with
      | .const (.bool true), _, _, .bool y => K (.bool (t || y))
      | _, .const (.bool false), .bool x, _ => K (.bool (t && x))
      | _, _, .bool x, .bool y => K (.bool (bif t then x else y))
      | _, _, x, y => (t = true → K x) ∧ (t = false → K y)
    | .v (.bool true) => pickK σ ctx s true a K
    | .v (.bool false) => pickK σ ctx s false b K
    | _ => False
  | _ => False
def allOne : List SV → Bool
  | [] => true
  | x :: r => x.one && allOne r
/-- the cells of a symbolic value -/
def cellsK (x : SV) (K : List SV → Prop) : Prop :=
  match x with
  | .agg l => bif allOne l then K l else False
  | x => bif x.one then K [x] else False
def fillAt : List SV → Nat → List SV → (List SV → Prop) → Prop
  | cs, _, [], K => K cs
  | _ :: r, 0, x :: xs, K => fillAt r 0 xs fun l => K (x :: l)
  | c :: r, o + 1, xs, K => fillAt r o xs fun l => K (c :: l)
  | [], _, _ :: _, _ => False
def fillK (σ : Env) (ctx : Ctx) (place : Nat → Option (Nat × Nat)) : List (Nat × Operand) → List SV → (List SV → Prop) → Prop
  | [], cs, K => K cs
  | (i, x) :: r, cs, K =>
    match place i with
    | some (off, sz) => opK σ ctx x fun sv => cellsK sv fun xs => bif Nat.beq sz 0 then False else bif Nat.beq (len xs) sz then fillAt cs off xs fun cs => fillK σ ctx place r cs K else False
    | none => False
def zeroK (P : Program) (t : TypeId) (K : List SV → Prop) : Prop :=
  match P.info? t with
  | some i => (match i.zero with | some z => constAK z fun sv => cellsK sv K | none => False)
  | none => False
def placeOf (P : Program) (fs : List Field) (i : Nat) : Option (Nat × Nat) := match nth fs i with | some f => some (f.offset, sizeT P f.type) | none => none
def hasInfo (P : Program) (e : TypeId) : Bool := match P.info? e with | some _ => true | none => false
def allInfo (P : Program) : List Field → Bool
  | [] => true
  | f :: r => hasInfo P f.type && allInfo P r
def evBuild (P : Program) (σ : Env) (ctx : Ctx) (t : TypeId) (parts : List (Nat × Operand)) (K : SV → Prop) : Prop :=
  match P.underlying t with
  | some (.struct ⟨fs⟩) => bif allInfo P fs then zeroK P t fun z => fillK σ ctx (placeOf P fs) parts z (fun cs => K (.agg cs)) else False
  | some (.array _ e) => bif hasInfo P e then zeroK P t fun z => fillK σ ctx (fun i => some (i * sizeT P e, sizeT P e)) parts z (fun cs => K (.agg cs)) else False
  | _ => False

end Go.Vc

namespace Go.Vc
set_option autoImplicit false

/-- the chunk id holds another thing -/
def setPK (id : Nat) (ch : Chunk) : Phi → (Phi → Prop) → Prop
  | [], K => K []
  | (k, c) :: r, K => bif Nat.beq k id then K ((k, ch) :: r) else setPK id ch r fun l => K ((k, c) :: l)

/-- what names the chunk id says nothing any more -/
def staleS (id : Nat) (sv : SV) (K : SV → Prop) : Prop := bif sv.okIds (fun i => !Nat.beq i id) then K sv else K .und
def staleL (id : Nat) : List SV → (List SV → Prop) → Prop
  | [], K => K []
  | x :: r, K => staleS id x fun y => staleL id r fun l => K (y :: l)
def staleE (id : Nat) : Env → (Env → Prop) → Prop
  | [], K => K []
  | (k, g, sv) :: r, K => staleS id sv fun y => staleE id r fun l => K ((k, g, y) :: l)
def staleC (id : Nat) (c : Chunk) (K : Chunk → Prop) : Prop :=
  match c with
  | .bx T cs => staleL id cs fun l => K (.bx T l)
  | c => K c
def staleP (id : Nat) : Phi → (Phi → Prop) → Prop
  | [], K => K []
  | (k, c) :: r, K => staleC id c fun c' => staleP id r fun l => K ((k, c') :: l)

/-- nothing in it names the chunk n -/
def freshE (n : Nat) : Env → Bool
  | [] => true
  | (_, _, sv) :: r => sv.okIds (fun i => !Nat.beq i n) && freshE n r
def freshC (n : Nat) : Chunk → Bool
  | .bx _ cs => SV.okIdsL (fun i => !Nat.beq i n) cs
  | _ => true
def freshP (n : Nat) : Phi → Bool
  | [] => true
  | (k, c) :: r => !Nat.beq k n && (freshC n c && freshP n r)

abbrev EK := SV → Env → Phi → Nat → Prop

/-- a new box -/
def newK (n : Nat) (T : Option Nat) (cs : List SV) (σ : Env) (Φ : Phi) (K : EK) : Prop :=
  bif freshE n σ && (freshP n Φ && SV.okIdsL (fun i => !Nat.beq i n) cs) then K (.loc n 0) σ ((n, .bx T cs) :: Φ) (Nat.succ n) else False
/-- a new chunk that is no box -/
def newChK (n : Nat) (ch : Chunk) (sv : SV) (σ : Env) (Φ : Phi) (K : EK) : Prop :=
  bif freshE n σ && freshP n Φ then K sv σ ((n, ch) :: Φ) (Nat.succ n) else False

/-- the sequence that a range over a function hands out, round by round -/
structure YS where
  l : Nat
  len : Nat
  at_ : Nat → List SV
/-- What the whole memory may lean on (package variables), kept as it grows; and of what kind the elements of a type are. -/
structure Base where
  P : Program
  mixed : P.follows .mixedOrders = true
  G : Mem → Prop
  mono : ∀ r r' : Mem, r.le r' → G r → G r'
  ty0 : TypeId → Option Ty
  /-- the range over this function: by default none -/
  Y : YS := ⟨0, 0, fun _ => []⟩
  /-- functions without a body that hand back what they are handed -/
  ne : FuncId → Bool := fun _ => false
  ne_ok : ∀ f, ne f = true → ∀ (x : Value) (w : World), (callFunc f #[x]).run P w = .ok (.value x) w := by intro f h; cases h
  /-- types whose boxes are known as such -/
  tb : TypeId → Bool := fun _ => false
  /-- structs that are compared -/
  eqs : TypeId → Bool
  eqs_ok : ∀ t, eqs t = true → P.stoodInHeld t = false ∧ P.eqGuardType P.depth t = false ∧ ((P.fieldsOf t).toList.all fun f => f.name != "_") = true

/-- of what kind the elements of a type are; bytes are of the type 5 -/
def Base.ty (B : Base) (e : TypeId) : Option Ty :=
  match B.ty0 e with
  | some .byte => bif Nat.beq e 5 then some .byte else none
  | o => o
theorem ty_five {B : Base} {e : TypeId} {τ : Ty} (h : B.ty e = some τ) : τ.isB = true → e = 5 := by
  intro hb
  unfold Base.ty at h
  split at h
  · cases hq : Nat.beq e 5 with
    | true => exact Nat.eq_of_beq_eq_true hq
    | false => rw [hq] at h; cases h
  · rename_i hn
    rw [h] at hn
    cases τ <;> first | (cases hb; done) | exact absurd rfl hn
def okB (τ : Ty) (e : TypeId) : Bool := bif τ.isB then Nat.beq e 5 else true
theorem okB_five {τ : Ty} {e : TypeId} (h : okB τ e = true) : τ.isB = true → e = 5 := by
  intro hb
  unfold okB at h
  rw [hb] at h
  exact Nat.eq_of_beq_eq_true h

@[reducible] def Base.withY (B : Base) (y : YS) : Base := { B with Y := y }
/-- the chunk that counts the rounds -/
def GID : Nat := 77777
def eqPl : SV → SV → Prop
  | .int k n, .int k' n' => k = k' ∧ n = n'
  | .bool b, .bool b' => b = b'
  | .str l, .str l' => l = l'
  | _, _ => False
def eqPlL : List SV → List SV → Prop
  | [], [] => True
  | x :: r, y :: s => eqPl x y ∧ eqPlL r s
  | _, _ => False
def eqPl1 (x y : SV) : Prop :=
  match x, y with
  | .agg l, .agg l' => eqPlL l l'
  | x, y => eqPl x y
def eqPl1L : List SV → List SV → Prop
  | [], [] => True
  | x :: r, y :: s => eqPl1 x y ∧ eqPl1L r s
  | _, _ => False
/-- no chunk's text names the chunk n -/
def freshQ (n : Nat) : Phi → Bool
  | [] => true
  | (_, c) :: r => freshC n c && freshQ n r
/-- a round: it goes on, or it is the last one -/
def yieldK (B : Base) (l : Nat) (xs : List SV) (σ : Env) (Φ : Phi) (n : Nat) (K : EK) : Prop :=
  match Φ.get GID with
  | some (.gh (some i)) =>
    bif freshE GID σ && freshQ GID Φ then
      Ob (l = B.Y.l) ∧ Ob (i < B.Y.len) ∧ eqPl1L xs (B.Y.at_ i) ∧ (setPK GID (.gh (some (Nat.succ i))) Φ fun Φ => K (.bool true) σ Φ n) ∧ (setPK GID (.gh none) Φ fun Φ => K (.bool false) σ Φ n)
    else False
  | _ => False

/-- are they the same kind? -/
def Ty.beq : Ty → Ty → Bool
  | .int k, .int k' => kEq k k'
  | .byte, .byte => true
  | .bool, .bool => true
  | .str, .str => true
  | .sl a, .sl b => a.beq b
  | .pr a b, .pr c d => a.beq c && b.beq d
  | _, _ => false
theorem Ty.of_beq : ∀ {a b : Ty}, a.beq b = true → a = b := by
  intro a
  induction a with
  | int k => intro b h; cases b <;> first | (cases h; done) | skip
             rename_i k'
             have : k = k' := by cases k <;> cases k' <;> first | rfl | (simp [Ty.beq, kEq, kCode] at h)
             rw [this]
  | byte => intro b h; cases b <;> first | rfl | (cases h; done)
  | bool => intro b h; cases b <;> first | rfl | (cases h; done)
  | str => intro b h; cases b <;> first | rfl | (cases h; done)
  | sl a ih => intro b h; cases b <;> first | (cases h; done) | skip
               rw [ih h]
  | pr a b iha ihb =>
    intro c h
    cases c <;> first | (cases h; done) | skip
    simp only [Ty.beq, Bool.and_eq_true] at h
    rw [iha h.1, ihb h.2]
/-- a list of one kind, as one of another that is the same -/
def castK : (a b : Ty) → List a.T → (List b.T → Prop) → Prop
  | .int k, .int k', l, K => bif kEq k k' then K l else False
  | .byte, .byte, l, K => K l
  | .bool, .bool, l, K => K l
  | .str, .str, l, K => K l
  | a, b, l, K =>
    match h : a.beq b with
    | true => K (cast (congrArg (fun t : Ty => List t.T) (Ty.of_beq h)) l)
    | false => False
def decRowsK {α : Type} (f : List SV → (α → List SV → Prop) → Prop) : List (List SV) → (List α → Prop) → Prop
  | [], K => K []
  | row :: rs, K => f row fun a rest => match rest with | [] => decRowsK f rs fun l => K (a :: l) | _ => False
/-- the datum that cells hold -/
def decK : (τ : Ty) → List SV → (τ.T → List SV → Prop) → Prop
  | .int k, .int k' n :: r, K => bif kEq k k' then K n r else False
  | .byte, .int .u8 n :: r, K => Ob (0 ≤ n ∧ n ≤ 255) ∧ K (UInt8.ofNat n.toNat) r
  | .bool, .bool b :: r, K => K b r
  | .str, .str l :: r, K => K l r
  | .sl e, x :: r, K =>
    (match x with
     | .nils => K [] r
     | .rd e' l => castK e' e l fun l => K l r
     | .lits sz rows => bif Nat.beq sz e.size then decRowsK (decK e) rows fun l => K l r else False
     | _ => False)
  | .pr a b, row, K => decK a row fun x r => decK b r fun y r => K (x, y) r
  | _, _, _ => False
/-- one row is one datum -/
def dec1K (τ : Ty) (row : List SV) (K : τ.T → Prop) : Prop := decK τ row fun a rest => match rest with | [] => K a | _ => False

/-! Maps. -/
def isStrTy (P : Program) (t : TypeId) : Bool := match P.underlying t with | some .string => true | _ => false
def keyTyOk (B : Base) (kt : TypeId) : KTy → Bool
  | .s => isStrTy B.P kt
  | .i k => (match B.P.underlying kt with | some (.int k') => kEq k k' | _ => false)
  | .p => B.eqs kt && (match B.P.underlying kt with | some (.struct ⟨[f, g]⟩) => Nat.beq f.offset 0 && (Nat.beq g.offset 1 && (isStrTy B.P f.type && isStrTy B.P g.type)) | _ => false)
def keyTyOf (B : Base) (kt : TypeId) (K : KTy → Prop) : Prop :=
  match B.P.underlying kt with
  | some .string => K .s
  | some (.int k) => K (.i k)
  | some (.struct _) => K .p
  | _ => False
def decKeyK : (κ : KTy) → SV → (κ.T → Prop) → Prop
  | .s, .str l, K => K l
  | .i k, .int k' n, K => bif kEq k k' then K n else False
  | .p, .agg [.str a, .str b], K => K (a, b)
  | _, _, _ => False
/-- the zero value, if it fills one cell -/
def zero1K (P : Program) (e : TypeId) (K : SV → Prop) : Prop :=
  match P.info? e with
  | some i => (match i.zero with | some z => constK z K | none => False)
  | none => False
def oneK : List SV → (SV → Prop) → Prop
  | [x], K => K x
  | _, _ => False
def evLookup (B : Base) (Φ : Phi) (t : TypeId) (x i : SV) (ok : Bool) (K : SV → Prop) : Prop :=
  match B.P.underlying t, x with
  | some (.map kt e), .mref id =>
    match Φ.get id with
    | some (.mp κ τ l) =>
      bif keyTyOk B kt κ then
        decKeyK κ i fun k => zero1K B.P e fun z => dec1K τ [z] fun d =>
        oneK (τ.enc ((mget κ l k).getD d)) fun sv => bif ok then K (.tup [sv, .bool (mget κ l k).isSome]) else K sv
      else False
    | _ => False
  | _, _ => False
def makeMapK (B : Base) (t : TypeId) (σ : Env) (Φ : Phi) (n : Nat) (K : EK) : Prop :=
  match B.P.underlying t with
  | some (.map kt e) =>
    (match B.ty e with
     | some τ => keyTyOf B kt fun κ => newChK n (.mp κ τ []) (.mref n) σ Φ K
     | none => False)
  | _ => False
def mapSetK (B : Base) (t : TypeId) (m k v : SV) (σ : Env) (Φ : Phi) (n : Nat) (K : EK) : Prop :=
  match B.P.underlying t, m with
  | some (.map kt e), .mref id =>
    match Φ.get id with
    | some (.mp κ τ l) =>
      bif keyTyOk B kt κ && v.one then
        decKeyK κ k fun k => dec1K τ [v] fun a => setPK id (.mp κ τ (mset κ l k a)) Φ fun Φ => K .und σ Φ n
      else False
    | _ => False
  | _, _ => False
/-- an entry, gone -/
def mapDelK (B : Base) (t : TypeId) (m k : SV) (σ : Env) (Φ : Phi) (n : Nat) (K : EK) : Prop :=
  match B.P.underlying t, m with
  | some (.map kt e), .mref id =>
    match Φ.get id with
    | some (.mp κ τ l) => bif keyTyOk B kt κ then decKeyK κ k fun k => setPK id (.mp κ τ (mdel κ l k)) Φ fun Φ => K .und σ Φ n else False
    | _ => False
  | _, _ => False
/-- how many entries there are -/
def mapLenK (B : Base) (t : TypeId) (m : SV) (σ : Env) (Φ : Phi) (n : Nat) (K : EK) : Prop :=
  match B.P.underlying t, m with
  | some (.map kt e), .mref id =>
    match Φ.get id with
    | some (.mp κ τ l) => Ob (l.length ≤ 9223372036854775807) ∧ K (.int .i64 l.length) σ Φ n
    | _ => False
  | _, _ => False
/-- a text's bytes, and bytes as a text; other conversions turn nothing -/
def convBK (B : Base) (s d : TypeId) (x : SV) (σ : Env) (Φ : Phi) (n : Nat) (K : EK) : Prop :=
  match B.P.underlying s, B.P.underlying d, x with
  | some .string, some (.slice e), .str l =>
    (match B.P.underlying e with
     | some (.int .u8) => bif Nat.beq e 5 then newChK n (.own .byte l) (.own n) σ Φ K else False
     | _ => False)
  | some (.slice e), some .string, .own id =>
    (match B.P.underlying e, Φ.row id with
     | some (.int .u8), some (.own τ l) => castK τ .byte l fun l => K (.str l) σ Φ n
     | _, _ => False)
  | some (.slice e), some .string, .rd τ l =>
    (match B.P.underlying e with
     | some (.int .u8) => castK τ .byte l fun l => K (.str l) σ Φ n
     | _ => False)
  | some (.slice e), some .string, .nils =>
    (match B.P.underlying e with
     | some (.int .u8) => K (.str []) σ Φ n
     | _ => False)
  | some (.pointer e), some .unsafePointer, .loc id off =>
    (match Φ.get id with
     | some (.bx (some _) cs) => bif Nat.blt off (len cs) && !Nat.beq (sizeT B.P e) 0 then K (.loc id off) σ Φ n else False
     | _ => False)
  | some .unsafePointer, some (.pointer u), .loc id off =>
    (match Φ.get id with
     | some (.bx (some T) cs) => (match B.P.info? u with | some _ => Ob (liesAt B.P B.P.depth T (len cs / B.P.cellsOf T) off u 1 = true) ∧ K (.loc id off) σ Φ n | none => False)
     | _ => False)
  | _, _, _ => evConv B.P s d x (fun p => p) fun sv => K sv σ Φ n
/-- where a slice's first element lies -/
def sdataK (x : SV) (σ : Env) (Φ : Phi) (n : Nat) (K : EK) : Prop :=
  match x with
  | .nils => K (.v (.pointer none)) σ Φ n
  | .own id => (match Φ.get id with | some (.own τ l) => Ob (l ≠ []) ∧ K (.oel id τ.size 0 0) σ Φ n | _ => False)
  | _ => False
/-- the bytes from there on, as a text: the row is not written any more -/
def ustrK (B : Base) (tp : TypeId) (p i : SV) (σ : Env) (Φ : Phi) (n : Nat) (K : EK) : Prop :=
  match p, i with
  | .v (.pointer none), .int .i64 m => Ob (m = 0) ∧ K (.str []) σ Φ n
  | .oel id 1 0 0, .int .i64 m =>
    (match B.P.underlying tp, Φ.get id with
     | some (.pointer e), some (.own .byte l) =>
       bif Nat.beq e 5 && Nat.beq (B.P.cellsOf e) 1 then
         Ob (m = l.length ∧ l ≠ []) ∧ staleE id σ fun σ => staleP id Φ fun Φ => setPK id (.own .byte []) Φ fun Φ => K (.str l) σ Φ n
       else False
     | _, _ => False)
  | _, _ => False

def storeK (P : Program) (t : TypeId) (p x : SV) (σ : Env) (Φ : Phi) (n : Nat) (K : EK) : Prop :=
  cellsK x fun xs =>
  bif Nat.beq (sizeT P t) 0 then False else
  bif Nat.beq (len xs) (sizeT P t) then
    match p with
    | .loc id off => (match Φ.get id with | some (.bx T cs) => fillAt cs off xs fun cs => setPK id (.bx T cs) Φ fun Φ => K .und σ Φ n | _ => False)
    | .oel id sz0 i off =>
      (match Φ.get id with
       | some (.own τ l) =>
         bif Nat.beq sz0 τ.size && SV.okIdsL (fun _ => false) xs then
           Ob (i < l.length) ∧ fillAt (τ.enc (l.getD i τ.dflt)) off xs fun row => dec1K τ row fun a => setPK id (.own τ (l.set i a)) Φ fun Φ => K .und σ Φ n
         else False
       | _ => False)
    | _ => False
  else False

def chunksK (sz : Nat) : Nat → List SV → (List (List SV) → Prop) → Prop
  | 0, _, K => K []
  | n + 1, l, K => subK l 0 sz fun row => chunksK sz n (l.drop sz) fun rows => K (row :: rows)
def repK (z : List SV) : Nat → (List SV → Prop) → Prop
  | 0, K => K []
  | n + 1, K => repK z n fun l => fillAt (z ++ l) 0 z fun l => K l

/-- what an append takes from its second operand -/
def srcK (P : Program) (Φ : Phi) (e : TypeId) (τ : Ty) (x : SV) (K : List τ.T → Prop) : Prop :=
  bif szOk P e τ.size then
  match x with
  | .lits sz rows => bif Nat.beq sz τ.size then decRowsK (decK τ) rows K else False
  | .rd τ' l => castK τ' τ l K
  | .nils => K []
  | .str l => castK .byte τ l K
  | .own id => (match Φ.row id with | some (.own τ' l) => castK τ' τ l K | _ => False)
  | _ => False
  else False
def bytesT (P : Program) (e : TypeId) : Nat := match P.info? e with | some i => i.bytes | none => 0
def appendK (B : Base) (ts tx : TypeId) (s x : SV) (σ : Env) (Φ : Phi) (n : Nat) (K : EK) : Prop :=
  match B.P.underlying ts, B.P.underlying tx with
  | some (.slice e), some tx =>
    bif !isSrcD tx || Nat.beq (sizeT B.P e) 0 then False else
    zeroK B.P e fun z => bif Nat.beq (len z) (sizeT B.P e) then
    match s with
    | .nils =>
      (match B.ty e with
       | some τ => srcK B.P Φ e τ x fun l => Ob (l.length * bytesT B.P e ≤ 70368744177664 ∧ l.length ≤ 70368744177664) ∧ newChK n (.own τ l) (.own n) σ Φ K
       | none => False)
    | .own id =>
      (match Φ.get id with
       | some (.own τ l) =>
         bif okB τ e then srcK B.P Φ e τ x fun as =>
           Ob ((l.length + as.length) * bytesT B.P e ≤ 70368744177664 ∧ l.length + as.length ≤ 70368744177664) ∧
           staleE id σ fun σ => staleP id Φ fun Φ => setPK id (.own τ (l ++ as)) Φ fun Φ => K (.own id) σ Φ n
         else False
       | _ => False)
    | _ => False
    else False
  | _, _ => False
where isSrcD : TypeDesc → Bool
  | .slice _ | .string => true
  | _ => false

/-- what is appended to no slice: it is the call's own; or there is nothing to append -/
inductive AppN (B : Base) (ts tx : TypeId) (x : SV) (σ : Env) (Φ : Phi) (n : Nat) (K : EK) : Prop
  | mk (h : appendK B ts tx .nils x σ Φ n K)
  | nl (ht : (match B.P.underlying ts, B.P.underlying tx with | some (.slice e), some .string => (B.P.info? e).isSome | _, _ => false) = true) (hx : x = .str []) (k : K .nils σ Φ n)

/-- what is owned, cut: the names that it had are stale -/
def cutK (B : Base) (t : TypeId) (id : Nat) (hi : SV) (σ : Env) (Φ : Phi) (n : Nat) (K : EK) : Prop :=
  match B.P.underlying t, Φ.get id, hi with
  | some (.slice e), some (.own τ l), .int _ b =>
    bif szOk B.P e τ.size then Ob (0 ≤ b ∧ b ≤ l.length) ∧ staleE id σ fun σ => staleP id Φ fun Φ => setPK id (.own τ (l.take b.toNat)) Φ fun Φ => K (.own id) σ Φ n else False
  | _, _, _ => False
/-- the end of what is owned -/
def tailK (B : Base) (t : TypeId) (id : Nat) (lo : SV) (σ : Env) (Φ : Phi) (n : Nat) (K : EK) : Prop :=
  match B.P.underlying t, Φ.get id, lo with
  | some (.slice e), some (.own τ l), .int _ a =>
    bif szOk B.P e τ.size then Ob (0 ≤ a ∧ a ≤ l.length) ∧ K (.otl id τ.size a.toNat) σ Φ n else False
  | _, _, _ => False
def clearK (B : Base) (t : TypeId) (x : SV) (σ : Env) (Φ : Phi) (n : Nat) (K : EK) : Prop :=
  match B.P.underlying t, x with
  | some (.slice e), .otl id sz k =>
    (match Φ.get id with
     | some (.own τ l) =>
       bif szOk B.P e τ.size && (Nat.beq τ.size 1 && Nat.beq sz 1) then
         zeroK B.P e fun z => bif Nat.beq (len z) 1 then dec1K τ z fun d => setPK id (.own τ (l.take k ++ List.replicate (l.length - k) d)) Φ fun Φ => K (.tup []) σ Φ n else False
       else False
     | _ => False)
  | _, _ => False

def makeSliceK (B : Base) (t : TypeId) (ln cp : SV) (σ : Env) (Φ : Phi) (n : Nat) (K : EK) : Prop :=
  match B.P.underlying t, ln, cp with
  | some (.slice e), .int _ a, .int _ c =>
    bif Nat.beq (sizeT B.P e) 0 then False else
    zeroK B.P e fun z => bif Nat.beq (len z) (sizeT B.P e) then
      match B.ty e with
      | some τ =>
        bif szOk B.P e τ.size then
          dec1K τ z fun d => Ob (0 ≤ a ∧ a ≤ c ∧ c * bytesT B.P e ≤ 140737488355328 ∧ c ≤ 140737488355328) ∧ newChK n (.own τ (List.replicate a.toNat d)) (.own n) σ Φ K
        else False
      | none => False
    else False
  | _, _, _ => False

/-- the rows of a slice that is written out -/
def rowsOfK (P : Program) (σ : Env) (ctx : Ctx) (e : TypeId) (ln : Nat) (parts : List (Nat × Operand)) (K : List (List SV) → Prop) : Prop :=
  bif Nat.beq (sizeT P e) 0 || !Nat.ble (ln * sizeT P e) 16777216 then False else
  zeroK P e fun z => bif Nat.beq (len z) (sizeT P e) then
    repK z ln fun flat => fillK σ ctx (fun i => some (i * sizeT P e, sizeT P e)) parts flat fun flat =>
    bif SV.okIdsL (fun _ => false) flat && allOne flat then chunksK (sizeT P e) ln flat K else False
  else False
/-- it is the call's own -/
def buildSliceK (B : Base) (σ : Env) (t : TypeId) (ln : Nat) (parts : List (Nat × Operand)) (Φ : Phi) (n : Nat) (K : EK) : Prop :=
  match B.P.underlying t with
  | some (.slice e) =>
    (match B.ty e with
     | some τ => bif szOk B.P e τ.size then rowsOfK B.P σ [] e ln parts fun rows => decRowsK (decK τ) rows fun l => newChK n (.own τ l) (.own n) σ Φ K else False
     | none => False)
  | _ => False
/-- it does not change any more -/
def buildRdK (B : Base) (σ : Env) (ctx : Ctx) (t : TypeId) (ln : Nat) (parts : List (Nat × Operand)) (K : SV → Prop) : Prop :=
  match B.P.underlying t with
  | some (.slice e) =>
    (match B.ty e with
     | some τ => bif szOk B.P e τ.size then rowsOfK B.P σ ctx e ln parts fun rows => decRowsK (decK τ) rows fun l => K (.rd τ l) else False
     | none => rowsOfK B.P σ ctx e ln parts fun rows => K (.lits (sizeT B.P e) rows))
  | _ => False

def decL (s : List UInt8) (pos : Nat) : Nat × Nat := Utf8.decode ⟨s.toArray⟩ pos
def rangeK (P : Program) (t : TypeId) (x : SV) (σ : Env) (Φ : Phi) (n : Nat) (K : EK) : Prop :=
  match P.underlying t, x with
  | some .string, .str l => newChK n (.iter l 0) (.loc n 0) σ Φ K
  | _, _ => False
def nextK (x : SV) (isString : Bool) (σ : Env) (Φ : Phi) (n : Nat) (K : EK) : Prop :=
  match x, isString with
  | .loc id 0, true =>
    (match Φ.get id with
     | some (.iter s pos) =>
       (pos < s.length → setPK id (.iter s (pos + (decL s pos).2)) Φ fun Φ => K (.tup [.bool true, .int .i64 pos, .int .i32 (decL s pos).1]) σ Φ n) ∧
       (¬ pos < s.length → K (.tup [.bool false]) σ Φ n)
     | _ => False)
  | _, _ => False

end Go.Vc

namespace Go.Vc
set_option linter.unusedVariables false
set_option autoImplicit false

/-- What was out of reach ahead of a call is so behind it, and is as it was. -/
structure Hid (r : Mem) (β : Bind) (Φ : Phi) (w : World) (r' : Mem) (β' : Bind) (Φ' : Phi) (w' : World) : Prop where
  os : w'.os = w.os
  tape : w'.tape = w.tape
  output : w'.output = w.output
  size : w.heap.size ≤ w'.heap.size
  block : ∀ b, b < w.heap.size → r b = none → (∀ id ch, Φ.get id = some ch → ch.blk (β id) ≠ some b) →
    w'.heap[b]? = w.heap[b]? ∧ r' b = none ∧ (∀ id ch, Φ'.get id = some ch → ch.blk (β' id) ≠ some b)
  keep : ∀ id ch, Φ.get id = some ch → ch.kind ≠ 0 → β' id = β id ∧ ∃ ch', Φ'.get id = some ch' ∧ ch'.kind = ch.kind

def RelL (r : Mem) (β : Bind) (svs : List SV) (vs : List Value) : Prop :=
  vs.length = svs.length ∧ ∀ (i : Nat) (sv : SV) (v : Value), svs[i]? = some sv → vs[i]? = some v → Rel r β sv v

/-- A contract: handed these (and these chunks), the function returns something of which Post holds. -/
def Ct (B : Base) (f : FuncId) (args : List SV) (Φ : Phi) (Post : SV → Phi → Prop) : Prop :=
  ∀ r β w vs, B.G r → MemSat r β Φ w → RelL r β args vs →
    Calls B.P f vs.toArray w fun e w' => ∃ v sv r' β' Φ', e = .returned v ∧ Post sv Φ' ∧ Rel r' β' sv v ∧ MemSat r' β' Φ' w' ∧ r.le r' ∧ Hid r β Φ w r' β' Φ' w'

/-- A function of plain data: its result is a function of its arguments. -/
class Fn (B : Base) (f : FuncId) (args : List SV) (pre : outParam Prop) (res : outParam SV) : Prop where
  call : ∀ (vs : Array Value) (w : World), (callFunc f vs).run B.P w = .ok (.enter f vs) w
  ok : pre → Ct B f args [] fun sv Φ => sv = res ∧ Φ = []

/-- A function that is handed chunks, or makes some: what it hands back is a function of its arguments. Its ids: those that it is handed, in the order in which the arguments lead to them, from 0 on; then new ones. -/
class FnM (B : Base) (f : FuncId) (args : List SV) (Φ : Phi) (pre : outParam Prop) (res : outParam SV) (Φ' : outParam Phi) : Prop where
  call : ∀ (vs : Array Value) (w : World), (callFunc f vs).run B.P w = .ok (.enter f vs) w
  ok : pre → Ct B f args Φ fun sv Φ1 => sv = res ∧ Φ1 = Φ'

/-- the fence that lets all by -/
def fc (ro : Option Nat) : Fence := { Fence.wide with round := ro }
/-- what is not of these blocks has changed alone -/
structure Oth (r0 : Mem) (S : Nat → Prop) (w w' : World) : Prop where
  os : w'.os = w.os
  tape : w'.tape = w.tape
  output : w'.output = w.output
  size : w.heap.size ≤ w'.heap.size
  same : ∀ b, S b → w'.heap[b]? = w.heap[b]?
  old : ∀ b o, r0 b = some o → w'.heap[b]? = some o
/-- of what was there, these blocks have changed alone -/
structure Own (S : Nat → Prop) (w w' : World) : Prop where
  os : w'.os = w.os
  tape : w'.tape = w.tape
  output : w'.output = w.output
  size : w.heap.size ≤ w'.heap.size
  same : ∀ b, b < w.heap.size → ¬ S b → w'.heap[b]? = w.heap[b]?
/-- a call of a loop's yield -/
def YieldTo (P : Program) (l : Nat) (vs : List Value) (w : World) (R : Ending → World → Prop) : Prop :=
  ∃ fn tmps assign body, (Instr.yield l vs.toArray).run P w = .ok (.round l fn tmps assign body) w ∧ RoundIn (fc none) 0 P l fn tmps assign body w R
def yldV (l : Nat) : Value := .func (.yield l) #[] #[]
/-- Whatever a loop does in its rounds (J i: ahead of round i; S: the blocks that are the loop's), the function hands out these values, one by one, till a round ends it. -/
def ItCt (B : Base) (f : FuncId) (caps : List SV) (len : Nat) (at_ : Nat → List SV) : Prop :=
  ∀ (l : Nat) (r0 : Mem) (J : Nat → (Nat → Prop) → World → Prop) (Jx : (Nat → Prop) → World → Prop),
    (∀ i S w, J i S w → (∀ b, S b → b < w.heap.size ∧ r0 b = none) ∧ ∀ w', Oth r0 S w w' → J i S w') →
    (∀ S w, Jx S w → (∀ b, S b → b < w.heap.size ∧ r0 b = none) ∧ ∀ w', Oth r0 S w w' → Jx S w') →
    (∀ i S w r β vs, J i S w → i < len → RelL r β (at_ i) vs → YieldTo B.P l vs w fun e w' => ∃ b S', e = .returned (.bool b) ∧ Own S w w' ∧ (∀ x, S' x → S x ∨ w.heap.size ≤ x) ∧ (bif b then J (i + 1) S' w' else Jx S' w')) →
    ∀ β w vs S, B.G r0 → MemSat r0 β [] w → RelL r0 β caps vs → J 0 S w →
    Calls B.P f (yldV l :: vs).toArray w fun e w' => (∃ v, e = .returned v) ∧ ∃ S', J len S' w' ∨ Jx S' w'
class It (B : Base) (f : FuncId) (caps : List SV) (pre : outParam Prop) (len : outParam Nat) (at_ : outParam (Nat → List SV)) : Prop where
  call : ∀ (vs : Array Value) (w : World), (callFunc f vs).run B.P w = .ok (.enter f vs) w
  ok : pre → ItCt B f caps len at_
instance withY_fn {B : Base} {y : YS} {f : FuncId} {args : List SV} {pre : Prop} {res : SV} [h : Fn B f args pre res] : Fn (B.withY y) f args pre res := ⟨h.call, h.ok⟩
instance withY_fnM {B : Base} {y : YS} {f : FuncId} {args : List SV} {Φ : Phi} {pre : Prop} {res : SV} {Φ' : Phi} [h : FnM B f args Φ pre res Φ'] : FnM (B.withY y) f args Φ pre res Φ' := ⟨h.call, h.ok⟩

/-- a value that lies in no memory -/
def SV.plain0 : SV → Bool
  | .int _ _ | .bool _ | .str _ => true
  | _ => false
def plain0L : List SV → Bool
  | [] => true
  | x :: r => x.plain0 && plain0L r
def SV.plain1 : SV → Bool
  | .agg l => plain0L l
  | x => x.plain0
def plain1L : List SV → Bool
  | [] => true
  | x :: r => x.plain1 && plain1L r
def SV.plain : SV → Bool
  | .tup l => plain1L l
  | x => x.plain1
/-- kinds of which no part lies in memory -/
def Ty.plain : Ty → Bool
  | .sl _ => false
  | .pr a b => a.plain && b.plain
  | _ => true
/-- such chunks, new ones, and what leads to them -/
def SV.plainI0 : SV → Bool
  | .own _ => true
  | x => x.plain0
def plainI0L : List SV → Bool
  | [] => true
  | x :: r => x.plainI0 && plainI0L r
def SV.plainI1 : SV → Bool
  | .agg l => plainI0L l
  | x => x.plainI0
def plainI1L : List SV → Bool
  | [] => true
  | x :: r => x.plainI1 && plainI1L r
def SV.plainI : SV → Bool
  | .tup l => plainI1L l
  | x => x.plainI1
def plainP : Phi → Bool
  | [] => true
  | (_, .own τ _) :: r => τ.plain && plainP r
  | _ => false

/-! What is owned, lent. -/
def ln0 (Φ : Phi) (x : SV) (K : SV → Prop) : Prop :=
  match x with
  | .own id => (match Φ.get id with | some (.own τ l) => K (.rd τ l) | _ => False)
  | x => K x
def ln0L (Φ : Phi) : List SV → (List SV → Prop) → Prop
  | [], K => K []
  | x :: r, K => ln0 Φ x fun y => ln0L Φ r fun l => K (y :: l)
def ln1 (Φ : Phi) (x : SV) (K : SV → Prop) : Prop :=
  match x with
  | .agg l => ln0L Φ l fun l => K (.agg l)
  | x => ln0 Φ x K
def lendK (Φ : Phi) : List SV → (List SV → Prop) → Prop
  | [], K => K []
  | x :: r, K => ln1 Φ x fun y => lendK Φ r fun l => K (y :: l)
def ln2 (Φ : Phi) (x : SV) (K : SV → Prop) : Prop :=
  match x with
  | .tup l => lendK Φ l fun l => K (.tup l)
  | x => ln1 Φ x K

/-- A call that turns nothing that is known; what it makes does not change any more. 'args': as they are; 'largs': what is owned, lent. -/
inductive CallG (B : Base) (f : FuncId) (args largs : List SV) (g : Prop → Prop) (K : SV → Prop) : Prop
  | plain {pre : Prop} {res : SV} [fn : Fn B f largs pre res] (pl : res.plain = true) (hp : g (Ob pre)) (k : K res)
  | mk {pre : Prop} {res : SV} [fn : Fn B f args pre res] (pl : res.okIds (fun _ => false) = true) (hp : g (Ob pre)) (k : K res)
  | nwl {pre : Prop} {res : SV} {Φ' : Phi} [fn : FnM B f largs [] pre res Φ'] (pl : (res.plainI && plainP Φ') = true) (hp : g (Ob pre)) (k : ln2 Φ' res K)
  | nw {pre : Prop} {res : SV} {Φ' : Phi} [fn : FnM B f args [] pre res Φ'] (hp : g (Ob pre)) (k : ln2 Φ' res fun sv => bif sv.okIds (fun _ => false) then K sv else False)

def callK (B : Base) (Φ : Phi) (f : FuncId) (args : List SV) (g : Prop → Prop) (K : SV → Prop) : Prop :=
  lendK Φ args fun largs => CallG B f args largs g K

/-! What is owned, given away for good. -/
def fz0 (id : Nat) (τ : Ty) (l : List τ.T) (x : SV) (K : SV → Prop) : Prop :=
  match x with
  | .own i => bif Nat.beq i id then K (.rd τ l) else K (.own i)
  | x => bif x.okIds (fun i => !Nat.beq i id) then K x else K .und
def fz0L (id : Nat) (τ : Ty) (l : List τ.T) : List SV → (List SV → Prop) → Prop
  | [], K => K []
  | x :: r, K => fz0 id τ l x fun y => fz0L id τ l r fun r => K (y :: r)
def fz1 (id : Nat) (τ : Ty) (l : List τ.T) (x : SV) (K : SV → Prop) : Prop :=
  match x with
  | .agg xs => fz0L id τ l xs fun ys => K (.agg ys)
  | x => fz0 id τ l x K
def fz1L (id : Nat) (τ : Ty) (l : List τ.T) : List SV → (List SV → Prop) → Prop
  | [], K => K []
  | x :: r, K => fz1 id τ l x fun y => fz1L id τ l r fun r => K (y :: r)
def fz2 (id : Nat) (τ : Ty) (l : List τ.T) (x : SV) (K : SV → Prop) : Prop :=
  match x with
  | .tup xs => fz1L id τ l xs fun ys => K (.tup ys)
  | x => fz1 id τ l x K
def fzE (id : Nat) (τ : Ty) (l : List τ.T) : Env → (Env → Prop) → Prop
  | [], K => K []
  | (k, g, sv) :: r, K => fz2 id τ l sv fun y => fzE id τ l r fun r => K ((k, g, y) :: r)
def fzC (id : Nat) (τ : Ty) (l : List τ.T) (c : Chunk) (K : Chunk → Prop) : Prop :=
  match c with
  | .bx T cs => fz1L id τ l cs fun cs => K (.bx T cs)
  | c => K c
/-- the chunk is gone -/
def fzP (id : Nat) (τ : Ty) (l : List τ.T) : Phi → (Phi → Prop) → Prop
  | [], K => K []
  | (k, c) :: r, K => bif Nat.beq k id then fzP id τ l r K else fzC id τ l c fun c => fzP id τ l r fun r => K ((k, c) :: r)
def frzK : List Nat → List SV → Env → Phi → (List SV → Env → Phi → Prop) → Prop
  | [], xs, σ, Φ, K => K xs σ Φ
  | id :: ids, xs, σ, Φ, K =>
    match Φ.get id with
    | some (.own τ l) => fz1L id τ l xs fun xs => fzE id τ l σ fun σ => fzP id τ l Φ fun Φ => frzK ids xs σ Φ K
    | none => frzK ids xs σ Φ K
    | _ => False
/-- the ids of what is owned, as values -/
def own0 : SV → List Nat → List Nat
  | .own i, r => i :: r
  | _, r => r
def own0L : List SV → List Nat → List Nat
  | [], r => r
  | x :: xs, r => own0 x (own0L xs r)
def own1L : List SV → List Nat
  | [] => []
  | .agg l :: xs => own0L l (own1L xs)
  | x :: xs => own0 x (own1L xs)

/-! A call that is handed chunks. -/
def idsK : List SV → List Nat → List Nat
  | [], r => r
  | .loc i _ :: xs, r => i :: idsK xs r
  | .own i :: xs, r => i :: idsK xs r
  | .oel i _ _ _ :: xs, r => i :: idsK xs r
  | .mref i :: xs, r => i :: idsK xs r
  | _ :: xs, r => idsK xs r
def ids1K : List SV → List Nat → List Nat
  | [], r => r
  | .agg l :: xs, r => idsK l (ids1K xs r)
  | .fn _ l :: xs, r => idsK l (ids1K xs r)
  | x :: xs, r => idsK [x] (ids1K xs r)
def hasFst (m : List (Nat × Nat)) (i : Nat) : Bool :=
  match m with
  | [] => false
  | (a, _) :: r => Nat.beq a i || hasFst r i
def hasSnd (m : List (Nat × Nat)) (i : Nat) : Bool :=
  match m with
  | [] => false
  | (_, a) :: r => Nat.beq a i || hasSnd r i
def lookK (m : List (Nat × Nat)) (i : Nat) (K : Nat → Prop) : Prop :=
  match m with
  | [] => False
  | (a, j) :: r => bif Nat.beq a i then K j else lookK r i K
def snocK {α : Type} (x : α) : List α → (List α → Prop) → Prop
  | [], K => K [x]
  | y :: r, K => snocK x r fun l => K (y :: l)
def nums : List Nat := [0, 1, 2, 3, 4, 5, 6, 7, 8, 9, 10, 11, 12, 13, 14, 15, 16, 17, 18, 19, 20, 21, 22, 23, 24, 25, 26, 27, 28, 29]
/-- the chunks to which these ids lead: pairs (the caller's id, the callee's) -/
def reachK (Φ : Phi) : Nat → List Nat → List (Nat × Nat) → List Nat → (List (Nat × Nat) → Prop) → Prop
  | 0, _, _, _, _ => False
  | _ + 1, [], m, _, K => K m
  | f + 1, i :: todo, m, ns, K =>
    bif hasFst m i then reachK Φ f todo m ns K else
    match ns with
    | [] => False
    | j :: ns =>
      match Φ.get i with
      | some (.bx _ cs) => snocK (i, j) m fun m => reachK Φ f (ids1K cs todo) m ns K
      | some _ => snocK (i, j) m fun m => reachK Φ f todo m ns K
      | none => False
/-- the same, under other names -/
def rn0 (m : List (Nat × Nat)) (x : SV) (K : SV → Prop) : Prop :=
  match x with
  | .loc i off => lookK m i fun j => K (.loc j off)
  | .own i => lookK m i fun j => K (.own j)
  | .oel i sz k off => lookK m i fun j => K (.oel j sz k off)
  | .mref i => lookK m i fun j => K (.mref j)
  | x => bif x.okIds (fun _ => false) then K x else False
def rn0L (m : List (Nat × Nat)) : List SV → (List SV → Prop) → Prop
  | [], K => K []
  | x :: r, K => rn0 m x fun y => rn0L m r fun r => K (y :: r)
def rn1 (m : List (Nat × Nat)) (x : SV) (K : SV → Prop) : Prop :=
  match x with
  | .agg l => rn0L m l fun l => K (.agg l)
  | .fn f l => rn0L m l fun l => K (.fn f l)
  | x => rn0 m x K
def rn1L (m : List (Nat × Nat)) : List SV → (List SV → Prop) → Prop
  | [], K => K []
  | x :: r, K => rn1 m x fun y => rn1L m r fun r => K (y :: r)
def rn2 (m : List (Nat × Nat)) (x : SV) (K : SV → Prop) : Prop :=
  match x with
  | .tup l => rn1L m l fun l => K (.tup l)
  | x => rn1 m x K
def rnC (m : List (Nat × Nat)) (c : Chunk) (K : Chunk → Prop) : Prop :=
  match c with
  | .bx T cs => rn1L m cs fun cs => K (.bx T cs)
  | c => K c
/-- the callee's chunks -/
def subPK (Φ : Phi) (m0 : List (Nat × Nat)) : List (Nat × Nat) → (Phi → Prop) → Prop
  | [], K => K []
  | (i, j) :: m, K => match Φ.get i with | some ch => rnC m0 ch fun ch => subPK Φ m0 m fun r => K ((j, ch) :: r) | none => False
/-- what is owned, and was handed, may have moved -/
def staleMK (Φ0 : Phi) : List (Nat × Nat) → Env → Phi → (Env → Phi → Prop) → Prop
  | [], σ, Φ, K => K σ Φ
  | (i, _) :: m, σ, Φ, K =>
    match Φ0.get i with
    | some (.own _ _) => staleE i σ fun σ => staleP i Φ fun Φ => staleMK Φ0 m σ Φ K
    | _ => staleMK Φ0 m σ Φ K
/-- pairs (the callee's id, the caller's): new ones get new names -/
def newMK (σ : Env) (Φ : Phi) : Phi → List (Nat × Nat) → Nat → (List (Nat × Nat) → Nat → Prop) → Prop
  | [], M, n, K => K M n
  | (j, _) :: r, M, n, K =>
    bif hasFst M j then newMK σ Φ r M n K
    else bif freshE n σ && (freshP n Φ && !hasSnd M n) then newMK σ Φ r ((j, n) :: M) (Nat.succ n) K else False
def swapK : List (Nat × Nat) → (List (Nat × Nat) → Prop) → Prop
  | [], K => K []
  | (i, j) :: r, K => swapK r fun l => K ((j, i) :: l)
/-- the callee's chunks, as the caller's -/
def backPK (M : List (Nat × Nat)) : Phi → (Phi → Prop) → Prop
  | [], K => K []
  | (j, ch) :: r, K => lookK M j fun i => rnC M ch fun ch => backPK M r fun l => K ((i, ch) :: l)
/-- without what was handed -/
def dropMK (m : List (Nat × Nat)) : Phi → (Phi → Prop) → Prop
  | [], K => K []
  | (k, c) :: r, K => bif hasFst m k then dropMK m r K else dropMK m r fun l => K ((k, c) :: l)
def appPK : Phi → Phi → (Phi → Prop) → Prop
  | [], R, K => K R
  | e :: F, R, K => appPK F R fun l => K (e :: l)
def nodupFst : List (Nat × Nat) → Bool
  | [] => true
  | (a, _) :: r => !hasFst r a && nodupFst r
def nodupSnd : List (Nat × Nat) → Bool
  | [] => true
  | (_, a) :: r => !hasSnd r a && nodupSnd r
def afterK (m : List (Nat × Nat)) (res : SV) (Φ' : Phi) (σ : Env) (Φ : Phi) (n : Nat) (K : EK) : Prop :=
  staleMK Φ m σ Φ fun σ Φ1 => swapK m fun M0 => newMK σ Φ1 Φ' M0 n fun M n' =>
  bif nodupFst M && nodupSnd M then
    rn2 M res fun res => backPK M Φ' fun Φb => dropMK m Φ1 fun Φr => appPK Φb Φr fun Φ2 => K res σ Φ2 n'
  else False
def isNil {α : Type} : List α → Bool
  | [] => true
  | _ => false
def lentOk (m : List (Nat × Nat)) : List Nat → Bool
  | [] => true
  | i :: r => !hasFst m i && lentOk m r
inductive CallM (B : Base) (f : FuncId) (cargs : List SV) (Φc : Phi) (lent : List Nat) (m : List (Nat × Nat)) (σ : Env) (Φ : Phi) (n : Nat) (K : EK) : Prop
  | mk {pre : Prop} {res : SV} {Φ' : Phi} [fn : FnM B f cargs Φc pre res Φ'] (hl : (lentOk m lent && (isNil lent || (res.plainI && plainP Φ'))) = true) (hp : Ob pre) (k : afterK m res Φ' σ Φ n K)
/-- with these arguments, of which nothing that is owned is handed as a value -/
def callMK (B : Base) (f : FuncId) (args : List SV) (lent : List Nat) (σ : Env) (Φ : Phi) (n : Nat) (K : EK) : Prop :=
  reachK Φ 60 (ids1K args []) [] nums fun m => rn1L m args fun cargs => subPK Φ m m fun Φc => CallM B f cargs Φc lent m σ Φ n K
/-- what is owned, lent to be read -/
def roK : List Nat → Phi → (Phi → Prop) → Prop
  | [], Φ, K => K Φ
  | i :: r, Φ, K => match Φ.get i with | some (.own τ l) => setPK i (.ro τ l) Φ fun Φ => roK r Φ K | some (.ro _ _) => False | _ => False
def unroK : List Nat → Phi → (Phi → Prop) → Prop
  | [], Φ, K => K Φ
  | i :: r, Φ, K => match Φ.get i with | some (.ro τ l) => setPK i (.own τ l) Φ fun Φ => unroK r Φ K | _ => False
inductive CallS (B : Base) (f : FuncId) (args : List SV) (σ : Env) (Φ : Phi) (n : Nat) (K : EK) : Prop
  | q (h : callK B Φ f args (fun p => p) fun sv => K sv σ Φ n)
  | m (h : lendK Φ args fun largs => callMK B f largs (own1L args) σ Φ n K)
  | h (h : callMK B f args [] σ Φ n K)
  | b (h : roK (own1L args) Φ fun Φr => callMK B f args [] σ Φr n fun sv σ Φ n => unroK (own1L args) Φ fun Φ => K sv σ Φ n)
  | z (h : frzK (own1L args) args σ Φ fun args σ Φ => callMK B f args [] σ Φ n K)

/-- two structs, field by field -/
def eqFieldsK (P : Program) (xs ys : List SV) : List Field → (Bool → Prop) → Prop
  | [], K => K true
  | f :: fs, K =>
    match P.underlying f.type, nth xs f.offset, nth ys f.offset with
    | some (.int _), some (.int k a), some (.int k' b) => bif kEq k k' then eqFieldsK P xs ys fs fun r => K ((a == b) && r) else False
    | some .string, some (.str a), some (.str b) => eqFieldsK P xs ys fs fun r => K ((a == b) && r)
    | some .bool, some (.bool a), some (.bool b) => eqFieldsK P xs ys fs fun r => K ((a == b) && r)
    | _, _, _ => False
/-- a pointer, or none -/
def isPtr : SV → Bool
  | .loc _ _ | .el _ _ _ _ | .oel _ _ _ _ => true
  | _ => false
def isPtrV : SV → Bool
  | .loc _ _ | .el _ _ _ _ | .oel _ _ _ _ => true
  | .v (.pointer none) => true
  | _ => false
def ptrEqK (P : Program) (t : TypeId) (x y : SV) (K : Bool → Prop) : Prop :=
  match P.underlying t with
  | some (.pointer e) =>
    (match x, y with
     | .v (.pointer none), .v (.pointer none) => K true
     | x, .v (.pointer none) => bif isPtr x then K false else False
     | .v (.pointer none), y => bif isPtr y then K false else False
     | .loc i off, .loc j off' => bif Nat.beq i j && (Nat.beq off off' && !Nat.beq (sizeT P e) 0) then K true else False
     | _, _ => False)
  | _ => False
def evBinB (B : Base) (op : BinOp) (t : TypeId) (x y : SV) (g : Prop → Prop) (K : SV → Prop) : Prop :=
  match x, y with
  | .agg xs, .agg ys =>
    bif B.eqs t then
      match B.P.underlying t, op with
      | some (.struct ⟨fs⟩), .eql => eqFieldsK B.P xs ys fs fun b => K (.bool b)
      | some (.struct ⟨fs⟩), .neq => eqFieldsK B.P xs ys fs fun b => K (.bool (!b))
      | _, _ => False
    else False
  | x, y => bif isPtrV x then (match op with
      | .eql => ptrEqK B.P t x y fun b => K (.bool b)
      | .neq => ptrEqK B.P t x y fun b => K (.bool (!b))
      | _ => False)
    else evBin B.P op t x y g K
/-- is the slice nil? -/
def nilK (P : Program) (Φ : Phi) (t : TypeId) (x : SV) (K : Bool → Prop) : Prop :=
  match P.underlying t with
  | some (.slice _) =>
    (match x with
     | .nils => K true
     | .rd _ l => ∀ b : Bool, (b = true → l = []) → K b
     | .own id => (match Φ.row id with | some (.own _ l) => ∀ b : Bool, (b = true → l = []) → K b | _ => False)
     | _ => False)
  | _ => False
/-- what is owned, and is stored into an element, is given away for good -/
def storeFK (P : Program) (t : TypeId) (p x : SV) (σ : Env) (Φ : Phi) (n : Nat) (K : EK) : Prop :=
  match p with
  | .oel _ _ _ _ => frzK (own1L [x]) [p, x] σ Φ fun xs σ Φ => (match xs with | [p, x] => storeK P t p x σ Φ n K | _ => False)
  | p => storeK P t p x σ Φ n K

def appK : List SV → List SV → (List SV → Prop) → Prop
  | [], l, K => K l
  | x :: r, l, K => appK r l fun xs => K (x :: xs)

/-- An operation that makes no memory of the call's own. -/
def evK (B : Base) (Φ : Phi) (σ : Env) (ctx : Ctx) (g : Prop → Prop) (ung : Bool) (o : Op) (K : SV → Prop) : Prop :=
  match o with
  | .move x | .assign x => opK σ ctx x K
  | .pick c a b => evPick σ ctx c a b K
  | .binOp op t x y _ => opK σ ctx x fun x => opK σ ctx y fun y => evBinB B op t x y g K
  | .unOp op _ x => opK σ ctx x fun x => evUn op x g K
  | .convert s d x => opK σ ctx x fun x => evConv B.P s d x g K
  | .index t x i => opK σ ctx x fun x => opK σ ctx i fun i => evIndex B.P t x i g K
  | .slice t x lo hi none => opK σ ctx x fun x => loK σ ctx lo fun lo => loK σ ctx hi fun hi => evSlice B.P t x lo hi g K
  | .field t x f => opK σ ctx x fun x => evField B.P t x f K
  | .load t x => opK σ ctx x fun x => evLoad B.P Φ t x g K
  | .fieldAddr t x f => opK σ ctx x fun x => evFieldAddr B.P t x f K
  | .indexAddr t x i => opK σ ctx x fun x => opK σ ctx i fun i => evIndexAddr B.P Φ t x i g K
  | .extract x i => opK σ ctx x fun
    | .tup l => (match nth l i with | some sv => K sv | none => False)
    | _ => False
  | .build t ⟨parts⟩ => evBuild B.P σ ctx t parts K
  | .makeFunc (.func f) ⟨[]⟩ ⟨caps⟩ => opsK σ ctx caps fun l => K (.fn f l)
  | .call ⟨.builtin b, ⟨xs⟩, ⟨ts⟩⟩ => opsK σ ctx xs fun xs => evBuiltin B.P Φ b ts xs ung K
  | .call ⟨.value f, ⟨xs⟩, _⟩ => opK σ ctx f fun
    | .fn f caps => opsK σ ctx xs fun xs => appK xs caps fun xs => callK B Φ f xs g K
    | _ => False
  | .nilCheck x => opK σ ctx x fun x => evNil x K
  | .lookup t x i ok => opK σ ctx x fun x => opK σ ctx i fun i => evLookup B Φ t x i ok K
  | .buildSlice t ln ⟨parts⟩ => buildRdK B σ ctx t ln parts K
  | _ => False

def dstOf (all : List Oper) (j : Nat) : Option Nat := match nth all j with | some o => o.dst | none => none

/-- An operation, unguarded, in its turn. -/
def vcOp (B : Base) (op : Op) (σ : Env) (Φ : Phi) (n : Nat) (K : EK) : Prop :=
  match op with
  | .alloc t => zeroK B.P t fun z => bif B.tb t then newK n (some t) z σ Φ K else newK n none z σ Φ K
  | .box _ x => opK σ [] x fun sv => cellsK sv fun cs => newK n none cs σ Φ K
  | .store t p x => opK σ [] p fun p => opK σ [] x fun x => storeFK B.P t p x σ Φ n K
  | .buildSlice t ln ⟨parts⟩ => opsK σ [] (parts.map (·.2)) fun xs => frzK (own1L xs) [] σ Φ fun _ σ Φ => buildSliceK B σ t ln parts Φ n K
  | .makeSlice t l c => opK σ [] l fun l => opK σ [] c fun c => makeSliceK B t l c σ Φ n K
  | .makeMap t none => makeMapK B t σ Φ n K
  | .makeMap t (some r) => opK σ [] r fun | .int _ _ => makeMapK B t σ Φ n K | _ => False
  | .mapUpdate t m k x => opK σ [] m fun m => opK σ [] k fun k => opK σ [] x fun x => mapSetK B t m k x σ Φ n K
  | .insert t m k x => opK σ [] m fun m => opK σ [] k fun k => opK σ [] x fun x => mapSetK B t m k x σ Φ n K
  | .convert s d x => opK σ [] x fun x => convBK B s d x σ Φ n K
  | .range t x => opK σ [] x fun x => rangeK B.P t x σ Φ n K
  | .next x s => opK σ [] x fun x => nextK x s σ Φ n K
  | .binOp .eql t x (.const (.slice none 0 0)) _ => opK σ [] x fun x => nilK B.P Φ t x fun b => K (.bool b) σ Φ n
  | .binOp .neq t x (.const (.slice none 0 0)) _ => opK σ [] x fun x => nilK B.P Φ t x fun b => K (.bool (!b)) σ Φ n
  | .slice t x none (some hi) none => opK σ [] x fun
    | .own id => opK σ [] hi fun hi => cutK B t id hi σ Φ n K
    | _ => evK B Φ σ [] (fun p => p) true (.slice t x none (some hi) none) fun sv => K sv σ Φ n
  | .slice t x (some lo) none none => opK σ [] x fun
    | .own id => opK σ [] lo fun lo => tailK B t id lo σ Φ n K
    | _ => evK B Φ σ [] (fun p => p) true (.slice t x (some lo) none none) fun sv => K sv σ Φ n
  | .call ⟨.builtin .clear, ⟨[x]⟩, ⟨[t]⟩⟩ => opK σ [] x fun
    | .otl id sz k => clearK B t (.otl id sz k) σ Φ n K
    | _ => evK B Φ σ [] (fun p => p) true (.call ⟨.builtin .clear, ⟨[x]⟩, ⟨[t]⟩⟩) fun sv => K sv σ Φ n
  | .call ⟨.builtin .append, ⟨[s, x]⟩, ⟨[ts, tx]⟩⟩ => opK σ [] s fun s => opK σ [] x fun x => (match s with | .nils => AppN B ts tx x σ Φ n K | s => appendK B ts tx s x σ Φ n K)
  | .call ⟨.builtin .unsafeSliceData, ⟨[x]⟩, ⟨[_]⟩⟩ => opK σ [] x fun x => sdataK x σ Φ n K
  | .call ⟨.builtin .unsafeString, ⟨[p, i]⟩, ⟨[tp, _]⟩⟩ => opK σ [] p fun p => opK σ [] i fun i => ustrK B tp p i σ Φ n K
  | .call ⟨.builtin .delete, ⟨[m, k]⟩, ⟨[tm, tk]⟩⟩ => opK σ [] m fun m => opK σ [] k fun k => mapDelK B tm m k σ Φ n K
  | .call ⟨.builtin .len, ⟨[x]⟩, ⟨[t]⟩⟩ => opK σ [] x fun
    | .mref id => mapLenK B t (.mref id) σ Φ n K
    | _ => evK B Φ σ [] (fun p => p) true (.call ⟨.builtin .len, ⟨[x]⟩, ⟨[t]⟩⟩) fun sv => K sv σ Φ n
  | .call ⟨.value f, ⟨xs⟩, _⟩ => opK σ [] f fun
    | .fn f caps => opsK σ [] xs fun xs => appK xs caps fun xs => bif B.ne f then (match xs with | [x] => K x σ Φ n | _ => False) else CallS B f xs σ Φ n K
    | .v (.func (.yield l) ⟨[]⟩ ⟨[]⟩) => opsK σ [] xs fun xs => yieldK B l xs σ Φ n K
    | _ => False
  | op => evK B Φ σ [] (fun p => p) true op fun sv => K sv σ Φ n

/-- is it a call of yield, or one of a function that captured something that turns? -/
def ptrArg (σ : Env) : List Operand → Bool
  | [] => false
  | .tmp t :: r =>
    (match σ.get t with
     | some (_, .loc _ _) => true
     | some (_, .oel _ _ _ _) => true
     | some (_, .mref _) => true
     | _ => ptrArg σ r)
  | _ :: r => ptrArg σ r
def isYieldC (σ : Env) (op : Op) : Bool :=
  match op with
  | .call ⟨.value f, ⟨xs⟩, _⟩ =>
    (match f with
     | .tmp t =>
       (match σ.get t with
        | some (none, .v (.func (.yield _) _ _)) => true
        | some (_, .fn _ caps) => !SV.okIdsL (fun _ => false) caps
        | _ => false)
     | _ => false) || ptrArg σ xs
  | .convert _ _ (.tmp t) => (match σ.get t with | some (_, .str _) => true | _ => false)
  | _ => false
def beqB : Bool → Bool → Bool
  | true, b => b
  | false, b => !b
/-- what is known behind a guard that holds -/
def ungL (s : Nat) (w : Bool) : Env → Env
  | [] => []
  | (k, some (s', w'), sv) :: r => (k, (bif Nat.beq s' s && beqB w' w then none else some (s', w')), sv) :: ungL s w r
  | (k, none, sv) :: r => (k, none, sv) :: ungL s w r
def ungE (s : Nat) (w : Bool) (σ : Env) : Env := (s, none, .bool w) :: ungL s w σ
def putE (d : Option Nat) (gd : Option (Nat × Bool)) (sv : SV) (σ : Env) : Env := match d with | some d => (d, gd, sv) :: σ | none => σ

def isDeferC : Op → Bool
  | .defer _ => true
  | _ => false
/-- one after the other -/
def vcOps (B : Base) (all : List Oper) : List Oper → Env → Phi → Nat → (Env → Phi → Nat → Prop) → Prop
  | [], σ, Φ, n, K => K σ Φ n
  | ⟨dst, op, _, _, _, guard⟩ :: rest, σ, Φ, n, K =>
    match guard with
    | none => vcOp B op σ Φ n fun sv σ Φ n => vcOps B all rest (putE dst none sv σ) Φ n K
    | some (j, w) =>
      match dstOf all j with
      | some s =>
        match σ.get s with
        | some (none, .v (.bool c)) =>
          bif beqB c w then vcOp B op σ Φ n fun sv σ Φ n => vcOps B all rest (putE dst none sv σ) Φ n K
          else bif isDeferC op then False else vcOps B all rest (putE dst none .und σ) Φ n K
        | _ =>
        bif isYieldC σ op then
          match σ.get s with
          | some (none, .bool b) =>
            (b = w → vcOp B op (ungE s w σ) Φ n fun sv σ Φ n => vcOps B all rest (putE dst none sv σ) Φ n K) ∧
            (b = (!w) → vcOps B all rest (putE dst none .und ((s, none, .v (.bool (!w))) :: σ)) Φ n K)
          | _ => False
        else ctxK σ 40 s w fun ctx g => evK B Φ σ ctx g false op fun sv => vcOps B all rest (putE dst (some (s, w)) sv σ) Φ n K
      | none => False

/-! A region that draws its order. A plan says of each operation: 0: it touches no memory, and may come whenever it likes; 1: it turns nothing; 2: it is a call that makes memory which nothing reads before 3; 3: all that is not 0 and stands ahead of it comes ahead of it. -/
/-- those of 0, in the text's order -/
def vcT (B : Base) : List Nat → List Oper → Env → Phi → (Env → Prop) → Prop
  | 0 :: ps, ⟨dst, op, _, _, _, _⟩ :: ops, σ, Φ, K => evK B Φ σ [] (fun p => p) false op fun sv => vcT B ps ops (putE dst none sv σ) Φ K
  | _ :: ps, _ :: ops, σ, Φ, K => vcT B ps ops σ Φ K
  | _, _, σ, _, K => K σ
/-- a call whose memory is new, and is kept apart till the order is fixed: slot, value, chunks -/
inductive CallF (B : Base) (f : FuncId) (args largs : List SV) (K : SV → Phi → Prop) : Prop
  | nwl {pre : Prop} {res : SV} {Φ' : Phi} [fn : FnM B f largs [] pre res Φ'] (pl : (res.plainI && plainP Φ') = true) (hp : Ob pre) (k : K res Φ')
  | nw {pre : Prop} {res : SV} {Φ' : Phi} [fn : FnM B f args [] pre res Φ'] (hp : Ob pre) (k : K res Φ')
abbrev Frs := List (Nat × SV × Phi)
def freshCallK (B : Base) (Φ : Phi) (σ : Env) (op : Op) (K : SV → Phi → Prop) : Prop :=
  match op with
  | .buildSlice t ln ⟨parts⟩ =>
    (match B.P.underlying t with
     | some (.slice e) =>
       (match B.ty e with
        | some τ => bif szOk B.P e τ.size then rowsOfK B.P σ [] e ln parts fun rows => decRowsK (decK τ) rows fun l => K (.own 0) [(0, .own τ l)] else False
        | none => False)
     | _ => False)
  | .call ⟨.value f, ⟨xs⟩, _⟩ => opK σ [] f fun
    | .fn f caps => opsK σ [] xs fun xs => appK xs caps fun xs => bif SV.okIdsL (fun _ => false) xs then CallF B f xs xs K else lendK Φ xs fun ys => CallF B f xs ys K
    | _ => False
  | _ => False
/-- those that turn nothing -/
def vcPre (B : Base) (all : List Oper) (Φ : Phi) : List Nat → List Oper → Env → Frs → (Env → Frs → List Nat → List Oper → Prop) → Prop
  | [], _, σ, F, K => K σ F [] []
  | _, [], σ, F, K => K σ F [] []
  | 0 :: ps, _ :: ops, σ, F, K => vcPre B all Φ ps ops σ F K
  | 1 :: ps, ⟨dst, op, _, _, _, guard⟩ :: ops, σ, F, K =>
    (match guard with
     | none => evK B Φ σ [] (fun p => p) false op fun sv => vcPre B all Φ ps ops (putE dst none sv σ) F K
     | some (j, w) =>
       match dstOf all j with
       | some s => ctxK σ 40 s w fun ctx g => evK B Φ σ ctx g false op fun sv => vcPre B all Φ ps ops (putE dst (some (s, w)) sv σ) F K
       | none => False)
  | 2 :: ps, ⟨dst, op, _, _, _, guard⟩ :: ops, σ, F, K =>
    (match guard, dst with
     | none, some d => freshCallK B Φ σ op fun res Φ' => vcPre B all Φ ps ops ((d, none, .und) :: σ) ((d, res, Φ') :: F) K
     | _, _ => False)
  | p :: ps, o :: ops, σ, F, K => K σ F (p :: ps) (o :: ops)
/-- what was kept apart is the call's own -/
def ownFK : Frs → Env → Phi → Nat → (Env → Phi → Nat → Prop) → Prop
  | [], σ, Φ, n, K => K σ Φ n
  | (d, res, Φ') :: F, σ, Φ, n, K => ownFK F σ Φ n fun σ Φ n => afterK [] res Φ' σ Φ n fun sv σ Φ n => K ((d, none, sv) :: σ) Φ n
def restOps : List Nat → List Oper → List Oper
  | 0 :: ps, _ :: ops => restOps ps ops
  | _ :: ps, o :: ops => o :: restOps ps ops
  | _, _ => []
def vcDraw (B : Base) (all : List Oper) (plan : List Nat) (σ : Env) (Φ : Phi) (n : Nat) (K : Env → Phi → Nat → Prop) : Prop :=
  vcT B plan all σ Φ fun σ => vcPre B all Φ plan all σ [] fun σ F ps ops => ownFK F σ Φ n fun σ Φ n => vcOps B all (restOps ps ops) σ Φ n K
def memN (i : Nat) : List Nat → Bool
  | [] => false
  | x :: r => Nat.beq x i || memN i r
/-- the operations ahead of which number k must not come: its closure under the edges, as a list of numbers -/
def cloOf (all : List Oper) : Nat → List Nat → List Nat → List Nat
  | 0, _, acc => acc
  | _ + 1, [], acc => acc
  | f + 1, i :: todo, acc =>
    bif memN i acc then cloOf all f todo acc
    else cloOf all f ((match nth all i with | some o => o.after.toList.filterMap (fun e => bif Region.binds .any e then some e.on else none) | none => []) ++ todo) (i :: acc)
/-! A region that draws its order, all orders of some of it. -/
def remN (i : Nat) : List Nat → List Nat
  | [] => []
  | x :: r => bif Nat.beq x i then remN i r else x :: remN i r
/-- none of these, but itself, must come ahead of it -/
def noneIn (clo : List Nat) (i : Nat) : List Nat → Bool
  | [] => true
  | j :: r => (Nat.beq j i || !memN j clo) && noneIn clo i r
def readyE (all : List Oper) (rem : List Nat) (i : Nat) : Bool := noneIn (cloOf all (all.length * all.length + all.length + 2) [i] []) i rem
def eachK (rem : List Nat) (rdy : Nat → Bool) (D : Nat → Prop) : List Nat → Prop
  | [] => True
  | i :: r => (bif rdy i then D i else True) ∧ eachK rem rdy D r
def vcE (B : Base) (all : List Oper) (K : Env → Phi → Nat → Prop) : Nat → List Nat → Env → Phi → Nat → Prop
  | 0, _, _, _, _ => False
  | _ + 1, [], σ, Φ, n => K σ Φ n
  | f + 1, x :: r, σ, Φ, n => eachK (x :: r) (readyE all (x :: r)) (fun i => match nth all i with | some o => vcOps B all [o] σ Φ n fun σ Φ n => vcE B all K f (remN i (x :: r)) σ Φ n | none => False) (x :: r)
def fours : Nat → List Nat → List Nat
  | _, [] => []
  | k, p :: r => bif Nat.beq p 4 then k :: fours (Nat.succ k) r else fours (Nat.succ k) r
def vcDrawE (B : Base) (all : List Oper) (plan : List Nat) (σ : Env) (Φ : Phi) (n : Nat) (K : Env → Phi → Nat → Prop) : Prop :=
  vcT B plan all σ Φ fun σ => vcE B all K (Nat.succ all.length) (fours 0 plan) σ Φ n


/-- what is read later on -/
def purgeK : List Nat → Env → (Env → Prop) → Prop
  | [], _, K => K []
  | k :: L, σ, K =>
    match σ.get k with
    | some (none, sv) => purgeK L σ fun r => K ((k, none, sv) :: r)
    | _ => purgeK L σ K

inductive Ex where
  | normal
  | exit (id : Nat)
  | ret

abbrev KT := Ex → Env → Phi → Nat → Prop

def hasId (Φ : Phi) (i : Nat) : Bool := match Φ.get i with | some _ => true | none => false
/-! One state says all that another one says, whatever its chunks are called: pairs (the id there, the id here; none: an empty slice); Z: what is given away for good. -/
abbrev MM := List (Nat × Option Nat)
def MM.get : MM → Nat → Option (Option Nat)
  | [], _ => none
  | (a, x) :: r, j => bif Nat.beq a j then some x else MM.get r j
def MM.used : MM → Nat → Bool
  | [], _ => false
  | (_, some i) :: r, j => Nat.beq i j || MM.used r j
  | (_, none) :: r, j => MM.used r j
def mapTo (M : MM) (j i : Nat) (K : MM → Prop) : Prop :=
  match M.get j with
  | some (some i') => bif Nat.beq i i' then K M else False
  | some none => False
  | none => bif M.used i then False else K ((j, some i) :: M)
def mat0 (Φ ΦI : Phi) (a b : SV) (M : MM) (Z : List Nat) (K : MM → List Nat → Prop) : Prop :=
  match a, b with
  | .int k n, .int k' n' => (k = k' ∧ n = n') ∧ K M Z
  | .bool b, .bool b' => b = b' ∧ K M Z
  | .str l, .str l' => l = l' ∧ K M Z
  | .own i, .own j => mapTo M j i fun M => K M Z
  | .nils, .own j => (match M.get j with | none => K ((j, none) :: M) Z | some none => K M Z | _ => False)
  | .nils, .rd _ l => l = [] ∧ K M Z
  | .own i, .rd τ' l' => (match Φ.get i with | some (.own τ l) => SV.rd τ l = SV.rd τ' l' ∧ K M (i :: Z) | _ => False)
  | .loc i off, .el τ l k off' => (match Φ.get i, l with | some (.bx _ cells), [x] => ((k = 0 ∧ off = off') ∧ cells = τ.enc x) ∧ K M (i :: Z) | _, _ => False)
  | .lits sz rows, .rd τ l => (sz = τ.size ∧ rows = l.map τ.enc) ∧ K M Z
  | .loc i off, .loc j off' => bif Nat.beq off off' then mapTo M j i fun M => K M Z else False
  | .mref i, .mref j => mapTo M j i fun M => K M Z
  | .oel i sz k off, .oel j sz' k' off' => (sz = sz' ∧ k = k' ∧ off = off') ∧ mapTo M j i fun M => K M Z
  | _, .und => K M Z
  | a, b => bif b.okIds (fun _ => false) then a = b ∧ K M Z else False
def mat0L (Φ ΦI : Phi) : List SV → List SV → MM → List Nat → (MM → List Nat → Prop) → Prop
  | [], [], M, Z, K => K M Z
  | a :: r, b :: s, M, Z, K => mat0 Φ ΦI a b M Z fun M Z => mat0L Φ ΦI r s M Z K
  | _, _, _, _, _ => False
def mat1 (Φ ΦI : Phi) (a b : SV) (M : MM) (Z : List Nat) (K : MM → List Nat → Prop) : Prop :=
  match a, b with
  | .agg l, .agg l' => mat0L Φ ΦI l l' M Z K
  | .fn f l, .fn f' l' => f = f' ∧ mat0L Φ ΦI l l' M Z K
  | a, b => mat0 Φ ΦI a b M Z K
def mat1L (Φ ΦI : Phi) : List SV → List SV → MM → List Nat → (MM → List Nat → Prop) → Prop
  | [], [], M, Z, K => K M Z
  | a :: r, b :: s, M, Z, K => mat1 Φ ΦI a b M Z fun M Z => mat1L Φ ΦI r s M Z K
  | _, _, _, _, _ => False
def mat2 (Φ ΦI : Phi) (a b : SV) (M : MM) (Z : List Nat) (K : MM → List Nat → Prop) : Prop :=
  match a, b with
  | .tup l, .tup l' => mat1L Φ ΦI l l' M Z K
  | a, b => mat1 Φ ΦI a b M Z K
def matE (σ : Env) (Φ ΦI : Phi) : Env → MM → List Nat → (MM → List Nat → Prop) → Prop
  | [], M, Z, K => K M Z
  | (k, _, svI) :: r, M, Z, K =>
    match σ.get k with
    | some (none, sv) => mat2 Φ ΦI sv svI M Z fun M Z => matE σ Φ ΦI r M Z K
    | _ => False
def eqT : Option Nat → Option Nat → Bool
  | _, none => true
  | some a, some b => Nat.beq a b
  | none, some _ => false
def matC (Φ ΦI : Phi) : Phi → MM → List Nat → (MM → List Nat → Prop) → Prop
  | [], M, Z, K => K M Z
  | (j, chI) :: r, M, Z, K =>
    match M.get j with
    | none =>
      (match Φ.get j, chI with
       | some (.own τ l), .own τ' l' => bif M.used j then False else Chunk.own τ l = Chunk.own τ' l' ∧ matC Φ ΦI r ((j, some j) :: M) Z K
       | none, .own _ l' => l' = [] ∧ matC Φ ΦI r ((j, none) :: M) Z K
       | _, _ => False)
    | some none => (match chI with | .own _ l' => l' = [] ∧ matC Φ ΦI r M Z K | _ => False)
    | some (some i) =>
      (match Φ.get i, chI with
       | some (.bx T cs), .bx TI csI => bif eqT T TI then mat1L Φ ΦI cs csI M Z fun M Z => matC Φ ΦI r M Z K else False
       | some ch, chI => ch = chI ∧ matC Φ ΦI r M Z K
       | none, _ => False)
def notUsed (M : MM) : List Nat → Bool
  | [] => true
  | i :: Z => !M.used i && notUsed M Z
/-- each id there has a chunk there, and none comes twice here -/
def okMM (ΦI : Phi) : MM → Bool
  | [] => true
  | (j, x) :: M => (match ΦI.get j with | some _ => true | none => false) && ((match MM.get M j with | none => true | some _ => false) && ((match x with | some i => !MM.used M i | none => true) && okMM ΦI M))
def initM : Phi → MM
  | [] => []
  | (j, ch) :: r => bif Nat.beq ch.kind 0 then initM r else (j, some j) :: initM r
/-- what has a header that never turns is there still -/
def keepB (ΦI : Phi) : Phi → Bool
  | [] => true
  | (j, ch) :: r => (Nat.beq ch.kind 0 || (match ΦI.get j with | some c => Nat.beq c.kind ch.kind | none => false)) && keepB ΦI r
def matK (σ : Env) (Φ : Phi) (σI : Env) (ΦI : Phi) (Φ0 : Phi) : Prop :=
  matE σ Φ ΦI σI (initM Φ0) [] fun M Z => matC Φ ΦI ΦI M Z fun M Z => bif okMM ΦI M && (notUsed M Z && keepB ΦI Φ0) then True else False
def updE : List (Nat × SV) → Env → Env
  | [], σ => σ
  | (k, sv) :: r, σ => (k, none, sv) :: updE r σ
/-- the chunks of F, and those of Φ that F does not name -/
def restK (F : Phi) : Phi → (Phi → Prop) → Prop
  | [], K => K []
  | (k, c) :: r, K => bif hasId F k then restK F r K else restK F r fun l => K ((k, c) :: l)
def mergeK : Phi → Phi → (Phi → Prop) → Prop
  | [], R, K => K R
  | e :: F, R, K => mergeK F R fun l => K (e :: l)
def headK (L : List Nat) (U : List (Nat × SV)) (F : Phi) (σ : Env) (Φ : Phi) (K : Env → Phi → Prop) : Prop :=
  purgeK L (updE U σ) fun σI => restK F Φ fun R => mergeK F R fun ΦI => K σI ΦI

/-- the end of a round -/
structure Rnd (p : Prop) : Prop where
  h : p

inductive LoopStop (L : List Nat) (body : KT → Env → Phi → Nat → Prop) (K : KT) (σ : Env) (Φ : Phi) (n : Nat) : Prop
  | mk {α : Type} (U : α → List (Nat × SV)) (F : α → Phi) (m : Nat) (C : α → Prop) (μ : α → Nat) (a0 : α) (h0 : C a0)
      (he : headK L (U a0) (F a0) σ Φ fun σI ΦI => matK σ Φ σI ΦI Φ)
      (hr : ∀ a, C a → headK L (U a) (F a) σ Φ fun σI ΦI => body (fun e σ' Φ' n' =>
        match e with
        | .normal => Rnd (∃ a', C a' ∧ μ a' < μ a ∧ headK L (U a') (F a') σ Φ fun σI ΦI => matK σ' Φ' σI ΦI Φ)
        | e => K e σ' Φ' n') σI ΦI m)

/-- gotos leave as exits with numbers from here on -/
def GT : Nat := 1000000
def hasLab (l : Nat) : Code → Bool
  | .label l' => Nat.beq l' l
  | .seq a b => hasLab l a || hasLab l b
  | _ => false
def hasGoto : Code → Bool
  | .goto _ => true
  | .seq a b | .cond _ a b => hasGoto a || hasGoto b
  | .block _ c | .loop c => hasGoto c
  | .rangeFunc _ _ a b => hasGoto a || hasGoto b
  | _ => false
/-- a scope in which the run jumps: 'straight': it does not; 'mk': what holds at each label at each jump -/
inductive ScopeStop (L : List Nat) (has : Nat → Bool) (first : KT → Env → Phi → Nat → Prop) (from_ : Nat → KT → Env → Phi → Nat → Prop) (K : KT) (σ : Env) (Φ : Phi) (n : Nat) : Prop
  | straight (h : first (fun e σ' Φ' n' => match e with | .exit i => (bif Nat.ble GT i then False else K (.exit i) σ' Φ' n') | e => K e σ' Φ' n') σ Φ n)
  | mk {α : Type} (lab : α → Nat) (U : α → List (Nat × SV)) (F : α → Phi) (m : Nat) (C : α → Prop) (μ : α → Nat)
      (hl : ∀ a, C a → has (lab a) = true)
      (h1 : first (fun e σ' Φ' n' =>
        match e with
        | .exit i => (bif Nat.ble GT i then Rnd (∃ a', GT + lab a' = i ∧ C a' ∧ headK L (U a') (F a') σ Φ fun σI ΦI => matK σ' Φ' σI ΦI Φ) else K (.exit i) σ' Φ' n')
        | e => K e σ' Φ' n') σ Φ n)
      (hr : ∀ a, C a → headK L (U a) (F a) σ Φ fun σI ΦI => from_ (lab a) (fun e σ' Φ' n' =>
        match e with
        | .exit i => (bif Nat.ble GT i then Rnd (∃ a', GT + lab a' = i ∧ C a' ∧ μ a' < μ a ∧ headK L (U a') (F a') σ Φ fun σI ΦI => matK σ' Φ' σI ΦI Φ) else K (.exit i) σ' Φ' n')
        | e => K e σ' Φ' n') σI ΦI m)

/-- what no round turns -/
def stabB (Φ : Phi) (sv : SV) : Bool := sv.okIds (fun id => match Φ.get id with | some ch => !Nat.beq ch.kind 0 | none => false)
def stabK (Φ : Phi) (σ : Env) : List Nat → (Env → Prop) → Prop
  | [], K => K []
  | k :: L, K =>
    match σ.get k with
    | some (none, sv) => bif stabB Φ sv then stabK Φ σ L fun l => K ((k, none, sv) :: l) else stabK Φ σ L K
    | _ => stabK Φ σ L K
/-- a round's own slots -/
def parK : List Nat → List SV → Env → (Env → Prop) → Prop
  | [], [], σ, K => K σ
  | p :: ps, x :: xs, σ, K => parK ps xs ((p, none, x) :: σ) K
  | _, _, _, _ => False
/-- A range over a function: rounds, as many as the function hands out, or till one ends it. -/
inductive RangeStop (B : Base) (L : List Nat) (f : FuncId) (caps : List SV) (ps : List Nat) (assign body : KT → Env → Phi → Nat → Prop) (K : KT) (σ : Env) (Φ : Phi) : Prop
  | mk {pre : Prop} {len : Nat} {at_ : Nat → List SV} [it : It B f caps pre len at_] (hp : Ob pre) (pl : SV.okIdsL (fun _ => false) caps = true) {α : Type} (F : α → Phi) (m : Nat) (C : Nat → α → Prop) (a0 : α) (h0 : C 0 a0)
      (he : stabK Φ σ L fun σP => headK L [] (F a0) σP Φ fun σI ΦI => matK σI Φ σI ΦI Φ)
      (hr : ∀ i a, C i a → i < len → stabK Φ σ L fun σP => headK L [] (F a) σP Φ fun σI ΦI => bif plain1L (at_ i) then parK ps (at_ i) σI fun σr => assign (fun ex σ1 Φ1 n1 =>
        match ex with
        | .normal => body (fun ex σ' Φ' n' =>
          match ex with
          | .normal => Rnd (∃ a', C (i + 1) a' ∧ headK L [] (F a') σP Φ fun σI ΦI => matK σI Φ' σI ΦI Φ)
          | ex => K ex σI Φ' n') σ1 Φ1 n1
        | _ => False) σr ΦI m else False)
      (hend : ∀ a, C len a → stabK Φ σ L fun σP => headK L [] (F a) σP Φ fun σI ΦI => K .normal σI ΦI m)

/-! A region that draws its order: some of it only looks at what was there (0), all the rest (6) turns nothing but what is made in the region. -/
/-- it makes no memory, and turns none -/
def reads : Op → Bool
  | .load _ _ | .indexAddr _ _ _ | .call ⟨.builtin _, _, _⟩ => true
  | _ => false
/-- without what leads to a chunk -/
def noIdsE : Env → Env
  | [] => []
  | (k, g, sv) :: r => (k, g, bif sv.okIds (fun _ => false) then sv else .und) :: noIdsE r
def noIdsK : Env → (Env → Prop) → Prop
  | [], K => K []
  | (k, g, sv) :: r, K => bif sv.okIds (fun _ => false) then noIdsK r (fun l => K ((k, g, sv) :: l)) else noIdsK r (fun l => K ((k, g, .und) :: l))
def sixes : Nat → List Nat → List Nat
  | _, [] => []
  | k, p :: r => bif Nat.beq p 6 then k :: sixes (Nat.succ k) r else sixes (Nat.succ k) r
/-- the slots that they write -/
def dstsX : List Nat → List Oper → List Nat
  | 6 :: ps, ⟨some d, _, _, _, _, _⟩ :: ops => d :: dstsX ps ops
  | _ :: ps, _ :: ops => dstsX ps ops
  | _, _ => []
def slotsK (σ : Env) : List Nat → (List SV → Prop) → Prop
  | [], K => K []
  | d :: ds, K => match σ.get d with | some (none, sv) => slotsK σ ds fun l => K (sv :: l) | _ => False
def entsOf : List Nat → List SV → Env
  | d :: ds, x :: xs => (d, none, x) :: entsOf ds xs
  | _, _ => []
def entsOn (σ : Env) : List Nat → List SV → Env
  | d :: ds, x :: xs => (d, none, x) :: entsOn σ ds xs
  | _, _ => σ
def vcDrawX (B : Base) (all : List Oper) (plan : List Nat) (σ : Env) (Φ : Phi) (n : Nat) (K : Env → Phi → Nat → Prop) : Prop :=
  bif Nat.beq B.Y.len 0 then
    vcT B plan all σ Φ fun σT => noIdsK σT fun σ4 => vcOps B all (restOps plan all) σ4 [] 0 fun σc Φc _ => slotsK σc (dstsX plan all) fun l =>
      vcE B all (fun σ' Φ' _ => matK σ' Φ' (entsOf (dstsX plan all) l) Φc []) (Nat.succ all.length) (sixes 0 plan) σ4 [] 0 ∧
      afterK [] (.tup l) Φc σT Φ n fun res σ Φ n => (match res with | .tup l => K (entsOn σ (dstsX plan all) l) Φ n | _ => False)
  else False

def planOf : List (Nat × List Nat) → Nat → List Nat
  | [], _ => []
  | (i, p) :: r, id => bif Nat.beq i id then p else planOf r id

def vcg (B : Base) (L : List Nat) (pl : List (Nat × List Nat)) : Code → Option Nat → KT → Env → Phi → Nat → Prop
  | .skip, m, K, σ, Φ, n => (match m with | none => K .normal σ Φ n | some _ => False)
  | .region id ⟨ops⟩ draw, m, K, σ, Φ, n =>
    (match m with
    | some _ => False
    | none => frzK (planOf pl (Nat.add id 1000000)) [] σ Φ fun _ σ Φ =>
      bif draw then (bif memN 6 (planOf pl id) then vcDrawX B ops (planOf pl id) σ Φ n (fun σ Φ n => purgeK L σ fun σ => K .normal σ Φ n) else bif memN 4 (planOf pl id) then vcDrawE B ops (planOf pl id) σ Φ n (fun σ Φ n => purgeK L σ fun σ => K .normal σ Φ n) else vcDraw B ops (planOf pl id) σ Φ n fun σ Φ n => purgeK L σ fun σ => K .normal σ Φ n)
      else vcOps B ops ops σ Φ n fun σ Φ n => purgeK L σ fun σ => K .normal σ Φ n)
  | .seq a b, m, K, σ, Φ, n =>
    (match m with
    | none => vcg B L pl a none (fun e => match e with | .normal => vcg B L pl b none K | e => K e) σ Φ n
    | some l => bif hasLab l a then vcg B L pl a (some l) (fun e => match e with | .normal => vcg B L pl b none K | e => K e) σ Φ n else vcg B L pl b (some l) K σ Φ n)
  | .cond c x y, m, K, σ, Φ, n =>
    (match m with
    | some _ => False
    | none => opK σ [] c fun
      | .bool b => (b = true → vcg B L pl x none K σ Φ n) ∧ (b = false → vcg B L pl y none K σ Φ n)
      | _ => False)
  | .block id c, m, K, σ, Φ, n =>
    (match m with
    | some _ => False
    | none => vcg B L pl c none (fun e => match e with | .exit i => (bif Nat.beq i id then K .normal else K (.exit i)) | e => K e) σ Φ n)
  | .loop c, m, K, σ, Φ, n => (match m with | some _ => False | none => LoopStop L (fun K σ Φ n => vcg B L pl c none K σ Φ n) K σ Φ n)
  | .rangeFunc g ⟨ps⟩ x y, m, K, σ, Φ, n =>
    (match m with
    | some _ => False
    | none => opK σ [] g fun
      | .fn f caps => bif Nat.beq B.Y.len 0 then RangeStop B L f caps ps (fun K σ Φ n => vcg B L pl x none K σ Φ n) (fun K σ Φ n => vcg B L pl y none K σ Φ n) K σ Φ else False
      | _ => False)
  | .exit id, m, K, σ, Φ, n => (match m with | some _ => False | none => K (.exit id) σ Φ n)
  | .ret, m, K, σ, Φ, n => (match m with | some _ => False | none => K .ret σ Φ n)
  | .scope c, m, K, σ, Φ, n =>
    (match m with
    | some _ => False
    | none => bif hasGoto c then ScopeStop L (fun l => hasLab l c) (fun K σ Φ n => vcg B L pl c none K σ Φ n) (fun l K σ Φ n => vcg B L pl c (some l) K σ Φ n) K σ Φ n else vcg B L pl c none K σ Φ n)
  | .label l', m, K, σ, Φ, n => (match m with | none => K .normal σ Φ n | some l => bif Nat.beq l' l then K .normal σ Φ n else False)
  | .goto l, m, K, σ, Φ, n => (match m with | some _ => False | none => K (.exit (Nat.add GT l)) σ Φ n)
  | .refuse _, _, _, _, _, _ => False
abbrev vc (B : Base) (L : List Nat) (pl : List (Nat × List Nat)) (c : Code) (K : KT) (σ : Env) (Φ : Phi) (n : Nat) : Prop := vcg B L pl c none K σ Φ n

/-- what is checked of a function's code once, by the kernel -/
def allDst (N : Nat) : List Oper → Bool
  | [] => true
  | o :: r => (match o.dst with | some d => Nat.blt d N | none => true) && allDst N r
def notDst (d : Nat) : List Oper → Bool
  | [] => true
  | o :: r => (match o.dst with | some d' => !Nat.beq d' d | none => true) && notDst d r
def distinctDst : List Oper → Bool
  | [] => true
  | o :: r => (match o.dst with | some d => notDst d r | none => true) && distinctDst r
def guardsOk (i : Nat) : List Oper → Bool
  | [] => true
  | o :: r => (match o.guard with | some (j, _) => Nat.blt j i | none => true) && guardsOk (i + 1) r
/-- it touches no memory -/
def floats : Op → Bool
  | .move _ | .assign _ | .pick _ _ _ | .binOp _ _ _ _ _ | .unOp _ _ _ | .convert _ _ _ | .index _ _ _ | .slice _ _ _ _ _ | .field _ _ _ | .fieldAddr _ _ _ | .extract _ _ | .nilCheck _ => true
  | _ => false
def opTmpsB : List Operand → List Nat
  | [] => []
  | .tmp t :: r => t :: opTmpsB r
  | _ :: r => opTmpsB r
def getN : List Nat → Nat → Nat
  | [], _ => 9
  | x :: _, 0 => x
  | _ :: r, n + 1 => getN r n
/-- of these operations none with another plan than 0 writes one of these slots -/
def noneWrites (ts : List Nat) : List Nat → List Oper → Bool
  | p :: ps, o :: ops => (match o.dst with | some d => Nat.beq p 0 || !memN d ts | none => true) && noneWrites ts ps ops
  | _, _ => true
/-- none of these operations looks at this slot -/
def noneReads (all : Array Oper) (d : Nat) : List Oper → Bool
  | [] => true
  | o :: ops => !memN d (o.looksAt all) && noneReads all d ops
/-- all that is not 0, and stands ahead, is in the closure -/
def coversB (clo : List Nat) : Nat → List Nat → Bool
  | _, [] => true
  | j, p :: ps => (Nat.beq p 0 || memN j clo) && coversB clo (j + 1) ps
/-- what is asked of a plan, operation by operation; 'pre', 'ppre': those ahead -/
def planOkFrom (all : List Oper) (plan : List Nat) : Nat → List Nat → List Oper → Bool
  | _, [], [] => true
  | k, p :: ps, o :: ops =>
    (match p with
     | 0 => floats o.op && ((match o.guard with | none => true | some _ => false) && ((match o.dst with | some d => noneReads all.toArray d (all.take (k + 1)) | none => false) && noneWrites (opTmpsB o.op.operands.toList) (plan.take k) (all.take k)))
     | 1 => noThree (plan.take k)
     | 2 => noThree (plan.take k) && ((match o.guard with | none => true | some _ => false) && (match o.dst with | some d => noneReads all.toArray d ((plan.zip all).filterMap fun x => bif Nat.beq x.1 3 then none else some x.2) | none => false))
     | 3 => coversB (cloOf all (all.length * all.length + all.length + 2) [k] []) 0 (plan.take k)
     | _ => false) && planOkFrom all plan (k + 1) ps ops
  | _, _, _ => false
where noThree : List Nat → Bool
  | [] => true
  | x :: r => !Nat.beq x 3 && noThree r
def planOk (all : List Oper) (plan : List Nat) : Bool := planOkFrom all plan 0 plan all
/-- a plan of 0 and 4 alone -/
def planEFrom (all : List Oper) (plan : List Nat) : Nat → List Nat → List Oper → Bool
  | _, [], [] => true
  | k, p :: ps, o :: ops =>
    (match p with
     | 0 => floats o.op && ((match o.guard with | none => true | some _ => false) && ((match o.dst with | some d => noneReads all.toArray d (all.take (k + 1)) | none => false) && noneWrites (opTmpsB o.op.operands.toList) (plan.take k) (all.take k)))
     | 4 => true
     | _ => false) && planEFrom all plan (k + 1) ps ops
  | _, _, _ => false
def planE (all : List Oper) (plan : List Nat) : Bool := planEFrom all plan 0 plan all
/-- a plan of 0 and 6 alone -/
def planXFrom (all : List Oper) (plan : List Nat) : Nat → List Nat → List Oper → Bool
  | _, [], [] => true
  | k, p :: ps, o :: ops =>
    (match p with
     | 0 => (floats o.op || reads o.op) && ((match o.guard with | none => true | some _ => false) && ((match o.dst with | some d => noneReads all.toArray d (all.take (k + 1)) | none => false) && noneWrites (opTmpsB o.op.operands.toList) (plan.take k) (all.take k)))
     | 6 => (match o.guard with | none => true | some _ => false)
     | _ => false) && planXFrom all plan (k + 1) ps ops
  | _, _, _ => false
def planX (all : List Oper) (plan : List Nat) : Bool := planXFrom all plan 0 plan all
/-- it ranges over no function -/
def noRange : Code → Bool
  | .rangeFunc _ _ _ _ => false
  | .seq a b | .cond _ a b => noRange a && noRange b
  | .block _ c | .loop c | .scope c => noRange c
  | _ => true
def ltAll (N : Nat) : List Nat → Bool
  | [] => true
  | p :: r => Nat.blt p N && ltAll N r
def codeOk (N : Nat) (pl : List (Nat × List Nat)) : Code → Bool
  | .region id ops draw => allDst N ops.toList && (distinctDst ops.toList && (guardsOk 0 ops.toList && (!draw || (Region.lexB .any ops && (bif memN 6 (planOf pl id) then planX ops.toList (planOf pl id) else bif memN 4 (planOf pl id) then planE ops.toList (planOf pl id) else planOk ops.toList (planOf pl id))))))
  | .seq a b | .cond _ a b => codeOk N pl a && codeOk N pl b
  | .rangeFunc _ ⟨ps⟩ a b => (ltAll N ps && ((noRange a && noRange b) && !(hasGoto a || hasGoto b))) && (codeOk N pl a && codeOk N pl b)
  | .block id c => Nat.blt id GT && codeOk N pl c
  | .loop c => codeOk N pl c
  | .scope c => (!(hasGoto c) || noRange c) && codeOk N pl c
  | .exit id => Nat.blt id GT
  | .skip | .ret | .refuse _ | .label _ | .goto _ => true

/-- results -/
def resK (P : Program) (σ : Env) (Φ : Phi) : List ResultVar → (List SV → Prop) → Prop
  | [], K => K []
  | .tmp t :: r, K => opK σ [] (.tmp t) fun sv => resK P σ Φ r fun l => K (sv :: l)
  | .cell a t :: r, K => opK σ [] (.tmp a) fun
    | .loc id off => (match Φ.get id with | some (.bx _ cs) => partK P t cs off fun sv => resK P σ Φ r fun l => K (sv :: l) | _ => False)
    | _ => False
def tupSV : List SV → SV
  | [x] => x
  | l => .tup l
/-- the end of a function -/
structure Fin (p : Prop) : Prop where
  h : p
def retKT (P : Program) (rs : List ResultVar) (res : SV) (Φ0 Φ' : Phi) : KT := fun e σ Φ _ =>
  match e with
  | .exit _ => False
  | _ => resK P σ Φ rs fun l => Fin (matK [(0, none, tupSV l)] Φ [(0, none, res)] Φ' Φ0)
def argE : Nat → List SV → Env
  | _, [] => []
  | i, x :: r => (i, none, x) :: argE (i + 1) r

end Go.Vc
