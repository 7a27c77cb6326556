/- A part of the proof: lemmas and walks that the last text of the claim joins; no condition. -/
import Derived.Test.YtfjggnjfifbbgaaVcBase
namespace Go.Vc
set_option autoImplicit false

/-- An obligation, kept closed. -/
structure Ob (p : Prop) : Prop where
  h : p

def nth {α : Type _} : List α → Nat → Option α
  | [], _ => none
  | x :: _, 0 => some x
  | _ :: r, n + 1 => nth r n

def kCode : IntKind → Nat
  | .i8 => 0 | .i16 => 1 | .i32 => 2 | .i64 => 3 | .u8 => 4 | .u16 => 5 | .u32 => 6 | .u64 => 7
def kEq (a b : IntKind) : Bool := Nat.beq (kCode a) (kCode b)
/-- every value of the first kind is one of the second -/
def kWide : IntKind → IntKind → Bool
  | .u8, .u8 | .u8, .i32 | .u8, .i64 | .u8, .u64 | .u8, .u32 | .i32, .i32 | .i32, .i64 | .i64, .i64 | .u32, .i64 | .u32, .u64 | .u32, .u32 | .u64, .u64 => true
  | _, _ => false
def kIn : IntKind → Int → Prop
  | .i64, n => InI64 n
  | .i32, n => -2147483648 ≤ n ∧ n ≤ 2147483647
  | .u8, n => 0 ≤ n ∧ n ≤ 255
  | .u32, n => 0 ≤ n ∧ n ≤ 4294967295
  | .u64, n => 0 ≤ n ∧ n ≤ 18446744073709551615
  | k, n => k.min ≤ n ∧ n ≤ k.max

def sizeT (P : Program) (t : TypeId) : Nat := match P.info? t with | some i => i.size | none => 0

/-- the elements have so many cells -/
def szOk (P : Program) (e : TypeId) (sz : Nat) : Bool := match P.info? e with | some i => Nat.beq i.size sz | none => false

/-- a constant -/
def constK (x : Value) (K : SV → Prop) : Prop :=
  match x with
  | .int k n => K (.int k n)
  | .bool b => K (.bool b)
  | .string ⟨⟨l⟩⟩ => bif Nat.ble l.length 9223372036854775807 then K (.str l) else K (.v x)
  | .slice none 0 0 => K .nils
  | x => K (.v x)
def constsK : List Value → (List SV → Prop) → Prop
  | [], K => K []
  | x :: r, K => constK x fun a => constsK r fun l => K (a :: l)
def constAK (x : Value) (K : SV → Prop) : Prop :=
  match x with
  | .agg ⟨l⟩ => constsK l fun l => K (.agg l)
  | x => constK x K

abbrev Ctx := List (Nat × Bool)
def ctxMem (s : Nat) (w : Bool) : Ctx → Bool
  | [] => false
  | (s', w') :: r => bif Nat.beq s s' then (bif w then w' else !w') else ctxMem s w r

def opK (σ : Env) (ctx : Ctx) (x : Operand) (K : SV → Prop) : Prop :=
  match x with
  | .tmp t =>
    match σ.get t with
    | some (none, sv) => K sv
    | some (some (s, w), sv) => bif ctxMem s w ctx then K sv else K .und
    | none => K .und
  | .const v => constAK v K
  | .func f => K (.fn f [])
  | .global g => K (.v (.pointer (some ⟨g, 0, none⟩)))
def opsK (σ : Env) (ctx : Ctx) : List Operand → (List SV → Prop) → Prop
  | [], K => K []
  | x :: r, K => opK σ ctx x fun a => opsK σ ctx r fun l => K (a :: l)

/-- under which conditions a guarded operation is carried out -/
def ctxK (σ : Env) : Nat → Nat → Bool → (Ctx → (Prop → Prop) → Prop) → Prop
  | 0, _, _, _ => False
  | f + 1, s, w, K =>
    match σ.get s with
    | some (none, .bool b) => K [(s, w)] (fun p => b = w → p)
    | some (some (s', w'), .bool b) => ctxK σ f s' w' fun c g => K ((s, w) :: c) (fun p => g (b = w → p))
    | _ => False

def wrapK (k : IntKind) (n : Int) (g : Prop → Prop) (K : SV → Prop) : Prop :=
  match k with
  | .i64 => g (Ob (InI64 n)) ∧ K (.int .i64 n)
  | k => K (.int k (k.wrap n))
def bitsI (op : BinOp) (k : IntKind) (x y : Int) : Int :=
  let a := BitVec.ofInt k.bits x
  let b := BitVec.ofInt k.bits y
  match op with
  | .and => k.wrap (a &&& b).toNat
  | .or => k.wrap (a ||| b).toNat
  | .xor => k.wrap (a ^^^ b).toNat
  | _ => k.wrap (a &&& ~~~b).toNat
def evInt2 (op : BinOp) (k : IntKind) (a b : Int) (g : Prop → Prop) (K : SV → Prop) : Prop :=
  match op with
  | .add => wrapK k (a + b) g K
  | .sub => wrapK k (a - b) g K
  | .mul => wrapK k (a * b) g K
  | .quo => g (Ob (b ≠ 0)) ∧ wrapK k (a.tdiv b) g K
  | .rem => g (Ob (b ≠ 0)) ∧ K (.int k (a.tmod b))
  | .and => K (.int k (bitsI .and k a b))
  | .or => K (.int k (bitsI .or k a b))
  | .xor => K (.int k (bitsI .xor k a b))
  | .andNot => K (.int k (bitsI .andNot k a b))
  | .eql => K (.bool (a == b))
  | .neq => K (.bool (a != b))
  | .lss => K (.bool (decide (a < b)))
  | .leq => K (.bool (decide (a ≤ b)))
  | .gtr => K (.bool (decide (a > b)))
  | .geq => K (.bool (decide (a ≥ b)))
  | _ => False
def evInt (op : BinOp) (k : IntKind) (a : Int) (k' : IntKind) (b : Int) (g : Prop → Prop) (K : SV → Prop) : Prop :=
  match op with
  | .shl => g (Ob (0 ≤ b)) ∧ K (.int k (k.wrap (a * 2 ^ (min b.toNat k.bits))))
  | .shr => g (Ob (0 ≤ b)) ∧ K (.int k (a.fdiv (2 ^ (min b.toNat k.bits))))
  | op => bif kEq k k' then evInt2 op k a b g K else False
def evStr (op : BinOp) (a b : List UInt8) (g : Prop → Prop) (K : SV → Prop) : Prop :=
  match op with
  | .add => g (Ob (a.length + b.length ≤ 9223372036854775807)) ∧ K (.str (a ++ b))
  | .eql => K (.bool (a == b))
  | .neq => K (.bool (!(a == b)))
  | .lss => K (.bool (Op.bytesLess a b))
  | .leq => K (.bool (Op.bytesLess a b || a == b))
  | .gtr => K (.bool (!(Op.bytesLess a b || a == b)))
  | .geq => K (.bool (!(Op.bytesLess a b)))
  | _ => False
def evBin (P : Program) (op : BinOp) (t : TypeId) (x y : SV) (g : Prop → Prop) (K : SV → Prop) : Prop :=
  match x, y with
  | .int k a, .int k' b => evInt op k a k' b g K
  | .str a, .str b => evStr op a b g K
  | .bool a, .bool b =>
    match P.underlying t, op with
    | some .bool, .eql => K (.bool (a == b))
    | some .bool, .neq => K (.bool (!(a == b)))
    | _, _ => False
  | _, _ => False
def evUn (op : UnOp) (x : SV) (g : Prop → Prop) (K : SV → Prop) : Prop :=
  match op, x with
  | .not, .bool b => K (.bool (!b))
  | .neg, .int k n => wrapK k (0 - n) g K
  | .xor, .int k n => K (.int k (bitsI .xor k (if k.signed then -1 else k.max) n))
  | _, _ => False
def evConv (P : Program) (src dst : TypeId) (x : SV) (g : Prop → Prop) (K : SV → Prop) : Prop :=
  match P.underlying src, P.underlying dst, x with
  | some _, some (.int k'), .int k n => bif kWide k k' then g (Ob (kIn k' n)) ∧ K (.int k' n) else K (.int k' (k'.wrap n))
  | some _, some .string, .int _ n => K (.str (Utf8.encode n).data.toList)
  | some _, some .string, .str l => K (.str l)
  | _, _, _ => False
def evIndex (P : Program) (t : TypeId) (x i : SV) (g : Prop → Prop) (K : SV → Prop) : Prop :=
  match P.underlying t, x, i with
  | some .string, .str l, .int _ i => g (Ob (0 ≤ i ∧ i < l.length)) ∧ K (.int .u8 (l.getD i.toNat 0).toNat)
  | _, _, _ => False
def loK (σ : Env) (ctx : Ctx) (x : Option Operand) (K : Option Int → Prop) : Prop :=
  match x with
  | none => K none
  | some o => opK σ ctx o fun
    | .int _ i => K (some i)
    | _ => False
def evSlice (P : Program) (t : TypeId) (x : SV) (lo hi : Option Int) (g : Prop → Prop) (K : SV → Prop) : Prop :=
  match P.underlying t, x with
  | some .string, .str l =>
    match lo, hi with
    | none, none => K (.str l)
    | some a, none => g (Ob (0 ≤ a ∧ a ≤ l.length)) ∧ K (.str (l.drop a.toNat))
    | none, some b => g (Ob (0 ≤ b ∧ b ≤ l.length)) ∧ K (.str (l.take b.toNat))
    | some a, some b => g (Ob (0 ≤ a ∧ a ≤ b ∧ b ≤ l.length)) ∧ K (.str ((l.take b.toNat).drop a.toNat))
  | some (.slice e), .rd sz d enc l =>
    bif szOk P e sz then
    match lo, hi with
    | none, none => K (.rd sz d enc l)
    | some a, none => g (Ob (0 ≤ a ∧ a ≤ l.length)) ∧ K (.rd sz d enc (l.drop a.toNat))
    | none, some b => g (Ob (0 ≤ b ∧ b ≤ l.length)) ∧ K (.rd sz d enc (l.take b.toNat))
    | some a, some b => g (Ob (0 ≤ a ∧ a ≤ b ∧ b ≤ l.length)) ∧ K (.rd sz d enc ((l.take b.toNat).drop a.toNat))
    else False
  | _, _ => False
def lenK (ung : Bool) (n : Nat) (K : SV → Prop) : Prop :=
  bif ung then (n ≤ 9223372036854775807 → K (.int .i64 n)) else K (.int .i64 n)
def evLen (P : Program) (Φ : Phi) (t : TypeId) (x : SV) (ung : Bool) (K : SV → Prop) : Prop :=
  match P.underlying t, x with
  | some .string, .str l => lenK ung l.length K
  | some (.slice _), .rd _ _ _ l => lenK ung l.length K
  | some (.slice _), .lits _ rows => lenK ung rows.length K
  | some (.slice _), .nils => K (.int .i64 0)
  | some (.slice _), .own id =>
    match Φ.get id with
    | some (.own _ _ _ l) => lenK ung l.length K
    | some (.ownl _ rows) => lenK ung rows.length K
    | _ => False
  | _, _ => False
def minmaxK (mx : Bool) : SV → List SV → (SV → Prop) → Prop
  | x, [], K => K x
  | .int k a, .int _ b :: r, K => minmaxK mx (.int k (bif mx then max a b else min a b)) r K
  | _, _, _ => False
def evBuiltin (P : Program) (Φ : Phi) (b : Builtin) (ts : List TypeId) (xs : List SV) (ung : Bool) (K : SV → Prop) : Prop :=
  match b, ts, xs with
  | .len, t :: _, [x] => evLen P Φ t x ung K
  | .min, _, x :: r => minmaxK false x r K
  | .max, _, x :: r => minmaxK true x r K
  | _, _, _ => False
/-- the cells [off, off + n) -/
def subK : List SV → Nat → Nat → (List SV → Prop) → Prop
  | _, 0, 0, K => K []
  | x :: r, 0, n + 1, K => subK r 0 n fun l => K (x :: l)
  | _ :: r, o + 1, n, K => subK r o n K
  | [], _, _, _ => False
def isAggD : TypeDesc → Bool
  | .struct _ | .array _ _ => true
  | _ => false
def partK (P : Program) (t : TypeId) (cs : List SV) (off : Nat) (K : SV → Prop) : Prop :=
  match P.underlying t with
  | none => False
  | some d =>
    bif isAggD d then subK cs off (sizeT P t) fun l => K (.agg l)
    else match nth cs off with
      | some sv => K sv
      | none => False
/-- no part of it lies in memory of the call's own -/
def pureK (sv : SV) (K : SV → Prop) : Prop := bif sv.okIds (fun _ => false) then K sv else False
def evField (P : Program) (t : TypeId) (x : SV) (f : Nat) (K : SV → Prop) : Prop :=
  match P.underlying t, x with
  | some (.struct ⟨fs⟩), .agg cs => (match nth fs f with | some fd => partK P fd.type cs fd.offset K | none => False)
  | _, _ => False
def evLoad (P : Program) (Φ : Phi) (t : TypeId) (x : SV) (g : Prop → Prop) (K : SV → Prop) : Prop :=
  match x with
  | .loc id off => (match Φ.get id with | some (.box cs) => partK P t cs off K | _ => False)
  | .el _ d enc l i off => partK P t (enc (l.getD i d)) off fun sv => pureK sv K
  | .oel id sz0 i off => (match Φ.get id with | some (.own sz d enc l) => (bif Nat.beq sz0 sz then g (Ob (i < l.length)) ∧ (partK P t (enc (l.getD i d)) off fun sv => pureK sv K) else False) | _ => False)
  | _ => False
def evFieldAddr (P : Program) (t : TypeId) (x : SV) (f : Nat) (K : SV → Prop) : Prop :=
  match P.underlying t with
  | some (.struct ⟨fs⟩) =>
    match nth fs f with
    | some fd =>
      bif Nat.beq (sizeT P fd.type) 0 then False else
      match x with
      | .loc id off => K (.loc id (Nat.add off fd.offset))
      | .el sz d enc l i off => K (.el sz d enc l i (Nat.add off fd.offset))
      | .oel id sz i off => K (.oel id sz i (Nat.add off fd.offset))
      | _ => False
    | none => False
  | _ => False
def evIndexAddr (P : Program) (Φ : Phi) (t : TypeId) (x i : SV) (g : Prop → Prop) (K : SV → Prop) : Prop :=
  match P.underlying t, x, i with
  | some (.slice e), .rd sz d enc l, .int _ i => bif szOk P e sz then g (Ob (0 ≤ i ∧ i < l.length)) ∧ K (.el sz d enc l i.toNat 0) else False
  | some (.slice e), .own id, .int _ i =>
    (match Φ.get id with
     | some (.own sz _ _ l) => bif szOk P e sz then g (Ob (0 ≤ i ∧ i < l.length)) ∧ K (.oel id sz i.toNat 0) else False
     | _ => False)
  | _, _, _ => False
/-- the operand behind a pick, as it is where the pick takes it -/
def pickK (σ : Env) (ctx : Ctx) (s : Nat) (w : Bool) (x : Operand) (K : SV → Prop) : Prop := opK σ ((s, w) :: ctx) x K
def evPick (σ : Env) (ctx : Ctx) (c a b : Operand) (K : SV → Prop) : Prop :=
  match c with
  | .tmp s => opK σ ctx c fun
    | .bool t => pickK σ ctx s true a fun x => pickK σ ctx s false b fun y =>
      match a, b, x, y with
      | .const (.bool true), _, _, .bool y => K (.bool (t || y))
      | _, .const (.bool false), .bool x, _ => K (.bool (t && x))
      | _, _, .bool x, .bool y => K (.bool (bif t then x else y))
      | _, _, _, _ => False
    | _ => False
  | _ => False
def allOne : List SV → Bool
  | [] => true
  | x :: r => x.one && allOne r
/-- the cells of a symbolic value -/
def cellsK (x : SV) (K : List SV → Prop) : Prop :=
  match x with
  | .agg l => bif allOne l then K l else False
  | x => bif x.one then K [x] else False
def len : List SV → Nat
  | [] => 0
  | _ :: r => Nat.succ (len r)
def fillAt : List SV → Nat → List SV → (List SV → Prop) → Prop
  | cs, _, [], K => K cs
  | _ :: r, 0, x :: xs, K => fillAt r 0 xs fun l => K (x :: l)
  | c :: r, o + 1, xs, K => fillAt r o xs fun l => K (c :: l)
  | [], _, _ :: _, _ => False
def fillK (σ : Env) (ctx : Ctx) (place : Nat → Option (Nat × Nat)) : List (Nat × Operand) → List SV → (List SV → Prop) → Prop
  | [], cs, K => K cs
  | (i, x) :: r, cs, K =>
    match place i with
    | some (off, sz) => opK σ ctx x fun sv => cellsK sv fun xs => bif Nat.beq sz 0 then False else bif Nat.beq (len xs) sz then fillAt cs off xs fun cs => fillK σ ctx place r cs K else False
    | none => False
def zeroK (P : Program) (t : TypeId) (K : List SV → Prop) : Prop :=
  match P.info? t with
  | some i => (match i.zero with | some z => constAK z fun sv => cellsK sv K | none => False)
  | none => False
def placeOf (P : Program) (fs : List Field) (i : Nat) : Option (Nat × Nat) := match nth fs i with | some f => some (f.offset, sizeT P f.type) | none => none
def hasInfo (P : Program) (e : TypeId) : Bool := match P.info? e with | some _ => true | none => false
def allInfo (P : Program) : List Field → Bool
  | [] => true
  | f :: r => hasInfo P f.type && allInfo P r
def evBuild (P : Program) (σ : Env) (ctx : Ctx) (t : TypeId) (parts : List (Nat × Operand)) (K : SV → Prop) : Prop :=
  match P.underlying t with
  | some (.struct ⟨fs⟩) => bif allInfo P fs then zeroK P t fun z => fillK σ ctx (placeOf P fs) parts z (fun cs => K (.agg cs)) else False
  | some (.array _ e) => bif hasInfo P e then zeroK P t fun z => fillK σ ctx (fun i => some (i * sizeT P e, sizeT P e)) parts z (fun cs => K (.agg cs)) else False
  | _ => False

end Go.Vc
