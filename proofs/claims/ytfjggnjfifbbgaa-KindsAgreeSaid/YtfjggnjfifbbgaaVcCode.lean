/- A part of the proof: lemmas and walks that the last text of the claim joins; no condition. -/
import Derived.Test.YtfjggnjfifbbgaaVcEff
namespace Go.Vc
set_option autoImplicit false

/-- What the whole memory may lean on (package variables), kept as it grows. -/
structure Base where
  P : Program
  mixed : P.follows .mixedOrders = true
  G : Mem → Prop
  mono : ∀ r r' : Mem, r.le r' → G r → G r'

/-- What was out of reach ahead of a call is so behind it, and is as it was. -/
structure Hid (r : Mem) (β : Bind) (Φ : Phi) (w : World) (r' : Mem) (β' : Bind) (Φ' : Phi) (w' : World) : Prop where
  os : w'.os = w.os
  tape : w'.tape = w.tape
  output : w'.output = w.output
  size : w.heap.size ≤ w'.heap.size
  block : ∀ b, b < w.heap.size → r b = none → (∀ id ch, Φ.get id = some ch → ch.blk (β id) ≠ some b) →
    w'.heap[b]? = w.heap[b]? ∧ r' b = none ∧ (∀ id ch, Φ'.get id = some ch → ch.blk (β' id) ≠ some b)

def RelL (r : Mem) (β : Bind) (svs : List SV) (vs : List Value) : Prop :=
  vs.length = svs.length ∧ ∀ (i : Nat) (sv : SV) (v : Value), svs[i]? = some sv → vs[i]? = some v → Rel r β sv v

/-- A contract: handed these (and these chunks), the function returns something of which Post holds. -/
def Ct (B : Base) (f : FuncId) (args : List SV) (Φ : Phi) (Post : SV → Phi → Prop) : Prop :=
  ∀ r β w vs, B.G r → MemSat r β Φ w → RelL r β args vs →
    Calls B.P f vs.toArray w fun e w' => ∃ v sv r' β' Φ', e = .returned v ∧ Post sv Φ' ∧ Rel r' β' sv v ∧ MemSat r' β' Φ' w' ∧ r.le r' ∧ Hid r β Φ w r' β' Φ' w'

/-- A function of plain data: its result is a function of its arguments. -/
class Fn (B : Base) (f : FuncId) (args : List SV) (pre : outParam Prop) (res : outParam SV) : Prop where
  call : ∀ (vs : Array Value) (w : World), (callFunc f vs).run B.P w = .ok (.enter f vs) w
  ok : pre → Ct B f args [] fun sv Φ => sv = res ∧ Φ = []

/-- a result that lies in no memory -/
def SV.plain : SV → Bool
  | .int _ _ | .bool _ | .str _ => true
  | _ => false

/-- A call whose result is plain: what the call owns may be read by the callee. -/
inductive CallQ (B : Base) (f : FuncId) (args : List SV) (g : Prop → Prop) (K : SV → Prop) : Prop
  | mk {pre : Prop} {res : SV} [fn : Fn B f args pre res] (pl : res.plain = true) (hp : g (Ob pre)) (k : K res)
/-- A call in a region whose order is fixed: 'args': as they are; 'largs': what is owned, lent. -/
inductive CallG (B : Base) (f : FuncId) (args largs : List SV) (g : Prop → Prop) (K : SV → Prop) : Prop
  | plain {pre : Prop} {res : SV} [fn : Fn B f largs pre res] (pl : res.plain = true) (hp : g (Ob pre)) (k : K res)
  | mk {pre : Prop} {res : SV} [fn : Fn B f args pre res] (pl : res.okIds (fun _ => false) = true) (hp : g (Ob pre)) (k : K res)

def lendK (Φ : Phi) : List SV → (List SV → Prop) → Prop
  | [], K => K []
  | .own id :: r, K =>
    (match Φ.get id with
     | some (.own sz d enc l) => lendK Φ r fun xs => K (.rd sz d enc l :: xs)
     | some (.ownl sz rows) => lendK Φ r fun xs => K (.lits sz rows :: xs)
     | _ => False)
  | x :: r, K => lendK Φ r fun xs => K (x :: xs)

def callK (B : Base) (q : Bool) (Φ : Phi) (f : FuncId) (args : List SV) (g : Prop → Prop) (K : SV → Prop) : Prop :=
  bif q then lendK Φ args fun args => CallQ B f args g K else lendK Φ args fun largs => CallG B f args largs g K

def appK : List SV → List SV → (List SV → Prop) → Prop
  | [], l, K => K l
  | x :: r, l, K => appK r l fun xs => K (x :: xs)

/-- An operation that makes no memory of the call's own. -/
def evK (B : Base) (q : Bool) (Φ : Phi) (σ : Env) (ctx : Ctx) (g : Prop → Prop) (ung : Bool) (o : Op) (K : SV → Prop) : Prop :=
  match o with
  | .move x | .assign x => opK σ ctx x K
  | .pick c a b => evPick σ ctx c a b K
  | .binOp op t x y _ => opK σ ctx x fun x => opK σ ctx y fun y => evBin B.P op t x y g K
  | .unOp op _ x => opK σ ctx x fun x => evUn op x g K
  | .convert s d x => opK σ ctx x fun x => evConv B.P s d x g K
  | .index t x i => opK σ ctx x fun x => opK σ ctx i fun i => evIndex B.P t x i g K
  | .slice t x lo hi none => opK σ ctx x fun x => loK σ ctx lo fun lo => loK σ ctx hi fun hi => evSlice B.P t x lo hi g K
  | .field t x f => opK σ ctx x fun x => evField B.P t x f K
  | .load t x => opK σ ctx x fun x => evLoad B.P Φ t x g K
  | .fieldAddr t x f => opK σ ctx x fun x => evFieldAddr B.P t x f K
  | .indexAddr t x i => opK σ ctx x fun x => opK σ ctx i fun i => evIndexAddr B.P Φ t x i g K
  | .extract x i => opK σ ctx x fun
    | .tup l => (match nth l i with | some sv => K sv | none => False)
    | _ => False
  | .build t ⟨parts⟩ => evBuild B.P σ ctx t parts K
  | .makeFunc (.func f) ⟨[]⟩ ⟨caps⟩ => opsK σ ctx caps fun l => K (.fn f l)
  | .call ⟨.builtin b, ⟨xs⟩, ⟨ts⟩⟩ => opsK σ ctx xs fun xs => evBuiltin B.P Φ b ts xs ung K
  | .call ⟨.value f, ⟨xs⟩, _⟩ => opK σ ctx f fun
    | .fn f caps => opsK σ ctx xs fun xs => appK xs caps fun xs => callK B q Φ f xs g K
    | _ => False
  | _ => False

def dstOf (all : List Oper) (j : Nat) : Option Nat := match nth all j with | some o => o.dst | none => none

/-- An operation, unguarded, in a region that does not draw. -/
def vcOp (B : Base) (op : Op) (σ : Env) (Φ : Phi) (n : Nat) (K : EK) : Prop :=
  match op with
  | .alloc t => zeroK B.P t fun z => newK n z σ Φ K
  | .box _ x => opK σ [] x fun sv => cellsK sv fun cs => newK n cs σ Φ K
  | .store t p x => opK σ [] p fun p => opK σ [] x fun x => storeK B.P t p x σ Φ n K
  | .buildSlice t ln ⟨parts⟩ => buildSliceK B.P σ t ln parts Φ n K
  | .makeSlice t l c => opK σ [] l fun l => opK σ [] c fun c => makeSliceK B.P t l c σ Φ n K
  | .range t x => opK σ [] x fun x => rangeK B.P t x σ Φ n K
  | .next x s => opK σ [] x fun x => nextK x s σ Φ n K
  | .call ⟨.builtin .append, ⟨[s, x]⟩, ⟨[ts, tx]⟩⟩ => opK σ [] s fun s => opK σ [] x fun x => appendK B.P ts tx s x σ Φ n K
  | op => evK B false Φ σ [] (fun p => p) true op fun sv => K sv σ Φ n

def putE (d : Option Nat) (gd : Option (Nat × Bool)) (sv : SV) (σ : Env) : Env := match d with | some d => (d, gd, sv) :: σ | none => σ

def vcOps (B : Base) (q : Bool) (all : List Oper) : List Oper → Env → Phi → Nat → (Env → Phi → Nat → Prop) → Prop
  | [], σ, Φ, n, K => K σ Φ n
  | ⟨dst, op, _, _, _, guard⟩ :: rest, σ, Φ, n, K =>
    match guard with
    | none =>
      bif q then evK B true Φ σ [] (fun p => p) true op fun sv => vcOps B q all rest (putE dst none sv σ) Φ n K
      else vcOp B op σ Φ n fun sv σ Φ n => vcOps B q all rest (putE dst none sv σ) Φ n K
    | some (j, w) =>
      match dstOf all j with
      | some s => ctxK σ 40 s w fun ctx g => evK B q Φ σ ctx g false op fun sv => vcOps B q all rest (putE dst (some (s, w)) sv σ) Φ n K
      | none => False

/-- what is read later on -/
def purgeK : List Nat → Env → (Env → Prop) → Prop
  | [], _, K => K []
  | k :: L, σ, K =>
    match σ.get k with
    | some (none, sv) => purgeK L σ fun r => K ((k, none, sv) :: r)
    | _ => purgeK L σ K

inductive Ex where
  | normal
  | exit (id : Nat)
  | ret

abbrev KT := Ex → Env → Phi → Nat → Prop

def hasId (Φ : Phi) (i : Nat) : Bool := match Φ.get i with | some _ => true | none => false
/-- the symbolic value says all that the second one says -/
def svEnt (Φ ΦI : Phi) (sv svI : SV) : Prop :=
  match sv, svI with
  | .int k n, .int k' n' => k = k' ∧ n = n'
  | .bool b, .bool b' => b = b'
  | .str l, .str l' => l = l'
  | .nils, .own j => bif hasId Φ j then False else bif hasId ΦI j then True else False
  | a, b => bif b.okIds (hasId Φ) then a = b else False
def svEntL (Φ ΦI : Phi) : List SV → List SV → Prop
  | [], [] => True
  | a :: r, b :: s => svEnt Φ ΦI a b ∧ svEntL Φ ΦI r s
  | _, _ => False
def entE (σ : Env) (Φ ΦI : Phi) : Env → Prop
  | [] => True
  | (k, _, svI) :: r =>
    match σ.get k with
    | some (none, sv) => svEnt Φ ΦI sv svI ∧ entE σ Φ ΦI r
    | _ => False
def entP (Φ ΦI : Phi) : Phi → Prop
  | [] => True
  | (id, chI) :: r =>
    match Φ.get id, chI with
    | some (.box cs), .box csI => svEntL Φ ΦI cs csI ∧ entP Φ ΦI r
    | some (.ownl sz rows), .own sz' _ enc l => (sz = sz' ∧ rows = l.map enc) ∧ entP Φ ΦI r
    | some ch, chI => ch = chI ∧ entP Φ ΦI r
    | none, .own _ _ _ l => l = [] ∧ entP Φ ΦI r
    | none, .ownl _ rows => rows = [] ∧ entP Φ ΦI r
    | _, _ => False
def updE : List (Nat × SV) → Env → Env
  | [], σ => σ
  | (k, sv) :: r, σ => (k, none, sv) :: updE r σ
/-- the chunks of F, and those of Φ that F does not name -/
def restK (F : Phi) : Phi → (Phi → Prop) → Prop
  | [], K => K []
  | (k, c) :: r, K => bif hasId F k then restK F r K else restK F r fun l => K ((k, c) :: l)
def mergeK : Phi → Phi → (Phi → Prop) → Prop
  | [], R, K => K R
  | e :: F, R, K => mergeK F R fun l => K (e :: l)
def headK (L : List Nat) (U : List (Nat × SV)) (F : Phi) (σ : Env) (Φ : Phi) (K : Env → Phi → Prop) : Prop :=
  purgeK L (updE U σ) fun σI => restK F Φ fun R => mergeK F R fun ΦI => K σI ΦI

/-- the end of a round -/
structure Rnd (p : Prop) : Prop where
  h : p

inductive LoopStop (L : List Nat) (body : KT → Env → Phi → Nat → Prop) (K : KT) (σ : Env) (Φ : Phi) (n : Nat) : Prop
  | mk {α : Type} (U : α → List (Nat × SV)) (F : α → Phi) (m : Nat) (C : α → Prop) (μ : α → Nat) (a0 : α) (h0 : C a0)
      (he : headK L (U a0) (F a0) σ Φ fun σI ΦI => entE σ Φ ΦI σI ∧ entP Φ ΦI ΦI)
      (hr : ∀ a, C a → headK L (U a) (F a) σ Φ fun σI ΦI => body (fun e σ' Φ' n' =>
        match e with
        | .normal => Rnd (∃ a', C a' ∧ μ a' < μ a ∧ headK L (U a') (F a') σ Φ fun σI ΦI => entE σ' Φ' ΦI σI ∧ entP Φ' ΦI ΦI)
        | e => K e σ' Φ' n') σI ΦI m)

def vc (B : Base) (L : List Nat) : Code → KT → Env → Phi → Nat → Prop
  | .skip, K, σ, Φ, n => K .normal σ Φ n
  | .region _ ⟨ops⟩ draw, K, σ, Φ, n => vcOps B draw ops ops σ Φ n fun σ Φ n => purgeK L σ fun σ => K .normal σ Φ n
  | .seq a b, K, σ, Φ, n => vc B L a (fun e => match e with | .normal => vc B L b K | e => K e) σ Φ n
  | .cond c x y, K, σ, Φ, n => opK σ [] c fun
    | .bool b => (b = true → vc B L x K σ Φ n) ∧ (b = false → vc B L y K σ Φ n)
    | _ => False
  | .block id c, K, σ, Φ, n => vc B L c (fun e => match e with | .exit i => (bif Nat.beq i id then K .normal else K (.exit i)) | e => K e) σ Φ n
  | .loop c, K, σ, Φ, n => LoopStop L (fun K σ Φ n => vc B L c K σ Φ n) K σ Φ n
  | .exit id, K, σ, Φ, n => K (.exit id) σ Φ n
  | .ret, K, σ, Φ, n => K .ret σ Φ n
  | .scope c, K, σ, Φ, n => vc B L c K σ Φ n
  | _, _, _, _, _ => False

/-- what is checked of a function's code once, by the kernel -/
def allDst (N : Nat) : List Oper → Bool
  | [] => true
  | o :: r => (match o.dst with | some d => Nat.blt d N | none => true) && allDst N r
def notDst (d : Nat) : List Oper → Bool
  | [] => true
  | o :: r => (match o.dst with | some d' => !Nat.beq d' d | none => true) && notDst d r
def distinctDst : List Oper → Bool
  | [] => true
  | o :: r => (match o.dst with | some d => notDst d r | none => true) && distinctDst r
def guardsOk (i : Nat) : List Oper → Bool
  | [] => true
  | o :: r => (match o.guard with | some (j, _) => Nat.blt j i | none => true) && guardsOk (i + 1) r
def codeOk (N : Nat) : Code → Bool
  | .region _ ops draw => allDst N ops.toList && (distinctDst ops.toList && (guardsOk 0 ops.toList && (!draw || Region.lexB .any ops)))
  | .seq a b | .cond _ a b => codeOk N a && codeOk N b
  | .block _ c | .loop c | .scope c => codeOk N c
  | .skip | .exit _ | .ret => true
  | _ => false

/-- results -/
def ret1 (Φ : Phi) (sv res : SV) : Prop :=
  match sv, res with
  | .int k n, .int k' n' => k = k' ∧ n = n'
  | .bool b, .bool b' => b = b'
  | .str l, .str l' => l = l'
  | .own id, .rd sz' d' enc' l' =>
    (match Φ.get id with
     | some (.own sz d enc l) => SV.rd sz d enc l = SV.rd sz' d' enc' l'
     | some (.ownl sz rows) => sz = sz' ∧ rows = l'.map enc'
     | _ => False)
  | .nils, .rd _ _ _ l => l = []
  | .lits sz rows, .rd sz' _ enc l => sz = sz' ∧ rows = l.map enc
  | a, b => bif b.okIds (fun _ => false) then a = b else False
def ret1L (Φ : Phi) : List SV → List SV → Prop
  | [], [] => True
  | a :: r, b :: s => ret1 Φ a b ∧ ret1L Φ r s
  | _, _ => False
def ret2 (Φ : Phi) (sv res : SV) : Prop :=
  match sv, res with
  | .agg l, .agg l' => ret1L Φ l l'
  | a, b => ret1 Φ a b
def ret2L (Φ : Phi) : List SV → List SV → Prop
  | [], [] => True
  | a :: r, b :: s => ret2 Φ a b ∧ ret2L Φ r s
  | _, _ => False
def ret3 (Φ : Phi) (sv res : SV) : Prop :=
  match sv, res with
  | .tup l, .tup l' => ret2L Φ l l'
  | a, b => ret2 Φ a b
def resK (P : Program) (σ : Env) (Φ : Phi) : List ResultVar → (List SV → Prop) → Prop
  | [], K => K []
  | .tmp t :: r, K => opK σ [] (.tmp t) fun sv => resK P σ Φ r fun l => K (sv :: l)
  | .cell a t :: r, K => opK σ [] (.tmp a) fun
    | .loc id off => (match Φ.get id with | some (.box cs) => partK P t cs off fun sv => resK P σ Φ r fun l => K (sv :: l) | _ => False)
    | _ => False
def tupSV : List SV → SV
  | [x] => x
  | l => .tup l
/-- the end of a function of plain data -/
structure Fin (p : Prop) : Prop where
  h : p
def retKT (P : Program) (rs : List ResultVar) (res : SV) : KT := fun e σ Φ _ =>
  match e with
  | .exit _ => False
  | _ => resK P σ Φ rs fun l => Fin (ret3 Φ (tupSV l) res)
def argE : Nat → List SV → Env
  | _, [] => []
  | i, x :: r => (i, none, x) :: argE (i + 1) r

end Go.Vc
