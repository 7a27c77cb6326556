/- A part of the proof: lemmas and walks that the last text of the claim joins; no condition. -/
import Derived.Test.YtfjggnjfifbbgaaVcEval
namespace Go.Vc
set_option autoImplicit false

/-- the chunk id holds another thing -/
def setPK (id : Nat) (ch : Chunk) : Phi → (Phi → Prop) → Prop
  | [], K => K []
  | (k, c) :: r, K => bif Nat.beq k id then K ((k, ch) :: r) else setPK id ch r fun l => K ((k, c) :: l)

/-- what names the chunk id says nothing any more -/
def staleS (id : Nat) (sv : SV) (K : SV → Prop) : Prop := bif sv.okIds (fun i => !Nat.beq i id) then K sv else K .und
def staleL (id : Nat) : List SV → (List SV → Prop) → Prop
  | [], K => K []
  | x :: r, K => staleS id x fun y => staleL id r fun l => K (y :: l)
def staleE (id : Nat) : Env → (Env → Prop) → Prop
  | [], K => K []
  | (k, g, sv) :: r, K => staleS id sv fun y => staleE id r fun l => K ((k, g, y) :: l)
def staleC (id : Nat) (c : Chunk) (K : Chunk → Prop) : Prop :=
  match c with
  | .box cs => staleL id cs fun l => K (.box l)
  | c => K c
def staleP (id : Nat) : Phi → (Phi → Prop) → Prop
  | [], K => K []
  | (k, c) :: r, K => staleC id c fun c' => staleP id r fun l => K ((k, c') :: l)

/-- nothing in it names the chunk n -/
def freshE (n : Nat) : Env → Bool
  | [] => true
  | (_, _, sv) :: r => sv.okIds (fun i => !Nat.beq i n) && freshE n r
def freshC (n : Nat) : Chunk → Bool
  | .box cs => SV.okIdsL (fun i => !Nat.beq i n) cs
  | _ => true
def freshP (n : Nat) : Phi → Bool
  | [] => true
  | (k, c) :: r => !Nat.beq k n && (freshC n c && freshP n r)

abbrev EK := SV → Env → Phi → Nat → Prop

/-- a new box -/
def newK (n : Nat) (cs : List SV) (σ : Env) (Φ : Phi) (K : EK) : Prop :=
  bif freshE n σ && (freshP n Φ && SV.okIdsL (fun i => !Nat.beq i n) cs) then K (.loc n 0) σ ((n, .box cs) :: Φ) (Nat.succ n) else False
/-- a new chunk that is no box -/
def newChK (n : Nat) (ch : Chunk) (sv : SV) (σ : Env) (Φ : Phi) (K : EK) : Prop :=
  bif freshE n σ && freshP n Φ then K sv σ ((n, ch) :: Φ) (Nat.succ n) else False

def storeK (P : Program) (t : TypeId) (p x : SV) (σ : Env) (Φ : Phi) (n : Nat) (K : EK) : Prop :=
  cellsK x fun xs =>
  bif Nat.beq (sizeT P t) 0 then False else
  bif Nat.beq (len xs) (sizeT P t) then
    match p with
    | .loc id off => (match Φ.get id with | some (.box cs) => fillAt cs off xs fun cs => setPK id (.box cs) Φ fun Φ => K .und σ Φ n | _ => False)
    | .oel id sz0 i off =>
      (match Φ.get id with
       | some (.own sz d enc l) =>
         bif Nat.beq sz0 sz && SV.okIdsL (fun _ => false) xs then
           Ob (i < l.length) ∧ fillAt (enc (l.getD i d)) off xs fun row => ∃ a, enc a = row ∧ setPK id (.own sz d enc (l.set i a)) Φ fun Φ => K .und σ Φ n
         else False
       | _ => False)
    | _ => False
  else False

def chunksK (sz : Nat) : Nat → List SV → (List (List SV) → Prop) → Prop
  | 0, _, K => K []
  | n + 1, l, K => subK l 0 sz fun row => chunksK sz n (l.drop sz) fun rows => K (row :: rows)
def repK (z : List SV) : Nat → (List SV → Prop) → Prop
  | 0, K => K []
  | n + 1, K => repK z n fun l => fillAt (z ++ l) 0 z fun l => K l

def byteRow (b : UInt8) : List SV := [.int .u8 b.toNat]

/-- the rows that an append takes from its second operand -/
def rowsK (P : Program) (Φ : Phi) (e : TypeId) (x : SV) (K : Nat → List (List SV) → Prop) : Prop :=
  match x with
  | .lits sz rows => bif szOk P e sz then K rows.length rows else False
  | .rd sz _ enc l => bif szOk P e sz then K l.length (l.map enc) else False
  | .nils => K 0 []
  | .str l => bif szOk P e 1 then K l.length (l.map byteRow) else False
  | .own id =>
    (match Φ.get id with
     | some (.own sz _ enc l) => bif szOk P e sz then K l.length (l.map enc) else False
     | some (.ownl sz rows) => bif szOk P e sz then K rows.length rows else False
     | _ => False)
  | _ => False
def bytesT (P : Program) (e : TypeId) : Nat := match P.info? e with | some i => i.bytes | none => 0
def appendK (P : Program) (ts tx : TypeId) (s x : SV) (σ : Env) (Φ : Phi) (n : Nat) (K : EK) : Prop :=
  match P.underlying ts, P.underlying tx with
  | some (.slice e), some tx =>
    bif !isSrcD tx || Nat.beq (sizeT P e) 0 then False else
    zeroK P e fun z => bif Nat.beq (len z) (sizeT P e) then
    match s with
    | .nils =>
      (match x with
       | .rd sz d enc l => bif szOk P e sz then Ob (l.length * bytesT P e ≤ 70368744177664 ∧ l.length ≤ 70368744177664) ∧ newChK n (.own sz d enc l) (.own n) σ Φ K else False
       | x => rowsK P Φ e x fun m rows => Ob (m * bytesT P e ≤ 70368744177664 ∧ m ≤ 70368744177664) ∧ newChK n (.ownl (sizeT P e) rows) (.own n) σ Φ K)
    | .own id =>
      rowsK P Φ e x fun m rows =>
      (match Φ.get id with
       | some (.own sz d enc l) =>
         bif szOk P e sz then
           Ob ((l.length + m) * bytesT P e ≤ 70368744177664 ∧ l.length + m ≤ 70368744177664) ∧
           ∃ as, as.map enc = rows ∧ staleE id σ fun σ => staleP id Φ fun Φ => setPK id (.own sz d enc (l ++ as)) Φ fun Φ => K (.own id) σ Φ n
         else False
       | some (.ownl sz l) =>
         bif szOk P e sz then
           Ob ((l.length + m) * bytesT P e ≤ 70368744177664 ∧ l.length + m ≤ 70368744177664) ∧
           staleE id σ fun σ => staleP id Φ fun Φ => setPK id (.ownl sz (l ++ rows)) Φ fun Φ => K (.own id) σ Φ n
         else False
       | _ => False)
    | _ => False
    else False
  | _, _ => False
where isSrcD : TypeDesc → Bool
  | .slice _ | .string => true
  | _ => false

def makeSliceK (P : Program) (t : TypeId) (ln cp : SV) (σ : Env) (Φ : Phi) (n : Nat) (K : EK) : Prop :=
  match P.underlying t, ln, cp with
  | some (.slice e), .int _ a, .int _ c =>
    bif Nat.beq (sizeT P e) 0 then False else
    zeroK P e fun z => bif Nat.beq (len z) (sizeT P e) then
      Ob (0 ≤ a ∧ a ≤ c ∧ c * bytesT P e ≤ 140737488355328 ∧ c ≤ 140737488355328) ∧
      ∃ (α : Type) (d : α) (enc : α → List SV), enc d = z ∧ newChK n (.own (sizeT P e) d enc (List.replicate a.toNat d)) (.own n) σ Φ K
    else False
  | _, _, _ => False

def buildSliceK (P : Program) (σ : Env) (t : TypeId) (ln : Nat) (parts : List (Nat × Operand)) (Φ : Phi) (n : Nat) (K : EK) : Prop :=
  match P.underlying t with
  | some (.slice e) =>
    bif Nat.beq (sizeT P e) 0 || !Nat.ble (ln * sizeT P e) 16777216 then False else
    zeroK P e fun z => bif Nat.beq (len z) (sizeT P e) then
      repK z ln fun flat => fillK σ [] (fun i => some (i * sizeT P e, sizeT P e)) parts flat fun flat =>
      bif SV.okIdsL (fun _ => false) flat && allOne flat then chunksK (sizeT P e) ln flat fun rows => K (.lits (sizeT P e) rows) σ Φ n else False
    else False
  | _ => False

def decL (s : List UInt8) (pos : Nat) : Nat × Nat := Utf8.decode ⟨s.toArray⟩ pos
def rangeK (P : Program) (t : TypeId) (x : SV) (σ : Env) (Φ : Phi) (n : Nat) (K : EK) : Prop :=
  match P.underlying t, x with
  | some .string, .str l => newChK n (.iter l 0) (.loc n 0) σ Φ K
  | _, _ => False
def nextK (x : SV) (isString : Bool) (σ : Env) (Φ : Phi) (n : Nat) (K : EK) : Prop :=
  match x, isString with
  | .loc id 0, true =>
    (match Φ.get id with
     | some (.iter s pos) =>
       (pos < s.length → setPK id (.iter s (pos + (decL s pos).2)) Φ fun Φ => K (.tup [.bool true, .int .i64 pos, .int .i32 (decL s pos).1]) σ Φ n) ∧
       (¬ pos < s.length → K (.tup [.bool false]) σ Φ n)
     | _ => False)
  | _, _ => False

end Go.Vc
