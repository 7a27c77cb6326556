/- A part of the proof: lemmas and walks that the last text of the claim joins; no condition. -/
import Derived.Test.YtaieeeolaocoaaaShapeSubsVE
import Derived.Shelf.Spec.SlicesInsert
import Derived.Shelf.Spec.SlicesInsertGrow
import Derived.Shelf.Slices.Delete
import Derived.Shelf.Slices.Cells
import Derived.Shelf.Slices.Empties
set_option linter.unusedVariables false
set_option linter.unusedSimpArgs false
set_option maxHeartbeats 8000000
namespace Go.Vc
open Go.Proofs Go.Shelf
set_option autoImplicit false
theorem zl5 {w : World} {b o : Nat} {v : Value} {c T fr} (h : w.heap[b]? = some (.cells c T fr)) : (w.setCell ⟨b,o,none⟩ v).heap[b]? = some (.cells (c.setIfInBounds o v) T fr) := by
 unfold World.setCell
 simp [Array.getElem?_modify,h]
theorem zk9 {w : World} {b o : Nat} {v : Value} {b' : Nat} (h : b' ≠ b) : (w.setCell ⟨b,o,none⟩ v).heap[b']? = w.heap[b']? := by
 unfold World.setCell
 simp [Array.getElem?_modify,Ne.symm h]
theorem zY7 {b : Nat} : ∀ (vs : List Value) (o : Nat) (w : World) (c : Array Value) (T : TypeId) (fr : Nat × Nat),w.heap[b]? = some (.cells c T fr) →
  ∃ c',(w.setCells b o vs).heap[b]? = some (.cells c' T fr) ∧ c'.size = c.size ∧ (∀ k,¬ (o ≤ k ∧ k < o + vs.length) → c'[k]? = c[k]?) ∧ (∀ k,k < vs.length → o + k < c.size → c'[o + k]? = vs[k]?) := by
 intro vs
 induction vs with
 | nil => intro o w c T fr h;exact ⟨c,h,rfl,fun _ _ => rfl,fun k hk => by simp at hk⟩
 | cons v vs ih =>
  intro o w c T fr h
  obtain ⟨c',h1,h2,h3,h4⟩ := ih (o + 1) _ _ T fr (zl5 (o := o) (v := v) h)
  refine ⟨c',h1,by rw [h2];simp,fun k hk => ?_,fun k hk hb => ?_⟩
  ·simp only [List.length_cons] at hk
   rw [h3 k (by omega),Array.getElem?_setIfInBounds_ne (by omega)]
  ·cases k with
   | zero =>
    rw [h3 (o + 0) (by omega)]
    simp only [Nat.add_zero] at hb ⊢
    rw [Array.getElem?_setIfInBounds_self_of_lt hb];rfl
   | succ k =>
    have := h4 k (by simpa using hk) (by simp;omega)
    rw [show o + (k + 1) = o + 1 + k by omega,this];rfl
theorem zYT {b b' : Nat} (hb : b' ≠ b) : ∀ (vs : List Value) (o : Nat) (w : World),(w.setCells b o vs).heap[b']? = w.heap[b']? := by
 intro vs
 induction vs with
 | nil => intro o w;rfl
 | cons v vs ih => intro o w;show ((w.setCell _ _).setCells b (o + 1) vs).heap[b']? = _;rw [ih,zk9 hb]
theorem setCells_size {b : Nat} : ∀ (vs : List Value) (o : Nat) (w : World),(w.setCells b o vs).heap.size = w.heap.size := by
 intro vs
 induction vs with
 | nil => intro o w;rfl
 | cons v vs ih => intro o w;show ((w.setCell _ _).setCells b (o + 1) vs).heap.size = _;rw [ih];simp [World.setCell]
theorem zZ1 {b : Nat} : ∀ (vs : List Value) (o : Nat) (w : World),(w.setCells b o vs).os = w.os ∧ (w.setCells b o vs).tape = w.tape ∧ (w.setCells b o vs).output = w.output := by
 intro vs
 induction vs with
 | nil => intro o w;exact ⟨rfl,rfl,rfl⟩
 | cons v vs ih => intro o w;exact ih (o + 1) (w.setCell _ v)
abbrev zaG : Ty := .int .i64
def zX9 (l : List Int) : List Value := l.map (Value.int .i64)
theorem zeE {l : List Int} {j : Nat} {x : Int} (h : l[j]? = some x) : (zX9 l)[j]? = some (.int .i64 x) := by simp [zX9,h]
theorem zbM {l : List Int} : ∀ v ∈ zX9 l,v.oneCell' = true := by
 intro v hv
 obtain ⟨x,_,rfl⟩ := List.mem_map.1 hv
 rfl
inductive IntsAt (r : Mem) (w : World) (x : Value) (l : List Int) : Prop
  | nil (a : Option Addr) (hx : x = .slice a 0 0) (hl : l = [])
  | row (b off cap : Nat) (c : Array Value) (T : TypeId) (fr : Nat × Nat) (hx : x = .slice (some ⟨b,off,none⟩) l.length cap) (hcap : cap ≠ 0) (hw : w.heap[b]? = some (.cells c T fr)) (hfr : fr = (0,0))
      (hn : cap ≤ 9223372036854775807) (hle : l.length ≤ cap) (hc : off + cap ≤ c.size) (hcell : ∀ (j : Nat) (n : Int),l[j]? = some n → c[off + j]? = some (.int .i64 n))
theorem zb3 {r w x} {l : List Int} : zX0 r w x zaG.isB zaG.size (l.map zaG.enc) ↔ IntsAt r w x l := by
 have hmap : ∀ (i : Nat) row,(l.map zaG.enc)[i]? = some row → ∃ n,l[i]? = some n ∧ row = [.int .i64 n] := by
  intro i row h
  rw [List.getElem?_map] at h
  cases hx : l[i]? with
  | none => rw [hx] at h;cases h
  | some n => rw [hx] at h;exact ⟨n,rfl,(Option.some.inj h).symm⟩
 constructor
 ·rintro (⟨a,rfl,hl⟩ | ⟨b,off,cap,c,T,fr,rfl,h1,h2,h3,h4,h5,h6,h7,h8,h9⟩)
  ·exact .nil a rfl (by simpa using hl)
  ·have h6 : off + cap * 1 ≤ c.size := h6
   have hlen : (l.map zaG.enc).length = l.length := by simp
   rw [hlen] at h5 ⊢
   refine .row b off cap c T fr rfl h1 h2 (by rcases h3.2 with h3 | ⟨h3,_⟩;exact h3;cases h3) h4 h5 (by omega) fun j n hj => ?_
   have hjl := (List.getElem?_eq_some_iff.1 hj).1
   have hin : off + j < c.size := by omega
   have hv : c[off + j * 1 + 0]? = some c[off + j] := by simp [hin]
   have := h9 j [.int .i64 n] 0 _ _ (by rw [List.getElem?_map,hj];rfl) rfl hv
   rw [Array.getElem?_eq_getElem hin]
   generalize c[off + j] = u at this
   cases this;rfl
 ·rintro (⟨a,rfl,rfl⟩ | ⟨b,off,cap,c,T,fr,rfl,h1,h2,h3,h4,h5,h6,h7⟩)
  ·exact .inl ⟨a,rfl,rfl⟩
  ·refine .inr ⟨b,off,cap,c,T,fr,by simp,h1,h2,⟨fun h => (by cases h),.inl h3⟩,h4,by simpa using h5,by show off + cap * 1 ≤ c.size;omega,fun i row h => ?_,fun i row j sv h h' => ?_,fun i row j sv v h h' hv => ?_⟩
   ·obtain ⟨n,_,rfl⟩ := hmap i row h;rfl
   ·obtain ⟨n,_,rfl⟩ := hmap i row h
    cases j with
    | zero => cases h';rfl
    | succ j => simp at h'
   ·obtain ⟨n,hn,rfl⟩ := hmap i row h
    cases j with
    | zero =>
     cases h'
     have hv : c[off + i * 1 + 0]? = some v := hv
     rw [show off + i * 1 + 0 = off + i by omega,h7 i n hn] at hv
     cases hv;exact .int
    | succ j => simp at h'
def zd2 (β : zX4) (v : Value) : zX4 := fun i => bif Nat.beq i 0 then v else β i
theorem zfZ {c : Chunk} {id : Nat} {ch : Chunk} (h : Phi.get [(0,c)] id = some ch) : id = 0 ∧ ch = c := by
 rw [show Phi.get [(0,c)] id = bif Nat.beq 0 id then some c else none from rfl] at h
 cases hb : Nat.beq 0 id with
 | true => rw [hb] at h;exact ⟨(Nat.eq_of_beq_eq_true hb).symm,(Option.some.inj h).symm⟩
 | false => rw [hb] at h;cases h
theorem zwY {r β w l l'} {v' : Value} {w' : World} (m : MemSat r β [(0,.own zaG l)] w) (hI : IntsAt r w' v' l')
  (hos : w'.os = w.os ∧ w'.tape = w.tape ∧ w'.output = w.output) (hsz : w.heap.size ≤ w'.heap.size)
  (hblk : ∀ b',Chunk.hb (.own zaG l') v' b' → Chunk.hb (.own zaG l) (β 0) b' ∨ w.heap.size ≤ b')
  (hoth : ∀ b',b' < w.heap.size → ¬ Chunk.hb (.own zaG l) (β 0) b' → w'.heap[b']? = w.heap[b']?) :
  Rel r (zd2 β v') (.own 0) v' ∧ MemSat r (zd2 β v') [(0,.own zaG l')] w' ∧ Hid r β [(0,.own zaG l)] w r (zd2 β v') [(0,.own zaG l')] w' := by
 have hg : Phi.get [(0,Chunk.own zaG l)] 0 = some (.own zaG l) := rfl
 have hhd : hd v' = v' := by cases hI with | nil a hx _ => rw [hx];rfl | row b off cap c T fr hx => rw [hx];rfl
 have hone : v'.oneCell' = true := by cases hI with | nil a hx _ => rw [hx];rfl | row b off cap c T fr hx => rw [hx];rfl
 refine ⟨?_,⟨fun b o h => ?_,fun id ch h => ?_,fun id ch b h hb => ?_,fun id id' ch ch' b h h' _ _ => ?_⟩,hos.1,hos.2.1,hos.2.2,hsz,fun b hb h1 h2 => ⟨?_,h1,fun id ch h hb' => ?_⟩,fun id ch h hk => ?_⟩
 ·have e0 : zd2 β v' 0 = v' := rfl
  have : Rel r (zd2 β v') (.own 0) (hd ((zd2 β v') 0)) := .own (by rw [e0,hhd];exact hone)
  rw [e0,hhd] at this;exact this
 ·have := m.vis b o h
  rw [hoth b (lt_of_heap this) (fun hb => by rw [m.sep _ _ _ hg hb] at h;cases h)];exact this
 ·obtain ⟨rfl,rfl⟩ := zfZ h
  exact .own (zb3.2 hI)
 ·obtain ⟨rfl,rfl⟩ := zfZ h
  rcases hblk b hb with h1 | h1
  ·exact m.sep _ _ _ hg h1
  ·cases hr : r b with
   | none => rfl
   | some o => exact absurd (lt_of_heap (m.vis _ _ hr)) (by omega)
 ·obtain ⟨rfl,_⟩ := zfZ h
  obtain ⟨rfl,_⟩ := zfZ h'
  rfl
 ·exact hoth b hb (h2 0 _ hg)
 ·obtain ⟨rfl,rfl⟩ := zfZ h
  rcases hblk b hb' with h1' | h1'
  ·exact h2 0 _ hg h1'
  ·omega
 ·obtain ⟨rfl,rfl⟩ := zfZ h
  exact (hk rfl).elim
theorem zyN {r β w l v} (m : MemSat r β [(0,.own zaG l)] w) (h : Rel r β (.own 0) v) : v = β 0 ∧ IntsAt r w v l := by
 have hg : Phi.get [(0,Chunk.own zaG l)] 0 = some (.own zaG l) := rfl
 cases h
 have := m.chs _ _ hg
 cases this with
 | own h => rw [h.hd];exact ⟨rfl,zb3.1 h⟩
theorem zlB {w : World} {b : Nat} {c T fr} (h : w.heap[b]? = some (.cells c T fr)) (k : Nat) : w.cell? ⟨b,k,none⟩ = c[k]? := by
 unfold World.cell?;simp [h]
theorem zcN {w : World} {b : Nat} {c T fr} (h : w.heap[b]? = some (.cells c T fr)) (hfr : fr = (0,0)) {k : Nat} : w.frozen? ⟨b,k,none⟩ = false := by
 subst hfr
 unfold World.frozen?
 simp [h]
theorem zsB {B : Base} {ρ : Ren} (L : Lays2.n23 B.P ρ) {f : FuncId} (hf : ρ.f 23 = f) (call : ∀ (vs : Array Value) (w : World),(callFunc f vs).run B.P w = .ok (.enter f vs) w) (l : List Int) (i j : Int) :
    FnM B f [.own 0,.int .i64 i,.int .i64 j] [(0,.own zaG l)] (0 ≤ i ∧ i ≤ j ∧ j ≤ l.length) (.own 0) [(0,.own zaG (l.take i.toNat ++ l.drop j.toNat))] := by
  refine ⟨call,fun hp r β w vs hG m hl => ?_⟩
  obtain ⟨p1,p2,p3⟩ := hp
  have hlen := hl.1
  match vs,hlen with
  | [v0,v1,v2],_ =>
  have h0 := hl.2 0 _ v0 rfl rfl
  have h1 := hl.2 1 _ v1 rfl rfl
  have h2 := hl.2 2 _ v2 rfl rfl
  cases h1;cases h2
  obtain ⟨hv0,hI⟩ := zyN m h0
  obtain ⟨i,rfl⟩ := Int.eq_ofNat_of_zero_le p1
  obtain ⟨j,rfl⟩ := Int.eq_ofNat_of_zero_le (Int.le_trans p1 p2)
  have p2 : i ≤ j := by omega
  have p3 : j ≤ l.length := by omega
  simp only [Int.toNat_natCast]
  have g : ∀ {v' : Value} {w' : World},IntsAt r w' v' (l.take i ++ l.drop j) → (w'.os = w.os ∧ w'.tape = w.tape ∧ w'.output = w.output) → w.heap.size ≤ w'.heap.size →
      (∀ b',Chunk.hb (.own zaG (l.take i ++ l.drop j)) v' b' → Chunk.hb (.own zaG l) (β 0) b' ∨ w.heap.size ≤ b') →
      (∀ b',b' < w.heap.size → ¬ Chunk.hb (.own zaG l) (β 0) b' → w'.heap[b']? = w.heap[b']?) →
      ∃ v sv r' β' Φ',Ending.returned v' = .returned v ∧ (sv = .own 0 ∧ Φ' = [(0,.own zaG (l.take i ++ l.drop j))]) ∧ Rel r' β' sv v ∧ MemSat r' β' Φ' w' ∧ r.le r' ∧ Hid r β [(0,.own zaG l)] w r' β' Φ' w' := by
    intro v' w' a1 a2 a3 a4 a5
    obtain ⟨b1,b2,b3⟩ := zwY m a1 a2 a3 a4 a5
    exact ⟨_,_,r,_,_,rfl,⟨rfl,rfl⟩,b1,b2,Mem.le_refl r,b3⟩
  subst hf
  cases hI with
  | nil a hx hl0 =>
    subst hl0
    obtain rfl : i = 0 := by simp at p3;omega
    obtain rfl : j = 0 := by simpa using p3
    subst hx
    refine (Any.slices_Delete_int_empty L a 0 w).mono ?_
    rintro e w' ⟨rfl,rfl⟩
    refine g (.nil a rfl rfl) ⟨rfl,rfl,rfl⟩ (Nat.le_refl _) (fun b' hb => ?_) (fun _ _ _ => rfl)
    cases a <;> simp [Chunk.hb,Chunk.blk] at hb
  | row b off cap c T fr hx hcap hw hfr hn hle hc hcell =>
    subst hx
    refine (Any.slices_Delete_int_cells L b off l.length cap i j l w (Nat.le_refl _) hle hn p2 p3 (fun k hk => ?_) (fun k hk => zcN hw hfr)).mono ?_
    · rw [zlB hw,hcell k l[k] (List.getElem?_eq_getElem hk)];simp [List.getD,List.getElem?_eq_getElem hk]
    · rintro e w' ⟨rfl,q,rfl⟩
      rw [List.take_length]
      have hw1 : (w.drewN q).heap[b]? = some (.cells c T fr) := hw
      obtain ⟨c',q1,q2,q3,q4⟩ := zY7 ((l.take i ++ l.drop j ++ List.replicate (j - i) 0).map (Value.int .i64)) off _ c T fr hw1
      have hlen' : (l.take i ++ l.drop j).length = l.length - (j - i) := by simp;omega
      have hblk : Chunk.blk (.own zaG l) (β 0) = some b := by rw [← hv0];exact zaI rfl hcap
      have hos := zZ1 (b := b) ((l.take i ++ l.drop j ++ List.replicate (j - i) 0).map (Value.int .i64)) off (w.drewN q)
      refine g ?_ hos (by rw [setCells_size];exact Nat.le_refl _) (fun b' hb => ?_) (fun b' hb1 hb2 => ?_)
      · rw [← hlen']
        refine .row b off cap c' T fr rfl hcap q1 hfr hn (by omega) (by rw [q2];exact hc) fun k n hk => ?_
        have hkl := (List.getElem?_eq_some_iff.1 hk).1
        rw [q4 k (by simp;simp at hkl;omega) (by omega),List.getElem?_map,List.getElem?_append_left hkl,hk];rfl
      · left;rw [hbO,hblk]
        rw [hbO,zeC rfl hcap] at hb;exact hb
      · rw [zYT (fun he => hb2 (by rw [hbO,hblk,he]))];rfl
end Go.Vc

namespace Go.Vc
open Go.Proofs Go.Shelf
set_option autoImplicit false
theorem zhV (l : List Int) : (zX9 l).length = l.length := by simp [zX9]
theorem zl8 {l : List Int} {j : Nat} {v : Value} (h : (zX9 l)[j]? = some v) : ∃ n,l[j]? = some n ∧ v = .int .i64 n := by
 rw [zX9,List.getElem?_map] at h
 cases hx : l[j]? with
 | none => rw [hx] at h;cases h
 | some n => rw [hx] at h;exact ⟨n,rfl,(Option.some.inj h).symm⟩
theorem zt6 {l : List Int} {i : Nat} {x n : Int} {k : Nat} (hi : i ≤ l.length) (h : (l.take i ++ x :: l.drop i)[k]? = some n) :
  (k < i ∧ l[k]? = some n) ∨ (k = i ∧ n = x) ∨ (i < k ∧ l[k - 1]? = some n) := by
 have ht : (l.take i).length = i := by simp;omega
 by_cases h1 : k < i
 ·rw [List.getElem?_append_left (by omega),List.getElem?_take,if_pos h1] at h
  exact .inl ⟨h1,h⟩
 ·rw [List.getElem?_append_right (by omega),ht] at h
  by_cases h2 : k = i
  ·subst h2;simp at h;exact .inr (.inl ⟨rfl,h.symm⟩)
  ·rw [show k - i = (k - i - 1) + 1 by omega,List.getElem?_cons_succ,List.getElem?_drop] at h
   rw [show i + (k - i - 1) = k - 1 by omega] at h
   exact .inr (.inr ⟨by omega,h⟩)
theorem zsI {r β w Φ Φ' l l'} {v' : Value} {w' : World} (m : MemSat r β Φ w) (hg : Phi.get Φ 0 = some (.own zaG l)) (hg' : Phi.get Φ' 0 = some (.own zaG l')) (hsame : ∀ id,id ≠ 0 → Phi.get Φ' id = Phi.get Φ id)
  (hnb : ∀ id T cs,Phi.get Φ id ≠ some (.bx T cs)) (hI : IntsAt r w' v' l')
  (hos : w'.os = w.os ∧ w'.tape = w.tape ∧ w'.output = w.output) (hsz : w.heap.size ≤ w'.heap.size)
  (hblk : ∀ b',Chunk.hb (.own zaG l') v' b' → Chunk.hb (.own zaG l) (β 0) b' ∨ w.heap.size ≤ b')
  (hoth : ∀ b',b' < w.heap.size → ¬ Chunk.hb (.own zaG l) (β 0) b' → w'.heap[b']? = w.heap[b']?) :
  Rel r (zd2 β v') (.own 0) v' ∧ MemSat r (zd2 β v') Φ' w' ∧ Hid r β Φ w r (zd2 β v') Φ' w' := by
 have hhd : hd v' = v' := by cases hI with | nil a hx _ => rw [hx];rfl | row b off cap c T fr hx => rw [hx];rfl
 have hone : v'.oneCell' = true := by cases hI with | nil a hx _ => rw [hx];rfl | row b off cap c T fr hx => rw [hx];rfl
 have hb0 : zd2 β v' 0 = v' := rfl
 have hbn : ∀ id,id ≠ 0 → zd2 β v' id = β id := fun id h => by unfold zd2;rw [zXY h];rfl
 have look : ∀ id ch,Phi.get Φ' id = some ch → (id = 0 ∧ ch = .own zaG l') ∨ (id ≠ 0 ∧ Phi.get Φ id = some ch) := by
  intro id ch h
  by_cases h0 : id = 0
  ·subst h0;rw [hg'] at h;exact .inl ⟨rfl,(Option.some.inj h).symm⟩
  ·rw [hsame id h0] at h;exact .inr ⟨h0,h⟩
 have alive : ∀ id c b,Phi.get Φ id = some c → c.hb (β id) b → b < w.heap.size := fun id c b h1 h2 => (m.chs _ _ h1).alive h2
 have nb : ∀ id ch b b',id ≠ 0 → Phi.get Φ id = some ch → ch.hb (β id) b → Chunk.hb (.own zaG l') v' b' → b ≠ b' := by
  rintro id ch b b' h0 hi hb hb' rfl
  rcases hblk b hb' with h | h
  ·exact h0 (m.nod _ _ _ _ _ hi hg hb h)
  ·have := alive _ _ _ hi hb;omega
 refine ⟨?_,⟨fun b o h => ?_,fun id ch h => ?_,fun id ch b h hb => ?_,fun id id' ch ch' b h h' hb hb' => ?_⟩,hos.1,hos.2.1,hos.2.2,hsz,fun b hb h1 h2 => ⟨?_,h1,fun id ch h hb' => ?_⟩,fun id ch h hk => ?_⟩
 ·have e0 : zd2 β v' 0 = v' := rfl
  have : Rel r (zd2 β v') (.own 0) (hd ((zd2 β v') 0)) := .own (by rw [e0,hhd];exact hone)
  rw [e0,hhd] at this;exact this
 ·have := m.vis b o h
  rw [hoth b (lt_of_heap this) (fun hb => by rw [m.sep _ _ _ hg hb] at h;cases h)];exact this
 ·rcases look id ch h with ⟨rfl,rfl⟩ | ⟨h0,hi⟩
  ·rw [hb0];exact .own (zb3.2 hI)
  ·rw [hbn id h0]
   refine (m.chs _ _ hi).keep (Mem.le_refl r) (fun b hb => hoth b (alive _ _ _ hi hb) (fun h => h0 (m.nod _ _ _ _ _ hi hg hb h))) (fun _ cells he => ?_)
   subst he;exact (hnb id _ _ hi).elim
 ·rcases look id ch h with ⟨rfl,rfl⟩ | ⟨h0,hi⟩
  ·rcases hblk b hb with h1 | h1
   ·exact m.sep _ _ _ hg h1
   ·cases hr : r b with
    | none => rfl
    | some o => exact absurd (lt_of_heap (m.vis _ _ hr)) (by omega)
  ·rw [hbn id h0] at hb;exact m.sep _ _ _ hi hb
 ·rcases look id ch h with ⟨rfl,rfl⟩ | ⟨h0,hi⟩ <;> rcases look id' ch' h' with ⟨rfl,rfl⟩ | ⟨h0',hi'⟩
  ·rfl
  ·rw [hbn id' h0'] at hb';exact (nb id' ch' b b h0' hi' hb' hb rfl).elim
  ·rw [hbn id h0] at hb;exact (nb id ch b b h0 hi hb hb' rfl).elim
  ·rw [hbn id h0] at hb;rw [hbn id' h0'] at hb';exact m.nod _ _ _ _ _ hi hi' hb hb'
 ·exact hoth b hb (h2 0 _ hg)
 ·rcases look id ch h with ⟨rfl,rfl⟩ | ⟨h0,hi⟩
  ·rcases hblk b hb' with h1' | h1'
   ·exact h2 0 _ hg h1'
   ·omega
  ·rw [hbn id h0] at hb';exact h2 id ch hi hb'
 ·have h0 : id ≠ 0 := by rintro rfl;rw [hg] at h;cases h;exact hk rfl
  exact ⟨hbn id h0,ch,by rw [hsame id h0];exact h,rfl⟩
theorem zqV {r β w Φ id l v} (m : MemSat r β Φ w) (hg : Phi.get Φ id = some (.own zaG l)) (h : Rel r β (.own id) v) : v = β id ∧ IntsAt r w v l := by
 cases h
 have := m.chs _ _ hg
 cases this with
 | own h => rw [h.hd];exact ⟨rfl,zb3.1 h⟩
theorem zsY {B : Base} {ρ : Ren} (L : Lays2.n21 B.P ρ) {f : FuncId} (hf : ρ.f 21 = f) (call : ∀ (vs : Array Value) (w : World),(callFunc f vs).run B.P w = .ok (.enter f vs) w) (l : List Int) (i x : Int) :
    FnM B f [.own 0,.int .i64 i,.own 1] [(0,.own zaG l),(1,.own zaG [x])] (0 ≤ i ∧ i ≤ l.length ∧ l.length ≤ 100000) (.own 0) [(0,.own zaG (l.take i.toNat ++ x :: l.drop i.toNat)),(1,.own zaG [x])] := by
  refine ⟨call,fun hp r β w vs hG m hl => ?_⟩
  obtain ⟨p1,p2,p3⟩ := hp
  have hlen := hl.1
  match vs,hlen with
  | [v0,v1,v2],_ =>
  have h0 := hl.2 0 _ v0 rfl rfl
  have h1 := hl.2 1 _ v1 rfl rfl
  have h2 := hl.2 2 _ v2 rfl rfl
  cases h1
  obtain ⟨hv0,hI⟩ := zqV m rfl h0
  obtain ⟨hv2,hX⟩ := zqV m (id := 1) (l := [x]) rfl h2
  obtain ⟨i,rfl⟩ := Int.eq_ofNat_of_zero_le p1
  have p2 : i ≤ l.length := by omega
  simp only [Int.toNat_natCast]
  cases hX with
  | nil a hx hl0 => cases hl0
  | row vb voff vc cv Tv frv hx2 hvc hwv hfv hvn hvle hvsz hvcell =>
  subst hx2
  have hvx : cv[voff]? = some (.int .i64 x) := hvcell 0 x rfl
  have hblk1 : Chunk.blk (.own zaG [x]) (β 1) = some vb := by rw [← hv2];exact zaI rfl hvc
  have hvs : ∀ j v,(zX9 [x])[j]? = some v → w.cell? ⟨vb,voff + j,none⟩ = some v := by
    intro j v hj
    obtain ⟨n,hn,rfl⟩ := zl8 hj
    cases j with
    | zero => cases hn;rw [zlB hwv];exact hvx
    | succ j => simp at hn
  have hnew : ∀ {c' : Array Value} {T : TypeId} {gc : Nat} {w' : World},w'.heap[w.heap.size]? = some (.cells c' T (0,0)) → l.length + 1 ≤ gc → gc ≤ 9223372036854775807 → gc ≤ c'.size → (∀ (k : Nat) (n : Int),(l.take i ++ x :: l.drop i)[k]? = some n → c'[k]? = some (.int .i64 n)) →
      IntsAt r w' (.slice (some ⟨w.heap.size,0,none⟩) (l.length + 1) gc) (l.take i ++ x :: l.drop i) := by
    intro c' T gc w' a1 a2 a3 a4 a5
    have hll : (l.take i ++ x :: l.drop i).length = l.length + 1 := by simp;omega
    rw [← hll]
    exact .row w.heap.size 0 gc c' T (0,0) rfl (by omega) a1 rfl a3 (by omega) (by omega) (fun k n hk => by rw [Nat.zero_add];exact a5 k n hk)
  have g : ∀ {v' : Value} {w' : World},IntsAt r w' v' (l.take i ++ x :: l.drop i) → (w'.os = w.os ∧ w'.tape = w.tape ∧ w'.output = w.output) → w.heap.size ≤ w'.heap.size →
      (∀ b',Chunk.hb (.own zaG (l.take i ++ x :: l.drop i)) v' b' → Chunk.hb (.own zaG l) (β 0) b' ∨ w.heap.size ≤ b') →
      (∀ b',b' < w.heap.size → ¬ Chunk.hb (.own zaG l) (β 0) b' → w'.heap[b']? = w.heap[b']?) →
      ∃ v sv r' β' Φ',Ending.returned v' = .returned v ∧ (sv = .own 0 ∧ Φ' = [(0,.own zaG (l.take i ++ x :: l.drop i)),(1,.own zaG [x])]) ∧ Rel r' β' sv v ∧ MemSat r' β' Φ' w' ∧ r.le r' ∧ Hid r β [(0,.own zaG l),(1,.own zaG [x])] w r' β' Φ' w' := by
    intro v' w' a1 a2 a3 a4 a5
    obtain ⟨b1,b2,b3⟩ := zsI (Φ' := [(0,.own zaG (l.take i ++ x :: l.drop i)),(1,.own zaG [x])]) m rfl rfl (fun id h0 => by
        have h0' : Nat.beq 0 id = false := zXY (fun h => h0 h.symm)
        rw [zXQ,h0',zXQ (k := 0) (c := .own zaG l),h0'];rfl) (fun id cs To h => by
        rw [zXQ,zXQ] at h
        cases hq : Nat.beq 0 id <;> rw [hq] at h
        · cases hq1 : Nat.beq 1 id <;> rw [hq1] at h <;> cases h
        · cases h) a1 a2 a3 a4 a5
    exact ⟨_,_,r,_,_,rfl,⟨rfl,rfl⟩,b1,b2,Mem.le_refl r,b3⟩
  subst hf
  have endGrow : ∀ (base : Option Addr) (cap : Nat),v0 = .slice base l.length cap → i = l.length → l.length ≤ cap → cap < l.length + 1 → (base = none → l.length = 0) →
      (∀ a,base = some a → ∀ j v,(zX9 l)[j]? = some v → w.cell? (a.add j) = some v) →
      Calls B.P (ρ.f 21) [v0,Value.int .i64 i,.slice (some ⟨vb,voff,none⟩) 1 vc].toArray w fun e w' => ∃ v sv r' β' Φ',e = .returned v ∧ (sv = .own 0 ∧ Φ' = [(0,.own zaG (l.take i ++ x :: l.drop i)),(1,.own zaG [x])]) ∧ Rel r' β' sv v ∧ MemSat r' β' Φ' w' ∧ r.le r' ∧ Hid r β [(0,.own zaG l),(1,.own zaG [x])] w r' β' Φ' w' := by
    intro base cap hv hi hle hlt hnil hcs
    subst hi
    rw [hv]
    have hmod := Any2.slices_Insert_int_end_grow L base l.length cap vb voff 1 vc (zX9 l) (zX9 [x]) w (by omega) hle hlt (by omega) (zhV l) rfl hnil hcs hvs zbM
    refine hmod.mono ?_
    rintro e w' ⟨rfl,rfl⟩
    have hgc := grownCap_ge w (l.length + 1) cap (ρ.t 3)
    refine g (hnew (T := ρ.t 3) (c' := _) zYC hgc (grownCap_le_maxLen w _ _ _ (by show l.length + 1 ≤ 2 ^ 63 - 1;omega)) ?_ ?_) ⟨rfl,rfl,rfl⟩ (by show _ ≤ (w.heap.push _).size;simp) (fun b' hb => ?_) (fun b' hb _ => zaU (w := w.drew) hb)
    · simp [zX9,Builtin.zeroCells,Value.cells];omega
    · intro k n hk
      have hk' : (l ++ [x])[k]? = some n := by simpa using hk
      have hkl := (List.getElem?_eq_some_iff.1 hk').1
      rw [Array.getElem?_append_left (by simp [zX9] at hkl ⊢;omega)]
      simp only [List.getElem?_toArray]
      rw [show zX9 l ++ zX9 [x] = zX9 (l ++ [x]) by simp [zX9]]
      exact zeE hk'
    · rw [hbO,zeC rfl (by omega)] at hb;right;cases hb;exact Nat.le_refl _
  cases hI with
  | nil a hx hl0 =>
    subst hl0
    refine endGrow a 0 hx (by simp at p2;omega) (Nat.le_refl _) (by simp) (fun _ => rfl) (fun _ _ j v hj => by simp [zX9] at hj)
  | row b off cap c T fr hx hcap hw hfr hn hle hc hcell =>
    subst hx
    have hblk : Chunk.blk (.own zaG l) (β 0) = some b := by rw [← hv0];exact zaI rfl hcap
    have hvb : vb ≠ b := fun he => by
      have := m.nod 0 1 _ _ b rfl rfl hblk (by rw [hbO,hblk1,he])
      cases this
    have hcs : ∀ j v,(zX9 l)[j]? = some v → w.cell? ⟨b,off + j,none⟩ = some v := by
      intro j v hj
      obtain ⟨n,hn,rfl⟩ := zl8 hj
      rw [zlB hw];exact hcell j n hn
    have hsp : ∀ j,j < cap → (w.cell? ⟨b,off + j,none⟩).isSome = true := fun j hj => by
      rw [zlB hw,Array.getElem?_eq_getElem (by omega)];rfl
    by_cases hi : i = l.length
    · by_cases hroom : l.length + 1 ≤ cap
      · subst hi
        refine (Any2.slices_Insert_int_end_room L b off l.length cap vb voff 1 vc (zX9 [x]) w (by omega) hroom hn rfl (fun j hj => by rw [Nat.add_assoc];exact hsp _ (by omega)) (fun j hj => zcN hw hfr) hvs zbM).mono ?_
        rintro e w' ⟨rfl,rfl⟩
        obtain ⟨c',q1,q2,q3,q4⟩ := zY7 (zX9 [x]) (off + l.length) _ c T fr hw
        refine g ?_ (zZ1 _ _ _) (by rw [setCells_size];exact Nat.le_refl _) (fun b' hb => ?_) (fun b' hb1 hb2 => zYT (fun he => hb2 (by rw [hbO,hblk,he])) _ _ _)
        · have hll : (l.take l.length ++ x :: l.drop l.length).length = l.length + 1 := by simp
          rw [← hll]
          refine .row b off cap c' T fr rfl hcap q1 hfr hn (by omega) (by rw [q2];exact hc) fun k n hk => ?_
          have hk' : (l ++ [x])[k]? = some n := by simpa using hk
          have hkl := (List.getElem?_eq_some_iff.1 hk').1
          simp at hkl
          by_cases hkl' : k < l.length
          · rw [q3 (off + k) (by simp [zX9];omega)]
            exact hcell k n (by rwa [List.getElem?_append_left hkl'] at hk')
          · have : k = l.length := by omega
            subst this
            have := q4 0 (by simp [zX9]) (by omega)
            rw [Nat.add_zero] at this
            rw [this]
            simp at hk'
            subst hk';rfl
        · left;rw [hbO,hblk];rw [hbO,zeC rfl hcap] at hb;exact hb
      · exact endGrow (some ⟨b,off,none⟩) cap rfl hi hle (by omega) (fun h => by cases h) (fun a ha j v hj => by
          cases ha
          have e : (⟨b,off,none⟩ : Addr).add j = ⟨b,off + j,none⟩ := by
            unfold Addr.add;split
            · rename_i h;rw [h];rfl
            · rfl
          rw [e];exact hcs j v hj)
    · have hil : i < l.length := by omega
      by_cases hroom : l.length + 1 ≤ cap
      · have hshv : w.shape? vb = some (Tv,cv.size) := by unfold World.shape?;rw [hwv]
        have hshb : w.shape? b = some (T,c.size) := by unfold World.shape?;rw [hw]
        refine (Any2.slices_Insert_int_shift L b off l.length cap i vb voff 1 vc (zX9 l) (zX9 [x]) w hil (by omega) hroom hn hvb (zhV l) rfl hcs (fun j hj => hsp j (by omega)) (fun j hj => zcN hw hfr) hvs zbM zbM
          Tv T cv.size c.size hshv hshb (by omega) (zcN hwv hfv) (zcN hwv hfv)).mono ?_
        rintro e w' ⟨rfl,rfl⟩
        have hwd : w.drew.heap[b]? = some (.cells c T fr) := hw
        obtain ⟨c1,q1,q2,q3,q4⟩ := zY7 ((zX9 l).drop i) (off + (i + 1)) _ c T fr hwd
        obtain ⟨c2,t1,t2,t3,t4⟩ := zY7 (zX9 [x]) (off + i) _ c1 T fr q1
        have hos1 := zZ1 (b := b) ((zX9 l).drop i) (off + (i + 1)) w.drew
        have hos2 := zZ1 (b := b) (zX9 [x]) (off + i) (w.drew.setCells b (off + (i + 1)) ((zX9 l).drop i))
        refine g ?_ ⟨hos2.1.trans hos1.1,hos2.2.1.trans hos1.2.1,hos2.2.2.trans hos1.2.2⟩ (by rw [setCells_size,setCells_size];exact Nat.le_refl _) (fun b' hb => ?_) (fun b' hb1 hb2 => by
          have hne : b' ≠ b := fun he => hb2 (by rw [hbO,hblk,he])
          rw [zYT hne,zYT hne];rfl)
        · have hll : (l.take i ++ x :: l.drop i).length = l.length + 1 := by simp;omega
          rw [← hll]
          refine .row b off cap c2 T fr rfl hcap t1 hfr hn (by omega) (by rw [t2,q2];exact hc) fun k n hk => ?_
          have hkl := (List.getElem?_eq_some_iff.1 hk).1
          rw [hll] at hkl
          have hdl : ((zX9 l).drop i).length = l.length - i := by simp [zX9]
          rcases zt6 p2 hk with ⟨h1,h2⟩ | ⟨rfl,rfl⟩ | ⟨h1,h2⟩
          · rw [t3 (off + k) (by simp [zX9];omega),q3 (off + k) (by omega)]
            exact hcell k n h2
          · have := t4 0 (by simp [zX9]) (by omega)
            rw [Nat.add_zero] at this
            rw [this];rfl
          · rw [t3 (off + k) (by simp [zX9];omega)]
            have := q4 (k - 1 - i) (by omega) (by omega)
            rw [show off + (i + 1) + (k - 1 - i) = off + k by omega,List.getElem?_drop,show i + (k - 1 - i) = k - 1 by omega] at this
            rw [this];exact zeE h2
        · left;rw [hbO,hblk];rw [hbO,zeC rfl hcap] at hb;exact hb
      · refine (Any2.slices_Insert_int_grow L b off l.length cap i vb voff 1 vc (zX9 l) (zX9 [x]) w hil (by omega) hle (by omega) (by omega) (zhV l) rfl hcs hvs zbM zbM).mono ?_
        rintro e w' ⟨rfl,rfl⟩
        have hgc := grownCap_ge w (l.length + 1) cap (ρ.t 3)
        obtain ⟨c0,hc0⟩ : ∃ c0,c0 = ((zX9 l).take i).toArray ++ Builtin.zeroCells (Value.int .i64 0).cells (l.length + 1 - i) ++ Builtin.zeroCells (Value.int .i64 0).cells (grownCap w (l.length + 1) cap (ρ.t 3) - (l.length + 1)) := ⟨_,rfl⟩
        have hs0 : c0.size = grownCap w (l.length + 1) cap (ρ.t 3) := by rw [hc0];simp [zX9,Builtin.zeroCells,Value.cells];omega
        rw [← hc0]
        obtain ⟨c1,q1,q2,q3,q4⟩ := zY7 (b := w.heap.size) (zX9 [x]) i (w.alloc (.cells c0 (ρ.t 3))).drew c0 (ρ.t 3) (0,0) (by show (w.heap.push _)[w.heap.size]? = _;simp)
        obtain ⟨c2,t1,t2,t3,t4⟩ := zY7 (b := w.heap.size) ((zX9 l).drop i) (i + 1) ((w.alloc (.cells c0 (ρ.t 3))).drew.setCells w.heap.size i (zX9 [x])).drew c1 (ρ.t 3) (0,0) q1
        have hos1 := zZ1 (b := w.heap.size) (zX9 [x]) i (w.alloc (.cells c0 (ρ.t 3))).drew
        have hos2 := zZ1 (b := w.heap.size) ((zX9 l).drop i) (i + 1) ((w.alloc (.cells c0 (ρ.t 3))).drew.setCells w.heap.size i (zX9 [x])).drew
        have hdl : ((zX9 l).drop i).length = l.length - i := by simp [zX9]
        refine g (hnew t1 hgc (grownCap_le_maxLen w _ _ _ (by show l.length + 1 ≤ 2 ^ 63 - 1;omega)) (by rw [t2,q2,hs0];exact Nat.le_refl _) (fun k n hk => ?_)) ⟨hos2.1.trans hos1.1,hos2.2.1.trans hos1.2.1,hos2.2.2.trans hos1.2.2⟩ ?_ (fun b' hb => ?_) (fun b' hb _ => ?_)
        · have hkl := (List.getElem?_eq_some_iff.1 hk).1
          have hll : (l.take i ++ x :: l.drop i).length = l.length + 1 := by simp;omega
          rw [hll] at hkl
          rcases zt6 p2 hk with ⟨h1,h2⟩ | ⟨rfl,rfl⟩ | ⟨h1,h2⟩
          · rw [t3 k (by omega),q3 k (by omega),hc0,Array.getElem?_append_left (by simp [zX9,Builtin.zeroCells,Value.cells];omega),Array.getElem?_append_left (by simp [zX9];omega)]
            simp only [List.getElem?_toArray,List.getElem?_take,if_pos h1]
            exact zeE h2
          · rw [t3 k (by omega)]
            have := q4 0 (by simp [zX9]) (by omega)
            rw [Nat.add_zero] at this
            rw [this];rfl
          · have := t4 (k - 1 - i) (by omega) (by omega)
            rw [show i + 1 + (k - 1 - i) = k by omega,List.getElem?_drop,show i + (k - 1 - i) = k - 1 by omega] at this
            rw [this];exact zeE h2
        · rw [setCells_size]
          show w.heap.size ≤ (((w.alloc (.cells c0 (ρ.t 3))).drew.setCells w.heap.size i (zX9 [x]))).heap.size
          rw [setCells_size]
          show w.heap.size ≤ (w.heap.push _).size
          simp
        · rw [hbO,zeC rfl (by omega)] at hb;right;cases hb;exact Nat.le_refl _
        · rw [zYT (by omega)]
          show ((w.alloc (.cells c0 (ρ.t 3))).drew.setCells w.heap.size i (zX9 [x])).heap[b']? = _
          rw [zYT (by omega)]
          exact zaU hb
end Go.Vc
