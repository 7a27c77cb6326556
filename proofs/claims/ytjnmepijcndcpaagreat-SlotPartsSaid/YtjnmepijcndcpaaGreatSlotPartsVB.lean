/- A part of the proof: lemmas and walks that the last text of the claim joins; no condition. -/
import Derived.Laws.FloatArith
import GoSem.Core.Float
import Derived.Deep.Quiet
import Derived.Laws.Strings
import Derived.Laws.Strings2
import Derived.KernelRfl
import Derived.Laws.Sem
import Derived.Laws.StructEq
import Derived.CallsIn
import Derived.Laws.Bits
import Derived.IntWalk
import Derived.Laws.Cells
import Derived.Laws.World
open Array renaming getD_eq_getD_getElem?→yAA,getElem?_eq_getElem→yAB
open Bool renaming and_eq_true→yAC,eq_iff_iff→yAD,false_and→yAE,false_eq_true→yAF,true_and→yAG
open Int renaming eq_ofNat_of_zero_le→yAH
open List renaming getElem?_drop→yAI,getElem?_eq_getElem→yAJ,getElem?_eq_none→yAK,getElem?_range→yAL,getElem?_set→yAM,getElem?_take→yAN,map_drop→yAO,map_take→yAP,take_of_length_le→yAQ
open Nat renaming add_assoc→yAR,add_mul→yAS,eq_of_beq_eq_true→yAT,le_of_not_lt→yAU,le_total→yAV,le_trans→yAW,log2_eq_iff→yAX,mul_assoc→yAY,mul_le_mul_right→yAZ,mul_ne_zero→yA0,pow_add→yA1,pow_zero→yA2,shiftLeft_eq→yA3,two_pow_pos→yA4
open Option renaming map_some→yA5,ne_none_iff_exists'→yA6
set_option linter.unusedVariables false
set_option linter.unusedSimpArgs false
set_option maxHeartbeats 8000000
namespace Go.Vc
set_option autoImplicit false
theorem qK5 (m p:Nat) (h:m≠0):(m*2 ^ p).log2=m.log2+p:=by
 have h1:=(yAX (k:=m.log2) h).1 rfl;rw[yAX (yA0 h (by have:=yA4 p;omega))]
 have e1:2 ^ (m.log2+p)=2 ^ m.log2*2 ^ p:=yA1 ..;have e2:2 ^ (m.log2+p+1)=2 ^ (m.log2+1)*2 ^ p:=by rw[<-yA1];congr 1;omega
 rw[e1,e2];exact⟨yAZ _ h1.1,Nat.mul_lt_mul_of_pos_right h1.2 (yA4 p)⟩
theorem qNI (s:Bool) (q d:Nat) (h:q≠0):Ieee.Toward.even.cut s (q*2 ^ d) d=q:=by
 unfold Ieee.Toward.cut;have hl:=qK5 q d h;have hm:min d ((q*2 ^ d).log2+2)=d:=by omega
 have hp:=yA4 d;simp only[hm,yA3,Nat.one_mul,Nat.mul_div_cancel q hp,Nat.mul_mod_left];rw[decide_eq_false (by omega),beq_eq_false_iff_ne.2 (by omega)];rfl
theorem qiU (s:Bool) (m p:Nat) (hm:m<2 ^ 52):FloatKind.f64.format.nearest s (m*2 ^ p) (-(p:Int))=FloatKind.f64.format.nearest s m 0:=by
 by_cases h0:m=0
 ·subst h0;rw[Nat.zero_mul];unfold Ieee.Format.nearest;rw[if_pos rfl,if_pos rfl]
 have hne:m*2 ^ p≠0:=yA0 h0 (by have:=yA4 p;omega)
 have hlg:m.log2<52:=(Nat.log2_lt h0).2 hm;unfold Ieee.Format.nearest;rw[if_neg h0,if_neg hne,qK5 m p h0];have el:FloatKind.f64.format.leastPlace = -1074:=by decide
 have ef:(FloatKind.f64.format.fractionBits:Int)=52:=by decide
 have a1:max (-(p:Int)+((m.log2+p:Nat):Int)-(FloatKind.f64.format.fractionBits:Int)) FloatKind.f64.format.leastPlace=(m.log2:Int)-52:=by rw[el,ef];omega
 have a2:max (0+(m.log2:Int)-(FloatKind.f64.format.fractionBits:Int)) FloatKind.f64.format.leastPlace=(m.log2:Int)-52:=by rw[el,ef];omega
 simp only[];rw[a1,a2];have c2:Ieee.Toward.even.cut s (m <<< (0-((m.log2:Int)-52)).toNat) ((m.log2:Int)-52-0).toNat=m*2 ^ (52-m.log2):=by
  rw[show((m.log2:Int)-52-0).toNat=0 by omega,show(0-((m.log2:Int)-52)).toNat=52-m.log2 by omega,yA3]
  have:=qNI s (m*2 ^ (52-m.log2)) 0 (yA0 h0 (by have:=yA4 (52-m.log2);omega))
  rwa [yA2,Nat.mul_one] at this
 have c1:Ieee.Toward.even.cut s ((m*2 ^ p) <<< (-(p:Int)-((m.log2:Int)-52)).toNat) ((m.log2:Int)-52 - -(p:Int)).toNat=m*2 ^ (52-m.log2):=by
  rcases yAV p (52-m.log2) with h|h
  ·rw[show((m.log2:Int)-52 - -(p:Int)).toNat=0 by omega,show(-(p:Int)-((m.log2:Int)-52)).toNat=52-m.log2-p by omega,yA3,yAY, <-yA1,show p+(52-m.log2-p)=52-m.log2 by omega]
   have:=qNI s (m*2 ^ (52-m.log2)) 0 (yA0 h0 (by have:=yA4 (52-m.log2);omega))
   rwa [yA2,Nat.mul_one] at this
  ·rw[show(-(p:Int)-((m.log2:Int)-52)).toNat=0 by omega,show((m.log2:Int)-52 - -(p:Int)).toNat=p-(52-m.log2) by omega,Nat.shiftLeft_zero]
   have:=qNI s (m*2 ^ (52-m.log2)) (p-(52-m.log2)) (yA0 h0 (by have:=yA4 (52-m.log2);omega))
   rwa [yAY, <-yA1,show 52-m.log2+(p-(52-m.log2))=p by omega] at this
 rw[c1,c2]
def fb (n:Int):Nat:=FloatKind.f64.nearest n
def kF (n:Int):Nat:=if n=0 then 1074 else 52-n.natAbs.log2
abbrev okF (n:Int):Prop := -600<=n/\n<=599
def ksF:List Nat:=[1074,52,51,50,49,48,47,46,45,44,43,42]
def zEF:Bool:=(List.range 1200).all fun i=>FloatKind.f64.format.read (fb ((i:Int)-600))==.number (decide ((i:Int)-600<0)) (((i:Int)-600).natAbs*2 ^ kF ((i:Int)-600)) (-(kF ((i:Int)-600):Int))&&(ksF.contains (kF ((i:Int)-600))&&(FloatKind.f64.decode (fb ((i:Int)-600))).toInt .zero==some ((i:Int)-600))
theorem qiA:zEF=true:=by decide +kernel
theorem rdF {n:Int}(h:okF n):FloatKind.f64.format.read (fb n)=.number (decide (n<0)) (n.natAbs*2 ^ kF n) (-(kF n:Int))/\kF n∈ksF/\(FloatKind.f64.decode (fb n)).toInt .zero=some n:=by
 have key:=List.all_eq_true.1 qiA (n+600).toNat (List.mem_range.2 (by omega))
 have e:(((n+600).toNat:Nat):Int)-600=n:=by omega
 rw[e] at key;simp only[yAC,beq_iff_eq] at key;exact⟨key.1,by simpa using key.2.1,key.2.2⟩
theorem wrF {c:Int}{p:Nat}(h : -1200<=c/\c<=1200) (_:p∈ksF):FloatKind.f64.format.nearest (decide (c<0)) (c.natAbs*2 ^ p) (-(p:Int))=fb c:=by
 rw[qiU _ _ _ (by omega)];rfl
theorem sgF (n:Int) (k u:Nat):Ieee.signed (decide (n<0)) (n.natAbs*2 ^ k) u=n*2 ^ (k+u):=by
 unfold Ieee.signed;rw[yA3,yAY, <-yA1];have e:((n.natAbs*2 ^ (k+u):Nat):Int)=(n.natAbs:Int)*2 ^ (k+u):=by push_cast;rfl
 rw[e];by_cases h:n<0
 ·rw[decide_eq_true h,if_pos rfl];have:(n.natAbs:Int) = -n:=by omega
  rw[this,Int.neg_mul,Int.neg_neg]
 ·rw[decide_eq_false h,if_neg (by decide)]
  have:(n.natAbs:Int)=n:=by omega
  rw[this]
theorem sgF' (n:Int) (k u:Nat) (h:n≠0):Ieee.signed (!decide (n<0)) (n.natAbs*2 ^ k) u = -n*2 ^ (k+u):=by
 have:=sgF (-n) k u;rw[Int.natAbs_neg] at this;rw[<-this];congr 1;by_cases h1:n<0
 ·rw[decide_eq_true h1,decide_eq_false (by omega)];rfl
 ·rw[decide_eq_false h1,decide_eq_true (by omega)];rfl
theorem sgZ (s:Bool) (k u:Nat):Ieee.signed s ((0:Int).natAbs*2 ^ k) u=0:=by
 unfold Ieee.signed;cases s<;>simp
theorem upF (a b:Nat):min (-(a:Int)) (-(b:Int)) = -((max a b:Nat):Int):=by omega
theorem zDP (a b:Nat):a+(-(a:Int) - -((max a b:Nat):Int)).toNat=max a b:=by omega
theorem zCK (a b:Nat):b+(-(b:Int) - -((max a b:Nat):Int)).toNat=max a b:=by omega
theorem zDN (p:Nat):(0:Int)<2 ^ p:=Int.pow_pos (by decide)
theorem qcB (c:Int) (p:Nat):(c*2 ^ p<0)=(c<0):=by
 have:=zDN p;apply propext;constructor
 ·intro h;rcases Int.lt_or_le c 0 with q|q
  ·exact q
  ·have:=Int.mul_nonneg q (Int.le_of_lt this);omega
 ·intro h;exact Int.mul_neg_of_neg_of_pos h this
theorem qeV (c:Int) (p:Nat):(c*2 ^ p=0)=(c=0):=by
 have:=zDN p;apply propext;constructor
 ·intro h;rcases Int.mul_eq_zero.1 h with q|q
  ·exact q
  ·omega
 ·rintro rfl;simp
theorem zF7 (c:Int) (p:Nat):(c*2 ^ p).natAbs=c.natAbs*2 ^ p:=by
 rw[Int.natAbs_mul,Int.natAbs_pow];rfl
theorem qdW {a b:Nat}(ha:a∈ksF) (hb:b∈ksF):max a b∈ksF:=by
 rcases yAV a b with h|h
 ·rw[Nat.max_eq_right h];exact hb
 ·rw[Nat.max_eq_left h];exact ha
theorem zD7 {a b:Int}(ha:okF a) (hb:okF b):FloatKind.f64.format.add (fb a) (fb b)=some (fb (a+b)):=by
 obtain⟨a1,a2,_⟩:=rdF ha;obtain⟨b1,b2,_⟩:=rdF hb;unfold Ieee.Format.add;rw[a1,b1];unfold Ieee.Datum.sum;simp only[upF,sgF,zDP,zCK, <-Int.add_mul,qcB,qeV,zF7,yA5];unfold Ieee.Format.write;simp only[];have e:(if a+b=0 then decide (a<0)&&decide (b<0) else decide (a+b<0))=decide (a+b<0):=by
  split
  ·rename_i h;by_cases h1:a<0
   ·rw[decide_eq_false (by omega:¬b<0),decide_eq_false (by omega:¬a+b<0),Bool.and_false]
   ·rw[decide_eq_false h1,decide_eq_false (by omega:¬a+b<0),yAE]
  ·rfl
 rw[e,wrF (by omega) (qdW a2 b2)]
theorem qmO {a b:Int}(ha:okF a) (hb:okF b):FloatKind.f64.format.sub (fb a) (fb b)=some (fb (a-b)):=by
 obtain⟨a1,a2,_⟩:=rdF ha;obtain⟨b1,b2,_⟩:=rdF hb;unfold Ieee.Format.sub;rw[a1,b1];unfold Ieee.Datum.opposite Ieee.Datum.sum;have sg:∀ u,Ieee.signed (!decide (b<0)) (b.natAbs*2 ^ kF b) u = -b*2 ^ (kF b+u):=by
  intro u;by_cases h:b=0
  ·subst h;rw[sgZ];simp
  ·exact sgF' b _ u h
 simp only[upF,sgF,sg,zDP,zCK, <-Int.add_mul,qcB,qeV,zF7,yA5];unfold Ieee.Format.write;simp only[];have e:(if a + -b=0 then decide (a<0) && !decide (b<0) else decide (a + -b<0))=decide (a + -b<0):=by
  split
  ·rename_i h;have:a=b:=by omega
   subst this;rw[decide_eq_false (by omega:¬a + -a<0)]
   cases decide (a<0)<;>rfl
  ·rfl
 rw[e,wrF (by omega) (qdW a2 b2),Int.sub_eq_add_neg]
theorem qeZ {a b:Int}(ha:okF a) (hb:okF b):FloatKind.f64.format.order (fb a) (fb b)=some (compare a b):=by
 obtain⟨a1,a2,_⟩:=rdF ha;obtain⟨b1,b2,_⟩:=rdF hb;unfold Ieee.Format.order;rw[a1,b1];unfold Ieee.Datum.order;simp only[upF,sgF,zDP,zCK];congr 1;have hp:=zDN (max (kF a) (kF b));generalize (2:Int) ^ max (kF a) (kF b)=q at hp;have h1:(a*q<b*q)=(a<b):=propext (Int.mul_lt_mul_right hp);have h2:(a*q=b*q)=(a=b):=propext ⟨fun h=>Int.eq_of_mul_eq_mul_right (by omega) h,fun h=>by rw[h]⟩
 show compareOfLessAndEq _ _=compareOfLessAndEq _ _;unfold compareOfLessAndEq;simp only[h1,h2]
theorem zEB {a:Int}(ha:okF a):(FloatKind.f64.decode (fb a)).toInt .zero=some a:=(rdF ha).2.2
end Go.Vc

namespace Go.Vc
set_option autoImplicit false
abbrev qmK (n:Int):Prop := -9223372036854775808<=n/\n<=9223372036854775807
inductive KTy where
 | s
 | i (k:IntKind)
 | p
 | w
@[reducible] def KTy.T:KTy->Type
 | .s=>List UInt8
 | .i _=>Int
 | .p=>List UInt8×List UInt8
 | .w=>List UInt8
def KTy.val:(κ:KTy)->κ.T->Value
 | .s,l=>.string ⟨l.toArray⟩
 | .i k,n=>.int k n
 | .p,q=>.agg #[.string ⟨q.1.toArray⟩,.string ⟨q.2.toArray⟩]
 | .w,l=>.string ⟨l.toArray⟩
def KTy.beq:(κ:KTy)->κ.T->κ.T->Bool
 | .s,a,b=>(a:List UInt8)==b
 | .i _,a,b=>(a:Int)==b
 | .p,a,b=>(a:List UInt8×List UInt8)==b
 | .w,a,b=>(a:List UInt8)==b
def qML {α:Type}(κ:KTy):List (κ.T×α)->κ.T->Option α
 | [],_=>none
 | (k',v)::r,k=>bif κ.beq k k' then some v else qML κ r k
def qYP {α:Type}(κ:KTy):List (κ.T×α)->κ.T->α->List (κ.T×α)
 | [],k,v=>[(k,v)]
 | (k',v')::r,k,v=>bif κ.beq k k' then(k,v)::r else(k',v')::qYP κ r k v
def qZO {α:Type}(κ:KTy):List (κ.T×α)->κ.T->List (κ.T×α)
 | [],_=>[]
 | (k',v')::r,k=>bif κ.beq k k' then r else(k',v')::qZO κ r k
inductive Ty where
 | int (k:IntKind)
 | byte
 | bool
 | str
 | flt
 | cpx
 | sl (e:Ty)
 | pr (a b:Ty)
@[reducible] def Ty.T:Ty->Type
 | .int _=>Int
 | .byte=>UInt8
 | .bool=>Bool
 | .str=>List UInt8
 | .flt=>Int
 | .cpx=>Int×Int
 | .sl e=>List e.T
 | .pr a b=>a.T×b.T
def Ty.dflt:(τ:Ty)->τ.T
 | .int _=>(0:Int)
 | .byte=>(0:UInt8)
 | .bool=>false
 | .str=>([]:List UInt8)
 | .flt=>(0:Int)
 | .cpx=>((0,0):Int×Int)
 | .sl _=>[]
 | .pr a b=>(a.dflt,b.dflt)
def Ty.isB:Ty->Bool
 | .byte=>true
 | _=>false
def Ty.size:Ty->Nat
 | .pr a b=>Nat.add a.size b.size
 | _=>1
inductive SV where
 | int (k:IntKind) (n:Int)
 | bool (b:Bool)
 | str (l:List UInt8)
 | v (x:Value)
 | loc (id off:Nat)
 | own (id:Nat)
 | nk (id i:Nat)
 | nils
 | lits (sz:Nat) (rows:List (List SV))
 | rd (τ:Ty) (l:List τ.T)
 | agg (l:List SV)
 | tup (l:List SV)
 | fn (f:FuncId) (caps:List SV)
 | el (τ:Ty) (l:List τ.T) (i off:Nat)
 | oel (id sz i off:Nat)
 | mref (id:Nat)
 | otl (id sz k:Nat)
 | flt (n:Int)
 | cpx (a b:Int)
 | und
def KTy.wv:KTy->SV->SV
 | .w,sv=>.agg [sv]
 | _,sv=>sv
def Ty.enc:(τ:Ty)->τ.T->List SV
 | .int k,n=>[.int k n]
 | .byte,b=>[.int .u8 b.toNat]
 | .bool,b=>[.bool b]
 | .str,l=>[.str l]
 | .flt,n=>[.flt n]
 | .cpx,p=>[.cpx p.1 p.2]
 | .sl e,l=>[.rd e l]
 | .pr a b,p=>a.enc p.1++b.enc p.2
def SV.one:SV->Bool
 | .agg _|.tup _|.und=>false
 | .v x=>x.oneCell'
 | _=>true
abbrev Mem:=Nat->Option Obj
def Mem.le (r r':Mem):Prop:=∀ b o,r b=some o->r' b=some o
theorem Mem.le_refl (r:Mem):r.le r:=fun _ _ h=>h
theorem Mem.le_trans {a b c:Mem}(h:a.le b) (k:b.le c):a.le c:=fun x o q=>k x o (h x o q)
abbrev qBD:=Nat->Value
def β0:qBD:=fun _=>.nilIface
def qOJ (m:Value) (hs:List Value):Value:=.tuple #[m,.tuple hs.toArray]
def hd:Value->Value
 | .tuple ⟨[m,.tuple _]⟩=>m
 | v=>v
def qA1:Value->Option Nat
 | .slice (some a) _ cap=>bif Nat.beq cap 0 then none else some a.block
 | _=>none
def NKB:Nat:=500000
@[simp] theorem qB9 (a:Option Addr) (n c:Nat):hd (.slice a n c)=.slice a n c:=rfl
@[simp] theorem qEQ (m:Value) (hs:List Value):hd (qOJ m hs)=m:=rfl
inductive Rel (r:Mem):qBD->SV->Value->Prop
  | int {β k n}:Rel r β (.int k n) (.int k n)
  | bool {β b}:Rel r β (.bool b) (.bool b)
  | str {β l}(h:l.length<=9223372036854775807):Rel r β (.str l) (.string ⟨l.toArray⟩)
  | v {β x}:Rel r β (.v x) x
  | loc {β id off b}(h:β id=.pointer (some ⟨b,0,none⟩)):Rel r β (.loc id off) (.pointer (some ⟨b,off,none⟩))
  | own {β id}(h:(hd (β id)).oneCell'=true):Rel r β (.own id) (hd (β id))
  | nk {β id i m v}{hs:List Value}(h:β id=qOJ m hs) (hi:hs[i]?=some v) (ho:v.oneCell'=true):Rel r β (.nk id i) v
  | nils {β}:Rel r β .nils (.slice none 0 0)
  | litsE {β sz a cap}:Rel r β (.lits sz []) (.slice a 0 cap)
  | lits {β sz rows b off cap c T fr}(hb:r b=some (.cells c T fr)) (hn:rows.length<=9223372036854775807) (hcap:rows.length<=cap)
      (hrow:∀ (i:Nat) (row:List SV),rows[i]?=some row->row.length=sz)
      (ho:∀ (i:Nat) (row:List SV) (j:Nat) (sv:SV),rows[i]?=some row->row[j]?=some sv->sv.one=true)
      (hc:off+rows.length*sz<=c.size)
      (hr:∀ (i:Nat) (row:List SV) (j:Nat) (sv:SV) (v:Value),rows[i]?=some row->row[j]?=some sv->c[off+i*sz+j]?=some v->Rel r β0 sv v):
      Rel r β (.lits sz rows) (.slice (some ⟨b,off,none⟩) rows.length cap)
  | rd {β τ v}{l:List (Ty.T τ)}(h:Rel r β (.lits τ.size (l.map τ.enc)) v):Rel r β (.rd τ l) v
  | agg {β l}{cs:List Value}(hl:cs.length=l.length) (h:∀ (i:Nat) (sv:SV) (v:Value),l[i]?=some sv->cs[i]?=some v->Rel r β sv v):Rel r β (.agg l) (.agg cs.toArray)
  | tup {β l}{cs:List Value}(hl:cs.length=l.length) (h:∀ (i:Nat) (sv:SV) (v:Value),l[i]?=some sv->cs[i]?=some v->Rel r β sv v):Rel r β (.tup l) (.tuple cs.toArray)
  | fn {β f l}{cs:List Value}(hl:cs.length=l.length) (h:∀ (i:Nat) (sv:SV) (v:Value),l[i]?=some sv->cs[i]?=some v->Rel r β sv v):Rel r β (.fn f l) (.func (.func f) #[] cs.toArray)
  | el {β τ b off0 n cap i off}{l:List (Ty.T τ)}(h:Rel r β (.lits τ.size (l.map τ.enc)) (.slice (some ⟨b,off0,none⟩) n cap)) (hi:i<l.length):
      Rel r β (.el τ l i off) (.pointer (some ⟨b,off0+i*τ.size+off,none⟩))
  | oel {β id sz i off b off0 n cap}(h:hd (β id)=.slice (some ⟨b,off0,none⟩) n cap):Rel r β (.oel id sz i off) (.pointer (some ⟨b,off0+i*sz+off,none⟩))
  | mref {β id b}(h:β id=.map (some b)):Rel r β (.mref id) (.map (some b))
  | otl {β id sz k n cap}{a:Option Addr}(h:hd (β id)=.slice a n cap) (hk:k<=n) (hn:n<=cap):Rel r β (.otl id sz k) (.slice (if cap-k=0 then a else a.map (·.add (k*sz))) (n-k) (cap-k))
  | flt {β n}:Rel r β (.flt n) (.float .f64 (fb n))
  | cpx {β a b}:Rel r β (.cpx a b) (.complex .f64 (fb a) (fb b))
  | und {β v}:Rel r β .und v
theorem Rel.mono {r r':Mem}(hr:r.le r') {β:qBD}{sv:SV}{v:Value}(h:Rel r β sv v):Rel r' β sv v:=by
 induction h with
 | int=>exact .int
 | bool=>exact .bool
 | str h=>exact .str h
 | v=>exact .v
 | loc h=>exact .loc h
 | own h=>exact .own h
 | nk h hi ho=>exact .nk h hi ho
 | nils=>exact .nils
 | litsE=>exact .litsE
 | lits hb hn hcap hrow ho hc hr' ih=>exact .lits (hr _ _ hb) hn hcap hrow ho hc ih
 | rd _ ih=>exact .rd ih
 | agg hl _ ih=>exact .agg hl ih
 | tup hl _ ih=>exact .tup hl ih
 | fn hl _ ih=>exact .fn hl ih
 | el _ hi ih=>exact .el ih hi
 | oel h=>exact .oel h
 | mref h=>exact .mref h
 | otl h hk hn=>exact .otl h hk hn
 | flt=>exact .flt
 | cpx=>exact .cpx
 | und=>exact .und
mutual
def SV.okIds (p:Nat->Bool):SV->Bool
 | .loc id _=>p id
 | .own id=>p id
 | .nk id _=>p id&&p (Nat.add id NKB)
 | .oel id _ _ _=>p id
 | .mref id=>p id
 | .otl id _ _=>p id
 | .agg l=>SV.okIdsL p l
 | .tup l=>SV.okIdsL p l
 | .fn _ l=>SV.okIdsL p l
 | _=>true
def SV.okIdsL (p:Nat->Bool):List SV->Bool
 | []=>true
 | x::r=>SV.okIds p x&&SV.okIdsL p r
end
theorem SV.okIdsL_get {p:Nat->Bool}{l:List SV}(h:SV.okIdsL p l=true) (i:Nat) (sv:SV) (hi:l[i]?=some sv):sv.okIds p=true:=by
 induction l generalizing i with
 | nil=>simp at hi
 | cons x r ih=>
  simp only[SV.okIdsL,yAC] at h;cases i with
  | zero=>simp at hi;subst hi;exact h.1
  | succ i=>simp at hi;exact ih h.2 i hi
theorem Rel.bind {r:Mem}{β β':qBD}{p:Nat->Bool}(hp:∀ id,p id=true->β' id=β id) {sv:SV}{v:Value}(h:Rel r β sv v)
  (hs:sv.okIds p=true):Rel r β' sv v:=by
 induction h with
 | int=>exact .int
 | bool=>exact .bool
 | str h=>exact .str h
 | v=>exact .v
 | loc h=>exact .loc (by rw[hp _ (by simpa[SV.okIds] using hs)];exact h)
 | @own β id h=>rw[<-hp id (by simpa[SV.okIds] using hs)] at h ⊢;exact .own h
 | nk h hi ho=>exact .nk (by rw[hp _ (by simp only[SV.okIds,yAC] at hs;exact hs.1)];exact h) hi ho
 | nils=>exact .nils
 | litsE=>exact .litsE
 | lits hb hn hcap hrow ho hc hr' ih=>exact .lits hb hn hcap hrow ho hc hr'
 | rd _ ih=>exact .rd (ih hp rfl)
 | agg hl _ ih=>exact .agg hl fun i sv v h1 h2=>ih i sv v h1 h2 hp (SV.okIdsL_get (by simpa[SV.okIds] using hs) i sv h1)
 | tup hl _ ih=>exact .tup hl fun i sv v h1 h2=>ih i sv v h1 h2 hp (SV.okIdsL_get (by simpa[SV.okIds] using hs) i sv h1)
 | fn hl _ ih=>exact .fn hl fun i sv v h1 h2=>ih i sv v h1 h2 hp (SV.okIdsL_get (by simpa[SV.okIds] using hs) i sv h1)
 | el _ hi ih=>exact .el (ih hp rfl) hi
 | oel h=>exact .oel (by rw[hp _ (by simpa[SV.okIds] using hs)];exact h)
 | mref h=>exact .mref (by rw[hp _ (by simpa[SV.okIds] using hs)];exact h)
 | otl h hk hn=>exact .otl (by rw[hp _ (by simpa[SV.okIds] using hs)];exact h) hk hn
 | flt=>exact .flt
 | cpx=>exact .cpx
 | und=>exact .und
inductive Chunk where
 | bx (To:Option Nat) (cells:List SV)
 | own (τ:Ty) (l:List τ.T)
 | iter (s:List UInt8) (pos:Nat)
 | mp (κ:KTy) (τ:Ty) (l:List (κ.T×τ.T))
 | ro (τ:Ty) (l:List τ.T)
 | ow (τ:Ty) (l:List τ.T)
 | gh (i:Option Nat)
 | nst (τ:Ty) (p:Nat) (l:List τ.T) (pend:Option Nat)
 | mz
 | mi (κ:KTy) (τ:Ty) (left:List (κ.T×τ.T)) (cur:Option (κ.T×τ.T))
 | foc (τ:Ty) (l:List τ.T) (i p e:Nat) (g:Value)
 | owg (τ:Ty) (l:List τ.T) (g:Value)
@[match_pattern,reducible] def Chunk.box (cells:List SV):Chunk:=.bx none cells
def Chunk.kind:Chunk->Nat
 | .own _ _=>0
 | .bx _ _=>1
 | .iter _ _=>2
 | .mp _ _ _=>3
 | .ro _ _=>4
 | .ow _ _=>6
 | .gh _=>5
 | .nst _ _ _ _=>0
 | .mz=>3
 | .mi _ _ _ _=>7
 | .foc _ _ _ _ _ _=>0
 | .owg _ _ _=>0
def ghV:Option Nat->Value
 | some i=>.int .i64 i
 | none=>.int .i64 (-1)
theorem qkG {a b:Option Nat}(h:ghV a=ghV b):a=b:=by
 cases a<;>cases b<;>simp only[ghV,Value.int.injEq,true_and] at h<;>first|rfl|omega|(congr 1;omega)
abbrev Phi:=List (Nat×Chunk)
def Phi.get:Phi->Nat->Option Chunk
 | [],_=>none
 | (k,c)::r,j=>bif Nat.beq k j then some c else Phi.get r j
def Phi.row (Φ:Phi) (id:Nat):Option Chunk:=match Φ.get id with|some (.ro τ l)=>some (.own τ l)|some (.ow τ l)=>some (.own τ l)|some (.owg τ l _)=>some (.own τ l)|o=>o
def Chunk.blk:Chunk->Value->Option Nat
 | .bx _ _,.pointer (some a)=>some a.block
 | .iter _ _,.pointer (some a)=>some a.block
 | .mp _ _ _,.map (some b)=>some b
 | .mi _ _ _ _,.pointer (some a)=>some a.block
 | .own _ _,.slice (some a) _ cap=>bif Nat.beq cap 0 then none else some a.block
 | .ro _ _,.slice (some a) _ cap=>bif Nat.beq cap 0 then none else some a.block
 | .ow _ _,.slice (some a) _ cap=>bif Nat.beq cap 0 then none else some a.block
 | .foc _ _ _ _ _ _,.slice (some a) _ cap=>bif Nat.beq cap 0 then none else some a.block
 | .owg _ _ _,.slice (some a) _ cap=>bif Nat.beq cap 0 then none else some a.block
 | _,_=>none
def zGC (v:Value) (b:Nat):Prop:=∃ m hs,v=qOJ m hs/\(qA1 m=some b\/∃ h∈hs,qA1 h=some b)
def Chunk.hb:Chunk->Value->Nat->Prop
 | .nst _ _ _ _,v,b=>zGC v b
 | ch,v,b=>ch.blk v=some b
def qnA (bt:Bool) (off:Nat) (T:TypeId) (c:Array Value) (fr:Nat×Nat):Prop:=(bt=true->T=5/\off=0)/\(fr=(0,0)\/(bt=true/\fr=(c.size,c.size+1)))
theorem qnA.cell {bt off T c fr}(h:qnA bt off T c fr) (j:Nat) (hj:j<c.size):¬(fr.1<=j/\j<fr.2):=by
 rcases h.2 with rfl|⟨_,rfl⟩<;>simp<;>omega
theorem qnA.turn {bt off T c c' fr}(h:qnA bt off T c fr) (hs:c'.size=c.size):qnA bt off T c' fr:=by
 rcases h with⟨h0,rfl|⟨h,rfl⟩⟩
 ·exact⟨h0,.inl rfl⟩
 ·exact⟨h0,.inr ⟨h,by rw[hs]⟩⟩
def qAZ (r:Mem) (w:World) (x:Value) (bt:Bool) (sz:Nat) (rows:List (List SV)):Prop:=
 (∃ a,x=.slice a 0 0/\rows=[])\/
 ∃ b off cap c T fr,x=.slice (some ⟨b,off,none⟩) rows.length cap/\cap≠0/\w.heap[b]?=some (.cells c T fr)/\qnA bt off T c fr/\
  cap<=9223372036854775807/\rows.length<=cap/\off+cap*sz<=c.size/\(∀ (i:Nat) (row:List SV),rows[i]?=some row->row.length=sz)/\
  (∀ (i:Nat) (row:List SV) (j:Nat) (sv:SV),rows[i]?=some row->row[j]?=some sv->sv.one=true)/\
  (∀ (i:Nat) (row:List SV) (j:Nat) (sv:SV) (v:Value),rows[i]?=some row->row[j]?=some sv->c[off+i*sz+j]?=some v->Rel r β0 sv v)
theorem qAZ.hd {r:Mem}{w:World}{x:Value}{bt:Bool}{sz:Nat}{rows:List (List SV)}(h:qAZ r w x bt sz rows):hd x=x:=by
 rcases h with⟨a,rfl,_⟩|⟨b,off,cap,c,T,fr,rfl,_⟩<;>rfl
def qH1 (τ:Ty) (p:Nat) (a:τ.T) (g:Value):List SV:=(τ.enc a).set p (.v g)
def qCS (τ:Ty) (p:Nat):List τ.T->List Value->List (List SV)
 | a::l,g::gs=>qH1 τ p a g::qCS τ p l gs
 | _,_=>[]
def qGI (τ:Ty) (p:Nat) (a:τ.T) (ks:List Int):Prop:=(τ.enc a)[p]?=some (.rd (.int .i64) ks)
def qhA (r:Mem) (κ:KTy) (τ:Ty) (e:MapEntry) (x:κ.T×τ.T):Prop:=e.key=κ.val x.1/\∃ sv, τ.enc x.2=[sv]/\sv.one=true/\Rel r β0 (κ.wv sv) e.val
def qNX (es:Array MapEntry) (seen:Array Nat):List MapEntry:=es.toList.filter fun e => !seen.contains e.born
def qCC (τ:Ty) (l:List τ.T) (i p:Nat) (g:Value):List (List SV):=(l.map τ.enc).set i (qH1 τ p (l.getD i τ.dflt) g)
inductive Chunk.Sat (r:Mem) (β:qBD) (w:World) (x:Value):Chunk->Prop
  | box {b c T To cells}(hx:x=.pointer (some ⟨b,0,none⟩)) (hw:w.heap[b]?=some (.cells c T (0,0))) (hl:c.size=cells.length)
      (h:∀ (i:Nat) (sv:SV) (v:Value),cells[i]?=some sv->c[i]?=some v->Rel r β sv v) (hT:∀ t,To=some t->T=t):Chunk.Sat r β w x (.bx To cells)
  | own {τ}{l:List (Ty.T τ)}(h:qAZ r w x τ.isB τ.size (l.map τ.enc)):Chunk.Sat r β w x (.own τ l)
  | iter {b s pos}(hx:x=.pointer (some ⟨b,0,none⟩)) (hw:w.heap[b]?=some (.stringIter ⟨s.toArray⟩ pos)) (hs:s.length<=9223372036854775807):Chunk.Sat r β w x (.iter s pos)
  | mp {b es clock}{κ:KTy}{τ:Ty}{l:List (KTy.T κ×Ty.T τ)}(hx:x=.map (some b)) (hw:w.heap[b]?=some (.map es clock)) (hl:es.size=l.length)
      (hk:∀ (i:Nat) (k:κ.T) (v:τ.T) (e:MapEntry),l[i]?=some (k,v)->es[i]?=some e->e.key=κ.val k)
      (hv:∀ (i:Nat) (k:κ.T) (v:τ.T) (e:MapEntry),l[i]?=some (k,v)->es[i]?=some e->∃ sv, τ.enc v=[sv]/\sv.one=true/\Rel r β0 (κ.wv sv) e.val)
      (hb:∀ (i:Nat) (e:MapEntry),es[i]?=some e->e.born<clock) (hn:es.toList.Pairwise fun a b=>a.born≠b.born):Chunk.Sat r β w x (.mp κ τ l)
  | ro {τ}{l:List (Ty.T τ)}(h:qAZ r w x τ.isB τ.size (l.map τ.enc)):Chunk.Sat r β w x (.ro τ l)
  | ow {τ}{l:List (Ty.T τ)}(h:qAZ r w x τ.isB τ.size (l.map τ.enc)):Chunk.Sat r β w x (.ow τ l)
  | gh {i}(hx:x=ghV i):Chunk.Sat r β w x (.gh i)
  | nst {τ p pend m}{l:List (Ty.T τ)}{hs gs:List Value}(hx:x=qOJ m hs) (hl:hs.length=l.length) (gl:gs.length=l.length)
      (hm:qAZ r w m false τ.size (qCS τ p l gs)) (hg:∀ i,pend≠some i->gs[i]?=hs[i]?) (ho:∀ g∈gs,g.oneCell'=true)
      (hk:∀ (i:Nat) (a:τ.T) (h:Value),l[i]?=some a->hs[i]?=some h->∃ ks,qGI τ p a ks/\qAZ r w h false 1 (ks.map (Ty.enc (.int .i64))))
      (h0:∀ (h:Value) (b:Nat),h∈hs->qA1 h=some b->qA1 m≠some b)
      (h1:∀ (i j:Nat) (h h':Value) (b:Nat),hs[i]?=some h->hs[j]?=some h'->qA1 h=some b->qA1 h'=some b->i=j):Chunk.Sat r β w x (.nst τ p l pend)
  | mz {b}(hx:x=.map (some b)):Chunk.Sat r β w x .mz
  | foc {τ i p e g}{l:List (Ty.T τ)}(hi:i<l.length) (hp:p<τ.size) (hg:g.oneCell'=true) (h:qAZ r w x false τ.size (qCC τ l i p g)):Chunk.Sat r β w x (.foc τ l i p e g)
  | owg {τ g}{l:List (Ty.T τ)}(hx:x=g) (h:qAZ r w x τ.isB τ.size (l.map τ.enc)):Chunk.Sat r β w x (.owg τ l g)
  | mi {rb b es clock seen}{κ:KTy}{τ:Ty}{left:List (KTy.T κ×Ty.T τ)}{cur:Option (KTy.T κ×Ty.T τ)}(hx:x=.pointer (some ⟨rb,0,none⟩)) (hw:w.heap[rb]?=some (.mapIter (some b) clock seen clock))
      (hr:r b=some (.map es clock)) (hold:∀ e∈es.toList,e.born<clock) (hn:es.toList.Pairwise fun a b=>a.born≠b.born)
      (hl:(qNX es seen).length=left.length) (hk:∀ (i:Nat) (y:κ.T×τ.T) (e:MapEntry),left[i]?=some y->(qNX es seen)[i]?=some e->qhA r κ τ e y)
      (hc:∀ y,cur=some y->∃ (e:MapEntry) (seen':Array Nat),seen=seen'.push e.born/\e∈es.toList/\qhA r κ τ e y):Chunk.Sat r β w x (.mi κ τ left cur)
structure MemSat (r:Mem) (β:qBD) (Φ:Phi) (w:World):Prop where
 vis:∀ b o,r b=some o->w.heap[b]?=some o
 chs:∀ id ch, Φ.get id=some ch->ch.Sat r β w (β id)
 sep:∀ id ch b, Φ.get id=some ch->ch.hb (β id) b->r b=none
 nod:∀ id id' ch ch' b, Φ.get id=some ch->Φ.get id'=some ch'->ch.hb (β id) b->ch'.hb (β id') b->id=id'
abbrev Ent:=Nat×Option (Nat×Bool)×SV
abbrev Env:=List Ent
def Env.get:Env->Nat->Option (Option (Nat×Bool)×SV)
 | [],_=>none
 | (k,g,sv)::r,j=>bif Nat.beq k j then some (g,sv) else Env.get r j
def qH8 (r:Mem) (β:qBD) (t:Array Value) (k:Nat):Option (Nat×Bool)->SV->Prop
 | none,sv=>∃ v,t[k]?=some v/\Rel r β sv v
 | some (s,w),sv=>(t[s]?=some (.bool w)->∃ v,t[k]?=some v/\Rel r β sv v)/\(t[s]?≠some (.bool w)->t[k]?=some undef)
def Agree (r:Mem) (β:qBD) (σ:Env) (t:Array Value):Prop:=∀ k g sv, σ.get k=some (g,sv)->qH8 r β t k g sv
end Go.Vc

namespace Go.Vc
set_option autoImplicit false
structure Ob (p:Prop):Prop where
 h:p
def nth {α:Type _}:List α->Nat->Option α
 | [],_=>none
 | x::_,0=>some x
 | _::r,n+1=>nth r n
def qh5:IntKind->Nat
 | .i8=>0|.i16=>1|.i32=>2|.i64=>3|.u8=>4|.u16=>5|.u32=>6|.u64=>7
def kEq (a b:IntKind):Bool:=Nat.beq (qh5 a) (qh5 b)
def qpB:IntKind->IntKind->Bool
 | .u8,.u8|.u8,.i32|.u8,.i64|.u8,.u64|.u8,.u32|.i32,.i32|.i32,.i64|.i64,.i64|.u32,.i64|.u32,.u64|.u32,.u32|.u64,.u64=>true
 | _,_=>false
def kIn:IntKind->Int->Prop
 | .i64,n=>qmK n
 | .i32,n => -2147483648<=n/\n<=2147483647
 | .u8,n=>0<=n/\n<=255
 | .u32,n=>0<=n/\n<=4294967295
 | .u64,n=>0<=n/\n<=18446744073709551615
 | k,n=>k.min<=n/\n<=k.max
def qAW (P:Program) (t:TypeId):Nat:=match P.info? t with|some i=>i.size|none=>0
def qEZ (P:Program) (e:TypeId) (sz:Nat):Bool:=match P.info? e with|some i=>Nat.beq i.size sz|none=>false
def qfC (b:Nat):Option Int:=
 bif Nat.beq b 0 then some 0 else bif Nat.beq b 4607182418800017408 then some 1 else bif Nat.beq b 13830554455654793216 then some (-1) else
 bif Nat.beq b 4611686018427387904 then some 2 else bif Nat.beq b 4613937818241073152 then some 3 else bif Nat.beq b 4616189618054758400 then some 4 else
 bif Nat.beq b 4617315517961601024 then some 5 else bif Nat.beq b 4618441417868443648 then some 6 else bif Nat.beq b 4619567317775286272 then some 7 else none
def qZA (x:Value) (K:SV->Prop):Prop:=
 match x with
 | .int k n=>K (.int k n)
 | .bool b=>K (.bool b)
 | .string ⟨⟨l⟩⟩=>bif Nat.ble l.length 9223372036854775807 then K (.str l) else K (.v x)
 | .slice none 0 0=>K .nils
 | .float .f64 b=>(match qfC b with|some n=>K (.flt n)|none=>K (.v (.float .f64 b)))
 | .complex .f64 a b=>(match qfC a,qfC b with|some n,some m=>K (.cpx n m)|_,_=>K (.v (.complex .f64 a b)))
 | x=>K (.v x)
def qW3:List Value->(List SV->Prop)->Prop
 | [],K=>K []
 | x::r,K=>qZA x fun a=>qW3 r fun l=>K (a::l)
def qM5 (x:Value) (K:SV->Prop):Prop:=
 match x with
 | .agg ⟨l⟩=>qW3 l fun l=>K (.agg l)
 | x=>qZA x K
abbrev Ctx:=List (Nat×Bool)
def qGJ (s:Nat) (w:Bool):Ctx->Bool
 | []=>false
 | (s',w')::r=>bif Nat.beq s s' then(bif w then w' else !w') else qGJ s w r
def opK (σ:Env) (ctx:Ctx) (x:Operand) (K:SV->Prop):Prop:=
 match x with
 | .tmp t=>
  match σ.get t with
  | some (none,sv)=>K sv
  | some (some (s,w),sv)=>bif qGJ s w ctx then K sv else K .und
  | none=>K .und
 | .const v=>qM5 v K
 | .func f=>K (.fn f [])
 | .global g=>K (.v (.pointer (some ⟨g,0,none⟩)))
def qgT (σ:Env) (ctx:Ctx):List Operand->(List SV->Prop)->Prop
 | [],K=>K []
 | x::r,K=>opK σ ctx x fun a=>qgT σ ctx r fun l=>K (a::l)
def qnP (σ:Env):Nat->Nat->Bool->(Ctx->(Prop->Prop)->Prop)->Prop
 | 0,_,_,_=>False
 | f+1,s,w,K=>
  match σ.get s with
  | some (none,.bool b)=>K [(s,w)] (fun p=>b=w->p)
  | some (some (s',w'),.bool b)=>qnP σ f s' w' fun c g=>K ((s,w)::c) (fun p=>g (b=w->p))
  | _=>False
def qVJ (k:IntKind) (n:Int) (g:Prop->Prop) (K:SV->Prop):Prop:=
 match k with
 | .i64=>g (Ob (qmK n))/\K (.int .i64 n)
 | k=>K (.int k (k.wrap n))
def qOH (op:BinOp) (k:IntKind) (x y:Int):Int:=
 let a:=BitVec.ofInt k.bits x
 let b:=BitVec.ofInt k.bits y
 match op with
 | .and=>k.wrap (a &&& b).toNat
 | .or=>k.wrap (a ||| b).toNat
 | .xor=>k.wrap (a ^^^ b).toNat
 | _=>k.wrap (a &&& ~~~b).toNat
def qcP (op:BinOp) (k:IntKind) (a b:Int) (g:Prop->Prop) (K:SV->Prop):Prop:=
 match op with
 | .add=>qVJ k (a+b) g K
 | .sub=>qVJ k (a-b) g K
 | .mul=>qVJ k (a*b) g K
 | .quo=>g (Ob (b≠0))/\qVJ k (a.tdiv b) g K
 | .rem=>g (Ob (b≠0))/\K (.int k (a.tmod b))
 | .and=>K (.int k (qOH .and k a b))
 | .or=>K (.int k (qOH .or k a b))
 | .xor=>K (.int k (qOH .xor k a b))
 | .andNot=>K (.int k (qOH .andNot k a b))
 | .eql=>K (.bool (a==b))
 | .neq=>K (.bool (a != b))
 | .lss=>K (.bool (decide (a<b)))
 | .leq=>K (.bool (decide (a<=b)))
 | .gtr=>K (.bool (decide (a>b)))
 | .geq=>K (.bool (decide (a>=b)))
 | _=>False
def qm3 (op:BinOp) (k:IntKind) (a:Int) (k':IntKind) (b:Int) (g:Prop->Prop) (K:SV->Prop):Prop:=
 match op with
 | .shl=>g (Ob (0<=b))/\K (.int k (k.wrap (a*2 ^ (min b.toNat k.bits))))
 | .shr=>g (Ob (0<=b))/\K (.int k (a.fdiv (2 ^ (min b.toNat k.bits))))
 | op=>bif kEq k k' then qcP op k a b g K else False
def qm0 (op:BinOp) (a b:List UInt8) (g:Prop->Prop) (K:SV->Prop):Prop:=
 match op with
 | .add=>g (Ob (a.length+b.length<=9223372036854775807))/\K (.str (a++b))
 | .eql=>K (.bool (a==b))
 | .neq=>K (.bool (!(a==b)))
 | .lss=>K (.bool (Op.bytesLess a b))
 | .leq=>K (.bool (Op.bytesLess a b||a==b))
 | .gtr=>K (.bool (!(Op.bytesLess a b||a==b)))
 | .geq=>K (.bool (!(Op.bytesLess a b)))
 | _=>False
def qmU (op:BinOp) (a b:Int) (g:Prop->Prop) (K:SV->Prop):Prop:=
 match op with
 | .add=>g (Ob (okF a/\okF b))/\K (.flt (a+b))
 | .sub=>g (Ob (okF a/\okF b))/\K (.flt (a-b))
 | .eql=>g (Ob (okF a/\okF b))/\K (.bool (a==b))
 | .neq=>g (Ob (okF a/\okF b))/\K (.bool (a != b))
 | .lss=>g (Ob (okF a/\okF b))/\K (.bool (decide (a<b)))
 | .leq=>g (Ob (okF a/\okF b))/\K (.bool (decide (a<=b)))
 | .gtr=>g (Ob (okF a/\okF b))/\K (.bool (decide (a>b)))
 | .geq=>g (Ob (okF a/\okF b))/\K (.bool (decide (a>=b)))
 | _=>False
def qk1 (op:BinOp) (a b c d:Int) (g:Prop->Prop) (K:SV->Prop):Prop:=
 match op with
 | .sub=>g (Ob (okF a/\okF b/\okF c/\okF d))/\K (.cpx (a-c) (b-d))
 | .eql=>g (Ob (okF a/\okF b/\okF c/\okF d))/\K (.bool (a==c&&b==d))
 | .neq=>g (Ob (okF a/\okF b/\okF c/\okF d))/\K (.bool (!(a==c&&b==d)))
 | _=>False
def qgI (P:Program) (op:BinOp) (t:TypeId) (x y:SV) (g:Prop->Prop) (K:SV->Prop):Prop:=
 match x,y with
 | .flt a,.flt b=>qmU op a b g K
 | .cpx a b,.cpx c d=>qk1 op a b c d g K
 | .int k a,.int k' b=>qm3 op k a k' b g K
 | .str a,.str b=>qm0 op a b g K
 | .bool a,.bool b=>
  match P.underlying t,op with
  | some .bool,.eql=>K (.bool (a==b))
  | some .bool,.neq=>K (.bool (!(a==b)))
  | _,_=>False
 | _,_=>False
def zCR (op:UnOp) (x:SV) (g:Prop->Prop) (K:SV->Prop):Prop:=
 match op,x with
 | .not,.bool b=>K (.bool (!b))
 | .neg,.int k n=>qVJ k (0-n) g K
 | .xor,.int k n=>K (.int k (qOH .xor k (if k.signed then -1 else k.max) n))
 | _,_=>False
def qZP (P:Program) (src dst:TypeId) (x:SV) (g:Prop->Prop) (K:SV->Prop):Prop:=
 match P.underlying src,P.underlying dst,x with
 | some _,some (.int k'),.int k n=>bif qpB k k' then g (Ob (kIn k' n))/\K (.int k' n) else K (.int k' (k'.wrap n))
 | some _,some .string,.int _ n=>K (.str (Utf8.encode n).data.toList)
 | some _,some .string,.str l=>K (.str l)
 | some _,some (.float .f64),.int _ n=>K (.flt n)
 | some _,some (.int .i64),.flt n=>g (Ob (okF n))/\K (.int .i64 n)
 | _,_,_=>False
def qfX:IntKind->List SV->(List Int->Prop)->Prop
 | _,[],K=>K []
 | k,.int k' n::r,K=>bif kEq k k' then qfX k r fun l=>K (n::l) else False
 | _,_,_=>False
def qfS:List SV->(List (List UInt8)->Prop)->Prop
 | [],K=>K []
 | .str l::r,K=>qfS r fun ls=>K (l::ls)
 | _,_=>False
def len:List SV->Nat
 | []=>0
 | _::r=>Nat.succ (len r)
def qWX (P:Program) (t:TypeId) (x i:SV) (g:Prop->Prop) (K:SV->Prop):Prop:=
 match P.underlying t,x,i with
 | some .string,.str l,.int _ i=>g (Ob (0<=i/\i<l.length))/\K (.int .u8 (l.getD i.toNat 0).toNat)
 | some (.array n e),.agg cs,.int _ i=>
  match P.underlying e with
  | some (.int k)=>bif qEZ P e 1&&Nat.beq (len cs) n then g (Ob (0<=i/\i<n))/\qfX k cs fun ns=>K (.int k (ns.getD i.toNat 0)) else False
  | some .string=>bif qEZ P e 1&&Nat.beq (len cs) n then g (Ob (0<=i/\i<n))/\qfS cs fun ls=>K (.str (ls.getD i.toNat [])) else False
  | _=>False
 | _,_,_=>False
def loK (σ:Env) (ctx:Ctx) (x:Option Operand) (K:Option Int->Prop):Prop:=
 match x with
 | none=>K none
 | some o=>opK σ ctx o fun
  | .int _ i=>K (some i)
  | _=>False
def qV7 (P:Program) (t:TypeId) (x:SV) (lo hi:Option Int) (g:Prop->Prop) (K:SV->Prop):Prop:=
 match P.underlying t,x with
 | some .string,.str l=>
  match lo,hi with
  | none,none=>K (.str l)
  | some a,none=>g (Ob (0<=a/\a<=l.length))/\K (.str (l.drop a.toNat))
  | none,some b=>g (Ob (0<=b/\b<=l.length))/\K (.str (l.take b.toNat))
  | some a,some b=>g (Ob (0<=a/\a<=b/\b<=l.length))/\K (.str ((l.take b.toNat).drop a.toNat))
 | some (.slice e),.rd τ l=>
  bif qEZ P e τ.size then
  match lo,hi with
  | none,none=>K (.rd τ l)
  | some a,none=>g (Ob (0<=a/\a<=l.length))/\K (.rd τ (l.drop a.toNat))
  | none,some b=>g (Ob (0<=b/\b<=l.length))/\K (.rd τ (l.take b.toNat))
  | some a,some b=>g (Ob (0<=a/\a<=b/\b<=l.length))/\K (.rd τ ((l.take b.toNat).drop a.toNat))
  else False
 | _,_=>False
def qnC (ung:Bool) (n:Nat) (K:SV->Prop):Prop:=
 bif ung then(n<=9223372036854775807->K (.int .i64 n)) else K (.int .i64 n)
def ql8 (P:Program) (Φ:Phi) (t:TypeId) (x:SV) (ung:Bool) (K:SV->Prop):Prop:=
 match P.underlying t,x with
 | some .string,.str l=>qnC ung l.length K
 | some (.slice _),.rd _ l=>qnC ung l.length K
 | some (.slice _),.lits _ rows=>qnC ung rows.length K
 | some (.slice _),.nils=>K (.int .i64 0)
 | some (.slice _),.own id=>
  match Φ.row id with
  | some (.own _ l)=>qnC ung l.length K
  | some (.nst _ _ l _)=>qnC ung l.length K
  | _=>False
 | _,_=>False
def qKK (mx:Bool):SV->List SV->(SV->Prop)->Prop
 | x,[],K=>K x
 | .int k a,.int _ b::r,K=>qKK mx (.int k (bif mx then max a b else min a b)) r K
 | _,_,_=>False
def qNJ (P:Program) (Φ:Phi) (b:Builtin) (ts:List TypeId) (xs:List SV) (ung:Bool) (K:SV->Prop):Prop:=
 match b,ts,xs with
 | .len,t::_,[x]=>ql8 P Φ t x ung K
 | .min,_,x::r=>qKK false x r K
 | .max,_,x::r=>qKK true x r K
 | .complex,_,[.flt a,.flt b]=>K (.cpx a b)
 | .real,_,[.cpx a _]=>K (.flt a)
 | .imag,_,[.cpx _ b]=>K (.flt b)
 | _,_,_=>False
def qgP:List SV->Nat->Nat->(List SV->Prop)->Prop
 | _,0,0,K=>K []
 | x::r,0,n+1,K=>qgP r 0 n fun l=>K (x::l)
 | _::r,o+1,n,K=>qgP r o n K
 | [],_,_,_=>False
def qPL:TypeDesc->Bool
 | .struct _|.array _ _=>true
 | _=>false
def qP9 (P:Program) (t:TypeId) (cs:List SV) (off:Nat) (K:SV->Prop):Prop:=
 match P.underlying t with
 | none=>False
 | some d=>
  bif qPL d then qgP cs off (qAW P t) fun l=>K (.agg l)
  else match nth cs off with
   | some sv=>K sv
   | none=>False
def qIP:List SV->Nat->SV->List SV
 | [],_,_=>[]
 | _::r,0,y=>y::r
 | x::r,n+1,y=>x::qIP r n y
def qh8 (sv:SV) (K:SV->Prop):Prop:=bif sv.okIds (fun _=>false) then K sv else False
def qVI (P:Program) (t:TypeId) (x:SV) (f:Nat) (K:SV->Prop):Prop:=
 match P.underlying t,x with
 | some (.struct ⟨fs⟩),.agg cs=>(match nth fs f with|some fd=>qP9 P fd.type cs fd.offset K|none=>False)
 | _,_=>False
def qZM (P:Program) (Φ:Phi) (t:TypeId) (x:SV) (g:Prop->Prop) (K:SV->Prop):Prop:=
 match x with
 | .loc id off=>(match Φ.get id with|some (.bx _ cs)=>qP9 P t cs off K|_=>False)
 | .el τ l i off=>qP9 P t (τ.enc (l.getD i τ.dflt)) off fun sv=>qh8 sv K
 | .oel id sz0 i off=>(match Φ.row id with|some (.own τ l)=>(bif Nat.beq sz0 τ.size then g (Ob (i<l.length))/\(qP9 P t (τ.enc (l.getD i τ.dflt)) off fun sv=>qh8 sv K) else False)|some (.nst τ p l none)=>(bif Nat.beq sz0 τ.size then g (Ob (i<l.length))/\qP9 P t (qIP (τ.enc (l.getD i τ.dflt)) p (.nk id i)) off K else False)|some (.foc τ l i0 p e g0)=>(bif Nat.beq sz0 τ.size then g (Ob (i=i0))/\(match Φ.get e with|some (.owg _ _ g1)=>g (g1=g0)/\qP9 P t (qIP (τ.enc (l.getD i τ.dflt)) p (.own e)) off K|_=>False) else False)|_=>False)
 | _=>False
def qqP:Nat->(Nat->Prop)->Prop
 | 0,K=>K 0
 | 1,K=>K 1
 | 2,K=>K 2
 | 3,K=>K 3
 | 4,K=>K 4
 | 5,K=>K 5
 | 6,K=>K 6
 | 7,K=>K 7
 | 8,K=>K 8
 | 9,K=>K 9
 | 10,K=>K 10
 | 11,K=>K 11
 | 12,K=>K 12
 | n,K=>K n
theorem qWY (n:Nat) (K:Nat->Prop):qqP n K=K n:=by unfold qqP;split<;>rfl
def qIL (P:Program) (t:TypeId) (x:SV) (f:Nat) (K:SV->Prop):Prop:=
 match P.underlying t with
 | some (.struct ⟨fs⟩)=>
  match nth fs f with
  | some fd=>
   bif Nat.beq (qAW P fd.type) 0 then False else
   match x with
   | .loc id off=>qqP (Nat.add off fd.offset) fun o=>K (.loc id o)
   | .el τ l i off=>qqP (Nat.add off fd.offset) fun o=>K (.el τ l i o)
   | .oel id sz i off=>qqP (Nat.add off fd.offset) fun o=>K (.oel id sz i o)
   | _=>False
  | none=>False
 | _=>False
def qIH (P:Program) (Φ:Phi) (t:TypeId) (x i:SV) (g:Prop->Prop) (K:SV->Prop):Prop:=
  match P.underlying t,x,i with
  | some (.slice e),.rd τ l,.int _ i=>bif qEZ P e τ.size then g (Ob (0<=i/\i<l.length))/\K (.el τ l i.toNat 0) else False
  | some (.slice e),.own id,.int _ i=>
    (match Φ.row id with
     | some (.own τ l)=>bif qEZ P e τ.size then g (Ob (0<=i/\i<l.length))/\K (.oel id τ.size i.toNat 0) else False
     | some (.nst τ _ l _)=>bif qEZ P e τ.size then g (Ob (0<=i/\i<l.length))/\K (.oel id τ.size i.toNat 0) else False
     | _=>False)
  | _,_,_=>False
def qoJ (x:SV) (K:SV->Prop):Prop:=
 match x with
 | .loc _ _|.el _ _ _ _|.oel _ _ _ _=>K x
 | _=>False
def qgF (σ:Env) (ctx:Ctx) (s:Nat) (w:Bool) (x:Operand) (K:SV->Prop):Prop:=opK σ ((s,w)::ctx) x K
def qeP (σ:Env) (ctx:Ctx) (c a b:Operand) (K:SV->Prop):Prop:=
 match c with
 | .tmp s=>opK σ ctx c fun
  | .bool t=>qgF σ ctx s true a fun x=>qgF σ ctx s false b fun y=>
   match a,b,x,y with
   | .const (.bool true),_,_,.bool y=>K (.bool (t||y))
   | _,.const (.bool false),.bool x,_=>K (.bool (t&&x))
   | _,_,.bool x,.bool y=>K (.bool (bif t then x else y))
   | _,_,x,y=>(t=true->K x)/\(t=false->K y)
  | .v (.bool true)=>qgF σ ctx s true a K
  | .v (.bool false)=>qgF σ ctx s false b K
  | _=>False
 | _=>False
def qG0:List SV->Bool
 | []=>true
 | x::r=>x.one&&qG0 r
def qO2 (x:SV) (K:List SV->Prop):Prop:=
 match x with
 | .agg l=>bif qG0 l then K l else False
 | x=>bif x.one then K [x] else False
def qEF:List SV->Nat->List SV->(List SV->Prop)->Prop
 | cs,_,[],K=>K cs
 | _::r,0,x::xs,K=>qEF r 0 xs fun l=>K (x::l)
 | c::r,o+1,xs,K=>qEF r o xs fun l=>K (c::l)
 | [],_,_::_,_=>False
def qaE (σ:Env) (ctx:Ctx) (place:Nat->Option (Nat×Nat)):List (Nat×Operand)->List SV->(List SV->Prop)->Prop
 | [],cs,K=>K cs
 | (i,x)::r,cs,K=>
  match place i with
  | some (off,sz)=>opK σ ctx x fun sv=>qO2 sv fun xs=>bif Nat.beq sz 0 then False else bif Nat.beq (len xs) sz then qEF cs off xs fun cs=>qaE σ ctx place r cs K else False
  | none=>False
def qN5 (P:Program) (t:TypeId) (K:List SV->Prop):Prop:=
 match P.info? t with
 | some i=>(match i.zero with|some z=>qM5 z fun sv=>qO2 sv K|none=>False)
 | none=>False
def placeOf (P:Program) (fs:List Field) (i:Nat):Option (Nat×Nat):=match nth fs i with|some f=>some (f.offset,qAW P f.type)|none=>none
def qNM (P:Program) (e:TypeId):Bool:=match P.info? e with|some _=>true|none=>false
def qM8 (P:Program):List Field->Bool
 | []=>true
 | f::r=>qNM P f.type&&qM8 P r
def qW4 (P:Program) (σ:Env) (ctx:Ctx) (t:TypeId) (parts:List (Nat×Operand)) (K:SV->Prop):Prop:=
 match P.underlying t with
 | some (.struct ⟨fs⟩)=>bif qM8 P fs then qN5 P t fun z=>qaE σ ctx (placeOf P fs) parts z (fun cs=>K (.agg cs)) else False
 | some (.array _ e)=>bif qNM P e then qN5 P t fun z=>qaE σ ctx (fun i=>some (i*qAW P e,qAW P e)) parts z (fun cs=>K (.agg cs)) else False
 | _=>False
end Go.Vc

namespace Go.Vc
set_option autoImplicit false
def qDF (id:Nat) (ch:Chunk):Phi->(Phi->Prop)->Prop
 | [],K=>K []
 | (k,c)::r,K=>bif Nat.beq k id then K ((k,ch)::r) else qDF id ch r fun l=>K ((k,c)::l)
def qXY (id:Nat) (sv:SV) (K:SV->Prop):Prop:=bif sv.okIds (fun i => !Nat.beq i id) then K sv else K .und
def qb9 (id:Nat):List SV->(List SV->Prop)->Prop
 | [],K=>K []
 | x::r,K=>qXY id x fun y=>qb9 id r fun l=>K (y::l)
def qH3 (id:Nat):Env->(Env->Prop)->Prop
 | [],K=>K []
 | (k,g,sv)::r,K=>qXY id sv fun y=>qH3 id r fun l=>K ((k,g,y)::l)
def qn3 (id:Nat) (c:Chunk) (K:Chunk->Prop):Prop:=
 match c with
 | .bx T cs=>qb9 id cs fun l=>K (.bx T l)
 | c=>K c
def qGE (id:Nat):Phi->(Phi->Prop)->Prop
 | [],K=>K []
 | (k,c)::r,K=>qn3 id c fun c'=>qGE id r fun l=>K ((k,c')::l)
def qmD (Φ:Phi) (id:Nat):Bool:=match Φ.get id with|some ch => !Nat.beq ch.kind 0|none=>false
def qLR (Φ:Phi):Env->(Env->Prop)->Prop
 | [],K=>K []
 | (k,g,sv)::r,K=>bif sv.okIds (qmD Φ) then qLR Φ r (fun l=>K ((k,g,sv)::l)) else qLR Φ r fun l=>K ((k,g,.und)::l)
def qH5 (Φ:Phi) (id:Nat):Bool:=match Φ.get id with|some _=>true|none=>false
def qX8 (id:Nat):Phi->Bool
 | []=>false
 | (_,.bx _ cs)::r => !(SV.okIdsL (fun i => !Nat.beq i id) cs)||qX8 id r
 | _::r=>qX8 id r
def qRT:Phi->Phi->Bool
 | [],_=>true
 | _::_,[]=>false
 | _::r,_::s=>qRT r s
def gcP (nm:Nat->Bool) (Φ0 Φa:Phi):Phi->(Phi->Prop)->Prop
 | [],K=>K []
 | (id,c)::r,K=>bif qRT ((id,c)::r) Φ0 then K ((id,c)::r) else
  bif qH5 Φ0 id||(nm id||(qX8 id Φa||qH5 r id)) then gcP nm Φ0 Φa r (fun r=>K ((id,c)::r)) else gcP nm Φ0 Φa r K
def qk7 (Φ0:Phi):Env->(Env->Prop)->Prop
 | [],K=>K []
 | (k,g,sv)::r,K=>
  match sv with
  | .loc id off=>bif qH5 Φ0 id then qk7 Φ0 r (fun l=>K ((k,g,.loc id off)::l)) else qk7 Φ0 r fun l=>K ((k,g,.und)::l)
  | sv=>qk7 Φ0 r fun l=>K ((k,g,sv)::l)
def qi5 (id:Nat):Env->Bool
 | []=>false
 | (_,_,sv)::r => !(sv.okIds (fun i => !Nat.beq i id))||qi5 id r
def qE7 (n:Nat):Env->Bool
 | []=>true
 | (_,_,sv)::r=>sv.okIds (fun i => !Nat.beq i n)&&qE7 n r
def qR6 (n:Nat):Chunk->Bool
 | .bx _ cs=>SV.okIdsL (fun i => !Nat.beq i n) cs
 | _=>true
def qGH (n:Nat):Phi->Bool
 | []=>true
 | (k,c)::r => !Nat.beq k n&&(qR6 n c&&qGH n r)
abbrev EK:=SV->Env->Phi->Nat->Prop
def qm9 (n:Nat) (T:Option Nat) (cs:List SV) (σ:Env) (Φ:Phi) (K:EK):Prop:=
 bif qE7 n σ&&(qGH n Φ&&SV.okIdsL (fun i => !Nat.beq i n) cs) then K (.loc n 0) σ ((n,.bx T cs)::Φ) (Nat.succ n) else False
def qG6 (n:Nat) (ch:Chunk) (sv:SV) (σ:Env) (Φ:Phi) (K:EK):Prop:=
 bif qE7 n σ&&qGH n Φ then K sv σ ((n,ch)::Φ) (Nat.succ n) else False
structure YS where
 l:Nat
 len:Nat
 at_:Nat->List SV
structure Base where
 P:Program
 mixed:P.follows .mixedOrders=true
 G:Mem->Prop
 mono:∀ r r':Mem,r.le r'->G r->G r'
 ty0:TypeId->Option Ty
 Y:YS:=⟨0,0,fun _=>[]⟩
 ne:FuncId->Bool:=fun _=>false
 ne_ok:∀ f,ne f=true->∀ (x:Value) (w:World),(callFunc f #[x]).run P w=.ok (.value x) w:=by intro f h;cases h
 tb:TypeId->Bool:=fun _=>false
 al:Bool:=false
 sp:FuncId->Bool:=fun _=>false
 fo:Bool:=false
 np:TypeId->Option Nat:=fun _=>none
 eqs:TypeId->Bool
 eqs_ok : ∀ t, eqs t = true → P.stoodInHeld t = false ∧ P.eqGuardType P.depth t = false ∧ ((P.fieldsOf t).toList.all fun f => f.name != "_") = true
def Base.ty (B:Base) (e:TypeId):Option Ty:=
 match B.ty0 e with
 | some .byte=>bif Nat.beq e 5 then some .byte else none
 | o=>o
theorem qP0 {B:Base}{e:TypeId}{τ:Ty}(h:B.ty e=some τ):τ.isB=true->e=5:=by
 intro hb;unfold Base.ty at h;split at h
 ·cases hq:Nat.beq e 5 with
  | true=>exact yAT hq
  | false=>rw[hq] at h;cases h
 ·rename_i hn;rw[h] at hn;cases τ<;>first|(cases hb;done)|exact absurd rfl hn
def okB (τ:Ty) (e:TypeId):Bool:=bif τ.isB then Nat.beq e 5 else true
theorem qiE {τ:Ty}{e:TypeId}(h:okB τ e=true):τ.isB=true->e=5:=by
 intro hb;unfold okB at h;rw[hb] at h;exact yAT h
@[reducible] def Base.withY (B:Base) (y:YS):Base:={ B with Y:=y }
def GID:Nat:=77777
def quW:SV->SV->Prop
 | .int k n,.int k' n'=>k=k'/\n=n'
 | .bool b,.bool b'=>b=b'
 | .str l,.str l'=>l=l'
 | .flt n,.flt n'=>n=n'
 | .cpx a b,.cpx a' b'=>a=a'/\b=b'
 | .rd τ l,.rd τ' l'=>SV.rd τ l=SV.rd τ' l'
 | _,_=>False
def qkN:List SV->List SV->Prop
 | [],[]=>True
 | x::r,y::s=>quW x y/\qkN r s
 | _,_=>False
def qlG (x y:SV):Prop:=
 match x,y with
 | .agg l,.agg l'=>qkN l l'
 | x,y=>quW x y
def qd7:List SV->List SV->Prop
 | [],[]=>True
 | x::r,y::s=>qlG x y/\qd7 r s
 | _,_=>False
def qOM (n:Nat):Phi->Bool
 | []=>true
 | (_,c)::r=>qR6 n c&&qOM n r
def qeL (B:Base) (l:Nat) (xs:List SV) (σ:Env) (Φ:Phi) (n:Nat) (K:EK):Prop:=
 match Φ.get GID with
 | some (.gh (some i))=>
  bif qE7 GID σ&&qOM GID Φ then
   Ob (l=B.Y.l)/\Ob (i<B.Y.len)/\qd7 xs (B.Y.at_ i)/\(qDF GID (.gh (some (Nat.succ i))) Φ fun Φ=>K (.bool true) σ Φ n)/\(qDF GID (.gh none) Φ fun Φ=>K (.bool false) σ Φ n)
  else False
 | _=>False
def Ty.beq:Ty->Ty->Bool
 | .int k,.int k'=>kEq k k'
 | .byte,.byte=>true
 | .bool,.bool=>true
 | .str,.str=>true
 | .flt,.flt=>true
 | .cpx,.cpx=>true
 | .sl a,.sl b=>a.beq b
 | .pr a b,.pr c d=>a.beq c&&b.beq d
 | _,_=>false
theorem Ty.of_beq:∀ {a b:Ty},a.beq b=true->a=b:=by
  intro a
  induction a with
  | int k => intro b h;cases b<;>first|(cases h;done)|skip
             rename_i k';have:k=k':=by cases k<;>cases k'<;>first|rfl|(simp[Ty.beq,kEq,qh5] at h)
             rw[this]
  | byte=>intro b h;cases b<;>first|rfl|(cases h;done)
  | bool=>intro b h;cases b<;>first|rfl|(cases h;done)
  | str=>intro b h;cases b<;>first|rfl|(cases h;done)
  | flt=>intro b h;cases b<;>first|rfl|(cases h;done)
  | cpx=>intro b h;cases b<;>first|rfl|(cases h;done)
  | sl a ih => intro b h;cases b<;>first|(cases h;done)|skip
               rw[ih h]
  | pr a b iha ihb=>
    intro c h;cases c<;>first|(cases h;done)|skip
    simp only[Ty.beq,yAC] at h;rw[iha h.1,ihb h.2]
def qU0:(a b:Ty)->List a.T->(List b.T->Prop)->Prop
 | .int k,.int k',l,K=>bif kEq k k' then K l else False
 | .byte,.byte,l,K=>K l
 | .bool,.bool,l,K=>K l
 | .str,.str,l,K=>K l
 | .flt,.flt,l,K=>K l
 | .cpx,.cpx,l,K=>K l
 | a,b,l,K=>
  match h:a.beq b with
  | true=>K (cast (congrArg (fun t:Ty=>List t.T) (Ty.of_beq h)) l)
  | false=>False
def qEI {α:Type}(f:List SV->(α->List SV->Prop)->Prop):List (List SV)->(List α->Prop)->Prop
 | [],K=>K []
 | row::rs,K=>f row fun a rest=>match rest with|[]=>qEI f rs fun l=>K (a::l)|_=>False
def qUO:(τ:Ty)->List SV->(τ.T->List SV->Prop)->Prop
  | .int k,.int k' n::r,K=>bif kEq k k' then K n r else False
  | .byte,.int .u8 n::r,K=>Ob (0<=n/\n<=255)/\K (UInt8.ofNat n.toNat) r
  | .bool,.bool b::r,K=>K b r
  | .str,.str l::r,K=>K l r
  | .flt,.flt n::r,K=>K n r
  | .cpx,.cpx a b::r,K=>K (a,b) r
  | .sl e,x::r,K=>
    (match x with
     | .nils=>K [] r
     | .rd e' l=>qU0 e' e l fun l=>K l r
     | .lits sz rows=>bif Nat.beq sz e.size then qEI (qUO e) rows fun l=>K l r else False
     | _=>False)
  | .pr a b,row,K=>qUO a row fun x r=>qUO b r fun y r=>K (x,y) r
  | _,_,_=>False
def qL2 (τ:Ty) (row:List SV) (K:τ.T->Prop):Prop:=qUO τ row fun a rest=>match rest with|[]=>K a|_=>False
def qGY (P:Program) (t:TypeId):Bool:=match P.underlying t with|some .string=>true|_=>false
def qEA (B:Base) (kt:TypeId):KTy->Bool
 | .s=>qGY B.P kt
 | .w=>qGY B.P kt
 | .i k=>(match B.P.underlying kt with|some (.int k')=>kEq k k'|_=>false)
 | .p=>B.eqs kt&&(match B.P.underlying kt with|some (.struct ⟨[f,g]⟩)=>Nat.beq f.offset 0&&(Nat.beq g.offset 1&&(qGY B.P f.type&&qGY B.P g.type))|_=>false)
def qS7 (P:Program) (t:TypeId):Bool:=match P.underlying t with|some (.struct _)=>true|_=>false
def qe8 (B:Base) (kt e:TypeId) (K:KTy->Prop):Prop:=
 match B.P.underlying kt with
 | some .string=>bif qS7 B.P e then K .w else K .s
 | some (.int k)=>K (.i k)
 | some (.struct _)=>K .p
 | _=>False
def qNR:(κ:KTy)->SV->(κ.T->Prop)->Prop
 | .s,.str l,K=>K l
 | .w,.str l,K=>K l
 | .i k,.int k' n,K=>bif kEq k k' then K n else False
 | .p,.agg [.str a,.str b],K=>K (a,b)
 | _,_,_=>False
def qzP:KTy->SV->(SV->Prop)->Prop
 | .w,.agg [x],K=>K x
 | .w,_,_=>False
 | _,x,K=>K x
def qd9 (P:Program) (e:TypeId) (K:SV->Prop):Prop:=
 match P.info? e with
 | some i=>(match i.zero with|some z=>qM5 z K|none=>False)
 | none=>False
def qoP:List SV->(SV->Prop)->Prop
 | [x],K=>K x
 | _,_=>False
def qRC (B:Base) (Φ:Phi) (t:TypeId) (x i:SV) (ok:Bool) (K:SV->Prop):Prop:=
 match B.P.underlying t,x with
 | some (.map kt e),.mref id=>
  match Φ.get id with
  | some (.mp κ τ l)=>
   bif qEA B kt κ then
    qNR κ i fun k=>qd9 B.P e fun z=>qzP κ z fun z=>qL2 τ [z] fun d=>
    qoP (τ.enc ((qML κ l k).getD d)) fun sv=>bif ok then K (.tup [κ.wv sv,.bool (qML κ l k).isSome]) else K (κ.wv sv)
   else False
  | _=>False
 | _,_=>False
def qMC (B:Base) (t:TypeId) (σ:Env) (Φ:Phi) (n:Nat) (K:EK):Prop:=
  match B.P.underlying t with
  | some (.map kt e)=>
    (match B.ty e with
     | some τ=>qe8 B kt e fun κ=>qG6 n (.mp κ τ []) (.mref n) σ Φ K
     | none=>False)
  | _=>False
def qQY (B:Base) (t:TypeId) (m k v:SV) (σ:Env) (Φ:Phi) (n:Nat) (K:EK):Prop:=
 match B.P.underlying t,m with
 | some (.map kt e),.mref id=>
  match Φ.get id with
  | some (.mp κ τ l)=>
   qzP κ v fun v=>bif qEA B kt κ&&v.one then
    qNR κ k fun k=>qL2 τ [v] fun a=>qDF id (.mp κ τ (qYP κ l k a)) Φ fun Φ=>K .und σ Φ n
   else False
  | _=>False
 | _,_=>False
def qVC (B:Base) (t:TypeId) (m k:SV) (σ:Env) (Φ:Phi) (n:Nat) (K:EK):Prop:=
 match B.P.underlying t,m with
 | some (.map kt e),.mref id=>
  match Φ.get id with
  | some (.mp κ τ l)=>bif qEA B kt κ then qNR κ k fun k=>qDF id (.mp κ τ (qZO κ l k)) Φ fun Φ=>K .und σ Φ n else False
  | _=>False
 | _,_=>False
def qVL (B:Base) (t:TypeId) (m:SV) (σ:Env) (Φ:Phi) (n:Nat) (K:EK):Prop:=
 match B.P.underlying t,m with
 | some (.map kt e),.mref id=>
  match Φ.get id with
  | some (.mp κ τ l)=>Ob (l.length<=9223372036854775807)/\K (.int .i64 l.length) σ Φ n
  | _=>False
 | _,_=>False
def qcY (B:Base) (s d:TypeId) (x:SV) (σ:Env) (Φ:Phi) (n:Nat) (K:EK):Prop:=
  match B.P.underlying s,B.P.underlying d,x with
  | some .string,some (.slice e),.str l=>
    (match B.P.underlying e with
     | some (.int .u8)=>bif Nat.beq e 5 then qG6 n (.own .byte l) (.own n) σ Φ K else False
     | _=>False)
  | some (.slice e),some .string,.own id=>
    (match B.P.underlying e, Φ.row id with
     | some (.int .u8),some (.own τ l)=>qU0 τ .byte l fun l=>K (.str l) σ Φ n
     | _,_=>False)
  | some (.slice e),some .string,.rd τ l=>
    (match B.P.underlying e with
     | some (.int .u8)=>qU0 τ .byte l fun l=>K (.str l) σ Φ n
     | _=>False)
  | some (.slice e),some .string,.nils=>
    (match B.P.underlying e with
     | some (.int .u8)=>K (.str []) σ Φ n
     | _=>False)
  | some (.pointer e),some .unsafePointer,.loc id off=>
    (match Φ.get id with
     | some (.bx (some _) cs)=>bif Nat.blt off (len cs) && !Nat.beq (qAW B.P e) 0 then K (.loc id off) σ Φ n else False
     | _=>False)
  | some .unsafePointer,some (.pointer u),.loc id off=>
    (match Φ.get id with
     | some (.bx (some T) cs)=>(match B.P.info? u with|some _=>Ob (liesAt B.P B.P.depth T (len cs/B.P.cellsOf T) off u 1=true)/\K (.loc id off) σ Φ n|none=>False)
     | _=>False)
  | _,_,_=>qZP B.P s d x (fun p=>p) fun sv=>K sv σ Φ n
def qb8 (x:SV) (σ:Env) (Φ:Phi) (n:Nat) (K:EK):Prop:=
 match x with
 | .nils=>K (.v (.pointer none)) σ Φ n
 | .own id=>(match Φ.get id with|some (.own τ l)=>Ob (l≠[])/\K (.oel id τ.size 0 0) σ Φ n|_=>False)
 | _=>False
def qlC (B:Base) (tp:TypeId) (p i:SV) (σ:Env) (Φ:Phi) (n:Nat) (K:EK):Prop:=
  match p,i with
  | .v (.pointer none),.int .i64 m=>Ob (m=0)/\K (.str []) σ Φ n
  | .oel id 1 0 0,.int .i64 m=>
    (match B.P.underlying tp, Φ.get id with
     | some (.pointer e),some (.own .byte l)=>
       bif Nat.beq e 5&&Nat.beq (B.P.cellsOf e) 1 then
         Ob (m=l.length/\l≠[])/\qH3 id σ fun σ=>qGE id Φ fun Φ=>qDF id (.own .byte []) Φ fun Φ=>K (.str l) σ Φ n
       else False
     | _,_=>False)
  | _,_=>False
def zD4 (id i:Nat) (x:Option SV) (K:Unit->Prop):Prop:=
 match x with
 | some (.nk id' i')=>bif Nat.beq id' id then Ob (i'=i)/\K () else False
 | _=>False
def qj7 (off n p i:Nat) (pend:Option Nat) (K:Unit->Prop):Prop:=
 match pend with
 | none=>K ()
 | some j=>bif Nat.ble off p&&Nat.blt p (Nat.add off n) then Ob (j=i)/\K () else False
def qe3 (x:Option SV) (K:SV->Prop):Prop:=
 match x with
 | some (.rd (.int .i64) ks)=>K (.rd (.int .i64) ks)
 | _=>False
def qJ9:Ty->Nat->Bool
 | .sl (.int .i64),0=>true
 | .pr a b,n=>bif Nat.blt n a.size then qJ9 a n else qJ9 b (Nat.sub n a.size)
 | _,_=>false
def qIY (p:Nat):List (List SV)->Bool
 | []=>true
 | row::r=>(match nth row p with|some .nils=>true|_=>false)&&qIY p r
def qYD (P : Program) (t:TypeId) (p x:SV) (σ:Env) (Φ:Phi) (n:Nat) (K:EK):Prop:=
  qO2 x fun xs=>
  bif Nat.beq (qAW P t) 0 then False else
  bif Nat.beq (len xs) (qAW P t) then
    match p with
    | .loc id off=>(match Φ.get id with|some (.bx T cs)=>qEF cs off xs fun cs=>qDF id (.bx T cs) Φ fun Φ=>K .und σ Φ n|_=>False)
    | .oel id sz0 i off=>
      (match Φ.get id with
       | some (.own τ l)=>
         bif Nat.beq sz0 τ.size&&SV.okIdsL (fun _=>false) xs then
           Ob (i<l.length)/\qEF (τ.enc (l.getD i τ.dflt)) off xs fun row=>qL2 τ row fun a=>qDF id (.own τ (l.set i a)) Φ fun Φ=>K .und σ Φ n
         else False
       | some (.ow τ l)=>
         bif Nat.beq sz0 τ.size&&SV.okIdsL (fun _=>false) xs then
           Ob (i<l.length)/\qEF (τ.enc (l.getD i τ.dflt)) off xs fun row=>qL2 τ row fun a=>qDF id (.ow τ (l.set i a)) Φ fun Φ=>K .und σ Φ n
         else False
       | some (.owg τ l g)=>
         bif Nat.beq sz0 τ.size&&(SV.okIdsL (fun _=>false) xs && !τ.isB) then
           Ob (i<l.length)/\qEF (τ.enc (l.getD i τ.dflt)) off xs fun row=>qL2 τ row fun a=>qDF id (.owg τ (l.set i a) g) Φ fun Φ=>K .und σ Φ n
         else False
       | some (.foc τ l i0 p e g)=>
         bif Nat.beq sz0 τ.size&&(SV.okIdsL (fun _=>false) xs && !(Nat.ble off p&&Nat.blt p (Nat.add off (len xs)))) then
           Ob (i=i0)/\qEF (τ.enc (l.getD i0 τ.dflt)) off xs fun row=>qL2 τ row fun a=>qDF id (.foc τ (l.set i0 a) i0 p e g) Φ fun Φ=>K .und σ Φ n
         else False
       | some (.nst τ p l pend)=>
         bif Nat.beq sz0 τ.size then
           Ob (i<l.length)/\qEF (qIP (τ.enc (l.getD i τ.dflt)) p (.nk id i)) off xs fun row=>
             zD4 id i (nth row p) fun _=>qj7 off (len xs) p i pend fun _=>qe3 (nth (τ.enc (l.getD i τ.dflt)) p) fun kid=>
             (bif SV.okIdsL (fun _=>false) (qIP row p kid) then qL2 τ (qIP row p kid) fun a=>qDF id (.nst τ p (l.set i a) none) Φ fun Φ=>K .und σ Φ n else False)
         else False
       | _=>False)
    | _=>False
  else False
def qWN (sz:Nat):Nat->List SV->(List (List SV)->Prop)->Prop
 | 0,_,K=>K []
 | n+1,l,K=>qgP l 0 sz fun row=>qWN sz n (l.drop sz) fun rows=>K (row::rows)
def zFH (z:List SV):Nat->(List SV->Prop)->Prop
 | 0,K=>K []
 | n+1,K=>zFH z n fun l=>qEF (z++l) 0 z fun l=>K l
def qtA (P:Program) (Φ:Phi) (e:TypeId) (τ:Ty) (x:SV) (K:List τ.T->Prop):Prop:=
 bif qEZ P e τ.size then
 match x with
 | .lits sz rows=>bif Nat.beq sz τ.size then qEI (qUO τ) rows K else False
 | .rd τ' l=>qU0 τ' τ l K
 | .nils=>K []
 | .str l=>qU0 .byte τ l K
 | .own id=>(match Φ.row id with|some (.own τ' l)=>qU0 τ' τ l K|_=>False)
 | _=>False
 else False
def zC3 (x:Option SV) (K:List Int->Prop):Prop:=
 match x with
 | some (.rd (.int .i64) ks)=>K ks
 | _=>False
def qAA (P:Program) (e:TypeId):Nat:=match P.info? e with|some i=>i.bytes|none=>0
def qIE (B : Base) (ts tx:TypeId) (s x:SV) (σ:Env) (Φ:Phi) (n:Nat) (K:EK):Prop:=
  match B.P.underlying ts,B.P.underlying tx with
  | some (.slice e),some tx=>
    bif !isSrcD tx||Nat.beq (qAW B.P e) 0 then False else
    qN5 B.P e fun z=>bif Nat.beq (len z) (qAW B.P e) then
    match s with
    | .nils=>
      (match B.ty e with
       | some τ=>qtA B.P Φ e τ x fun l=>Ob (l.length*qAA B.P e<=70368744177664/\l.length<=70368744177664)/\qG6 n (.own τ l) (.own n) σ Φ K
       | none=>False)
    | .own id =>
      (match Φ.get id with
       | some (.own τ l)=>
         bif okB τ e then qtA B.P Φ e τ x fun as=>
           Ob ((l.length+as.length)*qAA B.P e<=70368744177664/\l.length+as.length<=70368744177664)/\
           qH3 id σ fun σ=>qGE id Φ fun Φ=>qDF id (.own τ (l++as)) Φ fun Φ=>K (.own id) σ Φ n
         else False
       | some (.nst τ p l none)=>
         (match x with
          | .lits sz rows=>
            bif qEZ B.P e τ.size&&(Nat.beq sz τ.size&&(qIY p rows&&qJ9 τ p)) then qEI (qUO τ) rows fun as=>
              Ob ((l.length+as.length)*qAA B.P e<=70368744177664/\l.length+as.length<=70368744177664)/\
              qH3 id σ fun σ=>qGE id Φ fun Φ=>qDF id (.nst τ p (l++as) none) Φ fun Φ=>K (.own id) σ Φ n
            else False
          | _=>False)
       | _=>False)
    | .nk id i=>
      (match Φ.get id with
       | some (.nst τ p l none)=>
         zC3 (nth (τ.enc (l.getD i τ.dflt)) p) fun ks=>qtA B.P Φ e (.int .i64) x fun as=>
           Ob (i<l.length/\(ks.length+as.length)*qAA B.P e<=70368744177664/\ks.length+as.length<=70368744177664)/\
           qL2 τ (qIP (τ.enc (l.getD i τ.dflt)) p (.rd (.int .i64) (ks++as))) fun a=>
           qH3 (Nat.add id NKB) σ fun σ=>qGE (Nat.add id NKB) Φ fun Φ=>qDF id (.nst τ p (l.set i a) (some i)) Φ fun Φ=>K (.nk id i) σ Φ n
       | _=>False)
    | _=>False
    else False
  | _,_=>False
where isSrcD:TypeDesc->Bool
 | .slice _|.string=>true
 | _=>false
def qVW (B:Base) (ts tx:TypeId) (x:SV) (σ:Env) (Φ:Phi) (n:Nat) (K:EK):Prop:=
 match B.P.underlying ts,B.P.underlying tx with
 | some (.slice e),some tx=>
  bif !qIE.isSrcD tx||Nat.beq (qAW B.P e) 0 then False else
  qN5 B.P e fun z=>bif Nat.beq (len z) (qAW B.P e) then
   match B.np e,B.ty e,x with
   | some p,some τ,.lits sz rows=>
    bif qEZ B.P e τ.size&&(Nat.beq sz τ.size&&(qIY p rows&&qJ9 τ p)) then qEI (qUO τ) rows fun as=>
     Ob (as.length*qAA B.P e<=70368744177664/\as.length<=70368744177664)/\qG6 n (.nst τ p as none) (.own n) σ Φ K
    else False
   | _,_,_=>False
  else False
 | _,_=>False
inductive AppN (B:Base) (ts tx:TypeId) (x:SV) (σ:Env) (Φ:Phi) (n:Nat) (K:EK):Prop
 | mk (h:qIE B ts tx .nils x σ Φ n K)
 | ns (h:qVW B ts tx x σ Φ n K)
 | nl (ht:(match B.P.underlying ts,B.P.underlying tx with|some (.slice e),some .string=>(B.P.info? e).isSome|_,_=>false)=true) (hx:x=.str []) (k:K .nils σ Φ n)
def zFW (B:Base) (t:TypeId) (id:Nat) (hi:SV) (σ:Env) (Φ:Phi) (n:Nat) (K:EK):Prop:=
 match B.P.underlying t, Φ.get id,hi with
 | some (.slice e),some (.own τ l),.int _ b=>
  bif qEZ B.P e τ.size then Ob (0<=b/\b<=l.length)/\qH3 id σ fun σ=>qGE id Φ fun Φ=>qDF id (.own τ (l.take b.toNat)) Φ fun Φ=>K (.own id) σ Φ n else False
 | _,_,_=>False
def ql7 (B:Base) (t:TypeId) (id:Nat) (hi mx:SV) (σ:Env) (Φ:Phi) (n:Nat) (K:EK):Prop:=
 match B.P.underlying t, Φ.get id,hi,mx with
 | some (.slice e),some (.own τ l),.int _ b,.int _ m=>
  bif qEZ B.P e τ.size then Ob (0<=b/\b<=l.length/\m=b)/\qH3 id σ fun σ=>qGE id Φ fun Φ=>qDF id (.own τ (l.take b.toNat)) Φ fun Φ=>K (.own id) σ Φ n else False
 | _,_,_,_=>False
def qlY (B:Base) (t:TypeId) (id:Nat) (lo:SV) (σ:Env) (Φ:Phi) (n:Nat) (K:EK):Prop:=
 match B.P.underlying t, Φ.get id,lo with
 | some (.slice e),some (.own τ l),.int _ a=>
  bif qEZ B.P e τ.size then Ob (0<=a/\a<=l.length)/\K (.otl id τ.size a.toNat) σ Φ n else False
 | _,_,_=>False
def qdC (B:Base) (t:TypeId) (x:SV) (σ:Env) (Φ:Phi) (n:Nat) (K:EK):Prop:=
  match B.P.underlying t,x with
  | some (.slice e),.otl id sz k=>
    (match Φ.get id with
     | some (.own τ l)=>
       bif qEZ B.P e τ.size&&(Nat.beq τ.size 1&&Nat.beq sz 1) then
         qN5 B.P e fun z=>bif Nat.beq (len z) 1 then qL2 τ z fun d=>qDF id (.own τ (l.take k++List.replicate (l.length-k) d)) Φ fun Φ=>K (.tup []) σ Φ n else False
       else False
     | _=>False)
  | _,_=>False
def qJ0 (B:Base) (t:TypeId) (ln cp:SV) (σ:Env) (Φ:Phi) (n:Nat) (K:EK):Prop:=
 match B.P.underlying t,ln,cp with
 | some (.slice e),.int _ a,.int _ c=>
  bif Nat.beq (qAW B.P e) 0 then False else
  qN5 B.P e fun z=>bif Nat.beq (len z) (qAW B.P e) then
   match B.ty e with
   | some τ=>
    bif qEZ B.P e τ.size then
     qL2 τ z fun d=>Ob (0<=a/\a<=c/\c*qAA B.P e<=140737488355328/\c<=140737488355328)/\qG6 n (.own τ (List.replicate a.toNat d)) (.own n) σ Φ K
    else False
   | none=>False
  else False
 | _,_,_=>False
def qHG (P:Program) (σ:Env) (ctx:Ctx) (e:TypeId) (ln:Nat) (parts:List (Nat×Operand)) (K:List (List SV)->Prop):Prop:=
 bif Nat.beq (qAW P e) 0 || !Nat.ble (ln*qAW P e) 16777216 then False else
 qN5 P e fun z=>bif Nat.beq (len z) (qAW P e) then
  zFH z ln fun flat=>qaE σ ctx (fun i=>some (i*qAW P e,qAW P e)) parts flat fun flat=>
  bif SV.okIdsL (fun _=>false) flat&&qG0 flat then qWN (qAW P e) ln flat K else False
 else False
def qID (B:Base) (σ:Env) (t:TypeId) (ln:Nat) (parts:List (Nat×Operand)) (Φ:Phi) (n:Nat) (K:EK):Prop:=
  match B.P.underlying t with
  | some (.slice e)=>
    (match B.ty e with
     | some τ=>bif qEZ B.P e τ.size then qHG B.P σ [] e ln parts fun rows=>qEI (qUO τ) rows fun l=>qG6 n (.own τ l) (.own n) σ Φ K else False
     | none=>False)
  | _=>False
def qRM (B:Base) (σ:Env) (ctx:Ctx) (t:TypeId) (ln:Nat) (parts:List (Nat×Operand)) (K:SV->Prop):Prop:=
  match B.P.underlying t with
  | some (.slice e)=>
    (match B.np e with
    | some _=>qHG B.P σ ctx e ln parts fun rows=>K (.lits (qAW B.P e) rows)
    | none=>
    match B.ty e with
     | some τ=>bif qEZ B.P e τ.size then qHG B.P σ ctx e ln parts fun rows=>qEI (qUO τ) rows fun l=>K (.rd τ l) else False
     | none=>qHG B.P σ ctx e ln parts fun rows=>K (.lits (qAW B.P e) rows))
  | _=>False
def qGT (s:List UInt8) (pos:Nat):Nat×Nat:=Utf8.decode ⟨s.toArray⟩ pos
def qeC (P:Program) (t:TypeId) (x:SV) (σ:Env) (Φ:Phi) (n:Nat) (K:EK):Prop:=
  match P.underlying t,x with
  | some .string,.str l=>qG6 n (.iter l 0) (.loc n 0) σ Φ K
  | some (.map kt e),.mref id=>
    (match Φ.get id with
     | some (.mp κ τ l)=>qDF id .mz Φ fun Φ=>qG6 n (.mi κ τ l none) (.loc n 0) σ Φ K
     | _=>False)
  | _,_=>False
def qg9:(κ:KTy)->κ.T->(SV->Prop)->Prop
 | .i k,n,K=>K (.int k n)
 | _,_,_=>False
def qlQ (x:SV) (isString:Bool) (σ:Env) (Φ:Phi) (n:Nat) (K:EK):Prop:=
  match x,isString with
  | .loc id 0,true=>
    (match Φ.get id with
     | some (.iter s pos)=>
       (pos<s.length->qDF id (.iter s (pos+(qGT s pos).2)) Φ fun Φ=>K (.tup [.bool true,.int .i64 pos,.int .i32 (qGT s pos).1]) σ Φ n)/\
       (¬pos<s.length->K (.tup [.bool false]) σ Φ n)
     | _=>False)
  | .loc id 0,false=>
    (match Φ.get id with
     | some (.mi κ τ left cur)=>
       (left=[]->K (.tup [.bool false]) σ Φ n)/\
       (∀ (j:Nat) (k:κ.T) (v:τ.T),left[j]?=some (k,v)->qDF id (.mi κ τ (left.eraseIdx j) (some (k,v))) Φ fun Φ=>qg9 κ k fun ks=>qoP (τ.enc v) fun sv=>K (.tup [.bool true,ks, κ.wv sv]) σ Φ n)
     | _=>False)
  | _,_=>False
def qbX (x:SV) (σ:Env) (Φ:Phi) (n:Nat) (K:EK):Prop:=
  match x with
  | .loc id 0=>
    (match Φ.get id with
     | some (.mi κ τ _ (some (k,v)))=>qg9 κ k fun ks=>qoP (τ.enc v) fun sv=>K (.tup [ks, κ.wv sv]) σ Φ n
     | _=>False)
  | _=>False
end Go.Vc

namespace Go.Vc
set_option autoImplicit false
structure Hid (r:Mem) (β:qBD) (Φ:Phi) (w:World) (r':Mem) (β':qBD) (Φ':Phi) (w':World):Prop where
 os:w'.os=w.os
 tape:w'.tape=w.tape
 output:w'.output=w.output
 size:w.heap.size<=w'.heap.size
 block:∀ b,b<w.heap.size->r b=none->(∀ id ch, Φ.get id=some ch->¬ch.hb (β id) b)->
  w'.heap[b]?=w.heap[b]?/\r' b=none/\(∀ id ch, Φ'.get id=some ch->¬ch.hb (β' id) b)
 keep:∀ id ch, Φ.get id=some ch->ch.kind≠0->β' id=β id/\∃ ch', Φ'.get id=some ch'/\ch'.kind=ch.kind
def qA5 (r:Mem) (β:qBD) (svs:List SV) (vs:List Value):Prop:=
 vs.length=svs.length/\∀ (i:Nat) (sv:SV) (v:Value),svs[i]?=some sv->vs[i]?=some v->Rel r β sv v
def Ct (B:Base) (f:FuncId) (args:List SV) (Φ:Phi) (Post:SV->Phi->Prop):Prop:=
 ∀ r β w vs,B.G r->MemSat r β Φ w->qA5 r β args vs->
  Calls B.P f vs.toArray w fun e w'=>∃ v sv r' β' Φ',e=.returned v/\Post sv Φ'/\Rel r' β' sv v/\MemSat r' β' Φ' w'/\r.le r'/\Hid r β Φ w r' β' Φ' w'
class Fn (B:Base) (f:FuncId) (args:List SV) (pre:outParam Prop) (res:outParam SV):Prop where
 call:∀ (vs:Array Value) (w:World),(callFunc f vs).run B.P w=.ok (.enter f vs) w
 ok:pre->Ct B f args [] fun sv Φ=>sv=res/\Φ=[]
class FnM (B:Base) (f:FuncId) (args:List SV) (Φ:Phi) (pre:outParam Prop) (res:outParam SV) (Φ':outParam Phi):Prop where
 call:∀ (vs:Array Value) (w:World),(callFunc f vs).run B.P w=.ok (.enter f vs) w
 ok:pre->Ct B f args Φ fun sv Φ1=>sv=res/\Φ1=Φ'
def fc (ro:Option Nat):Fence:={ Fence.wide with round:=ro }
structure Oth (r0:Mem) (S:Nat->Prop) (w w':World):Prop where
 os:w'.os=w.os
 tape:w'.tape=w.tape
 output:w'.output=w.output
 size:w.heap.size<=w'.heap.size
 same:∀ b,S b->w'.heap[b]?=w.heap[b]?
 old:∀ b o,r0 b=some o->w'.heap[b]?=some o
structure Own (S:Nat->Prop) (w w':World):Prop where
 os:w'.os=w.os
 tape:w'.tape=w.tape
 output:w'.output=w.output
 size:w.heap.size<=w'.heap.size
 same:∀ b,b<w.heap.size->¬S b->w'.heap[b]?=w.heap[b]?
def qGA (P:Program) (l:Nat) (vs:List Value) (w:World) (R:Ending->World->Prop):Prop:=
 ∃ fn tmps assign body,(Instr.yield l vs.toArray).run P w=.ok (.round l fn tmps assign body) w/\RoundIn (fc none) 0 P l fn tmps assign body w R
def qR4 (l:Nat):Value:=.func (.yield l) #[] #[]
def ItCt (B:Base) (f:FuncId) (caps:List SV) (len:Nat) (at_:Nat->List SV):Prop:=
 ∀ (l:Nat) (r0:Mem) (J:Nat->(Nat->Prop)->World->Prop) (Jx:(Nat->Prop)->World->Prop),
  (∀ i S w,J i S w->(∀ b,S b->b<w.heap.size/\r0 b=none)/\∀ w',Oth r0 S w w'->J i S w')->
  (∀ S w,Jx S w->(∀ b,S b->b<w.heap.size/\r0 b=none)/\∀ w',Oth r0 S w w'->Jx S w')->
  (∀ i S w r β vs,J i S w->i<len->r0.le r->(∀ b o,r b=some o->w.heap[b]?=some o)->(∀ b,S b->r b=none)->qA5 r β (at_ i) vs->qGA B.P l vs w fun e w'=>∃ b S',e=.returned (.bool b)/\Own S w w'/\(∀ x,S' x->S x\/w.heap.size<=x)/\(bif b then J (i+1) S' w' else Jx S' w'))->
  ∀ β w vs S,B.G r0->MemSat r0 β [] w->qA5 r0 β caps vs->J 0 S w->
  Calls B.P f (qR4 l::vs).toArray w fun e w'=>(∃ v,e=.returned v)/\∃ S',J len S' w'\/Jx S' w'
class It (B:Base) (f:FuncId) (caps:List SV) (pre:outParam Prop) (len:outParam Nat) (at_:outParam (Nat->List SV)):Prop where
 call:∀ (vs:Array Value) (w:World),(callFunc f vs).run B.P w=.ok (.enter f vs) w
 ok:pre->ItCt B f caps len at_
def SV.plain0:SV->Bool
 | .int _ _|.bool _|.str _|.flt _|.cpx _ _=>true
 | _=>false
def qQT:List SV->Bool
 | []=>true
 | x::r=>x.plain0&&qQT r
def SV.plain1:SV->Bool
 | .agg l=>qQT l
 | x=>x.plain0
def qJ8:List SV->Bool
 | []=>true
 | x::r=>x.plain1&&qJ8 r
def SV.plain:SV->Bool
 | .tup l=>qJ8 l
 | x=>x.plain1
def Ty.plain:Ty->Bool
 | .sl _=>false
 | .pr a b=>a.plain&&b.plain
 | _=>true
def SV.plainI0:SV->Bool
 | .own _=>true
 | x=>x.plain0
def qMJ:List SV->Bool
 | []=>true
 | x::r=>x.plainI0&&qMJ r
def SV.plainI1:SV->Bool
 | .agg l=>qMJ l
 | x=>x.plainI0
def qMF:List SV->Bool
 | []=>true
 | x::r=>x.plainI1&&qMF r
def SV.plainI:SV->Bool
 | .tup l=>qMF l
 | x=>x.plainI1
def qLB:Phi->Bool
 | []=>true
 | (_,.own τ _)::r=>τ.plain&&qLB r
 | _=>false
def ln0 (Φ:Phi) (x:SV) (K:SV->Prop):Prop:=
 match x with
 | .own id=>(match Φ.get id with|some (.own τ l)=>K (.rd τ l)|_=>False)
 | x=>K x
def qm6 (Φ:Phi):List SV->(List SV->Prop)->Prop
 | [],K=>K []
 | x::r,K=>ln0 Φ x fun y=>qm6 Φ r fun l=>K (y::l)
def ln1 (Φ:Phi) (x:SV) (K:SV->Prop):Prop:=
 match x with
 | .agg l=>qm6 Φ l fun l=>K (.agg l)
 | x=>ln0 Φ x K
def qL8 (Φ:Phi):List SV->(List SV->Prop)->Prop
 | [],K=>K []
 | x::r,K=>ln1 Φ x fun y=>qL8 Φ r fun l=>K (y::l)
def ln2 (Φ:Phi) (x:SV) (K:SV->Prop):Prop:=
 match x with
 | .tup l=>qL8 Φ l fun l=>K (.tup l)
 | x=>ln1 Φ x K
inductive CallG (B:Base) (f:FuncId) (args largs:List SV) (g:Prop->Prop) (K:SV->Prop):Prop
 | plain {pre:Prop}{res:SV}[fn:Fn B f largs pre res] (pl:res.plain=true) (hp:g (Ob pre)) (k:K res)
 | mk {pre:Prop}{res:SV}[fn:Fn B f args pre res] (pl:res.okIds (fun _=>false)=true) (hp:g (Ob pre)) (k:K res)
 | nwl {pre:Prop}{res:SV}{Φ':Phi}[fn:FnM B f largs [] pre res Φ'] (pl:(res.plainI&&qLB Φ')=true) (hp:g (Ob pre)) (k:ln2 Φ' res K)
 | nw {pre:Prop}{res:SV}{Φ':Phi}[fn:FnM B f args [] pre res Φ'] (hp:g (Ob pre)) (k:ln2 Φ' res fun sv=>bif sv.okIds (fun _=>false) then K sv else False)
def qj6 (B:Base) (Φ:Phi) (f:FuncId) (args:List SV) (g:Prop->Prop) (K:SV->Prop):Prop:=
 qL8 Φ args fun largs=>CallG B f args largs g K
def fz0 (id:Nat) (τ:Ty) (l:List τ.T) (x:SV) (K:SV->Prop):Prop:=
 match x with
 | .own i=>bif Nat.beq i id then K (.rd τ l) else K (.own i)
 | x=>bif x.okIds (fun i => !Nat.beq i id) then K x else K .und
def zFB (id:Nat) (τ:Ty) (l:List τ.T):List SV->(List SV->Prop)->Prop
 | [],K=>K []
 | x::r,K=>fz0 id τ l x fun y=>zFB id τ l r fun r=>K (y::r)
def fz1 (id:Nat) (τ:Ty) (l:List τ.T) (x:SV) (K:SV->Prop):Prop:=
 match x with
 | .agg xs=>zFB id τ l xs fun ys=>K (.agg ys)
 | x=>fz0 id τ l x K
def qnQ (id:Nat) (τ:Ty) (l:List τ.T):List SV->(List SV->Prop)->Prop
 | [],K=>K []
 | x::r,K=>fz1 id τ l x fun y=>qnQ id τ l r fun r=>K (y::r)
def fz2 (id:Nat) (τ:Ty) (l:List τ.T) (x:SV) (K:SV->Prop):Prop:=
 match x with
 | .tup xs=>qnQ id τ l xs fun ys=>K (.tup ys)
 | x=>fz1 id τ l x K
def fzE (id:Nat) (τ:Ty) (l:List τ.T):Env->(Env->Prop)->Prop
 | [],K=>K []
 | (k,g,sv)::r,K=>fz2 id τ l sv fun y=>fzE id τ l r fun r=>K ((k,g,y)::r)
def fzC (id:Nat) (τ:Ty) (l:List τ.T) (c:Chunk) (K:Chunk->Prop):Prop:=
 match c with
 | .bx T cs=>qnQ id τ l cs fun cs=>K (.bx T cs)
 | c=>K c
def fzP (id:Nat) (τ:Ty) (l:List τ.T):Phi->(Phi->Prop)->Prop
 | [],K=>K []
 | (k,c)::r,K=>bif Nat.beq k id then fzP id τ l r K else fzC id τ l c fun c=>fzP id τ l r fun r=>K ((k,c)::r)
def qjD:List Nat->List SV->Env->Phi->(List SV->Env->Phi->Prop)->Prop
 | [],xs, σ, Φ,K=>K xs σ Φ
 | id::ids,xs, σ, Φ,K=>
  match Φ.get id with
  | some (.own τ l)=>qnQ id τ l xs fun xs=>fzE id τ l σ fun σ=>fzP id τ l Φ fun Φ=>qjD ids xs σ Φ K
  | none=>qjD ids xs σ Φ K
  | _=>False
def qmH:SV->List Nat->List Nat
 | .own i,r=>i::r
 | _,r=>r
def qV9:List SV->List Nat->List Nat
 | [],r=>r
 | x::xs,r=>qmH x (qV9 xs r)
def qGW:List SV->List Nat
 | []=>[]
 | .agg l::xs=>qV9 l (qGW xs)
 | x::xs=>qmH x (qGW xs)
def qi9:List SV->List Nat->List Nat
 | [],r=>r
 | .loc i _::xs,r=>i::qi9 xs r
 | .own i::xs,r=>i::qi9 xs r
 | .oel i _ _ _::xs,r=>i::qi9 xs r
 | .mref i::xs,r=>i::qi9 xs r
 | _::xs,r=>qi9 xs r
def qfU:List SV->List Nat->List Nat
 | [],r=>r
 | .agg l::xs,r=>qi9 l (qfU xs r)
 | .fn _ l::xs,r=>qi9 l (qfU xs r)
 | x::xs,r=>qi9 [x] (qfU xs r)
def qCO (m:List (Nat×Nat)) (i:Nat):Bool:=
 match m with
 | []=>false
 | (a,_)::r=>Nat.beq a i||qCO r i
def qMT (m:List (Nat×Nat)) (i:Nat):Bool:=
 match m with
 | []=>false
 | (_,a)::r=>Nat.beq a i||qMT r i
def qS9 (m:List (Nat×Nat)) (i:Nat) (K:Nat->Prop):Prop:=
 match m with
 | []=>False
 | (a,j)::r=>bif Nat.beq a i then K j else qS9 r i K
def qiS {α:Type}(x:α):List α->(List α->Prop)->Prop
 | [],K=>K [x]
 | y::r,K=>qiS x r fun l=>K (y::l)
def nums:List Nat:=[0,1,2,3,4,5,6,7,8,9,10,11,12,13,14,15,16,17,18,19,20,21,22,23,24,25,26,27,28,29]
def qOY (Φ:Phi):Nat->List Nat->List (Nat×Nat)->List Nat->(List (Nat×Nat)->Prop)->Prop
 | 0,_,_,_,_=>False
 | _+1,[],m,_,K=>K m
 | f+1,i::todo,m,ns,K=>
  bif qCO m i then qOY Φ f todo m ns K else
  match ns with
  | []=>False
  | j::ns=>
   match Φ.get i with
   | some (.bx _ cs)=>qiS (i,j) m fun m=>qOY Φ f (qfU cs todo) m ns K
   | some _=>qiS (i,j) m fun m=>qOY Φ f todo m ns K
   | none=>False
def rn0 (m:List (Nat×Nat)) (x:SV) (K:SV->Prop):Prop:=
 match x with
 | .loc i off=>qS9 m i fun j=>K (.loc j off)
 | .own i=>qS9 m i fun j=>K (.own j)
 | .oel i sz k off=>qS9 m i fun j=>K (.oel j sz k off)
 | .mref i=>qS9 m i fun j=>K (.mref j)
 | x=>bif x.okIds (fun _=>false) then K x else False
def qoY (m:List (Nat×Nat)):List SV->(List SV->Prop)->Prop
 | [],K=>K []
 | x::r,K=>rn0 m x fun y=>qoY m r fun r=>K (y::r)
def rn1 (m:List (Nat×Nat)) (x:SV) (K:SV->Prop):Prop:=
 match x with
 | .agg l=>qoY m l fun l=>K (.agg l)
 | .fn f l=>qoY m l fun l=>K (.fn f l)
 | x=>rn0 m x K
def qnM (m:List (Nat×Nat)):List SV->(List SV->Prop)->Prop
 | [],K=>K []
 | x::r,K=>rn1 m x fun y=>qnM m r fun r=>K (y::r)
def rn2 (m:List (Nat×Nat)) (x:SV) (K:SV->Prop):Prop:=
 match x with
 | .tup l=>qnM m l fun l=>K (.tup l)
 | x=>rn1 m x K
def rnC (m:List (Nat×Nat)) (c:Chunk) (K:Chunk->Prop):Prop:=
 match c with
 | .bx T cs=>qnM m cs fun cs=>K (.bx T cs)
 | c=>K c
def qiX (Φ:Phi) (m0:List (Nat×Nat)):List (Nat×Nat)->(Phi->Prop)->Prop
 | [],K=>K []
 | (i,j)::m,K=>match Φ.get i with|some ch=>rnC m0 ch fun ch=>qiX Φ m0 m fun r=>K ((j,ch)::r)|none=>False
def qKV (Φ0:Phi):List (Nat×Nat)->Env->Phi->(Env->Phi->Prop)->Prop
 | [], σ, Φ,K=>K σ Φ
 | (i,_)::m, σ, Φ,K=>
  match Φ0.get i with
  | some (.own _ _)=>qH3 i σ fun σ=>qGE i Φ fun Φ=>qKV Φ0 m σ Φ K
  | some (.nst _ _ _ _)=>qH3 i σ fun σ=>qGE i Φ fun Φ=>qKV Φ0 m σ Φ K
  | some (.foc _ _ _ _ _ _)=>False
  | some (.owg _ _ _)=>False
  | _=>qKV Φ0 m σ Φ K
def qbE (σ:Env) (Φ:Phi):Phi->List (Nat×Nat)->Nat->(List (Nat×Nat)->Nat->Prop)->Prop
 | [],M,n,K=>K M n
 | (j,_)::r,M,n,K=>
  bif qCO M j then qbE σ Φ r M n K
  else bif qE7 n σ&&(qGH n Φ && !qMT M n) then qbE σ Φ r ((j,n)::M) (Nat.succ n) K else False
def qmQ:List (Nat×Nat)->(List (Nat×Nat)->Prop)->Prop
 | [],K=>K []
 | (i,j)::r,K=>qmQ r fun l=>K ((j,i)::l)
def qYZ (M:List (Nat×Nat)):Phi->(Phi->Prop)->Prop
 | [],K=>K []
 | (j,ch)::r,K=>qS9 M j fun i=>rnC M ch fun ch=>qYZ M r fun l=>K ((i,ch)::l)
def qO4 (m:List (Nat×Nat)):Phi->(Phi->Prop)->Prop
 | [],K=>K []
 | (k,c)::r,K=>bif qCO m k then qO4 m r K else qO4 m r fun l=>K ((k,c)::l)
def qeS:Phi->Phi->(Phi->Prop)->Prop
 | [],R,K=>K R
 | e::F,R,K=>qeS F R fun l=>K (e::l)
def qCU:List (Nat×Nat)->Bool
 | []=>true
 | (a,_)::r => !qCO r a&&qCU r
def qCV:List (Nat×Nat)->Bool
 | []=>true
 | (_,a)::r => !qMT r a&&qCV r
def qMS (m:List (Nat×Nat)) (res:SV) (Φ':Phi) (σ:Env) (Φ:Phi) (n:Nat) (K:EK):Prop:=
 qKV Φ m σ Φ fun σ Φ1=>qmQ m fun M0=>qbE σ Φ1 Φ' M0 n fun M n'=>
 bif qCU M&&qCV M then
  rn2 M res fun res=>qYZ M Φ' fun Φb=>qO4 m Φ1 fun Φr=>qeS Φb Φr fun Φ2=>K res σ Φ2 n'
 else False
def isNil {α:Type}:List α->Bool
 | []=>true
 | _=>false
def qYH (m:List (Nat×Nat)):List Nat->Bool
 | []=>true
 | i::r => !qCO m i&&qYH m r
inductive CallM (B:Base) (f:FuncId) (cargs:List SV) (Φc:Phi) (lent:List Nat) (m:List (Nat×Nat)) (σ:Env) (Φ:Phi) (n:Nat) (K:EK):Prop
 | mk {pre:Prop}{res:SV}{Φ':Phi}[fn:FnM B f cargs Φc pre res Φ'] (hl:(qYH m lent&&(isNil lent||(res.plainI&&qLB Φ')))=true) (hp:Ob pre) (k:qMS m res Φ' σ Φ n K)
def qPM (B:Base) (f:FuncId) (args:List SV) (lent:List Nat) (σ:Env) (Φ:Phi) (n:Nat) (K:EK):Prop:=
 qOY Φ 60 (qfU args []) [] nums fun m=>qnM m args fun cargs=>qiX Φ m m fun Φc=>CallM B f cargs Φc lent m σ Φ n K
def roK:List Nat->Phi->(Phi->Prop)->Prop
 | [], Φ,K=>K Φ
 | i::r, Φ,K=>match Φ.get i with|some (.own τ l)=>qDF i (.ro τ l) Φ fun Φ=>roK r Φ K|some (.ro _ _)=>False|_=>False
def qnD:List Nat->Phi->(Phi->Prop)->Prop
 | [], Φ,K=>K Φ
 | i::r, Φ,K=>match Φ.get i with|some (.own τ l)=>qDF i (.ow τ l) Φ fun Φ=>qnD r Φ K|some (.ow _ _)=>qnD r Φ K|_=>False
def qgJ:List Nat->Phi->(Phi->Prop)->Prop
 | [], Φ,K=>K Φ
 | i::r, Φ,K=>match Φ.get i with|some (.ro τ l)=>qDF i (.own τ l) Φ fun Φ=>qgJ r Φ K|_=>False
def qjC (ids:List Nat) (Φ:Phi) (x:SV) (K:SV->Prop):Prop:=
 match x with
 | .own id=>bif mem0 id ids then(match Φ.get id with|some (.own τ l)=>K (.rd τ l)|_=>False) else K (.own id)
 | x=>K x
where mem0 (i:Nat):List Nat->Bool
 | []=>false
 | x::r=>Nat.beq x i||mem0 i r
def qlZ (ids:List Nat) (Φ:Phi):List SV->(List SV->Prop)->Prop
 | [],K=>K []
 | x::r,K=>qjC ids Φ x fun y=>qlZ ids Φ r fun l=>K (y::l)
def zD9 (ids:List Nat) (Φ:Phi) (x:SV) (K:SV->Prop):Prop:=
 match x with
 | .agg l=>qlZ ids Φ l fun l=>K (.agg l)
 | x=>qjC ids Φ x K
def qgY (ids:List Nat) (Φ:Phi):List SV->(List SV->Prop)->Prop
 | [],K=>K []
 | x::r,K=>zD9 ids Φ x fun y=>qgY ids Φ r fun l=>K (y::l)
inductive CallS (B:Base) (f:FuncId) (args:List SV) (σ:Env) (Φ:Phi) (n:Nat) (K:EK):Prop
 | q (h:qj6 B Φ f args (fun p=>p) fun sv=>K sv σ Φ n)
 | m (h:qL8 Φ args fun largs=>qPM B f largs (qGW args) σ Φ n K)
 | h (h:qPM B f args [] σ Φ n K)
 | b (h:roK (qGW args) Φ fun Φr=>qPM B f args [] σ Φr n fun sv σ Φ n=>qgJ (qGW args) Φ fun Φ=>K sv σ Φ n)
 | z (h:qjD (qGW args) args σ Φ fun args σ Φ=>qPM B f args [] σ Φ n K)
 | l (ids:List Nat) (h:qgY ids Φ args fun largs=>qPM B f largs ids σ Φ n K)
 | i (call:∀ (vs:Array Value) (w:World),(callFunc f vs).run B.P w=.ok (.enter f vs) w) (h:Ct B f args Φ fun sv Φ'=>∃ n',gcP (fun i => !(sv.okIds (fun j => !Nat.beq j i))) Φ Φ' Φ' fun Φ''=>qLR Φ σ fun σ'=>bif qRT Φ'' Φ then K sv σ' Φ'' n else K sv σ' Φ'' n')
def qD3 (P:Program) (xs ys:List SV):List Field->(Bool->Prop)->Prop
 | [],K=>K true
 | f::fs,K=>
  match P.underlying f.type,nth xs f.offset,nth ys f.offset with
  | some (.int _),some (.int k a),some (.int k' b)=>bif kEq k k' then qD3 P xs ys fs fun r=>K ((a==b)&&r) else False
  | some .string,some (.str a),some (.str b)=>qD3 P xs ys fs fun r=>K ((a==b)&&r)
  | some .bool,some (.bool a),some (.bool b)=>qD3 P xs ys fs fun r=>K ((a==b)&&r)
  | _,_,_=>False
def qb5:SV->Bool
 | .loc _ _|.el _ _ _ _|.oel _ _ _ _=>true
 | _=>false
def qjF:SV->Bool
 | .loc _ _|.el _ _ _ _|.oel _ _ _ _=>true
 | .v (.pointer none)=>true
 | _=>false
def qTJ (P:Program) (t:TypeId) (x y:SV) (K:Bool->Prop):Prop:=
  match P.underlying t with
  | some (.pointer e)=>
    (match x,y with
     | .v (.pointer none),.v (.pointer none)=>K true
     | x,.v (.pointer none)=>bif qb5 x then K false else False
     | .v (.pointer none),y=>bif qb5 y then K false else False
     | .loc i off,.loc j off'=>bif Nat.beq i j&&(Nat.beq off off' && !Nat.beq (qAW P e) 0) then K true else False
     | _,_=>False)
  | _=>False
def qdF (B:Base) (op:BinOp) (t:TypeId) (x y:SV) (g:Prop->Prop) (K:SV->Prop):Prop:=
  match x,y with
  | .agg xs,.agg ys=>
    bif B.eqs t then
      match B.P.underlying t,op with
      | some (.struct ⟨fs⟩),.eql=>qD3 B.P xs ys fs fun b=>K (.bool b)
      | some (.struct ⟨fs⟩),.neq=>qD3 B.P xs ys fs fun b=>K (.bool (!b))
      | _,_=>False
    else False
  | x,y=>bif qjF x then(match op with
      | .eql=>qTJ B.P t x y fun b=>K (.bool b)
      | .neq=>qTJ B.P t x y fun b=>K (.bool (!b))
      | _=>False)
    else qgI B.P op t x y g K
def zB7 (P:Program) (Φ:Phi) (t:TypeId) (x:SV) (K:Bool->Prop):Prop:=
  match P.underlying t with
  | some (.slice _)=>
    (match x with
     | .nils=>K true
     | .rd _ l=>∀ b:Bool,(b=true->l=[])->K b
     | .own id=>(match Φ.row id with|some (.own _ l)=>∀ b:Bool,(b=true->l=[])->K b|_=>False)
     | _=>False)
  | _=>False
def qJ7 (P:Program) (t:TypeId) (p x:SV) (σ:Env) (Φ:Phi) (n:Nat) (K:EK):Prop:=
 match p with
 | .oel _ _ _ _=>qjD (qGW [x]) [p,x] σ Φ fun xs σ Φ=>(match xs with|[p,x]=>qYD P t p x σ Φ n K|_=>False)
 | p=>qYD P t p x σ Φ n K
def qVP (P:Program) (t:TypeId) (p x:SV) (σ:Env) (Φ:Phi) (n:Nat) (K:EK):Prop:=
  match p,x with
  | .oel id sz0 i off,.own e=>
    (match Φ.get id, Φ.get e with
     | some (.own τ l),some (.own τe le)=>
       bif Nat.beq τe.size 1 then qJ7 P t (.oel id sz0 i off) (.own e) σ Φ n K else
       bif Nat.beq sz0 τ.size&&(Nat.beq (qAW P t) 1&&(!τ.isB&&(!Nat.beq e id&&Nat.blt off τ.size))) then
         Ob (i<l.length)/\∀ g:Value,qDF e (.owg τe le g) Φ fun Φ=>qDF id (.foc τ l i off e g) Φ fun Φ=>K .und σ Φ n
       else False
     | _,_=>qJ7 P t p x σ Φ n K)
  | p,x=>qJ7 P t p x σ Φ n K
def qXS (B:Base) (t:TypeId) (p x:SV) (σ:Env) (Φ:Phi) (n:Nat) (K:EK):Prop:=
 bif B.fo then qVP B.P t p x σ Φ n K else qJ7 B.P t p x σ Φ n K
def qp9:List SV->List SV->(List SV->Prop)->Prop
 | [],l,K=>K l
 | x::r,l,K=>qp9 r l fun xs=>K (x::xs)
def evK (B:Base) (Φ:Phi) (σ:Env) (ctx:Ctx) (g:Prop->Prop) (ung:Bool) (o:Op) (K:SV->Prop):Prop:=
 match o with
 | .move x|.assign x=>opK σ ctx x K
 | .pick c a b=>qeP σ ctx c a b K
 | .binOp op t x y _=>opK σ ctx x fun x=>opK σ ctx y fun y=>qdF B op t x y g K
 | .unOp op _ x=>opK σ ctx x fun x=>zCR op x g K
 | .convert s d x=>opK σ ctx x fun x=>qZP B.P s d x g K
 | .index t x i=>opK σ ctx x fun x=>opK σ ctx i fun i=>qWX B.P t x i g K
 | .slice t x lo hi none=>opK σ ctx x fun x=>loK σ ctx lo fun lo=>loK σ ctx hi fun hi=>qV7 B.P t x lo hi g K
 | .field t x f=>opK σ ctx x fun x=>qVI B.P t x f K
 | .load t x=>opK σ ctx x fun x=>qZM B.P Φ t x g K
 | .fieldAddr t x f=>opK σ ctx x fun x=>qIL B.P t x f K
 | .indexAddr t x i=>opK σ ctx x fun x=>opK σ ctx i fun i=>qIH B.P Φ t x i g K
 | .extract x i=>opK σ ctx x fun
  | .tup l=>(match nth l i with|some sv=>K sv|none=>False)
  | _=>False
 | .build t ⟨parts⟩=>qW4 B.P σ ctx t parts K
 | .makeFunc (.func f) ⟨[]⟩ ⟨caps⟩=>qgT σ ctx caps fun l=>K (.fn f l)
 | .call ⟨.builtin b,⟨xs⟩,⟨ts⟩⟩=>qgT σ ctx xs fun xs=>qNJ B.P Φ b ts xs ung K
 | .call ⟨.value f,⟨xs⟩,_⟩=>opK σ ctx f fun
  | .fn f caps=>qgT σ ctx xs fun xs=>qp9 xs caps fun xs=>qj6 B Φ f xs g K
  | _=>False
 | .nilCheck x=>opK σ ctx x fun x=>qoJ x K
 | .lookup t x i ok=>opK σ ctx x fun x=>opK σ ctx i fun i=>qRC B Φ t x i ok K
 | .buildSlice t ln ⟨parts⟩=>qRM B σ ctx t ln parts K
 | _=>False
def qN6 (all:List Oper) (j:Nat):Option Nat:=match nth all j with|some o=>o.dst|none=>none
def npT (B:Base) (t:TypeId):Bool:=
 match B.P.underlying t with
 | some (.slice e)=>(match B.np e with|some _=>true|none=>false)
 | _=>false
def qoQ (B:Base) (op:Op) (σ:Env) (Φ:Phi) (n:Nat) (K:EK):Prop:=
 match op with
 | .alloc t=>qN5 B.P t fun z=>bif B.tb t then qm9 n (some t) z σ Φ K else qm9 n none z σ Φ K
 | .box _ x=>opK σ [] x fun sv=>qO2 sv fun cs=>qm9 n none cs σ Φ K
 | .store t p x=>opK σ [] p fun p=>opK σ [] x fun x=>qXS B t p x σ Φ n K
 | .buildSlice t ln ⟨parts⟩=>qgT σ [] (parts.map (·.2)) fun xs=>qjD (qGW xs) [] σ Φ fun _ σ Φ=>(bif npT B t then evK B Φ σ [] (fun p=>p) true (.buildSlice t ln ⟨parts⟩) fun sv=>K sv σ Φ n else qID B σ t ln parts Φ n K)
 | .makeSlice t l c=>opK σ [] l fun l=>opK σ [] c fun c=>qJ0 B t l c σ Φ n K
 | .makeMap t none=>qMC B t σ Φ n K
 | .makeMap t (some r)=>opK σ [] r fun|.int _ _=>qMC B t σ Φ n K|_=>False
 | .mapUpdate t m k x=>opK σ [] m fun m=>opK σ [] k fun k=>opK σ [] x fun x=>qQY B t m k x σ Φ n K
 | .insert t m k x=>opK σ [] m fun m=>opK σ [] k fun k=>opK σ [] x fun x=>qQY B t m k x σ Φ n K
 | .convert s d x=>opK σ [] x fun x=>qcY B s d x σ Φ n K
 | .range t x=>opK σ [] x fun x=>qeC B.P t x σ Φ n K
 | .next x s=>opK σ [] x fun x=>qlQ x s σ Φ n K
 | .entry x=>opK σ [] x fun x=>qbX x σ Φ n K
 | .binOp .eql t x (.const (.slice none 0 0)) _=>opK σ [] x fun x=>zB7 B.P Φ t x fun b=>K (.bool b) σ Φ n
 | .binOp .neq t x (.const (.slice none 0 0)) _=>opK σ [] x fun x=>zB7 B.P Φ t x fun b=>K (.bool (!b)) σ Φ n
 | .slice t x none (some hi) none=>opK σ [] x fun
  | .own id=>opK σ [] hi fun hi=>zFW B t id hi σ Φ n K
  | _=>evK B Φ σ [] (fun p=>p) true (.slice t x none (some hi) none) fun sv=>K sv σ Φ n
 | .slice t x none (some hi) (some mx)=>opK σ [] x fun
  | .own id=>opK σ [] hi fun hi=>opK σ [] mx fun mx=>ql7 B t id hi mx σ Φ n K
  | _=>False
 | .slice t x (some lo) none none=>opK σ [] x fun
  | .own id=>opK σ [] lo fun lo=>qlY B t id lo σ Φ n K
  | _=>evK B Φ σ [] (fun p=>p) true (.slice t x (some lo) none none) fun sv=>K sv σ Φ n
 | .call ⟨.builtin .clear,⟨[x]⟩,⟨[t]⟩⟩=>opK σ [] x fun
  | .otl id sz k=>qdC B t (.otl id sz k) σ Φ n K
  | _=>evK B Φ σ [] (fun p=>p) true (.call ⟨.builtin .clear,⟨[x]⟩,⟨[t]⟩⟩) fun sv=>K sv σ Φ n
 | .call ⟨.builtin .append,⟨[s,x]⟩,⟨[ts,tx]⟩⟩=>opK σ [] s fun s=>opK σ [] x fun x=>(match s with|.nils=>AppN B ts tx x σ Φ n K|s=>qIE B ts tx s x σ Φ n K)
 | .call ⟨.builtin .unsafeSliceData,⟨[x]⟩,⟨[_]⟩⟩=>opK σ [] x fun x=>qb8 x σ Φ n K
 | .call ⟨.builtin .unsafeString,⟨[p,i]⟩,⟨[tp,_]⟩⟩=>opK σ [] p fun p=>opK σ [] i fun i=>qlC B tp p i σ Φ n K
 | .call ⟨.builtin .delete,⟨[m,k]⟩,⟨[tm,tk]⟩⟩=>opK σ [] m fun m=>opK σ [] k fun k=>qVC B tm m k σ Φ n K
 | .call ⟨.builtin .len,⟨[x]⟩,⟨[t]⟩⟩=>opK σ [] x fun
  | .mref id=>qVL B t (.mref id) σ Φ n K
  | _=>evK B Φ σ [] (fun p=>p) true (.call ⟨.builtin .len,⟨[x]⟩,⟨[t]⟩⟩) fun sv=>K sv σ Φ n
 | .call ⟨.value f,⟨xs⟩,_⟩=>opK σ [] f fun
  | .fn f caps=>qgT σ [] xs fun xs=>qp9 xs caps fun xs=>bif B.ne f then(match xs with|[x]=>K x σ Φ n|_=>False) else CallS B f xs σ Φ n K
  | .v (.func (.yield l) ⟨[]⟩ ⟨[]⟩)=>qgT σ [] xs fun xs=>qeL B l xs σ Φ n K
  | _=>False
 | op=>evK B Φ σ [] (fun p=>p) true op fun sv=>K sv σ Φ n
def qeT (σ:Env):List Operand->Bool
  | []=>false
  | .tmp t::r=>
    (match σ.get t with
     | some (_,.loc _ _)=>true
     | some (_,.oel _ _ _ _)=>true
     | some (_,.mref _)=>true
     | _=>qeT σ r)
  | _::r=>qeT σ r
def qQR (σ:Env) (op:Op):Bool:=
  match op with
  | .call ⟨.value f,⟨xs⟩,_⟩=>
    (match f with
     | .tmp t=>
       (match σ.get t with
        | some (_,.v (.func (.yield _) _ _))=>true
        | some (_,.fn _ caps) => !SV.okIdsL (fun _=>false) caps
        | _=>false)
     | _=>false)||qeT σ xs
  | .convert _ _ (.tmp t)=>(match σ.get t with|some (_,.str _)=>true|_=>false)
  | _=>false
def qlP:Bool->Bool->Bool
 | true,b=>b
 | false,b => !b
def qjL (s:Nat) (w:Bool):Env->Env
 | []=>[]
 | (k,some (s',w'),sv)::r=>(k,(bif Nat.beq s' s&&qlP w' w then none else some (s',w')),sv)::qjL s w r
 | (k,none,sv)::r=>(k,none,sv)::qjL s w r
def zEO (s:Nat) (w:Bool) (σ:Env):Env:=(s,none,.bool w)::qjL s w σ
def qK7 (d:Option Nat) (gd:Option (Nat×Bool)) (sv:SV) (σ:Env):Env:=match d with|some d=>(d,gd,sv)::σ|none=>σ
def qDZ:Op->Bool
 | .defer _=>true
 | _=>false
def spB (B:Base) (op:Op):Bool:=B.al||(match op with|.call ⟨.value (.func f),_,_⟩=>B.sp f|_=>false)
def qF1 (B:Base) (all:List Oper):List Oper->Env->Phi->Nat->(Env->Phi->Nat->Prop)->Prop
 | [], σ, Φ,n,K=>K σ Φ n
 | ⟨dst,op,_,_,_,guard⟩::rest, σ, Φ,n,K=>
  match guard with
  | none=>qoQ B op σ Φ n fun sv σ Φ n=>qF1 B all rest (qK7 dst none sv σ) Φ n K
  | some (j,w)=>
   match qN6 all j with
   | some s=>
    match σ.get s with
    | some (none,.v (.bool c))=>
     bif qlP c w then qoQ B op σ Φ n fun sv σ Φ n=>qF1 B all rest (qK7 dst none sv σ) Φ n K
     else bif qDZ op then False else qF1 B all rest (qK7 dst none (.v undef) σ) Φ n K
    | some (none,.v (.tuple ⟨[]⟩))=>bif qDZ op then False else qF1 B all rest (qK7 dst none (.v undef) σ) Φ n K
    | _=>
    bif qQR σ op||(spB B op && !qDZ op) then
     match σ.get s with
     | some (none,.bool b)=>
      (b=w->qoQ B op (zEO s w σ) Φ n fun sv σ Φ n=>qF1 B all rest (qK7 dst none sv σ) Φ n K)/\
      (b=(!w)->qF1 B all rest (qK7 dst none (.v undef) ((s,none,.v (.bool (!w)))::σ)) Φ n K)
     | _=>False
    else qnP σ 40 s w fun ctx g=>evK B Φ σ ctx g false op fun sv=>qF1 B all rest (qK7 dst (some (s,w)) sv σ) Φ n K
   | none=>False
def vcT (B:Base):List Nat->List Oper->Env->Phi->(Env->Prop)->Prop
 | 0::ps,⟨dst,op,_,_,_,_⟩::ops, σ, Φ,K=>evK B Φ σ [] (fun p=>p) false op fun sv=>vcT B ps ops (qK7 dst none sv σ) Φ K
 | _::ps,_::ops, σ, Φ,K=>vcT B ps ops σ Φ K
 | _,_, σ,_,K=>K σ
inductive CallF (B:Base) (f:FuncId) (args largs:List SV) (K:SV->Phi->Prop):Prop
 | nwl {pre:Prop}{res:SV}{Φ':Phi}[fn:FnM B f largs [] pre res Φ'] (pl:(res.plainI&&qLB Φ')=true) (hp:Ob pre) (k:K res Φ')
 | nw {pre:Prop}{res:SV}{Φ':Phi}[fn:FnM B f args [] pre res Φ'] (hp:Ob pre) (k:K res Φ')
abbrev Frs:=List (Nat×SV×Phi)
def qHT (B:Base) (Φ:Phi) (σ:Env) (op:Op) (K:SV->Phi->Prop):Prop:=
  match op with
  | .buildSlice t ln ⟨parts⟩=>
    (match B.P.underlying t with
     | some (.slice e)=>
       (match B.ty e with
        | some τ=>bif qEZ B.P e τ.size then qHG B.P σ [] e ln parts fun rows=>qEI (qUO τ) rows fun l=>K (.own 0) [(0,.own τ l)] else False
        | none=>False)
     | _=>False)
  | .call ⟨.value f,⟨xs⟩,_⟩=>opK σ [] f fun
    | .fn f caps=>qgT σ [] xs fun xs=>qp9 xs caps fun xs=>bif SV.okIdsL (fun _=>false) xs then CallF B f xs xs K else qL8 Φ xs fun ys=>CallF B f xs ys K
    | _=>False
  | _=>False
def qaS:Nat->Env->Nat->Bool->Bool
 | 0,_,_,_=>false
 | f+1, σ,s,w=>
  match σ.get s with
  | some (none,.bool b)=>(match b with|true => !w|false=>w)
  | some (none,.v (.bool c)) => !qlP c w
  | some (some (_,_),.bool b)=>(match b with|true => !w|false=>w)
  | some (some (s',w'),_)=>qaS f σ s' w'
  | _=>false
def qe2:Op->Bool
 | .select _ _=>true
 | _=>false
def qKO (B:Base) (all:List Oper) (Φ:Phi):List Nat->List Oper->Env->Frs->(Env->Frs->List Nat->List Oper->Prop)->Prop
  | [],_, σ,F,K=>K σ F [] []
  | _,[], σ,F,K=>K σ F [] []
  | 0::ps,_::ops, σ,F,K=>qKO B all Φ ps ops σ F K
  | 1 :: ps,⟨dst,op,_,_,_,guard⟩::ops, σ,F,K=>
    (match guard with
     | none=>evK B Φ σ [] (fun p=>p) false op fun sv=>qKO B all Φ ps ops (qK7 dst none sv σ) F K
     | some (j,w)=>
       match qN6 all j with
       | some s=>
         bif B.al&&qaS 40 σ s w then(bif qDZ op||qe2 op then False else qKO B all Φ ps ops (qK7 dst (some (s,w)) .und σ) F K)
         else qnP σ 40 s w fun ctx g=>evK B Φ σ ctx g false op fun sv=>qKO B all Φ ps ops (qK7 dst (some (s,w)) sv σ) F K
       | none=>False)
  | 2::ps,⟨dst,op,_,_,_,guard⟩::ops, σ,F,K=>
    (match guard,dst with
     | none,some d=>qHT B Φ σ op fun res Φ'=>qKO B all Φ ps ops ((d,none,.und)::σ) ((d,res, Φ')::F) K
     | _,_=>False)
  | p::ps,o::ops, σ,F,K=>K σ F (p::ps) (o::ops)
def qiB:Frs->Env->Phi->Nat->(Env->Phi->Nat->Prop)->Prop
 | [], σ, Φ,n,K=>K σ Φ n
 | (d,res, Φ')::F, σ, Φ,n,K=>qiB F σ Φ n fun σ Φ n=>qMS [] res Φ' σ Φ n fun sv σ Φ n=>K ((d,none,sv)::σ) Φ n
def qBR:List Nat->List Oper->List Oper
 | 0::ps,_::ops=>qBR ps ops
 | _::ps,o::ops=>o::qBR ps ops
 | _,_=>[]
def qcX (B:Base) (all:List Oper) (plan:List Nat) (σ:Env) (Φ:Phi) (n:Nat) (K:Env->Phi->Nat->Prop):Prop:=
 vcT B plan all σ Φ fun σ=>qKO B all Φ plan all σ [] fun σ F ps ops=>qiB F σ Φ n fun σ Φ n=>qF1 B all (qBR ps ops) σ Φ n K
def qD8 (i:Nat):List Nat->Bool
 | []=>false
 | x::r=>Nat.beq x i||qD8 i r
def qJP (all:List Oper):Nat->List Nat->List Nat->List Nat
 | 0,_,acc=>acc
 | _+1,[],acc=>acc
 | f+1,i::todo,acc=>
  bif qD8 i acc then qJP all f todo acc
  else qJP all f ((match nth all i with|some o=>o.after.toList.filterMap (fun e=>bif Region.binds .any e then some e.on else none)|none=>[])++todo) (i::acc)
def qRH (i:Nat):List Nat->List Nat
 | []=>[]
 | x::r=>bif Nat.beq x i then qRH i r else x::qRH i r
def qX4 (clo:List Nat) (i:Nat):List Nat->Bool
 | []=>true
 | j::r=>(Nat.beq j i || !qD8 j clo)&&qX4 clo i r
def qqB (all:List Oper) (rem:List Nat) (i:Nat):Bool:=qX4 (qJP all (all.length*all.length+all.length+2) [i] []) i rem
def qg6 (rem:List Nat) (rdy:Nat->Bool) (D:Nat->Prop):List Nat->Prop
 | []=>True
 | i::r=>(bif rdy i then D i else True)/\qg6 rem rdy D r
def qQA (tab:List Nat) (i:Nat):List Nat->Bool
 | []=>true
 | j::r=>(Nat.beq j i || !qD8 (Nat.add (Nat.mul i 64) j) tab)&&qQA tab i r
def qNC (all:List Oper) (tab:List Nat) (rem:List Nat) (i:Nat):Bool:=
 match tab with
 | []=>qqB all rem i
 | t=>qQA t i rem
def qR5 (all:List Oper):List Nat->Bool
 | []=>true
 | c::r=>qD8 (c%64) (qJP all (all.length*all.length+all.length+2) [c/64] [])&&qR5 all r
def vcE (B:Base) (all:List Oper) (tab:List Nat) (K:Env->Phi->Nat->Prop):Nat->List Nat->Env->Phi->Nat->Prop
 | 0,_,_,_,_=>False
 | _+1,[], σ, Φ,n=>K σ Φ n
 | f+1,x::r, σ, Φ,n=>qg6 (x::r) (qNC all tab (x::r)) (fun i=>match nth all i with|some o=>qF1 B all [o] σ Φ n fun σ Φ n=>vcE B all tab K f (qRH i (x::r)) σ Φ n|none=>False) (x::r)
def qN8:Nat->List Nat->List Nat
 | _,[]=>[]
 | k,p::r=>bif Nat.beq p 4 then k::qN8 (Nat.succ k) r else qN8 (Nat.succ k) r
def qXN (B:Base) (all:List Oper) (plan:List Nat) (tab:List Nat) (σ:Env) (Φ:Phi) (n:Nat) (K:Env->Phi->Nat->Prop):Prop:=
 vcT B plan all σ Φ fun σ=>vcE B all tab K (Nat.succ all.length) (qN8 0 plan) σ Φ n
def qEE:List Nat->Env->(Env->Prop)->Prop
 | [],_,K=>K []
 | k::L, σ,K=>
  match σ.get k with
  | some (none,sv)=>qEE L σ fun r=>K ((k,none,sv)::r)
  | _=>qEE L σ K
inductive Ex where
 | normal
 | exit (id:Nat)
 | ret
abbrev KT:=Ex->Env->Phi->Nat->Prop
def qOL (Φ:Phi) (i:Nat):Bool:=match Φ.get i with|some _=>true|none=>false
abbrev MM:=List (Nat×Option Nat)
def MM.get:MM->Nat->Option (Option Nat)
 | [],_=>none
 | (a,x)::r,j=>bif Nat.beq a j then some x else MM.get r j
def MM.used:MM->Nat->Bool
 | [],_=>false
 | (_,some i)::r,j=>Nat.beq i j||MM.used r j
 | (_,none)::r,j=>MM.used r j
def qWC (M:MM) (j i:Nat) (K:MM->Prop):Prop:=
 match M.get j with
 | some (some i')=>bif Nat.beq i i' then K M else False
 | some none=>False
 | none=>bif M.used i then False else K ((j,some i)::M)
def qtL (Φ ΦI:Phi) (a b:SV) (M:MM) (Z:List Nat) (K:MM->List Nat->Prop):Prop:=
 match a,b with
 | .int k n,.int k' n'=>(k=k'/\n=n')/\K M Z
 | .bool b,.bool b'=>b=b'/\K M Z
 | .str l,.str l'=>l=l'/\K M Z
 | .flt n,.flt n'=>n=n'/\K M Z
 | .cpx a b,.cpx a' b'=>(a=a'/\b=b')/\K M Z
 | .own i,.own j=>qWC M j i fun M=>K M Z
 | .nils,.own j=>(match M.get j with|none=>K ((j,none)::M) Z|some none=>K M Z|_=>False)
 | .nils,.rd _ l=>l=[]/\K M Z
 | .own i,.rd τ' l'=>(match Φ.get i with|some (.own τ l)=>SV.rd τ l=SV.rd τ' l'/\K M (i::Z)|some (.ow τ l)=>SV.rd τ l=SV.rd τ' l'/\K M (i::Z)|some (.nst τ _ l none)=>SV.rd τ l=SV.rd τ' l'/\K M (i::Z)|_=>False)
 | .loc i off,.el τ l k off'=>(match Φ.get i,l with|some (.bx _ cells),[x]=>((k=0/\off=off')/\cells=τ.enc x)/\K M (i::Z)|_,_=>False)
 | .lits sz rows,.rd τ l=>(sz=τ.size/\rows=l.map τ.enc)/\K M Z
 | .loc i off,.loc j off'=>bif Nat.beq off off' then qWC M j i fun M=>K M Z else False
 | .mref i,.mref j=>qWC M j i fun M=>K M Z
 | .oel i sz k off,.oel j sz' k' off'=>(sz=sz'/\k=k'/\off=off')/\qWC M j i fun M=>K M Z
 | _,.und=>K M Z
 | a,b=>bif b.okIds (fun _=>false) then a=b/\K M Z else False
def qcC (Φ ΦI:Phi):List SV->List SV->MM->List Nat->(MM->List Nat->Prop)->Prop
 | [],[],M,Z,K=>K M Z
 | a::r,b::s,M,Z,K=>qtL Φ ΦI a b M Z fun M Z=>qcC Φ ΦI r s M Z K
 | _,_,_,_,_=>False
def qtN (Φ ΦI:Phi) (a b:SV) (M:MM) (Z:List Nat) (K:MM->List Nat->Prop):Prop:=
 match a,b with
 | .agg l,.agg l'=>qcC Φ ΦI l l' M Z K
 | .fn f l,.fn f' l'=>f=f'/\qcC Φ ΦI l l' M Z K
 | a,b=>qtL Φ ΦI a b M Z K
def qbR (Φ ΦI:Phi):List SV->List SV->MM->List Nat->(MM->List Nat->Prop)->Prop
 | [],[],M,Z,K=>K M Z
 | a::r,b::s,M,Z,K=>qtN Φ ΦI a b M Z fun M Z=>qbR Φ ΦI r s M Z K
 | _,_,_,_,_=>False
def zCM (Φ ΦI:Phi) (a b:SV) (M:MM) (Z:List Nat) (K:MM->List Nat->Prop):Prop:=
 match a,b with
 | .tup l,.tup l'=>qbR Φ ΦI l l' M Z K
 | a,b=>qtN Φ ΦI a b M Z K
def qpQ (σ:Env) (Φ ΦI:Phi):Env->MM->List Nat->(MM->List Nat->Prop)->Prop
 | [],M,Z,K=>K M Z
 | (k,_,svI)::r,M,Z,K=>
  match σ.get k with
  | some (none,sv)=>zCM Φ ΦI sv svI M Z fun M Z=>qpQ σ Φ ΦI r M Z K
  | _=>False
def eqT:Option Nat->Option Nat->Bool
 | _,none=>true
 | some a,some b=>Nat.beq a b
 | none,some _=>false
def qZ8 (Φ ΦI:Phi):Phi->MM->List Nat->(MM->List Nat->Prop)->Prop
  | [],M,Z,K=>K M Z
  | (j,chI)::r,M,Z,K=>
    match M.get j with
    | none=>
      (match Φ.get j,chI with
       | some (.own τ l),.own τ' l'=>bif M.used j then False else Chunk.own τ l=Chunk.own τ' l'/\qZ8 Φ ΦI r ((j,some j)::M) Z K
       | some (.nst τ p l q),.nst τ' p' l' q'=>bif M.used j then False else Chunk.nst τ p l q=Chunk.nst τ' p' l' q'/\qZ8 Φ ΦI r ((j,some j)::M) Z K
       | some (.foc τ l i p e g),.foc τ' l' i' p' e' g'=>bif M.used j then False else Chunk.foc τ l i p e g=Chunk.foc τ' l' i' p' e' g'/\qZ8 Φ ΦI r ((j,some j)::M) Z K
       | some (.owg τ l g),.owg τ' l' g'=>bif M.used j then False else Chunk.owg τ l g=Chunk.owg τ' l' g'/\qZ8 Φ ΦI r ((j,some j)::M) Z K
       | none,.own _ l'=>l'=[]/\qZ8 Φ ΦI r ((j,none)::M) Z K
       | _,_=>False)
    | some none=>(match chI with|.own _ l'=>l'=[]/\qZ8 Φ ΦI r M Z K|_=>False)
    | some (some i)=>
      (match Φ.get i,chI with
       | some (.bx T cs),.bx TI csI=>bif eqT T TI then qbR Φ ΦI cs csI M Z fun M Z=>qZ8 Φ ΦI r M Z K else False
       | some ch,chI=>ch=chI/\qZ8 Φ ΦI r M Z K
       | none,_=>False)
def qKB (M:MM):List Nat->Bool
 | []=>true
 | i::Z => !M.used i&&qKB M Z
def qnK (ΦI:Phi):MM->Bool
 | []=>true
 | (j,x)::M=>(match ΦI.get j with|some _=>true|none=>false)&&((match MM.get M j with|none=>true|some _=>false)&&((match x with|some i => !MM.used M i|none=>true)&&qnK ΦI M))
def qa8:Phi->MM
 | []=>[]
 | (j,ch)::r=>bif Nat.beq ch.kind 0 then qa8 r else(j,some j)::qa8 r
def qZU (ΦI:Phi):Phi->Bool
 | []=>true
 | (j,ch)::r=>(Nat.beq ch.kind 0||(match ΦI.get j with|some c=>Nat.beq c.kind ch.kind|none=>false))&&qZU ΦI r
def qp4 (id:Nat):Phi->(Phi->Prop)->Prop
 | [],K=>K []
 | (k,c)::r,K=>bif Nat.beq k id then qp4 id r K else qp4 id r fun r=>K ((k,c)::r)
def qnI (ΦI:Phi):Phi->Phi->(Phi->Prop)->Prop
  | [], Φ,K=>K Φ
  | (j,.foc _ _ _ _ _ _)::r, Φ,K=>
    (match Φ.get j, ΦI.get j with
     | some (.foc τ l i p e g),some (.own _ _)=>
       (match Φ.get e with
        | some (.owg τe le g')=>bif Nat.beq e j then False else g'=g/\qL2 τ (qIP (τ.enc (l.getD i τ.dflt)) p (.rd τe le)) fun a=>qp4 e Φ fun Φ=>qDF j (.own τ (l.set i a)) Φ fun Φ=>qnI ΦI r Φ K
        | _=>False)
     | _,_=>qnI ΦI r Φ K)
  | _::r, Φ,K=>qnI ΦI r Φ K
def qIU (σ:Env) (Φ:Phi) (σI:Env) (ΦI:Phi) (Φ0:Phi):Prop:=
 qnI ΦI Φ Φ fun Φ=>qpQ σ Φ ΦI σI (qa8 Φ0) [] fun M Z=>qZ8 Φ ΦI ΦI M Z fun M Z=>bif qnK ΦI M&&(qKB M Z&&qZU ΦI Φ0) then True else False
def qf0:List (Nat×SV)->Env->Env
 | [], σ=>σ
 | (k,sv)::r, σ=>(k,none,sv)::qf0 r σ
def qeO (F:Phi):Phi->(Phi->Prop)->Prop
 | [],K=>K []
 | (k,c)::r,K=>bif qOL F k then qeO F r K else qeO F r fun l=>K ((k,c)::l)
def qY0:Phi->Phi->(Phi->Prop)->Prop
 | [],R,K=>K R
 | e::F,R,K=>qY0 F R fun l=>K (e::l)
def qEU (L:List Nat) (U:List (Nat×SV)) (F:Phi) (σ:Env) (Φ:Phi) (K:Env->Phi->Prop):Prop:=
 qEE L (qf0 U σ) fun σI=>qeO F Φ fun R=>qY0 F R fun ΦI=>K σI ΦI
structure Rnd (p:Prop):Prop where
 h:p
def qkF (body:KT->Env->Phi->Nat->Prop) (K:KT):Nat->Env->Phi->Nat->Prop
 | 0,_,_,_=>False
 | k+1, σ, Φ,n=>body (fun e σ' Φ' n'=>match e with|.normal=>qkF body K k σ' Φ' n'|e=>K e σ' Φ' n') σ Φ n
structure RdG (f:Env->Phi->Nat->Prop) (σ:Env) (Φ:Phi) (n:Nat):Prop where
 h:f σ Φ n
theorem RdG.norm {f:Env->Phi->Nat->Prop}{σ:Env}{Φ:Phi}{n:Nat}{σ':Env}{Φ':Phi}{n':Nat}(h:(σ, Φ,n)=(σ', Φ',n')) (k:f σ' Φ' n'):RdG f σ Φ n:=by
 cases h;exact⟨k⟩
def qh0 (body:KT->Env->Phi->Nat->Prop) (K:KT) (Φ0:Phi) (n0:Nat):Nat->Env->Phi->Nat->Prop
 | 0,_,_,_=>False
 | k+1, σ, Φ,n=>body (fun e σ' Φ' n'=>match e with|.normal=>qk7 Φ0 σ' (fun σ'=>gcP (fun i=>qi5 i σ') Φ0 Φ' Φ' fun Φ''=>bif qRT Φ'' Φ0 then RdG (fun σ Φ n=>qh0 body K Φ0 n0 k σ Φ n) σ' Φ'' n0 else RdG (fun σ Φ n=>qh0 body K Φ0 n0 k σ Φ n) σ' Φ'' n')|e=>K e σ' Φ' n') σ Φ n
inductive LoopStop (L:List Nat) (body:KT->Env->Phi->Nat->Prop) (K:KT) (σ:Env) (Φ:Phi) (n:Nat):Prop
  | mk {α:Type} (U:α->List (Nat×SV)) (F:α->Phi) (m:Nat) (C:α->Prop) (μ:α->Nat) (a0:α) (h0:C a0)
      (he:qEU L (U a0) (F a0) σ Φ fun σI ΦI=>qIU σ Φ σI ΦI Φ)
      (hr:∀ a,C a->qEU L (U a) (F a) σ Φ fun σI ΦI=>body (fun e σ' Φ' n'=>
        match e with
        | .normal=>Rnd (∃ a',C a'/\μ a'<μ a/\qEU L (U a') (F a') σ Φ fun σI ΦI=>qIU σ' Φ' σI ΦI Φ)
        | e=>K e σ' Φ' n') σI ΦI m)
  | unroll (k:Nat) (h:qkF body K k σ Φ n)
  | ug (k:Nat) (h:qh0 body K Φ n k σ Φ n)
def GT:Nat:=1000000
def qCQ (l:Nat):Code->Bool
 | .label l'=>Nat.beq l' l
 | .seq a b=>qCQ l a||qCQ l b
 | _=>false
def qBB:Code->Bool
 | .goto _=>true
 | .seq a b|.cond _ a b=>qBB a||qBB b
 | .block _ c|.loop c=>qBB c
 | .rangeFunc _ _ a b=>qBB a||qBB b
 | _=>false
inductive ScopeStop (L:List Nat) (has:Nat->Bool) (first:KT->Env->Phi->Nat->Prop) (from_:Nat->KT->Env->Phi->Nat->Prop) (K:KT) (σ:Env) (Φ:Phi) (n:Nat):Prop
  | straight (h:first (fun e σ' Φ' n'=>match e with|.exit i=>(bif Nat.ble GT i then False else K (.exit i) σ' Φ' n')|e=>K e σ' Φ' n') σ Φ n)
  | mk {α:Type} (lab:α->Nat) (U:α->List (Nat×SV)) (F:α->Phi) (m:Nat) (C:α->Prop) (μ:α->Nat)
      (hl:∀ a,C a->has (lab a)=true)
      (h1:first (fun e σ' Φ' n'=>
        match e with
        | .exit i=>(bif Nat.ble GT i then Rnd (∃ a',GT+lab a'=i/\C a'/\qEU L (U a') (F a') σ Φ fun σI ΦI=>qIU σ' Φ' σI ΦI Φ) else K (.exit i) σ' Φ' n')
        | e=>K e σ' Φ' n') σ Φ n)
      (hr:∀ a,C a->qEU L (U a) (F a) σ Φ fun σI ΦI=>from_ (lab a) (fun e σ' Φ' n'=>
        match e with
        | .exit i=>(bif Nat.ble GT i then Rnd (∃ a',GT+lab a'=i/\C a'/\μ a'<μ a/\qEU L (U a') (F a') σ Φ fun σI ΦI=>qIU σ' Φ' σI ΦI Φ) else K (.exit i) σ' Φ' n')
        | e=>K e σ' Φ' n') σI ΦI m)
def qRD (Φ:Phi) (sv:SV):Bool:=sv.okIds (fun id=>match Φ.get id with|some ch => !Nat.beq ch.kind 0|none=>false)
def qIV (Φ:Phi) (σ:Env):List Nat->(Env->Prop)->Prop
 | [],K=>K []
 | k::L,K=>
  match σ.get k with
  | some (none,sv)=>bif qRD Φ sv then qIV Φ σ L fun l=>K ((k,none,sv)::l) else qIV Φ σ L K
  | _=>qIV Φ σ L K
def qlL:List Nat->List SV->Env->(Env->Prop)->Prop
 | [],[], σ,K=>K σ
 | p::ps,x::xs, σ,K=>qlL ps xs ((p,none,x)::σ) K
 | _,_,_,_=>False
def SV.rf0:SV->Bool
 | .rd _ _|.el _ _ _ _|.lits _ _|.agg _|.tup _|.fn _ _=>false
 | _=>true
def qaL:List SV->Bool
 | []=>true
 | x::r=>x.rf0&&qaL r
def SV.rf:SV->Bool
 | .agg l=>qaL l
 | .fn _ l=>qaL l
 | x=>x.rf0
def SV.unf (x:SV):SV:=bif x.rf then x else .und
def qbO:Env->Env
 | []=>[]
 | (k,g,sv)::r=>(k,g,sv.unf)::qbO r
def Chunk.unf:Chunk->Chunk
 | .bx T cs=>.bx T (cs.map SV.unf)
 | c=>c
def qDP:Phi->Phi
 | []=>[]
 | (k,c)::r=>(k,c.unf)::qDP r
def qkC (x:SV) (K:SV->Prop):Prop:=
 match x with
 | .rd _ _=>K .und
 | .el _ _ _ _=>K .und
 | .lits _ _=>K .und
 | .tup _=>K .und
 | .agg l=>bif qaL l then K (.agg l) else K .und
 | .fn f l=>bif qaL l then K (.fn f l) else K .und
 | x=>K x
def qhU:List SV->(List SV->Prop)->Prop
 | [],K=>K []
 | x::r,K=>qkC x fun y=>qhU r fun ys=>K (y::ys)
def qVV:Env->(Env->Prop)->Prop
 | [],K=>K []
 | (k,g,sv)::r,K=>qkC sv fun y=>qVV r fun r=>K ((k,g,y)::r)
def qTH:Phi->(Phi->Prop)->Prop
 | [],K=>K []
 | (k,.bx T cs)::r,K=>qhU cs fun cs=>qTH r fun r=>K ((k,.bx T cs)::r)
 | (k,c)::r,K=>qTH r fun r=>K ((k,c)::r)
theorem qY5 (x:SV) (K:SV->Prop):qkC x K=K x.unf:=by
 cases x<;>first|rfl|skip
 ·rename_i l;show(bif qaL l then K (.agg l) else K .und)=K (bif qaL l then .agg l else .und)
  cases qaL l<;>rfl
 ·rename_i f l;show(bif qaL l then K (.fn f l) else K .und)=K (bif qaL l then .fn f l else .und)
  cases qaL l<;>rfl
theorem qXW:∀ (l:List SV) (K:List SV->Prop),qhU l K=K (l.map SV.unf)
 | [],K=>rfl
 | x::r,K=>by unfold qhU;rw[qY5,qXW];rfl
theorem qZL:∀ (l:Env) (K:Env->Prop),qVV l K=K (qbO l)
 | [],K=>rfl
 | (k,g,sv)::r,K=>by unfold qVV;rw[qY5,qZL];rfl
theorem qQB:∀ (l:Phi) (K:Phi->Prop),qTH l K=K (qDP l)
 | [],K=>rfl
 | (k,c)::r,K=>by
  cases c with
  | bx T cs=>unfold qTH;rw[qXW,qQB];rfl
  | _=>show qTH r _=_;rw[qQB];rfl
def Chunk.okF:Chunk->Bool
 | .bx _ _=>true
 | .own τ _=>τ.plain
 | .ow τ _=>τ.plain
 | _=>false
def qPW:Phi->Bool
 | []=>true
 | (_,c)::r=>c.okF&&qPW r
inductive RangeStop (B:Base) (L:List Nat) (f:FuncId) (caps:List SV) (ps:List Nat) (assign body:KT->Env->Phi->Nat->Prop) (K:KT) (σ:Env) (Φ:Phi):Prop
  | mk {pre:Prop} {len:Nat}{at_:Nat->List SV}[it:It B f caps pre len at_] (hp:Ob pre) (pl:SV.okIdsL (fun _=>false) caps=true) {α:Type}(F:α->Phi) (m:Nat) (C:Nat->α->Prop) (a0:α) (h0:C 0 a0)
      (he:qIV Φ σ L fun σP=>qEU L [] (F a0) σP Φ fun σI ΦI=>qIU σI Φ σI ΦI Φ)
      (hr : ∀ i a,C i a->i<len->qIV Φ σ L fun σP=>qEU L [] (F a) σP Φ fun σI ΦI=>bif qJ8 (at_ i) then qlL ps (at_ i) σI fun σr=>assign (fun ex σ1 Φ1 n1=>
        match ex with
        | .normal=>body (fun ex σ' Φ' n'=>
          match ex with
          | .normal=>Rnd (∃ a',C (i+1) a'/\qEU L [] (F a') σP Φ fun σI ΦI=>qIU σI Φ' σI ΦI Φ)
          | ex=>K ex σI Φ' n') σ1 Φ1 n1
        | _=>False) σr ΦI m else False)
      (hend:∀ a,C len a->qIV Φ σ L fun σP=>qEU L [] (F a) σP Φ fun σI ΦI=>K .normal σI ΦI m)
  | mkF {pre:Prop}{len:Nat}{at_:Nat->List SV}[it:It B f caps pre len at_] (hp:Ob pre) (pl:SV.okIdsL (fun _=>false) caps=true) {α:Type}(F:α->Phi) (m:Nat) (C:Nat->α->Prop) (a0:α) (h0:C 0 a0)
      (he:qIV Φ σ L fun σP=>qEU L [] (F a0) σP Φ fun σI ΦI=>bif qPW ΦI then qVV σI fun σJ=>qIU σJ Φ σJ ΦI Φ else False)
      (hr : ∀ i a,C i a->i<len->qIV Φ σ L fun σP=>qEU L [] (F a) σP Φ fun σI ΦI=>bif qPW ΦI&&SV.okIdsL (fun _=>false) (at_ i) then qVV σI fun σJ=>qTH ΦI fun ΦJ=>qlL ps (at_ i) σJ fun σr=>assign (fun ex σ1 Φ1 n1=>
        match ex with
        | .normal=>body (fun ex σ' Φ' n'=>
          match ex with
          | .normal=>Rnd (∃ a',C (i+1) a'/\qEU L [] (F a') σP Φ fun σI ΦI=>bif qPW ΦI then qVV σI fun σJ=>qIU σJ Φ' σJ ΦI Φ else False)
          | ex=>bif qPW Φ' then qTH Φ' fun ΦJ=>K ex σJ ΦJ n' else False) σ1 Φ1 n1
        | _=>False) σr ΦJ m else False)
      (hend:∀ a,C len a->qIV Φ σ L fun σP=>qEU L [] (F a) σP Φ fun σI ΦI=>bif qPW ΦI then qVV σI fun σJ=>qTH ΦI fun ΦJ=>K .normal σJ ΦJ m else False)
def reads:Op->Bool
 | .load _ _|.indexAddr _ _ _|.call ⟨.builtin _,_,_⟩=>true
 | _=>false
def qGG:Env->Env
 | []=>[]
 | (k,g,sv)::r=>(k,g,bif sv.okIds (fun _=>false) then sv else .und)::qGG r
def qT1:Env->(Env->Prop)->Prop
 | [],K=>K []
 | (k,g,sv)::r,K=>bif sv.okIds (fun _=>false) then qT1 r (fun l=>K ((k,g,sv)::l)) else qT1 r (fun l=>K ((k,g,.und)::l))
def qTV:Nat->List Nat->List Nat
 | _,[]=>[]
 | k,p::r=>bif Nat.beq p 6 then k::qTV (Nat.succ k) r else qTV (Nat.succ k) r
def qET:List Nat->List Oper->List Nat
 | 6::ps,⟨some d,_,_,_,_,_⟩::ops=>d::qET ps ops
 | _::ps,_::ops=>qET ps ops
 | _,_=>[]
def qSX (σ:Env):List Nat->(List SV->Prop)->Prop
 | [],K=>K []
 | d::ds,K=>match σ.get d with|some (none,.tup _)=>qSX σ ds fun l=>K (.und::l)|some (none,sv)=>qSX σ ds fun l=>K (sv::l)|_=>False
def qEC:List Nat->List SV->Env
 | d::ds,x::xs=>(d,none,x)::qEC ds xs
 | _,_=>[]
def qOS (σ:Env):List Nat->List SV->Env
 | d::ds,x::xs=>(d,none,x)::qOS σ ds xs
 | _,_=>σ
def qVS (B:Base) (all:List Oper) (plan:List Nat) (σ:Env) (Φ:Phi) (n:Nat) (K:Env->Phi->Nat->Prop):Prop:=
 bif Nat.beq B.Y.len 0 then
  vcT B plan all σ Φ fun σT=>qT1 σT fun σ4=>qF1 B all (qBR plan all) σ4 [] 0 fun σc Φc _=>qSX σc (qET plan all) fun l=>
   vcE B all [] (fun σ' Φ' _=>qIU σ' Φ' (qEC (qET plan all) l) Φc []) (Nat.succ all.length) (qTV 0 plan) σ4 [] 0/\
   qMS [] (.tup l) Φc σT Φ n fun res σ Φ n=>(match res with|.tup l=>K (qOS σ (qET plan all) l) Φ n|_=>False)
 else False
def qjN:SV->Bool
 | .own _|.loc _ _|.int _ _|.bool _|.str _|.nils=>true
 | _=>false
def qjE:List SV->Bool
 | []=>true
 | x::r=>qjN x&&qjE r
def qg2:SV->Bool
 | .agg l=>qjE l
 | x=>qjN x
def qY8:SV->SV->Prop
 | .own i,.own j=>i=j
 | .loc i a,.loc j b=>i=j/\a=b
 | .int k n,.int k' n'=>k=k'/\n=n'
 | .bool a,.bool b=>a=b
 | .str a,.str b=>a=b
 | .nils,.nils=>True
 | _,_=>False
def qc8:List SV->List SV->Prop
 | [],[]=>True
 | x::r,y::s=>qY8 x y/\qc8 r s
 | _,_=>False
def qhD (x y:SV):Prop:=
 match x,y with
 | .agg l,.agg l'=>qc8 l l'
 | x,y=>qY8 x y
def qbV (P:Program) (Φ:Phi) (t:TypeId) (x:SV) (K:SV->Prop):Prop:=qZM P Φ t x (fun p=>p) fun sv=>bif qg2 sv then K sv else False
def qNP (B:Base):List Nat->List Oper->Env->Phi->(Env->Prop)->Prop
 | 7::ps,⟨dst,.load t x,_,_,_,_⟩::ops, σ, Φ,K=>opK σ [] x fun x=>qbV B.P Φ t x fun sv=>qNP B ps ops (qK7 dst none sv σ) Φ K
 | 7::_,_::_,_,_,_=>False
 | _::ps,_::ops, σ, Φ,K=>qNP B ps ops σ Φ K
 | _,_, σ,_,K=>K σ
def qKM (P:Program):List Nat->List Oper->Env->Phi->Prop
 | 7::ps,⟨some d,.load t x,_,_,_,_⟩::ops, σ, Φ=>(opK σ [] x fun x=>qbV P Φ t x fun sv=>match σ.get d with|some (none,sv')=>qhD sv sv'|_=>False)/\qKM P ps ops σ Φ
 | 7::_,_::_,_,_=>False
 | _::ps,_::ops, σ, Φ=>qKM P ps ops σ Φ
 | _,_,_,_=>True
def qnE (B:Base) (all:List Oper) (plan tab:List Nat) (K:Env->Phi->Nat->Prop):Nat->List Nat->Env->Phi->Nat->Prop
 | 0,_,_,_,_=>False
 | _+1,[], σ, Φ,n=>K σ Φ n
 | f+1,x::r, σ, Φ,n=>qKM B.P plan all σ Φ/\qg6 (x::r) (qNC all tab (x::r)) (fun i=>match nth all i with|some o=>qF1 B all [o] σ Φ n fun σ Φ n=>qnE B all plan tab K f (qRH i (x::r)) σ Φ n|none=>False) (x::r)
def qVZ (B:Base) (all:List Oper) (plan:List Nat) (tab:List Nat) (σ:Env) (Φ:Phi) (n:Nat) (K:Env->Phi->Nat->Prop):Prop:=
 vcT B plan all σ Φ fun σ=>qNP B plan all σ Φ fun σ=>qnE B all plan tab K (Nat.succ all.length) (qN8 0 plan) σ Φ n
inductive ZStop (L:List Nat) (D:(Env->Phi->Nat->Prop)->Prop) (K:Env->Phi->Nat->Prop) (σ:Env) (Φ:Phi):Prop
 | mk (U:List (Nat×SV)) (F:Phi) (m:Nat) (he:qEU L U F σ Φ fun σI ΦI=>D (fun σ' Φ' _=>Rnd (qIU σ' Φ' σI ΦI Φ))/\K σI ΦI m)
 | dir (h:D fun σ' Φ' n'=>qEE L σ' fun σ'=>K σ' Φ' n')
def qBS:List (Nat×List Nat)->Nat->List Nat
 | [],_=>[]
 | (i,p)::r,id=>bif Nat.beq i id then p else qBS r id
def qR8:List SV->List Nat
 | []=>[]
 | .own i::r=>i::qR8 r
 | _::r=>qR8 r
def qs3:List Nat->List Nat->List Nat
 | [],l=>l
 | x::r,l=>x::qs3 r l
def qFA (σ:Env) (Φ:Phi):List Nat->List Nat
 | []=>[]
 | s::r=>
  bif Nat.ble 1000 s then
   match σ.get (s%1000) with
   | some (_,.loc b _)=>(match Φ.get b with|some (.bx _ cs)=>(match nth cs (s/1000-1) with|some x=>qs3 (qR8 [x]) (qFA σ Φ r)|none=>qFA σ Φ r)|_=>qFA σ Φ r)
   | _=>qFA σ Φ r
  else
  match σ.get s with
  | some (_,.own i)=>i::qFA σ Φ r
  | some (_,.loc b _)=>(match Φ.get b with|some (.bx _ cs)=>qs3 (qR8 cs) (qFA σ Φ r)|_=>qFA σ Φ r)
  | some (_,.agg cs)=>qs3 (qR8 cs) (qFA σ Φ r)
  | _=>qFA σ Φ r
def vcg (B:Base) (L:List Nat) (pl:List (Nat×List Nat)):Code->Option Nat->KT->Env->Phi->Nat->Prop
 | .skip,m,K, σ, Φ,n=>(match m with|none=>K .normal σ Φ n|some _=>False)
 | .region id ⟨ops⟩ draw,m,K, σ, Φ,n=>
  (match m with
  | some _=>False
  | none=>qjD (qs3 (qFA σ Φ (qBS pl (Nat.add id 5000000))) (qBS pl (Nat.add id 1000000))) [] σ Φ fun _ σ Φ=>qnD (qBS pl (Nat.add id 2000000)) Φ fun Φ=>
   bif draw then(bif qD8 6 (qBS pl id) then qVS B ops (qBS pl id) σ Φ n (fun σ Φ n=>qEE L σ fun σ=>K .normal σ Φ n) else bif qD8 4 (qBS pl id) then(bif isNil (qBS pl (Nat.add id 3000000)) then qXN B ops (qBS pl id) [] σ Φ n (fun σ Φ n=>qEE L σ fun σ=>K .normal σ Φ n) else ZStop L (fun KE=>qVZ B ops (qBS pl id) (qBS pl (Nat.add id 3000000)) σ Φ n KE) (fun σ Φ n=>K .normal σ Φ n) σ Φ) else qcX B ops (qBS pl id) σ Φ n fun σ Φ n=>qEE L σ fun σ=>K .normal σ Φ n)
   else qF1 B ops ops σ Φ n fun σ Φ n=>qEE L σ fun σ=>K .normal σ Φ n)
 | .seq a b,m,K, σ, Φ,n=>
  (match m with
  | none=>vcg B L pl a none (fun e=>match e with|.normal=>vcg B L pl b none K|e=>K e) σ Φ n
  | some l=>bif qCQ l a then vcg B L pl a (some l) (fun e=>match e with|.normal=>vcg B L pl b none K|e=>K e) σ Φ n else vcg B L pl b (some l) K σ Φ n)
 | .cond c x y,m,K, σ, Φ,n=>
  (match m with
  | some _=>False
  | none=>opK σ [] c fun
   | .bool b=>(b=true->vcg B L pl x none K σ Φ n)/\(b=false->vcg B L pl y none K σ Φ n)
   | _=>False)
 | .block id c,m,K, σ, Φ,n=>
  (match m with
  | some _=>False
  | none=>vcg B L pl c none (fun e=>match e with|.exit i=>(bif Nat.beq i id then K .normal else K (.exit i))|e=>K e) σ Φ n)
 | .loop c,m,K, σ, Φ,n=>(match m with|some _=>False|none=>LoopStop L (fun K σ Φ n=>vcg B L pl c none K σ Φ n) K σ Φ n)
 | .rangeFunc g ⟨ps⟩ x y,m,K, σ, Φ,n=>
  (match m with
  | some _=>False
  | none=>opK σ [] g fun
   | .fn f caps=>bif Nat.beq B.Y.len 0 then RangeStop B L f caps ps (fun K σ Φ n=>vcg B L pl x none K σ Φ n) (fun K σ Φ n=>vcg B L pl y none K σ Φ n) K σ Φ else False
   | _=>False)
 | .exit id,m,K, σ, Φ,n=>(match m with|some _=>False|none=>K (.exit id) σ Φ n)
 | .ret,m,K, σ, Φ,n=>(match m with|some _=>False|none=>K .ret σ Φ n)
 | .scope c,m,K, σ, Φ,n=>
  (match m with
  | some _=>False
  | none=>bif qBB c then ScopeStop L (fun l=>qCQ l c) (fun K σ Φ n=>vcg B L pl c none K σ Φ n) (fun l K σ Φ n=>vcg B L pl c (some l) K σ Φ n) K σ Φ n else vcg B L pl c none K σ Φ n)
 | .label l',m,K, σ, Φ,n=>(match m with|none=>K .normal σ Φ n|some l=>bif Nat.beq l' l then K .normal σ Φ n else False)
 | .goto l,m,K, σ, Φ,n=>(match m with|some _=>False|none=>K (.exit (Nat.add GT l)) σ Φ n)
 | .refuse _,_,_,_,_,_=>False
abbrev vc (B:Base) (L:List Nat) (pl:List (Nat×List Nat)) (c:Code) (K:KT) (σ:Env) (Φ:Phi) (n:Nat):Prop:=vcg B L pl c none K σ Φ n
def qZD (N:Nat):List Oper->Bool
 | []=>true
 | o::r=>(match o.dst with|some d=>Nat.blt d N|none=>true)&&qZD N r
def qX7 (d:Nat):List Oper->Bool
 | []=>true
 | o::r=>(match o.dst with|some d' => !Nat.beq d' d|none=>true)&&qX7 d r
def qFX:List Oper->Bool
 | []=>true
 | o::r=>(match o.dst with|some d=>qX7 d r|none=>true)&&qFX r
def qJV (i:Nat):List Oper->Bool
 | []=>true
 | o::r=>(match o.guard with|some (j,_)=>Nat.blt j i|none=>true)&&qJV (i+1) r
def floats:Op->Bool
 | .move _|.assign _|.pick _ _ _|.binOp _ _ _ _ _|.unOp _ _ _|.convert _ _ _|.index _ _ _|.slice _ _ _ _ _|.field _ _ _|.fieldAddr _ _ _|.extract _ _|.nilCheck _=>true
 | _=>false
def qC0:List Operand->List Nat
 | []=>[]
 | .tmp t::r=>t::qC0 r
 | _::r=>qC0 r
def qBN (ts:List Nat):List Nat->List Oper->Bool
 | p::ps,o::ops=>(match o.dst with|some d=>Nat.beq p 0 || !qD8 d ts|none=>true)&&qBN ts ps ops
 | _,_=>true
def qBO (all:Array Oper) (d:Nat):List Oper->Bool
 | []=>true
 | o::ops => !qD8 d (o.looksAt all)&&qBO all d ops
def qM0 (clo:List Nat):Nat->List Nat->Bool
 | _,[]=>true
 | j,p::ps=>(Nat.beq p 0||qD8 j clo)&&qM0 clo (j+1) ps
def qCM (all:List Oper) (plan:List Nat):Nat->List Nat->List Oper->Bool
  | _,[],[]=>true
  | k,p::ps,o::ops=>
    (match p with
     | 0=>floats o.op&&((match o.guard with|none=>true|some _=>false)&&((match o.dst with|some d=>qBO all.toArray d (all.take (k+1))|none=>false)&&qBN (qC0 o.op.operands.toList) (plan.take k) (all.take k)))
     | 1=>noThree (plan.take k)
     | 2=>noThree (plan.take k)&&((match o.guard with|none=>true|some _=>false)&&(match o.dst with|some d=>qBO all.toArray d ((plan.zip all).filterMap fun x=>bif Nat.beq x.1 3 then none else some x.2)|none=>false))
     | 3=>qM0 (qJP all (all.length*all.length+all.length+2) [k] []) 0 (plan.take k)
     | _=>false)&&qCM all plan (k+1) ps ops
  | _,_,_=>false
where noThree:List Nat->Bool
 | []=>true
 | x::r => !Nat.beq x 3&&noThree r
def qbW (all:List Oper) (plan:List Nat):Bool:=qCM all plan 0 plan all
def qJD (all:List Oper) (plan:List Nat):Nat->List Nat->List Oper->Bool
  | _,[],[]=>true
  | k,p::ps,o::ops=>
    (match p with
     | 0=>floats o.op&&((match o.guard with|none=>true|some _=>false)&&((match o.dst with|some d=>qBO all.toArray d (all.take (k+1))|none=>false)&&qBN (qC0 o.op.operands.toList) (plan.take k) (all.take k)))
     | 4=>true
     | _=>false)&&qJD all plan (k+1) ps ops
  | _,_,_=>false
def qhE (all:List Oper) (plan:List Nat):Bool:=qJD all plan 0 plan all
def qMX (all:List Oper) (k:Nat):Nat->List Nat->Bool
 | _,[]=>false
 | j,p::ps=>(Nat.beq p 4&&qD8 k (qJP all (all.length*all.length+all.length+2) [j] []))||qMX all k (j+1) ps
def isLoad:Op->Bool
 | .load _ _=>true
 | _=>false
def qJC (all:List Oper) (plan:List Nat):Nat->List Nat->List Oper->Bool
  | _,[],[]=>true
  | k,p::ps,o::ops=>
    (match p with
     | 0=>floats o.op&&((match o.guard with|none=>true|some _=>false)&&((match o.dst with|some d=>qBO all.toArray d (all.take (k+1))|none=>false)&&qBN (qC0 o.op.operands.toList) (plan.take k) (all.take k)))
     | 4=>true
     | 7=>isLoad o.op&&((match o.guard with|none=>true|some _=>false)&&((match o.dst with|some d=>qBO all.toArray d (all.take (k+1))|none=>false)&&(qBN (qC0 o.op.operands.toList) plan all&&qMX all k 0 plan)))
     | _=>false)&&qJC all plan (k+1) ps ops
  | _,_,_=>false
def qf8 (all:List Oper) (plan:List Nat):Bool:=qJC all plan 0 plan all
def qI7 (all:List Oper) (plan:List Nat):Nat->List Nat->List Oper->Bool
  | _,[],[]=>true
  | k,p::ps,o::ops=>
    (match p with
     | 0=>(floats o.op||reads o.op)&&((match o.guard with|none=>true|some _=>false)&&((match o.dst with|some d=>qBO all.toArray d (all.take (k+1))|none=>false)&&qBN (qC0 o.op.operands.toList) (plan.take k) (all.take k)))
     | 6=>(match o.guard with|none=>true|some _=>false)
     | _=>false)&&qI7 all plan (k+1) ps ops
  | _,_,_=>false
def qmT (all:List Oper) (plan:List Nat):Bool:=qI7 all plan 0 plan all
def qA6:Code->Bool
 | .rangeFunc _ _ _ _=>false
 | .seq a b|.cond _ a b=>qA6 a&&qA6 b
 | .block _ c|.loop c|.scope c=>qA6 c
 | _=>true
def qg7 (N:Nat):List Nat->Bool
 | []=>true
 | p::r=>Nat.blt p N&&qg7 N r
def codeOk (N:Nat) (pl:List (Nat×List Nat)):Code->Bool
 | .region id ops draw=>qZD N ops.toList&&(qFX ops.toList&&(qJV 0 ops.toList&&(!draw||(Region.lexB .any ops&&(bif qD8 6 (qBS pl id) then qmT ops.toList (qBS pl id) else bif qD8 4 (qBS pl id) then(bif isNil (qBS pl (Nat.add id 3000000)) then qhE ops.toList (qBS pl id) else qf8 ops.toList (qBS pl id))&&(qR5 ops.toList (qBS pl (Nat.add id 3000000))&&Nat.ble ops.toList.length 64) else qbW ops.toList (qBS pl id))))))
 | .seq a b|.cond _ a b=>codeOk N pl a&&codeOk N pl b
 | .rangeFunc _ ⟨ps⟩ a b=>(qg7 N ps&&((qA6 a&&qA6 b) && !(qBB a||qBB b)))&&(codeOk N pl a&&codeOk N pl b)
 | .block id c=>Nat.blt id GT&&codeOk N pl c
 | .loop c=>codeOk N pl c
 | .scope c=>(!(qBB c)||qA6 c)&&codeOk N pl c
 | .exit id=>Nat.blt id GT
 | .skip|.ret|.refuse _|.label _|.goto _=>true
def qfF (P:Program) (σ:Env) (Φ:Phi):List ResultVar->(List SV->Prop)->Prop
 | [],K=>K []
 | .tmp t::r,K=>opK σ [] (.tmp t) fun sv=>qfF P σ Φ r fun l=>K (sv::l)
 | .cell a t::r,K=>opK σ [] (.tmp a) fun
  | .loc id off=>(match Φ.get id with|some (.bx _ cs)=>qP9 P t cs off fun sv=>qfF P σ Φ r fun l=>K (sv::l)|_=>False)
  | _=>False
def qXK:List SV->SV
 | [x]=>x
 | l=>.tup l
structure Fin (p:Prop):Prop where
 h:p
def qiF (P:Program) (rs:List ResultVar) (res:SV) (Φ0 Φ':Phi):KT:=fun e σ Φ _=>
 match e with
 | .exit _=>False
 | _=>qfF P σ Φ rs fun l=>Fin (qIU [(0,none,qXK l)] Φ [(0,none,res)] Φ' Φ0)
def zCJ (l:List SV) (K:SV->Prop):Prop:=
 match l with
 | [x]=>K x
 | l=>K (.tup l)
theorem qlE (l:List SV) (K:SV->Prop):zCJ l K=K (qXK l):=by
 match l with
 | []=>rfl
 | [x]=>rfl
 | x::y::r=>rfl
def qzQ (P:Program) (rs:List ResultVar) (Kr:SV->Phi->Nat->Prop):KT:=fun e σ Φ n=>
 match e with
 | .exit _=>False
 | _=>qfF P σ Φ rs fun l=>zCJ l fun sv=>Kr sv Φ n
def qOZ:Nat->List SV->Env
 | _,[]=>[]
 | i,x::r=>(i,none,x)::qOZ (i+1) r
end Go.Vc

namespace Go.Vc
set_option autoImplicit false
theorem qE5 {α:Type _}(l:List α) (i:Nat):nth l i=l[i]?:=by
 induction l generalizing i with
 | nil=>simp[nth]
 | cons x r ih=>cases i with
  | zero=>simp[nth]
  | succ i=>simp[nth,ih]
theorem qAM {a b:Nat}(h:Nat.beq a b=true):a=b:=yAT h
theorem qJL {a b:IntKind}(h:kEq a b=true):a=b:=by
 cases a<;>cases b<;>first|rfl|(simp[kEq,qh5] at h)
def qLP (p:Nat->Prop) (r:Mem) (β:qBD) (σ:Env) (t:Array Value):Prop:=∀ k g sv,p k->σ.get k=some (g,sv)->qH8 r β t k g sv
theorem Agree.P {r β σ t}(h:Agree r β σ t) (p:Nat->Prop):qLP p r β σ t:=fun k g sv _=>h k g sv
def Has (p:Nat->Prop) (x:Operand):Prop:=∀ t,x=.tmp t->p t
structure Sm (p:Nat->Prop) (r:Mem) (β:qBD) (σ:Env) (t:Array Value) (ctx:Ctx) (g:Prop->Prop):Prop where
 agree:qLP p r β σ t
 ctx:∀ s w,qGJ s w ctx=true->t[s]?=some (.bool w)
 valid:∀ p,g p->p
theorem qQC {b:Nat}{n:Int}(h:qfC b=some n):b=fb n:=by
 unfold qfC at h;have go:∀ {c:Nat}{m:Int}{r:Option Int},(bif Nat.beq b c then some m else r)=some n->c=fb m->(r=some n->b=fb n)->b=fb n:=by
  intro c m r h1 h2 h3;cases hb:Nat.beq b c with
  | true=>rw[hb] at h1;simp at h1;subst h1;rw[yAT hb,h2]
  | false=>rw[hb] at h1;exact h3 h1
 refine go h (by decide +kernel) fun h=>go h (by decide +kernel) fun h=>go h (by decide +kernel) fun h=>go h (by decide +kernel) fun h=>go h (by decide +kernel) fun h=>go h (by decide +kernel) fun h=>go h (by decide +kernel) fun h=>go h (by decide +kernel) fun h=>go h (by decide +kernel) fun h=>(by cases h)
theorem qLE {x:Value}{K:SV->Prop}(h:qZA x K):∃ sv,K sv/\sv.okIds (fun _=>false)=true/\∀ r β,Rel r β sv x:=by
 unfold qZA at h;split at h
 ·exact⟨_,h,rfl,fun _ _=>.int⟩
 ·exact⟨_,h,rfl,fun _ _=>.bool⟩
 ·rename_i l;cases hb:Nat.ble l.length 9223372036854775807 with
  | true=>rw[hb] at h;exact⟨_,h,rfl,fun _ _=>.str (Nat.le_of_ble_eq_true hb)⟩
  | false=>rw[hb] at h;exact⟨_,h,rfl,fun _ _=>.v⟩
 ·exact⟨_,h,rfl,fun _ _=>.nils⟩
 ·split at h
  ·rename_i n hn;exact⟨_,h,rfl,fun _ _=>by rw[qQC hn];exact .flt⟩
  ·exact⟨_,h,rfl,fun _ _=>.v⟩
 ·split at h
  ·rename_i n m hn hm;exact⟨_,h,rfl,fun _ _=>by rw[qQC hn,qQC hm];exact .cpx⟩
  ·exact⟨_,h,rfl,fun _ _=>.v⟩
 ·exact⟨_,h,rfl,fun _ _=>.v⟩
theorem qQ9 {xs:List Value}:∀ {K:List SV->Prop},qW3 xs K->∃ l,K l/\l.length=xs.length/\SV.okIdsL (fun _=>false) l=true/\∀ r β (i:Nat) sv v,l[i]?=some sv->xs[i]?=some v->Rel r β sv v:=by
 induction xs with
 | nil=>intro K h;exact⟨[],h,rfl,rfl,fun r β i sv v h1 h2=>by simp at h1⟩
 | cons x xs ih=>
  intro K h;obtain⟨a,ha,hi,hr⟩:=qLE h;obtain⟨l,hl,h1,h2,h3⟩:=ih ha;refine⟨a::l,hl,by simp[h1],by simp[SV.okIdsL,hi,h2],?_⟩
  intro r β i sv v q1 q2;cases i with
  | zero=>simp at q1 q2;subst q1;subst q2;exact hr _ _
  | succ i=>simp at q1 q2;exact h3 r β i sv v q1 q2
theorem qF6 {x:Value}{K:SV->Prop}(h:qM5 x K):∃ sv,K sv/\sv.okIds (fun _=>false)=true/\∀ r β,Rel r β sv x:=by
 unfold qM5 at h;split at h
 ·obtain⟨l,hl,h1,h2,h3⟩:=qQ9 h;exact⟨_,hl,by simpa[SV.okIds] using h2,fun r β=>.agg h1.symm (h3 r β)⟩
 ·exact qLE h
theorem SV.okIds_mono {p q:Nat->Bool}(hpq:∀ i,p i=true->q i=true):∀ (sv:SV),sv.okIds p=true->sv.okIds q=true:=by
 intro sv;refine SV.rec (motive_1:=fun sv=>sv.okIds p=true->sv.okIds q=true) (motive_2:=fun _=>True) (motive_3:=fun l=>SV.okIdsL p l=true->SV.okIdsL q l=true)
  ?_ ?_ ?_ ?_ ?_ ?_ ?_ ?_ ?_ ?_ ?_ ?_ ?_ ?_ ?_ ?_ ?_ ?_ ?_ ?_ ?_ ?_ ?_ ?_ sv
 all_goals try(intros;trivial)
 all_goals try(intros;simp_all [SV.okIds,SV.okIdsL];done)
theorem qIG (s w s' w' ctx) (h:qGJ s w ((s',w')::ctx)=true):(s=s'/\w=w')\/qGJ s w ctx=true:=by
 simp only[qGJ] at h;cases hb:Nat.beq s s' with
 | true=>
  rw[hb] at h
  left
  refine⟨qAM hb,?_⟩;cases w<;>cases w'<;>simp_all
 | false=>rw[hb] at h;exact .inr h
theorem Agree.tmp {p r β σ t k sv}(h:qLP p r β σ t) (hp:p k) (hg:σ.get k=some (none,sv)):Rel r β sv (t.getD k undef):=by
 obtain⟨v,hv,hr⟩:=h _ _ _ hp hg;rw[yAA,hv];exact hr
theorem qAK {σ:Env}{ctx:Ctx}{x:Operand}{K:SV->Prop}(h:opK σ ctx x K):
  ∃ sv,K sv/\∀ p r β (a:Act) g,Has p x->Sm p r β σ a.tmps ctx g->Rel r β sv (a.eval x):=by
 unfold opK at h;split at h
 ·rename_i t;split at h
  ·rename_i sv hg;exact⟨_,h,fun p r β a g hp sm=>Agree.tmp sm.agree (hp _ rfl) hg⟩
  ·rename_i s w sv hg;cases hm:qGJ s w ctx with
   | true=>
    rw[hm] at h;refine⟨_,h,fun p r β a g hp sm=>?_⟩
    obtain⟨h1,_⟩:=sm.agree _ _ _ (hp _ rfl) hg;obtain⟨v,hv,hr⟩:=h1 (sm.ctx _ _ hm);show Rel r β sv (a.tmps.getD t undef);rw[yAA,hv];exact hr
   | false=>rw[hm] at h;exact⟨_,h,fun _ _ _ _ _ _ _=>.und⟩
  ·exact⟨_,h,fun _ _ _ _ _ _ _=>.und⟩
 ·obtain⟨sv,hk,_,hr⟩:=qF6 h;exact⟨sv,hk,fun _ r β _ _ _ _=>hr r β⟩
 ·exact⟨_,h,fun _ r β a g _ _=>.fn (cs:=[]) rfl (by intro i sv v h1;simp at h1)⟩
 ·exact⟨_,h,fun _ r β a g _ _=>.v⟩
theorem qC6 {σ:Env}{ctx:Ctx}{xs:List Operand}:∀ {K:List SV->Prop},qgT σ ctx xs K->
  ∃ l,K l/\l.length=xs.length/\∀ p r β (a:Act) g,(∀ x∈xs,Has p x)->Sm p r β σ a.tmps ctx g->∀ (i:Nat) sv x,l[i]?=some sv->xs[i]?=some x->Rel r β sv (a.eval x):=by
 induction xs with
 | nil=>intro K h;exact⟨[],h,rfl,fun p r β a g _ _ i sv x h1 h2=>by simp at h1⟩
 | cons x xs ih=>
  intro K h;obtain⟨sv,hs,hr⟩:=qAK h;obtain⟨l,hl,h1,h2⟩:=ih hs;refine⟨sv::l,hl,by simp[h1],?_⟩
  intro p r β a g hp sm i sv' x' q1 q2;cases i with
  | zero=>simp at q1 q2;subst q1;subst q2;exact hr p r β a g (hp _ (by simp)) sm
  | succ i=>simp at q1 q2;exact h2 p r β a g (fun y hy=>hp y (by simp[hy])) sm i sv' x' q1 q2
def GdP (p:Nat->Prop) (σ:Env):Prop:=∀ k s w sv,p k->σ.get k=some (some (s,w),sv)->p s
theorem qKX {σ:Env}:∀ {f s w}{K:Ctx->(Prop->Prop)->Prop},qnP σ f s w K->
  ∃ ctx g,K ctx g/\∀ p r β t,GdP p σ->p s->qLP p r β σ t->t[s]?=some (.bool w)->Sm p r β σ t ctx g
 | 0,s,w,K,h=>h.elim
 | f + 1,s,w,K,h=>by
  unfold qnP at h;split at h
  ·rename_i b hg;refine⟨_,_,h,fun p r β t hgd hps ha ht=>⟨ha,fun s' w' hm=>?_,fun q hq=>hq ?_⟩⟩
   ·rcases qIG _ _ _ _ _ hm with⟨rfl,rfl⟩|hm
    ·exact ht
    ·simp[qGJ] at hm
   ·obtain⟨v,hv,hr⟩:=ha _ _ _ hps hg;cases hr;rw[hv] at ht;simpa using ht
  ·rename_i s' w' b hg;obtain⟨ctx,g,hk,hs⟩:=qKX h;refine⟨_,_,hk,fun p r β t hgd hps ha ht=>?_⟩
   have hent:=ha _ _ _ hps hg;have ht':t[s']?=some (.bool w'):=by
    by_cases hc:t[s']?=some (.bool w')
    ·exact hc
    ·have:=hent.2 hc;rw[ht] at this;simp[undef] at this
   have sm:=hs p r β t hgd (hgd _ _ _ _ hps hg) ha ht';refine⟨ha,fun s1 w1 hm=>?_,fun q hq=>sm.valid _ hq ?_⟩
   ·rcases qIG _ _ _ _ _ hm with⟨rfl,rfl⟩|hm
    ·exact ht
    ·exact sm.ctx _ _ hm
   ·obtain⟨v,hv,hr⟩:=hent.1 ht';cases hr;rw[hv] at ht;simpa using ht
  ·exact h.elim
theorem Sm.plain {r β σ t}(h:Agree r β σ t):Sm (fun _=>True) r β σ t [] (fun p=>p):=⟨h.P _,fun s w hm=>by simp[qGJ] at hm,fun p hp=>hp⟩
theorem qLT (x:Operand):Has (fun _=>True) x:=fun _ _=>trivial
end Go.Vc

namespace Go.Vc
set_option autoImplicit false
theorem wrap_i64 {n:Int}(h:qmK n):IntKind.wrap .i64 n=n:=by
 obtain⟨h1,h2⟩:=h;simp only[IntKind.wrap,IntKind.bits,IntKind.signed,yAG];split
 ·rename_i hc;simp at hc;omega
 ·rename_i hc;simp at hc;omega
theorem qY6 {k:IntKind}{n:Int}(h:kIn k n):k.wrap n=n:=by
  cases k<;>simp only[kIn,IntKind.min,IntKind.max,IntKind.signed,IntKind.bits] at h <;>
    (obtain⟨h1,h2⟩:=h
     simp only[IntKind.wrap,IntKind.bits,IntKind.signed,yAG,yAE,yAF,if_false]
     first
      | (split
         · rename_i hc;simp at hc;simp at h1 h2;omega
         · rename_i hc;simp at hc;simp at h1 h2;omega)
      | (simp at h1 h2 ⊢;omega))
theorem qES {k n g}{K:SV->Prop}(h:qVJ k n g K):∃ m,K (.int k m)/\((∀ p,g p->p)->k.wrap n=m):=by
 unfold qVJ at h;split at h
 ·exact⟨_,h.2,fun hv=>wrap_i64 (hv _ h.1).h⟩
 ·exact⟨_,h,fun _=>rfl⟩
def Res (g:Prop->Prop) (K:SV->Prop) (s:Sem Value):Prop:=∃ sv v,K sv/\((∀ p,g p->p)->(∀ r β,Rel r β sv v)/\∀ P w,s.run P w=.ok v w)
theorem qU7 {op k a b g}{K:SV->Prop}(h:qcP op k a b g K) (h1:op≠.shl) (h2:op≠.shr):Res g K (Go.binOp op 0 (.int k a) (.int k b)):=by
 cases op<;>simp only[qcP] at h
 case add=>obtain⟨m,hk,he⟩:=qES h;exact⟨_,.int k m,hk,fun hv=>⟨fun _ _=>.int,fun P w=>by simp[Go.binOp,Op.intArith,he hv]⟩⟩
 case sub=>obtain⟨m,hk,he⟩:=qES h;exact⟨_,.int k m,hk,fun hv=>⟨fun _ _=>.int,fun P w=>by simp[Go.binOp,Op.intArith,he hv]⟩⟩
 case mul=>obtain⟨m,hk,he⟩:=qES h;exact⟨_,.int k m,hk,fun hv=>⟨fun _ _=>.int,fun P w=>by simp[Go.binOp,Op.intArith,he hv]⟩⟩
 case quo=>
  obtain⟨m,hk,he⟩:=qES h.2;exact⟨_,.int k m,hk,fun hv=>⟨fun _ _=>.int,fun P w=>by simp[Go.binOp,Op.intDiv,he hv,(hv _ h.1).h]⟩⟩
 case rem=>exact⟨_,_,h.2,fun hv=>⟨fun _ _=>.int,fun P w=>by simp[Go.binOp,Op.intDiv,(hv _ h.1).h]⟩⟩
 case and=>exact⟨_,_,h,fun hv=>⟨fun _ _=>.int,fun P w=>by simp[Go.binOp,Op.intBits,qOH]⟩⟩
 case or=>exact⟨_,_,h,fun hv=>⟨fun _ _=>.int,fun P w=>by simp[Go.binOp,Op.intBits,qOH]⟩⟩
 case xor=>exact⟨_,_,h,fun hv=>⟨fun _ _=>.int,fun P w=>by simp[Go.binOp,Op.intBits,qOH]⟩⟩
 case andNot=>exact⟨_,_,h,fun hv=>⟨fun _ _=>.int,fun P w=>by simp[Go.binOp,Op.intBits,qOH]⟩⟩
 case eql=>exact⟨_,_,h,fun hv=>⟨fun _ _=>.bool,fun P w=>by simp[Go.binOp,Op.intCmp]⟩⟩
 case neq=>exact⟨_,_,h,fun hv=>⟨fun _ _=>.bool,fun P w=>by simp[Go.binOp,Op.intCmp]⟩⟩
 case lss=>exact⟨_,_,h,fun hv=>⟨fun _ _=>.bool,fun P w=>by simp[Go.binOp,Op.intCmp]⟩⟩
 case leq=>exact⟨_,_,h,fun hv=>⟨fun _ _=>.bool,fun P w=>by simp[Go.binOp,Op.intCmp]⟩⟩
 case gtr=>exact⟨_,_,h,fun hv=>⟨fun _ _=>.bool,fun P w=>by simp[Go.binOp,Op.intCmp]⟩⟩
 case geq=>exact⟨_,_,h,fun hv=>⟨fun _ _=>.bool,fun P w=>by simp[Go.binOp,Op.intCmp]⟩⟩
theorem qOG (op:BinOp) (t t':TypeId) (k k':IntKind) (a b:Int):Go.binOp op t (.int k a) (.int k' b)=Go.binOp op t' (.int k a) (.int k' b):=by
 cases op<;>rfl
theorem qOD (op:BinOp) (t t':TypeId) (a b:ByteArray):Go.binOp op t (.string a) (.string b)=Go.binOp op t' (.string a) (.string b):=by
 cases op<;>rfl
theorem qV1 {op k a k' b g}{K:SV->Prop}{t:TypeId}(h:qm3 op k a k' b g K):Res g K (Go.binOp op t (.int k a) (.int k' b)):=by
  unfold qm3 at h;split at h
  · exact⟨_,_,h.2,fun hv=>⟨fun _ _=>.int,fun P w=>by
      have:=(hv _ h.1).h;simp[Go.binOp,Op.shift,show ¬b<0 by omega]⟩⟩
  · exact⟨_,_,h.2,fun hv=>⟨fun _ _=>.int,fun P w=>by
      have:=(hv _ h.1).h;simp[Go.binOp,Op.shift,show ¬b<0 by omega]⟩⟩
  · rename_i h1 h2
    cases hk:kEq k k' with
    | false=>rw[hk] at h;exact h.elim
    | true=>
      rw[hk] at h;obtain rfl:=qJL hk;rw[qOG op t 0];exact qU7 h (by rintro rfl;exact h1 rfl) (by rintro rfl;exact h2 rfl)
theorem qd3 (a b:List UInt8):(⟨a.toArray⟩:ByteArray)++⟨b.toArray⟩=⟨(a++b).toArray⟩:=by
 apply ByteArray.ext;simp
theorem qXE {op a b g}{K:SV->Prop}{t:TypeId}(h:qm0 op a b g K):Res g K (Go.binOp op t (.string ⟨a.toArray⟩) (.string ⟨b.toArray⟩)):=by
 rw[qOD op t 0];cases op<;>simp only[qm0] at h
 case add=>
  refine⟨_,.string ⟨(a++b).toArray⟩,h.2,fun hv=>?_⟩
  have hb:=(hv _ h.1).h;refine⟨fun _ _=>.str (by simpa using hb),fun P w=>?_⟩
  have:¬((a.length+b.length:Nat):Int)>IntKind.i64.max:=by simp[IntKind.max,IntKind.signed,IntKind.bits];omega
  simp only[Go.binOp,Op.stringOp];rw[if_neg (by simpa[ByteArray.size] using this),qd3]
  rfl
 case eql=>exact⟨_,_,h,fun hv=>⟨fun _ _=>.bool,fun P w=>by simp[Go.binOp,Op.stringOp]⟩⟩
 case neq=>exact⟨_,_,h,fun hv=>⟨fun _ _=>.bool,fun P w=>by simp[Go.binOp,Op.stringOp]⟩⟩
 case lss=>exact⟨_,_,h,fun hv=>⟨fun _ _=>.bool,fun P w=>by simp[Go.binOp,Op.stringOp]⟩⟩
 case leq=>exact⟨_,_,h,fun hv=>⟨fun _ _=>.bool,fun P w=>by simp[Go.binOp,Op.stringOp]⟩⟩
 case gtr=>exact⟨_,_,h,fun hv=>⟨fun _ _=>.bool,fun P w=>by simp[Go.binOp,Op.stringOp]⟩⟩
 case geq=>exact⟨_,_,h,fun hv=>⟨fun _ _=>.bool,fun P w=>by simp[Go.binOp,Op.stringOp]⟩⟩
def ResP (P:Program) (g:Prop->Prop) (K:SV->Prop) (s:Sem Value):Prop:=∃ sv v,K sv/\((∀ p,g p->p)->(∀ r β,Rel r β sv v)/\∀ w,s.run P w=.ok v w)
theorem Res.at {g}{K:SV->Prop}{s:Sem Value}(h:Res g K s) (P:Program):ResP P g K s:=by
 obtain⟨sv,v,hk,hr⟩:=h;exact⟨sv,v,hk,fun hv=>⟨(hr hv).1,(hr hv).2 P⟩⟩
theorem run_underlying {P:Program}{t:TypeId}{d:TypeDesc}(h:P.underlying t=some d) (w:World):(underlying t).run P w=.ok d w:=by
 simp[underlying,h]
theorem run_equal_bool {P:Program}{t:TypeId}(hu:P.underlying t=some .bool) (a b:Bool) (w:World):(Op.equal t (.bool a) (.bool b)).run P w=.ok (a==b) w:=by
 unfold Op.equal Op.maxDepth;rw[show(10000:Nat)=9999+1 from rfl,Op.equalIn]
 simp[run_underlying hu]
theorem qs8 (a b:Int):(some (compare a b)==some Ordering.eq)=(a==b)/\(some (compare a b)==some Ordering.lt)=decide (a<b)/\(some (compare a b)==some Ordering.gt)=decide (a>b):=by
 show(some (compareOfLessAndEq a b)==some Ordering.eq)=_/\(some (compareOfLessAndEq a b)==some Ordering.lt)=_/\(some (compareOfLessAndEq a b)==some Ordering.gt)=_;unfold compareOfLessAndEq;by_cases h1:a<b
 ·have e1:(a==b)=false:=beq_eq_false_iff_ne.mpr (by omega)
  have e2:decide (a>b)=false:=decide_eq_false (by omega)
  rw[if_pos h1,decide_eq_true h1,e1,e2];exact⟨rfl,rfl,rfl⟩
 ·rw[if_neg h1,decide_eq_false h1];by_cases h2:a=b
  ·have e1:(a==b)=true:=beq_iff_eq.mpr h2;have e2:decide (a>b)=false:=decide_eq_false (by omega)
   rw[if_pos h2,e1,e2];exact⟨rfl,rfl,rfl⟩
  ·have e1:(a==b)=false:=beq_eq_false_iff_ne.mpr h2;have e2:decide (a>b)=true:=decide_eq_true (by omega)
   rw[if_neg h2,e1,e2];exact⟨rfl,rfl,rfl⟩
theorem qVX {op a b g}{t:TypeId}{K:SV->Prop}(h:qmU op a b g K):Res g K (Go.binOp op t (.float .f64 (fb a)) (.float .f64 (fb b))):=by
 obtain⟨c1,c2,c3⟩:=qs8 a b;have hc:∀ (ha:okF a) (hb:okF b),FloatKind.f64.format.order (fb a) (fb b)=some (compare a b):=fun ha hb=>qeZ ha hb
 unfold qmU at h;split at h
 ·refine⟨_,_,h.2,fun hv=>⟨fun r β=>.flt,fun P w=>?_⟩⟩
  have hb:=(hv _ h.1).h;simp only[Go.binOp,ne_eq,not_true_eq_false,if_false,Op.floatArith,zD7 hb.1 hb.2];rfl
 ·refine⟨_,_,h.2,fun hv=>⟨fun r β=>.flt,fun P w=>?_⟩⟩
  have hb:=(hv _ h.1).h;simp only[Go.binOp,ne_eq,not_true_eq_false,if_false,Op.floatArith,qmO hb.1 hb.2];rfl
 ·refine⟨_,_,h.2,fun hv=>⟨fun r β=>.bool,fun P w=>?_⟩⟩
  have hb:=(hv _ h.1).h;simp only[Go.binOp,ne_eq,not_true_eq_false,if_false,Op.floatCmp,hc hb.1 hb.2,c1];rfl
 ·refine⟨_,_,h.2,fun hv=>⟨fun r β=>.bool,fun P w=>?_⟩⟩
  have hb:=(hv _ h.1).h;simp only[Go.binOp,ne_eq,not_true_eq_false,if_false,Op.floatCmp,hc hb.1 hb.2,bne,c1];rfl
 ·refine⟨_,_,h.2,fun hv=>⟨fun r β=>.bool,fun P w=>?_⟩⟩
  have hb:=(hv _ h.1).h;simp only[Go.binOp,ne_eq,not_true_eq_false,if_false,Op.floatCmp,hc hb.1 hb.2,c2];rfl
 ·refine⟨_,_,h.2,fun hv=>⟨fun r β=>.bool,fun P w=>?_⟩⟩
  have hb:=(hv _ h.1).h;have e:(decide (a<b)||a==b)=decide (a<=b):=by
   rw[yAD];simp;omega
  simp only[Go.binOp,ne_eq,not_true_eq_false,if_false,Op.floatCmp,hc hb.1 hb.2,c1,c2,e];rfl
 ·refine⟨_,_,h.2,fun hv=>⟨fun r β=>.bool,fun P w=>?_⟩⟩
  have hb:=(hv _ h.1).h;simp only[Go.binOp,ne_eq,not_true_eq_false,if_false,Op.floatCmp,hc hb.1 hb.2,c3];rfl
 ·refine⟨_,_,h.2,fun hv=>⟨fun r β=>.bool,fun P w=>?_⟩⟩
  have hb:=(hv _ h.1).h;have e:(decide (a>b)||a==b)=decide (a>=b):=by
   rw[yAD];simp;omega
  simp only[Go.binOp,ne_eq,not_true_eq_false,if_false,Op.floatCmp,hc hb.1 hb.2,c1,c3,e];rfl
 ·exact h.elim
theorem qWR {op a b c d g}{t:TypeId}{K:SV->Prop}(h:qk1 op a b c d g K):Res g K (Go.binOp op t (.complex .f64 (fb a) (fb b)) (.complex .f64 (fb c) (fb d))):=by
 unfold qk1 at h;split at h
 ·refine⟨_,_,h.2,fun hv=>⟨fun r β=>.cpx,fun P w=>?_⟩⟩
  obtain⟨h1,h2,h3,h4⟩:=(hv _ h.1).h;simp only[Go.binOp,ne_eq,not_true_eq_false,if_false,Op.complexOp,Op.Complex.arith,Op.floatArith,qmO h1 h3,qmO h2 h4];rfl
 ·refine⟨_,_,h.2,fun hv=>⟨fun r β=>.bool,fun P w=>?_⟩⟩
  obtain⟨h1,h2,h3,h4⟩:=(hv _ h.1).h;simp only[Go.binOp,ne_eq,not_true_eq_false,if_false,Op.complexOp,Op.Complex.cmp,Op.floatCmp,qeZ h1 h3,qeZ h2 h4,(qs8 a c).1,(qs8 b d).1];cases(a==c)<;>cases(b==d)<;>rfl
 ·refine⟨_,_,h.2,fun hv=>⟨fun r β=>.bool,fun P w=>?_⟩⟩
  obtain⟨h1,h2,h3,h4⟩:=(hv _ h.1).h;simp only[Go.binOp,ne_eq,not_true_eq_false,if_false,Op.complexOp,Op.Complex.cmp,Op.floatCmp,qeZ h1 h3,qeZ h2 h4,(qs8 a c).1,(qs8 b d).1];cases(a==c)<;>cases(b==d)<;>rfl
 ·exact h.elim
theorem qXJ {P:Program}{op t x y g}{K:SV->Prop}(h:qgI P op t x y g K):
  ∃ sv,K sv/\((∀ p,g p->p)->∀ r β vx vy,Rel r β x vx->Rel r β y vy->∃ v,Rel r β sv v/\∀ w,(Go.binOp op t vx vy).run P w=.ok v w):=by
 unfold qgI at h;split at h
 ·obtain⟨sv,v,hk,hr⟩:=qVX (t:=t) h;refine⟨sv,hk,fun hv r β vx vy hx hy=>?_⟩
  cases hx;cases hy;exact⟨v,(hr hv).1 r β,(hr hv).2 P⟩
 ·obtain⟨sv,v,hk,hr⟩:=qWR (t:=t) h;refine⟨sv,hk,fun hv r β vx vy hx hy=>?_⟩
  cases hx;cases hy;exact⟨v,(hr hv).1 r β,(hr hv).2 P⟩
 ·obtain⟨sv,v,hk,hr⟩:=qV1 (t:=t) h;refine⟨sv,hk,fun hv r β vx vy hx hy=>?_⟩
  cases hx;cases hy;exact⟨v,(hr hv).1 r β,(hr hv).2 P⟩
 ·obtain⟨sv,v,hk,hr⟩:=qXE (t:=t) h;refine⟨sv,hk,fun hv r β vx vy hx hy=>?_⟩
  cases hx;cases hy;exact⟨v,(hr hv).1 r β,(hr hv).2 P⟩
 ·split at h
  ·rename_i hu;refine⟨_,h,fun hv r β vx vy hx hy=>?_⟩
   cases hx;cases hy;exact⟨_,.bool,fun w=>by
    show Sem.run P (do pure (Value.bool (←Op.equal t (.bool _) (.bool _)))) w=_
    rw[Sem.run_bind,run_equal_bool hu];rfl⟩
  ·rename_i hu;refine⟨_,h,fun hv r β vx vy hx hy=>?_⟩
   cases hx;cases hy;exact⟨_,.bool,fun w=>by
    show Sem.run P (do pure (Value.bool (!(←Op.equal t (.bool _) (.bool _))))) w=_
    rw[Sem.run_bind,run_equal_bool hu];rfl⟩
  ·exact h.elim
 ·exact h.elim
theorem qaI {P:Program}{op x g}{K:SV->Prop}(h:zCR op x g K):
  ∃ sv,K sv/\((∀ p,g p->p)->∀ r β vx,Rel r β x vx->∃ v,Rel r β sv v/\∀ w,(Op.unary op vx).run P w=.ok v w):=by
 unfold zCR at h;split at h
 ·refine⟨_,h,fun hv r β vx hx=>?_⟩
  cases hx;exact⟨_,.bool,fun w=>rfl⟩
 ·obtain⟨m,hk,he⟩:=qES h;refine⟨_,hk,fun hv r β vx hx=>?_⟩
  cases hx;exact⟨_,.int,fun w=>by simp only[Op.unary,Op.intArith];rw[he hv];rfl⟩
 ·refine⟨_,h,fun hv r β vx hx=>?_⟩
  cases hx;exact⟨_,.int,fun w=>by simp only[Op.unary,Op.intBits];rfl⟩
 ·exact h.elim
theorem qTC (n:Int):(Utf8.encode n).data.toList.length<=9223372036854775807:=by
 unfold Utf8.encode;generalize (if Utf8.valid n then n.toNat else Utf8.runeError)=c
 dsimp only;split
 ·simp
 ·split
  ·simp
  ·split<;>simp
theorem qLF {P:Program}{src dst x g}{K:SV->Prop}(h:qZP P src dst x g K):
  ∃ sv,K sv/\((∀ p,g p->p)->∀ r β vx,Rel r β x vx->∃ v,Rel r β sv v/\∀ w,(Go.convert src dst vx).run P w=.ok v w):=by
 unfold qZP at h;split at h
 ·rename_i ds k' k n hs hd;cases hw:qpB k k' with
  | true=>
   rw[hw] at h;refine⟨_,h.2,fun hv r β vx hx=>?_⟩
   cases hx;exact⟨_,.int,fun w=>by simp[Go.convert,run_underlying hs,run_underlying hd,Conv.intToInt,qY6 (hv _ h.1).h]⟩
  | false=>
   rw[hw] at h;refine⟨_,h,fun hv r β vx hx=>?_⟩
   cases hx;exact⟨_,.int,fun w=>by simp[Go.convert,run_underlying hs,run_underlying hd,Conv.intToInt]⟩
 ·rename_i ds k n hs hd;refine⟨_,h,fun hv r β vx hx=>?_⟩
  cases hx;exact⟨_,.str (qTC n),fun w=>by simp[Go.convert,run_underlying hs,run_underlying hd,Conv.intToString]⟩
 ·rename_i ds l hs hd;refine⟨_,h,fun hv r β vx hx=>?_⟩
  cases hx;rename_i hl;exact⟨_,.str hl,fun w=>by simp[Go.convert,run_underlying hs,run_underlying hd]⟩
 ·rename_i ds k n hs hd;refine⟨_,h,fun hv r β vx hx=>?_⟩
  cases hx;exact⟨_,.flt,fun w=>by simp[Go.convert,run_underlying hs,run_underlying hd,Conv.intToFloat];rfl⟩
 ·rename_i ds n hs hd;refine⟨_,h.2,fun hv r β vx hx=>?_⟩
  cases hx;have hb:okF n:=(hv _ h.1).h;exact⟨_,.int,fun w=>by
   have e:IntKind.i64.min<=n/\n<=IntKind.i64.max:=by
    have e1:IntKind.i64.min = -9223372036854775808:=rfl;have e2:IntKind.i64.max=9223372036854775807:=rfl;rw[e1,e2];omega
   have e3:(FloatKind.f64.decode (fb n)).toInt .zero=some n:=zEB hb;simp only[Go.convert,Sem.run_bind,run_underlying hs,run_underlying hd,Result.andThen_ok,Conv.floatToInt,e3,if_pos e];rfl⟩
 ·exact h.elim
end Go.Vc

namespace Go.Vc
set_option autoImplicit false
theorem qp8 (l:List UInt8) (i:Nat) (h:i<l.length):(⟨l.toArray⟩:ByteArray)[i]?=some (l.getD i 0):=by
 rw[ByteArray.getElem?_lt' _ _ (by simpa[ByteArray.size] using h)]
 congr 1;show l.toArray[i]=_;simp[List.getD,yAJ h]
theorem run_sizeOf {P:Program}{t:TypeId}{i:TypeInfo}(h:P.info? t=some i) (w:World):(sizeOf t).run P w=.ok i.size w:=by
 simp[sizeOf,typeInfo,h]
theorem len_eq (l:List SV):len l=l.length:=by
 induction l with
 | nil=>rfl
 | cons x r ih=>simp[len,ih]
theorem qXI {k:IntKind}:∀ {cs:List SV}{K:List Int->Prop},qfX k cs K->∃ ns,K ns/\cs=ns.map (SV.int k):=by
 intro cs
 induction cs with
 | nil=>intro K h;exact⟨[],h,rfl⟩
 | cons x r ih=>
  intro K h;cases x<;>try exact h.elim
  rename_i k' n;simp only[qfX] at h;cases hk:kEq k k' with
  | false=>rw[hk] at h;exact h.elim
  | true=>
   rw[hk] at h;obtain rfl:=qJL hk;obtain⟨ns,h1,h2⟩:=ih h;exact⟨n::ns,h1,by rw[h2];rfl⟩
theorem qV3:∀ {cs:List SV}{K:List (List UInt8)->Prop},qfS cs K->∃ ls,K ls/\cs=ls.map SV.str:=by
 intro cs
 induction cs with
 | nil=>intro K h;exact⟨[],h,rfl⟩
 | cons x r ih=>
  intro K h;cases x<;>try exact h.elim
  simp only[qfS] at h;obtain⟨ls,h1,h2⟩:=ih h;exact⟨_::ls,h1,by rw[h2];rfl⟩
theorem qPY {P:Program}{t x i g}{K:SV->Prop}(h:qWX P t x i g K):
  ∃ sv,K sv/\((∀ p,g p->p)->∀ r β vx vi,Rel r β x vx->Rel r β i vi->∃ v,Rel r β sv v/\∀ w,(Instr.index t vx vi).run P w=.ok v w):=by
 unfold qWX at h;split at h
 ·rename_i l k i hu;refine⟨_,h.2,fun hv r β vx vi hx hi=>?_⟩
  have hb:=(hv _ h.1).h;cases hx;cases hi;refine⟨_,.int,fun w=>?_⟩
  obtain⟨n,rfl⟩:=yAH hb.1;have hl:n<l.length:=by omega
  simp[Instr.index,asIntOf,run_underlying hu,qp8 l n hl]
 ·rename_i n e cs k i hu;split at h
  ·rename_i ke hue;cases hz:(qEZ P e 1&&Nat.beq (len cs) n) with
   | false=>rw[hz] at h;exact h.elim
   | true=>
    rw[hz] at h;have h:g (Ob (0<=i/\i<n))/\qfX ke cs fun ns=>K (.int ke (ns.getD i.toNat 0)):=h
    simp only[yAC] at hz;have hn:=qAM hz.2;rw[len_eq] at hn;obtain⟨ns,hk,hcs⟩:=qXI h.2;refine⟨_,hk,fun hv r β vx vi hx hi=>?_⟩
    have hb:=(hv _ h.1).h;cases hi;cases hx with
    | agg hl hr=>
     rename_i vs;obtain⟨m,rfl⟩:=yAH hb.1;have hm:m<n:=by omega
     have hlt:m<ns.length:=by have:=congrArg List.length hcs;simp at this;omega
     have hvl:m<vs.length:=by omega
     have hrel:=hr m (.int ke ns[m]) vs[m] (by rw[hcs];simp[hlt]) (yAJ hvl)
     generalize hq:vs[m]=u at hrel;cases hrel;refine⟨_,.int,fun w=>?_⟩
     obtain⟨si,hsi,hs1⟩:∃ s,P.info? e=some s/\s.size=1:=by
      have h1:=hz.1;unfold qEZ at h1;cases hq:P.info? e with
      | none=>rw[hq] at h1;cases h1
      | some s=>rw[hq] at h1;exact⟨s,rfl,qAM h1⟩
     have hg:ns.getD m 0=ns[m]:=by simp[List.getD,yAJ hlt]
     simp only[Instr.index,asIntOf,Sem.run_bind,Sem.run_pure,Result.andThen_ok,run_underlying hu];rw[if_pos ⟨by omega,by omega⟩]
     simp only[Sem.run_bind,run_sizeOf hsi,Result.andThen_ok,hs1];unfold part isAgg;simp only[Sem.run_bind,run_underlying hue,Result.andThen_ok,Sem.run_pure];simp[hvl,hq,yAJ hlt]
  ·rename_i hue;cases hz:(qEZ P e 1&&Nat.beq (len cs) n) with
   | false=>rw[hz] at h;exact h.elim
   | true=>
    rw[hz] at h;have h:g (Ob (0<=i/\i<n))/\qfS cs fun ns=>K (.str (ns.getD i.toNat [])):=h
    simp only[yAC] at hz;have hn:=qAM hz.2;rw[len_eq] at hn;obtain⟨ns,hk,hcs⟩:=qV3 h.2;refine⟨_,hk,fun hv r β vx vi hx hi=>?_⟩
    have hb:=(hv _ h.1).h;cases hi;cases hx with
    | agg hl hr=>
     rename_i vs;obtain⟨m,rfl⟩:=yAH hb.1;have hm:m<n:=by omega
     have hlt:m<ns.length:=by have:=congrArg List.length hcs;simp at this;omega
     have hvl:m<vs.length:=by omega
     have hrel:=hr m (.str ns[m]) vs[m] (by rw[hcs];simp[hlt]) (yAJ hvl)
     generalize hq:vs[m]=u at hrel;cases hrel;refine⟨_,.str (by rw[show ns.getD (m:Int).toNat []=ns[m] from by simp[List.getD,yAJ hlt]];assumption),fun w=>?_⟩
     obtain⟨si,hsi,hs1⟩:∃ s,P.info? e=some s/\s.size=1:=by
      have h1:=hz.1;unfold qEZ at h1;cases hq:P.info? e with
      | none=>rw[hq] at h1;cases h1
      | some s=>rw[hq] at h1;exact⟨s,rfl,qAM h1⟩
     have hg:ns.getD m []=ns[m]:=by simp[List.getD,yAJ hlt]
     simp only[Instr.index,asIntOf,Sem.run_bind,Sem.run_pure,Result.andThen_ok,run_underlying hu];rw[if_pos ⟨by omega,by omega⟩]
     simp only[Sem.run_bind,run_sizeOf hsi,Result.andThen_ok,hs1];unfold part isAgg;simp only[Sem.run_bind,run_underlying hue,Result.andThen_ok,Sem.run_pure];simp[hvl,hq,yAJ hlt]
  ·exact h.elim
 ·exact h.elim
def qsD (a:Act):Option Operand->Option Int->Prop
 | none,none=>True
 | some x,some i=>∃ k,a.eval x=.int k i
 | _,_=>False
theorem qSC {σ:Env}{ctx:Ctx}{x:Option Operand}{K:Option Int->Prop}(h:loK σ ctx x K):
  ∃ y,K y/\∀ p r β (a:Act) g,(∀ o,x=some o->Has p o)->Sm p r β σ a.tmps ctx g->qsD a x y:=by
 unfold loK at h;split at h
 ·exact⟨none,h,fun _ _ _ _ _ _ _=>trivial⟩
 ·obtain⟨sv,hk,hr⟩:=qAK h;cases sv<;>simp only at hk;rename_i k i;refine⟨some i,hk,fun p r β a g hp sm=>?_⟩
  have:=hr p r β a g (hp _ rfl) sm;generalize hq:a.eval _=v at this;cases this;exact⟨k,hq⟩
theorem run_sliceBound {P:Program}{k:IntKind}{i:Int}{y:Nat}{code:BoundsCode}(h0:0<=i) (h1:i<=y) (w:World):
  (Instr.sliceBound (.int k i) y code).run P w=.ok i.toNat w:=by
 simp[Instr.sliceBound,asIntOf,h0,h1]
theorem qDH {P:Program}{s:Bool}{len cap:Nat}{lo hi:Option Value}{a b:Nat}(w:World)
  (hb:match hi with|none=>b=len|some v=>∃ k i,v=Value.int k i/\0<=i/\i<=cap/\i.toNat=b)
  (ha:match lo with|none=>a=0|some v=>∃ k i,v=Value.int k i/\0<=i/\i<=b/\i.toNat=a):
  (Instr.sliceBounds s len cap lo hi none).run P w=.ok (a,b,cap) w:=by
 unfold Instr.sliceBounds;cases hi with
 | none=>
  cases lo with
  | none=>simp at ha hb;subst ha;subst hb;simp
  | some v=>
   obtain⟨k,i,rfl,h0,h1,rfl⟩:=ha;simp at hb;subst hb;simp[run_sliceBound h0 h1]
 | some v=>
  obtain⟨k,i,rfl,h0,h1,rfl⟩:=hb;cases lo with
  | none=>simp at ha;subst ha;simp[run_sliceBound h0 h1]
  | some v=>
   obtain⟨k',i',rfl,h0',h1',rfl⟩:=ha;have h1'':i'<=((i.toNat:Nat):Int):=h1';simp[run_sliceBound h0 h1,run_sliceBound h0' h1'']
theorem qFC {α:Type _}(l:List α) (a b i:Nat) (x:α) (h:((l.take b).drop a)[i]?=some x):l[a+i]?=some x:=by
 rw[yAI,yAN] at h;split at h
 ·exact h
 ·cases h
theorem qkT {r:Mem}{β:qBD}{sz:Nat}{rows:List (List SV)}{a0:Option Addr}{n cap a b:Nat}(h:Rel r β (.lits sz rows) (.slice a0 n cap)) (hab:a<=b) (hb:b<=n):
  Rel r β (.lits sz ((rows.take b).drop a)) (.slice (if cap=a then a0 else a0.map (·.add (a*sz))) (b-a) (cap-a)):=by
 cases h with
 | litsE=>
  have:b-a=0:=by omega
  rw[this];simp;exact .litsE
 | lits hb' hn hcap hrow ho hc hr=>
  rename_i bl off c T fr;by_cases h0:a=b
  ·subst h0;have:(rows.take a).drop a=[]:=by
    apply List.drop_eq_nil_of_le;simp;omega
   rw[this,Nat.sub_self];exact .litsE
  ·have hc0:¬cap=a:=by omega
   rw[if_neg hc0];have hl:((rows.take b).drop a).length=b-a:=by simp;omega
   have ha:(some (⟨bl,off,none⟩:Addr)).map (·.add (a*sz))=some ⟨bl,off+a*sz,none⟩:=by
    simp only[Option.map,Addr.add];split
    ·rename_i hz;rw[hz];rfl
    ·rfl
   rw[ha];have key:=Rel.lits (r:=r) (β:=β) (sz:=sz) (rows:=(rows.take b).drop a) (b:=bl) (off:=off+a*sz) (cap:=cap-a) (c:=c) (T:=T) (fr:=fr) hb'
    (by rw[hl];omega) (by rw[hl];omega) (fun i row hi=>hrow _ _ (qFC _ _ _ _ _ hi)) (fun i row j sv hi hj=>ho _ _ _ _ (qFC _ _ _ _ _ hi) hj)
    (by
     rw[hl];have h1:a*sz+(b-a)*sz=b*sz:=by rw[<-yAS];congr 1;omega
     have h2:b*sz<=rows.length*sz:=yAZ sz hb;omega)
    (fun i row j sv v hi hj hv=>hr _ _ _ _ _ (qFC _ _ _ _ _ hi) hj (by
     rw[yAS];rw[show off+(a*sz+i*sz)+j=off+a*sz+i*sz+j by omega];exact hv))
   rw[hl] at key;exact key
theorem Rel.lits_slice {r β sz rows v}(h:Rel r β (.lits sz rows) v):∃ a cap,v=.slice a rows.length cap/\rows.length<=cap/\rows.length<=9223372036854775807:=by
 cases h with
 | litsE=>exact⟨_,_,rfl,by simp,by simp⟩
 | lits hb hn hcap=>exact⟨_,_,rfl,hcap,hn⟩
theorem info_of_underlying {P:Program}{t:TypeId}{d:TypeDesc}(h:P.underlying t=some d):∃ i,P.info? t=some i:=by
 unfold Program.underlying at h;split at h
 ·rename_i h';exact⟨_,h'⟩
 ·rename_i h';exact⟨_,h'⟩
 ·cases h
theorem qmY {l:List UInt8}{a b:Nat}(hab:a<=b) (hb:b<=l.length):(ByteArray.mk l.toArray).extract a b=ByteArray.mk ((l.take b).drop a).toArray:=by
 rw[ByteArray.extract_mk,List.drop_take]
theorem qBG {P:Program}{e:TypeId}{i:TypeInfo}(h:P.info? e=some i):qAW P e=i.size:=by simp[qAW,h]
theorem qCE {P:Program}{e:TypeId}{sz:Nat}(h:qEZ P e sz=true):qAW P e=sz/\P.info? e≠none:=by
 unfold qEZ at h;unfold qAW;split at h
 ·rename_i i hi;rw[hi];exact⟨qAM h,by simp⟩
 ·cases h
abbrev qNB (lo:Option Int) (v:Option Value):Prop:=
 match lo,v with
 | none,none=>True
 | some i,some v=>∃ k,v=Value.int k i
 | _,_=>False
theorem qS8 {r:Mem}{β:qBD}{P:Program}{t e:TypeId}{rows:List (List SV)}{vx:Value}{vlo vhi:Option Value}{a b:Nat}(hu:P.underlying t=some (.slice e))
    (hi:P.info? e≠none) (hx:Rel r β (.lits (qAW P e) rows) vx)
    (hb:match vhi with|none=>b=rows.length|some v=>∃ k i,v=Value.int k i/\0<=i/\i<=(rows.length:Nat)/\i.toNat=b)
    (ha:match vlo with|none=>a=0|some v=>∃ k i,v=Value.int k i/\0<=i/\i<=b/\i.toNat=a) (hab:a<=b) (hbl:b<=rows.length):
    ∃ v,Rel r β (.lits (qAW P e) ((rows.take b).drop a)) v/\∀ w,(Instr.sliceAt t vx vlo vhi none).run P w=.ok v w:=by
  obtain⟨a0,cap,rfl,hc,_⟩:=hx.lits_slice;obtain⟨i,hi⟩:=yA6.1 hi;refine⟨_,qkT hx hab hbl,fun w=>?_⟩
  have hsb:=qDH (P:=P) (s:=true) (len:=rows.length) (cap:=cap) (lo:=vlo) (hi:=vhi) (a:=a) (b:=b) w
    (by cases vhi with
        | none=>exact hb
        | some v=>obtain⟨k,i,h1,h2,h3,h4⟩:=hb;exact⟨k,i,h1,h2,by omega,h4⟩) ha
  simp[Instr.sliceAt,Instr.slice,run_underlying hu,hsb,run_sizeOf hi,qBG hi]
theorem qR1 {P:Program}{t x lo hi g}{K:SV->Prop}(h:qV7 P t x lo hi g K):
    ∃ sv,K sv/\((∀ p,g p->p)->∀ r β vx vlo vhi,Rel r β x vx->qNB lo vlo->qNB hi vhi->∃ v,Rel r β sv v/\∀ w,(Instr.sliceAt t vx vlo vhi none).run P w=.ok v w):=by
  unfold qV7 at h;split at h
  · rename_i l hu
    have key:∀ (vlo vhi:Option Value) (a b:Nat) w,(l.length<=9223372036854775807)->
        (match vhi with|none=>b=l.length|some v=>∃ k i,v=Value.int k i/\0<=i/\i<=l.length/\i.toNat=b)->
        (match vlo with|none=>a=0|some v=>∃ k i,v=Value.int k i/\0<=i/\i<=b/\i.toNat=a)->a<=b->b<=l.length->
        (Instr.sliceAt t (.string ⟨l.toArray⟩) vlo vhi none).run P w=.ok (.string ⟨((l.take b).drop a).toArray⟩) w:=by
      intro vlo vhi a b w hl hb ha hab hbl;have hsb:=qDH (P:=P) (s:=false) (len:=l.length) (cap:=l.length) (lo:=vlo) (hi:=vhi) (a:=a) (b:=b) w hb ha;have hz:(ByteArray.mk l.toArray).size=l.length:=by simp[ByteArray.size]
      simp[Instr.sliceAt,Instr.slice,run_underlying hu,hz,hsb,qmY hab hbl]
    split at h
    · refine⟨_,h,fun hv r β vx vlo vhi hx h1 h2=>?_⟩
      cases hx;rename_i hl;cases vlo<;>cases vhi<;>simp only[qNB] at h1 h2;exact⟨_,.str hl,fun w=>by have:=key none none 0 l.length w hl rfl rfl (by omega) (by omega);simpa using this⟩
    · rename_i ia
      refine⟨_,h.2,fun hv r β vx vlo vhi hx h1 h2=>?_⟩
      have hb:=(hv _ h.1).h;cases hx;rename_i hl;cases vlo<;>cases vhi<;>simp only[qNB] at h1 h2;obtain⟨k,rfl⟩:=h1;refine⟨_,.str (by simp;omega),fun w=>?_⟩
      have:=key (some (.int k ia)) none ia.toNat l.length w hl rfl ⟨k,_,rfl,hb.1,hb.2,rfl⟩ (by omega) (by omega)
      simpa using this
    · rename_i ib
      refine⟨_,h.2,fun hv r β vx vlo vhi hx h1 h2=>?_⟩
      have hb:=(hv _ h.1).h;cases hx;rename_i hl;cases vlo<;>cases vhi<;>simp only[qNB] at h1 h2;obtain⟨k,rfl⟩:=h2;refine⟨_,.str (by simp;omega),fun w=>?_⟩
      have:=key none (some (.int k ib)) 0 ib.toNat w hl ⟨k,_,rfl,hb.1,hb.2,rfl⟩ rfl (by omega) (by omega)
      simpa using this
    · rename_i ia ib
      refine⟨_,h.2,fun hv r β vx vlo vhi hx h1 h2=>?_⟩
      have hb:=(hv _ h.1).h;cases hx;rename_i hl;cases vlo<;>cases vhi<;>simp only[qNB] at h1 h2;obtain⟨k,rfl⟩:=h1;obtain⟨k',rfl⟩:=h2;refine⟨_,.str (by simp;omega),fun w=>?_⟩
      exact key (some (.int k ia)) (some (.int k' ib)) ia.toNat ib.toNat w hl ⟨k',_,rfl,by omega,hb.2.2,rfl⟩ ⟨k,_,rfl,hb.1,by omega,rfl⟩ (by omega) (by omega)
  · rename_i e τ l hu
    cases hz:qEZ P e τ.size with
    | false=>rw[hz] at h;exact h.elim
    | true=>
      rw[hz] at h;obtain⟨hts,hi⟩:=qCE hz;simp only[cond_true] at h;have core:=fun(r:Mem) (β:qBD) vx (hx:Rel r β (.rd τ l) vx) vlo vhi a b=>
        qS8 (r:=r) (β:=β) (rows:=l.map τ.enc) (vx:=vx) (vlo:=vlo) (vhi:=vhi) (a:=a) (b:=b) hu hi (by rw[hts];cases hx;assumption)
      simp only[List.length_map,hts] at core;split at h
      · refine⟨_,h,fun hv r β vx vlo vhi hx h1 h2=>?_⟩
        cases vlo<;>cases vhi<;>simp only[qNB] at h1 h2;obtain⟨v,hr,hw⟩:=core r β vx hx none none 0 l.length rfl rfl (by omega) (by omega)
        exact⟨v,.rd (by simpa[yAQ] using hr),hw⟩
      · rename_i ia
        refine⟨_,h.2,fun hv r β vx vlo vhi hx h1 h2=>?_⟩
        have hb:=(hv _ h.1).h;cases vlo<;>cases vhi<;>simp only[qNB] at h1 h2;obtain⟨k,rfl⟩:=h1;obtain⟨v,hr,hw⟩:=core r β vx hx (some (.int k ia)) none ia.toNat l.length rfl ⟨k,_,rfl,hb.1,hb.2,rfl⟩ (by omega) (by omega)
        exact⟨v,.rd (by simpa[yAQ,yAO] using hr),hw⟩
      · rename_i ib
        refine⟨_,h.2,fun hv r β vx vlo vhi hx h1 h2=>?_⟩
        have hb:=(hv _ h.1).h;cases vlo<;>cases vhi<;>simp only[qNB] at h1 h2;obtain⟨k,rfl⟩:=h2;obtain⟨v,hr,hw⟩:=core r β vx hx none (some (.int k ib)) 0 ib.toNat ⟨k,_,rfl,hb.1,hb.2,rfl⟩ rfl (by omega) (by omega)
        exact⟨v,.rd (by simpa[yAP] using hr),hw⟩
      · rename_i ia ib
        refine⟨_,h.2,fun hv r β vx vlo vhi hx h1 h2=>?_⟩
        have hb:=(hv _ h.1).h;cases vlo<;>cases vhi<;>simp only[qNB] at h1 h2;obtain⟨k,rfl⟩:=h1;obtain⟨k',rfl⟩:=h2;obtain⟨v,hr,hw⟩:=core r β vx hx (some (.int k ia)) (some (.int k' ib)) ia.toNat ib.toNat ⟨k',_,rfl,by omega,hb.2.2,rfl⟩ ⟨k,_,rfl,hb.1,by omega,rfl⟩ (by omega) (by omega)
        exact⟨v,.rd (by simpa[yAP,yAO] using hr),hw⟩
  · exact h.elim
end Go.Vc

namespace Go.Vc
set_option autoImplicit false
theorem Rel.oneCell {r β sv v}(h:Rel r β sv v) (ho:sv.one=true):v.oneCell'=true:=by
 induction h with
 | rd _ ih=>exact ih rfl
 | v=>exact ho
 | own h=>exact h
 | nk _ _ h=>exact h
 | agg=>cases ho
 | tup=>cases ho
 | und=>cases ho
 | _=>rfl
theorem MemSat.rows {r β Φ w id}{ch:Chunk}(m:MemSat r β Φ w) (h:Phi.get Φ id=some ch):ch.Sat r β w (β id):=m.chs _ _ h
theorem MemSat.rowsR {r β Φ w id}{τ:Ty}{l:List τ.T}(m:MemSat r β Φ w) (h:Phi.row Φ id=some (.own τ l)):(Chunk.own τ l).Sat r β w (β id):=by
 unfold Phi.row at h;split at h
 ·rename_i hg;cases h;have:=m.chs _ _ hg;cases this with
  | ro h=>exact .own h
 ·rename_i hg;cases h;have:=m.chs _ _ hg;cases this with
  | ow h=>exact .own h
 ·rename_i τ' l' g hg;cases h;have:=m.chs _ _ hg;cases this with
  | owg hx h=>exact .own h
 ·exact m.chs _ _ h
theorem qmN {Φ:Phi}{id:Nat}{τ:Ty}{l:List τ.T}(h:Phi.row Φ id=some (.own τ l)):∃ ch,Phi.get Φ id=some ch/\∀ x,ch.hb x=(Chunk.own τ l).hb x:=by
 unfold Phi.row at h;split at h
 ·rename_i τ' l' hg;cases h;refine⟨_,hg,fun x=>?_⟩
  cases x<;>first|rfl|(rename_i a _ _;cases a<;>rfl)
 ·rename_i τ' l' hg;cases h;refine⟨_,hg,fun x=>?_⟩
  cases x<;>first|rfl|(rename_i a _ _;cases a<;>rfl)
 ·rename_i τ' l' g hg;cases h;refine⟨_,hg,fun x=>?_⟩
  cases x<;>first|rfl|(rename_i a _ _;cases a<;>rfl)
 ·exact⟨_,h,fun _=>rfl⟩
theorem qVQ {Φ:Phi}{id:Nat}{τ:Ty}{p:Nat}{l:List τ.T}{pend:Option Nat}(h:Phi.row Φ id=some (.nst τ p l pend)):Phi.get Φ id=some (.nst τ p l pend):=by
 unfold Phi.row at h;split at h
 ·cases h
 ·cases h
 ·cases h
 ·exact h
theorem qkJ {Φ:Phi}{id:Nat}{τ:Ty}{l:List τ.T}{i p e:Nat}{g:Value}(h:Phi.row Φ id=some (.foc τ l i p e g)):Phi.get Φ id=some (.foc τ l i p e g):=by
 unfold Phi.row at h;split at h
 ·cases h
 ·cases h
 ·cases h
 ·exact h
theorem qCT {τ:Ty}{p:Nat}:∀ {l:List τ.T}{gs:List Value},gs.length=l.length->(qCS τ p l gs).length=l.length
 | [],[],_=>rfl
 | [],_::_,h=>by cases h
 | _::_,[],h=>by cases h
 | a::l,g::gs,h=>by simp only[qCS,List.length_cons];rw[qCT (by simpa using h)]
theorem qU2 {τ:Ty}{p:Nat}:∀ {l:List τ.T}{gs:List Value}(i:Nat) (row:List SV),(qCS τ p l gs)[i]?=some row->∃ a g,l[i]?=some a/\gs[i]?=some g/\row=qH1 τ p a g
 | [],[],i,row,h=>by simp[qCS] at h
 | [],_::_,i,row,h=>by simp[qCS] at h
 | _::_,[],i,row,h=>by simp[qCS] at h
 | a::l,g::gs,0,row,h=>by simp[qCS] at h;exact⟨a,g,rfl,rfl,h.symm⟩
 | a::l,g::gs,i+1,row,h=>by obtain⟨a',g',q1,q2,q3⟩:=qU2 (l:=l) (gs:=gs) i row (by simpa[qCS] using h);exact⟨a',g',by simpa using q1,by simpa using q2,q3⟩
theorem qJJ {τ:Ty}{p:Nat}:∀ {l:List τ.T}{gs:List Value}(i:Nat) (a:τ.T) (g:Value),l[i]?=some a->gs[i]?=some g->(qCS τ p l gs)[i]?=some (qH1 τ p a g)
 | [],_,i,a,g,h,_=>by simp at h
 | _::_,[],i,a,g,_,h=>by simp at h
 | b::l,k::gs,0,a,g,h1,h2=>by simp at h1 h2;subst h1;subst h2;rfl
 | b::l,k::gs,i+1,a,g,h1,h2=>by simpa[qCS] using qJJ (l:=l) (gs:=gs) i a g (by simpa using h1) (by simpa using h2)
theorem qGS:∀ (l:List SV) (n:Nat) (y:SV),qIP l n y=l.set n y
 | [],_,_=>rfl
 | _::_,0,_=>rfl
 | x::r,n+1,y=>by simp[qIP,qGS r n y]
theorem qb4 {r β w x τ p pend}{l:List (Ty.T τ)}(h:(Chunk.nst τ p l pend).Sat r β w x):∃ a cap,hd x=.slice a l.length cap/\l.length<=9223372036854775807:=by
 cases h with
 | nst hx hl gl hm _ _ _ _ _=>
  subst hx;rw[qEQ];rcases hm with⟨a,rfl,he⟩|⟨b,off,cap,c,T,fr,rfl,_,_,_,h1,h2,_⟩
  ·have:=qCT (p:=p) gl;rw[he] at this;exact⟨a,0,by rw[<-this];rfl,by rw[<-this];simp⟩
  ·rw[qCT gl] at h2 ⊢;exact⟨_,_,rfl,yAW h2 h1⟩
theorem qAZ.slice {r w x bt sz rows}(h:qAZ r w x bt sz rows):∃ a cap,x=.slice a rows.length cap/\rows.length<=cap/\rows.length<=9223372036854775807:=by
 rcases h with⟨a,rfl,rfl⟩|⟨b,off,cap,c,T,fr,rfl,_,_,_,h1,h2,_⟩
 ·exact⟨a,0,rfl,by simp,by simp⟩
 ·exact⟨_,_,rfl,h2,yAW h2 h1⟩
theorem run_len_slice {P:Program}{t e:TypeId}(hu:P.underlying t=some (.slice e)) (a:Option Addr) (n cap:Nat) (ty:TypeId) (w:World):
  (Builtin.len_ #[t] ty #[.slice a n cap]).run P w=.ok (.int .i64 n) w:=by
 simp[Builtin.len_,run_underlying hu,goInt]
theorem qFV {ung:Bool}{n:Nat}{K:SV->Prop}(h:qnC ung n K) (hp:ung=true->n<=9223372036854775807):K (.int .i64 n):=by
 cases ung with
 | true=>exact h (hp rfl)
 | false=>exact h
theorem qXR {P:Program}{Φ:Phi}{t x ung}{K:SV->Prop}(h:ql8 P Φ t x ung K) (hp:ung=true->∃ r β vx w,Rel r β x vx/\MemSat r β Φ w):
  ∃ sv,K sv/\∀ r β vx,Rel r β x vx->∃ v,Rel r β sv v/\∀ w ty,MemSat r β Φ w->(Builtin.len_ #[t] ty #[vx]).run P w=.ok v w:=by
 unfold ql8 at h;split at h
 ·rename_i l hu;have h:=qFV h (fun hq=>by obtain⟨r, β,vx,w,hx,_⟩:=hp hq;cases hx;assumption)
  refine⟨_,h,fun r β vx hx=>?_⟩
  cases hx;have hz:(ByteArray.mk l.toArray).size=l.length:=by simp[ByteArray.size]
  exact⟨_,.int,fun w ty _=>by
   simp only[Builtin.len_,List.getElem?_toArray,List.getElem?_cons_zero,Sem.run_bind,run_underlying hu,Result.andThen_ok,Sem.run_pure,goInt,hz]⟩
 ·rename_i e τ l hu;have h:=qFV h (fun hq=>by
   obtain⟨r, β,vx,w,hx,_⟩:=hp hq;cases hx with
   | rd hx=>obtain⟨_,_,_,_,h⟩:=hx.lits_slice;simpa using h)
  refine⟨_,h,fun r β vx hx=>?_⟩
  cases hx with
  | rd hx=>
   obtain⟨a,cap,rfl,_⟩:=hx.lits_slice;exact⟨_,.int,fun w ty _=>by rw[run_len_slice hu];simp⟩
 ·rename_i e sz rows hu;have h:=qFV h (fun hq=>by
   obtain⟨r, β,vx,w,hx,_⟩:=hp hq;obtain⟨_,_,_,_,h⟩:=hx.lits_slice;exact h)
  refine⟨_,h,fun r β vx hx=>?_⟩
  obtain⟨a,cap,rfl,_⟩:=hx.lits_slice;exact⟨_,.int,fun w ty _=>by rw[run_len_slice hu]⟩
 ·rename_i e hu;refine⟨_,h,fun r β vx hx=>?_⟩
  cases hx;exact⟨_,.int,fun w ty _=>by rw[run_len_slice hu];rfl⟩
 ·rename_i e id hu;split at h
  ·rename_i τ l hg;have h:=qFV h (fun hq=>by
    obtain⟨r, β,vx,w,hx,m⟩:=hp hq;have hs:=m.rowsR hg;cases hs with
    | own hs=>obtain⟨_,_,_,_,h⟩:=hs.slice;simpa using h)
   refine⟨_,h,fun r β vx hx=>?_⟩
   cases hx;refine⟨.int .i64 l.length,.int,fun w ty m=>?_⟩
   have hs:=m.rowsR hg;cases hs with
   | own hs=>rw[hs.hd];obtain⟨a,cap,he,_⟩:=hs.slice;rw[he,run_len_slice hu];simp
  ·rename_i τ0 p0 l pend hg;have hg:=qVQ hg;have h:=qFV h (fun hq=>by
    obtain⟨r, β,vx,w,hx,m⟩:=hp hq;obtain⟨_,_,_,h⟩:=qb4 (m.rows hg);exact h)
   refine⟨_,h,fun r β vx hx=>?_⟩
   cases hx;refine⟨.int .i64 l.length,.int,fun w ty m=>?_⟩
   obtain⟨a,cap,he,_⟩:=qb4 (m.rows hg);rw[he,run_len_slice hu]
  ·exact h.elim
 ·exact h.elim
theorem qI2 {mx:Bool}{xs:List SV}:∀ {x:SV}{K:SV->Prop},qKK mx x xs K->
  ∃ sv,K sv/\∀ r β vx (vs:List Value),Rel r β x vx->qA5 r β xs vs->∃ v,Rel r β sv v/\∀ (P:Program) w,(vs.foldlM (if mx then Builtin.max2 else Builtin.min2) vx).run P w=.ok v w:=by
 induction xs with
 | nil=>
  intro x K h;cases x<;>simp only[qKK] at h<;>(refine⟨_,h,fun r β vx vs hx hl=>?_⟩;obtain⟨h1,_⟩:=hl;obtain rfl:vs=[]:=List.length_eq_zero_iff.1 (by simpa using h1);exact⟨_,hx,fun P w=>rfl⟩)
 | cons y ys ih=>
  intro x K h;cases x<;>cases y<;>simp only[qKK] at h;rename_i k a k' b;obtain⟨sv,hk,hr⟩:=ih h;refine⟨sv,hk,fun r β vx vs hx hl=>?_⟩
  cases hx;obtain⟨h1,h2⟩:=hl;cases vs with
  | nil=>simp at h1
  | cons v vs=>
   have hv:=h2 0 _ v rfl rfl;cases hv;obtain⟨u,hu,hw⟩:=hr r β (.int k (bif mx then max a b else min a b)) vs .int ⟨by simpa using h1,fun i sv v q1 q2=>h2 (i+1) sv v (by simpa using q1) (by simpa using q2)⟩
   refine⟨u,hu,fun P w=>?_⟩
   have hm:((if mx=true then Builtin.max2 else Builtin.min2) (.int k a) (.int k' b)).run P w=.ok (.int k (bif mx then max a b else min a b)) w:=by
    cases mx
    ·simp only[Builtin.min2,cond_false,yAF,if_false,Sem.run_pure];congr 2;omega
    ·simp only[Builtin.max2,cond_true,if_true,Sem.run_pure];congr 2;omega
   simp only[List.foldlM_cons,Sem.run_bind,hm,Result.andThen_ok];exact hw P w
theorem qHH {P:Program}{Φ:Phi}{b ts xs ung}{K:SV->Prop}(h:qNJ P Φ b ts xs ung K) (hp:ung=true->∃ r β vs w,qA5 r β xs vs/\MemSat r β Φ w):
  ∃ sv,K sv/\∀ r β vs,qA5 r β xs vs->∃ v,Rel r β sv v/\∀ w ty cs,MemSat r β Φ w->(Go.builtin b ts.toArray ty cs vs.toArray).run P w=.ok (.value v) w:=by
 have single:∀ {x:SV}{r β vs},qA5 r β [x] vs->∃ v,vs=[v]/\Rel r β x v:=by
  intro x r β vs ⟨h1,h2⟩
  match vs,h1 with
  | [v],_=>exact⟨v,rfl,h2 0 x v rfl rfl⟩
 have head:∀ {x:SV}{l r β vs},qA5 r β (x::l) vs->∃ v us,vs=v::us/\Rel r β x v/\qA5 r β l us:=by
  intro x l r β vs ⟨h1,h2⟩
  match vs,h1 with
  | v::us,h1=>exact⟨v,us,rfl,h2 0 x v rfl rfl,by simpa using h1,fun i sv v q1 q2=>h2 (i+1) sv v (by simpa using q1) (by simpa using q2)⟩
 unfold qNJ at h;split at h
 ·rename_i t ts x;obtain⟨sv,hk,hr⟩:=qXR h (fun hq=>by
   obtain⟨r, β,vs,w,h1,h2⟩:=hp hq;obtain⟨v,rfl,hv⟩:=single h1;exact⟨r, β,v,w,hv,h2⟩)
  refine⟨sv,hk,fun r β vs hl=>?_⟩
  obtain⟨v,rfl,hv⟩:=single hl;obtain⟨u,hu,hw⟩:=hr r β v hv;refine⟨u,hu,fun w ty cs m=>?_⟩
  have:=hw w ty m;have he:∀ tt,Builtin.len_ tt ty [v].toArray=Builtin.len_ tt ty #[v]:=fun _=>rfl
  have hl:Builtin.len_ (t::ts).toArray ty #[v]=Builtin.len_ #[t] ty #[v]:=by simp[Builtin.len_]
  show Sem.run P (do pure (Next.value (<-Builtin.len_ (t::ts).toArray ty [v].toArray))) w=_
  rw[he,hl,Sem.run_bind,this];rfl
 ·rename_i x l;obtain⟨sv,hk,hr⟩:=qI2 h;refine⟨sv,hk,fun r β vs hl=>?_⟩
  obtain⟨v,us,rfl,hv,hus⟩:=head hl;obtain⟨u,hu,hw⟩:=hr r β v us hv hus;refine⟨u,hu,fun w ty cs m=>?_⟩
  show Sem.run P (do pure (Next.value (←Builtin.min_ _ ty (v::us).toArray))) w=_
  rw[Sem.run_bind,show Builtin.min_ ts.toArray ty (v::us).toArray=us.foldlM Builtin.min2 v by simp[Builtin.min_]]
  have:=hw P w;simp only[yAF,if_false] at this;rw[this];rfl
 ·rename_i x l;obtain⟨sv,hk,hr⟩:=qI2 h;refine⟨sv,hk,fun r β vs hl=>?_⟩
  obtain⟨v,us,rfl,hv,hus⟩:=head hl;obtain⟨u,hu,hw⟩:=hr r β v us hv hus;refine⟨u,hu,fun w ty cs m=>?_⟩
  show Sem.run P (do pure (Next.value (←Builtin.max_ _ ty (v::us).toArray))) w=_
  rw[Sem.run_bind,show Builtin.max_ ts.toArray ty (v::us).toArray=us.foldlM Builtin.max2 v by simp[Builtin.max_]]
  have:=hw P w;simp only[if_true] at this;rw[this];rfl
 ·refine⟨_,h,fun r β vs hl=>?_⟩
  obtain⟨v,us,rfl,hv,hus⟩:=head hl;obtain⟨u,rfl,hu⟩:=single hus;cases hv;cases hu;exact⟨_,.cpx,fun w ty cs m=>rfl⟩
 ·refine⟨_,h,fun r β vs hl=>?_⟩
  obtain⟨v,rfl,hv⟩:=single hl;cases hv;exact⟨_,.flt,fun w ty cs m=>rfl⟩
 ·refine⟨_,h,fun r β vs hl=>?_⟩
  obtain⟨v,rfl,hv⟩:=single hl;cases hv;exact⟨_,.flt,fun w ty cs m=>rfl⟩
 ·exact h.elim
theorem qOQ {l:List SV}:∀ {off n:Nat}{K:List SV->Prop},qgP l off n K->K ((l.drop off).take n)/\off+n<=l.length:=by
 induction l with
 | nil=>
  intro off n K h;cases off<;>cases n<;>simp only[qgP] at h;exact⟨by simpa using h,by simp⟩
 | cons x r ih=>
  intro off n K h;cases off with
  | zero=>
   cases n with
   | zero=>simp only[qgP] at h;exact⟨by simpa using h,by simp⟩
   | succ n=>simp only[qgP] at h;obtain⟨h1,h2⟩:=ih h;exact⟨by simpa using h1,by simp at h2 ⊢;omega⟩
  | succ o=>simp only[qgP] at h;obtain⟨h1,h2⟩:=ih h;exact⟨by simpa using h1,by simp at h2 ⊢;omega⟩
theorem qI6 {P:Program}{t:TypeId}{d:TypeDesc}(h:P.underlying t=some d) (w:World):(isAgg t).run P w=.ok (qPL d) w:=by
 cases d<;>simp[isAgg,run_underlying h,qPL]
theorem qA5.part {r β svs vs}(h:qA5 r β svs vs) (off n:Nat):qA5 r β ((svs.drop off).take n) ((vs.drop off).take n):=by
 obtain⟨h1,h2⟩:=h;refine⟨by simp[h1],fun i sv v q1 q2=>?_⟩
 rw[yAN] at q1 q2;split at q1
 ·rename_i hi;rw[if_pos hi] at q2;rw[yAI] at q1 q2;exact h2 _ _ _ q1 q2
 ·cases q1
theorem qC1 {P:Program}{t:TypeId}{cs:List SV}{off:Nat}{K:SV->Prop}(h:qP9 P t cs off K):
  ∃ sv,K sv/\∀ r β vs,qA5 r β cs vs->∃ v,Rel r β sv v/\(∀ w,(part t vs.toArray off).run P w=.ok v w)/\
   (∀ (w:World) b base,(∀ (j:Nat) u,vs[j]?=some u->w.cell? ⟨b,base+j,none⟩=some u)->(loadVar t ⟨b,base+off,none⟩).run P w=.ok v w):=by
 unfold qP9 at h;split at h
 ·exact h.elim
 ·rename_i d hu;cases ha:qPL d with
  | true=>
   rw[ha] at h;obtain⟨hk,hlen⟩:=qOQ h;refine⟨_,hk,fun r β vs hl=>?_⟩
   have hp:=hl.part off (qAW P t);refine⟨.agg ((vs.drop off).take (qAW P t)).toArray,.agg hp.1 hp.2,fun w=>?_,fun w b base hc=>?_⟩
   ·obtain⟨i,hi⟩:=info_of_underlying hu;simp only[part,Sem.run_bind,qI6 hu,ha,Result.andThen_ok,if_true,run_sizeOf hi,qBG hi,Sem.run_pure,List.extract_toArray];simp[List.extract]
   ·obtain⟨i,hi⟩:=info_of_underlying hu;have hn:((vs.drop off).take (qAW P t)).length=i.size:=by
     rw[qBG hi] at *;have:=hl.1;simp;omega
    have hcells:=run_loadCells_list (P:=P) w ⟨b,base+off,none⟩ ((vs.drop off).take (qAW P t)) (fun j u hj=>by
     rw[yAN] at hj;split at hj
     ·rw[yAI] at hj;have:=hc _ _ hj;have e:(⟨b,base+off,none⟩:Addr).add j=⟨b,base+(off+j),none⟩:=by
       simp only[Addr.add];split
       ·rename_i h0;subst h0;rfl
       ·simp[yAR]
      rw[e];exact this
     ·cases hj)
    rw[hn] at hcells;simp only[loadVar,Sem.run_bind,qI6 hu,ha,Result.andThen_ok,if_true,run_sizeOf hi,hcells,Sem.run_pure]
  | false=>
   rw[ha] at h;simp only[cond_false] at h;split at h
   ·rename_i sv hn;rw[qE5] at hn;refine⟨sv,h,fun r β vs hl=>?_⟩
    obtain⟨h1,h2⟩:=hl;have hlt:off<vs.length:=by
     have:off<cs.length:=by
      rcases Nat.lt_or_ge off cs.length with h|h
      ·exact h
      ·simp[yAK h] at hn
     omega
    have hv:vs[off]?=some vs[off]:=yAJ hlt;refine⟨vs[off],h2 _ _ _ hn hv,fun w=>?_,fun w b base hc=>?_⟩
    ·simp[part,qI6 hu,ha,hlt]
    ·have hc':=hc off _ hv;simp only[loadVar,Sem.run_bind,qI6 hu,ha,Result.andThen_ok,yAF,if_false];rw[run_load,hc']
   ·exact h.elim
end Go.Vc

namespace Go.Vc
set_option autoImplicit false
theorem Rel.agg_inv {r β l v}(h:Rel r β (.agg l) v):∃ cs:List Value,v=.agg cs.toArray/\qA5 r β l cs:=by
 cases h with
 | agg hl h=>exact⟨_,rfl,hl,h⟩
theorem qP4 {P:Program}{t x f}{K:SV->Prop}(h:qVI P t x f K):
  ∃ sv,K sv/\∀ r β vx,Rel r β x vx->∃ v,Rel r β sv v/\∀ w,(Instr.field t vx f).run P w=.ok v w:=by
 unfold qVI at h;split at h
 ·rename_i fs cs hu;split at h
  ·rename_i fd hn;obtain⟨sv,hk,hr⟩:=qC1 h;refine⟨sv,hk,fun r β vx hx=>?_⟩
   obtain⟨vs,rfl,hl⟩:=hx.agg_inv;obtain⟨v,hv,hw,_⟩:=hr r β vs hl;refine⟨v,hv,fun w=>?_⟩
   rw[qE5] at hn;have hn':(⟨fs⟩:Array Field)[f]?=some fd:=by simpa using hn
   simp only[Instr.field,Sem.run_bind,run_underlying hu,Result.andThen_ok,hn',asAgg,Sem.run_pure,hw]
  ·exact h.elim
 ·exact h.elim
theorem qNS {sv:SV}{K:SV->Prop}(h:qh8 sv K):K sv/\sv.okIds (fun _=>false)=true:=by
 unfold qh8 at h;cases ho:sv.okIds (fun _=>false) with
 | true=>rw[ho] at h;exact⟨h,rfl⟩
 | false=>rw[ho] at h;exact h.elim
theorem Rel.pure {r β sv v}(h:Rel r β sv v) (ho:sv.okIds (fun _=>false)=true) (β':qBD):Rel r β' sv v:=
 h.bind (p:=fun _=>false) (by intro _ h;cases h) ho
theorem cell_of_block {w:World}{b:Nat}{c:Array Value}{T fr}(h:w.heap[b]?=some (.cells c T fr)) (off:Nat):w.cell? ⟨b,off,none⟩=c[off]?:=by
 simp[World.cell?,h]
theorem qMI {α:Type}{r:Mem}{sz:Nat}{enc:α->List SV}{d:α}{l:List α}{i:Nat}(hi:i<l.length) {c:Array Value}{off:Nat}
  (hrow:∀ (i:Nat) (row:List SV),(l.map enc)[i]?=some row->row.length=sz)
  (hc:off+l.length*sz<=c.size)
  (hr:∀ (i:Nat) (row:List SV) (j:Nat) (sv:SV) (v:Value),(l.map enc)[i]?=some row->row[j]?=some sv->c[off+i*sz+j]?=some v->Rel r β0 sv v):
  ∃ vs:List Value,qA5 r β0 (enc (l.getD i d)) vs/\∀ (j:Nat) u,vs[j]?=some u->c[off+i*sz+j]?=some u:=by
 have hg:l.getD i d=l[i]:=by simp[List.getD,yAJ hi]
 have hm:(l.map enc)[i]?=some (enc (l.getD i d)):=by simp[yAJ hi]
 have hlen:=hrow _ _ hm;have hb:∀ j,j<sz->off+i*sz+j<c.size:=by
  intro j hj;have:(i+1)*sz<=l.length*sz:=yAZ sz hi;rw[yAS] at this;omega
 refine⟨(List.range sz).map fun j=>c.getD (off+i*sz+j) undef,⟨by rw[hlen];simp,fun j sv v q1 q2=>?_⟩,fun j u q=>?_⟩
 ·simp only[List.getElem?_map] at q2;by_cases hj:j<sz
  ·simp only[yAL hj,yA5,Option.some.injEq] at q2;refine hr _ _ _ _ _ hm q1 ?_;rw[<-q2,yAA,yAB (hb j hj)];rfl
  ·rw[yAK (by simpa using yAU hj)] at q2
   cases q2
 ·simp only[List.getElem?_map] at q;by_cases hj:j<sz
  ·simp only[yAL hj,yA5,Option.some.injEq] at q;rw[<-q,yAA,yAB (hb j hj)];rfl
  ·rw[yAK (by simpa using yAU hj)] at q
   cases q
theorem qaJ {r β sz rows b off n cap}(h:Rel r β (.lits sz rows) (.slice (some ⟨b,off,none⟩) n cap)) (hn:0<rows.length):
  ∃ c T fr,r b=some (.cells c T fr)/\n=rows.length/\off+rows.length*sz<=c.size/\(∀ (i:Nat) (row:List SV),rows[i]?=some row->row.length=sz)/\
   (∀ (i:Nat) (row:List SV) (j:Nat) (sv:SV) (v:Value),rows[i]?=some row->row[j]?=some sv->c[off+i*sz+j]?=some v->Rel r β0 sv v):=by
 cases h with
 | litsE=>simp at hn
 | lits hb h1 hcap hrow ho hc hr=>
  rename_i c T fr;exact⟨c,T,fr,hb,rfl,hc,hrow,hr⟩
theorem qAS {a b:Nat}(h:a≠b):Nat.beq a b=false:=by
 cases hb:Nat.beq a b with
 | true=>exact(h (qAM hb)).elim
 | false=>rfl
structure Near (r:Mem) (β:qBD) (Φ:Phi) (w0 w:World):Prop where
 mem:MemSat r β Φ w
 same:∀ id ch b, Φ.get id=some ch->ch.hb (β id) b->w.heap[b]?=w0.heap[b]?
 hid:Hid r β Φ w0 r β Φ w
theorem qJM (b off n:Nat):(⟨b,off,none⟩:Addr).add n=⟨b,off+n,none⟩:=by
 simp only[Addr.add];split
 ·rename_i h;subst h;rfl
 ·rfl
theorem qO7 {r:Mem}{β:qBD}{cells:List SV}{c:Array Value}(hl:c.size=cells.length) (h:∀ (i:Nat) (sv:SV) (v:Value),cells[i]?=some sv->c[i]?=some v->Rel r β sv v):qA5 r β cells c.toList:=
 ⟨by simpa using hl,fun i sv v q1 q2=>h i sv v q1 (by simpa using q2)⟩
theorem qFI {P:Program}{t:TypeId}{a:Addr}{w:World}{v:Value}(h:(loadVar t a).run P w=.ok v w):(Instr.loadAt t (.pointer (some a))).run P w=.ok v w:=by
 simp only[Instr.loadAt,Sem.run_bind,Instr.sureAddr,Sem.run_pure,Result.andThen_ok,h]
theorem qFY (τ:Ty):∀ (a:τ.T) (j:Nat) (sv:SV),(τ.enc a)[j]?=some sv->sv.okIds (fun _=>false)=true:=by
 induction τ with
 | pr a b iha ihb=>
  intro x j sv h;simp only[Ty.enc,List.getElem?_append] at h;split at h
  ·exact iha _ _ _ h
  ·exact ihb _ _ _ h
 | _=>
  intro x j sv h;cases j with
  | zero=>simp[Ty.enc] at h;subst h;rfl
  | succ j=>simp[Ty.enc] at h
theorem qk9 {r β w id τ p}{l:List (Ty.T τ)}{i b off0 n cap:Nat}(h:(Chunk.nst τ p l none).Sat r β w (β id)) (hβ:hd (β id)=.slice (some ⟨b,off0,none⟩) n cap) (hi:i<l.length):
  ∃ c T fr vs,(Chunk.nst τ p l none).hb (β id) b/\w.heap[b]?=some (.cells c T fr)/\qA5 r β (qIP (τ.enc (l.getD i τ.dflt)) p (.nk id i)) vs/\∀ (j:Nat) u,vs[j]?=some u->c[off0+i*τ.size+j]?=some u:=by
 cases h with
 | nst hx hl gl hm hg ho hk h0 h1=>
  rename_i m hs gs;rw[hx,qEQ] at hβ;subst hβ;have hlen:=qCT (τ:=τ) (p:=p) gl;rcases hm with⟨a,he,hr⟩|⟨b',off',cap',c,T,fr,he,hc0,hw,_,hcap,hcl,hsz,hrow,hone,hrel⟩
  ·rw[hr] at hlen;simp at hlen;omega
  ·simp only[Value.slice.injEq,Option.some.injEq,Addr.mk.injEq] at he;obtain⟨⟨rfl,rfl,_⟩,_,rfl⟩:=he;have hb2:off0+(qCS τ p l gs).length*τ.size<=c.size:=by
    have:=yAZ τ.size hcl;omega
   obtain⟨vs,hvs,hcell⟩:=qMI (α:=List SV) (enc:=fun x=>x) (d:=[]) (l:=qCS τ p l gs) (i:=i) (by rw[hlen];exact hi) (by simpa using hrow) hb2 (by simpa using hrel)
   have hgi:gs[i]?=some gs[i]:=yAJ (by omega)
   have hli:l[i]?=some l[i]:=yAJ hi;have hra:=qJJ (p:=p) i _ _ hli hgi;have hd1:(qCS τ p l gs).getD i []=qH1 τ p l[i] gs[i]:=by simp[List.getD,hra]
   have hd2:l.getD i τ.dflt=l[i]:=by simp[List.getD,hli]
   rw[hd1] at hvs;refine⟨c,T,fr,vs,?_,hw,?_,hcell⟩
   ·rw[hx];exact⟨_,_,rfl,.inl (by simp only[qA1,qAS hc0];rfl)⟩
   ·rw[hd2,qGS];unfold qH1 at hvs;refine⟨by simpa using hvs.1,fun j sv v q1 q2=>?_⟩
    rw[yAM] at q1;have q3:=hvs.2 j;simp only[yAM] at q3;by_cases hj:p=j
    ·subst hj;rw[if_pos rfl] at q1 q3;split at q1
     ·rename_i hlt;rw[if_pos hlt] at q3;cases q1;have:=q3 _ v rfl q2;cases this;refine .nk (m:=.slice (some ⟨b,off0,none⟩) _ cap) (hs:=hs) hx ?_ (ho _ (List.getElem_mem _));rw[<-hg i (by simp),hgi]
     ·cases q1
    ·rw[if_neg hj] at q1 q3;exact(q3 sv v q1 q2).pure (qFY τ _ _ _ q1) β
theorem qIN {τ:Ty}{l:List τ.T}{i p:Nat}{g:Value}:(qCC τ l i p g).length=l.length:=by unfold qCC;simp
theorem qKT {τ:Ty}{l:List τ.T}{i p:Nat}{g:Value}(hi:i<l.length):(qCC τ l i p g)[i]?=some (qH1 τ p (l.getD i τ.dflt) g):=by unfold qCC;simp[hi]
theorem qlX {r β w id τ i p e g}{l:List (Ty.T τ)}{b off0 n cap:Nat}(h:(Chunk.foc τ l i p e g).Sat r β w (β id)) (hβ:hd (β id)=.slice (some ⟨b,off0,none⟩) n cap) (hge:g=hd (β e)):
  ∃ c T fr vs,(Chunk.foc τ l i p e g).hb (β id) b/\w.heap[b]?=some (.cells c T fr)/\qA5 r β (qIP (τ.enc (l.getD i τ.dflt)) p (.own e)) vs/\∀ (j:Nat) u,vs[j]?=some u->c[off0+i*τ.size+j]?=some u:=by
 cases h with
 | foc hi hp hg1 hm=>
  rw[hm.hd] at hβ;have hlen:=qIN (τ:=τ) (l:=l) (i:=i) (p:=p) (g:=g);rcases hm with⟨a,he,hr⟩|⟨b',off',cap',c,T,fr,he,hc0,hw,_,hcap,hcl,hsz,hrow,hone,hrel⟩
  ·rw[hr] at hlen;simp at hlen;omega
  ·rw [hβ] at he;simp only[Value.slice.injEq,Option.some.injEq,Addr.mk.injEq] at he;obtain⟨⟨rfl,rfl,_⟩,_,rfl⟩:=he;have hb2:off0+(qCC τ l i p g).length*τ.size<=c.size:=by
    have:=yAZ τ.size hcl;omega
   obtain⟨vs,hvs,hcell⟩:=qMI (α:=List SV) (enc:=fun x=>x) (d:=[]) (l:=qCC τ l i p g) (i:=i) (by rw[hlen];exact hi) (by simpa using hrow) hb2 (by simpa using hrel)
   have hra:=qKT (p:=p) (g:=g) hi;have hd1:(qCC τ l i p g).getD i []=qH1 τ p (l.getD i τ.dflt) g:=by rw[List.getD_eq_getElem?_getD,hra];rfl
   rw[hd1] at hvs;refine⟨c,T,fr,vs,?_,hw,?_,hcell⟩
   ·rw[hβ];simp only[Chunk.hb,Chunk.blk,qAS hc0];rfl
   ·rw[qGS];unfold qH1 at hvs;refine⟨by simpa using hvs.1,fun j sv v q1 q2=>?_⟩
    rw[yAM] at q1;have q3:=hvs.2 j;simp only[yAM] at q3;by_cases hj:p=j
    ·subst hj;rw[if_pos rfl] at q1 q3;split at q1
     ·rename_i hlt;rw[if_pos hlt] at q3;cases q1;have:=q3 _ v rfl q2;cases this;subst hge;exact .own hg1
     ·cases q1
    ·rw[if_neg hj] at q1 q3;exact(q3 sv v q1 q2).pure (qFY τ _ _ _ q1) β
theorem qG5 {P:Program}{Φ:Phi}{t x g}{K:SV->Prop}(h:qZM P Φ t x g K):
  ∃ sv,K sv/\((∀ p,g p->p)->∀ r β vx,Rel r β x vx->∀ w0,MemSat r β Φ w0->∃ v,Rel r β sv v/\∀ w,Near r β Φ w0 w->(Instr.loadAt t vx).run P w=.ok v w):=by
 unfold qZM at h;split at h
 ·rename_i id off;split at h
  ·rename_i cs hg;obtain⟨sv,hk,hr⟩:=qC1 h;refine⟨sv,hk,fun hv r β vx hx w0 m=>?_⟩
   cases hx with
   | loc hβ=>
    rename_i b;have hs:=m.rows hg;cases hs with
    | box hxb hw hl hc hT=>
     rename_i b' c T;rw[hβ] at hxb;obtain rfl:b=b':=by simpa using hxb
     obtain⟨v,hrel,_,hload⟩:=hr r β c.toList (qO7 hl hc);refine⟨v,hrel,fun w hn=>qFI ?_⟩
     have hw':w.heap[b]?=some (.cells c T (0,0)):=by rw[hn.same id _ b hg (by rw[hβ];rfl)];exact hw
     have:=hload w b 0 (fun j u hj=>by rw[cell_of_block hw'];simpa using hj)
     simpa using this
  ·exact h.elim
 ·rename_i τ l i off;obtain⟨sv,hk,hr⟩:=qC1 h;obtain⟨hk,ho⟩:=qNS hk;refine⟨sv,hk,fun hv r β vx hx w0 m=>?_⟩
  cases hx with
  | el hx hi=>
   rename_i b off0 n cap;obtain⟨c,T,fr,hb,_,hc,hrow,hrr⟩:=qaJ hx (by simpa using Nat.lt_of_le_of_lt (Nat.zero_le _) hi)
   obtain⟨vs,hvs,hcell⟩:=qMI (d:=τ.dflt) hi hrow (by simpa using hc) hrr
   obtain⟨v,hrel,_,hload⟩:=hr r β0 vs hvs;refine⟨v,hrel.pure ho β,fun w hn=>qFI ?_⟩
   exact hload w b (off0+i*τ.size) (fun j u hj=>by rw[cell_of_block (hn.mem.vis _ _ hb)];exact hcell _ _ hj)
 ·rename_i id sz0 i off;split at h
  ·rename_i τ l hg;cases hz0:Nat.beq sz0 τ.size with
   | false=>rw[hz0] at h;exact h.elim
   | true=>
   rw[hz0] at h;obtain rfl:=qAM hz0;obtain⟨sv,hk,hr⟩:=qC1 h.2;obtain⟨hk,ho⟩:=qNS hk;refine⟨sv,hk,fun hv r β vx hx w0 m=>?_⟩
   have hi:=(hv _ h.1).h;cases hx with
   | oel hβ=>
    rename_i b off0 n cap;have hs:=m.rowsR hg;cases hs with
    | own hs=>
     rcases hs with⟨a,_,he⟩|⟨b',off',cap',c,T,fr,he,hcap0,hw,_,_,hcap,hsz,hrow,_,hrr⟩
     ·simp at he;subst he;simp at hi
     ·rw[he,qB9] at hβ;simp only[Value.slice.injEq,Option.some.injEq,Addr.mk.injEq] at hβ;obtain⟨⟨rfl,rfl,_⟩,_,_⟩:=hβ;have hb2:off'+l.length*τ.size<=c.size:=by
       have:=yAZ τ.size hcap;simp at this;omega
      obtain⟨vs,hvs,hcell⟩:=qMI (d:=τ.dflt) hi hrow hb2 hrr;obtain⟨v,hrel,_,hload⟩:=hr r β0 vs hvs;refine⟨v,hrel.pure ho β,fun w hn=>qFI ?_⟩
      have hblk:(Chunk.own τ l).hb (β id) b':=by
       rw[he];simp only[Chunk.hb,Chunk.blk];have:Nat.beq cap' 0=false:=qAS hcap0;rw[this];rfl
      obtain⟨ch0,hg0,hb0⟩:=qmN hg;have hw':w.heap[b']?=some (.cells c T fr):=by rw[hn.same id _ b' hg0 (by rw[hb0];exact hblk)];exact hw
      exact hload w b' (off'+i*τ.size) (fun j u hj=>by rw[cell_of_block hw'];exact hcell _ _ hj)
  ·rename_i τ p l hg;have hg:=qVQ hg;cases hz0:Nat.beq sz0 τ.size with
   | false=>rw[hz0] at h;exact h.elim
   | true=>
   rw[hz0] at h;obtain rfl:=qAM hz0;obtain⟨sv,hk,hr⟩:=qC1 h.2;refine⟨sv,hk,fun hv r β vx hx w0 m=>?_⟩
   have hi:=(hv _ h.1).h;cases hx with
   | oel hβ=>
    rename_i b off0 n cap;have hs:=m.rows hg;obtain⟨c,T,fr,vs,hb,hw,hvs,hcell⟩:=qk9 hs hβ hi;obtain⟨v,hrel,_,hload⟩:=hr r β vs hvs;refine⟨v,hrel,fun w hn=>qFI ?_⟩
    have hw':w.heap[b]?=some (.cells c T fr):=by rw[hn.same id _ b hg hb];exact hw
    exact hload w b (off0+i*τ.size) (fun j u hj=>by rw[cell_of_block hw'];exact hcell _ _ hj)
  ·rename_i τ l i0 p e g0 hg;have hg:=qkJ hg;cases hz0:Nat.beq sz0 τ.size with
   | false=>rw[hz0] at h;exact h.elim
   | true=>
   rw[hz0] at h;obtain rfl:=qAM hz0;obtain⟨h0,h⟩:=h;split at h
   ·rename_i τ1 l1 g1 hge;obtain⟨sv,hk,hr⟩:=qC1 h.2;refine⟨sv,hk,fun hv r β vx hx w0 m=>?_⟩
    obtain rfl:=(hv _ h0).h;have hgg:=hv _ h.1;cases hx with
    | oel hβ=>
     rename_i b off0 n cap;have hs:=m.rows hg;have hs1:=m.rows hge;have hgb:g0=hd (β e):=by
      cases hs1 with
      | owg hx1 h1=>rw[h1.hd,hx1,hgg]
     obtain⟨c,T,fr,vs,hb,hw,hvs,hcell⟩:=qlX hs hβ hgb;obtain⟨v,hrel,_,hload⟩:=hr r β vs hvs;refine⟨v,hrel,fun w hn=>qFI ?_⟩
     have hw':w.heap[b]?=some (.cells c T fr):=by rw[hn.same id _ b hg hb];exact hw
     exact hload w b (off0+i*τ.size) (fun j u hj=>by rw[cell_of_block hw'];exact hcell _ _ hj)
   ·exact h.elim
  ·exact h.elim
 ·exact h.elim
theorem qKJ {P:Program}{t x f}{K:SV->Prop}(h:qIL P t x f K):
  ∃ sv,K sv/\∀ r β vx,Rel r β x vx->∃ v,Rel r β sv v/\∀ w,(Instr.fieldAt t vx f).run P w=.ok v w:=by
 unfold qIL at h;split at h
 ·rename_i fs hu;split at h
  ·rename_i fd hn;rw[qE5] at hn;have hn':(⟨fs⟩:Array Field)[f]?=some fd:=by simpa using hn
   cases hz:Nat.beq (qAW P fd.type) 0 with
   | true=>rw[hz] at h;exact h.elim
   | false=>
    rw[hz] at h;have hz':qAW P fd.type≠0:=by
     intro h0;rw[h0] at hz;cases hz
    obtain⟨i,hi⟩:∃ i,P.info? fd.type=some i:=by
     unfold qAW at hz';cases hq:P.info? fd.type with
     | none=>rw[hq] at hz';exact(hz' rfl).elim
     | some i=>exact⟨i,rfl⟩
    rw[qBG hi] at hz';have run:∀ b off w,(Instr.fieldAt t (.pointer (some ⟨b,off,none⟩)) f).run P w=.ok (.pointer (some ⟨b,off+fd.offset,none⟩)) w:=by
     intro b off w;simp only[Instr.fieldAt,Sem.run_bind,run_underlying hu,Result.andThen_ok,hn',Instr.sureAddr,Sem.run_pure,fieldPlace,run_sizeOf hi,if_neg hz',qJM]
    simp only[cond_false] at h;split at h
    ·rw[qWY] at h;refine⟨_,h,fun r β vx hx=>?_⟩
     cases hx with
     | loc hβ=>exact⟨_,.loc hβ,run _ _⟩
    ·rw[qWY] at h;refine⟨_,h,fun r β vx hx=>?_⟩
     cases hx with
     | el hx hi=>
      refine⟨_,.el hx hi,fun w=>?_⟩
      rw[run];simp only[yAR];rfl
    ·rw[qWY] at h;refine⟨_,h,fun r β vx hx=>?_⟩
     cases hx with
     | oel hβ=>
      refine⟨_,.oel hβ,fun w=>?_⟩
      rw[run];simp only[yAR];rfl
    ·exact h.elim
  ·exact h.elim
 ·exact h.elim
theorem qfH {r β sz rows v}(h:Rel r β (.lits sz rows) v) (hn:0<rows.length):∃ b off cap,v=.slice (some ⟨b,off,none⟩) rows.length cap:=by
 cases h with
 | litsE=>simp at hn
 | lits=>exact⟨_,_,_,rfl⟩
theorem qFM {P:Program}{Φ:Phi}{t x i g}{K:SV->Prop}(h:qIH P Φ t x i g K):
    ∃ sv,K sv/\((∀ p,g p->p)->∀ r β vx vi,Rel r β x vx->Rel r β i vi->∀ w0,MemSat r β Φ w0->∃ v,Rel r β sv v/\∀ w,(Instr.indexAt t vx vi).run P w=.ok v w):=by
  have run:∀ {e:TypeId}(hu:P.underlying t=some (.slice e)) (hi:P.info? e≠none) (k:IntKind) (i:Int) b off (n cap:Nat) (h0:0<=i) (h1:i<n) (w:World),
      (Instr.indexAt t (.slice (some ⟨b,off,none⟩) n cap) (.int k i)).run P w=.ok (.pointer (some ⟨b,off+i.toNat*qAW P e,none⟩)) w:=by
    intro e hu hi k i b off n cap h0 h1 w;obtain⟨inf,hinf⟩:=yA6.1 hi;simp only[Instr.indexAt,Sem.run_bind,asIntOf,Sem.run_pure,Result.andThen_ok,run_underlying hu,Sem.run_ite,h0,h1,and_self,if_true,run_sizeOf hinf,qBG hinf,qJM]
  unfold qIH at h;split at h
  · rename_i e τ l k i hu
    cases hz:qEZ P e τ.size with
    | false=>rw[hz] at h;exact h.elim
    | true=>
      rw[hz] at h;obtain⟨hts,hi⟩:=qCE hz;refine⟨_,h.2,fun hv r β vx vi hx hi' w0 m=>?_⟩
      have hb:=(hv _ h.1).h;cases hi';cases hx with
      | rd hx=>
        have h1:i<((l.map τ.enc).length:Nat):=by simpa using hb.2
        obtain⟨b,off,cap,rfl⟩:=qfH hx (by omega)
        refine⟨_,.el hx (by omega),fun w=>?_⟩
        rw[run hu hi k i _ _ _ _ hb.1 h1,hts];rfl
  · rename_i e id k i hu
    split at h
    · rename_i τ l hg
      cases hz:qEZ P e τ.size with
      | false=>rw[hz] at h;exact h.elim
      | true=>
        rw[hz] at h;obtain⟨hts,hi⟩:=qCE hz;refine⟨_,h.2,fun hv r β vx vi hx hi' w0 m=>?_⟩
        have hb:=(hv _ h.1).h;cases hi';cases hx;have hs:=m.rowsR hg;cases hs with
        | own hs=>
          rcases hs with⟨a,_,he⟩|⟨b',off',cap',c,T,fr,he,_⟩
          · simp at he;subst he;simp at hb;omega
          · rw[he,qB9]
            have h1:i<((l.map τ.enc).length:Nat):=by simpa using hb.2
            refine⟨_,.oel (by rw[he,qB9]),fun w=>?_⟩
            rw[run hu hi k i _ _ _ _ hb.1 h1,hts];rfl
    · rename_i τ p l pend hg
      have hg:=qVQ hg;cases hz:qEZ P e τ.size with
      | false=>rw[hz] at h;exact h.elim
      | true =>
        rw[hz] at h;obtain⟨hts,hi⟩:=qCE hz;refine⟨_,h.2,fun hv r β vx vi hx hi' w0 m=>?_⟩
        have hb:=(hv _ h.1).h;cases hi';cases hx;obtain⟨a,cap,he,_⟩:=qb4 (m.rows hg);cases a with
        | none=>
          exfalso;have hs:=m.rows hg;cases hs with
          | nst hx hl gl hm _ _ _ _ _=>
            rw[hx,qEQ] at he;subst he;rcases hm with⟨a',he',hr⟩|⟨b',off',cap',c,T,fr,he',_⟩
            · have:=qCT (τ:=τ) (p:=p) gl
              rw[hr] at this;simp at this;omega
            · cases he'
        | some ad=>
          have hs:=m.rows hg;cases hs with
          | nst hx hl gl hm _ _ _ _ _=>
            rw[hx,qEQ] at he;subst he;rcases hm with⟨a',he',hr⟩|⟨b',off',cap',c,T,fr,he',_⟩
            · have:=qCT (τ:=τ) (p:=p) gl
              rw[hr] at this;simp at this;omega
            · simp only[Value.slice.injEq,Option.some.injEq] at he'
              obtain⟨rfl,_,rfl⟩:=he';have h1:i<(l.length:Nat):=hb.2;rw[hx,qEQ];refine⟨_,.oel (by rw[hx,qEQ]),fun w=>?_⟩
              rw[run hu hi k i _ _ _ _ hb.1 h1,hts];rfl
    · exact h.elim
  · exact h.elim
end Go.Vc
