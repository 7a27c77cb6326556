/- A part of the proof: lemmas and walks that the last text of the claim joins; no condition. -/
import Derived.Test.YtjnmepijcndcpaaGreatSlotPartsVC
import Derived.Maps.RangeRun
import Derived.Lib.Builder
import Derived.Lib.UnsafeStr
import Derived.Laws.IdiomStrings
open Array renaming contains_push→yAA,getD_eq_getD_getElem?→yAB,getElem?_eq_getElem→yAC,getElem?_modify→yAD,getElem?_push→yAE,getElem?_setIfInBounds_ne→yAF,getElem?_setIfInBounds_self_of_lt→yAG,getElem?_toList→yAH,length_toList→yAI
open Bool renaming and_eq_true→yAJ,not_eq_false'→yAK,not_eq_true'→yAL,or_eq_false_iff→yAM,or_eq_true→yAN
open List renaming cons_append→yAO,filter_cons→yAP,getElem?_append→yAQ,getElem?_eq_getElem→yAR,getElem?_eraseIdx→yAS,getElem?_replicate→yAT,getElem?_set→yAU,getElem?_take→yAV,getElem_of_mem→yAW,length_eq_zero_iff→yAX,length_eraseIdx→yAY,length_replicate→yAZ,map_append→yA0,map_take→yA1,mem_append→yA2,mem_cons→yA3,mem_filter→yA4,mem_map→yA5,mem_of_getElem?→yA6,mem_or_eq_of_mem_set→yA7,mem_replicate→yA8,nil_append→yA9,pairwise_cons→yBA,pairwise_iff_getElem→yBB,pairwise_map→yBC
open Nat renaming add_assoc→yBD,beq_refl→yBE,eq_of_beq_eq_true→yBF,le_of_ble_eq_true→yBG,le_refl→yBH,mul_le_mul_right→yBI,zero_add→yBJ
open Option renaming map_some→yBK,ne_none_iff_exists'→yBL
set_option linter.unusedVariables false
set_option linter.unusedSimpArgs false
set_option maxHeartbeats 8000000
namespace Go.Vc
set_option autoImplicit false
theorem qUG {P:Program}{r:Mem}{w:World}{sz:Nat}{rows:List (List SV)}{b off cap:Nat}{c:Array Value}{T:TypeId}{fr:Nat×Nat}
  (hw:w.heap[b]?=some (.cells c T fr)) (hc:off+rows.length*sz<=c.size)
  (hrow:∀ (i:Nat) (row:List SV),rows[i]?=some row->row.length=sz)
  (hone:∀ (i:Nat) (row:List SV) (j:Nat) (sv:SV),rows[i]?=some row->row[j]?=some sv->sv.one=true)
  (hrel:∀ (i:Nat) (row:List SV) (j:Nat) (sv:SV) (v:Value),rows[i]?=some row->row[j]?=some sv->c[off+i*sz+j]?=some v->Rel r β0 sv v):
  ∃ news,NewRows r sz rows.length rows news/\∀ w',w'.heap=w.heap->(Builtin.firstCells sz rows.length (.slice (some ⟨b,off,none⟩) rows.length cap)).run P w'=.ok news.toArray w':=by
 have hbnd:∀ j,j<rows.length*sz->off+j<c.size:=by intro j hj;omega
 have get:∀ (j:Nat) (u:Value),((List.range (rows.length*sz)).map fun j=>c.getD (off+j) undef)[j]?=some u->j<rows.length*sz/\c[off+j]?=some u:=by
  intro j u h;have hlt:j<rows.length*sz:=by have:=qAV h;simpa using this
  rw[List.getElem?_map,List.getElem?_range hlt] at h;simp only[yBK,Option.some.injEq] at h;refine⟨hlt,?_⟩;rw[<-h,yAB,yAC (hbnd _ hlt)];rfl
 refine⟨(List.range (rows.length*sz)).map fun j=>c.getD (off+j) undef,⟨rfl,by simp,hrow,fun i row j sv v h1 h2 h3=>?_,hone,fun v hv=>?_⟩,fun w' hw'=>?_⟩
 ·have:=(get _ _ h3).2;rw[<-yBD] at this;exact hrel _ _ _ _ _ h1 h2 this
 ·obtain⟨k,hk,rfl⟩:=yAW hv;obtain⟨hlt,hcv⟩:=get k _ (yAR hk);have hsz:0<sz:=by
   rcases Nat.eq_zero_or_pos sz with h|h
   ·subst h;simp at hlt
   ·exact h
  have hi:k/sz<rows.length:=(Nat.div_lt_iff_lt_mul hsz).2 hlt;have h1:rows[k/sz]?=some rows[k/sz]:=yAR hi;have hrl:=hrow _ _ h1;have hj:k%sz<rows[k/sz].length:=by rw[hrl];exact Nat.mod_lt _ hsz
  have h2:rows[k/sz][k%sz]?=some rows[k/sz][k%sz]:=yAR hj;have e:k/sz*sz+k%sz=k:=by rw[Nat.mul_comm];exact Nat.div_add_mod k sz
  exact(hrel _ _ _ _ _ h1 h2 (by rw[yBD,e];exact hcv)).oneCell (hone _ _ _ _ h1 h2)
 ·have hw'':w'.heap[b]?=some (.cells c T fr):=by rw[hw'];exact hw
  have:=run_loadCells (P:=P) w' ⟨b,off,none⟩ (rows.length*sz) (fun j=>c.getD (off+j) undef) (fun j hj=>by
   rw[qJM,cell_of_block hw''];simp[yAB,hbnd j hj])
  simp only[Builtin.firstCells,this]
theorem qK3 {P:Program}{r:Mem}{w:World}{sz:Nat}(a:Option Addr) (cap:Nat):
  ∃ news,NewRows r sz 0 [] news/\∀ w',w'.heap=w.heap->(Builtin.firstCells sz 0 (.slice a 0 cap)).run P w'=.ok news.toArray w':=by
 refine⟨[],⟨rfl,by simp,fun i row h=>by simp at h,fun i row j sv v h=>by simp at h,fun i row j sv h=>by simp at h,fun v hv=>by cases hv⟩,fun w' _=>?_⟩
 cases a<;>simp[Builtin.firstCells,loadCells,loadCellsFrom]
theorem qJH {P:Program}{r:Mem}{β:qBD}{w:World}{sz:Nat}{rows:List (List SV)}{x:Value}(h:Rel r β (.lits sz rows) x) (hvis:∀ b o,r b=some o->w.heap[b]?=some o):
  ∃ news,NewRows r sz rows.length rows news/\(∀ w',(Builtin.lenOf x).run P w'=.ok rows.length w')/\∀ w',w'.heap=w.heap->(Builtin.firstCells sz rows.length x).run P w'=.ok news.toArray w':=by
 cases h with
 | litsE=>obtain⟨news,h1,h2⟩:=qK3 (P:=P) (r:=r) (w:=w) (sz:=sz) _ _;exact⟨news,h1,fun w'=>rfl,h2⟩
 | lits hb hn hcap hrow ho hc hr=>
  rename_i b off cap c T fr;obtain⟨news,h1,h2⟩:=qUG (P:=P) (cap:=cap) (hvis _ _ hb) hc hrow ho hr;exact⟨news,h1,fun w'=>rfl,h2⟩
theorem qWU {P:Program}{r:Mem}{w:World}{sz:Nat}{rows:List (List SV)}{bt:Bool}{x:Value}(h:qAZ r w x bt sz rows):
  ∃ news,NewRows r sz rows.length rows news/\(∀ w',(Builtin.lenOf x).run P w'=.ok rows.length w')/\∀ w',w'.heap=w.heap->(Builtin.firstCells sz rows.length x).run P w'=.ok news.toArray w':=by
 rcases h with⟨a,rfl,rfl⟩|⟨b,off,cap,c,T,fr,rfl,hc0,hw,hfr,hm1,hcap,hszc,hrow,hone,hrel⟩
 ·obtain⟨news,h1,h2⟩:=qK3 (P:=P) (r:=r) (w:=w) (sz:=sz) a 0;exact⟨news,h1,fun w'=>rfl,h2⟩
 ·have:off+rows.length*sz<=c.size:=by have:=yBI sz hcap;omega
  obtain⟨news,h1,h2⟩:=qUG (P:=P) (cap:=cap) hw this hrow hone hrel;exact⟨news,h1,fun w'=>rfl,h2⟩
theorem qhJ {P:Program}{r:Mem}{w:World}(l:List UInt8):
  ∃ news,NewRows r 1 l.length (l.map (Ty.enc .byte)) news/\(∀ w',(Builtin.lenOf (.string ⟨l.toArray⟩)).run P w'=.ok l.length w')/\∀ w',w'.heap=w.heap->(Builtin.firstCells 1 l.length (.string ⟨l.toArray⟩)).run P w'=.ok news.toArray w':=by
 refine⟨l.map fun b=>.int .u8 b.toNat,⟨by simp,by simp,fun i row h=>?_,fun i row j sv v h1 h2 h3=>?_,fun i row j sv h1 h2=>?_,fun v hv=>?_⟩,fun w'=>by simp[Builtin.lenOf,ByteArray.size],fun w' _=>?_⟩
 ·rw[List.getElem?_map] at h;cases hq:l[i]? with
  | none=>rw[hq] at h;cases h
  | some b=>rw[hq] at h;simp at h;subst h;rfl
 ·rw[List.getElem?_map] at h1;cases hq:l[i]? with
  | none=>rw[hq] at h1;cases h1
  | some b=>
   rw[hq] at h1;simp at h1;subst h1;cases j with
   | zero=>
    simp[Ty.enc] at h2;subst h2;rw[List.getElem?_map] at h3;simp only[Nat.mul_one,Nat.add_zero,hq,yBK,Option.some.injEq] at h3;subst h3;exact .int
   | succ j=>simp[Ty.enc] at h2
 ·rw[List.getElem?_map] at h1;cases hq:l[i]? with
  | none=>rw[hq] at h1;cases h1
  | some b=>
   rw[hq] at h1;simp at h1;subst h1;cases j with
   | zero=>simp[Ty.enc] at h2;subst h2;rfl
   | succ j=>simp[Ty.enc] at h2
 ·obtain⟨b,_,rfl⟩:=yA5.1 hv;rfl
 ·have:(ByteArray.mk l.toArray).extract 0 l.length=ByteArray.mk l.toArray:=by rw[ByteArray.extract_mk];simp
  simp[Builtin.firstCells,this]
theorem NewRows.ent {r sz m rows news}{τ:Ty}{l:List τ.T}(nr:NewRows r sz m rows news) (h:qKF τ rows l) (hs:sz=τ.size):NewRows r sz m (l.map τ.enc) news:=by
 have key:∀ (i:Nat) (row:List SV),(l.map τ.enc)[i]?=some row->∃ row0,rows[i]?=some row0/\qHI row0 row:=by
  intro i row hi;rw[List.getElem?_map] at hi;cases hq:l[i]? with
  | none=>rw[hq] at hi;cases hi
  | some a=>
   rw[hq] at hi;simp at hi;subst hi;have hlt:i<rows.length:=by have:=qAV hq;rw[<-h.1];exact this
   exact⟨rows[i],yAR hlt,h.2 i _ a (yAR hlt) hq⟩
 refine⟨by simp[h.1,nr.len],nr.size,fun i row hi=>?_,fun i row j sv v hi hj hv=>?_,fun i row j sv hi hj=>?_,nr.ones⟩
 ·obtain⟨row0,g1,g2⟩:=key i row hi;rw[g2.1];exact nr.row _ _ g1
 ·obtain⟨row0,g1,g2⟩:=key i row hi;have hjl:j<row0.length:=by have:=qAV hj;rw[<-g2.1];exact this
  exact(g2.2 j _ sv (yAR hjl) hj).1 _ _ _ (nr.rel _ _ _ _ _ g1 (yAR hjl) hv)
 ·obtain⟨row0,g1,g2⟩:=key i row hi;have hjl:j<row0.length:=by have:=qAV hj;rw[<-g2.1];exact this
  exact(g2.2 j _ sv (yAR hjl) hj).2.1 (nr.one _ _ _ _ g1 (yAR hjl))
theorem qKH {P:Program}{Φ:Phi}{e:TypeId}{τ:Ty}{x:SV}{K:List τ.T->Prop}(h:qtA P Φ e τ x K):
  ∃ l,K l/\∃ i,P.info? e=some i/\i.size=τ.size/\∀ r β w xv,Rel r β x xv->MemSat r β Φ w->∃ news,NewRows r i.size l.length (l.map τ.enc) news/\(∀ w',(Builtin.lenOf xv).run P w'=.ok l.length w')/\
   (∀ w',w'.heap=w.heap->(Builtin.firstCells i.size l.length xv).run P w'=.ok news.toArray w'):=by
 unfold qtA at h;cases hz:qEZ P e τ.size with
 | false=>rw[hz] at h;exact h.elim
 | true=>
 rw[hz] at h;obtain⟨i,hi,his⟩:=qJK hz;simp only[cond_true] at h;split at h
 ·rename_i s rows;cases hs:Nat.beq s τ.size with
  | false=>rw[hs] at h;exact h.elim
  | true=>
   rw[hs] at h;obtain⟨l,hk,hl⟩:=qBU (fun _ _ h=>qDV h) h
   refine⟨l,hk,i,hi,his,fun r β w xv hx m=>?_⟩
   have hs':=qAM hs;subst hs';obtain⟨news,h1,h2,h3⟩:=qJH (P:=P) hx m.vis;rw[his];rw[<-hl.1] at h1 h2 h3;exact⟨news,h1.ent hl rfl,h2,h3⟩
 ·rename_i τ' l;obtain⟨rfl,h⟩:=qDU h;refine⟨l,h,i,hi,his,fun r β w xv hx m=>?_⟩
  cases hx with
  | rd hx=>have:=qJH (P:=P) hx m.vis;rw[his];simpa using this
 ·refine⟨[],h,i,hi,his,fun r β w xv hx m=>?_⟩
  cases hx;obtain⟨news,h1,h2⟩:=qK3 (P:=P) (r:=r) (w:=w) (sz:=i.size) none 0;exact⟨news,h1,fun w'=>rfl,h2⟩
 ·rename_i l;obtain⟨rfl,h⟩:=qDU h;refine⟨l,h,i,hi,his,fun r β w xv hx m=>?_⟩
  rw[his];cases hx;exact qhJ l
 ·rename_i id;split at h
  ·rename_i τ' l hg;obtain⟨rfl,h⟩:=qDU h;refine⟨l,h,i,hi,his,fun r β w xv hx m=>?_⟩
   rw[his];cases hx;have hs:=m.rowsR hg;cases hs with
   | own hs=>rw[hs.hd];have:=qWU (P:=P) hs;simpa using this
  ·exact h.elim
 ·exact h.elim
theorem qAZ.oneCell {r w x bt sz rows}(h:qAZ r w x bt sz rows):x.oneCell'=true:=by
 obtain⟨a,cap,rfl,_⟩:=h.slice;rfl
theorem qIA {P:Program}{el:TypeId}{i:TypeInfo}{zv:Value}{w:World}(hi:P.info? el=some i) (h:(zeroValue el).run P w=.ok zv w):i.zero=some zv:=by
 cases hq:i.zero with
 | none=>simp[zeroValue,typeInfo,hi,hq] at h
 | some z0=>simp[zeroValue,typeInfo,hi,hq] at h;rw[h]
theorem qHC {r β id v}(h:Value.oneCell' v=true) (hv:hd v=v:=by rfl):Rel r (setB β id v) (.own id) v:=by
 have hs:=qBI β id v;have q:=Rel.own (r:=r) (β:=setB β id v) (id:=id) (by rw[hs,hv];exact h)
 rwa [hs,hv] at q
theorem qbJ {x:Option SV}{K:List Int->Prop}(h:zC3 x K):∃ ks,K ks/\x=some (.rd (.int .i64) ks):=by
 unfold zC3 at h;split at h
 ·exact⟨_,h,rfl⟩
 ·exact h.elim
def qLU:Value:=.slice none 0 0
theorem qTL {τ:Ty}{p:Nat}:∀ {l l':List τ.T}{gs gs':List Value},gs.length=l.length->qCS τ p l gs++qCS τ p l' gs'=qCS τ p (l++l') (gs++gs')
 | [],l',[],gs',_=>rfl
 | [],_,_::_,_,h=>by cases h
 | _::_,_,[],_,h=>by cases h
 | a::l,l',g::gs,gs',h=>by simp[qCS,qTL (l:=l) (l':=l') (gs:=gs) (gs':=gs') (by simpa using h)]
theorem qKQ {p:Nat}:∀ {rows:List (List SV)},qIY p rows=true->∀ (i:Nat) (row:List SV),rows[i]?=some row->row[p]?=some .nils
 | [],_,i,row,h=>by simp at h
 | r0::rs,hn,i,row,h=>by
  simp only[qIY,yAJ] at hn;cases i with
  | zero=>
   simp at h;subst h;have:=hn.1;rw[qE5] at this;split at this
   ·assumption
   ·cases this
  | succ i=>exact qKQ hn.2 i row (by simpa using h)
theorem qYF {r:Mem}{sz m p:Nat}{τ:Ty}{rows:List (List SV)}{news:List Value}{as:List τ.T}(nr:NewRows r sz m rows news) (he:qKF τ rows as) (hs:sz=τ.size) (hn:qIY p rows=true):
  NewRows r sz m (qCS τ p as (List.replicate as.length qLU)) news:=by
 subst hs;have hl:=qCT (τ:=τ) (p:=p) (l:=as) (gs:=List.replicate as.length qLU) (by simp)
 have key:∀ (i:Nat) (row:List SV),(qCS τ p as (List.replicate as.length qLU))[i]?=some row->∃ row0 a,rows[i]?=some row0/\qHI row0 (τ.enc a)/\row=(τ.enc a).set p (.v qLU):=by
  intro i row hi;obtain⟨a,g,q1,q2,rfl⟩:=qU2 i row hi;have hlt:i<rows.length:=by have:=qB2 q1;rw[<-he.1];exact this
  refine⟨rows[i],a,yAR hlt,he.2 i _ a (yAR hlt) q1,?_⟩;have:g=qLU:=by
   have:=yA6 q2;exact(yA8.1 this).2
  rw[this];rfl
 refine⟨by rw[hl,he.1,nr.len],nr.size,fun i row hi=>?_,fun i row j sv v hi hj hv=>?_,fun i row j sv hi hj=>?_,nr.ones⟩
 ·obtain⟨row0,a,_,_,rfl⟩:=key i row hi;simp[enc_len]
 ·obtain⟨row0,a,g1,g2,rfl⟩:=key i row hi;rw[yAU] at hj;have hrl:=nr.row _ _ g1;split at hj
  ·rename_i hpj;subst hpj;split at hj
   ·cases hj;have:=nr.rel _ _ _ _ _ g1 (qKQ hn _ _ g1) hv;cases this;exact .v
   ·cases hj
  ·have hjl:j<row0.length:=by have:=qB2 hj;rw[enc_len] at this;omega
   exact(g2.2 j _ sv (yAR hjl) hj).1 _ _ _ (nr.rel _ _ _ _ _ g1 (yAR hjl) hv)
 ·obtain⟨row0,a,g1,g2,rfl⟩:=key i row hi;rw[yAU] at hj;split at hj
  ·split at hj
   ·cases hj;rfl
   ·cases hj
  ·exact enc_one _ _ _ _ hj
theorem qdS {p:Nat}{τ:Ty}{rows:List (List SV)}{as:List τ.T}(he:qKF τ rows as) (hn:qIY p rows=true) (ht:qJ9 τ p=true):∀ (i:Nat) (a:τ.T),as[i]?=some a->qGI τ p a []:=by
 intro i a ha;obtain⟨ks,hk⟩:=qfG τ p ht a;have hlt:i<rows.length:=by have:=qB2 ha;rw[<-he.1];exact this
 have hr:rows[i]?=some rows[i]:=yAR hlt;obtain⟨e,h2⟩:=((he.2 i _ a hr ha).2 p .nils _ (qKQ hn i _ hr) hk).2.2.2.2 rfl;cases h2;exact hk
theorem qQZ {r:Mem}{w w':World}{h:Value}{sz:Nat}{rows:List (List SV)}(hh:qAZ r w h false sz rows) (hb:∀ b,qA1 h=some b->w'.heap[b]?=w.heap[b]?):qAZ r w' h false sz rows:=by
 rcases hh with⟨a,e1,e2⟩|⟨b2,o2,c2,cc,T2,f2,e1,e2,e3,e4⟩
 ·exact .inl ⟨a,e1,e2⟩
 ·exact .inr ⟨b2,o2,c2,cc,T2,f2,e1,e2,by rw[hb b2 (by rw[e1];simp only[qA1,qAS e2];rfl)];exact e3,e4⟩
theorem qFH {r:Mem}{w:World}{h:Value}{sz:Nat}{bt:Bool}{rows:List (List SV)}(hh:qAZ r w h bt sz rows) {b:Nat}(hb:qA1 h=some b):b<w.heap.size:=by
 rcases hh with⟨a,e1,e2⟩|⟨b2,o2,c2,cc,T2,f2,e1,e2,e3,e4⟩
 ·rw[e1] at hb;cases a<;>simp[qA1] at hb
 ·rw[e1] at hb;simp only[qA1,qAS e2,cond_false,Option.some.injEq] at hb;subst hb;exact lt_of_heap e3
theorem qQM {α:Type _}{l l':List α}{i:Nat}{x:α}(h:(l++l')[i]?=some x):l[i]?=some x\/(l.length<=i/\l'[i-l.length]?=some x):=by
 rw[yAQ] at h;split at h
 ·exact .inl h
 ·exact .inr ⟨by omega,h⟩
theorem qfI {r β' w w' m m' τ p}{l as:List (Ty.T τ)}{hs gs:List Value}(hl:hs.length=l.length) (gl:gs.length=l.length)
  (hg:∀ i,(none:Option Nat)≠some i->gs[i]?=hs[i]?) (ho:∀ g∈gs,g.oneCell'=true)
  (hk:∀ (i:Nat) (a:τ.T) (h:Value),l[i]?=some a->hs[i]?=some h->∃ ks,qGI τ p a ks/\qAZ r w h false 1 (ks.map (Ty.enc (.int .i64))))
  (h0:∀ (h:Value) (b:Nat),h∈hs->qA1 h=some b->qA1 m≠some b)
  (h1:∀ (i j:Nat) (h h':Value) (b:Nat),hs[i]?=some h->hs[j]?=some h'->qA1 h=some b->qA1 h'=some b->i=j)
  (q1:qAZ r w' m' false τ.size (qCS τ p l gs++qCS τ p as (List.replicate as.length qLU)))
  (q6:∀ b,b<w.heap.size->qA1 m≠some b->w'.heap[b]?=w.heap[b]?) (q7:∀ b,qA1 m'=some b->qA1 m=some b\/w.heap.size<=b)
  (hnil:∀ (i:Nat) (a:τ.T),as[i]?=some a->qGI τ p a []):
  (Chunk.nst τ p (l++as) none).Sat r β' w' (qOJ m' (hs++List.replicate as.length qLU)):=by
 rw[qTL gl] at q1;have old:∀ h∈hs,∃ ks:List Int,qAZ r w h false 1 (ks.map (Ty.enc (.int .i64))):=by
  intro h hm;obtain⟨i,hi,rfl⟩:=yAW hm;obtain⟨ks,_,q⟩:=hk i _ _ (yAR (by omega)) (yAR hi)
  exact⟨ks,q⟩
 refine .nst rfl (by simp[hl]) (by simp[gl]) q1 (fun i _=>?_) (fun g hgm=>?_) (fun i a h p1 p2=>?_) (fun h b hm hb=>?_) (fun i j h h' b p1 p2 hb hb'=>?_)
 ·rw[yAQ,yAQ,hl,gl];split
  ·exact hg i (by simp)
  ·rfl
 ·rcases yA2.1 hgm with h|h
  ·exact ho g h
  ·rw[(yA8.1 h).2];rfl
 ·rcases qQM p1 with q|⟨q,q'⟩<;>rcases qQM p2 with t|⟨t,t'⟩
  ·obtain⟨ks,k1,k2⟩:=hk i a h q t;exact⟨ks,k1,qQZ k2 fun b hb=>q6 b (qFH k2 hb) (h0 h b (yA6 t) hb)⟩
  ·have:=qB2 q;omega
  ·have:=qB2 t;omega
  ·rw[(yA8.1 (yA6 t')).2];exact⟨[],hnil _ _ q',.inl ⟨none,rfl,rfl⟩⟩
 ·rcases yA2.1 hm with h'|h'
  ·obtain⟨ks,k2⟩:=old h h';have:=qFH k2 hb;intro hc;rcases q7 b hc with hc|hc
   ·exact h0 h b h' hb hc
   ·omega
  ·rw[(yA8.1 h').2] at hb;simp[qLU,qA1] at hb
 ·rcases qQM p1 with q|⟨q,q'⟩<;>rcases qQM p2 with t|⟨t,t'⟩
  ·exact h1 i j h h' b q t hb hb'
  ·rw[(yA8.1 (yA6 t')).2] at hb';simp[qLU,qA1] at hb'
  ·rw[(yA8.1 (yA6 q')).2] at hb;simp[qLU,qA1] at hb
  ·rw[(yA8.1 (yA6 q')).2] at hb;simp[qLU,qA1] at hb
theorem ql0 {r β' w w' m h' τ p}{l:List (Ty.T τ)}{hs gs:List Value}{i:Nat}{a:τ.T}{ks':List Int}(hil:i<l.length) (hl:hs.length=l.length) (gl:gs.length=l.length)
    (hm:qAZ r w m false τ.size (qCS τ p l gs))
    (hg:∀ i,(none:Option Nat)≠some i->gs[i]?=hs[i]?) (ho:∀ g∈gs,g.oneCell'=true)
    (hk:∀ (i:Nat) (a:τ.T) (h:Value),l[i]?=some a->hs[i]?=some h->∃ ks,qGI τ p a ks/\qAZ r w h false 1 (ks.map (Ty.enc (.int .i64))))
    (h0:∀ (h:Value) (b:Nat),h∈hs->qA1 h=some b->qA1 m≠some b)
    (h1:∀ (i j:Nat) (h h':Value) (b:Nat),hs[i]?=some h->hs[j]?=some h'->qA1 h=some b->qA1 h'=some b->i=j)
    (hent:qHI ((τ.enc (l.getD i τ.dflt)).set p (.rd (.int .i64) ks')) (τ.enc a)) (hp:p<τ.size)
    (q1:qAZ r w' h' false 1 (ks'.map (Ty.enc (.int .i64))))
    (q6:∀ b,b<w.heap.size->qA1 (hs.getD i qLU)≠some b->w'.heap[b]?=w.heap[b]?) (q7:∀ b,qA1 h'=some b->qA1 (hs.getD i qLU)=some b\/w.heap.size<=b):
    (Chunk.nst τ p (l.set i a) (some i)).Sat r β' w' (qOJ m (hs.set i h')):=by
  have hi:hs[i]?=some hs[i]:=yAR (by omega)
  have hd:hs.getD i qLU=hs[i]:=by simp[List.getD,hi]
  have hli:l[i]?=some l[i]:=yAR hil;have hd2:l.getD i τ.dflt=l[i]:=by simp[List.getD,hli]
  have hgi:gs[i]?=some gs[i]:=yAR (by omega)
  rw[hd2] at hent;rw[hd] at q6 q7;have him:hs[i]∈hs:=yA6 hi;have mv:∀ b,qA1 m=some b->w'.heap[b]?=w.heap[b]?:=fun b hb=>q6 b (qFH hm hb) (fun hc=>h0 _ b him hc hb)
  have hm':=qQZ hm mv;have hset:qCS τ p (l.set i a) gs=(qCS τ p l gs).set i (qH1 τ p a gs[i]):=by
    rw[qNG i a gs[i] gl];congr 1;exact(List.set_getElem_self (by omega)).symm
  have hr0:=qJJ (p:=p) i _ _ hli hgi;refine .nst rfl (by simp[hl]) (by simp[gl]) ?_ (fun j hj=>?_) ho (fun j a' h p1 p2=>?_) (fun h b hm1 hb=>?_) (fun j k h h2 b p1 p2 hb hb'=>?_)
  · rw [hset]
    rcases hm' with⟨a0,e1,e2⟩|⟨b2,o2,c2,cc,T2,f2,e1,e2,e3,e4,e5,e6,e7,e8,e9,e10⟩
    · rw[e2] at hr0;simp at hr0
    · refine .inr ⟨b2,o2,c2,cc,T2,f2,by rw[e1];simp,e2,e3,e4,e5,by simpa using e6,e7,?_,?_,?_⟩
      · intro k row hk'
        rw[yAU] at hk';split at hk'
        · split at hk'
          · cases hk';simp[qH1,enc_len]
          · cases hk'
        · exact e8 k row hk'
      · intro k row j sv hk' hj
        rw[yAU] at hk';split at hk'
        · split at hk'
          · cases hk'
            unfold qH1 at hj;rw[yAU] at hj;split at hj
            · split at hj
              · cases hj;exact ho _ (List.getElem_mem _)
              · cases hj
            · exact enc_one _ _ _ _ hj
          · cases hk'
        · exact e9 k row j sv hk' hj
      · intro k row j sv v hk' hj hv
        rw[yAU] at hk';split at hk'
        · rename_i hik
          subst hik;split at hk'
          · cases hk'
            unfold qH1 at hj;rw[yAU] at hj;split at hj
            · rename_i hpj
              subst hpj;split at hj
              · cases hj
                refine e10 i _ p _ v hr0 ?_ hv;unfold qH1;rw[yAU,if_pos rfl,if_pos (by rw[enc_len];exact hp)]
              · cases hj
            · rename_i hpj
              have hjl:j<(τ.enc l[i]).length:=by have:=qB2 hj;rw[enc_len] at this ⊢;exact this
              have hx:((τ.enc l[i]).set p (.rd (.int .i64) ks'))[j]?=some (τ.enc l[i])[j]:=by rw[yAU,if_neg hpj];exact yAR hjl
              refine(hent.2 j _ sv hx hj).1 _ _ _ (e10 i _ j _ v hr0 ?_ hv);unfold qH1;rw[yAU,if_neg hpj];exact yAR hjl
          · cases hk'
        · exact e10 k row j sv v hk' hj hv
  · have hne:i≠j:=fun he=>hj (by rw[he])
    rw[yAU,if_neg hne];exact hg j (by simp)
  · by_cases hij:i=j
    · subst hij
      rw[yAU,if_pos rfl,if_pos hil] at p1;rw[yAU,if_pos rfl,if_pos (by omega)] at p2
      cases p1;cases p2;refine⟨ks',?_,q1⟩;have hpl:p<(τ.enc a).length:=by rw[enc_len];exact hp
      have:=(hent.2 p (.rd (.int .i64) ks') _ (by rw[yAU,if_pos rfl,if_pos (by rw[enc_len];exact hp)]) (yAR hpl)).2.2.2.1 _ _ rfl
      unfold qGI;rw[yAR hpl,this]
    · rw[yAU,if_neg hij] at p1 p2
      obtain⟨ks2,k1,k2⟩:=hk j a' h p1 p2;exact⟨ks2,k1,qQZ k2 fun b hb=>q6 b (qFH k2 hb) (fun hc=>hij (h1 i j _ _ b hi p2 hc hb))⟩
  · rcases yA7 hm1 with h'|h'
    · exact h0 h b h' hb
    · subst h'
      rcases q7 b hb with hc|hc
      · exact h0 _ b him hc
      · intro hc'
        have:=qFH hm hc';omega
  · have alive:∀ {j:Nat}{h:Value},hs[j]?=some h->qA1 h=some b->b<w.heap.size:=by
      intro j h q hb;have hj:j<l.length:=by have:=qB2 q;omega
      obtain⟨ks2,k1,k2⟩:=hk j l[j] h (yAR hj) q;exact qFH k2 hb
    by_cases hij:i=j<;>by_cases hik:i=k
    · omega
    · subst hij
      rw[yAU,if_pos rfl,if_pos (by omega)] at p1
      rw[yAU,if_neg hik] at p2;cases p1;rcases q7 b hb with hc|hc
      · exact h1 i k _ _ b hi p2 hc hb'
      · have:=alive p2 hb';omega
    · subst hik
      rw[yAU,if_pos rfl,if_pos (by omega)] at p2
      rw[yAU,if_neg hij] at p1;cases p2;rcases q7 b hb' with hc|hc
      · exact h1 j i _ _ b p1 hi hb hc
      · have:=alive p1 hb;omega
    · rw[yAU,if_neg hij] at p1
      rw[yAU,if_neg hik] at p2;exact h1 j k _ _ b p1 p2 hb hb'
theorem qJR {B:Base}{e N r β σ Φ a w n ts tx ty}{s x:SV}{vs vx:Value}{K:EK}(h:qIE B ts tx s x σ Φ n K) (st:Sat B e N r β σ Φ a w) (hs:Rel r β s vs) (hx:Rel r β x vx):
  ∃ sv σ' Φ' n' v w' β',K sv σ' Φ' n'/\(Builtin.append_ #[ts,tx] ty #[vs,vx]).run B.P w=.ok v w'/\Rel r β' sv v/\Sat B e N r β' σ' Φ' a w'/\(∀ D,qDX D σ->qDX D σ'):=by
 unfold qIE at h;split at h
 ·rename_i el dx hts htx;cases hc:(!qIE.isSrcD dx||Nat.beq (qAW B.P el) 0) with
  | true=>rw[hc] at h;exact h.elim
  | false=>
  rw[hc] at h;simp only[yAM,yAK] at hc;obtain⟨hc1,hc2⟩:=hc;have hsrc:dx=.string\/∃ e',dx=.slice e':=by
   cases dx<;>first|(cases hc1;done)|exact .inl rfl|exact .inr ⟨_,rfl⟩
  simp only[cond_false] at h;obtain⟨z,zv,h,hz1,_,hzrun,hzrel⟩:=qCF h;cases hz2:Nat.beq (len z) (qAW B.P el) with
  | false=>rw[hz2] at h;exact h.elim
  | true=>
  rw[hz2] at h;simp only[cond_true] at h;have hzl:=qAM hz2;rw[len_eq] at hzl;have common:∀ {i},B.P.info? el=some i->i.size≠0/\qAA B.P el=i.bytes/\∃ z0,i.zero=some z0/\z0.cells.size=i.size:=by
   intro i hi;rw[qBG hi] at hc2 hzl;refine⟨(by intro h0;rw[h0] at hc2;cases hc2),by simp[qAA,hi],zv,qIA hi (hzrun w),?_⟩
   have:=(hzrel r β).1;simp at this;omega
  split at h
  ·-- to a nil slice
   cases hs;split at h
   ·rename_i τ hty;obtain⟨l,h,i,hi,his,hrows⟩:=qKH h;obtain⟨hsz,hby,z0,hz0,hzc⟩:=common hi;obtain⟨news,nr,hlen,hnews⟩:=hrows r β w vx hx st.mem;obtain⟨hob,h⟩:=h;have hob:=hob.h;rw[hby] at hob;obtain⟨v',w',hr,q1,q2,q3,q4,q5,q6,q7⟩:=qFU (P:=B.P) (ty:=ty) (v:=.slice none 0 0) (rows:=[]) hts htx hsrc hi hz0 hzc hsz (qP0 hty) (.inl ⟨none,rfl,rfl⟩) nr hlen hnews (by simpa using hob.1) (by simpa using hob.2)
    have hg:Grows w w':=⟨q2,q3,q4,q5,fun b hb=>q6 b hb (by simp[qA1])⟩
    have hblk:∀ b,qA1 v'=some b->w.heap.size<=b:=by
     intro b hb;rcases q7 b hb with h|h
     ·simp[qA1] at h
     ·exact h
    simp only[yA9] at q1;rw[his] at q1;obtain⟨sv, σ', Φ',n',hk,rfl, β',hr',hsat⟩:=qBW h st hg (v:=v') (fun b hb=>hblk b (by rw[<-qFQ];exact hb)) (.own q1) (qHC q1.oneCell q1.hd)
    exact⟨sv, σ', Φ',n',v',w', β',hk,hr,hr',hsat,fun D hD=>hD⟩
   ·exact h.elim
  ·rename_i id _;split at h
   ·rename_i τ l hg;cases hokb:okB τ el with
    | false=>rw[hokb] at h;exact h.elim
    | true=>
    rw[hokb] at h;simp only[cond_true] at h;obtain⟨as,h,i,hi,his,hrows⟩:=qKH h;obtain⟨hsz,hby,z0,hz0,hzc⟩:=common hi;obtain⟨news,nr,hlen,hnews⟩:=hrows r β w vx hx st.mem;obtain⟨hob,h⟩:=h;have hob:=hob.h;rw[hby] at hob;obtain⟨σ',h,hσ⟩:=qBX h;obtain⟨Φ1,h,hΦ1⟩:=qBY h;obtain⟨c1,hc1'⟩:=(hΦ1 id).2 _ hg;obtain⟨Φ',hk,hΦ⟩:=qAP h (qA7 hc1');cases hs;have hrs:=st.mem.rows hg;cases hrs with
    | own hrs=>
     rw[hrs.hd];rw[<-his] at hrs;obtain⟨v',w',hr,q1,q2,q3,q4,q5,q6,q7⟩:=qFU (P:=B.P) (ty:=ty) hts htx hsrc hi hz0 hzc hsz (qiE hokb) hrs nr hlen hnews (by simpa using hob.1) (by simpa using hob.2)
     rw[<-yA0,his] at q1;have hsat:=qIX (ch':=.own τ (l++as)) (v':=v') st hg hσ hΦ1 hΦ q2 q3 q4 q5
      (fun b hb hnb=>q6 b hb (by rw[<-qFQ];exact hnb)) (fun b hb=>by
       have hb:(Chunk.own τ (l++as)).blk v'=some b:=hb;show(Chunk.own τ l).blk _=some b\/_;rw[qFQ] at hb ⊢;exact q7 b hb) (.own q1) rfl
     refine⟨_, σ', Φ',n,v',w',_,hk,hr,?_,hsat,fun D hD k s0 w0 sv0 hk0=>?_⟩
     ·exact qHC q1.oneCell q1.hd
     ·obtain⟨sv1,g1,_⟩:=hσ k _ _ hk0;exact hD _ _ _ _ g1
   ·rename_i τ p l hg;split at h
    ·rename_i sz rows _;cases hb:(qEZ B.P el τ.size&&(Nat.beq sz τ.size&&(qIY p rows&&qJ9 τ p))) with
     | false=>rw[hb] at h;exact h.elim
     | true=>
     rw[hb] at h;simp only[yAJ] at hb;obtain⟨hb1,hb2,hb3,hb4⟩:=hb;obtain⟨as,h,hent⟩:=qBU (fun _ _ h=>qDV h) h
     obtain⟨i,hi,his⟩:=qJK hb1;obtain⟨hsz,hby,z0,hz0,hzc⟩:=common hi;rw[qAM hb2] at hx;obtain⟨news,nr0,hlen,hnews⟩:=qJH (P:=B.P) hx st.mem.vis;have nr:=qYF nr0 hent rfl hb3;rw[<-his] at nr hnews;rw[<-hent.1] at nr hlen hnews;obtain⟨hob,h⟩:=h;have hob:=hob.h;rw[hby] at hob;obtain⟨σ',h,hσ⟩:=qBX h;obtain⟨Φ1,h,hΦ1⟩:=qBY h;obtain⟨c1,hc1'⟩:=(hΦ1 id).2 _ hg;obtain⟨Φ',hk,hΦ⟩:=qAP h (qA7 hc1');cases hs;have hrs:=st.mem.rows hg;cases hrs with
     | nst hxx hl gl hm hgg ho hkk h0 h1=>
      rename_i m hs gs;rw[<-his] at hm;have hrl:=qCT (τ:=τ) (p:=p) gl;obtain⟨v',w',hr,q1,q2,q3,q4,q5,q6,q7⟩:=qFU (P:=B.P) (ty:=ty) hts htx hsrc hi hz0 hzc hsz (fun hh=>by cases hh) hm nr hlen hnews (by rw[hrl];simpa using hob.1) (by rw[hrl];simpa using hob.2)
      rw[his] at q1;rw[hxx,qEQ];have hsat:=qIX (ch':=.nst τ p (l++as) none) (v':=qOJ v' (hs++List.replicate as.length qLU)) st hg hσ hΦ1 hΦ q2 q3 q4 q5
       (fun b hb hnb=>q6 b hb (fun hc=>hnb (by rw[hxx];exact⟨_,_,rfl,.inl hc⟩)))
       (fun b hb=>by
        obtain⟨m2,hs2,e,hb⟩:=hb;obtain⟨rfl,rfl⟩:=qHR e;rcases hb with hb|⟨h,hm2,hb⟩
        ·rcases q7 b hb with hc|hc
         ·exact .inl (by rw[hxx];exact⟨_,_,rfl,.inl hc⟩)
         ·exact .inr hc
        ·rcases yA2.1 hm2 with hc|hc
         ·exact .inl (by rw[hxx];exact⟨_,_,rfl,.inr ⟨h,hc,hb⟩⟩)
         ·rw[(yA8.1 hc).2] at hb;simp[qLU,qA1] at hb)
       (qfI hl gl hgg ho hkk h0 h1 q1 q6 q7 (qdS hent hb3 hb4)) rfl
      refine⟨_, σ', Φ',n,v',w',_,hk,hr,?_,hsat,fun D hD k s0 w0 sv0 hk0=>?_⟩
      ·have hself:=qBI β id (qOJ v' (hs++List.replicate as.length qLU));have:=Rel.own (r:=r) (β:=setB β id (qOJ v' (hs++List.replicate as.length qLU))) (id:=id) (by rw[hself,qEQ];exact q1.oneCell)
       rwa [hself,qEQ] at this
      ·obtain⟨sv1,g1,_⟩:=hσ k _ _ hk0;exact hD _ _ _ _ g1
    ·exact h.elim
   ·exact h.elim
  ·rename_i id ir _;split at h
   ·rename_i τ p l hg;obtain⟨ks,h,hkid⟩:=qbJ h;obtain⟨as,h,i,hi,his,hrows⟩:=qKH h;obtain⟨hsz,hby,z0,hz0,hzc⟩:=common hi;obtain⟨news,nr,hlen,hnews⟩:=hrows r β w vx hx st.mem;obtain⟨hob,h⟩:=h;have hob:=hob.h;rw[hby] at hob;obtain⟨a',h,hent⟩:=qBP h;obtain⟨σ',h,hσ⟩:=qBX h;obtain⟨Φ1,h,hΦ1⟩:=qBY h;obtain⟨c1,hc1'⟩:=(hΦ1 id).2 _ hg;obtain⟨Φ',hk,hΦ⟩:=qAP h (qA7 hc1');rw[qGS] at hent;rw[qE5] at hkid;have hp:p<τ.size:=by have:=qB2 hkid;rwa [enc_len] at this
    have hil:=hob.1;have hrs:=st.mem.rows hg;cases hrs with
    | nst hxx hl gl hm hgg ho hkk h0 h1=>
     rename_i m hs2 gs;cases hs with
     | nk q1 q2 q3=>
     rename_i m3 hs3;rw[hxx] at q1;obtain⟨rfl,rfl⟩:=qHR q1;have hli:l[ir]?=some l[ir]:=yAR hil;obtain⟨ks2,k1,k2⟩:=hkk ir _ _ hli q2;have hd2:l.getD ir τ.dflt=l[ir]:=by simp[List.getD,hli]
     unfold qGI at k1;rw[hd2] at hkid;rw[hkid] at k1;simp only[Option.some.injEq,SV.rd.injEq,heq_eq_eq,true_and] at k1;subst k1;have hdv:hs2.getD ir qLU=vs:=by simp[List.getD,q2]
     have hi1:i.size=1:=his;rw[hi1] at nr hnews hsz hzc;obtain⟨v',w',hr,q1,q2',q3',q4,q5,q6,q7⟩:=qFU (P:=B.P) (ty:=ty) (bt:=false) hts htx hsrc hi hz0 (by rw[hi1];exact hzc) (by rw[hi1];exact hsz) (fun hh=>by cases hh) (by rw[hi1];exact k2) (by rw[hi1];exact nr) hlen (by rw[hi1];exact hnews) (by simpa using hob.2.1) (by simpa using hob.2.2)
     rw[hi1, <-yA0] at q1;have hRS:∀ sv sv' v,qL5 (Nat.add id NKB) sv sv'->Rel r β sv v->Rel r (setB β id (qOJ m (hs2.set ir v'))) sv' v:=by
      intro sv sv' v hst hrel;rcases hst with rfl|⟨rfl,hok⟩
      ·exact .und
      ·exact Rel.bindN (fun k hk=>qKY hk) hxx (qBI ..) hrel hok
     have hsat:=qUL (ch':=.nst τ p (l.set ir a') (some ir)) (v':=qOJ m (hs2.set ir v')) st hg hσ hΦ1 hRS hΦ q2' q3' q4 q5
      (fun b hb hnb=>q6 b hb (fun hc=>hnb (by rw[hxx];exact⟨_,_,rfl,.inr ⟨vs,yA6 q2,hc⟩⟩)))
      (fun b hb=>by
       obtain⟨m4,hs4,e,hb⟩:=hb;obtain⟨rfl,rfl⟩:=qHR e;rcases hb with hb|⟨h,hm2,hb⟩
       ·exact .inl (by rw[hxx];exact⟨_,_,rfl,.inl hb⟩)
       ·rcases yA7 hm2 with hc|hc
        ·exact .inl (by rw[hxx];exact⟨_,_,rfl,.inr ⟨h,hc,hb⟩⟩)
        ·subst hc;rcases q7 b hb with hc|hc
         ·exact .inl (by rw[hxx];exact⟨_,_,rfl,.inr ⟨vs,yA6 q2,hc⟩⟩)
         ·exact .inr hc)
      (ql0 hil hl gl hm hgg ho hkk h0 h1 hent hp q1 (by rw[hdv];exact q6) (by rw[hdv];exact q7)) rfl
     refine⟨_, σ', Φ',n,v',w',_,hk,hr,?_,hsat,fun D hD k s0 w0 sv0 hk0=>?_⟩
     ·refine .nk (m:=m) (hs:=hs2.set ir v') (qBI ..) ?_ q1.oneCell;rw[yAU,if_pos rfl,if_pos (by omega)]
     ·obtain⟨sv1,g1,_⟩:=hσ k _ _ hk0;exact hD _ _ _ _ g1
   ·exact h.elim
  ·exact h.elim
 ·exact h.elim
theorem qQS {B:Base}{e N r β σ Φ a w n ts tx ty}{x:SV}{vx:Value}{K:EK}(h:qVW B ts tx x σ Φ n K) (st:Sat B e N r β σ Φ a w) (hx:Rel r β x vx):
    ∃ sv σ' Φ' n' v w' β',K sv σ' Φ' n'/\(Builtin.append_ #[ts,tx] ty #[.slice none 0 0,vx]).run B.P w=.ok v w'/\Rel r β' sv v/\Sat B e N r β' σ' Φ' a w'/\(∀ D,qDX D σ->qDX D σ'):=by
  unfold qVW at h;split at h
  · rename_i el dx hts htx
    cases hc:(!qIE.isSrcD dx||Nat.beq (qAW B.P el) 0) with
    | true=>rw[hc] at h;exact h.elim
    | false=>
    rw[hc] at h;simp only[yAM,yAK] at hc;obtain⟨hc1,hc2⟩:=hc;have hsrc:dx=.string\/∃ e',dx=.slice e':=by
      cases dx<;>first|(cases hc1;done)|exact .inl rfl|exact .inr ⟨_,rfl⟩
    simp only[cond_false] at h;obtain⟨z,zv,h,hz1,_,hzrun,hzrel⟩:=qCF h;cases hz2:Nat.beq (len z) (qAW B.P el) with
    | false=>rw[hz2] at h;exact h.elim
    | true=>
    rw[hz2] at h;simp only[cond_true] at h;have hzl:=qAM hz2;rw[len_eq] at hzl;have common:∀ {i},B.P.info? el=some i->i.size≠0/\qAA B.P el=i.bytes/\∃ z0,i.zero=some z0/\z0.cells.size=i.size:=by
      intro i hi;rw[qBG hi] at hc2 hzl;refine⟨(by intro h0;rw[h0] at hc2;cases hc2),by simp[qAA,hi],zv,qIA hi (hzrun w),?_⟩
      have:=(hzrel r β).1;simp at this;omega
    split at h
    · rename_i p τ sz rows hnp hty _
      cases hb:(qEZ B.P el τ.size&&(Nat.beq sz τ.size&&(qIY p rows&&qJ9 τ p))) with
      | false=>rw[hb] at h;exact h.elim
      | true=>
      rw[hb] at h;simp only[yAJ] at hb;obtain⟨hb1,hb2,hb3,hb4⟩:=hb;obtain⟨as,h,hent⟩:=qBU (fun _ _ h=>qDV h) h
      obtain⟨i,hi,his⟩:=qJK hb1;obtain⟨hsz,hby,z0,hz0,hzc⟩:=common hi;rw[qAM hb2] at hx;obtain⟨news,nr0,hlen,hnews⟩:=qJH (P:=B.P) hx st.mem.vis;have nr:=qYF nr0 hent rfl hb3;rw[<-his] at nr hnews;rw[<-hent.1] at nr hlen hnews;obtain⟨hob,h⟩:=h;have hob:=hob.h;rw[hby] at hob;obtain⟨v',w',hr,q1,q2,q3,q4,q5,q6,q7⟩:=qFU (P:=B.P) (ty:=ty) (bt:=false) (v:=.slice none 0 0) (rows:=[]) hts htx hsrc hi hz0 hzc hsz (fun hh=>by cases hh) (.inl ⟨none,rfl,rfl⟩) nr hlen hnews (by simpa using hob.1) (by simpa using hob.2)
      have hg:Grows w w':=⟨q2,q3,q4,q5,fun b hb=>q6 b hb (by simp[qA1])⟩
      have hblk:∀ b,qA1 v'=some b->w.heap.size<=b:=by
        intro b hb;rcases q7 b hb with h|h
        · simp[qA1] at h
        · exact h
      simp only[yA9] at q1;rw[his] at q1;have hsat:=qfI (β':=setB β n (qOJ v' ([]++List.replicate as.length qLU))) (l:=[]) (hs:=[]) (gs:=[]) (m:=qLU) (w:=w) (p:=p) rfl rfl (fun i _=>rfl) (fun g hg=>by cases hg) (fun i a h q=>by simp at q) (fun h b hh=>by cases hh) (fun i j h h' b q=>by simp at q)
        (by simpa[qCS] using q1) (fun b hb _=>hg.old b hb) (fun b hb=>.inr (hblk b hb)) (qdS hent hb3 hb4)
      simp only[yA9] at hsat;obtain⟨sv, σ', Φ',n',hk,rfl, β',hr',hsat⟩:=qBW h st hg (v:=qOJ v' (List.replicate as.length qLU)) (v0:=v') (fun b hb=>by
          obtain⟨m4,hs4,e,hb⟩:=hb;obtain⟨rfl,rfl⟩:=qHR e;rcases hb with hb|⟨h,hm2,hb⟩
          · exact hblk b hb
          · rw[(yA8.1 hm2).2] at hb;simp[qLU,qA1] at hb) hsat (by
          have hself:=qBI β n (qOJ v' (List.replicate as.length qLU));have:=Rel.own (r:=r) (β:=setB β n (qOJ v' (List.replicate as.length qLU))) (id:=n) (by rw[hself,qEQ];exact q1.oneCell)
          rwa [hself,qEQ] at this)
      exact⟨sv, σ', Φ',n',v',w', β',hk,hr,hr',hsat,fun D hD=>hD⟩
    · exact h.elim
  · exact h.elim
end Go.Vc

namespace Go.Vc
set_option autoImplicit false
theorem qL9 {B:Base}{e N r β σ Φ a w n t}{ln cp:SV}{vl vc:Value}{K:EK}(h:qJ0 B t ln cp σ Φ n K) (st:Sat B e N r β σ Φ a w) (hl:Rel r β ln vl) (hc:Rel r β cp vc):
  ∃ sv Φ' n' v w' β',K sv σ Φ' n'/\(Instr.makeSlice t vl vc).run B.P w=.ok v w'/\Rel r β' sv v/\Sat B e N r β' σ Φ' a w':=by
 unfold qJ0 at h;split at h
 ·rename_i el k1 a0 k2 c0 ht;cases hl;cases hc;cases hz0:Nat.beq (qAW B.P el) 0 with
  | true=>rw[hz0] at h;exact h.elim
  | false=>
  rw[hz0] at h;simp only[cond_false] at h;obtain⟨z,zv,h,hz1,_,hzrun,hzrel⟩:=qCF h;cases hz2:Nat.beq (len z) (qAW B.P el) with
  | false=>rw[hz2] at h;exact h.elim
  | true=>
  rw[hz2] at h;simp only[cond_true] at h;split at h
  ·rename_i τ hty;cases hz3:qEZ B.P el τ.size with
   | false=>rw[hz3] at h;exact h.elim
   | true=>
   rw[hz3] at h;obtain⟨i,hi,his⟩:=qJK hz3;obtain⟨d,h,hent⟩:=qBP h;obtain⟨hob,h⟩:=h;have hob:=hob.h;have hzl:=qAM hz2;rw[len_eq,qBG hi] at hzl;have hby:qAA B.P el=i.bytes:=by simp[qAA,hi]
   rw[hby] at hob;have hzc:zv.cells.size=i.size:=by
    have:=(hzrel r β).1;simp at this;omega
   have hrun:=run_make (P:=B.P) w t el i zv ht hi (qIA hi (hzrun w)) k1 k2 a0 c0 hob.1 hob.2.1 (by have:=hob.2.2.1;rw[Int.mul_comm];omega) (by omega)
   have hrows:qAZ r { w with heap:=w.heap.push (.cells (madeCells zv.cells (c0.toNat*i.size)) el) } (.slice (some ⟨w.heap.size,0,none⟩) a0.toNat c0.toNat) τ.isB τ.size ((List.replicate a0.toNat d).map τ.enc):=by
    by_cases hcz:c0.toNat=0
    ·have:a0.toNat=0:=by omega
     left
     exact⟨_,by rw[hcz,this],by rw[this];rfl⟩
    ·right
     have rowz:∀ (k:Nat) (row:List SV),((List.replicate a0.toNat d).map τ.enc)[k]?=some row->k<a0.toNat/\row=τ.enc d:=by
      intro k row hk;have hlt:=qAV hk;rw[List.length_map,yAZ] at hlt;refine⟨hlt,?_⟩;rw[List.getElem?_map,yAT,if_pos hlt] at hk;simp at hk;rw[<-hk]
     refine⟨w.heap.size,0,c0.toNat,_,el,(0,0),by simp,hcz,qBT,⟨fun h=>⟨qP0 hty h,rfl⟩,.inl rfl⟩,by simp;omega,by simp;omega,by rw[size_madeCells,his];omega,?_,?_,?_⟩
     ·intro k row hk;rw[(rowz k row hk).2,enc_len]
     ·intro k row j sv hk hj;rw[(rowz k row hk).2] at hj;exact enc_one τ d j sv hj
     ·intro k row j sv v hk hj hv;obtain⟨hk1,hk2⟩:=rowz k row hk;subst hk2;have hjl:=qAV hj;rw[enc_len, <-his] at hjl;rw[yBJ, <-his,qJF hzc k j (by omega) hjl] at hv
      have hzj:z[j]?=some z[j]:=yAR (by omega)
      exact(hent.2 j _ sv hzj hj).1 _ _ _ ((hzrel r β0).2 j _ v hzj (by simpa using hv))
   obtain⟨sv, σ', Φ',n',hk,rfl, β',hr',hsat⟩:=qBW h st (Grows.alloc w (.cells (madeCells zv.cells (c0.toNat*i.size)) el)) (v:=.slice (some ⟨w.heap.size,0,none⟩) a0.toNat c0.toNat)
    (fun b hb=>by
     simp only[Chunk.hb,Chunk.blk] at hb;cases hq:Nat.beq c0.toNat 0 with
     | true=>rw[hq] at hb;cases hb
     | false=>rw[hq] at hb;simp at hb;omega) (.own hrows) (qHC rfl)
   exact⟨sv, Φ',n',_,_, β',hk,hrun,hr',hsat⟩
  ·exact h.elim
 ·exact h.elim
theorem qKP {B:Base}{e N r β σ Φ a w n t ln parts}{K:EK}(h:qID B σ t ln parts Φ n K) (st:Sat B e N r β σ Φ a w):
  ∃ sv Φ' n' v w' β',K sv σ Φ' n'/\(Instr.buildSlice t ln (parts.map fun(i,x)=>(i,a.eval x)).toArray).run B.P w=.ok v w'/\Rel r β' sv v/\Sat B e N r β' σ Φ' a w':=by
 unfold qID at h;split at h
 ·rename_i el ht;split at h
  ·rename_i τ hty;cases hz:qEZ B.P el τ.size with
   | false=>rw[hz] at h;exact h.elim
   | true=>
   rw[hz] at h;have hts:=(qCE hz).1;obtain⟨rows,h,h1,h2,h3,h4,h5,h6⟩:=qF5 h;obtain⟨l,h,hl⟩:=qBU (fun _ _ h=>qDV h) h
   obtain⟨us,hus,hrun,hrel⟩:=h6 _ r β a _ (fun _ _=>qLT _) (Sm.plain st.agree)
   have hlen:(l.map τ.enc).length=ln:=by rw[List.length_map,hl.1,h1]
   have hrows:qAZ r { w with heap:=w.heap.push (.cells us el) } (.slice (some ⟨w.heap.size,0,none⟩) ln ln) τ.isB τ.size (l.map τ.enc):=by
    by_cases hz:ln=0
    ·left
     exact⟨_,by rw[hz],yAX.1 (by rw[hlen,hz])⟩
    ·right
     have key:∀ (i:Nat) (row:List SV),(l.map τ.enc)[i]?=some row->∃ row0 a,rows[i]?=some row0/\qHI row0 row/\row=τ.enc a:=by
      intro i row hi;rw[List.getElem?_map] at hi;cases hq:l[i]? with
      | none=>rw[hq] at hi;cases hi
      | some a=>
       rw[hq] at hi;simp at hi;subst hi;have hlt:i<rows.length:=by have:=qAV hq;rw[<-hl.1];exact this
       exact⟨rows[i],a,yAR hlt,hl.2 i _ a (yAR hlt) hq,rfl⟩
     have hle:ln<=ln*qAW B.P el:=Nat.le_mul_of_pos_right ln (by omega)
     refine⟨w.heap.size,0,ln,us,el,(0,0),by rw[hlen],hz,qBT,⟨fun h=>⟨qP0 hty h,rfl⟩,.inl rfl⟩,by omega,by rw[hlen];exact yBH _,by rw[<-hts,hus];omega,?_,?_,?_⟩
     ·intro k row hk;obtain⟨_,a',_,_,rfl⟩:=key k row hk;exact enc_len _ _
     ·intro k row j sv hk hj;obtain⟨_,a',_,_,rfl⟩:=key k row hk;exact enc_one _ _ _ _ hj
     ·intro k row j sv v hk hj hv;obtain⟨row0,a',g1,g2,rfl⟩:=key k row hk;have hjl:j<row0.length:=by have:=qAV hj;rw[<-g2.1];exact this
      exact(g2.2 j _ sv (yAR hjl) hj).1 _ _ _ (hrel k row0 j _ v g1 (yAR hjl) (by rw[hts];rw[yBJ] at hv;exact hv))
   obtain⟨sv, σ', Φ',n',hk,rfl, β',hr',hsat⟩:=qBW h st (Grows.alloc w (.cells us el)) (v:=.slice (some ⟨w.heap.size,0,none⟩) ln ln)
    (fun b hb=>by
     simp only[Chunk.hb,Chunk.blk] at hb;cases hq:Nat.beq ln 0 with
     | true=>rw[hq] at hb;cases hb
     | false=>rw[hq] at hb;simp at hb;omega) (.own hrows) (qHC rfl)
   exact⟨sv, Φ',n',_,_, β',hk,hrun t w ht,hr',hsat⟩
  ·exact h.elim
 ·exact h.elim
noncomputable def qgC (r:Mem) (b:Nat) (o:Obj):Mem:=fun b'=>if b'=b then some o else r b'
theorem qTT (r:Mem) (b:Nat) (o:Obj):qgC r b o b=some o:=by unfold qgC;rw[if_pos rfl]
theorem qQ0 {r:Mem}{b b':Nat}{o:Obj}(h:b'≠b):qgC r b o b'=r b':=by unfold qgC;rw[if_neg h]
theorem qp2 {r β Φ w Φ'}{id b:Nat}{κ:KTy}{τ:Ty}{l:List (KTy.T κ×Ty.T τ)}{o:Obj}(m:MemSat r β Φ w) (hg:Phi.get Φ id=some (.mp κ τ l)) (hβ:β id=.map (some b)) (hw:w.heap[b]?=some o)
  (hΦ:∀ j,Phi.get Φ' j=bif Nat.beq id j then some .mz else Phi.get Φ j):Mem.le r (qgC r b o)/\MemSat (qgC r b o) β Φ' w/\Hid r β Φ w (qgC r b o) β Φ' w:=by
 have hbb:(Chunk.mp κ τ l).hb (β id) b:=by rw[hβ];rfl
 have hrb:=m.sep _ _ _ hg hbb;have hle:Mem.le r (qgC r b o):=fun b' o' h=>by
  by_cases e:b'=b
  ·subst e;rw[hrb] at h;cases h
  ·rw[qQ0 e];exact h
 have at_:∀ j c,Phi.get Φ' j=some c->(j=id/\c=.mz)\/(j≠id/\Phi.get Φ j=some c):=fun j c h=>by
  rw[hΦ j] at h;cases hb:Nat.beq id j with
  | true=>rw[hb] at h;exact .inl ⟨(qAM hb).symm,(Option.some.inj h).symm⟩
  | false=>rw[hb] at h;exact .inr ⟨fun e=>(by subst e;rw[yBE] at hb;cases hb),h⟩
 have nomz:∀ v b',¬Chunk.hb .mz v b':=fun v b' h=>by simp[Chunk.hb,Chunk.blk] at h
 refine⟨hle,⟨fun b' o' h=>?_,fun j c h=>?_,fun j c b' h h2=>?_,fun j j' c c' b' h h' h2 h2'=>?_⟩,rfl,rfl,rfl,yBH _,fun b' hb' h1 h2=>⟨rfl,?_,fun j c h h3=>?_⟩,fun j c h hk=>⟨rfl,?_⟩⟩
 ·by_cases e:b'=b
  ·subst e;rw[qTT] at h;rw[hw];exact h
  ·rw[qQ0 e] at h;exact m.vis _ _ h
 ·rcases at_ j c h with⟨rfl,rfl⟩|⟨hne,h⟩
  ·exact .mz hβ
  ·exact(m.chs _ _ h).keep hle (fun _ _=>rfl) (fun _ _ _ _ _ _ _ q=>q)
 ·rcases at_ j c h with⟨rfl,rfl⟩|⟨hne,h⟩
  ·exact(nomz _ _ h2).elim
  ·have e:b'≠b:=fun e=>by subst e;exact hne (m.nod _ _ _ _ _ h hg h2 hbb)
   rw[qQ0 e];exact m.sep _ _ _ h h2
 ·rcases at_ j c h with⟨rfl,rfl⟩|⟨hne,h⟩
  ·exact(nomz _ _ h2).elim
  ·rcases at_ j' c' h' with⟨rfl,rfl⟩|⟨hne',h'⟩
   ·exact(nomz _ _ h2').elim
   ·exact m.nod _ _ _ _ _ h h' h2 h2'
 ·have e:b'≠b:=fun e=>by subst e;exact h2 _ _ hg hbb
  rw[qQ0 e];exact h1
 ·rcases at_ j c h with⟨rfl,rfl⟩|⟨hne,h⟩
  ·exact nomz _ _ h3
  ·exact h2 _ _ h h3
 ·rw[hΦ j];cases hb:Nat.beq id j with
  | true=>obtain rfl:=qAM hb;rw[hg] at h;cases h;exact⟨_,rfl,rfl⟩
  | false=>exact⟨c,h,rfl⟩
theorem qSI (es:Array MapEntry):qNX es #[]=es.toList:=by unfold qNX;simp
theorem qSP {B:Base}{e N r β σ Φ a w n t}{x:SV}{vx:Value}{K:EK}(h:qeC B.P t x σ Φ n K) (st:Sat B e N r β σ Φ a w) (hx:Rel r β x vx):
  ∃ sv Φ' n' v w' r' β',K sv σ Φ' n'/\(Instr.range t vx).run B.P w=.ok v w'/\Rel r' β' sv v/\Sat B e N r' β' σ Φ' a w':=by
 unfold qeC at h;split at h
 ·rename_i l hu;cases hx;rename_i hlen;obtain⟨sv, σ', Φ',n',hk,rfl, β',hr',hsat⟩:=qBW h st (Grows.alloc w (.stringIter ⟨l.toArray⟩ 0)) (v:=.pointer (some ⟨w.heap.size,0,none⟩))
   (fun b hb=>by simp[Chunk.hb,Chunk.blk] at hb;omega) (.iter rfl qBT hlen) (.loc (qBI _ _ _))
  refine⟨sv, Φ',n',_,_,r, β',hk,?_,hr',hsat⟩;simp only[Instr.range,Sem.run_bind,run_underlying hu,Result.andThen_ok,Sem.run_pure,run_newObj]
 ·rename_i kt el id hu;split at h
  ·rename_i κ τ l hg;obtain⟨Φ1,h,hΦ⟩:=qAP h (qA7 hg);cases hx with
   | mref hβ=>
   rename_i b;have hs:=st.mem.chs _ _ hg;cases hs with
   | mp hxb hw hl hks hvs hb hn=>
   rename_i b' es clock;rw[hβ] at hxb;obtain rfl:b=b':=by simpa using hxb
   obtain⟨hle,m1,hid⟩:=qp2 st.mem hg hβ hw hΦ;have s1:Sat B e N (qgC r b (.map es clock)) β σ Φ1 a w:=st.step (st.agree.of fun k g sv hk=>⟨sv,hk,fun v hr=>hr.mono hle⟩) m1 hle hid
   obtain⟨sv, σ', Φ',n',hk,rfl, β',hr',hsat⟩:=qBW h s1 (Grows.alloc w (.mapIter (some b) clock #[] clock)) (v:=.pointer (some ⟨w.heap.size,0,none⟩))
    (fun b hb=>by simp[Chunk.hb,Chunk.blk] at hb;omega)
    (.mi rfl qBT (qTT _ _ _) (fun x hx=>by obtain⟨i,hi,rfl⟩:=yAW hx;exact hb i _ (by simp)) hn (by rw[qSI];simpa using hl)
     (fun i y x q1 q2=>by
      rw[qSI] at q2;obtain⟨k,v⟩:=y;obtain⟨s0,p1,p2,p3⟩:=hvs i k v x q1 (by simpa using q2)
      exact⟨hks i k v x q1 (by simpa using q2),s0,p1,p2,p3.mono hle⟩) (fun y hy=>by cases hy)) (.loc (qBI _ _ _))
   refine⟨sv, Φ',n',_,_,_, β',hk,?_,hr',hsat⟩;exact run_range_map w t kt el b es clock hu hw
  ·exact h.elim
 ·exact h.elim
theorem qN0 {κ:KTy}{k:κ.T}{K:SV->Prop}(h:qg9 κ k K):∃ ks,K ks/\∀ (r:Mem) (β:qBD),Rel r β ks (κ.val k):=by
 unfold qg9 at h;split at h
 ·exact⟨_,h,fun r β=>.int⟩
 ·exact h.elim
theorem qSF (es:Array MapEntry) (seen:Array Nat):(leftOf es seen).toList=qNX es seen:=by unfold leftOf qNX;simp
theorem qQD {α:Type}:∀ (l:List α) (q:α->Bool) (j:Nat) (e:α),(l.filter q)[j]?=some e->∀ q':α->Bool,(∀ x∈l,q x=true->(q' x=true↔∃ i,i≠j/\(l.filter q)[i]?=some x))->(∀ x∈l,q x=false->q' x=false)->l.Pairwise (· ≠ ·)->l.filter q'=(l.filter q).eraseIdx j:=by
 intro l q j e he q' h1 h2 hp
 induction l generalizing j q' with
 | nil=>simp at he
 | cons x l ih=>
  obtain⟨p1,p2⟩:=yBA.1 hp;have hmem:∀ y∈l,y≠x:=fun y hy h=>p1 y hy h.symm
  cases hq:q x with
  | false=>
   rw[yAP,if_neg (by rw[h2 x List.mem_cons_self hq];decide),yAP,if_neg (by rw[hq];decide)]
   rw[yAP,if_neg (by rw[hq];decide)] at he
   refine ih j he q' (fun y hy hqy=>?_) (fun y hy hqy=>h2 y (List.mem_cons_of_mem _ hy) hqy) p2
   rw[h1 y (List.mem_cons_of_mem _ hy) hqy,yAP,if_neg (by rw[hq];decide)]
  | true=>
   have hf:(x::l).filter q=x::l.filter q:=by rw[yAP,if_pos hq]
   rw[hf] at he ⊢;have hx:=h1 x List.mem_cons_self hq;rw[hf] at hx;have hno:∀ i:Nat,(l.filter q)[i]?≠some x:=fun i h=>hmem x ((yA4.1 (yA6 h)).1) rfl
   cases j with
   | zero=>
    have hq':q' x=false:=by
     cases hb:q' x with
     | false=>rfl
     | true=>
      obtain⟨i,hi,h⟩:=hx.1 hb;cases i with
      | zero=>exact(hi rfl).elim
      | succ i=>exact(hno i (by simpa using h)).elim
    rw[yAP,if_neg (by rw[hq'];decide)]
    show _=l.filter q;refine List.filter_congr fun y hy=>?_
    cases hqy:q y with
    | false=>exact h2 y (List.mem_cons_of_mem _ hy) hqy
    | true=>
     rw[h1 y (List.mem_cons_of_mem _ hy) hqy,hf];obtain⟨i,hi,e2⟩:=yAW (yA4.2 ⟨hy,hqy⟩);exact⟨i+1,by omega,by simp[yAR hi,e2]⟩
   | succ j=>
    have hq':q' x=true:=hx.2 ⟨0,by omega,by simp⟩
    rw[yAP,if_pos hq'];show _=x::(l.filter q).eraseIdx j;congr 1;refine ih j (by simpa using he) q' (fun y hy hqy=>?_) (fun y hy hqy=>h2 y (List.mem_cons_of_mem _ hy) hqy) p2
    rw[h1 y (List.mem_cons_of_mem _ hy) hqy,hf];constructor
    ·rintro⟨i,hi,h⟩;cases i with
     | zero=>exfalso;simp at h;exact hmem y hy h.symm
     | succ i=>exact⟨i,by omega,by simpa using h⟩
    ·rintro⟨i,hi,h⟩;exact⟨i+1,by omega,by simpa using h⟩
theorem qaD {es:Array MapEntry}{seen:Array Nat}(hn:es.toList.Pairwise fun a b=>a.born≠b.born) {j:Nat}{x:MapEntry}(hj:(qNX es seen)[j]?=some x):qNX es (seen.push x.born)=(qNX es seen).eraseIdx j:=by
 have hne:es.toList.Pairwise (· ≠ ·):=hn.imp fun h e=>h (by rw[e])
 have hxm:x∈es.toList:=(yA4.1 (yA6 hj)).1;have inj:∀ y∈es.toList,y.born=x.born->y=x:=by
  have:∀ l:List MapEntry,l.Pairwise (fun a b=>a.born≠b.born)->∀ y∈l,∀ z∈l,y.born=z.born->y=z:=by
   intro l
   induction l with
   | nil=>intro _ y hy;cases hy
   | cons u l ih=>
    intro hp y hy z hz h;obtain⟨p1,p2⟩:=yBA.1 hp;rcases yA3.1 hy with e1|hy'
    ·rcases yA3.1 hz with e2|hz'
     ·rw[e1,e2]
     ·rw[e1] at h;exact absurd h (p1 z hz')
    ·rcases yA3.1 hz with e2|hz'
     ·rw[e2] at h;exact absurd h.symm (p1 y hy')
     ·exact ih p2 y hy' z hz' h
  exact fun y hy h=>this _ hn y hy x hxm h
 unfold qNX at hj ⊢;refine qQD es.toList _ j x hj _ (fun y hy hqy=>?_) (fun y hy hqy=>?_) hne
 ·simp only[yAL,yAA,yAM,beq_eq_false_iff_ne] at hqy ⊢;constructor
  ·rintro⟨h1,h2⟩;obtain⟨i,hi,e2⟩:=yAW (yA4 (p:=fun e => !seen.contains e.born).2 ⟨hy,(by show(!seen.contains y.born)=true;rw[hqy];rfl)⟩)
   refine⟨i,fun e=>?_,by rw[yAR hi,e2]⟩
   subst e;rw[yAR hi,e2] at hj;exact h2 (by rw[Option.some.inj hj])
  ·rintro⟨i,hi,h⟩;refine⟨hqy,fun e=>hi ?_⟩
   have:=inj y hy e;subst this;have hnd:=hne.sublist (List.filter_sublist (p:=fun e => !seen.contains e.born))
   have h3:=qAV h;have h4:=qAV hj;rw[yAR h3] at h;rw[yAR h4] at hj;rcases Nat.lt_trichotomy i j with q|q|q
   ·exact absurd ((Option.some.inj h).trans (Option.some.inj hj).symm) (yBB.1 hnd i j h3 h4 q)
   ·exact q
   ·exact absurd ((Option.some.inj hj).trans (Option.some.inj h).symm) (yBB.1 hnd j i h4 h3 q)
 ·simp only[yAK,yAA,yAN] at hqy ⊢;exact .inl hqy
theorem qUT {α:Type}{l:List α}{j i:Nat}{x:α}(h:(l.eraseIdx j)[i]?=some x):l[if i<j then i else i+1]?=some x:=by
 rw[yAS] at h;split at h
 ·rename_i h1;rw[if_pos h1];exact h
 ·rename_i h1;rw[if_neg h1];exact h
theorem qVR {B:Base}{e N r β σ Φ a w n is ty}{x:SV}{vx:Value}{K:EK}(h:qlQ x is σ Φ n K) (st:Sat B e N r β σ Φ a w) (hx:Rel r β x vx):
    ∃ sv Φ' n' v w',K sv σ Φ' n'/\(Instr.next vx is ty).run B.P w=.ok v w'/\Rel r β sv v/\Sat B e N r β σ Φ' a w':=by
  unfold qlQ at h;split at h
  · rename_i id
    split at h
    · rename_i s pos hg
      obtain⟨h1,h2⟩:=h;cases hx with
      | loc hβ=>
        rename_i b;have hs:=st.mem.rows hg;cases hs with
        | iter hxb hw hlen=>
          rename_i b';rw[hβ] at hxb;obtain rfl:b=b':=by simpa using hxb
          have hz:(ByteArray.mk s.toArray).size=s.length:=by simp[ByteArray.size]
          by_cases hp:pos<s.length
          · obtain⟨Φ',hk,hΦ⟩:=qAP (h1 hp) (qA7 hg)
            have hlt:=lt_of_heap hw;refine⟨_, Φ',n,_, { w with heap:=w.heap.setIfInBounds b (.stringIter ⟨s.toArray⟩ (pos+(qGT s pos).2)) },hk,?_,.tup (cs:=[.bool true,.int .i64 pos,.int .i32 (qGT s pos).1]) rfl ?_,?_⟩
            · have hp':pos<(ByteArray.mk s.toArray).size:=by rw[hz];exact hp
              simp only[Instr.next,Sem.run_bind,getObj,Sem.run,hw,Result.andThen_ok];simp only[hp',if_true,setObj,Sem.run_bind,Sem.run,hw,Result.andThen_ok,Sem.run_pure,goInt];rfl
            · intro i sv v q1 q2
              match i with
              | 0=>simp at q1 q2;subst q1;subst q2;exact .bool
              | 1=>simp at q1 q2;subst q1;subst q2;exact .int
              | 2=>simp at q1 q2;subst q1;subst q2;exact .int
              | i+3=>simp at q1
            · refine qDJ st hg hΦ ⟨rfl,rfl,rfl,by simp,fun b' hb'=>?_⟩ (by rw[hβ];rfl) (by rw[hβ];rfl) (.iter hβ (by simp[hlt]) hlen) rfl
              show(w.heap.setIfInBounds b _)[b']?=_;rw[yAF (fun h=>hb' h.symm)]
          · refine⟨_, Φ,n,_,w,h2 hp,?_,.tup (cs:=[.bool false]) rfl ?_,st⟩
            · have hp':¬pos<(ByteArray.mk s.toArray).size:=by rw[hz];exact hp
              simp only[Instr.next,Sem.run_bind,getObj,Sem.run,hw,Result.andThen_ok];simp only[hp',if_false];rfl
            · intro i sv v q1 q2
              cases i with
              | zero=>simp at q1 q2;subst q1;subst q2;exact .bool
              | succ i=>simp at q1
    · exact h.elim
  · rename_i id
    split at h
    · rename_i κ τ left cur hg
      obtain⟨h1,h2⟩:=h;cases hx with
      | loc hβ =>
        rename_i b;have hs:=st.mem.chs _ _ hg;cases hs with
        | mi hxb hw hr hold hn hl hk hc=>
          rename_i b' bm es clock seen;rw[hβ] at hxb;obtain rfl:b=b':=by simpa using hxb
          have hbm:=st.mem.vis _ _ hr;have hne:b≠bm:=fun e=>by subst e;rw[hw] at hbm;cases hbm
          rcases run_next_at (P:=B.P) w ty b bm clock clock seen es clock hw hbm hold (yBH _) with⟨h0,hrun⟩|⟨x,hx,w1,hw1,hrun⟩
          · have hnil:left=[]:=by
              rw[<-yAI,qSF] at h0;exact yAX.1 (by omega)
            refine⟨_, Φ,n,_,w,h1 hnil,hrun,.tup (cs:=[.bool false]) rfl ?_,st⟩;intro i sv v q1 q2;cases i with
            | zero=>simp at q1 q2;subst q1;subst q2;exact .bool
            | succ i=>simp at q1
          · rw [qSF] at hx
            obtain⟨j,hj,hjx⟩:=yAW hx;have hjx2:(qNX es seen)[j]?=some x:=by rw[yAR hj,hjx]
            have hjl:j<left.length:=by omega
            have hjl2:left[j]?=some (left[j].1,left[j].2):=yAR hjl;obtain⟨Φ',hk2,hΦ⟩:=qAP (h2 j _ _ hjl2) (qA7 hg);obtain⟨ks,hk2,hks⟩:=qN0 hk2;obtain⟨sv,henc,hk2⟩:=qKA hk2;have hent:=hk j _ x hjl2 hjx2;obtain⟨hkey,sv',e1,e2,hval⟩:=hent;rw[henc] at e1;obtain rfl:sv=sv':=by simpa using e1
            have hT:Turns w (ChangeMaps.setBlock w1 b (.mapIter (some bm) clock (seen.push x.born) clock)) b:=by
              rcases hw1 with rfl|rfl
              · exact⟨rfl,rfl,rfl,by simp[ChangeMaps.setBlock],fun b' hb'=>by
                  show(w1.heap.setIfInBounds b _)[b']?=_;rw[yAF (Ne.symm hb')]⟩
              · exact⟨rfl,rfl,rfl,by show(w.heap.setIfInBounds b _).size=w.heap.size;simp,fun b' hb'=>by
                  show(w.heap.setIfInBounds b _)[b']?=_;rw[yAF (Ne.symm hb')]⟩
            have hat:(ChangeMaps.setBlock w1 b (.mapIter (some bm) clock (seen.push x.born) clock)).heap[b]?=some (.mapIter (some bm) clock (seen.push x.born) clock):=by
              have hlt:=lt_of_heap hw;rcases hw1 with rfl|rfl
              · show(w1.heap.setIfInBounds b _)[b]?=_
                rw[yAG hlt]
              · show(w.heap.setIfInBounds b _)[b]?=_
                rw[yAG hlt]
            have hpush:=qaD hn hjx2;refine⟨_, Φ',n,_,_,hk2,hrun,.tup (cs:=[.bool true,x.key,x.val]) rfl ?_,?_⟩
            · intro i sv1 v q1 q2
              match i with
              | 0=>simp at q1 q2;subst q1;subst q2;exact .bool
              | 1=>simp at q1 q2;subst q1;subst q2;rw[hkey];exact hks r β
              | 2=>simp at q1 q2;subst q1;subst q2;exact qTK (fun u hu=>hu.pure (qFY τ _ 0 sv (by rw[henc];rfl)) β) hval
              | i+3=>simp at q1
            · refine qDJ st hg hΦ hT (by rw[hβ];rfl) (by rw[hβ];rfl) (.mi hβ hat hr hold hn (by rw[hpush,yAY,yAY,hl]) (fun i y z q1 q2=>?_) (fun y hy=>?_)) rfl
              · rw[hpush] at q2
                exact hk _ y z (qUT q1) (qUT q2)
              · cases hy
                exact⟨x,seen,rfl,(yA4.1 (yA6 hjx2)).1,hkey,sv,henc,e2,hval⟩
    · exact h.elim
  · exact h.elim
theorem qTG {B:Base}{e N r β σ Φ a w n}{x:SV}{vx:Value}{K:EK}(h:qbX x σ Φ n K) (st:Sat B e N r β σ Φ a w) (hx:Rel r β x vx):
  ∃ sv v,K sv σ Φ n/\(Instr.entry vx).run B.P w=.ok v w/\Rel r β sv v:=by
 unfold qbX at h;split at h
 ·rename_i id;split at h
  ·rename_i κ τ left k v hg;obtain⟨ks,h,hks⟩:=qN0 h;obtain⟨sv,henc,h⟩:=qKA h;cases hx with
   | loc hβ=>
    rename_i b;have hs:=st.mem.chs _ _ hg;cases hs with
    | mi hxb hw hr hold hn hl hk hc=>
     rename_i b' bm es clock seen;rw[hβ] at hxb;obtain rfl:b=b':=by simpa using hxb
     have hbm:=st.mem.vis _ _ hr;obtain⟨x,seen',rfl,hxm,hkey,sv',e1,e2,hval⟩:=hc _ rfl;rw[henc] at e1;obtain rfl:sv=sv':=by simpa using e1
     refine⟨_,_,h,run_entry_at w b bm clock seen' es clock x hw hbm hxm (yBC.2 hn),.tup (cs:=[x.key,x.val]) rfl ?_⟩;intro i sv1 v q1 q2
     match i with
     | 0=>simp at q1 q2;subst q1;subst q2;rw[hkey];exact hks r β
     | 1=>simp at q1 q2;subst q1;subst q2;exact qTK (fun u hu=>hu.pure (qFY τ _ 0 sv (by rw[henc];rfl)) β) hval
     | i+2=>simp at q1
  ·exact h.elim
 ·exact h.elim
end Go.Vc

namespace Go.Vc
set_option autoImplicit false
def bq (id:Nat):Nat->Bool:=fun i=>Nat.beq i id
theorem qfB (id:Nat):bq id id=true:=yBE id
theorem qpP {id i:Nat}(h:bq id i=true):i=id:=qAM h
def FzR (id:Nat) (τ:Ty) (l:List τ.T) (x y:SV):Prop:=∀ r β Φ w v,MemSat r β Φ w->Phi.get Φ id=some (.own τ l)->Rel r β x v->Rel (frz (bq id) r β Φ w) β y v
theorem qR7 {id τ l x}{K:SV->Prop}(h:fz0 id τ l x K):∃ y,K y/\FzR id τ l x y:=by
 by_cases hx:∃ i,x=.own i
 ·obtain⟨i,rfl⟩:=hx;simp only[fz0] at h;cases hb:Nat.beq i id with
  | true=>
   rw[hb] at h;obtain rfl:=qAM hb;refine⟨_,h,fun r β Φ w v m hg hr=>?_⟩
   cases hr;exact qNV m (qfB _) hg β
  | false=>
   rw[hb] at h;exact⟨_,h,fun r β Φ w v m hg hr=>hr.mono (qB7 m)⟩
 ·have h':bif x.okIds (fun i => !Nat.beq i id) then K x else K .und:=by cases x<;>first|exact h|exact(hx ⟨_,rfl⟩).elim
  cases ho:x.okIds (fun i => !Nat.beq i id) with
  | true=>rw[ho] at h';exact⟨x,h',fun r β Φ w v m hg hr=>hr.mono (qB7 m)⟩
  | false=>rw[ho] at h';exact⟨_,h',fun r β Φ w v m hg hr=>.und⟩
theorem qUA {id τ l x}{K:SV->Prop}(h:fz1 id τ l x K):∃ y,K y/\FzR id τ l x y:=by
 by_cases hx:∃ xs,x=.agg xs
 ·obtain⟨xs,rfl⟩:=hx;obtain⟨ys,hk,hl,hh⟩:=qDD (D:=fz0 id τ l) (DL:=zFB id τ l) (fun _ h=>h) (fun _ _ _ h=>h) (fun _ _ h=>qR7 h) xs _ h
  refine⟨_,hk,fun r β Φ w v m hg hr=>?_⟩
  obtain⟨cs,rfl,hcs⟩:=hr.aggL_inv;exact .aggL (qDT hl hh (fun x y v hR hx=>hR r β Φ w v m hg hx) hcs)
 ·have h':fz0 id τ l x K:=by cases x<;>first|exact h|exact(hx ⟨_,rfl⟩).elim
  exact qR7 h'
theorem qKW {id τ l xs}{K:List SV->Prop}(h:qnQ id τ l xs K):∃ ys,K ys/\ys.length=xs.length/\∀ (i:Nat) y,ys[i]?=some y->∃ x,xs[i]?=some x/\FzR id τ l x y:=
 qDD (D:=fz1 id τ l) (DL:=qnQ id τ l) (fun _ h=>h) (fun _ _ _ h=>h) (fun _ _ h=>qUA h) xs K h
theorem qc7 {id τ l x}{K:SV->Prop}(h:fz2 id τ l x K):∃ y,K y/\FzR id τ l x y:=by
 by_cases hx:∃ xs,x=.tup xs
 ·obtain⟨xs,rfl⟩:=hx;obtain⟨ys,hk,hl,hh⟩:=qKW h;refine⟨_,hk,fun r β Φ w v m hg hr=>?_⟩
  obtain⟨cs,rfl,hcs⟩:=hr.tupL_inv;exact .tupL (qDT hl hh (fun x y v hR hx=>hR r β Φ w v m hg hx) hcs)
 ·have h':fz1 id τ l x K:=by cases x<;>first|exact h|exact(hx ⟨_,rfl⟩).elim
  exact qUA h'
theorem qeY {id τ l}{σ:Env}:∀ {K:Env->Prop},fzE id τ l σ K->∃ σ',K σ'/\∀ k g sv',Env.get σ' k=some (g,sv')->∃ sv,Env.get σ k=some (g,sv)/\FzR id τ l sv sv':=by
 induction σ with
 | nil=>intro K h;exact⟨[],h,fun k g sv' hk=>by simp[Env.get] at hk⟩
 | cons x r ih=>
  obtain⟨k0,g0,sv0⟩:=x;intro K h;obtain⟨y,h,hy⟩:=qc7 h;obtain⟨σ',hk,hh⟩:=ih h;refine⟨_,hk,fun k g sv' hi=>?_⟩
  rw[qAX] at hi ⊢;cases hb:Nat.beq k0 k with
  | true=>rw[hb] at hi;simp at hi;obtain⟨rfl,rfl⟩:=hi;exact⟨sv0,rfl,hy⟩
  | false=>rw[hb] at hi;exact hh k g sv' hi
inductive FzC (id:Nat) (τ:Ty) (l:List τ.T):Chunk->Chunk->Prop
 | same {c}(h:∀ T cs,c≠.bx T cs):FzC id τ l c c
 | box {T cs cs'}(hl:cs'.length=cs.length) (h:∀ (i:Nat) (sv':SV),cs'[i]?=some sv'->∃ sv,cs[i]?=some sv/\FzR id τ l sv sv'):FzC id τ l (.bx T cs) (.bx T cs')
theorem FzC.kind {id τ l c c'}(h:FzC id τ l c c'):c'.kind=c.kind:=by cases h<;>rfl
theorem FzC.blk {id τ l c c'}(h:FzC id τ l c c') (x:Value):c'.hb x=c.hb x:=by
 cases h with
 | same=>rfl
 | box=>exact qJW _ _ _ _
theorem qeR {id τ l c}{K:Chunk->Prop}(h:fzC id τ l c K):∃ c',K c'/\FzC id τ l c c':=by
 cases c with
 | bx _ cs=>obtain⟨ys,hk,hl,hh⟩:=qKW h;exact⟨_,hk,.box hl hh⟩
 | own=>exact⟨_,h,.same (by intro _ cs h;cases h)⟩
 | iter=>exact⟨_,h,.same (by intro _ cs h;cases h)⟩
 | gh=>exact⟨_,h,.same (by intro _ cs h;cases h)⟩
 | mp=>exact⟨_,h,.same (by intro _ cs h;cases h)⟩
 | ro=>exact⟨_,h,.same (by intro _ cs h;cases h)⟩
 | ow=>exact⟨_,h,.same (by intro _ cs h;cases h)⟩
 | nst=>exact⟨_,h,.same (by intro _ cs h;cases h)⟩
 | mz=>exact⟨_,h,.same (by intro _ cs h;cases h)⟩
 | mi=>exact⟨_,h,.same (by intro _ cs h;cases h)⟩
 | foc=>exact⟨_,h,.same (by intro _ cs h;cases h)⟩
 | owg=>exact⟨_,h,.same (by intro _ cs h;cases h)⟩
theorem qcW {id τ l}{Φ:Phi}:∀ {K:Phi->Prop},fzP id τ l Φ K->∃ Φ',K Φ'/\∀ j,(∀ c',Phi.get Φ' j=some c'->j≠id/\∃ c,Phi.get Φ j=some c/\FzC id τ l c c')/\(j≠id->∀ c,Phi.get Φ j=some c->∃ c',Phi.get Φ' j=some c'):=by
 induction Φ with
 | nil=>intro K h;exact⟨[],h,fun j=>⟨fun c' h=>by simp[Phi.get] at h,fun _ c h=>by simp[Phi.get] at h⟩⟩
 | cons x r ih=>
  obtain⟨k,c⟩:=x;intro K h;unfold fzP at h;cases hb:Nat.beq k id with
  | true=>
   rw[hb] at h;obtain rfl:=qAM hb;obtain⟨Φ',hk,hh⟩:=ih h;refine⟨Φ',hk,fun j=>⟨fun c' hj=>?_,fun hne c1 hj=>?_⟩⟩
   ·obtain⟨h1,c0,h2,h3⟩:=(hh j).1 c' hj;exact⟨h1,c0,by rw[qAQ,qAS (fun he=>h1 he.symm)];exact h2,h3⟩
   ·rw[qAQ,qAS (fun he=>hne he.symm)] at hj
    exact(hh j).2 hne c1 hj
  | false=>
   rw[hb] at h;simp only[cond_false] at h;obtain⟨c',h,hc⟩:=qeR h;obtain⟨Φ',hk,hh⟩:=ih h;refine⟨_,hk,fun j=>?_⟩
   rw[qAQ,qAQ];cases hq:Nat.beq k j with
   | true=>
    obtain rfl:=qAM hq;have hne:k≠id:=by rintro rfl;rw[yBE] at hb;cases hb
    exact⟨fun c1 h=>by simp at h;subst h;exact⟨hne,c,rfl,hc⟩,fun _ c1 h=>⟨c',rfl⟩⟩
   | false=>exact hh j
theorem qn1 {id τ l r β Φ w Φ'}(m:MemSat r β Φ w) (hg:Phi.get Φ id=some (.own τ l))
    (hΦ:∀ j,(∀ c',Phi.get Φ' j=some c'->j≠id/\∃ c,Phi.get Φ j=some c/\FzC id τ l c c')/\(j≠id->∀ c,Phi.get Φ j=some c->∃ c',Phi.get Φ' j=some c')):
    MemSat (frz (bq id) r β Φ w) β Φ' w/\Hid r β Φ w (frz (bq id) r β Φ w) β Φ' w:=by
  have notin:∀ b j c0,j≠id->Phi.get Φ j=some c0->c0.hb (β j) b->frz (bq id) r β Φ w b=none:=by
    intro b j c0 hne h1 h2;rw[qHJ,m.sep _ _ _ h1 h2];intro i c q1 q2 _ q4;rw[qpP q1] at q2 q4;exact hne (m.nod _ _ _ _ _ h1 q2 h2 q4)
  refine⟨⟨qQK m,fun j c' hj=>?_,fun j c' b hj hb=>?_,fun j j' c c' b h1 h1' h2 h2'=>?_⟩,rfl,rfl,rfl,yBH _,fun b hb h1 h2=>⟨rfl,?_,fun j c' hj hc=>?_⟩,fun j c hj hk=>⟨rfl,?_⟩⟩
  · obtain⟨hne,c,h1,h2⟩:=(hΦ j).1 c' hj
    have hs:=m.chs _ _ h1;cases h2 with
    | same hnb=>exact hs.keep (qB7 m) (fun _ _=>rfl) (fun T cells he=>(hnb T cells he).elim)
    | box hl hh=>
      cases hs with
      | box hx hw hlc hc hT=>
        refine .box hx hw (by rw[hlc,hl]) (fun i sv v p1 p2=>?_) hT
        obtain⟨sv0,q1,q2⟩:=hh i sv p1;exact q2 r β Φ w v m hg (hc i sv0 v q1 p2)
  · obtain⟨hne,c,h1,h2⟩:=(hΦ j).1 c' hj
    rw[h2.blk] at hb;exact notin b j c hne h1 hb
  · obtain⟨hne,c0,p1,p2⟩:=(hΦ j).1 c h1
    obtain⟨hne',c0',p1',p2'⟩:=(hΦ j').1 c' h1';rw[p2.blk] at h2;rw[p2'.blk] at h2';exact m.nod _ _ _ _ _ p1 p1' h2 h2'
  · rw[qHJ (fun i c _ q2 _=>h2 i c q2)];exact h1
  · obtain⟨hne,c,p1,p2⟩:=(hΦ j).1 c' hj
    rw[p2.blk] at hc;exact h2 j c p1 hc
  · have hne:j≠id:=by
      rintro rfl;rw[hg] at hj;cases hj;exact hk rfl
    obtain⟨c',h1⟩:=(hΦ j).2 hne c hj;obtain⟨_,c0,p1,p2⟩:=(hΦ j).1 c' h1;rw[hj] at p1;cases p1;exact⟨c',h1,p2.kind⟩
theorem qHN {B:Base}{e N a w}:∀ {ids:List Nat}{xs σ Φ}{K:List SV->Env->Phi->Prop},qjD ids xs σ Φ K->∀ {r β vs},Sat B e N r β σ Φ a w->qA5 r β xs vs->
  ∃ xs' σ' Φ' r',K xs' σ' Φ'/\Sat B e N r' β σ' Φ' a w/\qA5 r' β xs' vs/\(∀ D,qDX D σ->qDX D σ'):=by
 intro ids
 induction ids with
 | nil=>intro xs σ Φ K h r β vs s hv;exact⟨xs, σ, Φ,r,h,s,hv,fun D hD=>hD⟩
 | cons id ids ih=>
  intro xs σ Φ K h r β vs s hv;simp only[qjD] at h;split at h
  ·rename_i τ l hg;obtain⟨ys,h,hl,hh⟩:=qKW h;obtain⟨σ1,h,hσ⟩:=qeY h;obtain⟨Φ1,h,hΦ⟩:=qcW h;obtain⟨m1,hid⟩:=qn1 s.mem hg hΦ;have s1:Sat B e N (frz (bq id) r β Φ w) β σ1 Φ1 a w:=s.step (s.agree.of fun k g sv' hk=>by
    obtain⟨sv,q1,q2⟩:=hσ k g sv' hk;exact⟨sv,q1,fun v hr=>q2 r β Φ w v s.mem hg hr⟩) m1 (qB7 s.mem) hid
   obtain⟨xs', σ', Φ',r',hk,s',hv',hD⟩:=ih h s1 (qDT hl hh (fun x y v hR hx=>hR r β Φ w v s.mem hg hx) hv)
   refine⟨xs', σ', Φ',r',hk,s',hv',fun D h0=>hD D fun k s0 w0 sv0 hk0=>?_⟩
   obtain⟨sv,q1,_⟩:=hσ k _ _ hk0;exact h0 _ _ _ _ q1
  ·exact ih h s hv
  ·exact h.elim
end Go.Vc

namespace Go.Vc
set_option autoImplicit false
abbrev NN:=List (Nat×Nat)
def qH2:NN->Nat->Option Nat
 | [],_=>none
 | (a,j)::r,i=>bif Nat.beq a i then some j else qH2 r i
def qIC:NN->Nat->Option Nat
 | [],_=>none
 | (a,j)::r,i=>bif Nat.beq j i then some a else qIC r i
theorem qER {m:NN}{i:Nat}{K:Nat->Prop}(h:qS9 m i K):∃ j,qH2 m i=some j/\K j:=by
 induction m with
 | nil=>exact h.elim
 | cons x r ih=>
  obtain⟨a,j⟩:=x;simp only[qS9] at h;simp only[qH2];cases hb:Nat.beq a i with
  | true=>rw[hb] at h;exact⟨j,rfl,h⟩
  | false=>rw[hb] at h;exact ih h
theorem qEX {m:NN}{i j:Nat}(h:qH2 m i=some j):(i,j)∈m:=by
 induction m with
 | nil=>cases h
 | cons x r ih=>
  obtain⟨a,c⟩:=x;simp only[qH2] at h;cases hb:Nat.beq a i with
  | true=>rw[hb] at h;simp at h;obtain rfl:=qAM hb;subst h;simp
  | false=>rw[hb] at h;exact List.mem_cons_of_mem _ (ih h)
theorem qGR {m:NN}{i j:Nat}(h:qIC m j=some i):(i,j)∈m:=by
 induction m with
 | nil=>cases h
 | cons x r ih=>
  obtain⟨a,c⟩:=x;simp only[qIC] at h;cases hb:Nat.beq c j with
  | true=>rw[hb] at h;simp at h;obtain rfl:=qAM hb;subst h;simp
  | false=>rw[hb] at h;exact List.mem_cons_of_mem _ (ih h)
theorem qC3 {m:NN}{i:Nat}:qCO m i=true↔∃ j,(i,j)∈m:=by
 induction m with
 | nil=>simp[qCO]
 | cons x r ih=>
  obtain⟨a,c⟩:=x;simp only[qCO,yAN,ih];constructor
  ·rintro(h|⟨j,h⟩)
   ·obtain rfl:=qAM h;exact⟨c,by simp⟩
   ·exact⟨j,by simp[h]⟩
  ·rintro⟨j,h⟩;simp only[yA3,Prod.mk.injEq] at h;rcases h with⟨rfl,rfl⟩|h
   ·exact .inl (yBE _)
   ·exact .inr ⟨j,h⟩
theorem qa7 {m:NN}{j:Nat}:qMT m j=true↔∃ i,(i,j)∈m:=by
 induction m with
 | nil=>simp[qMT]
 | cons x r ih=>
  obtain⟨a,c⟩:=x;simp only[qMT,yAN,ih];constructor
  ·rintro(h|⟨j,h⟩)
   ·obtain rfl:=qAM h;exact⟨a,by simp⟩
   ·exact⟨j,by simp[h]⟩
  ·rintro⟨i,h⟩;simp only[yA3,Prod.mk.injEq] at h;rcases h with⟨rfl,rfl⟩|h
   ·exact .inl (yBE _)
   ·exact .inr ⟨i,h⟩
theorem qF8 {m:NN}(hn:qCU m=true) {i j:Nat}(h:(i,j)∈m):qH2 m i=some j:=by
  induction m with
  | nil=>cases h
  | cons x r ih=>
    obtain⟨a,c⟩:=x;simp only[qCU,yAJ,yAL] at hn;simp only[yA3,Prod.mk.injEq] at h;simp only[qH2];rcases h with⟨rfl,rfl⟩|h
    · rw[yBE];rfl
    · have:a≠i:=by
        rintro rfl;have:=qC3.2 ⟨j,h⟩;rw[hn.1] at this;cases this
      rw[qAS this];exact ih hn.2 h
theorem qE4 {m:NN}(hn:qCV m=true) {i j:Nat}(h:(i,j)∈m):qIC m j=some i:=by
  induction m with
  | nil=>cases h
  | cons x r ih=>
    obtain⟨a,c⟩:=x;simp only[qCV,yAJ,yAL] at hn;simp only[yA3,Prod.mk.injEq] at h;simp only[qIC];rcases h with⟨rfl,rfl⟩|h
    · rw[yBE];rfl
    · have:c≠j:=by
        rintro rfl;have:=qa7.2 ⟨i,h⟩;rw[hn.1] at this;cases this
      rw[qAS this];exact ih hn.2 h
theorem qSG {P m:NN}(h:qCU (P++m)=true):qCU m=true:=by
 induction P with
 | nil=>exact h
 | cons x r ih=>obtain⟨a,c⟩:=x;simp only[yAO,qCU,yAJ] at h;exact ih h.2
theorem qUY {P m:NN}(h:qCV (P++m)=true):qCV m=true:=by
 induction P with
 | nil=>exact h
 | cons x r ih=>obtain⟨a,c⟩:=x;simp only[yAO,qCV,yAJ] at h;exact ih h.2
theorem qVE {m:NN}:∀ {K:NN->Prop},qmQ m K->∃ M,K M/\∀ i j,(j,i)∈M↔(i,j)∈m:=by
 induction m with
 | nil=>intro K h;exact⟨[],h,fun i j=>by simp⟩
 | cons x r ih=>
  obtain⟨a,c⟩:=x;intro K h;obtain⟨M,hk,hM⟩:=ih h;refine⟨_,hk,fun i j=>?_⟩
  simp only[yA3,Prod.mk.injEq,hM];constructor
  ·rintro(⟨rfl,rfl⟩|h)
   ·exact .inl ⟨rfl,rfl⟩
   ·exact .inr h
  ·rintro(⟨rfl,rfl⟩|h)
   ·exact .inl ⟨rfl,rfl⟩
   ·exact .inr h
def Rn (m:NN) (β β':qBD):Prop:=∀ i j,qH2 m i=some j->β' j=β i
def RnR (m:NN) (x y:SV):Prop:=∀ r β β' v,Rn m β β'->Rel r β x v->Rel r β' y v
theorem qUW {m x}{K:SV->Prop}(h:rn0 m x K):∃ y,K y/\RnR m x y:=by
 unfold rn0 at h;split at h
 ·obtain⟨j,hj,h⟩:=qER h;refine⟨_,h,fun r β β' v hm hr=>?_⟩
  cases hr with
  | loc hb=>exact .loc (by rw[hm _ _ hj];exact hb)
 ·obtain⟨j,hj,h⟩:=qER h;refine⟨_,h,fun r β β' v hm hr=>?_⟩
  cases hr with
  | own hb=>rw[<-hm _ _ hj] at hb ⊢;exact .own hb
 ·obtain⟨j,hj,h⟩:=qER h;refine⟨_,h,fun r β β' v hm hr=>?_⟩
  cases hr with
  | oel hb=>exact .oel (by rw[hm _ _ hj];exact hb)
 ·obtain⟨j,hj,h⟩:=qER h;refine⟨_,h,fun r β β' v hm hr=>?_⟩
  cases hr with
  | mref hb=>exact .mref (by rw[hm _ _ hj];exact hb)
 ·cases ho:SV.okIds (fun _=>false) x with
  | false=>rw[ho] at h;exact h.elim
  | true=>rw[ho] at h;exact⟨x,h,fun r β β' v _ hr=>hr.pure ho β'⟩
theorem qPB {m xs}{K:List SV->Prop}(h:qoY m xs K):∃ ys,K ys/\ys.length=xs.length/\∀ (i:Nat) y,ys[i]?=some y->∃ x,xs[i]?=some x/\RnR m x y:=
 qDD (D:=rn0 m) (DL:=qoY m) (fun _ h=>h) (fun _ _ _ h=>h) (fun _ _ h=>qUW h) xs K h
theorem qSR {m x}{K:SV->Prop}(h:rn1 m x K):∃ y,K y/\RnR m x y:=by
 unfold rn1 at h;split at h
 ·obtain⟨ys,hk,hl,hh⟩:=qPB h;refine⟨_,hk,fun r β β' v hm hr=>?_⟩
  obtain⟨cs,rfl,hcs⟩:=hr.aggL_inv;exact .aggL (qDT hl hh (fun x y v hR hx=>hR r β β' v hm hx) hcs)
 ·obtain⟨ys,hk,hl,hh⟩:=qPB h;refine⟨_,hk,fun r β β' v hm hr=>?_⟩
  obtain⟨cs,rfl,hcs⟩:=hr.fnL_inv;exact .fnL (qDT hl hh (fun x y v hR hx=>hR r β β' v hm hx) hcs)
 ·exact qUW h
theorem qKU {m xs}{K:List SV->Prop}(h:qnM m xs K):∃ ys,K ys/\ys.length=xs.length/\∀ (i:Nat) y,ys[i]?=some y->∃ x,xs[i]?=some x/\RnR m x y:=
 qDD (D:=rn1 m) (DL:=qnM m) (fun _ h=>h) (fun _ _ _ h=>h) (fun _ _ h=>qSR h) xs K h
theorem qTR {m x}{K:SV->Prop}(h:rn2 m x K):∃ y,K y/\RnR m x y:=by
 unfold rn2 at h;split at h
 ·obtain⟨ys,hk,hl,hh⟩:=qKU h;refine⟨_,hk,fun r β β' v hm hr=>?_⟩
  obtain⟨cs,rfl,hcs⟩:=hr.tupL_inv;exact .tupL (qDT hl hh (fun x y v hR hx=>hR r β β' v hm hx) hcs)
 ·exact qSR h
inductive RnC (m:NN):Chunk->Chunk->Prop
 | same {c}(h:∀ T cs,c≠.bx T cs):RnC m c c
 | box {T cs cs'}(hl:cs'.length=cs.length) (h:∀ (i:Nat) (y:SV),cs'[i]?=some y->∃ x,cs[i]?=some x/\RnR m x y):RnC m (.bx T cs) (.bx T cs')
theorem RnC.kind {m c c'}(h:RnC m c c'):c'.kind=c.kind:=by cases h<;>rfl
theorem RnC.blk {m c c'}(h:RnC m c c') (x:Value):c'.hb x=c.hb x:=by
 cases h with
 | same=>rfl
 | box=>exact qJW _ _ _ _
theorem qTN {m c}{K:Chunk->Prop}(h:rnC m c K):∃ c',K c'/\RnC m c c':=by
 cases c with
 | bx _ cs=>obtain⟨ys,hk,hl,hh⟩:=qKU h;exact⟨_,hk,.box hl hh⟩
 | own=>exact⟨_,h,.same (by intro _ cs h;cases h)⟩
 | iter=>exact⟨_,h,.same (by intro _ cs h;cases h)⟩
 | gh=>exact⟨_,h,.same (by intro _ cs h;cases h)⟩
 | mp=>exact⟨_,h,.same (by intro _ cs h;cases h)⟩
 | ro=>exact⟨_,h,.same (by intro _ cs h;cases h)⟩
 | ow=>exact⟨_,h,.same (by intro _ cs h;cases h)⟩
 | nst=>exact⟨_,h,.same (by intro _ cs h;cases h)⟩
 | mz=>exact⟨_,h,.same (by intro _ cs h;cases h)⟩
 | mi=>exact⟨_,h,.same (by intro _ cs h;cases h)⟩
 | foc=>exact⟨_,h,.same (by intro _ cs h;cases h)⟩
 | owg=>exact⟨_,h,.same (by intro _ cs h;cases h)⟩
theorem RnC.sat {m c c'}(h:RnC m c c') {r r':Mem}(hle:r.le r') {β β' w w' x}(hm:Rn m β β') (hs:c.Sat r β w x) (hb:∀ b,c.hb x b->w'.heap[b]?=w.heap[b]?):c'.Sat r' β' w' x:=by
 cases h with
 | same hnb=>exact hs.keep hle hb (fun T cells he=>(hnb T cells he).elim)
 | box hl hh=>
  cases hs with
  | box hx hw hlc hc hT=>
   refine .box hx (by rw[hb _ (by rw[hx];rfl)];exact hw) (by rw[hlc,hl]) (fun i sv v p1 p2=>?_) hT
   obtain⟨sv0,q1,q2⟩:=hh i sv p1;exact q2 _ _ _ _ hm ((hc i sv0 v q1 p2).mono hle)
theorem qW5 {Φ:Phi}{m0:NN}:∀ {m:NN}{K:Phi->Prop},qiX Φ m0 m K->∃ Φc,K Φc/\
  (∀ j ch,Phi.get Φc j=some ch->∃ i ch0,(i,j)∈m/\Phi.get Φ i=some ch0/\RnC m0 ch0 ch)/\(∀ i j,(i,j)∈m->∃ ch,Phi.get Φc j=some ch):=by
 intro m
 induction m with
 | nil=>intro K h;exact⟨[],h,fun j ch h=>by simp[Phi.get] at h,fun i j h=>by cases h⟩
 | cons x r ih=>
  obtain⟨a,c⟩:=x;intro K h;simp only[qiX] at h;split at h
  ·rename_i ch0 hg;obtain⟨ch,h,hc⟩:=qTN h;obtain⟨Φc,hk,h1,h2⟩:=ih h;refine⟨_,hk,fun j ch' hj=>?_,fun i j hij=>?_⟩
   ·rw[qAQ] at hj;cases hb:Nat.beq c j with
    | true=>obtain rfl:=qAM hb;rw[hb] at hj;simp at hj;subst hj;exact⟨a,ch0,by simp,hg,hc⟩
    | false=>
     rw[hb] at hj;obtain⟨i,c0,q1,q2,q3⟩:=h1 j ch' hj;exact⟨i,c0,by simp[q1],q2,q3⟩
   ·rw[qAQ];cases hb:Nat.beq c j with
    | true=>exact⟨ch,rfl⟩
    | false=>
     simp only[yA3,Prod.mk.injEq] at hij;rcases hij with⟨rfl,rfl⟩|hij
     ·rw[yBE] at hb;cases hb
     ·exact h2 i j hij
  ·exact h.elim
theorem qeU {p q:Nat->Bool}:∀ {sv:SV},sv.okIds p=true->sv.okIds q=true->sv.okIds (fun i=>p i&&q i)=true:=by
 intro sv;refine SV.rec (motive_1:=fun sv=>sv.okIds p=true->sv.okIds q=true->sv.okIds (fun i=>p i&&q i)=true) (motive_2:=fun _=>True) (motive_3:=fun l=>SV.okIdsL p l=true->SV.okIdsL q l=true->SV.okIdsL (fun i=>p i&&q i) l=true)
  ?_ ?_ ?_ ?_ ?_ ?_ ?_ ?_ ?_ ?_ ?_ ?_ ?_ ?_ ?_ ?_ ?_ ?_ ?_ ?_ ?_ ?_ ?_ ?_ sv
 all_goals try(intros;trivial)
 all_goals try(intros;simp_all [SV.okIds,SV.okIdsL];done)
theorem qe1:∀ (sv:SV),sv.okIds (fun _=>true)=true:=by
 intro sv;refine SV.rec (motive_1:=fun sv=>sv.okIds (fun _=>true)=true) (motive_2:=fun _=>True) (motive_3:=fun l=>SV.okIdsL (fun _=>true) l=true)
  ?_ ?_ ?_ ?_ ?_ ?_ ?_ ?_ ?_ ?_ ?_ ?_ ?_ ?_ ?_ ?_ ?_ ?_ ?_ ?_ ?_ ?_ ?_ ?_ sv
 all_goals try(intros;trivial)
 all_goals try(intros;simp_all [SV.okIds,SV.okIdsL];done)
theorem okIds_mono {p q:Nat->Bool}(hpq:∀ i,p i=true->q i=true):∀ {sv:SV},sv.okIds p=true->sv.okIds q=true:=fun {sv} h=>SV.okIds_mono hpq sv h
def qUN (S:List Nat) (sv:SV):Prop:=∀ i∈S,sv.okIds (fun k => !Nat.beq k i)=true
theorem qUN.ok {S:List Nat}{sv:SV}(h:qUN S sv):sv.okIds (fun k => !qD8 k S)=true:=by
 induction S with
 | nil=>
  exact okIds_mono (fun i _=>rfl) (qe1 sv)
 | cons i S ih=>
  have h1:=h i (by simp)
  have h2:=ih (fun k hk=>h k (by simp[hk]))
  refine okIds_mono (fun k hk=>?_) (qeU h1 h2)
  simp only[yAJ,yAL] at hk;simp only[qD8,yAL,yAM];refine⟨?_,hk.2⟩;have:=hk.1;cases hq:Nat.beq i k with
  | false=>rfl
  | true=>obtain rfl:=qAM hq;rw[yBE] at this;cases this
theorem qB6 {i:Nat}{l:List Nat}:qD8 i l=true↔i∈l:=by
 induction l with
 | nil=>simp[qD8]
 | cons x r ih=>
  simp only[qD8,yAN,ih,yA3];constructor
  ·rintro(h|h)
   ·exact .inl (qAM h).symm
   ·exact .inr h
  ·rintro(rfl|h)
   ·exact .inl (yBE _)
   ·exact .inr h
end Go.Vc

namespace Go.Vc
set_option autoImplicit false
theorem qE0 {Φ:Phi}:∀ {f:Nat}{todo:List Nat}{m:NN}{ns:List Nat}{K:NN->Prop},qOY Φ f todo m ns K->∃ m,K m
 | 0,_,_,_,_,h=>h.elim
 | f+1,[],m,_,K,h=>⟨m,h⟩
 | f+1,i::todo,m,ns,K,h=>by
  simp only[qOY] at h;have snoc:∀ {x:Nat×Nat}{l:NN}{K:NN->Prop},qiS x l K->∃ l',K l':=by
   intro x l
   induction l with
   | nil=>intro K h;exact⟨_,h⟩
   | cons y r ih=>intro K h;obtain⟨l',h⟩:=ih h;exact⟨_,h⟩
  cases hb:qCO m i with
  | true=>rw[hb] at h;exact qE0 h
  | false=>
   rw[hb] at h;simp only[cond_false] at h;split at h
   ·exact h.elim
   ·split at h
    ·obtain⟨_,h⟩:=snoc h;exact qE0 h
    ·obtain⟨_,h⟩:=snoc h;exact qE0 h
    ·exact h.elim
def StV (S:List Nat) (sv sv':SV):Prop:=sv'=.und\/(sv'=sv/\qUN S sv)
inductive StS (S:List Nat):Chunk->Chunk->Prop
 | same {c}(h:∀ T cs,c≠.bx T cs):StS S c c
 | box {T cs cs'}(hl:cs'.length=cs.length) (h:∀ (i:Nat) (sv':SV),cs'[i]?=some sv'->∃ sv,cs[i]?=some sv/\StV S sv sv'):StS S (.bx T cs) (.bx T cs')
theorem StS.kind {S c c'}(h:StS S c c'):c'.kind=c.kind:=by cases h<;>rfl
theorem StS.blk {S c c'}(h:StS S c c') (x:Value):c'.hb x=c.hb x:=by
 cases h with
 | same=>rfl
 | box=>exact qJW _ _ _ _
theorem StS.refl (c:Chunk):StS [] c c:=by
 cases c with
 | bx _ cs=>exact .box rfl fun i sv' h=>⟨sv',h,.inr ⟨rfl,fun _ h=>by cases h⟩⟩
 | _=>exact .same (by intro _ cs h;cases h)
theorem StV.cons {i S sv sv1 sv'}(h1:qL5 i sv sv1) (h2:StV S sv1 sv'):StV (i::S) sv sv':=by
 rcases h2 with rfl|⟨rfl,h2⟩
 ·exact .inl rfl
 ·rcases h1 with rfl|⟨rfl,h1⟩
  ·exact .inl rfl
  ·refine .inr ⟨rfl,fun k hk=>?_⟩
   cases hk with
   | head=>exact h1
   | tail _ hk=>exact h2 k hk
theorem StS.cons {i S c c1 c'}(h1:StaleC i c c1) (h2:StS S c1 c'):StS (i::S) c c':=by
 cases h1 with
 | same hn=>
  cases h2 with
  | same=>exact .same hn
  | box=>exact absurd rfl (hn _ _)
 | box hl hh=>
  cases h2 with
  | same hn=>exact absurd rfl (hn _ _)
  | box hl2 hh2=>
   refine .box (hl2.trans hl) fun k sv' hk=>?_
   obtain⟨sv1,q1,q2⟩:=hh2 k sv' hk;obtain⟨sv,p1,p2⟩:=hh k sv1 q1;exact⟨sv,p1,StV.cons p2 q2⟩
theorem qQX {Φ0:Phi}:∀ {m:NN}{σ:Env}{Φ:Phi}{K:Env->Phi->Prop},qKV Φ0 m σ Φ K->
  ∃ S σ' Φ',K σ' Φ'/\(∀ i j ch,(i,j)∈m->Phi.get Φ0 i=some ch->ch.kind=0->i∈S)/\
   (∀ k g sv',Env.get σ' k=some (g,sv')->∃ sv,Env.get σ k=some (g,sv)/\StV S sv sv')/\
   (∀ j,(∀ c',Phi.get Φ' j=some c'->∃ c,Phi.get Φ j=some c/\StS S c c')/\(∀ c,Phi.get Φ j=some c->∃ c',Phi.get Φ' j=some c')):=by
 intro m
 induction m with
 | nil=>
  intro σ Φ K h;exact⟨[], σ, Φ,h,(fun i j ch h=>by cases h),fun k g sv' hk=>⟨sv',hk,.inr ⟨rfl,fun _ h=>by cases h⟩⟩,fun j=>⟨fun c' h=>⟨c',h,.refl _⟩,fun c h=>⟨c,h⟩⟩⟩
 | cons x r ih=>
  obtain⟨i,j0⟩:=x;intro σ Φ K h;simp only[qKV] at h;split at h
  ·obtain⟨σ1,h,hσ1⟩:=qBX h;obtain⟨Φ1,h,hΦ1⟩:=qBY h;obtain⟨S, σ', Φ',hk,h1,h2,h3⟩:=ih h;refine⟨i::S, σ', Φ',hk,fun k j ch hm hg hk0=>?_,fun k g sv' hs=>?_,fun j=>⟨fun c' hj=>?_,fun c hj=>?_⟩⟩
   ·simp only[yA3,Prod.mk.injEq] at hm;rcases hm with⟨rfl,rfl⟩|hm
    ·simp
    ·exact List.mem_cons_of_mem _ (h1 k j ch hm hg hk0)
   ·obtain⟨sv1,q1,q2⟩:=h2 k g sv' hs;obtain⟨sv,p1,p2⟩:=hσ1 k g sv1 q1;exact⟨sv,p1,StV.cons p2 q2⟩
   ·obtain⟨c1,q1,q2⟩:=(h3 j).1 c' hj;obtain⟨c,p1,p2⟩:=(hΦ1 j).1 c1 q1;exact⟨c,p1,StS.cons p2 q2⟩
   ·obtain⟨c1,q1⟩:=(hΦ1 j).2 c hj;exact(h3 j).2 c1 q1
  ·obtain⟨σ1,h,hσ1⟩:=qBX h;obtain⟨Φ1,h,hΦ1⟩:=qBY h;obtain⟨S, σ', Φ',hk,h1,h2,h3⟩:=ih h;refine⟨i::S, σ', Φ',hk,fun k j ch hm hg hk0=>?_,fun k g sv' hs=>?_,fun j=>⟨fun c' hj=>?_,fun c hj=>?_⟩⟩
   ·simp only[yA3,Prod.mk.injEq] at hm;rcases hm with⟨rfl,rfl⟩|hm
    ·simp
    ·exact List.mem_cons_of_mem _ (h1 k j ch hm hg hk0)
   ·obtain⟨sv1,q1,q2⟩:=h2 k g sv' hs;obtain⟨sv,p1,p2⟩:=hσ1 k g sv1 q1;exact⟨sv,p1,StV.cons p2 q2⟩
   ·obtain⟨c1,q1,q2⟩:=(h3 j).1 c' hj;obtain⟨c,p1,p2⟩:=(hΦ1 j).1 c1 q1;exact⟨c,p1,StS.cons p2 q2⟩
   ·obtain⟨c1,q1⟩:=(hΦ1 j).2 c hj;exact(h3 j).2 c1 q1
  ·exact h.elim
  ·exact h.elim
  ·rename_i hno hno2 hno3 hno4;obtain⟨S, σ', Φ',hk,h1,h2,h3⟩:=ih h;refine⟨S, σ', Φ',hk,fun k j ch hm hg hk0=>?_,h2,h3⟩
   simp only[yA3,Prod.mk.injEq] at hm;rcases hm with⟨rfl,rfl⟩|hm
   ·cases ch with
    | own τ l=>exact absurd hg (hno τ l)
    | nst τ p l pd=>exact absurd hg (hno2 τ p l pd)
    | foc τ l i p e g=>exact absurd hg (hno3 τ l i p e g)
    | owg τ l g=>exact absurd hg (hno4 τ l g)
    | _=>cases hk0
   ·exact h1 k j ch hm hg hk0
theorem qM6 {σ:Env}{Φ:Phi}:∀ {Φ':Phi}{M:NN}{n:Nat}{K:NN->Nat->Prop},qbE σ Φ Φ' M n K->
  ∃ P M' n',M'=P++M/\K M' n'/\(∀ j i,(j,i)∈P->qE7 i σ=true/\qGH i Φ=true)/\(∀ j ch,Phi.get Φ' j=some ch->qCO M' j=true):=by
 intro Φ'
 induction Φ' with
 | nil=>intro M n K h;exact⟨[],M,n,rfl,h,(fun j i h=>by cases h),fun j ch h=>by simp[Phi.get] at h⟩
 | cons x r ih=>
  obtain⟨j0,c0⟩:=x;intro M n K h;simp only[qbE] at h;have key:∀ {M1:NN}{P M':NN},M'=P++M1->qCO M1 j0=true->(∀ j ch,Phi.get r j=some ch->qCO M' j=true)->∀ j ch,Phi.get ((j0,c0)::r) j=some ch->qCO M' j=true:=by
   intro M1 P M' he hj hr j ch hg;rw[qAQ] at hg;cases hb:Nat.beq j0 j with
   | true=>
    obtain rfl:=qAM hb;obtain⟨i,hi⟩:=qC3.1 hj;exact qC3.2 ⟨i,by rw[he];simp[hi]⟩
   | false=>rw[hb] at hg;exact hr j ch hg
  cases hb:qCO M j0 with
  | true=>
   rw[hb] at h;obtain⟨P,M',n',he,hk,h1,h2⟩:=ih h;exact⟨P,M',n',he,hk,h1,key he hb h2⟩
  | false=>
   rw[hb] at h;simp only[cond_false] at h;cases hc:(qE7 n σ&&(qGH n Φ && !qMT M n)) with
   | false=>rw[hc] at h;exact h.elim
   | true=>
    rw[hc] at h;simp only[yAJ] at hc;obtain⟨P,M',n',he,hk,h1,h2⟩:=ih h;refine⟨P++[(j0,n)],M',n',by rw[he];simp,hk,fun j i hm=>?_,key he (qC3.2 ⟨n,by simp⟩) h2⟩
    simp only[yA2,List.mem_singleton,Prod.mk.injEq] at hm;rcases hm with hm|⟨rfl,rfl⟩
    ·exact h1 j i hm
    ·exact⟨hc.1,hc.2.1⟩
theorem qK4 {M:NN}(hn:qCU M=true) (hn2:qCV M=true):∀ {Φ':Phi}{K:Phi->Prop},qYZ M Φ' K->∃ Φb,K Φb/\
  (∀ i ch,Phi.get Φb i=some ch->∃ j ch',qH2 M j=some i/\Phi.get Φ' j=some ch'/\RnC M ch' ch)/\
  (∀ j ch',Phi.get Φ' j=some ch'->∃ i ch,qH2 M j=some i/\Phi.get Φb i=some ch/\RnC M ch' ch):=by
 intro Φ'
 induction Φ' with
 | nil=>intro K h;exact⟨[],h,fun i ch h=>by simp[Phi.get] at h,fun j ch h=>by simp[Phi.get] at h⟩
 | cons x r ih=>
  obtain⟨j0,c0⟩:=x;intro K h;obtain⟨i0,hj0,h⟩:=qER h;obtain⟨c1,h,hc⟩:=qTN h;obtain⟨Φb,hk,h1,h2⟩:=ih h;have inj:∀ {j i},qH2 M j=some i->(j=j0↔i=i0):=by
   intro j i hj;constructor
   ·rintro rfl;rw[hj0] at hj;cases hj;rfl
   ·rintro rfl;have a1:=qE4 hn2 (qEX hj);have a2:=qE4 hn2 (qEX hj0);rw[a1] at a2;cases a2;rfl
  refine⟨_,hk,fun i ch hi=>?_,fun j ch' hj=>?_⟩
  ·rw[qAQ] at hi;cases hb:Nat.beq i0 i with
   | true=>
    obtain rfl:=qAM hb;rw[hb] at hi;simp at hi;subst hi;exact⟨j0,c0,hj0,by rw[qAQ,yBE];rfl,hc⟩
   | false=>
    rw[hb] at hi;obtain⟨j,ch',q1,q2,q3⟩:=h1 i ch hi;refine⟨j,ch',q1,?_,q3⟩;have:¬j=j0:=fun he=>by
     have:=(inj q1).1 he;subst this;rw[yBE] at hb;cases hb
    rw[qAQ,qAS (fun he=>this he.symm)];exact q2
  ·rw[qAQ] at hj;cases hb:Nat.beq j0 j with
   | true=>
    obtain rfl:=qAM hb;rw[hb] at hj;simp at hj;subst hj;exact⟨i0,c1,hj0,by rw[qAQ,yBE];rfl,hc⟩
   | false=>
    rw[hb] at hj;obtain⟨i,ch,q1,q2,q3⟩:=h2 j ch' hj;refine⟨i,ch,q1,?_,q3⟩;have:¬i=i0:=fun he=>by
     have:=(inj q1).2 he;subst this;rw[yBE] at hb;cases hb
    rw[qAQ,qAS (fun he=>this he.symm)];exact q2
theorem qLQ {m:NN}:∀ {Φ:Phi}{K:Phi->Prop},qO4 m Φ K->∃ Φr,K Φr/\∀ i,Phi.get Φr i=bif qCO m i then none else Phi.get Φ i:=by
 intro Φ
 induction Φ with
 | nil=>intro K h;exact⟨[],h,fun i=>by cases qCO m i<;>rfl⟩
 | cons x r ih=>
  obtain⟨k,c⟩:=x;intro K h;simp only[qO4] at h;cases hb:qCO m k with
  | true=>
   rw[hb] at h;obtain⟨Φr,hk,hh⟩:=ih h;refine⟨Φr,hk,fun i=>?_⟩
   rw[hh,qAQ];cases hq:Nat.beq k i with
   | true=>obtain rfl:=qAM hq;rw[hb];rfl
   | false=>rfl
  | false=>
   rw[hb] at h;obtain⟨Φr,hk,hh⟩:=ih h;refine⟨_,hk,fun i=>?_⟩
   rw[qAQ,qAQ,hh];cases hq:Nat.beq k i with
   | true=>obtain rfl:=qAM hq;rw[hb];rfl
   | false=>rfl
theorem qY3 (F R:Phi):∀ (K:Phi->Prop),qeS F R K=K (F++R):=by
 induction F with
 | nil=>intro K;rfl
 | cons e F ih=>intro K;show qeS F R _=_;rw[ih];rfl
theorem qM3 (F R:Phi) (id:Nat):Phi.get (F++R) id=match Phi.get F id with|some c=>some c|none=>Phi.get R id:=by
 induction F with
 | nil=>rfl
 | cons x r ih=>
  obtain⟨k,c⟩:=x;rw[yAO,qAQ,qAQ,ih];cases Nat.beq k id<;>rfl
theorem qLS {r r2 β sv v}(h:Rel r β sv v) (hp:sv.plainI0=true):Rel r2 β sv v:=qXP h hp (fun _ _=>rfl)
theorem qLK {r r2 β sv v}(h:Rel r β sv v) (hp:sv.plainI1=true):Rel r2 β sv v:=by
 by_cases hx:∃ l,sv=.agg l
 ·obtain⟨l,rfl⟩:=hx;obtain⟨cs,rfl,hl⟩:=h.aggL_inv;exact .aggL ⟨hl.1,fun i sv v q1 q2=>qLS (hl.2 i sv v q1 q2) (qLA hp i sv q1)⟩
 ·have:sv.plainI0=true:=by cases sv<;>first|exact hp|exact(hx ⟨_,rfl⟩).elim
  exact qLS h this
theorem qM2 {r r2 β sv v}(h:Rel r β sv v) (hp:sv.plainI=true):Rel r2 β sv v:=by
 by_cases hx:∃ l,sv=.tup l
 ·obtain⟨l,rfl⟩:=hx;obtain⟨cs,rfl,hl⟩:=h.tupL_inv;exact .tupL ⟨hl.1,fun i sv v q1 q2=>qLK (hl.2 i sv v q1 q2) (qLD hp i sv q1)⟩
 ·have:sv.plainI1=true:=by cases sv<;>first|exact hp|exact(hx ⟨_,rfl⟩).elim
  exact qLK h this
theorem qEG {r r2 β w x}{τ:Ty}{l:List τ.T}(h:Chunk.Sat r β w x (.own τ l)) (hp:τ.plain=true):Chunk.Sat r2 β w x (.own τ l):=by
 cases h with
 | own h=>
  refine .own ?_;rcases h with⟨a,h1,h2⟩|⟨b,off,cap,c,T,fr,he,hc0,hw,h0,h1,h2,h3,h4,h4',h5⟩
  ·exact .inl ⟨a,h1,h2⟩
  ·refine .inr ⟨b,off,cap,c,T,fr,he,hc0,hw,h0,h1,h2,h3,h4,h4',fun i row j sv v q1 q2 q3=>?_⟩
   have hi:i<l.length:=by have:=qAV q1;simpa using this
   have e:row=τ.enc l[i]:=by
    rw[List.getElem?_map,yAR hi] at q1;simpa using q1.symm
   exact qEL (h5 i row j sv v q1 q2 q3) (qM1 τ _ hp j sv (by rw[<-e];exact q2)) _ _
end Go.Vc

namespace Go.Vc
set_option autoImplicit false
structure After (B:Base) (e:Entry) (N:Nat) (a:Act) (σ:Env) (K:EK) (v:Value) (w':World):Prop where
 ex:∃ sv σ' Φ2 n' r2 β2,K sv σ' Φ2 n'/\Rel r2 β2 sv v/\Sat B e N r2 β2 σ' Φ2 a w'/\∀ D,qDX D σ->qDX D σ'
theorem qS3 {B:Base}{e N a w}{m:NN}{res:SV}{Φ':Phi}{σ:Env}{Φ:Phi}{n:Nat}{K:EK}(h:qMS m res Φ' σ Φ n K) {r β}(s:Sat B e N r β σ Φ a w)
    {q:Nat->Bool}(hq:∀ i,q i=true->qCO m i=false) {Φc:Phi}
    (hc1:∀ j ch,Phi.get Φc j=some ch->∃ i ch0,(i,j)∈m/\Phi.get Φ i=some ch0/\RnC m ch0 ch) (hc2:∀ i j,(i,j)∈m->∃ ch,Phi.get Φc j=some ch):
    ∃ βc,Rn m β βc/\MemSat (frz q r β Φ w) βc Φc w/\∀ {r' βc' w' v}{r2:Mem},MemSat r' βc' Φ' w'->(frz q r β Φ w).le r'->Hid (frz q r β Φ w) βc Φc w r' βc' Φ' w'->
      r.le r2->r2.le r'->(∀ id ch b,q id=true->Phi.get Φ id=some ch->ch.kind=0->ch.hb (β id) b->r2 b=none)->Rel r2 βc' res v->
      (∀ j ch,Phi.get Φ' j=some ch->ch.Sat r2 βc' w' (βc' j))->After B e N a σ K v w':=by
  unfold qMS at h;obtain⟨S, σ', Φ1,h,hS,hσ,hΦ1⟩:=qQX h;obtain⟨M0,h,hM0⟩:=qVE h;obtain⟨P,M,n',hM,h,hP,hall⟩:=qM6 h;cases hnd:(qCU M&&qCV M) with
  | false=>rw[hnd] at h;exact h.elim
  | true=>
  rw[hnd] at h;simp only[cond_true] at h;simp only[yAJ] at hnd;obtain⟨hn1,hn2⟩:=hnd;have hn1':qCU M0=true:=qSG (hM▸hn1);have hn2':qCV M0=true:=qUY (hM▸hn2);obtain⟨res',h,hres⟩:=qTR h;obtain⟨Φb,h,hb1,hb2⟩:=qK4 hn1 hn2 h;obtain⟨Φr,h,hr1⟩:=qLQ h;rw[qY3] at h;obtain⟨βc,hβc⟩:∃ βc:qBD, βc=fun j=>match qH2 M0 j with|some i=>β i|none=>.nilIface:=⟨_,rfl⟩
  have hmem:∀ {i j},(i,j)∈m->βc j=β i:=by
    intro i j hij;have:=qF8 hn1' ((hM0 i j).2 hij);rw[hβc];simp only[this]
  have uniq:∀ {i j j'},(i,j)∈m->(i,j')∈m->j=j':=by
    intro i j j' h1 h2;have a1:=qE4 hn2' ((hM0 i j).2 h1);have a2:=qE4 hn2' ((hM0 i j').2 h2);rw[a1] at a2;cases a2;rfl
  have hrn:Rn m β βc:=fun i j hij=>hmem (qEX hij)
  have hcB:∀ j ch b,Phi.get Φc j=some ch->ch.hb (βc j) b->∃ i ch0,(i,j)∈m/\Phi.get Φ i=some ch0/\ch0.hb (β i) b:=by
    intro j ch b h1 h2;obtain⟨i,ch0,g1,g2,g3⟩:=hc1 j ch h1;rw[hmem g1,g3.blk] at h2;exact⟨i,ch0,g1,g2,h2⟩
  have notq:∀ {i j},(i,j)∈m->q i=false:=by
    intro i j hij;cases hqi:q i with
    | false=>rfl
    | true=>
      have:=hq i hqi;rw[qC3.2 ⟨j,hij⟩] at this;cases this
  have frzn:∀ {i j ch0 b},(i,j)∈m->Phi.get Φ i=some ch0->ch0.hb (β i) b->frz q r β Φ w b=none:=by
    intro i j ch0 b h1 h2 h3;rw[qHJ,s.mem.sep _ _ _ h2 h3];intro id ch q1 q2 _ q4;have:=s.mem.nod _ _ _ _ _ q2 h2 q4 h3;subst this;rw[notq h1] at q1;cases q1
  have mc:MemSat (frz q r β Φ w) βc Φc w:=by
    refine⟨qQK s.mem,fun j ch hj=>?_,fun j ch b hj hb=>?_,fun j j' ch ch' b hj hj' hb hb'=>?_⟩
    · obtain⟨i,ch0,g1,g2,g3⟩:=hc1 j ch hj
      rw[hmem g1];exact g3.sat (qB7 s.mem) hrn (s.mem.chs _ _ g2) (fun _ _=>rfl)
    · obtain⟨i,ch0,g1,g2,g3⟩:=hcB j ch b hj hb
      exact frzn g1 g2 g3
    · obtain⟨i,ch0,g1,g2,g3⟩:=hcB j ch b hj hb
      obtain⟨i',ch0',g1',g2',g3'⟩:=hcB j' ch' b hj' hb';have:=s.mem.nod _ _ _ _ _ g2 g2' g3 g3';subst this;exact uniq g1 g1'
  refine⟨βc,hrn,mc,fun {r' βc' w' v r2} m' hle hid h1 h2 h3 hv hch=>?_⟩
  obtain⟨β2,hβ2⟩:∃ β2:qBD, β2=fun i=>match qIC M i with|some j=>βc' j|none=>β i:=⟨_,rfl⟩
  have F1:∀ {i j},qH2 M j=some i->β2 i=βc' j:=by
    intro i j hij;have:=qE4 hn2 (qEX hij);rw[hβ2];simp only[this]
  have inM:∀ {i j},(i,j)∈m->(j,i)∈M:=by
    intro i j hij;rw[hM];exact List.mem_append_right _ ((hM0 i j).2 hij)
  have F2:∀ {i j ch},(i,j)∈m->Phi.get Φ i=some ch->ch.kind≠0->β2 i=β i/\∃ ch',Phi.get Φ' j=some ch'/\ch'.kind=ch.kind:=by
    intro i j ch hij hg hk;obtain⟨c,hc⟩:=hc2 i j hij;obtain⟨i',ch0,g1,g2,g3⟩:=hc1 j c hc;have:i'=i:=by
      have a1:=qF8 hn1' ((hM0 i' j).2 g1);have a2:=qF8 hn1' ((hM0 i j).2 hij);rw[a1] at a2;cases a2;rfl
    subst this;rw[hg] at g2;cases g2;obtain⟨k1,ch',k2,k3⟩:=hid.keep j c hc (by rw[g3.kind];exact hk)
    refine⟨?_,ch',k2,k3.trans g3.kind⟩;rw[F1 (qF8 hn1 (inM hij)),k1,hmem hij]
  have qML:∀ {i j},(i,j)∈m->∃ ch,Phi.get Φ i=some ch:=by
    intro i j hij;obtain⟨c,hc⟩:=hc2 i j hij;obtain⟨i',ch0,g1,g2,g3⟩:=hc1 j c hc;have:i'=i:=by
      have a1:=qF8 hn1' ((hM0 i' j).2 g1);have a2:=qF8 hn1' ((hM0 i j).2 hij);rw[a1] at a2;cases a2;rfl
    subst this;exact⟨ch0,g2⟩
  have F4:∀ {sv v},qUN (S++P.map (·.2)) sv->Rel r β sv v->Rel r2 β2 sv v:=by
    intro sv v hn hr;refine(hr.bind (p:=fun k => !qD8 k (S++P.map (·.2))) (fun k hk=>?_) hn.ok).mono h1
    simp only[yAL] at hk;have hk':k∉S++P.map (·.2):=fun hm=>by rw[qB6.2 hm] at hk;cases hk
    rw[yA2,not_or] at hk';cases hl:qIC M k with
    | none=>rw[hβ2];simp only[hl]
    | some j=>
      have hmM:=qGR hl;rw[hM,yA2] at hmM;rcases hmM with hmM|hmM
      · exact absurd (yA5.2 ⟨(j,k),hmM,rfl⟩) hk'.2
      · have hkm:=(hM0 k j).1 hmM
        obtain⟨ch,hg⟩:=qML hkm;refine(F2 hkm hg fun h0=>?_).1
        exact hk'.1 (hS k j ch hkm hg h0)
  obtain⟨g1,g2,g3⟩:=back (I:=fun i=>∃ j,(i,j)∈m) s.mem (fun j ch b p1 p2=>by
    obtain⟨i,ch0,q1,q2,q3⟩:=hcB j ch b p1 p2;exact⟨i,ch0,⟨j,q1⟩,q2,q3⟩) (fun i ⟨j,hj⟩=>notq hj) hle m' hid r2 h2 h3
  have get:∀ i ch,Phi.get (Φb++Φr) i=some ch->(∃ j ch',qH2 M j=some i/\Phi.get Φ' j=some ch'/\RnC M ch' ch/\β2 i=βc' j)\/
      (¬(∃ j,(i,j)∈m)/\β2 i=β i/\Phi.get Φ1 i=some ch/\∃ c,Phi.get Φ i=some c/\StS S c ch):=by
    intro i ch hi;rw[qM3] at hi;cases hq:Phi.get Φb i with
    | some c=>
      rw[hq] at hi;cases hi;obtain⟨j,ch',q1,q2,q3⟩:=hb1 i ch hq;exact .inl ⟨j,ch',q1,q2,q3,F1 q1⟩
    | none=>
      rw[hq] at hi;simp only[hr1] at hi;cases hf:qCO m i with
      | true=>rw[hf] at hi;cases hi
      | false=>
        rw[hf] at hi;have hnm:¬∃ j,(i,j)∈m:=fun hj=>by rw[qC3.2 hj] at hf;cases hf
        refine .inr ⟨hnm,?_,hi,(hΦ1 i).1 ch hi⟩;cases hl:qIC M i with
        | none=>rw[hβ2];simp only[hl]
        | some j=>
          exfalso;have hmM:=qGR hl;rw[hM,yA2] at hmM;rcases hmM with hmM|hmM
          · exact(qC4 (hP j i hmM).2 i ch hi).1 rfl
          · exact hnm ⟨j,(hM0 i j).1 hmM⟩
  have hrnM:Rn M βc' β2:=fun j i hji=>F1 hji
  refine⟨res', σ', Φb++Φr,n',r2, β2,h,hres _ _ _ _ hrnM hv,?_,fun D hD k s0 w0 sv0 hk0=>?_⟩
  · refine s.step (s.agree.of fun k g sv' hk=>?_) ?_ h1 ?_
    · obtain⟨sv,q1,q2⟩:=hσ k g sv' hk
      refine⟨sv,q1,fun v hr=>?_⟩
      rcases q2 with rfl|⟨rfl,q2⟩
      · exact .und
      · refine F4 (fun i hi=>?_) hr
        rw[yA2] at hi;rcases hi with hi|hi
        · exact q2 i hi
        · obtain⟨⟨j,i'⟩,hji,rfl⟩:=yA5.1 hi
          exact qHY (hP j i' hji).1 k g sv' hk
    · refine ⟨g2,fun i ch hi=>?_,fun i ch b hi hb=>?_,fun i i' ch ch' b hi hi' hb hb'=>?_⟩
      · rcases get i ch hi with⟨j,ch',q1,q2,q3,q4⟩|⟨hnm,q1,q2,c,q3,q4⟩
        · rw[q4]
          exact q3.sat (Mem.le_refl r2) hrnM (hch j ch' q2) (fun _ _=>rfl)
        · rw [q1]
          have hs:=s.mem.chs _ _ q3;have hkeep:∀ b,c.hb (β i) b->w'.heap[b]?=w.heap[b]?:=fun b hb=>(g1 i c b hnm q3 hb).1
          cases q4 with
          | same hnb=>exact hs.keep h1 hkeep (fun T cells he=>(hnb T cells he).elim)
          | box hl hh=>
            cases hs with
            | box hx hw hlc hcc hT=>
              refine .box hx (by rw[hkeep _ (by rw[hx];rfl)];exact hw) (by rw[hlc,hl]) (fun k sv v p1 p2=>?_) hT
              obtain⟨sv0,a1,a2⟩:=hh k sv p1;rcases a2 with rfl|⟨rfl,a2⟩
              · exact .und
              · refine F4 (fun i0 hi0=>?_) (hcc k sv v a1 p2)
                rw[yA2] at hi0;rcases hi0 with hi0|hi0
                · exact a2 i0 hi0
                · obtain⟨⟨j,i'⟩,hji,rfl⟩:=yA5.1 hi0
                  have:=(qC4 (hP j i' hji).2 i _ q2).2;exact SV.okIdsL_get this k sv p1
      · rcases get i ch hi with⟨j,ch',q1,q2,q3,q4⟩|⟨hnm,q1,q2,c,q3,q4⟩
        · rw[q4,q3.blk] at hb
          have:=m'.sep _ _ _ q2 hb;cases hq:r2 b with
          | none=>rfl
          | some o=>rw[h2 b o hq] at this;cases this
        · rw[q1,q4.blk] at hb
          exact(g1 i c b hnm q3 hb).2.1
      · rcases get i ch hi with⟨j,cj,q1,q2,q3,q4⟩|⟨hnm,q1,q2,c,q3,q4⟩<;>rcases get i' ch' hi' with⟨j',cj',q1',q2',q3',q4'⟩|⟨hnm',q1',q2',c',q3',q4'⟩
        · rw[q4,q3.blk] at hb
          rw[q4',q3'.blk] at hb';have:=m'.nod _ _ _ _ _ q2 q2' hb hb';subst this;rw[q1] at q1';cases q1';rfl
        · rw[q4,q3.blk] at hb
          rw[q1',q4'.blk] at hb';exact((g1 i' c' b hnm' q3' hb').2.2 j cj q2 hb).elim
        · rw[q1,q4.blk] at hb
          rw[q4',q3'.blk] at hb';exact((g1 i c b hnm q3 hb).2.2 j' cj' q2' hb').elim
        · rw[q1,q4.blk] at hb
          rw[q1',q4'.blk] at hb';exact s.mem.nod _ _ _ _ _ q3 q3' hb hb'
    · refine ⟨hid.os,hid.tape,hid.output,hid.size,fun b hb p1 p2=>?_,fun i ch hi hk=>?_⟩
      · obtain⟨a1,a2,a3⟩:=g3 b hb p1 p2
        refine⟨a1,a2,fun i ch hi hcb=>?_⟩
        rcases get i ch hi with⟨j,ch',q1,q2,q3,q4⟩|⟨hnm,q1,q2,c,q3,q4⟩
        · rw[q4,q3.blk] at hcb
          exact a3 j ch' q2 hcb
        · rw[q1,q4.blk] at hcb
          exact p2 i c q3 hcb
      · cases hf:qCO m i with
        | true=>
          obtain⟨j,hij⟩:=qC3.1 hf;obtain⟨k1,ch',k2,k3⟩:=F2 hij hi hk;obtain⟨i',ch2,q1,q2,q3⟩:=hb2 j ch' k2;have:i'=i:=by
            have:=qF8 hn1 (inM hij);rw[this] at q1;cases q1;rfl
          subst this;exact⟨k1,ch2,by rw[qM3,q2],q3.kind.trans k3⟩
        | false=>
          have hnm:¬∃ j,(i,j)∈m:=fun hj=>by rw[qC3.2 hj] at hf;cases hf
          obtain⟨c1,hc1'⟩:=(hΦ1 i).2 ch hi;obtain⟨c0,p1,p2⟩:=(hΦ1 i).1 c1 hc1';rw[hi] at p1;cases p1;have hnl:qIC M i=none:=by
            cases hl:qIC M i with
            | none=>rfl
            | some j=>
              exfalso;have hmM:=qGR hl;rw[hM,yA2] at hmM;rcases hmM with hmM|hmM
              · exact(qC4 (hP j i hmM).2 i c1 hc1').1 rfl
              · exact hnm ⟨j,(hM0 i j).1 hmM⟩
          have hnb:Phi.get Φb i=none:=by
            cases hq:Phi.get Φb i with
            | none=>rfl
            | some c=>
              obtain⟨j,ch',q1,_,_⟩:=hb1 i c hq;have:=qE4 hn2 (qEX q1);rw[hnl] at this;cases this
          refine⟨by rw[hβ2];simp only[hnl],c1,?_,p2.kind⟩
          rw[qM3,hnb];simp only[hr1,hf,cond_false];exact hc1'
  · obtain⟨sv1,q1,_⟩:=hσ k _ _ hk0
    exact hD _ _ _ _ q1
end Go.Vc

namespace Go.Vc
set_option autoImplicit false
theorem qUS {id:Nat}{l:List SV}{r:List Nat}:id∈qV9 l r↔(SV.own id∈l\/id∈r):=by
 induction l with
 | nil=>simp[qV9]
 | cons x xs ih=>
  simp only[qV9,yA3];by_cases hx:∃ i,x=.own i
  ·obtain⟨i,rfl⟩:=hx;simp only[qmH,yA3,ih,SV.own.injEq];constructor
   ·rintro(h|h|h)
    ·exact .inl (.inl h)
    ·exact .inl (.inr h)
    ·exact .inr h
   ·rintro((h|h)|h)
    ·exact .inl h
    ·exact .inr (.inl h)
    ·exact .inr (.inr h)
  ·have e:qmH x (qV9 xs r)=qV9 xs r:=by cases x<;>first|rfl|exact(hx ⟨_,rfl⟩).elim
   rw[e,ih];constructor
   ·rintro(h|h)
    ·exact .inl (.inr h)
    ·exact .inr h
   ·rintro((h|h)|h)
    ·exact(hx ⟨id,h.symm⟩).elim
    ·exact .inl h
    ·exact .inr h
theorem qJZ {id:Nat}{x:SV}{xs:List SV}:(id∈qGW xs->id∈qGW (x::xs))/\(x=.own id->id∈qGW (x::xs))/\(∀ l,x=.agg l->SV.own id∈l->id∈qGW (x::xs)):=by
 by_cases hx:∃ l,x=.agg l
 ·obtain⟨l,rfl⟩:=hx;refine⟨fun h=>qUS.2 (.inr h),(fun h=>by cases h),fun l' h hm=>?_⟩
  cases h;exact qUS.2 (.inl hm)
 ·have e:qGW (x::xs)=qmH x (qGW xs):=by cases x<;>first|rfl|exact(hx ⟨_,rfl⟩).elim
  rw[e];refine⟨fun h=>?_,fun h=>by subst h;simp[qmH],fun l h=>(hx ⟨l,h⟩).elim⟩
  cases x<;>first|exact h|(simp[qmH,h])
theorem qoM {Φ:Phi}{x:SV}{K:SV->Prop}(h:ln0 Φ x K):∃ y,K y/\∀ q r β w v,(∀ id,x=.own id->q id=true)->MemSat r β Φ w->Rel r β x v->Rel (frz q r β Φ w) β y v:=by
 by_cases hx:∃ id,x=.own id
 ·obtain⟨id,rfl⟩:=hx;simp only[ln0] at h;split at h
  ·rename_i τ l hg;refine⟨_,h,fun q r β w v hq m hr=>?_⟩
   cases hr;exact qNV m (hq id rfl) hg β
  ·exact h.elim
 ·have h':K x:=by cases x<;>first|exact h|exact(hx ⟨_,rfl⟩).elim
  exact⟨x,h',fun q r β w v _ m hr=>hr.mono (qB7 m)⟩
theorem qkX {Φ:Phi}:∀ {xs:List SV}{K:List SV->Prop},qL8 Φ xs K->∃ ys,K ys/\∀ q r β w vs,(∀ id∈qGW xs,q id=true)->MemSat r β Φ w->qA5 r β xs vs->qA5 (frz q r β Φ w) β ys vs:=by
 intro xs
 induction xs with
 | nil=>intro K h;exact⟨[],h,fun q r β w vs _ m hv=>by rw[hv.nil_inv];exact .nil⟩
 | cons x xs ih=>
  intro K h;have h:ln1 Φ x fun y=>qL8 Φ xs fun l=>K (y::l):=h
  have one:∃ y,(qL8 Φ xs fun l=>K (y::l))/\∀ q r β w v,(∀ id∈qGW (x::xs),q id=true)->MemSat r β Φ w->Rel r β x v->Rel (frz q r β Φ w) β y v:=by
   by_cases hx:∃ l,x=.agg l
   ·obtain⟨l,rfl⟩:=hx;obtain⟨ys,hk,hl,hh⟩:=qDD (D:=ln0 Φ) (DL:=qm6 Φ) (R:=fun x y=>∀ q r β w v,(∀ id,x=.own id->q id=true)->MemSat r β Φ w->Rel r β x v->Rel (frz q r β Φ w) β y v) (fun _ h=>h) (fun _ _ _ h=>h) (fun _ _ h=>qoM h) l _ h
    refine⟨_,hk,fun q r β w v hq m hv=>?_⟩
    obtain⟨cs,rfl,hcs⟩:=hv.aggL_inv;refine .aggL ⟨by rw[hcs.1,hl],fun i y v q1 q2=>?_⟩
    obtain⟨x0,p1,p2⟩:=hh i y q1;exact p2 q r β w v (fun id he=>hq id (qJZ.2.2 l rfl (by rw[<-he];exact yA6 p1))) m (hcs.2 i x0 v p1 q2)
   ·have h':ln0 Φ x fun y=>qL8 Φ xs fun l=>K (y::l):=by cases x<;>first|exact h|exact(hx ⟨_,rfl⟩).elim
    obtain⟨y,hk,hr⟩:=qoM h';exact⟨y,hk,fun q r β w v hq m hv=>hr q r β w v (fun id he=>hq id (qJZ.2.1 he)) m hv⟩
  obtain⟨y,h,hy⟩:=one;obtain⟨ys,hk,hys⟩:=ih h;refine⟨_,hk,fun q r β w vs hq m hv=>?_⟩
  obtain⟨v,us,rfl,hv1,hv2⟩:=hv.uncons;exact qA5.cons (hy q r β w v hq m hv1) (hys q r β w us (fun id hi=>hq id (qJZ.1 hi)) m hv2)
theorem qVG {m:NN}{l:List Nat}(h:qYH m l=true):∀ i,qD8 i l=true->qCO m i=false:=by
 induction l with
 | nil=>intro i hi;cases hi
 | cons x r ih=>
  simp only[qYH,yAJ,yAL] at h;intro i hi;simp only[qD8,yAN] at hi;rcases hi with hi|hi
  ·rw[<-qAM hi];exact h.1
  ·exact ih h.2 i hi
theorem qD6 {B:Base}{e N a w f args lent σ Φ n}{K:EK}(h:qPM B f args lent σ Φ n K) {r β}(s:Sat B e N r β σ Φ a w) {vs:List Value}
  (hargs:qA5 (frz (fun i=>qD8 i lent) r β Φ w) β args vs):
  (∀ w,(callFunc f vs.toArray).run B.P w=.ok (.enter f vs.toArray) w)/\Calls B.P f vs.toArray w fun ev w'=>∃ v,ev=.returned v/\After B e N a σ K v w':=by
 obtain⟨m,h⟩:=qE0 h;obtain⟨cargs,h,hl,hh⟩:=qKU h;obtain⟨Φc,h,hc1,hc2⟩:=qW5 h;cases h with
 | mk hlt hp k=>
  rename_i pre res Φ' fn;simp only[yAJ] at hlt;obtain⟨hlt,hpl⟩:=hlt;obtain⟨βc,hrn,mc,fin⟩:=qS3 k s (qVG hlt) hc1 hc2;refine⟨fun w=>fn.call _ w,?_⟩
  refine(fn.ok hp.h _ βc w vs (B.mono _ _ (qB7 s.mem) s.G) mc (qDT hl hh (fun x y v hR hx=>hR _ _ _ _ hrn hx) hargs)).mono ?_
  rintro ev w' ⟨v,sv,r', βc', Φ1,he,⟨rfl,rfl⟩,hr,m',hle,hid⟩;refine⟨v,he,?_⟩;cases lent with
  | nil=>
   have hz:frz (fun i=>qD8 i []) r β Φ w=r:=qDY
   exact fin m' hle hid (by rw[hz] at hle;exact hle) (Mem.le_refl r') (fun _ _ _ h=>by cases h) hr (fun j ch hj=>m'.chs _ _ hj)
  | cons x l=>
   have hpl:(SV.plainI sv&&qLB Φ1)=true:=hpl;simp only[yAJ] at hpl;refine fin (r2:=fun b=>if b<w.heap.size then r b else r' b) m' hle hid (fun b o hb=>?_) (fun b o hb=>?_) (fun id ch b _ p1 _ p3=>?_) (qM2 hr hpl.1) (fun j ch hj=>?_)
   ·have:=qD5 (s.mem.vis _ _ hb);simp only[this,if_true];exact hb
   ·simp only at hb;split at hb
    ·exact hle _ _ (qB7 s.mem _ _ hb)
    ·exact hb
   ·simp only[qE8 s.mem p1 p3,if_true];exact s.mem.sep _ _ _ p1 p3
   ·obtain⟨τ,l,rfl,hτ⟩:=qKI hpl.2 hj;exact qEG (m'.chs _ _ hj) hτ
inductive RoEq:Chunk->Chunk->Prop
 | same (c):RoEq c c
 | lend (τ) (l:List (Ty.T τ)):RoEq (.own τ l) (.ro τ l)
 | back (τ) (l:List (Ty.T τ)):RoEq (.ro τ l) (.own τ l)
 | fix (τ) (l:List (Ty.T τ)):RoEq (.own τ l) (.ow τ l)
 | fix2 (τ) (l:List (Ty.T τ)):RoEq (.ro τ l) (.ow τ l)
theorem RoEq.blk {c c':Chunk}(h:RoEq c c') (x:Value):c'.hb x=c.hb x:=by
 cases h with
 | same=>rfl
 | lend τ l=>cases x<;>first|rfl|(rename_i a _ _;cases a<;>rfl)
 | back τ l=>cases x<;>first|rfl|(rename_i a _ _;cases a<;>rfl)
 | fix τ l=>cases x<;>first|rfl|(rename_i a _ _;cases a<;>rfl)
 | fix2 τ l=>cases x<;>first|rfl|(rename_i a _ _;cases a<;>rfl)
theorem RoEq.sat {c c':Chunk}(h:RoEq c c') {r β w x}(hs:c.Sat r β w x):c'.Sat r β w x:=by
 cases h with
 | same=>exact hs
 | lend τ l=>cases hs with|own h=>exact .ro h
 | back τ l=>cases hs with|ro h=>exact .own h
 | fix τ l=>cases hs with|own h=>exact .ow h
 | fix2 τ l=>cases hs with|ro h=>exact .ow h
theorem qRG {B:Base}{e N r β σ Φ Φ2 a w}(s:Sat B e N r β σ Φ a w) (hsw:∀ j c2,Phi.get Φ2 j=some c2->∃ c,Phi.get Φ j=some c/\RoEq c c2)
  (hkeep:∀ id ch,Phi.get e.Φ id=some ch->ch.kind≠0->Phi.get Φ2 id=Phi.get Φ id):Sat B e N r β σ Φ2 a w:=by
 refine⟨s.agree,⟨s.mem.vis,fun j c2 h=>?_,fun j c2 b h hb=>?_,fun j j' c2 c2' b h h' hb hb'=>?_⟩,s.G,⟨s.kept.le,s.kept.os,s.kept.tape,s.kept.output,s.kept.size,fun b hb=>?_,fun id ch h hk=>?_,s.kept.slt⟩,?_,s.size⟩
 ·obtain⟨c,h1,h2⟩:=hsw j c2 h;exact h2.sat (s.mem.chs _ _ h1)
 ·obtain⟨c,h1,h2⟩:=hsw j c2 h;rw[h2.blk] at hb;exact s.mem.sep _ _ _ h1 hb
 ·obtain⟨c,h1,h2⟩:=hsw j c2 h;obtain⟨c',h1',h2'⟩:=hsw j' c2' h';rw[h2.blk] at hb;rw[h2'.blk] at hb';exact s.mem.nod _ _ _ _ _ h1 h1' hb hb'
 ·obtain⟨x1,x2,x3⟩:=s.kept.block b hb;refine⟨x1,x2,fun j c2 h hb'=>?_⟩
  obtain⟨c,g1,g2⟩:=hsw j c2 h;rw[g2.blk] at hb';exact x3 j c g1 hb'
 ·obtain⟨q1,ch',q2,q3⟩:=s.kept.keep id ch h hk;exact⟨q1,ch',by rw[hkeep id ch h hk];exact q2,q3⟩
 ·obtain⟨Ds,h1,h2,h3⟩:=s.defers;refine⟨Ds,h1,h2,fun D hD=>?_⟩
  obtain⟨g1,g2,g3,g4⟩:=h3 D hD;refine⟨g1,g2,g3,fun j c2 h hb=>?_⟩
  obtain⟨c,k1,k2⟩:=hsw j c2 h;rw[k2.blk] at hb;exact g4 j c k1 hb
theorem qdL:∀ {ids:List Nat}{Φ:Phi}{K:Phi->Prop},roK ids Φ K->∃ Φr,K Φr/\(∀ j c2,Phi.get Φr j=some c2->∃ c,Phi.get Φ j=some c/\RoEq c c2)/\(∀ j,j∉ids->Phi.get Φr j=Phi.get Φ j)/\(∀ j∈ids,∃ τ l,Phi.get Φ j=some (.own τ l)/\Phi.get Φr j=some (.ro τ l)):=by
 intro ids
 induction ids with
 | nil=>intro Φ K h;exact⟨Φ,h,fun j c2 hj=>⟨c2,hj,.same _⟩,fun _ _=>rfl,fun j hj=>by cases hj⟩
 | cons i ids ih=>
  intro Φ K h;simp only[roK] at h;split at h
  ·rename_i τ l hg;obtain⟨Φ1,h,hΦ⟩:=qAP h (qA7 hg);obtain⟨Φr,hk,h1,h2,h3⟩:=ih h;have hi1:Phi.get Φ1 i=some (.ro τ l):=by rw[hΦ,yBE];rfl
   have hni:i∉ids:=fun hm=>by
    obtain⟨τ',l',g1,_⟩:=h3 i hm;rw[hi1] at g1;cases g1
   have hne:∀ j,j≠i->Phi.get Φ1 j=Phi.get Φ j:=fun j hj=>by rw[hΦ,qAS (fun h=>hj h.symm)];rfl
   refine⟨Φr,hk,fun j c2 hj=>?_,fun j hj=>?_,fun j hj=>?_⟩
   ·by_cases hji:j=i
    ·subst hji;rw[h2 j hni,hi1] at hj;cases hj;exact⟨_,hg,.lend τ l⟩
    ·obtain⟨c,g1,g2⟩:=h1 j c2 hj;rw[hne j hji] at g1;exact⟨c,g1,g2⟩
   ·simp only[yA3,not_or] at hj;rw[h2 j hj.2,hne j hj.1]
   ·by_cases hji:j=i
    ·subst hji;exact⟨τ,l,hg,by rw[h2 j hni,hi1]⟩
    ·rcases yA3.1 hj with h|hj
     ·exact(hji h).elim
     ·obtain⟨τ',l',g1,g2⟩:=h3 j hj;rw[hne j hji] at g1;exact⟨τ',l',g1,g2⟩
  ·exact h.elim
  ·exact h.elim
theorem qWG:∀ {ids:List Nat}{Φ:Phi}{K:Phi->Prop},qgJ ids Φ K->∃ Φr,K Φr/\(∀ j c2,Phi.get Φr j=some c2->∃ c,Phi.get Φ j=some c/\RoEq c c2)/\(∀ j,j∉ids->Phi.get Φr j=Phi.get Φ j):=by
 intro ids
 induction ids with
 | nil=>intro Φ K h;exact⟨Φ,h,fun j c2 hj=>⟨c2,hj,.same _⟩,fun _ _=>rfl⟩
 | cons i ids ih=>
  intro Φ K h;simp only[qgJ] at h;split at h
  ·rename_i τ l hg;obtain⟨Φ1,h,hΦ⟩:=qAP h (qA7 hg);obtain⟨Φr,hk,h1,h2⟩:=ih h;have hi1:Phi.get Φ1 i=some (.own τ l):=by rw[hΦ,yBE];rfl
   have hne:∀ j,j≠i->Phi.get Φ1 j=Phi.get Φ j:=fun j hj=>by rw[hΦ,qAS (fun h=>hj h.symm)];rfl
   refine⟨Φr,hk,fun j c2 hj=>?_,fun j hj=>?_⟩
   ·obtain⟨c,g1,g2⟩:=h1 j c2 hj;by_cases hji:j=i
    ·subst hji;rw[hi1] at g1;cases g1;cases g2 with
     | same=>exact⟨_,hg,.back τ l⟩
     | lend=>exact⟨_,hg,.same _⟩
     | fix=>exact⟨_,hg,.fix2 τ l⟩
    ·rw[hne j hji] at g1;exact⟨c,g1,g2⟩
   ·simp only[yA3,not_or] at hj;rw[h2 j hj.2,hne j hj.1]
  ·exact h.elim
theorem qZZ:∀ {ids:List Nat}{Φ:Phi}{K:Phi->Prop},qnD ids Φ K->∃ Φr,K Φr/\(∀ j c2,Phi.get Φr j=some c2->∃ c,Phi.get Φ j=some c/\RoEq c c2)/\(∀ j c,Phi.get Φ j=some c->c.kind≠0->Phi.get Φr j=Phi.get Φ j):=by
 intro ids
 induction ids with
 | nil=>intro Φ K h;exact⟨Φ,h,fun j c2 hj=>⟨c2,hj,.same _⟩,fun _ _ _ _=>rfl⟩
 | cons i ids ih=>
  intro Φ K h;simp only[qnD] at h;split at h
  ·rename_i τ l hg;obtain⟨Φ1,h,hΦ⟩:=qAP h (qA7 hg);obtain⟨Φr,hk,h1,h2⟩:=ih h;have hi1:Phi.get Φ1 i=some (.ow τ l):=by rw[hΦ,yBE];rfl
   have hne:∀ j,j≠i->Phi.get Φ1 j=Phi.get Φ j:=fun j hj=>by rw[hΦ,qAS (fun h=>hj h.symm)];rfl
   refine⟨Φr,hk,fun j c2 hj=>?_,fun j c hj hk0=>?_⟩
   ·obtain⟨c,g1,g2⟩:=h1 j c2 hj;by_cases hji:j=i
    ·subst hji;rw[hi1] at g1;cases g1;cases g2 with
     | same=>exact⟨_,hg,.fix τ l⟩
    ·rw[hne j hji] at g1;exact⟨c,g1,g2⟩
   ·have hji:j≠i:=fun he=>by subst he;rw[hg] at hj;cases hj;exact hk0 rfl
    rw[h2 j c (by rw[hne j hji];exact hj) hk0,hne j hji]
  ·exact ih h
  ·exact h.elim
theorem qhY {B:Base}{e N r β σ Φ a w}{ids:List Nat}{K:Phi->Prop}(h:qnD ids Φ K) (s:Sat B e N r β σ Φ a w):∃ Φr,K Φr/\Sat B e N r β σ Φr a w:=by
 obtain⟨Φr,hk,h1,h2⟩:=qZZ h;refine⟨Φr,hk,qRG s h1 fun id ch hi hk0=>?_⟩
 obtain⟨_,ch',q2,q3⟩:=s.kept.keep id ch hi hk0;rw[h2 id ch' q2 (by rw[q3];exact hk0)]
theorem qb6 (i:Nat):∀ l:List Nat,qjC.mem0 i l=qD8 i l
 | []=>rfl
 | x::r=>by simp only[qjC.mem0,qD8,qb6 i r]
theorem qPN {ids:List Nat}{Φ:Phi}{x:SV}{K:SV->Prop}(h:qjC ids Φ x K):∃ y,K y/\∀ r β w v,MemSat r β Φ w->Rel r β x v->Rel (frz (fun i=>qD8 i ids) r β Φ w) β y v:=by
 by_cases hx:∃ id,x=.own id
 ·obtain⟨id,rfl⟩:=hx;simp only[qjC,qb6] at h;cases hm:qD8 id ids with
  | false=>rw[hm] at h;exact⟨_,h,fun r β w v m hr=>hr.mono (qB7 m)⟩
  | true=>
   rw[hm] at h;simp only[cond_true] at h;split at h
   ·rename_i τ l hg;refine⟨_,h,fun r β w v m hr=>?_⟩
    cases hr;exact qNV m hm hg β
   ·exact h.elim
 ·have h':K x:=by cases x<;>first|exact h|exact(hx ⟨_,rfl⟩).elim
  exact⟨x,h',fun r β w v m hr=>hr.mono (qB7 m)⟩
theorem qaO {ids:List Nat}{Φ:Phi}{x:SV}{K:SV->Prop}(h:zD9 ids Φ x K):∃ y,K y/\∀ r β w v,MemSat r β Φ w->Rel r β x v->Rel (frz (fun i=>qD8 i ids) r β Φ w) β y v:=by
 by_cases hx:∃ l,x=.agg l
 ·obtain⟨l,rfl⟩:=hx;obtain⟨ys,hk,hl,hh⟩:=qDD (D:=qjC ids Φ) (DL:=qlZ ids Φ) (fun _ h=>h) (fun _ _ _ h=>h) (fun _ _ h=>qPN h) l _ h
  refine⟨_,hk,fun r β w v m hv=>?_⟩
  obtain⟨cs,rfl,hc⟩:=hv.aggL_inv;exact .aggL (qDT hl hh (fun x y v hR hx=>hR r β w v m hx) hc)
 ·have h':qjC ids Φ x K:=by cases x<;>first|exact h|exact(hx ⟨_,rfl⟩).elim
  exact qPN h'
theorem qWQ {ids:List Nat}{Φ:Phi}{xs:List SV}{K:List SV->Prop}(h:qgY ids Φ xs K):∃ ys,K ys/\∀ r β w vs,MemSat r β Φ w->qA5 r β xs vs->qA5 (frz (fun i=>qD8 i ids) r β Φ w) β ys vs:=by
 obtain⟨ys,hk,hl,hh⟩:=qDD (D:=zD9 ids Φ) (DL:=qgY ids Φ) (fun _ h=>h) (fun _ _ _ h=>h) (fun _ _ h=>qaO h) xs K h
 exact⟨ys,hk,fun r β w vs m hv=>qDT hl hh (fun x y v hR hx=>hR r β w v m hx) hv⟩
theorem qJ5 {Φ:Phi}{id:Nat}:qH5 Φ id=true↔∃ c,Phi.get Φ id=some c:=by
 unfold qH5;cases h:Phi.get Φ id with
 | none=>simp
 | some c=>simp
theorem qTX {nm:Nat->Bool}{Φ0 Φa:Phi}:∀ {Φ:Phi}{K:Phi->Prop},gcP nm Φ0 Φa Φ K->∃ Φ',K Φ'/\(∀ id c,Phi.get Φ' id=some c->Phi.get Φ id=some c)/\(∀ id,qH5 Φ0 id=true->Phi.get Φ' id=Phi.get Φ id):=by
 intro Φ
 induction Φ with
 | nil=>intro K h;exact⟨[],h,fun _ _ h=>h,fun _ _=>rfl⟩
 | cons x r ih=>
  obtain⟨i,c⟩:=x;intro K h;have gc:∀ (l:Phi) j,Phi.get ((i,c)::l) j=bif Nat.beq i j then some c else Phi.get l j:=fun l j=>rfl
  unfold gcP at h;cases hl:qRT ((i,c)::r) Φ0 with
  | true=>rw[hl] at h;exact⟨_,h,fun _ _ h=>h,fun _ _=>rfl⟩
  | false=>
   rw[hl] at h;simp only[cond_false] at h;cases hb:(qH5 Φ0 i||(nm i||(qX8 i Φa||qH5 r i))) with
   | true=>
    rw[hb] at h;obtain⟨Φ',hk,h1,h2⟩:=ih h;refine⟨_,hk,fun j c' hj=>?_,fun j hj=>?_⟩
    ·rw[gc] at hj ⊢;cases he:Nat.beq i j with
     | true=>rw[he] at hj;exact hj
     | false=>rw[he] at hj;exact h1 j c' hj
    ·rw[gc,gc];cases he:Nat.beq i j with
     | true=>rfl
     | false=>exact h2 j hj
   | false=>
    rw[hb] at h;simp only[yAM] at hb;obtain⟨Φ',hk,h1,h2⟩:=ih h;refine⟨_,hk,fun j c' hj=>?_,fun j hj=>?_⟩
    ·have h3:=h1 j c' hj;rw[gc];cases he:Nat.beq i j with
     | true=>
      obtain rfl:=qAM he;have h4:=qJ5.2 ⟨c',h3⟩;rw[hb.2.2.2] at h4;cases h4
     | false=>exact h3
    ·rw[gc];cases he:Nat.beq i j with
     | true=>
      obtain rfl:=qAM he;rw[hb.1] at hj;cases hj
     | false=>exact h2 j hj
theorem qaB {Φ0:Phi}:∀ {σ:Env}{K:Env->Prop},qk7 Φ0 σ K->∃ σ',K σ'/\∀ k g sv',Env.get σ' k=some (g,sv')->∃ sv,Env.get σ k=some (g,sv)/\(sv'=.und\/sv'=sv):=by
 intro σ
 induction σ with
 | nil=>intro K h;exact⟨[],h,fun k g sv' hk=>⟨sv',hk,.inr rfl⟩⟩
 | cons x r ih=>
  obtain⟨k0,g0,sv0⟩:=x;intro K h;have step:∀ y,(y=SV.und\/y=sv0)->qk7 Φ0 r (fun l=>K ((k0,g0,y)::l))->∃ σ',K σ'/\∀ k g sv',Env.get σ' k=some (g,sv')->∃ sv,Env.get ((k0,g0,sv0)::r) k=some (g,sv)/\(sv'=.und\/sv'=sv):=by
   intro y hy h;obtain⟨σ',hk,hg⟩:=ih h;refine⟨(k0,g0,y)::σ',hk,fun k g sv' hh=>?_⟩
   rw[qAX] at hh ⊢;cases hb:Nat.beq k0 k with
   | true=>
    rw[hb] at hh;simp only[cond_true,Option.some.injEq,Prod.mk.injEq] at hh;obtain⟨rfl,rfl⟩:=hh;exact⟨sv0,by simp,hy⟩
   | false=>
    rw[hb] at hh;simp only[cond_false] at hh ⊢;exact hg k g sv' hh
  unfold qk7 at h;split at h
  ·rename_i id off;cases hb:qH5 Φ0 id with
   | true=>rw[hb] at h;exact step _ (.inr rfl) h
   | false=>rw[hb] at h;exact step _ (.inl rfl) h
  ·exact step _ (.inr rfl) h
theorem Sat.less {B:Base}{e N r β σ Φ a w}(s:Sat B e N r β σ Φ a w) {σ':Env}{Φ':Phi}(hs:∀ k g sv',Env.get σ' k=some (g,sv')->∃ sv,Env.get σ k=some (g,sv)/\(sv'=.und\/sv'=sv))
  (h1:∀ id c,Phi.get Φ' id=some c->Phi.get Φ id=some c) (h2:∀ id ch,Phi.get e.Φ id=some ch->ch.kind≠0->Phi.get Φ' id=Phi.get Φ id):Sat B e N r β σ' Φ' a w:=by
 refine⟨fun k g sv' hh=>?_,⟨s.mem.vis,fun id c h=>s.mem.chs id c (h1 id c h),fun id c b h=>s.mem.sep id c b (h1 id c h),fun i j c c' b p q=>s.mem.nod i j c c' b (h1 i c p) (h1 j c' q)⟩,s.G,
  ⟨s.kept.le,s.kept.os,s.kept.tape,s.kept.output,s.kept.size,fun b hb=>?_,fun id ch hi hk=>?_,s.kept.slt⟩,?_,s.size⟩
 ·obtain⟨sv,q1,q2⟩:=hs k g sv' hh;have ha:=s.agree k g sv q1;rcases q2 with rfl|rfl
  ·cases g with
   | none=>obtain⟨u,a1,_⟩:=ha;exact⟨u,a1,.und⟩
   | some gd=>exact⟨fun hs=>by obtain⟨u,a1,_⟩:=ha.1 hs;exact⟨u,a1,.und⟩,ha.2⟩
  ·exact ha
 ·obtain⟨x1,x2,x3⟩:=s.kept.block b hb;exact⟨x1,x2,fun id ch h=>x3 id ch (h1 id ch h)⟩
 ·obtain⟨q1,q2⟩:=s.kept.keep id ch hi hk;exact⟨q1,by rw[h2 id ch hi hk];exact q2⟩
 ·obtain⟨Ds,p1,p2,p3⟩:=s.defers;exact⟨Ds,p1,p2,fun D hD=>by obtain⟨g1,g2,g3,g4⟩:=p3 D hD;exact⟨g1,g2,g3,fun id ch h=>g4 id ch (h1 id ch h)⟩⟩
theorem qUJ {Φ:Phi}:∀ {σ:Env}{K:Env->Prop},qLR Φ σ K->∃ σ',K σ'/\∀ k g sv',Env.get σ' k=some (g,sv')->∃ sv,Env.get σ k=some (g,sv)/\(sv'=.und\/(sv'=sv/\sv.okIds (qmD Φ)=true)):=by
 intro σ
 induction σ with
 | nil=>intro K h;exact⟨[],h,fun k g sv' hk=>⟨sv',hk,by simp[Env.get] at hk⟩⟩
 | cons x r ih=>
  obtain⟨k0,g0,sv0⟩:=x;intro K h;have step:∀ y,(y=SV.und\/(y=sv0/\sv0.okIds (qmD Φ)=true))->qLR Φ r (fun l=>K ((k0,g0,y)::l))->∃ σ',K σ'/\∀ k g sv',Env.get σ' k=some (g,sv')->∃ sv,Env.get ((k0,g0,sv0)::r) k=some (g,sv)/\(sv'=.und\/(sv'=sv/\sv.okIds (qmD Φ)=true)):=by
   intro y hy h;obtain⟨σ',hk,hg⟩:=ih h;refine⟨(k0,g0,y)::σ',hk,fun k g sv' hh=>?_⟩
   rw[qAX] at hh ⊢;cases hb:Nat.beq k0 k with
   | true=>
    rw[hb] at hh;simp only[cond_true,Option.some.injEq,Prod.mk.injEq] at hh;obtain⟨rfl,rfl⟩:=hh;exact⟨sv0,by simp,hy⟩
   | false=>
    rw[hb] at hh;simp only[cond_false] at hh ⊢;exact hg k g sv' hh
  unfold qLR at h;cases hb:sv0.okIds (qmD Φ) with
  | true=>rw[hb] at h;exact step sv0 (.inr ⟨rfl,hb⟩) h
  | false=>rw[hb] at h;exact step .und (.inl rfl) h
theorem qWI {B:Base}{e N a w f args σ Φ n}{K:EK}(h:CallS B f args σ Φ n K) {r β}(s:Sat B e N r β σ Φ a w) {vs:List Value}(hargs:qA5 r β args vs) {o:Oper}
  (hrun:∀ w,(execOp a.eval o).run B.P w=(callFunc f vs.toArray).run B.P w):OpTo B.P a w o (After B e N a σ K):=by
 cases h with
 | q h=>
  obtain⟨sv,hk,hop⟩:=qO5 h;refine(hop (fun _ h=>h) r β w vs a o s.G s.mem hargs hrun).mono ?_
  rintro v w' ⟨r',hr,hle,m',hid⟩;exact⟨sv, σ, Φ,n,r', β,hk,hr,s.step (s.agree.of fun k g sv hk=>⟨sv,hk,fun v hr=>hr.mono hle⟩) m' hle hid,fun D hD=>hD⟩
 | m h=>
  obtain⟨ys,h,hl⟩:=qkX h;obtain⟨h1,h2⟩:=qD6 h s (hl _ r β w vs (fun id hi=>qB6.2 hi) s.mem hargs)
  exact .call f vs.toArray (by rw[hrun];exact h1 _) h2
 | l ids h=>
  obtain⟨ys,h,hl⟩:=qWQ h;obtain⟨h1,h2⟩:=qD6 h s (hl r β w vs s.mem hargs);exact .call f vs.toArray (by rw[hrun];exact h1 _) h2
 | h h=>
  obtain⟨h1,h2⟩:=qD6 h s (by
   have hz:frz (fun i=>qD8 i []) r β Φ w=r:=qDY
   rw[hz];exact hargs)
  exact .call f vs.toArray (by rw[hrun];exact h1 _) h2
 | i hc h=>
  refine .call f vs.toArray (by rw[hrun];exact hc _ _) ((h r β w vs s.G s.mem hargs).mono ?_)
  rintro ev w' ⟨v,sv,r', β', Φ',he,⟨n',hk⟩,hr,m',hle,hid⟩;obtain⟨Φ'',hk,gc1,gc2⟩:=qTX hk;obtain⟨σ',hk,hg⟩:=qUJ hk;have hp:∀ id,qmD Φ id=true->β' id=β id:=fun id hb=>by
   unfold qmD at hb;split at hb
   ·rename_i ch hi;exact(hid.keep id ch hi (fun e=>by rw[e] at hb;exact absurd hb (by decide))).1
   ·cases hb
  have s1:Sat B e N r' β' σ' Φ' a w':=by
   refine s.step (fun k g sv' hh=>?_) m' hle hid
   obtain⟨sv0,q1,q2⟩:=hg k g sv' hh;have ha:=s.agree k g sv0 q1;have up:∀ u,Rel r β sv0 u->Rel r' β' sv' u:=fun u hu=>by
    rcases q2 with rfl|⟨rfl,q3⟩
    ·exact .und
    ·exact(hu.bind hp q3).mono hle
   cases g with
   | none=>obtain⟨u,a1,a2⟩:=ha;exact⟨u,a1,up u a2⟩
   | some gd=>exact⟨fun hs=>by obtain⟨u,a1,a2⟩:=ha.1 hs;exact⟨u,a1,up u a2⟩,ha.2⟩
  have s2:Sat B e N r' β' σ' Φ'' a w':=s1.less (fun k g sv' hh=>⟨sv',hh,.inr rfl⟩) gc1 (fun id ch hi hk0=>by
   obtain⟨_,c0,q1,_⟩:=s.kept.keep id ch hi hk0;exact gc2 id (qJ5.2 ⟨c0,q1⟩))
  have hD:∀ D,qDX D σ->qDX D σ':=fun D hD k s w sv' hh=>by
   obtain⟨sv0,q1,_⟩:=hg k _ sv' hh;exact hD k s w sv0 q1
  cases hb:qRT Φ'' Φ with
  | true=>rw[hb] at hk;exact⟨v,he,sv, σ', Φ'',n,r', β',hk,hr,s2,hD⟩
  | false=>rw[hb] at hk;exact⟨v,he,sv, σ', Φ'',n',r', β',hk,hr,s2,hD⟩
 | b h=>
  obtain⟨Φr,h,hr1,hr2,hr3⟩:=qdL h;have hno:∀ id ch,Phi.get e.Φ id=some ch->ch.kind≠0->id∉qGW args:=fun id ch hi hk hm=>by
   obtain⟨τ,l,g1,_⟩:=hr3 id hm;obtain⟨_,ch',q2,q3⟩:=s.kept.keep id ch hi hk;rw[g1] at q2;cases q2;exact hk q3.symm
  have s1:=qRG s hr1 (fun id ch hi hk=>hr2 id (hno id ch hi hk))
  obtain⟨h1,h2⟩:=qD6 h s1 (by
   have hz:frz (fun i=>qD8 i []) r β Φr w=r:=qDY
   rw[hz];exact hargs)
  refine .call f vs.toArray (by rw[hrun];exact h1 _) (h2.mono ?_)
  rintro ev w' ⟨v,he,sv, σ2, Φ2,n',r2, β2,k1,k2,k3,k4⟩;obtain⟨Φu,k1,u1,u2⟩:=qWG k1;exact⟨v,he,sv, σ2, Φu,n',r2, β2,k1,k2,qRG k3 u1 (fun id ch hi hk=>u2 id (hno id ch hi hk)),k4⟩
 | z h=>
  obtain⟨xs', σ', Φ',r',h,s',hv',hD⟩:=qHN h s hargs;obtain⟨h1,h2⟩:=qD6 h s' (by
   have hz:frz (fun i=>qD8 i []) r' β Φ' w=r':=qDY
   rw[hz];exact hv')
  refine .call f vs.toArray (by rw[hrun];exact h1 _) (h2.mono ?_)
  rintro ev w' ⟨v,he,sv, σ2, Φ2,n',r2, β2,k1,k2,k3,k4⟩;exact⟨v,he,sv, σ2, Φ2,n',r2, β2,k1,k2,k3,fun D h0=>k4 D (hD D h0)⟩
end Go.Vc

namespace Go.Vc
set_option autoImplicit false
theorem qFW {P:Program}{t e:TypeId}(hu:P.underlying t=some (.slice e)) (x:Option Addr) (n c:Nat) (w:World):(Op.equal t (.slice x n c) (.slice none 0 0)).run P w=.ok x.isNone w:=by
 unfold Op.equal Op.maxDepth;rw[show(10000:Nat)=9999+1 from rfl,Op.equalIn]
 simp only[Sem.run_bind,run_underlying hu,Result.andThen_ok];cases x<;>rfl
theorem qaM {r w x bt sz rows}(h:qAZ r w x bt sz rows):∃ a n c,x=.slice a n c/\(a=none->rows=[]):=by
 rcases h with⟨a,rfl,rfl⟩|⟨b,off,cap,c,T,fr,rfl,_⟩
 ·exact⟨a,0,0,rfl,fun _=>rfl⟩
 ·exact⟨_,_,_,rfl,fun h=>by cases h⟩
theorem lits_slice {r β sz rows x}(h:Rel r β (.lits sz rows) x):∃ a n c,x=.slice a n c/\(a=none->rows=[]):=by
 cases h with
 | litsE=>exact⟨_,_,_,rfl,fun _=>rfl⟩
 | lits=>exact⟨_,_,_,rfl,fun h=>by cases h⟩
theorem qPO {P:Program}{Φ t x}{K:Bool->Prop}(h:zB7 P Φ t x K) {r β w v}(m:MemSat r β Φ w) (hx:Rel r β x v):
  ∃ b,K b/\(Op.equal t v (.slice none 0 0)).run P w=.ok b w/\∃ a n c,v=.slice a n c:=by
 unfold zB7 at h;split at h
 ·rename_i e hu;split at h
  ·cases hx;exact⟨true,h,qFW hu none 0 0 w,_,_,_,rfl⟩
  ·cases hx with
   | rd hx=>
    obtain⟨a,n,c,rfl,ha⟩:=lits_slice hx;exact⟨a.isNone,h _ (fun hb=>by
     have:=ha (by simpa using hb)
     simpa using this),qFW hu a n c w,_,_,_,rfl⟩
  ·split at h
   ·rename_i id τ l hg;have hs:=m.rowsR hg;cases hs with
    | own hrows=>
     obtain⟨a,n,c,hv,ha⟩:=qaM hrows;cases hx;rw[hv];exact⟨a.isNone,h _ (fun hb=>by
      have:=ha (by simpa using hb)
      simpa using this),qFW hu a n c w,_,_,_,rfl⟩
   ·exact h.elim
  ·exact h.elim
 ·exact h.elim
theorem qN4 {P:Program}{op:BinOp}{t:TypeId}{x y:Operand}{a a':Option Addr}{n c n' c':Nat}{w:World}:(eqGuard op t x y (.slice a n c) (.slice a' n' c')).run P w=.ok () w:=by
 unfold eqGuard;split<;>rfl
theorem qEK {B:Base}{e N r β σ Φ a w n t}{p x:SV}{vp vx:Value}{K:EK}(h:qJ7 B.P t p x σ Φ n K) (s:Sat B e N r β σ Φ a w) (hp:Rel r β p vp) (hx:Rel r β x vx):
  ∃ sv σ' Φ' r' w',K sv σ' Φ' n/\(Instr.storeAt t vp vx).run B.P w=.ok () w'/\sv=.und/\Sat B e N r' β σ' Φ' a w'/\(∀ D,qDX D σ->qDX D σ'):=by
 unfold qJ7 at h;split at h
 ·obtain⟨xs', σ', Φ',r',h,s',hv,hD⟩:=qHN h s (vs:=[vp,vx]) (qA5.cons hp (qA5.cons hx ⟨rfl,fun i sv v h=>by simp at h⟩))
  split at h
  ·rename_i p' x';obtain⟨sv, Φ2,w',hk,hrun,he,s2⟩:=qLH h s' (hv.2 0 _ _ rfl rfl) (hv.2 1 _ _ rfl rfl);exact⟨sv,_,_,_,_,hk,hrun,he,s2,hD⟩
  ·exact h.elim
 ·obtain⟨sv, Φ2,w',hk,hrun,he,s2⟩:=qLH h s hp hx;exact⟨sv,_,_,_,_,hk,hrun,he,s2,fun _ h=>h⟩
theorem qq8 {r β Φ w}{id:Nat}{ch ch':Chunk}{Φ':Phi}(m:MemSat r β Φ w) (hid:Phi.get Φ id=some ch)
  (hΦ:∀ j,Phi.get Φ' j=bif Nat.beq id j then some ch' else Phi.get Φ j)
  (hb:ch'.hb (β id)=ch.hb (β id)) (hch:ch'.Sat r β w (β id)) (hkd:ch'.kind=ch.kind):MemSat r β Φ' w/\Hid r β Φ w r β Φ' w:=by
 have get:∀ j c,Phi.get Φ' j=some c->(j=id/\c=ch')\/(j≠id/\Phi.get Φ j=some c):=by
  intro j c h;rw[hΦ] at h;cases hq:Nat.beq id j with
  | true=>obtain rfl:=qAM hq;rw[hq] at h;simp at h;exact .inl ⟨rfl,h.symm⟩
  | false=>rw[hq] at h;exact .inr ⟨(fun he=>by(subst he;rw[yBE] at hq;cases hq)),h⟩
 have blk:∀ j c b,Phi.get Φ' j=some c->c.hb (β j) b->∃ c0,Phi.get Φ j=some c0/\c0.hb (β j) b:=by
  intro j c b h1 h2;rcases get j c h1 with⟨rfl,rfl⟩|⟨_,h⟩
  ·exact⟨ch,hid,by rw[<-hb];exact h2⟩
  ·exact⟨c,h,h2⟩
 refine⟨⟨m.vis,fun j c h=>?_,fun j c b h1 h2=>?_,fun j j' c c' b h1 h1' h2 h2'=>?_⟩,
  rfl,rfl,rfl,yBH _,fun b hb' p1 p2=>⟨rfl,p1,fun j c h hc=>?_⟩,fun j c h hk=>⟨rfl,?_⟩⟩
 ·rcases get j c h with⟨rfl,rfl⟩|⟨hne,h⟩
  ·exact hch
  ·exact m.chs _ _ h
 ·obtain⟨c0,q1,q2⟩:=blk _ _ _ h1 h2;exact m.sep _ _ _ q1 q2
 ·obtain⟨c0,q1,q2⟩:=blk _ _ _ h1 h2;obtain⟨c1,q1',q2'⟩:=blk _ _ _ h1' h2';exact m.nod _ _ _ _ _ q1 q1' q2 q2'
 ·obtain⟨c0,q1,q2⟩:=blk _ _ _ h hc;exact p2 _ _ q1 q2
 ·rw[hΦ];cases hq:Nat.beq id j with
  | true=>
   obtain rfl:=qAM hq;rw[hid] at h;cases h;exact⟨ch',rfl,hkd⟩
  | false=>exact⟨c,h,rfl⟩
theorem qUF {τ:Ty}{l:List τ.T}{i p:Nat}{g:Value}(hi:i<l.length):(l.map τ.enc).set i (qH1 τ p l[i] g)=qCC τ l i p g:=by
 unfold qCC;rw[show l.getD i τ.dflt=l[i] by simp[List.getD,yAR hi]]
theorem qRE {B:Base}{e N r β σ Φ a w n t}{p x:SV}{vp vx:Value}{K:EK}(h:qVP B.P t p x σ Φ n K) (s:Sat B e N r β σ Φ a w) (hp:Rel r β p vp) (hx:Rel r β x vx):
  ∃ sv σ' Φ' r' w',K sv σ' Φ' n/\(Instr.storeAt t vp vx).run B.P w=.ok () w'/\sv=.und/\Sat B e N r' β σ' Φ' a w'/\(∀ D,qDX D σ->qDX D σ'):=by
 unfold qVP at h;split at h
 ·rename_i id sz0 i off e1;split at h
  ·rename_i τ l τe le hg hge;cases h1c:Nat.beq τe.size 1 with
   | true=>rw[h1c,cond_true] at h;exact qEK h s hp hx
   | false=>
   rw[h1c,cond_false] at h;cases hc0:(Nat.beq sz0 τ.size&&(Nat.beq (qAW B.P t) 1&&(!τ.isB&&(!Nat.beq e1 id&&Nat.blt off τ.size)))) with
   | false=>rw[hc0] at h;exact h.elim
   | true=>
    rw[hc0] at h;simp only[yAJ,yAL] at hc0;obtain⟨hc1,hc2,hc3,hc4,hc5⟩:=hc0;have hsz0:=qAM hc1;have hne:e1≠id:=fun q=>by rw[q,yBE] at hc4;cases hc4
    have hoff:off<τ.size:=yBG hc5;obtain⟨hob,h⟩:=h;have hil:=hob.h;have h:=h (hd (β e1));obtain⟨Φ1,h,hΦ1⟩:=qAP h (qA7 hge);have hg1:Phi.get Φ1 id=some (.own τ l):=by rw[hΦ1,qAS hne];exact hg
    obtain⟨Φ2,hk,hΦ2⟩:=qAP h (qA7 hg1);have he:=s.mem.rows hge;cases he with
    | own he=>
     obtain⟨m1,hid1⟩:=qq8 (ch':=.owg τe le (hd (β e1))) s.mem hge hΦ1 (by funext b';cases β e1<;>first|rfl|(rename_i a _ _;cases a<;>rfl)) (.owg he.hd.symm he) rfl
     have s1:Sat B e N r β σ Φ1 a w:=s.step s.agree m1 (Mem.le_refl r) hid1;obtain⟨xs,hxs,ho,_,hl⟩:=qD2 (x:=.own e1) (K:=fun xs=>xs=[.own e1]) rfl
     subst hxs;have hvx:=hl r β _ hx;have hone:=hvx.ones ho;have hvl:=hvx.1;have hcx:vx=hd (β e1)/\(hd (β e1)).oneCell'=true:=by cases hx;exact⟨rfl,by assumption⟩
     obtain⟨ti,hti⟩:∃ ti,B.P.info? t=some ti:=by
      unfold qAW at hc2;cases hq:B.P.info? t with
      | none=>rw[hq] at hc2;cases hc2
      | some i=>exact⟨i,rfl⟩
     have hsz:vx.cells.size=ti.size:=by
      have h1:=qAM hc2;rw[qBG hti] at h1;simp at hvl;omega
     have hvv:∀ v,vx.cells.toList[0]?=some v->v=hd (β e1):=fun v hv=>by
      have:=hvx.2 0 _ v rfl hv;cases this;rfl
     cases hp with
     | oel hβ=>
      rename_i b off0 n0 cap;rw[hsz0];have hs:=s1.mem.rows hg1;cases hs with
      | own hs=>
       rw[hs.hd] at hβ;rw[hc3] at hs;obtain⟨hcap0,w',hr,hT,hs'⟩:=qHU (P:=B.P) (off:=off) (row':=qH1 τ off l[i] (hd (β e1))) (vs:=vx.cells.toList) hs hβ (by simpa using hil) (by simp at hvl;simp;omega) hone qRQ
        (fun j sv hj=>by
         by_cases hj0:off=j
         ·subst hj0;rw[qNN hoff] at hj;cases hj;exact hcx.2
         ·rw[qKE hj0] at hj;exact enc_one τ _ j sv hj)
        (fun j sv v q1 q2 q3 q4=>by
         have hj:off=j:=by simp at hvl q2;omega
         subst hj;rw[qNN hoff] at q3;cases q3;rw[Nat.sub_self] at q4;rw[hvv v q4];exact .v)
        (fun j sv v row0 q1 q2 q3 q4=>by
         have hj:off≠j:=fun e=>q1 (by simp at hvl;simp;omega)
         rw[qKE hj] at q3;rw[List.getElem?_map,yAR hil] at q2;cases q2;exact q4 _ q3)
       rw[qUF hil] at hs';have hb:(Chunk.own τ l).hb (β id) b:=by rw[hβ];simp only[Chunk.hb,Chunk.blk,qAS hcap0];rfl
       refine⟨_, σ, Φ2,r,w',hk,?_,rfl,qDJ s1 hg1 hΦ2 hT hb ?_ (.foc hil hoff hcx.2 hs') rfl,fun _ h=>h⟩
       ·simp only[Instr.storeAt,Sem.run_bind,Instr.sureAddr,Sem.run_pure,Result.andThen_ok,storeVar,run_sizeOf hti,hsz,ne_eq,not_true_eq_false,if_false,hr]
       ·funext b';cases β id<;>first|rfl|(rename_i a _ _;cases a<;>rfl)
  ·exact qEK h s hp hx
 ·exact qEK h s hp hx
theorem qQ2 {B:Base}{e N r β σ Φ a w n t}{p x:SV}{vp vx:Value}{K:EK}(h:qXS B t p x σ Φ n K) (s:Sat B e N r β σ Φ a w) (hp:Rel r β p vp) (hx:Rel r β x vx):
  ∃ sv σ' Φ' r' w',K sv σ' Φ' n/\(Instr.storeAt t vp vx).run B.P w=.ok () w'/\sv=.und/\Sat B e N r' β σ' Φ' a w'/\(∀ D,qDX D σ->qDX D σ'):=by
 unfold qXS at h;cases hf:B.fo with
 | true=>rw[hf] at h;exact qRE h s hp hx
 | false=>rw[hf] at h;exact qEK h s hp hx
end Go.Vc

namespace Go.Vc
set_option autoImplicit false
theorem qH6 {B:Base}{e N r β σ Φ a w n t}{K:EK}(h:qMC B t σ Φ n K) (st:Sat B e N r β σ Φ a w):
  ∃ sv Φ' n' v w' β',K sv σ Φ' n'/\(∀ rv,(rv=none\/∃ k i,rv=some (Value.int k i))->(Instr.makeMap t rv).run B.P w=.ok v w')/\Rel r β' sv v/\Sat B e N r β' σ Φ' a w':=by
 unfold qMC at h;split at h
 ·rename_i kt el hu;split at h
  ·rename_i τ hty;have key:∃ κ,qG6 n (.mp κ τ []) (.mref n) σ Φ K:=by
    unfold qe8 at h;split at h
    ·cases hs:qS7 B.P el with
     | true=>rw[hs] at h;exact⟨_,h⟩
     | false=>rw[hs] at h;exact⟨_,h⟩
    ·exact⟨_,h⟩
    ·exact⟨_,h⟩
    ·exact h.elim
   obtain⟨κ,h⟩:=key;obtain⟨sv, σ', Φ',n',hk,rfl, β',hr,hs⟩:=qBW h st (Grows.alloc w (.map #[] 0)) (v:=.map (some w.heap.size))
    (fun b hb=>by simp[Chunk.hb,Chunk.blk] at hb;omega)
    (.mp rfl qBT rfl (fun i k v e q=>by simp at q) (fun i k v e q=>by simp at q) (fun i e q=>by simp at q) (by simp)) (.mref (qBI _ _ _))
   refine⟨sv, Φ',n',_,_, β',hk,fun rv hrv=>?_,hr,hs⟩
   rcases hrv with rfl|⟨k,i,rfl⟩
   ·simp[Instr.makeMap]
   ·simp[Instr.makeMap,run_underlying hu,asInt,asIntOf]
  ·exact h.elim
 ·exact h.elim
theorem qI5 {B:Base}{e N r β σ Φ a w n t}{m k x:SV}{vm vk vx:Value}{K:EK}(h:qQY B t m k x σ Φ n K) (s:Sat B e N r β σ Φ a w) (hm:Rel r β m vm) (hk:Rel r β k vk) (hx:Rel r β x vx):
    ∃ sv Φ' w',K sv σ Φ' n/\(Instr.mapUpdate t vm vk vx).run B.P w=.ok () w'/\sv=.und/\Sat B e N r β σ Φ' a w':=by
  unfold qQY at h;split at h
  · rename_i kt el id hu
    split at h
    · rename_i κ τ l hg
      obtain⟨x0,h2,hx1⟩:=qPC h;subst hx1;clear h;have h:=h2;clear h2;cases hko:(qEA B kt κ&&x0.one) with
      | false=>rw[hko] at h;exact h.elim
      | true =>
        rw[hko] at h;simp only[yAJ] at hko;have hKO:=qKL hko.1;obtain⟨key,h,hkey⟩:=qF4 h;obtain⟨av,h,hent⟩:=qBP h;obtain⟨Φ',hK,hΦ⟩:=qAP h (qA7 hg);obtain rfl:=hkey _ _ _ hk;cases hm with
        | mref hβ=>
        rename_i b;have hs:=s.mem.chs _ _ hg;cases hs with
        | mp hxb hw hl hks hvs hb hn=>
        rename_i b' es clock;rw[hβ] at hxb;obtain rfl:b=b':=by simpa using hxb
        have hlt:=lt_of_heap hw;obtain⟨sv1,henc⟩:∃ sv1, τ.enc av=[sv1]:=by
          have:=hent.1;exact List.length_eq_one_iff.1 (by rw[this];rfl)
        rw[henc] at hent;have hnew:∃ sv, τ.enc av=[sv]/\sv.one=true/\Rel r β0 (κ.wv sv) vx:=
          ⟨sv1,henc,enc_one τ av 0 sv1 (by rw[henc];rfl),qTK (fun v hv=>((hent.2 0 x0 sv1 rfl rfl).1 _ _ _ hv).pure (qFY τ av 0 sv1 (by rw[henc];rfl)) _) hx⟩
        have hT:∀ o,Turns w { w with heap:=w.heap.setIfInBounds b o } b:=fun o=>⟨rfl,rfl,rfl,by simp,fun b' hb'=>by
          show(w.heap.setIfInBounds b o)[b']?=_;rw[yAF (Ne.symm hb')]⟩
        have hat:∀ o,({ w with heap:=w.heap.setIfInBounds b o }:World).heap[b]?=some o:=fun o=>by
          show(w.heap.setIfInBounds b o)[b]?=_;rw[yAG hlt]
        rcases hKO.find key l es.toList (by simpa using hl) (fun i k' v e q1 q2=>hks i k' v e q1 (by simpa using q2)) with⟨a1,a2,a3,_⟩|⟨j,v,e1,a1,a2,a3,a4,a5,_⟩
        · rw [a3] at hΦ
          refine⟨_, Φ', { w with heap:=w.heap.setIfInBounds b (.map (es.push { key:=κ.val key,val:=vx,born:=clock }) (clock+1)) },hK,?_,rfl,
            qDJ s hg hΦ (hT _) (by rw[hβ];rfl) (by rw[hβ];rfl) ?_ rfl⟩
          · simp only[Instr.mapUpdate,Sem.run_bind,run_underlying hu,Result.andThen_ok,MapKept.run_getObj_map hw,hKO.check,a2,MapKept.run_setObj_map _ hw]
          · refine .mp hβ (hat _) (by simp[hl]) (fun i k v e q1 q2=>?_) (fun i k v e q1 q2=>?_) (fun i e q=>?_) ?_
            · rw[yAE] at q2
              rw[yAQ] at q1;by_cases hi:i<l.length
              · rw[if_pos hi] at q1;rw[if_neg (by omega)] at q2;exact hks i k v e q1 q2
              · rw[if_neg hi] at q1
                have hi2:i-l.length=0:=by have:=qAV q1;simp at this;omega
                rw[hi2] at q1;rw[if_pos (by omega)] at q2
                simp at q1 q2;rw[<-q2, <-q1.1]
            · rw[yAE] at q2
              rw[yAQ] at q1;by_cases hi:i<l.length
              · rw[if_pos hi] at q1;rw[if_neg (by omega)] at q2;exact hvs i k v e q1 q2
              · rw[if_neg hi] at q1
                have hi2:i-l.length=0:=by have:=qAV q1;simp at this;omega
                rw[hi2] at q1;rw[if_pos (by omega)] at q2
                simp at q1 q2;rw[<-q2, <-q1.2];exact hnew
            · rw[yAE] at q
              split at q
              · simp at q;rw[<-q];exact Nat.lt_succ_self _
              · exact Nat.lt_succ_of_lt (hb i e q)
            · rw[Array.toList_push,List.pairwise_append]
              refine⟨hn,by simp,fun x hx' y hy=>?_⟩
              simp at hy;subst hy;obtain⟨i,hi,rfl⟩:=yAW hx';have:=hb i es[i] (by simp)
              simp;simp at this hi ⊢;omega
        · rw [a5] at hΦ
          refine⟨_, Φ', { w with heap:=w.heap.setIfInBounds b (.map (es.modify j fun e=>{ e with key:=κ.val key,val:=vx }) clock) },hK,?_,rfl,
            qDJ s hg hΦ (hT _) (by rw[hβ];rfl) (by rw[hβ];rfl) ?_ rfl⟩
          · have a3':es[j]?=some e1:=by simpa using a3
            have hkk:e1.key=κ.val key:=hks j key v e1 a1 a3';simp only[Instr.mapUpdate,Sem.run_bind,run_underlying hu,Result.andThen_ok,MapKept.run_getObj_map hw,hKO.check,a4,a3',yBK,Option.getD_some,hkk,Instr.keyThatStays,hKO.bits,if_true,Sem.run_pure,MapKept.run_setObj_map _ hw]
          · have hmod:∀ (i:Nat) e,(es.modify j fun e=>{ e with key:=κ.val key,val:=vx })[i]?=some e->∃ e0,es[i]?=some e0/\e.born=e0.born/\(i=j->e.key=κ.val key/\e.val=vx)/\(i≠j->e=e0):=by
              intro i e q;rw[yAD] at q;by_cases hij:j=i
              · subst hij
                rw[if_pos rfl] at q;cases he:es[j]? with
                | none=>rw[he] at q;cases q
                | some e0=>rw[he] at q;simp at q;subst q;exact⟨e0,rfl,rfl,fun _=>⟨rfl,rfl⟩,fun h=>(h rfl).elim⟩
              · rw[if_neg hij] at q
                exact⟨e,q,rfl,fun h=>(hij h.symm).elim,fun _=>rfl⟩
            have hset:∀ (i:Nat) k v,(l.set j (key,av))[i]?=some (k,v)->(i=j/\k=key/\v=av)\/(i≠j/\l[i]?=some (k,v)):=by
              intro i k v q;rw[yAU] at q;by_cases hij:j=i
              · subst hij
                rw[if_pos rfl] at q;split at q
                · simp at q;exact .inl ⟨rfl,q.1.symm,q.2.symm⟩
                · cases q
              · rw[if_neg hij] at q;exact .inr ⟨fun h=>hij h.symm,q⟩
            refine .mp hβ (hat _) (by simp[hl]) (fun i k v e q1 q2=>?_) (fun i k v e q1 q2=>?_) (fun i e q=>?_) ?_
            · obtain⟨e0,p1,p2,p3,p4⟩:=hmod i e q2
              rcases hset i k v q1 with⟨rfl,rfl,rfl⟩|⟨hij,q1⟩
              · exact(p3 rfl).1
              · rw[p4 hij];exact hks i k v e0 q1 p1
            · obtain⟨e0,p1,p2,p3,p4⟩:=hmod i e q2
              rcases hset i k v q1 with⟨rfl,rfl,rfl⟩|⟨hij,q1⟩
              · rw[(p3 rfl).2];exact hnew
              · rw[p4 hij];exact hvs i k v e0 q1 p1
            · obtain⟨e0,p1,p2,_⟩:=hmod i e q
              rw[p2];exact hb i e0 p1
            · have hmap:(es.modify j fun e=>{ e with key:=κ.val key,val:=vx }).toList.map (·.born)=es.toList.map (·.born):=by
                apply List.ext_getElem?;intro i;simp only[List.getElem?_map,yAH,yAD];by_cases hij:j=i
                · subst hij;cases es[j]?<;>simp
                · rw[if_neg hij]
              have h1:(es.toList.map (·.born)).Pairwise (· ≠ ·):=yBC.2 hn
              rw[<-hmap] at h1;exact yBC.1 h1
    · exact h.elim
  · exact h.elim
theorem qGP {es:Array MapEntry}{j:Nat}:(es.eraseIdxIfInBounds j).toList=es.toList.eraseIdx j:=by
 unfold Array.eraseIdxIfInBounds;split
 ·simp
 ·rename_i h;rw[List.eraseIdx_of_length_le (by simpa using h)]
theorem qP7 {B:Base}{e N r β σ Φ a w n t}{m k:SV}{vm vk:Value}{K:EK}(h:qVC B t m k σ Φ n K) (s:Sat B e N r β σ Φ a w) (hm:Rel r β m vm) (hk:Rel r β k vk) (tk:TypeId) (ty:TypeId):
    ∃ sv Φ' v w',K sv σ Φ' n/\(Builtin.delete_ #[t,tk] ty #[vm,vk]).run B.P w=.ok v w'/\sv=.und/\Sat B e N r β σ Φ' a w':=by
  unfold qVC at h;split at h
  · rename_i kt el id hu
    split at h
    · rename_i κ τ l hg
      cases hko:qEA B kt κ with
      | false=>rw[hko] at h;exact h.elim
      | true =>
        rw[hko] at h;have hK:=qKL hko;obtain⟨key,h,hkey⟩:=qF4 h;obtain⟨Φ',hK',hΦ⟩:=qAP h (qA7 hg);obtain rfl:=hkey _ _ _ hk;cases hm with
        | mref hβ=>
        rename_i b;have hs:=s.mem.chs _ _ hg;cases hs with
        | mp hxb hw hl hks hvs hb hn=>
        rename_i b' es clock;rw[hβ] at hxb;obtain rfl:b=b':=by simpa using hxb
        have hlt:=lt_of_heap hw;have hT:∀ o,Turns w { w with heap:=w.heap.setIfInBounds b o } b:=fun o=>⟨rfl,rfl,rfl,by simp,fun b' hb'=>by
          show(w.heap.setIfInBounds b o)[b']?=_;rw[yAF (Ne.symm hb')]⟩
        have hat:∀ o,({ w with heap:=w.heap.setIfInBounds b o }:World).heap[b]?=some o:=fun o=>by
          show(w.heap.setIfInBounds b o)[b]?=_;rw[yAG hlt]
        rcases hK.find key l es.toList (by simpa using hl) (fun i k' v e q1 q2=>hks i k' v e q1 (by simpa using q2)) with⟨a1,a2,_,a3⟩|⟨j,v,e1,a1,a2,a3,a4,_,a5⟩
        · rw[a3] at hΦ
          refine⟨_, Φ',.tuple #[], { w with heap:=w.heap.setIfInBounds b (.map es clock) },hK',?_,rfl,
            qDJ s hg hΦ (hT _) (by first|(rw[hβ];done)|(rw[hβ];rfl)) (by first|(rw[hβ];done)|(rw[hβ];rfl)) (.mp hβ (hat _) hl hks hvs hb hn) rfl⟩
          show(Builtin.delete_ #[t,tk] ty #[.map (some b), κ.val key]).run B.P w=_;simp[Builtin.delete_,run_underlying hu,MapKept.run_getObj_map hw,hK.check,a2,MapKept.run_setObj_map _ hw]
        · rw [a5] at hΦ
          refine⟨_, Φ',.tuple #[], { w with heap:=w.heap.setIfInBounds b (.map (es.eraseIdxIfInBounds j) clock) },hK',?_,rfl,
            qDJ s hg hΦ (hT _) (by rw[hβ];rfl) (by rw[hβ];rfl) ?_ rfl⟩
          · show(Builtin.delete_ #[t,tk] ty #[.map (some b), κ.val key]).run B.P w=_
            simp[Builtin.delete_,run_underlying hu,MapKept.run_getObj_map hw,hK.check,a4,MapKept.run_setObj_map _ hw]
          · have hget:∀ (i:Nat) e,(es.eraseIdxIfInBounds j)[i]?=some e->∃ i':Nat,es[i']?=some e/\∀ x,(l.eraseIdx j)[i]?=some x->l[i']?=some x:=by
              intro i e q;rw[<-yAH,qGP,yAS] at q;by_cases hij:i<j
              · rw[if_pos hij] at q
                exact⟨i,by simpa using q,fun x hx=>by rw[yAS,if_pos hij] at hx;exact hx⟩
              · rw[if_neg hij] at q
                exact⟨i+1,by simpa using q,fun x hx=>by rw[yAS,if_neg hij] at hx;exact hx⟩
            have hjl:=qAV a1;refine .mp hβ (hat _) ?_ (fun i k v e q1 q2=>?_) (fun i k v e q1 q2=>?_) (fun i e q=>?_) ?_
            · rw[<-yAI,qGP,yAY,yAY]
              simp[hl]
            · obtain⟨i',p1,p2⟩:=hget i e q2
              exact hks i' k v e (p2 _ q1) p1
            · obtain⟨i',p1,p2⟩:=hget i e q2
              exact hvs i' k v e (p2 _ q1) p1
            · obtain⟨i',p1,_⟩:=hget i e q
              exact hb i' e p1
            · rw[qGP]
              exact hn.sublist (List.eraseIdx_sublist ..)
    · exact h.elim
  · exact h.elim
theorem qPZ {B:Base}{e N r β σ Φ a w n t}{m:SV}{vm:Value}{K:EK}(h:qVL B t m σ Φ n K) (s:Sat B e N r β σ Φ a w) (hm:Rel r β m vm) (ty:TypeId):
  ∃ sv v,K sv σ Φ n/\(Builtin.len_ #[t] ty #[vm]).run B.P w=.ok v w/\Rel r β sv v:=by
 unfold qVL at h;split at h
 ·rename_i kt el id hu;split at h
  ·rename_i κ τ l hg;obtain⟨⟨hle⟩,hK⟩:=h;cases hm with
   | mref hβ=>
   rename_i b;have hs:=s.mem.chs _ _ hg;cases hs with
   | mp hxb hw hl hks hvs hb hn=>
   rename_i b' es clock;rw[hβ] at hxb;obtain rfl:b=b':=by simpa using hxb
   refine⟨_,.int .i64 l.length,hK,?_,.int⟩;simp[Builtin.len_,run_underlying hu,MapKept.run_getObj_map hw,hl,goInt]
  ·exact h.elim
 ·exact h.elim
inductive BytesAt (w:World) (v:Value) (l:List UInt8):Prop
 | nil (a:Option Addr) (cap:Nat) (hv:v=.slice a 0 cap) (hl:l=[])
 | row (b off cap:Nat) (c:Array Value) (T:TypeId) (fr:Nat×Nat) (hv:v=.slice (some ⟨b,off,none⟩) l.length cap) (hw:w.heap[b]?=some (.cells c T fr)) (hc:∀ (j:Nat) x,l[j]?=some x->c[off+j]?=some (.int .u8 x.toNat))
theorem qMR {r:Mem}{l:List UInt8}{c:Array Value}{off:Nat}(hlen:off+l.length<=c.size)
  (h:∀ (i:Nat) (row:List SV) (j:Nat) (sv:SV) (v:Value),(l.map (Ty.enc .byte))[i]?=some row->row[j]?=some sv->c[off+i*1+j]?=some v->Rel r β0 sv v):
  ∀ (j:Nat) x,l[j]?=some x->c[off+j]?=some (.int .u8 x.toNat):=by
 intro j x hj;have hjl:=qAV hj;have hin:off+j<c.size:=by omega
 have hv:c[off+j*1+0]?=some c[off+j]:=by simp[hin]
 have:=h j [.int .u8 x.toNat] 0 _ _ (by rw[List.getElem?_map,hj];rfl) rfl hv
 rw[yAC hin];generalize c[off+j]=u at this;cases this;rfl
theorem qTW {r w x bt}{l:List UInt8}(h:qAZ r w x bt 1 (l.map (Ty.enc .byte))):BytesAt w x l/\l.length<=9223372036854775807:=by
 rcases h with⟨a,rfl,hl⟩|⟨b,off,cap,c,T,fr,rfl,h1,h2,h3,h4,h5,h6,h7,h8,h9⟩
 ·have:l=[]:=by simpa using hl
  subst this;exact⟨.nil a 0 rfl rfl,by simp⟩
 ·rw[List.length_map] at h5;refine⟨.row b off cap c T fr (by rw[List.length_map]) h2 (qMR (by omega) h9),by omega⟩
theorem qaF {r β w x}{l:List UInt8}(hvis:∀ b o,r b=some o->w.heap[b]?=some o) (h:Rel r β (.lits 1 (l.map (Ty.enc .byte))) x):BytesAt w x l/\l.length<=9223372036854775807:=by
 generalize hm:l.map (Ty.enc .byte)=rows at h;cases h with
 | litsE=>
  have:l=[]:=by simpa using hm
  subst this;exact⟨.nil _ _ rfl rfl,by simp⟩
 | lits hb hn hcap hrow ho hc hr=>
  subst hm;rw[List.length_map] at *;exact⟨.row _ _ _ _ _ _ rfl (hvis _ _ hb) (qMR (by omega) hr),hn⟩
theorem qFD {P:Program}{w:World}{s d e:TypeId}{v:Value}{l:List UInt8}(hs:P.underlying s=some (.slice e)) (he:P.underlying e=some (.int .u8)) (hd:P.underlying d=some .string) (h:BytesAt w v l):
  (Go.convert s d v).run P w=.ok (.string ⟨l.toArray⟩) w:=by
 cases h with
 | nil a cap hv hl=>
  subst hv;subst hl;cases a with
  | none=>rw[run_convert_bytes_string w s d e none 0 cap hs he hd];rfl
  | some a=>exact run_convert_bytes_back w s d e a cap [] hs he hd (fun j hj=>by simp at hj)
 | row b off cap c T fr hv hw hc=>
  subst hv;refine run_convert_bytes_back w s d e ⟨b,off,none⟩ cap l hs he hd fun j hj=>?_
  rw[qJM,cell_of_block hw];exact hc j l[j] (yAR hj)
theorem qTF {B:Base}{e N r β σ Φ a w n s d}{x:SV}{vx:Value}{K:EK}(h:qcY B s d x σ Φ n K) (st:Sat B e N r β σ Φ a w) (hx:Rel r β x vx):
    ∃ sv Φ' n' v w' β',K sv σ Φ' n'/\(Go.convert s d vx).run B.P w=.ok v w'/\Rel r β' sv v/\Sat B e N r β' σ Φ' a w':=by
  unfold qcY at h;split at h
  · rename_i el l hs hd
    split at h
    · rename_i he
      cases h55:Nat.beq el 5 with
      | false=>rw[h55] at h;exact h.elim
      | true=>
      rw[h55] at h;simp only[cond_true] at h;have h5:el=5:=qAM h55;cases hx with
      | str hl=>
      have hz:(ByteArray.mk l.toArray).size=l.length:=by simp[ByteArray.size]
      have hge:l.length<=grownCap w l.length 0 el:=grownCap_ge w _ _ _;have hle:grownCap w l.length 0 el<=9223372036854775807:=grownCap_le_maxLen w _ _ _ (by show l.length<=2 ^ 63-1;omega)
      have hrun:=run_bytes_of_string (P:=B.P) w s d el ⟨l.toArray⟩ hs hd he;rw[hz] at hrun;generalize hcap:grownCap w l.length 0 el=cap at hrun hge hle;have hcz:(bytesRow ⟨l.toArray⟩ cap).size=cap:=by
        unfold bytesRow;have:(ByteArray.mk l.toArray).data.size=l.length:=by simp
        simp[hz];omega
      have hg:Grows w (w.drew.alloc (.cells (bytesRow ⟨l.toArray⟩ cap) el ((bytesRow ⟨l.toArray⟩ cap).size,(bytesRow ⟨l.toArray⟩ cap).size+1))):=
        ⟨rfl,rfl,rfl,by show w.heap.size<=(w.heap.push _).size;simp,fun b hb=>by show(w.heap.push _)[b]?=_;rw[yAE,if_neg (by omega)]⟩
      have hrows:qAZ r (w.drew.alloc (.cells (bytesRow ⟨l.toArray⟩ cap) el ((bytesRow ⟨l.toArray⟩ cap).size,(bytesRow ⟨l.toArray⟩ cap).size+1))) (.slice (some ⟨w.heap.size,0,none⟩) l.length cap) true 1 (l.map (Ty.enc .byte)):=by
        by_cases h0:cap=0
        · have:l=[]:=yAX.1 (by omega)
          subst this;exact .inl ⟨_,by rw[h0];rfl,rfl⟩
        · refine .inr ⟨w.heap.size,0,cap,_,el,_,by rw[List.length_map],h0,?_,⟨fun _=>⟨h5,rfl⟩,.inr ⟨rfl,rfl⟩⟩,hle,by rw[List.length_map];exact hge,by rw[hcz];omega,fun i row h=>?_,fun i row j sv h1 h2=>(by
              obtain⟨y,hy,rfl⟩:∃ y,l[i]?=some y/\Ty.enc .byte y=row:=by
                rw[List.getElem?_map] at h1;cases hq:l[i]? with
                | none=>rw[hq] at h1;cases h1
                | some y=>rw[hq] at h1;exact⟨y,rfl,by simpa using h1⟩
              exact enc_one .byte y j sv h2),fun i row j sv v h1 h2 h3=>?_⟩
          · show(w.heap.push _)[w.heap.size]?=_
            simp
          · rw[List.getElem?_map] at h
            cases hq:l[i]? with
            | none=>rw[hq] at h;cases h
            | some y=>rw[hq] at h;simp at h;rw[<-h];rfl
          · rw [List.getElem?_map] at h1
            cases hq:l[i]? with
            | none=>rw[hq] at h1;cases h1
            | some y=>
              rw[hq] at h1;simp at h1;subst h1;cases j with
              | succ j=>simp[Ty.enc] at h2
              | zero=>
                simp[Ty.enc] at h2;subst h2;have hil:=qAV hq;have:=bytesRow_at ⟨l.toArray⟩ cap i (by simpa using hil)
                have e:0+i*1+0=i:=by omega
                rw[e,this] at h3;simp at h3;subst h3;have hy:l[i]=y:=by rw[yAR hil] at hq;simpa using hq
                rw[hy];exact .int
      obtain⟨sv, σ', Φ',n',hk,rfl, β',hr,hsat⟩:=qBW h st hg (v:=.slice (some ⟨w.heap.size,0,none⟩) l.length cap)
        (fun b hb=>by
          simp only[Chunk.hb,Chunk.blk] at hb;cases hq:Nat.beq cap 0 with
          | true=>rw[hq] at hb;cases hb
          | false=>rw[hq] at hb;simp at hb;omega) (.own hrows) (qHC rfl)
      exact⟨sv, Φ',n',_,_, β',hk,hrun,hr,hsat⟩
    · exact h.elim
  · rename_i el id hs hd
    split at h
    · rename_i τ l he hg
      obtain⟨rfl,h⟩:=qDU h;have hs':=st.mem.rowsR hg;cases hs' with
      | own hrows=>
        obtain⟨h1,h2⟩:=qTW hrows;cases hx;rw[hrows.hd];exact⟨_, Φ,n,_,w, β,h,qFD hs he hd h1,.str h2,st⟩
    · exact h.elim
  · rename_i el τ l hs hd
    split at h
    · rename_i he
      obtain⟨rfl,h⟩:=qDU h;cases hx with
      | rd hx=>
        obtain⟨h1,h2⟩:=qaF st.mem.vis hx;exact⟨_, Φ,n,_,w, β,h,qFD hs he hd h1,.str h2,st⟩
    · exact h.elim
  · rename_i el hs hd
    split at h
    · rename_i he
      cases hx;exact⟨_, Φ,n,_,w, β,h,qFD hs he hd (.nil none 0 rfl rfl),.str (by simp),st⟩
    · exact h.elim
  · rename_i e id off hs hd
    split at h
    · rename_i T cs hg
      cases hc:(Nat.blt off (len cs) && !Nat.beq (qAW B.P e) 0) with
      | false=>rw[hc] at h;exact h.elim
      | true=>
      rw[hc] at h;simp only[yAJ,yAL] at hc;obtain⟨hc1,hc2⟩:=hc;have hlt:off<cs.length:=by rw[len_eq] at hc1;exact yBG hc1
      cases hx with
      | loc hβ=>
        have hm:=st.mem.chs _ _ hg;cases hm with
        | box hxb hw hl hc0 hT=>
          rename_i b b' c T';rw[hβ] at hxb;obtain rfl:b=b':=by simpa using hxb
          obtain⟨i,hi⟩:∃ i,B.P.info? e=some i:=by
            unfold qAW at hc2;cases hq:B.P.info? e with
            | none=>rw[hq] at hc2;cases hc2
            | some i=>exact⟨i,rfl⟩
          have hi0:i.size≠0:=by
            rw[qBG hi] at hc2;intro h0;rw[h0] at hc2;cases hc2
          refine⟨_, Φ,n,_,w, β,h,Lib.run_to_unsafe w ⟨b,off,none⟩ hs hd hi hi0 (e:=T') (cells:=c.size) (by simp[World.shape?,hw]) (by rw[hl];exact hlt),.loc hβ,st⟩
    · exact h.elim
  · rename_i u id off hs hd
    split at h
    · rename_i T cs hg
      split at h
      · rename_i i hi
        obtain⟨hob,h⟩:=h;have hob:=hob.h;cases hx with
        | loc hβ=>
          have hm:=st.mem.chs _ _ hg;cases hm with
          | box hxb hw hl hc0 hT=>
            rename_i b b' c T';rw[hβ] at hxb;obtain rfl:b=b':=by simpa using hxb
            obtain rfl:T'=T:=hT T rfl;refine⟨_, Φ,n,_,w, β,h,Lib.run_from_unsafe w ⟨b,off,none⟩ hs hd hi (e:=T') (cells:=c.size) (by simp[World.shape?,hw]) (by rw[len_eq, <-hl] at hob;exact hob),.loc hβ,st⟩
      · exact h.elim
    · exact h.elim
  · obtain⟨sv,hk,hr⟩:=qLF (P:=B.P) h
    obtain⟨v,hv,hw⟩:=hr (fun _ h=>h) r β _ hx
    exact⟨sv, Φ,n,v,w, β,hk,hw w,hv,st⟩
end Go.Vc

namespace Go.Vc
set_option autoImplicit false
theorem qaU {B:Base}{e N r β σ Φ a w n t id hi}{vh:Value}{K:EK}(h:zFW B t id hi σ Φ n K) (st:Sat B e N r β σ Φ a w) (hh:Rel r β hi vh):
  ∃ sv σ' Φ' n' v β',K sv σ' Φ' n'/\(Instr.sliceAt t (hd (β id)) none (some vh) none).run B.P w=.ok v w/\Rel r β' sv v/\Sat B e N r β' σ' Φ' a w/\(∀ D,qDX D σ->qDX D σ'):=by
 unfold zFW at h;split at h
 ·rename_i el τ l k b hu hg;cases hz:qEZ B.P el τ.size with
  | false=>rw[hz] at h;exact h.elim
  | true=>
  rw[hz] at h;obtain⟨hts,hi⟩:=qCE hz;obtain⟨hob,h⟩:=h;obtain⟨hb0,hb1⟩:=hob.h;obtain⟨σ',h,hσ⟩:=qBX h;obtain⟨Φ1,h,hΦ1⟩:=qBY h;obtain⟨c1,hc1'⟩:=(hΦ1 id).2 _ hg;obtain⟨Φ',hk,hΦ⟩:=qAP h (qA7 hc1');cases hh;obtain⟨i,hi⟩:=yBL.1 hi;have hs:=st.mem.rows hg;cases hs with
  | own hrs=>
   rw[hrs.hd];have key:∃ a0 cap, β id=.slice a0 l.length cap/\l.length<=cap/\qAZ r w (.slice a0 b.toNat cap) τ.isB τ.size ((l.take b.toNat).map τ.enc)/\(∀ bb,qA1 (.slice a0 b.toNat cap)=some bb->qA1 (β id)=some bb)/\a0.map (·.add 0)=a0:=by
    rcases hrs with⟨a0,he,hl⟩|⟨bb,off,cap,c,T,fr,he,hc0,hw,hfr,hm,hcap,hsz,hrow,hone,hrr⟩
    ·have hl:l=[]:=by simpa using hl
     subst hl;have hb:b.toNat=0:=by simp at hb1;omega
     refine⟨a0,0,he,by simp,.inl ⟨a0,by rw[hb],by simp⟩,fun bb hbb=>by(unfold qA1 at hbb;cases a0<;>cases hbb),?_⟩
     cases a0 with
     | none=>rfl
     | some a0=>simp[Addr.add]
    ·have hlen:(l.map τ.enc).length=l.length:=by simp
     rw[hlen] at he hcap;have htk:((l.take b.toNat).map τ.enc).length=b.toNat:=by simp;omega
     refine⟨_,cap,he,hcap,.inr ⟨bb,off,cap,c,T,fr,by rw[htk],hc0,hw,hfr,hm,by omega,hsz,?_,?_,?_⟩,fun b' hb'=>by rw[he];exact hb',by simp[Addr.add]⟩
     ·intro k row hk;rw[yA1,yAV] at hk;split at hk<;>first|exact hrow k row hk|cases hk
     ·intro k row j sv hk;rw[yA1,yAV] at hk;split at hk<;>first|exact hone k row j sv hk|cases hk
     ·intro k row j sv v hk;rw[yA1,yAV] at hk;split at hk<;>first|exact hrr k row j sv v hk|cases hk
   obtain⟨a0,cap,he,hcap,hR,hblk,hadd⟩:=key;have hsb:=qDH (P:=B.P) (s:=true) (len:=l.length) (cap:=cap) (lo:=none) (hi:=some (.int k b)) (a:=0) (b:=b.toNat) w ⟨k,b,rfl,hb0,by omega,rfl⟩ rfl
   have hrun:(Instr.sliceAt t (β id) none (some (.int k b)) none).run B.P w=.ok (.slice a0 b.toNat cap) w:=by
    rw[he];simp[Instr.sliceAt,Instr.slice,run_underlying hu,hsb,run_sizeOf hi,hadd]
   refine⟨_, σ', Φ',n,_,_,hk,hrun,?_,qIX (ch':=.own τ (l.take b.toNat)) (v':=.slice a0 b.toNat cap) st hg hσ hΦ1 hΦ rfl rfl rfl (yBH _) (fun _ _ _=>rfl) (fun bb hbb=>by rw[hbO,qFQ] at hbb ⊢;exact .inl (hblk bb hbb)) (.own hR) rfl,fun D hD k s0 w0 sv0 hk0=>?_⟩
   ·exact qHC hR.oneCell hR.hd
   ·obtain⟨sv,q1,_⟩:=hσ k _ sv0 hk0;exact hD k s0 w0 sv q1
 ·exact h.elim
theorem qL6 {P:Program}{len cap:Nat}{k k':IntKind}{b:Int}(w:World) (h0:0<=b) (h1:b<=cap):
  (Instr.sliceBounds true len cap none (some (.int k b)) (some (.int k' b))).run P w=.ok (0,b.toNat,b.toNat) w:=by
 unfold Instr.sliceBounds;simp[run_sliceBound h0 h1,run_sliceBound (k:=k) (i:=b) (y:=b.toNat) h0 (by omega)]
theorem qVK {B:Base}{e N r β σ Φ a w n t id hi mx}{vh vm:Value}{K:EK}(h:ql7 B t id hi mx σ Φ n K) (st:Sat B e N r β σ Φ a w) (hh:Rel r β hi vh) (hm:Rel r β mx vm):
  ∃ sv σ' Φ' n' v β',K sv σ' Φ' n'/\(Instr.sliceAt t (hd (β id)) none (some vh) (some vm)).run B.P w=.ok v w/\Rel r β' sv v/\Sat B e N r β' σ' Φ' a w/\(∀ D,qDX D σ->qDX D σ'):=by
 unfold ql7 at h;split at h
 ·rename_i el τ l k b km mv hu hg;cases hz:qEZ B.P el τ.size with
  | false=>rw[hz] at h;exact h.elim
  | true=>
  rw[hz] at h;obtain⟨hts,hi⟩:=qCE hz;obtain⟨hob,h⟩:=h;obtain⟨hb0,hb1,hbm⟩:=hob.h;subst hbm;obtain⟨σ',h,hσ⟩:=qBX h;obtain⟨Φ1,h,hΦ1⟩:=qBY h;obtain⟨c1,hc1'⟩:=(hΦ1 id).2 _ hg;obtain⟨Φ',hk,hΦ⟩:=qAP h (qA7 hc1');cases hh;cases hm;obtain⟨i,hi⟩:=yBL.1 hi;have hs:=st.mem.rows hg;cases hs with
  | own hrs=>
   rw[hrs.hd];have key:∃ a0 cap, β id=.slice a0 l.length cap/\l.length<=cap/\qAZ r w (.slice a0 mv.toNat mv.toNat) τ.isB τ.size ((l.take mv.toNat).map τ.enc)/\(∀ bb,qA1 (.slice a0 mv.toNat mv.toNat)=some bb->qA1 (β id)=some bb)/\a0.map (·.add 0)=a0:=by
    rcases hrs with⟨a0,he,hl⟩|⟨bb,off,cap,c,T,fr,he,hc0,hw,hfr,hm,hcap,hsz,hrow,hone,hrr⟩
    ·have hl:l=[]:=by simpa using hl
     subst hl;have hb:mv.toNat=0:=by simp at hb1;omega
     refine⟨a0,0,he,by simp,.inl ⟨a0,by rw[hb],by simp⟩,fun bb hbb=>by(rw[hb] at hbb;unfold qA1 at hbb;cases a0<;>cases hbb),?_⟩
     cases a0 with
     | none=>rfl
     | some a0=>simp[Addr.add]
    ·have hlen:(l.map τ.enc).length=l.length:=by simp
     rw[hlen] at he hcap;have htk:((l.take mv.toNat).map τ.enc).length=mv.toNat:=by simp;omega
     by_cases hz0:mv.toNat=0
     ·refine⟨_,cap,he,hcap,.inl ⟨some ⟨bb,off,none⟩,by rw[hz0],by simp[hz0]⟩,fun b' hb'=>by(rw[hz0] at hb';cases hb'),by simp[Addr.add]⟩
     refine⟨_,cap,he,hcap,.inr ⟨bb,off,mv.toNat,c,T,fr,by rw[htk],hz0,hw,hfr,by omega,by omega,?_,?_,?_,?_⟩,fun b' hb'=>?_,by simp[Addr.add]⟩
     ·have:mv.toNat*τ.size<=cap*τ.size:=yBI _ (by omega)
      omega
     ·intro k row hk;rw[yA1,yAV] at hk;split at hk<;>first|exact hrow k row hk|cases hk
     ·intro k row j sv hk;rw[yA1,yAV] at hk;split at hk<;>first|exact hone k row j sv hk|cases hk
     ·intro k row j sv v hk;rw[yA1,yAV] at hk;split at hk<;>first|exact hrr k row j sv v hk|cases hk
     ·rw[he];have h1:Nat.beq mv.toNat 0=false:=by cases hq:Nat.beq mv.toNat 0 with|false=>rfl|true=>exact absurd (yBF hq) hz0
      have h2:Nat.beq cap 0=false:=by cases hq:Nat.beq cap 0 with|false=>rfl|true=>exact absurd (yBF hq) hc0
      unfold qA1 at hb' ⊢;simp only[h1,h2,cond_false] at hb' ⊢;exact hb'
   obtain⟨a0,cap,he,hcap,hR,hblk,hadd⟩:=key;have hsb:=qL6 (P:=B.P) (len:=l.length) (cap:=cap) (k:=k) (k':=km) (b:=mv) w hb0 (by omega)
   have hrun:(Instr.sliceAt t (β id) none (some (.int k mv)) (some (.int km mv))).run B.P w=.ok (.slice a0 mv.toNat mv.toNat) w:=by
    rw[he];by_cases hz0:mv.toNat=0
    ·simp[Instr.sliceAt,Instr.slice,run_underlying hu,hsb,run_sizeOf hi,hz0]
    ·simp[Instr.sliceAt,Instr.slice,run_underlying hu,hsb,run_sizeOf hi,hadd,hz0]
   refine⟨_, σ', Φ',n,_,_,hk,hrun,?_,qIX (ch':=.own τ (l.take mv.toNat)) (v':=.slice a0 mv.toNat mv.toNat) st hg hσ hΦ1 hΦ rfl rfl rfl (yBH _) (fun _ _ _=>rfl) (fun bb hbb=>by rw[hbO,qFQ] at hbb ⊢;exact .inl (hblk bb hbb)) (.own hR) rfl,fun D hD k s0 w0 sv0 hk0=>?_⟩
   ·exact qHC hR.oneCell hR.hd
   ·obtain⟨sv,q1,_⟩:=hσ k _ sv0 hk0;exact hD k s0 w0 sv q1
 ·exact h.elim
theorem qW9 {B:Base}{e N r β σ Φ a w n t id lo}{vl:Value}{K:EK}(h:qlY B t id lo σ Φ n K) (st:Sat B e N r β σ Φ a w) (hh:Rel r β lo vl):
  ∃ sv v,K sv σ Φ n/\(Instr.sliceAt t (hd (β id)) (some vl) none none).run B.P w=.ok v w/\Rel r β sv v:=by
 unfold qlY at h;split at h
 ·rename_i el τ l k b hu hg;cases hz:qEZ B.P el τ.size with
  | false=>rw[hz] at h;exact h.elim
  | true=>
  rw[hz] at h;obtain⟨hts,hi⟩:=qCE hz;obtain⟨hob,h⟩:=h;obtain⟨hb0,hb1⟩:=hob.h;cases hh;obtain⟨i,hi⟩:=yBL.1 hi;have hs:=st.mem.rows hg;cases hs with
  | own hrs=>
   obtain⟨a0,cap,he,hcap⟩:∃ a0 cap, β id=.slice a0 l.length cap/\l.length<=cap:=by
    rcases hrs with⟨a0,he,hl⟩|⟨bb,off,cap,c,T,fr,he,hc0,hw,hfr,hm,hcap,hsz,hrow,hone,hrr⟩
    ·have hl:l=[]:=by simpa using hl
     subst hl;exact⟨a0,0,he,by simp⟩
    ·exact⟨_,cap,by simpa using he,by simpa using hcap⟩
   have hsb:=qDH (P:=B.P) (s:=true) (len:=l.length) (cap:=cap) (lo:=some (.int k b)) (hi:=none) (a:=b.toNat) (b:=l.length) w rfl ⟨k,b,rfl,hb0,by omega,rfl⟩
   refine⟨_,_,h,?_,.otl (by rw[he,qB9]) (by omega) hcap⟩
   rw[he,qB9];have hs1:i.size=τ.size:=by rw[<-hts,qBG hi]
   simp[Instr.sliceAt,Instr.slice,run_underlying hu,hsb,run_sizeOf hi,hs1];have:(cap=b.toNat)↔(cap<=b.toNat):=by omega
   split<;>split<;>first|rfl|(exfalso;omega)
 ·exact h.elim
theorem qQW (z:Value) (n:Nat):(Builtin.zeroCells #[z] n).toList=List.replicate n z:=by
 simp[Builtin.zeroCells];apply List.ext_getElem
 ·simp
 ·intro i h1 h2;simp[Nat.mod_one]
theorem qTO {B : Base} {e N r β σ Φ a w n t ty x} {vx:Value}{K:EK}(h:qdC B t x σ Φ n K) (st:Sat B e N r β σ Φ a w) (hx:Rel r β x vx):
    ∃ sv Φ' v w',K sv σ Φ' n/\(Builtin.clear_ #[t] ty #[vx]).run B.P w=.ok v w'/\Rel r β sv v/\Sat B e N r β σ Φ' a w':=by
  unfold qdC at h;split at h
  · rename_i el id sz k hu
    split at h
    · rename_i τ l hg
      cases hz:(qEZ B.P el τ.size&&(Nat.beq τ.size 1&&Nat.beq sz 1)) with
      | false=>rw[hz] at h;exact h.elim
      | true=>
      rw[hz] at h;simp only[yAJ] at hz;obtain⟨hz1,hz2,hz3⟩:=hz;have hτ:=qAM hz2;have hsz:=qAM hz3;simp only[cond_true] at h;obtain⟨z,zv,h,hzo,_,hzrun,hzrel⟩:=qCF h;cases hz4:Nat.beq (len z) 1 with
      | false=>rw[hz4] at h;exact h.elim
      | true=>
      rw[hz4] at h;have hzl:=qAM hz4;rw[len_eq] at hzl;obtain⟨d,h,hent⟩:=qBP h;obtain⟨Φ',hk,hΦ⟩:=qAP h (qA7 hg);cases hx with
      | otl hβ hkn hnc =>
        rename_i n0 cap a0;have hs:=st.mem.rows hg;obtain⟨c1,hzc⟩:∃ c1,zv.cells = #[c1]:=by
          have:=(hzrel r β).1;rw[hzl] at this;have h1:zv.cells.size=1:=by simpa using this
          exact⟨zv.cells[0],by apply Array.ext (by simp[h1]);intro i h2 h3;simp at h3;subst h3;rfl⟩
        have hc1:∃ sv0,z=[sv0]/\∀ r β,Rel r β sv0 c1:=by
          match z,hzl with
          | [sv0],_=>exact⟨sv0,rfl,fun r β=>(hzrel r β).2 0 sv0 c1 rfl (by rw[hzc];rfl)⟩
        obtain⟨sv0,rfl,hsv0⟩:=hc1;have hone1:c1.oneCell'=true:=qA5.ones (hzrel r β) hzo c1 (by rw[hzc];simp)
        obtain⟨sv1,hsv1,hrel1⟩:∃ sv1, τ.enc d=[sv1]/\∀ r β,Rel r β sv1 c1:=by
          have hlen:(τ.enc d).length=1:=by rw[enc_len,hτ]
          match hq:τ.enc d,hlen with
          | [sv1],_=>exact⟨sv1,rfl,fun r β=>(hent.2 0 sv0 sv1 rfl (by rw[hq];rfl)).1 r β c1 (hsv0 r β)⟩
        cases hs with
        | own hrs =>
          by_cases hnk:n0-k=0
          · -- nothing to do
            have hll:l.take k++List.replicate (l.length-k) d=l:=by
              have hln:l.length=n0:=by
                rcases hrs with⟨a1,he,hl⟩|⟨bb,off,cap',c,T,fr,he,hc0,hw,hfr,hm,hcap,hszc,hrow,hone,hrr⟩
                · rw[he,qB9] at hβ;simp at hβ
                  have hl:l=[]:=by simpa using hl
                  subst hl;simp;exact hβ.2.1
                · rw[he,qB9] at hβ;simp at hβ;exact hβ.2.1
              rw[show l.length-k=0 by omega,List.take_of_length_le (by omega)];simp
            rw[hll] at hΦ;refine⟨_, Φ',.tuple #[],w,hk,?_,?_,?_⟩
            · rw[hnk]
              generalize (if cap-k=0 then a0 else a0.map (·.add (k*sz)))=a1
              cases a1<;>simp[Builtin.clear_,run_underlying hu]
            · exact .tup (cs:=[]) rfl fun i sv v h=>by simp at h
            · have same:∀ j,Phi.get Φ' j=Phi.get Φ j:=by
                intro j;rw[hΦ];cases hq:Nat.beq id j with
                | true=>obtain rfl:=qAM hq;exact hg.symm
                | false=>rfl
              have hpk:∀ j c,Phi.get Φ' j=some c->Phi.get Φ j=some c:=fun j c h=>by rw[<-same];exact h
              refine⟨st.agree,⟨st.mem.vis,fun j c h=>st.mem.chs _ _ (hpk _ _ h),fun j c b h1 h2=>st.mem.sep _ _ _ (hpk _ _ h1) h2,fun j j' c c' b h1 h2 h3 h4=>st.mem.nod _ _ _ _ _ (hpk _ _ h1) (hpk _ _ h2) h3 h4⟩,st.G,?_,?_,st.size⟩
              · obtain⟨k1,k2,k3,k4,k5,k6,k7,k8⟩:=st.kept
                exact⟨k1,k2,k3,k4,k5,fun b hb=>⟨(k6 b hb).1,(k6 b hb).2.1,fun j c h=>(k6 b hb).2.2 j c (hpk _ _ h)⟩,fun j c h1 h2=>by
                  obtain⟨p1,c',p2,p3⟩:=k7 j c h1 h2;exact⟨p1,c',by rw[same];exact p2,p3⟩,k8⟩
              · obtain⟨Ds,d1,d2,d3⟩:=st.defers
                exact⟨Ds,d1,d2,fun D hD=>⟨(d3 D hD).1,(d3 D hD).2.1,(d3 D hD).2.2.1,fun j c h=>(d3 D hD).2.2.2 j c (hpk _ _ h)⟩⟩
          · rcases hrs with⟨a1,he,hl⟩|⟨bb,off,cap',c,T,fr,he,hc0,hw,hfr,hm,hcap,hszc,hrow,hone,hrr⟩
            · rw[he,qB9] at hβ;simp at hβ;omega
            · have hβ' := hβ
              rw[he,qB9] at hβ;simp only[Value.slice.injEq,List.length_map] at hβ;obtain⟨rfl,rfl,rfl⟩:=hβ;simp only[List.length_map] at hcap;have hck:¬(cap'-k=0):=by omega
              rw[if_neg hck];rw[hτ] at hszc hrr;rw[hsz];obtain⟨cur',w',hr,q1,q2,q3,q4⟩:=qB3 (P:=B.P) bb (off+k*1) T fr (List.replicate (l.length-k) c1) 0 c w hw (by simp;omega) (fun v hv=>by rw[List.eq_of_mem_replicate hv];exact hone1) hfr.cell
              refine⟨_, Φ',.tuple #[],w',hk,?_,.tup (cs:=[]) rfl (fun i sv v h=>by simp at h),qDJ st hg hΦ q2 (qG2 he hc0) (qST _ _ _) ?_ rfl⟩
              · obtain⟨m,hm'⟩:∃ m,l.length-k=m+1:=⟨l.length-k-1,by omega⟩
                have hst:(storeCells ⟨bb,off+k*1,none⟩ (Builtin.zeroCells zv.cells (l.length-k)).toList).run B.P w=.ok () w':=by
                  rw[hzc,qQW];exact hr
                rw[hm'] at hst ⊢;simp only[yBK,qJM];simp[Builtin.clear_,run_underlying hu,hzrun];simp only[Nat.mul_one] at hst;simp[hst]
              · refine .own (.inr ⟨bb,off,cap',cur',T,fr,by rw[he];simp;omega,hc0,q1,hfr.turn q3,hm,by simp;omega,by rw[q3,hτ];exact hszc,fun i row hi=>?_,fun i row j sv hi hj=>?_,fun i row j sv v hi hj hv=>?_⟩)
                · rw[List.getElem?_map] at hi
                  cases hq:(l.take k++List.replicate (l.length-k) d)[i]? with
                  | none=>rw[hq] at hi;cases hi
                  | some y=>rw[hq] at hi;simp at hi;rw[<-hi,enc_len]
                · rw[List.getElem?_map] at hi
                  cases hq:(l.take k++List.replicate (l.length-k) d)[i]? with
                  | none=>rw[hq] at hi;cases hi
                  | some y=>rw[hq] at hi;simp at hi;rw[<-hi] at hj;exact enc_one _ _ _ _ hj
                · rw [hτ] at hv
                  rw[List.getElem?_map,yAQ] at hi;have htl:(l.take k).length=k:=by simp;omega
                  rw[htl] at hi;have hj0:j=0:=by
                    have h1:row.length=1:=by
                      split at hi
                      · cases hq:(l.take k)[i]? with
                        | none=>rw[hq] at hi;cases hi
                        | some y=>rw[hq] at hi;simp at hi;rw[<-hi,enc_len,hτ]
                      · cases hq:(List.replicate (l.length-k) d)[i-k]? with
                        | none=>rw[hq] at hi;cases hi
                        | some y=>rw[hq] at hi;simp at hi;rw[<-hi,enc_len,hτ]
                    have:=qAV hj;omega
                  subst hj0;rw[q4] at hv;simp only[yAZ] at hv;by_cases hik:i<k
                  · rw[if_pos hik] at hi
                    rw[if_neg (by omega)] at hv
                    refine hrr i row 0 sv v ?_ hj hv;rw[List.getElem?_map];rw[yAV,if_pos hik] at hi;exact hi
                  · rw[if_neg hik] at hi
                    have hil:i-k<l.length-k:=by
                      cases hq:(List.replicate (l.length-k) d)[i-k]? with
                      | none=>rw[hq] at hi;cases hi
                      | some y=>have:=qAV hq;simpa using this
                    rw[yAT,if_pos hil] at hi;simp at hi;rw[<-hi,hsv1] at hj;simp at hj;subst hj;rw[if_pos (by omega),yAT,if_pos (by omega)] at hv
                    cases hv;exact hrel1 r β0
    · exact h.elim
  · exact h.elim
end Go.Vc

namespace Go.Vc
set_option autoImplicit false
theorem qe6 {x y:SV}(h:quW x y):x=y:=by
 unfold quW at h;split at h
 ·obtain⟨rfl,rfl⟩:=h;rfl
 ·rw[h]
 ·rw[h]
 ·rw[h]
 ·obtain⟨rfl,rfl⟩:=h;rfl
 ·exact h
 ·exact h.elim
theorem qXZ:∀ {xs ys:List SV},qkN xs ys->xs=ys
 | [],[],_=>rfl
 | x::r,y::s,h=>by rw[qe6 h.1,qXZ h.2]
 | [],_::_,h=>h.elim
 | _::_,[],h=>h.elim
theorem qhC {x y:SV}(h:qlG x y):x=y:=by
 unfold qlG at h;split at h
 ·rw[qXZ h]
 ·exact qe6 h
theorem qTS:∀ {xs ys:List SV},qd7 xs ys->xs=ys
 | [],[],_=>rfl
 | x::r,y::s,h=>by rw[qhC h.1,qTS h.2]
 | [],_::_,h=>h.elim
 | _::_,[],h=>h.elim
theorem qGA.mono {P:Program}{l:Nat}{vs:List Value}{w:World}{R R':Ending->World->Prop}(h:qGA P l vs w R) (hr:∀ e w',R e w'->R' e w'):qGA P l vs w R':=by
 obtain⟨fn,tmps,assign,body,h1,h2⟩:=h;exact⟨fn,tmps,assign,body,h1,h2.mono hr⟩
def YOk (B:Base) (F:Entry->Prop) (N:Nat):Prop:=
 ∀ e r β σ Φ a w i vs,F e->Sat B e N r β σ Φ a w->Phi.get Φ GID=some (.gh (some i))->i<B.Y.len->qA5 r β (B.Y.at_ i) vs->qE7 GID σ=true->qOM GID Φ=true->
  qGA B.P B.Y.l vs w fun en w'=>∃ b,en=.returned (.bool b)/\∃ e',F e'/\
   ∀ Φ',(∀ j,Phi.get Φ' j=bif Nat.beq GID j then some (.gh (bif b then some (i+1) else none)) else Phi.get Φ j)->∃ β',Sat B e' N r β' σ Φ' a w'
theorem YOk.none {B:Base}{F:Entry->Prop}{N:Nat}(h:B.Y.len=0):YOk B F N:=fun e r β σ Φ a w i vs _ _ _ hi=>by omega
theorem qTD {B:Base}{F:Entry->Prop}{N:Nat}(hY:YOk B F N) {e r β σ Φ a w n l}{xs:List SV}{vs:List Value}{K:EK}(h:qeL B l xs σ Φ n K) (hF:F e) (s:Sat B e N r β σ Φ a w) (hx:qA5 r β xs vs):
  qGA B.P l vs w fun en w'=>∃ v,en=.returned v/\∃ e',F e'/\After B e' N a σ K v w':=by
 unfold qeL at h;split at h
 ·rename_i i hg;cases hc:(qE7 GID σ&&qOM GID Φ) with
  | false=>rw[hc] at h;exact h.elim
  | true=>
   rw[hc] at h;simp only[yAJ] at hc;obtain⟨⟨rfl⟩,⟨hi⟩,heq,ht,hf⟩:=h;obtain rfl:=qTS heq;obtain⟨Φt,hkt,hΦt⟩:=qAP ht (qA7 hg);obtain⟨Φf,hkf,hΦf⟩:=qAP hf (qA7 hg);refine(hY e r β σ Φ a w i vs hF s hg hi hx hc.1 hc.2).mono ?_;rintro en w' ⟨b,rfl,e',hF',hs⟩;refine⟨_,rfl,e',hF',?_⟩;cases b with
   | true=>
    obtain⟨β',s'⟩:=hs Φt hΦt;exact⟨⟨_,_,_,_,_,_,hkt,.bool,s',fun _ h=>h⟩⟩
   | false=>
    obtain⟨β',s'⟩:=hs Φf hΦf;exact⟨⟨_,_,_,_,_,_,hkf,.bool,s',fun _ h=>h⟩⟩
 ·exact h.elim
end Go.Vc

namespace Go.Vc
set_option autoImplicit false
theorem qL4 {P:Program}{w:World}{t tx e ty:TypeId}(ht:P.underlying t=some (.slice e)) (hx:P.underlying tx=some .string) (hi:(P.info? e).isSome=true):
  (Builtin.append_ #[t,tx] ty #[.slice none 0 0,.string ⟨#[]⟩]).run P w=.ok (.slice none 0 0) w:=by
 obtain⟨i,hi⟩:=Option.isSome_iff_exists.1 hi;have hz:(ByteArray.mk #[]).size=0:=rfl;simp[Builtin.append_,run_underlying ht,run_underlying hx,sizeOf,typeInfo,hi,Builtin.lenOf,Builtin.firstCells,hz]
theorem qaR {B:Base}{e N r β σ Φ a w n ts tx ty}{x:SV}{vx:Value}{K:EK}(h:AppN B ts tx x σ Φ n K) (st:Sat B e N r β σ Φ a w) (hx:Rel r β x vx):
  ∃ sv σ' Φ' n' v w' β',K sv σ' Φ' n'/\(Builtin.append_ #[ts,tx] ty #[.slice none 0 0,vx]).run B.P w=.ok v w'/\Rel r β' sv v/\Sat B e N r β' σ' Φ' a w'/\(∀ D,qDX D σ->qDX D σ'):=by
 cases h with
 | mk h=>exact qJR h st .nils hx
 | ns h=>exact qQS h st hx
 | nl ht hs k=>
  subst hs;cases hx;split at ht
  ·rename_i el hts htx;exact⟨_,_,_,_,_,w, β,k,qL4 hts htx ht,.nils,st,fun _ h=>h⟩
  ·cases ht
theorem qUV {B:Base}{e N r β σ Φ a w n t ty}{x:SV}{vx:Value}{K:EK}(h:qb8 x σ Φ n K) (st:Sat B e N r β σ Φ a w) (hx:Rel r β x vx):
  ∃ sv v,K sv σ Φ n/\(Builtin.unsafeSliceData_ #[t] ty #[vx]).run B.P w=.ok v w/\Rel r β sv v:=by
 unfold qb8 at h;split at h
 ·cases hx;exact⟨_,_,h,rfl,.v⟩
 ·rename_i id;split at h
  ·rename_i τ l hg;obtain⟨hob,h⟩:=h;have hne:=hob.h;have hm:=st.mem.rows hg;cases hm with
   | own hrs=>
    have hv:vx=β id:=by cases hx;exact hrs.hd
    subst hv;rcases hrs with⟨a0,he,hl⟩|⟨bb,off,cap,c,T,fr,he,hc0,hw,hfr,hm,hcap,hsz,hrow,hone,hrr⟩
    ·exact absurd (by simpa using hl) hne
    ·refine⟨_,_,h,by rw[he];exact Lib.run_unsafeSliceData_row _ _ _ _ _ _ hc0,?_⟩
     have:=Rel.oel (r:=r) (β:=β) (id:=id) (sz:=τ.size) (i:=0) (off:=0) (by rw[he,qB9])
     simpa using this
  ·exact h.elim
 ·exact h.elim
theorem qaA (w:World) (p:Addr) (n:Nat) (b:Nat) (hb:b≠p.block):(w.freeze p n).heap[b]?=w.heap[b]?:=by
 unfold World.freeze;split
 ·rfl
 ·simp only[yAD];rw[if_neg (fun h=>hb h.symm)]
theorem qVN (w:World) (p:Addr) (n:Nat):(w.freeze p n).os=w.os/\(w.freeze p n).tape=w.tape/\(w.freeze p n).output=w.output/\(w.freeze p n).heap.size=w.heap.size:=by
 unfold World.freeze;split
 ·exact⟨rfl,rfl,rfl,rfl⟩
 ·exact⟨rfl,rfl,rfl,by simp⟩
theorem qVO {B:Base}{e N r β σ Φ a w n tp ti ty}{p i:SV}{vp vi:Value}{K:EK}(h:qlC B tp p i σ Φ n K) (st:Sat B e N r β σ Φ a w) (hp:Rel r β p vp) (hi:Rel r β i vi):
  ∃ sv σ' Φ' n' v w' β',K sv σ' Φ' n'/\(Builtin.unsafeString_ #[tp,ti] ty #[vp,vi]).run B.P w=.ok v w'/\Rel r β' sv v/\Sat B e N r β' σ' Φ' a w'/\(∀ D,qDX D σ->qDX D σ'):=by
 unfold qlC at h;split at h
 ·rename_i m;obtain⟨hob,h⟩:=h;have hm:=hob.h;subst hm;cases hp;cases hi;exact⟨_,_,_,_,_,w, β,h,Lib.run_unsafeString_none w tp ti ty none,.str (by simp),st,fun _ h=>h⟩
 ·rename_i id m;split at h
  ·rename_i e0 l htp hg;cases hz:(Nat.beq e0 5&&Nat.beq (B.P.cellsOf e0) 1) with
   | false=>rw[hz] at h;exact h.elim
   | true=>
   rw[hz] at h;simp only[yAJ] at hz;have he5:=qAM hz.1;have hc1:=qAM hz.2;obtain⟨hob,h⟩:=h;obtain⟨hm,hne⟩:=hob.h;subst hm;obtain⟨σ',h,hσ⟩:=qBX h;obtain⟨Φ1,h,hΦ1⟩:=qBY h;obtain⟨c1,hc1'⟩:=(hΦ1 id).2 _ hg;obtain⟨Φ',hk,hΦ⟩:=qAP h (qA7 hc1');cases hi;cases hp with
   | oel hβ=>
    rename_i b off0 n0 cap0;have hm:=st.mem.rows hg;cases hm with
    | own hrs=>
     rcases hrs with⟨a0,he,hl⟩|⟨bb,off,cap,c,T,fr,he,hc0,hw,hfr,hm,hcap,hsz,hrow,hone,hrr⟩
     ·exact absurd (by simpa using hl) hne
     ·rw[he,qB9] at hβ;simp only[Value.slice.injEq,Option.some.injEq,Addr.mk.injEq] at hβ;obtain⟨⟨rfl,rfl,_⟩,_,_⟩:=hβ;obtain⟨hT,hoff⟩:=hfr.1 rfl;subst hoff;rw[List.length_map] at hcap;have hsz':0+cap<=c.size:=by have:0+cap*1<=c.size:=hsz;omega
      have hadd:0+0*1+0=0:=rfl;rw[hadd];have hcell:∀ j x,l[j]?=some x->w.cell? ((⟨bb,0,none⟩:Addr).add j)=some (.int .u8 x.toNat):=by
       intro j x hj;have hjl:=qAV hj;rw[qJM];simp only[World.cell?,hw];have hjc:0+j<c.size:=by omega
       rw[yAC hjc];have hr:=hrr j (Ty.enc .byte x) 0 (.int .u8 x.toNat) c[0+j] (by rw[List.getElem?_map,hj];rfl) rfl (by
        have:0+j*Ty.byte.size+0=0+j:=by show 0+j*1+0=_;omega
        rw[this];exact yAC hjc)
       generalize c[0+j]=u at hr ⊢;cases hr;rfl
      have hrun:=Lib.run_unsafeString_row (P:=B.P) w tp ti ty e0 htp hc1 bb c.size (by simp[World.shape?,hw,hT,he5]) l hne (by omega) (by omega) hcell
      obtain⟨f1,f2,f3,f4⟩:=qVN w ⟨bb,0,none⟩ l.length;have hbl:(Chunk.own Ty.byte l).hb (β id) bb:=qG2 he hc0;refine⟨_, σ', Φ',n,_,_,_,hk,hrun,.str (by omega),qIX (ch':=.own .byte []) (v':=.slice none 0 0) st hg hσ hΦ1 hΦ f1 f2 f3 (by rw[f4];exact yBH _)
       (fun b' _ hb'=>qaA w _ _ b' (fun h0=>hb' (by simp at h0;first|(subst h0;exact hbl)|(rw[h0];exact hbl)|(rw[<-h0];exact hbl)))) (fun b' hb'=>by cases hb') (.own (.inl ⟨none,rfl,rfl⟩)) rfl,fun D hD k s0 w0 sv0 hk0=>?_⟩
      obtain⟨sv,q1,_⟩:=hσ k _ sv0 hk0;exact hD k s0 w0 sv q1
  ·exact h.elim
 ·exact h.elim
end Go.Vc
