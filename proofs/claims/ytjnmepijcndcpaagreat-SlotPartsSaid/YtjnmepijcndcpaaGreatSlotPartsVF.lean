/- A part of the proof: lemmas and walks that the last text of the claim joins; no condition. -/
import Derived.Test.YtjnmepijcndcpaaGreatSlotPartsVE
import Derived.ControlIn
import Derived.RangeFuncIn
import Derived.RangeFuncRecord
import Derived.RangeFuncLeaves
import Derived.Below
open Array renaming foldl_toList→yAA,getElem?_append_left→yAB,getElem?_push→yAC
open Bool renaming and_eq_true→yAD,false_or→yAE,not_eq_true'→yAF,or_eq_false_iff→yAG,or_eq_true→yAH
open List renaming filter_cons→yAI,foldl_cons→yAJ,getElem?_eq_getElem→yAK,getElem?_set→yAL,getElem?_take→yAM,mapM_cons→yAN,mem_append_right→yAO,mem_cons→yAP,mem_of_getElem?→yAQ,nodup_cons→yAR,nodup_nil→yAS,not_mem_nil→yAT
open Nat renaming beq_refl→yAU,le_of_ble_eq_true→yAV,le_refl→yAW,le_trans→yAX,lt_of_lt_of_le→yAY,lt_or_ge→yAZ,lt_succ_self→yA0,lt_trichotomy→yA1,zero_add→yA2
open Option renaming map_eq_some_iff→yA3
set_option linter.unusedVariables false
set_option linter.unusedSimpArgs false
set_option maxHeartbeats 8000000
namespace Go.Vc
set_option autoImplicit false
open Classical in
noncomputable def frx (q:Nat->Bool) (r:Mem) (β:qBD) (Φ:Phi) (w:World):Mem:=fun b=>
 if ∃ id ch,q id=true/\Phi.get Φ id=some ch/\(ch.kind=0\/ch.kind=1\/ch.kind=6)/\ch.hb (β id) b then w.heap[b]? else r b
theorem qLI {q r β Φ w}(m:MemSat r β Φ w):Mem.le r (frx q r β Φ w):=by
 intro b o h;unfold frx;rw[if_neg]
 ·exact h
 ·rintro⟨id,ch,_,h1,_,h3⟩;rw[m.sep _ _ _ h1 h3] at h;cases h
theorem qYW {q r β Φ w id ch b}(hq:q id=true) (h1:Phi.get Φ id=some ch) (h2:ch.kind=0\/ch.kind=1\/ch.kind=6) (h3:ch.hb (β id) b):frx q r β Φ w b=w.heap[b]?:=by
 unfold frx;rw[if_pos ⟨id,ch,hq,h1,h2,h3⟩]
theorem qcZ {q r β Φ w b}(h:∀ id ch,q id=true->Phi.get Φ id=some ch->(ch.kind=0\/ch.kind=1\/ch.kind=6)->¬ch.hb (β id) b):frx q r β Φ w b=r b:=by
 unfold frx;rw[if_neg];rintro⟨id,ch,h0,h1,h2,h3⟩;exact h id ch h0 h1 h2 h3
theorem qkA {q r β Φ w}(m:MemSat r β Φ w) (b o) (h:frx q r β Φ w b=some o):w.heap[b]?=some o:=by
 unfold frx at h;split at h
 ·exact h
 ·exact m.vis b o h
theorem qm1 {q r β Φ w id}{τ:Ty}{l:List τ.T}(m:MemSat r β Φ w) (hq:q id=true) (hg:Phi.get Φ id=some (.own τ l)) (β':qBD):Rel (frx q r β Φ w) β' (.rd τ l) (hd (β id)):=by
 have hs:=m.rows hg;cases hs with
 | own hs=>rw[hs.hd];exact .rd (qHF (qLI m) hs (fun b off n cap he hc=>qYW hq hg (.inl rfl) (qG2 he hc)) β')
theorem qoO {q r β Φ w id}{τ:Ty}{l:List τ.T}(m:MemSat r β Φ w) (hq:q id=true) (hg:Phi.get Φ id=some (.ow τ l)) (β':qBD):Rel (frx q r β Φ w) β' (.rd τ l) (hd (β id)):=by
 have hs:=m.rows hg;cases hs with
 | ow hs=>rw[hs.hd];exact .rd (qHF (qLI m) hs (fun b off n cap he hc=>qYW hq hg (.inr (.inr rfl)) (qZJ he hc)) β')
theorem qgK {r r':Mem}(hle:r.le r') {β w x}{τ:Ty}{p:Nat}{l:List τ.T}(h:(Chunk.nst τ p l none).Sat r β w x) (hb:∀ b,zGC x b->r' b=w.heap[b]?) (β':qBD):Rel r' β' (.rd τ l) (hd x):=by
 cases h with
 | nst hx hl gl hm hg ho hk h0 h1=>
  rename_i m hs gs;subst hx;rw[qEQ];have hrl:=qCT (τ:=τ) (p:=p) gl;rcases hm with⟨a,rfl,he⟩|⟨b,off,cap,c,T,fr,he,hc0,hw,_,k1,k2,k3,k4,k5,k6⟩
  ·rw[he] at hrl;have:l=[]:=List.length_eq_zero_iff.1 (by simpa using hrl.symm)
   subst this;exact .rd .litsE
  ·rw [hrl] at he k2;rw[he];have hbm:r' b=w.heap[b]?:=hb b ⟨_,_,rfl,.inl (by rw[he];simp only[qA1,qAS hc0];rfl)⟩
   refine .rd ?_;have key:Rel r' β' (.lits τ.size (l.map τ.enc)) (.slice (some ⟨b,off,none⟩) (l.map τ.enc).length cap):=by
    refine .lits (by rw[hbm];exact hw) (by simp;omega) (by simpa using k2) (fun i row hi=>?_) (fun i row j sv hi hj=>?_) ?_ (fun i row j sv v hi hj hv=>?_)
    ·rw[List.getElem?_map] at hi;cases hq:l[i]? with
     | none=>rw[hq] at hi;cases hi
     | some a=>rw[hq] at hi;cases hi;exact enc_len _ _
    ·rw[List.getElem?_map] at hi;cases hq:l[i]? with
     | none=>rw[hq] at hi;cases hi
     | some a=>rw[hq] at hi;cases hi;exact enc_one _ _ _ _ hj
    ·have:=Nat.mul_le_mul_right τ.size k2;simp;omega
    ·rw[List.getElem?_map] at hi;cases hq:l[i]? with
     | none=>rw[hq] at hi;cases hi
     | some a=>
      rw[hq] at hi;cases hi;have hil:=qB2 hq;have hgi:gs[i]?=some gs[i]:=yAK (by omega)
      have hra:=qJJ (p:=p) i _ _ hq hgi;by_cases hpj:p=j
      ·subst hpj;have hpl:=qB2 hj;have hv':=k6 i _ p (.v gs[i]) v hra (by unfold qH1;rw[yAL,if_pos rfl,if_pos hpl]) hv
       cases hv';have hhi:hs[i]?=some gs[i]:=by rw[<-hg i (by simp)];exact hgi
       obtain⟨ks,p1,p2⟩:=hk i a _ hq hhi;unfold qGI at p1;rw[hj] at p1;cases p1;exact .rd (qHF hle p2 (fun b' off' n' cap' he' hc'=>hb b' ⟨_,_,rfl,.inr ⟨_,yAQ hhi,by rw[he'];simp only[qA1,qAS hc'];rfl⟩⟩) β0)
      ·exact(k6 i _ j sv v hra (by unfold qH1;rw[yAL,if_neg hpj];exact hj) hv).mono hle
   simpa using key
theorem qlT {q r β Φ w id}{τ:Ty}{p:Nat}{l:List τ.T}(m:MemSat r β Φ w) (hq:q id=true) (hg:Phi.get Φ id=some (.nst τ p l none)) (β':qBD):Rel (frx q r β Φ w) β' (.rd τ l) (hd (β id)):=
 qgK (qLI m) (m.rows hg) (fun b hb=>qYW hq hg (.inl rfl) hb) β'
theorem qkP {q r β Φ w id off v}{τ:Ty}{x:τ.T}(m:MemSat r β Φ w) (hq:q id=true) {T0:Option Nat}(hg:Phi.get Φ id=some (.bx T0 (τ.enc x))) (h:Rel r β (.loc id off) v) (β':qBD):Rel (frx q r β Φ w) β' (.el τ [x] 0 off) v:=by
 have hs:=m.chs _ _ hg;cases h with
 | loc hb=>
  rename_i b;cases hs with
  | box hx hw hl hc hT=>
   rename_i b' c T;rw[hb] at hx;obtain rfl:b=b':=by simpa using hx
   have hf:frx q r β Φ w b=some (.cells c T (0,0)):=by rw[qYW hq hg (.inr (.inl rfl)) (by rw[hb];rfl)];exact hw
   have hsz:c.size=τ.size:=by rw[hl,enc_len]
   have key:Rel (frx q r β Φ w) β' (.lits τ.size ([x].map τ.enc)) (.slice (some ⟨b,0,none⟩) 1 1):=by
    refine Rel.lits hf (by simp) (by simp) (fun i row hi=>?_) (fun i row j sv hi hj=>?_) (by simp[hsz]) (fun i row j sv v hi hj hv=>?_)
    ·cases i with
     | zero=>simp at hi;subst hi;exact enc_len τ x
     | succ i=>simp at hi
    ·cases i with
     | zero=>simp at hi;subst hi;exact enc_one τ x j sv hj
     | succ i=>simp at hi
    ·cases i with
     | zero=>simp at hi;subst hi;exact((hc j sv v hj (by simpa using hv)).mono (qLI m)).pure (qFY τ x j sv hj) _
     | succ i=>simp at hi
   have:=Rel.el (off:=off) key (i:=0) (by simp)
   simpa using this
def Ext (M M':MM):Prop:=∀ j x,MM.get M j=some x->MM.get M' j=some x
theorem Ext.refl (M:MM):Ext M M:=fun _ _ h=>h
theorem Ext.trans {A B C:MM}(h:Ext A B) (k:Ext B C):Ext A C:=fun j x hx=>k j x (h j x hx)
theorem qD9 (a:Nat) (x:Option Nat) (M:MM) (j:Nat):MM.get ((a,x)::M) j=bif Nat.beq a j then some x else MM.get M j:=rfl
theorem Ext.cons {M:MM}{j:Nat}{x:Option Nat}(h:MM.get M j=none):Ext M ((j,x)::M):=by
 intro k y hk;rw[qD9];cases hb:Nat.beq j k with
 | true=>obtain rfl:=qAM hb;rw[h] at hk;cases hk
 | false=>exact hk
def Sub (Z Z':List Nat):Prop:=∀ z∈Z,z∈Z'
def βM (M:MM) (β:qBD):qBD:=fun j=>match MM.get M j with|some (some i)=>β i|some none=>.slice none 0 0|none=>β j
def qiC (Φ:Phi) (M:MM) (Z:List Nat) (a b:SV):Prop:=
 ∀ Mf Zf,Ext M Mf->Sub Z Zf->∀ r β w v,MemSat r β Φ w->Rel r β a v->Rel (frx (fun i=>qD8 i Zf) r β Φ w) (βM Mf β) b v
theorem qiC.mono {Φ M Z a b M' Z'}(h:qiC Φ M Z a b) (hM:Ext M M') (hZ:Sub Z Z'):qiC Φ M' Z' a b:=
 fun Mf Zf h1 h2=>h Mf Zf (hM.trans h1) (fun z hz=>h2 z (hZ z hz))
def qCB (M:MM) (Z:List Nat) (M':MM) (Z':List Nat):Prop:=Ext M M'/\Sub Z Z'
theorem qCB.refl (M Z):qCB M Z M Z:=⟨Ext.refl M,fun _ h=>h⟩
theorem qCB.trans {M Z M' Z' M2 Z2}(h:qCB M Z M' Z') (k:qCB M' Z' M2 Z2):qCB M Z M2 Z2:=⟨h.1.trans k.1,fun z hz=>k.2 z (h.2 z hz)⟩
theorem qW6 {M:MM}{j i:Nat}{K:MM->Prop}(h:qWC M j i K):∃ M',K M'/\Ext M M'/\MM.get M' j=some (some i):=by
 unfold qWC at h;split at h
 ·rename_i i' hg;cases hb:Nat.beq i i' with
  | false=>rw[hb] at h;exact h.elim
  | true=>rw[hb] at h;obtain rfl:=qAM hb;exact⟨M,h,Ext.refl M,hg⟩
 ·exact h.elim
 ·rename_i hg;cases hu:MM.used M i with
  | true=>rw[hu] at h;exact h.elim
  | false=>rw[hu] at h;exact⟨_,h,Ext.cons hg,by rw[qD9,yAU];rfl⟩
theorem qOU {Φ ΦI a b M Z}{K:MM->List Nat->Prop}(h:qtL Φ ΦI a b M Z K):∃ M' Z',K M' Z'/\qCB M Z M' Z'/\qiC Φ M' Z' a b:=by
 have map:∀ {j i:Nat}{K:MM->List Nat->Prop},qWC M j i (fun M=>K M Z)->∃ M' Z',K M' Z'/\qCB M Z M' Z'/\∀ Mf,Ext M' Mf->∀ β, βM Mf β j=β i:=by
  intro j i K h;obtain⟨M',hk,h1,h2⟩:=qW6 h;exact⟨M',Z,hk,⟨h1,fun _ h=>h⟩,fun Mf hf β=>by simp only[βM,hf j _ h2]⟩
 unfold qtL at h;split at h
 ·obtain⟨⟨rfl,rfl⟩,h⟩:=h;exact⟨M,Z,h,qCB.refl M Z,fun Mf Zf _ _ r β w v m hr=>by cases hr;exact .int⟩
 ·obtain⟨rfl,h⟩:=h;exact⟨M,Z,h,qCB.refl M Z,fun Mf Zf _ _ r β w v m hr=>by cases hr;exact .bool⟩
 ·obtain⟨rfl,h⟩:=h;exact⟨M,Z,h,qCB.refl M Z,fun Mf Zf _ _ r β w v m hr=>by cases hr;rename_i hl;exact .str hl⟩
 ·obtain⟨rfl,h⟩:=h;exact⟨M,Z,h,qCB.refl M Z,fun Mf Zf _ _ r β w v m hr=>by cases hr;exact .flt⟩
 ·obtain⟨⟨rfl,rfl⟩,h⟩:=h;exact⟨M,Z,h,qCB.refl M Z,fun Mf Zf _ _ r β w v m hr=>by cases hr;exact .cpx⟩
 ·obtain⟨M',Z',hk,hs,hb⟩:=map h;refine⟨M',Z',hk,hs,fun Mf Zf hf _ r β w v m hr=>?_⟩
  cases hr with
  | own ho=>rw[<-hb Mf hf β] at ho ⊢;exact .own ho
 ·rename_i j;split at h
  ·rename_i hg;refine⟨_,Z,h,⟨Ext.cons hg,fun _ h=>h⟩,fun Mf Zf hf _ r β w v m hr=>?_⟩
   cases hr;have e:βM Mf β j=.slice none 0 0:=by simp only[βM,hf j none (by rw[qD9,yAU];rfl)]
   have:=Rel.own (r:=frx (fun i=>qD8 i Zf) r β Φ w) (β:=βM Mf β) (id:=j) (by rw[e];rfl)
   rw[e] at this;exact this
  ·rename_i hg;refine⟨_,Z,h,qCB.refl M Z,fun Mf Zf hf _ r β w v m hr=>?_⟩
   cases hr;have e:βM Mf β j=.slice none 0 0:=by simp only[βM,hf j none hg]
   have:=Rel.own (r:=frx (fun i=>qD8 i Zf) r β Φ w) (β:=βM Mf β) (id:=j) (by rw[e];rfl)
   rw[e] at this;exact this
  ·exact h.elim
 ·obtain⟨rfl,h⟩:=h;exact⟨M,Z,h,qCB.refl M Z,fun Mf Zf _ _ r β w v m hr=>by cases hr;exact .rd .litsE⟩
 ·rename_i i τ' l';split at h
  ·rename_i τ l hg;obtain⟨he,h⟩:=h;refine⟨M,i::Z,h,⟨Ext.refl M,fun z hz=>List.mem_cons_of_mem _ hz⟩,fun Mf Zf _ hz r β w v m hr=>?_⟩
   cases hr;rw[<-he];exact qm1 m (qB6.2 (hz i (by simp))) hg _
  ·rename_i τ l hg;obtain⟨he,h⟩:=h;refine⟨M,i::Z,h,⟨Ext.refl M,fun z hz=>List.mem_cons_of_mem _ hz⟩,fun Mf Zf _ hz r β w v m hr=>?_⟩
   cases hr;rw[<-he];exact qoO m (qB6.2 (hz i (by simp))) hg _
  ·rename_i τ p l hg;obtain⟨he,h⟩:=h;refine⟨M,i::Z,h,⟨Ext.refl M,fun z hz=>List.mem_cons_of_mem _ hz⟩,fun Mf Zf _ hz r β w v m hr=>?_⟩
   cases hr;rw[<-he];exact qlT m (qB6.2 (hz i (by simp))) hg _
  ·exact h.elim
 ·rename_i i off τ l k off';split at h
  ·rename_i cells x hg;obtain⟨⟨⟨rfl,rfl⟩,rfl⟩,h⟩:=h;refine⟨M,i::Z,h,⟨Ext.refl M,fun z hz=>List.mem_cons_of_mem _ hz⟩,fun Mf Zf _ hz r β w v m hr=>?_⟩
   exact qkP m (qB6.2 (hz i (by simp))) hg hr _
  ·exact h.elim
 ·obtain⟨⟨rfl,rfl⟩,h⟩:=h;exact⟨M,Z,h,qCB.refl M Z,fun Mf Zf _ _ r β w v m hr=>.rd ((hr.mono (qLI m)).pure rfl _)⟩
 ·rename_i i off j off';cases hb:Nat.beq off off' with
  | false=>rw[hb] at h;exact h.elim
  | true=>
   rw[hb] at h;obtain rfl:=qAM hb;obtain⟨M',Z',hk,hs,hb⟩:=map h;refine⟨M',Z',hk,hs,fun Mf Zf hf _ r β w v m hr=>?_⟩
   cases hr with
   | loc ho=>exact .loc (by rw[hb Mf hf β];exact ho)
 ·obtain⟨M',Z',hk,hs,hb⟩:=map h;refine⟨M',Z',hk,hs,fun Mf Zf hf _ r β w v m hr=>?_⟩
  cases hr with
  | mref ho=>exact .mref (by rw[hb Mf hf β];exact ho)
 ·obtain⟨⟨rfl,rfl,rfl⟩,h⟩:=h;obtain⟨M',Z',hk,hs,hb⟩:=map h;refine⟨M',Z',hk,hs,fun Mf Zf hf _ r β w v m hr=>?_⟩
  cases hr with
  | oel ho=>exact .oel (by rw[hb Mf hf β];exact ho)
 ·exact⟨M,Z,h,qCB.refl M Z,fun Mf Zf _ _ r β w v m hr=>.und⟩
 ·cases ho:SV.okIds (fun _=>false) b with
  | false=>rw[ho] at h;exact h.elim
  | true=>
   rw[ho] at h;obtain⟨rfl,h⟩:=h;exact⟨M,Z,h,qCB.refl M Z,fun Mf Zf _ _ r β w v m hr=>(hr.mono (qLI m)).pure ho _⟩
def qiY (Φ:Phi) (M:MM) (Z:List Nat) (l l':List SV):Prop:=l.length=l'.length/\∀ (i:Nat) a b,l[i]?=some a->l'[i]?=some b->qiC Φ M Z a b
theorem qiY.mono {Φ M Z l l' M' Z'}(h:qiY Φ M Z l l') (hs:qCB M Z M' Z'):qiY Φ M' Z' l l':=⟨h.1,fun i a b q1 q2=>(h.2 i a b q1 q2).mono hs.1 hs.2⟩
theorem qPI {Φ:Phi}{D:SV->SV->MM->List Nat->(MM->List Nat->Prop)->Prop}{DL:List SV->List SV->MM->List Nat->(MM->List Nat->Prop)->Prop}
  (h0:∀ M Z K,DL [] [] M Z K->K M Z) (h1:∀ a r b s M Z K,DL (a::r) (b::s) M Z K->D a b M Z fun M Z=>DL r s M Z K) (h2:∀ b s M Z K,DL [] (b::s) M Z K->False) (h3:∀ a r M Z K,DL (a::r) [] M Z K->False)
  (hD:∀ a b M Z K,D a b M Z K->∃ M' Z',K M' Z'/\qCB M Z M' Z'/\qiC Φ M' Z' a b):
  ∀ (l l':List SV) (M:MM) (Z:List Nat) (K:MM->List Nat->Prop),DL l l' M Z K->∃ M' Z',K M' Z'/\qCB M Z M' Z'/\qiY Φ M' Z' l l':=by
 intro l
 induction l with
 | nil=>
  intro l' M Z K h;cases l' with
  | nil=>exact⟨M,Z,h0 _ _ _ h,qCB.refl M Z,rfl,fun i a b q=>by simp at q⟩
  | cons b s=>exact(h2 _ _ _ _ _ h).elim
 | cons a r ih=>
  intro l' M Z K h;cases l' with
  | nil=>exact(h3 _ _ _ _ _ h).elim
  | cons b s=>
   obtain⟨M1,Z1,h,hs1,hp⟩:=hD _ _ _ _ _ (h1 _ _ _ _ _ _ _ h);obtain⟨M2,Z2,hk,hs2,hl,hh⟩:=ih s M1 Z1 K h;refine⟨M2,Z2,hk,hs1.trans hs2,by simp[hl],fun i x y q1 q2=>?_⟩
   cases i with
   | zero=>simp at q1 q2;subst q1;subst q2;exact hp.mono hs2.1 hs2.2
   | succ i=>exact hh i x y (by simpa using q1) (by simpa using q2)
theorem qiY.relL {Φ M Z l l'}(h:qiY Φ M Z l l') {Mf Zf}(h1:Ext M Mf) (h2:Sub Z Zf) {r β w vs}(m:MemSat r β Φ w) (hv:qA5 r β l vs):qA5 (frx (fun i=>qD8 i Zf) r β Φ w) (βM Mf β) l' vs:=
 ⟨by rw[hv.1,h.1],fun i y v q1 q2=>by
  have hi:i<l.length:=by have:=qAV q1;rw[h.1];exact this
  exact h.2 i l[i] y (yAK hi) q1 Mf Zf h1 h2 r β w v m (hv.2 i _ v (yAK hi) q2)⟩
theorem qM9 {Φ ΦI l l' M Z}{K:MM->List Nat->Prop}(h:qcC Φ ΦI l l' M Z K):∃ M' Z',K M' Z'/\qCB M Z M' Z'/\qiY Φ M' Z' l l':=
 qPI (D:=qtL Φ ΦI) (DL:=qcC Φ ΦI) (fun _ _ _ h=>h) (fun _ _ _ _ _ _ _ h=>h) (fun _ _ _ _ _ h=>h) (fun _ _ _ _ _ h=>h) (fun _ _ _ _ _ h=>qOU h) l l' M Z K h
theorem qPH {Φ ΦI a b M Z}{K:MM->List Nat->Prop}(h:qtN Φ ΦI a b M Z K):∃ M' Z',K M' Z'/\qCB M Z M' Z'/\qiC Φ M' Z' a b:=by
 unfold qtN at h;split at h
 ·obtain⟨M',Z',hk,hs,hl⟩:=qM9 h;refine⟨M',Z',hk,hs,fun Mf Zf h1 h2 r β w v m hr=>?_⟩
  obtain⟨cs,rfl,hcs⟩:=hr.aggL_inv;exact .aggL (hl.relL h1 h2 m hcs)
 ·obtain⟨rfl,h⟩:=h;obtain⟨M',Z',hk,hs,hl⟩:=qM9 h;refine⟨M',Z',hk,hs,fun Mf Zf h1 h2 r β w v m hr=>?_⟩
  obtain⟨cs,rfl,hcs⟩:=hr.fnL_inv;exact .fnL (hl.relL h1 h2 m hcs)
 ·exact qOU h
theorem qNQ {Φ ΦI l l' M Z}{K:MM->List Nat->Prop}(h:qbR Φ ΦI l l' M Z K):∃ M' Z',K M' Z'/\qCB M Z M' Z'/\qiY Φ M' Z' l l':=
 qPI (D:=qtN Φ ΦI) (DL:=qbR Φ ΦI) (fun _ _ _ h=>h) (fun _ _ _ _ _ _ _ h=>h) (fun _ _ _ _ _ h=>h) (fun _ _ _ _ _ h=>h) (fun _ _ _ _ _ h=>qPH h) l l' M Z K h
theorem qa3 {Φ ΦI a b M Z}{K:MM->List Nat->Prop}(h:zCM Φ ΦI a b M Z K):∃ M' Z',K M' Z'/\qCB M Z M' Z'/\qiC Φ M' Z' a b:=by
 unfold zCM at h;split at h
 ·obtain⟨M',Z',hk,hs,hl⟩:=qNQ h;refine⟨M',Z',hk,hs,fun Mf Zf h1 h2 r β w v m hr=>?_⟩
  obtain⟨cs,rfl,hcs⟩:=hr.tupL_inv;exact .tupL (hl.relL h1 h2 m hcs)
 ·exact qPH h
theorem qbH {σ:Env}{Φ ΦI:Phi}:∀ {σI:Env}{M Z}{K:MM->List Nat->Prop},qpQ σ Φ ΦI σI M Z K->∃ M' Z',K M' Z'/\qCB M Z M' Z'/\
  ∀ k g svI,Env.get σI k=some (g,svI)->∃ sv,Env.get σ k=some (none,sv)/\qiC Φ M' Z' sv svI:=by
 intro σI
 induction σI with
 | nil=>intro M Z K h;exact⟨M,Z,h,qCB.refl M Z,fun k g svI h=>by simp[Env.get] at h⟩
 | cons x r ih=>
  obtain⟨k0,g0,sv0⟩:=x;intro M Z K h;simp only[qpQ] at h;split at h
  ·rename_i sv hg;obtain⟨M1,Z1,h,hs1,hp⟩:=qa3 h;obtain⟨M2,Z2,hk,hs2,hh⟩:=ih h;refine⟨M2,Z2,hk,hs1.trans hs2,fun k g svI hi=>?_⟩
   rw[qAX] at hi;cases hb:Nat.beq k0 k with
   | true=>
    obtain rfl:=qAM hb;rw[hb] at hi;simp at hi;obtain⟨rfl,rfl⟩:=hi;exact⟨sv,hg,hp.mono hs2.1 hs2.2⟩
   | false=>rw[hb] at hi;exact hh k g svI hi
  ·exact h.elim
theorem qhG {T TI:Option Nat}(h:eqT T TI=true) {t:Nat}(ht:TI=some t):T=some t:=by
 subst ht;cases T with
 | none=>cases h
 | some a=>rw[show a=t from qAM h]
def qnG (Φ:Phi) (M:MM) (Z:List Nat) (j:Nat) (chI:Chunk):Prop:=
 (MM.get M j=some none/\∃ τ:Ty,chI=.own τ [])\/
 ∃ i ch,MM.get M j=some (some i)/\Phi.get Φ i=some ch/\(ch=chI/\(∀ T cs,ch≠.bx T cs)\/∃ T TI cs csI,eqT T TI=true/\ch=.bx T cs/\chI=.bx TI csI/\qiY Φ M Z cs csI)
theorem qnG.mono {Φ M Z j chI M' Z'}(h:qnG Φ M Z j chI) (hs:qCB M Z M' Z'):qnG Φ M' Z' j chI:=by
 rcases h with⟨h1,h2⟩|⟨i,ch,h1,h2,h3⟩
 ·exact .inl ⟨hs.1 _ _ h1,h2⟩
 ·refine .inr ⟨i,ch,hs.1 _ _ h1,h2,?_⟩;rcases h3 with h3|⟨T,TI,cs,csI,e0,e1,e2,h3⟩
  ·exact .inl h3
  ·exact .inr ⟨T,TI,cs,csI,e0,e1,e2,h3.mono hs⟩
theorem qa4 {Φ ΦI:Phi}:∀ {L:Phi}{M Z}{K:MM->List Nat->Prop},qZ8 Φ ΦI L M Z K->∃ M' Z',K M' Z'/\qCB M Z M' Z'/\∀ j chI,Phi.get L j=some chI->qnG Φ M' Z' j chI:=by
 intro L
 induction L with
 | nil=>intro M Z K h;exact⟨M,Z,h,qCB.refl M Z,fun j c h=>by simp[Phi.get] at h⟩
 | cons x r ih=>
  obtain⟨j0,c0⟩:=x;intro M Z K h;have fin:∀ {M1 Z1},qCB M Z M1 Z1->qZ8 Φ ΦI r M1 Z1 K->qnG Φ M1 Z1 j0 c0->∃ M' Z',K M' Z'/\qCB M Z M' Z'/\∀ j chI,Phi.get ((j0,c0)::r) j=some chI->qnG Φ M' Z' j chI:=by
   intro M1 Z1 hs h hc;obtain⟨M2,Z2,hk,hs2,hh⟩:=ih h;refine⟨M2,Z2,hk,hs.trans hs2,fun j chI hj=>?_⟩
   rw[qAQ] at hj;cases hb:Nat.beq j0 j with
   | true=>obtain rfl:=qAM hb;rw[hb] at hj;simp at hj;subst hj;exact hc.mono hs2
   | false=>rw[hb] at hj;exact hh j chI hj
  simp only[qZ8] at h;split at h
  ·rename_i hg;split at h
   ·rename_i τ l τ' l' hΦ;cases hu:MM.used M j0 with
    | true=>rw[hu] at h;exact h.elim
    | false=>
     rw[hu] at h;obtain⟨he,h⟩:=h;exact fin ⟨Ext.cons hg,fun _ h=>h⟩ h (.inr ⟨j0,_,by rw[qD9,yAU];rfl,hΦ,.inl ⟨he,fun T cs h=>by cases h⟩⟩)
   ·rename_i hΦ;cases hu:MM.used M j0 with
    | true=>rw[hu] at h;exact h.elim
    | false=>
     rw[hu] at h;obtain⟨he,h⟩:=h;exact fin ⟨Ext.cons hg,fun _ h=>h⟩ h (.inr ⟨j0,_,by rw[qD9,yAU];rfl,hΦ,.inl ⟨he,fun T cs h=>by cases h⟩⟩)
   ·rename_i hΦ;cases hu:MM.used M j0 with
    | true=>rw[hu] at h;exact h.elim
    | false=>
     rw[hu] at h;obtain⟨he,h⟩:=h;exact fin ⟨Ext.cons hg,fun _ h=>h⟩ h (.inr ⟨j0,_,by rw[qD9,yAU];rfl,hΦ,.inl ⟨he,fun T cs h=>by cases h⟩⟩)
   ·rename_i hΦ;cases hu:MM.used M j0 with
    | true=>rw[hu] at h;exact h.elim
    | false=>
     rw[hu] at h;obtain⟨he,h⟩:=h;exact fin ⟨Ext.cons hg,fun _ h=>h⟩ h (.inr ⟨j0,_,by rw[qD9,yAU];rfl,hΦ,.inl ⟨he,fun T cs h=>by cases h⟩⟩)
   ·rename_i τ' l' hΦ;obtain⟨rfl,h⟩:=h;exact fin ⟨Ext.cons hg,fun _ h=>h⟩ h (.inl ⟨by rw[qD9,yAU];rfl, τ',rfl⟩)
   ·exact h.elim
  ·rename_i hg;split at h
   ·rename_i τ' l';obtain⟨rfl,h⟩:=h;exact fin (qCB.refl M Z) h (.inl ⟨hg, τ',rfl⟩)
   ·exact h.elim
  ·rename_i i hg;split at h
   ·rename_i T cs TI csI hΦ;cases hT:eqT T TI with
    | false=>rw[hT] at h;exact h.elim
    | true=>
    rw[hT] at h;obtain⟨M1,Z1,h,hs1,hl⟩:=qNQ h;exact fin hs1 h (.inr ⟨i,_,hs1.1 _ _ hg,hΦ,.inr ⟨T,TI,cs,csI,hT,rfl,rfl,hl⟩⟩)
   ·rename_i ch hΦ hn;obtain⟨rfl,h⟩:=h;exact fin (qCB.refl M Z) h (.inr ⟨i,ch,hg,hΦ,.inl ⟨rfl,fun T cs he=>hn T cs T cs he he⟩⟩)
   ·exact h.elim
theorem qVM {M:MM}{j i:Nat}(h:MM.get M j=some (some i)):MM.used M i=true:=by
 induction M with
 | nil=>simp[MM.get] at h
 | cons x r ih=>
  obtain⟨a,y⟩:=x;rw[qD9] at h;cases hb:Nat.beq a j with
  | true=>rw[hb] at h;simp at h;subst h;simp[MM.used,yAU]
  | false=>
   rw[hb] at h;have:=ih h;cases y<;>simp[MM.used,this]
theorem qhM {ΦI:Phi}:∀ {M:MM},qnK ΦI M=true->∀ {j j' i:Nat},MM.get M j=some (some i)->MM.get M j'=some (some i)->j=j':=by
 intro M
 induction M with
 | nil=>intro _ j j' i h;simp[MM.get] at h
 | cons x r ih=>
  obtain⟨a,y⟩:=x;intro hok j j' i h h';simp only[qnK,yAD] at hok;obtain⟨_,_,h3,h4⟩:=hok;rw[qD9] at h h';cases hb:Nat.beq a j with
  | true=>
   rw[hb] at h;simp at h;subst h;cases hb':Nat.beq a j' with
   | true=>rw[<-qAM hb, <-qAM hb']
   | false=>
    rw[hb'] at h';have:=qVM h';simp[this] at h3
  | false=>
   rw[hb] at h;cases hb':Nat.beq a j' with
   | true=>
    rw[hb'] at h';simp at h';subst h';have:=qVM h;simp[this] at h3
   | false=>rw[hb'] at h';exact ih h4 h h'
theorem qSD {M:MM}:∀ {Z:List Nat},qKB M Z=true->∀ z∈Z,MM.used M z=false:=by
 intro Z
 induction Z with
 | nil=>intro _ z h;cases h
 | cons x r ih=>
  intro h z hz;simp only[qKB,yAD,yAF] at h;cases hz with
  | head=>exact h.1
  | tail _ hz=>exact ih h.2 z hz
theorem qb7:∀ {Φ0:Phi}{j:Nat}{c},Phi.get Φ0 j=some c->c.kind≠0->MM.get (qa8 Φ0) j=some (some j):=by
 intro Φ0
 induction Φ0 with
 | nil=>intro j c h;simp[Phi.get] at h
 | cons x r ih=>
  obtain⟨k,ch⟩:=x;intro j c h hk;rw[qAQ] at h;unfold qa8;cases hb:Nat.beq k j with
  | true=>
   obtain rfl:=qAM hb;rw[hb] at h;simp at h;subst h;rw[qAS hk];simp only[cond_false];rw[qD9,yAU];rfl
  | false=>
   rw[hb] at h;cases Nat.beq ch.kind 0 with
   | true=>exact ih h hk
   | false=>simp only[cond_false];rw[qD9,hb];exact ih h hk
theorem qZ0 {ΦI:Phi}:∀ {Φ0:Phi},qZU ΦI Φ0=true->∀ {j:Nat}{c},Phi.get Φ0 j=some c->c.kind≠0->∃ c',Phi.get ΦI j=some c'/\c'.kind=c.kind:=by
 intro Φ0
 induction Φ0 with
 | nil=>intro _ j c h;simp[Phi.get] at h
 | cons x r ih=>
  obtain⟨k,ch⟩:=x;intro h j c hj hk;simp only[qZU,yAD,yAH] at h;rw[qAQ] at hj;cases hb:Nat.beq k j with
  | true=>
   obtain rfl:=qAM hb;rw[hb] at hj;simp at hj;subst hj;rcases h.1 with h1|h1
   ·exact(hk (qAM h1)).elim
   ·split at h1
    ·exact⟨_,by assumption,qAM h1⟩
    ·cases h1
  | false=>rw[hb] at hj;exact ih h.2 hj hk
theorem qZ5 {id:Nat}{Φ:Phi}:∀ {K:Phi->Prop},qp4 id Φ K->∃ Φ',K Φ'/\∀ j,Phi.get Φ' j=bif Nat.beq id j then none else Phi.get Φ j:=by
 induction Φ with
 | nil=>intro K h;exact⟨[],h,fun j=>by cases Nat.beq id j<;>rfl⟩
 | cons x r ih=>
  obtain⟨k,c⟩:=x;intro K h;unfold qp4 at h;cases hb:Nat.beq k id with
  | true=>
   rw[hb] at h;obtain rfl:=qAM hb;obtain⟨Φ',hk,hh⟩:=ih h;refine⟨Φ',hk,fun j=>?_⟩
   rw[hh j,qAQ];cases Nat.beq k j<;>rfl
  | false=>
   rw[hb] at h;obtain⟨Φ',hk,hh⟩:=ih h;refine⟨_,hk,fun j=>?_⟩
   rw[qAQ,qAQ,hh j];cases hq:Nat.beq k j with
   | true=>
    obtain rfl:=qAM hq;have:Nat.beq id k=false:=qAS (fun he=>by subst he;rw[yAU] at hb;cases hb)
    rw[this];rfl
   | false=>cases Nat.beq id j<;>rfl
theorem qk0 {r β Φ w j e}{τ τe:Ty}{l:List τ.T}{le:List τe.T}{i p:Nat}{g:Value}{a:τ.T}{Φ1 Φ2:Phi}(m:MemSat r β Φ w) (hj:Phi.get Φ j=some (.foc τ l i p e g)) (he:Phi.get Φ e=some (.owg τe le g)) (hne:e≠j)
  (hent:qHI (qIP (τ.enc (l.getD i τ.dflt)) p (.rd τe le)) (τ.enc a))
  (h1:∀ k,Phi.get Φ1 k=bif Nat.beq e k then none else Phi.get Φ k) (h2:∀ k,Phi.get Φ2 k=bif Nat.beq j k then some (.own τ (l.set i a)) else Phi.get Φ1 k):
  ∃ r',r.le r'/\MemSat r' β Φ2 w/\∀ b,r b=none->(∀ id ch,Phi.get Φ id=some ch->¬ch.hb (β id) b)->r' b=none/\∀ id ch,Phi.get Φ2 id=some ch->¬ch.hb (β id) b:=by
 have get:∀ k c,Phi.get Φ2 k=some c->(k=j/\c=.own τ (l.set i a))\/(k≠j/\k≠e/\Phi.get Φ k=some c):=fun k c h=>by
  rw[h2,h1] at h;cases hq:Nat.beq j k with
  | true=>rw[hq] at h;exact .inl ⟨(qAM hq).symm,(Option.some.inj h).symm⟩
  | false=>
   rw[hq] at h;cases hq2:Nat.beq e k with
   | true=>rw[hq2] at h;cases h
   | false=>rw[hq2] at h;exact .inr ⟨fun q=>by(rw[q,yAU] at hq;cases hq),fun q=>by(rw[q,yAU] at hq2;cases hq2),h⟩
 have hbj:(Chunk.own τ (l.set i a)).hb (β j)=(Chunk.foc τ l i p e g).hb (β j):=by
  funext b';cases β j<;>first|rfl|(rename_i a _ _;cases a<;>rfl)
 have blk:∀ k c b,Phi.get Φ2 k=some c->c.hb (β k) b->k≠e/\∃ c0,Phi.get Φ k=some c0/\c0.hb (β k) b:=fun k c b h q=>by
  rcases get k c h with⟨rfl,rfl⟩|⟨p1,p2,p3⟩
  ·exact⟨hne.symm,_,hj,by rw[<-hbj];exact q⟩
  ·exact⟨p2,c,p3,q⟩
 refine⟨frz (bq e) r β Φ w,qB7 m,⟨qQK m,fun k c h=>?_,fun k c b h q=>?_,fun k k' c c' b q1 q1' q2 q2'=>?_⟩,fun b hb hbn=>⟨?_,fun k c h q=>?_⟩⟩
 ·rcases get k c h with⟨rfl,rfl⟩|⟨p1,p2,p3⟩
  ·have hs:=m.chs _ _ hj;have hk:(Chunk.foc τ l i p e g).Sat (frz (bq e) r β Φ w) β w (β k):=hs.keep (qB7 m) (fun _ _=>rfl) (fun T cells he=>by cases he)
   cases hk with
   | foc hi hp hg hr=>
    refine .own ?_;have hbf:τ.isB=false:=by
     cases τ<;>first|rfl|(simp[Ty.size] at hp;subst hp;have:=hent.2 0 _ _ rfl rfl;exact absurd (this.2.2.2.1 _ _ rfl) (by intro q;cases q))
    have hrd:=qkY m (qfB e) he β0;have eqv:∀ (t:List (List SV)),qAZ (frz (bq e) r β Φ w) w (β k) false τ.size (qCC τ l i p g)->(∀ (q:Nat) (row:List SV),t[q]?=some row->∃ row0:List SV,(qCC τ l i p g)[q]?=some row0/\row.length=row0.length/\(∀ (x:Nat) (y:SV),row[x]?=some y->y.one=true/\∃ y0,row0[x]?=some y0/\∀ v,Rel (frz (bq e) r β Φ w) β0 y0 v->Rel (frz (bq e) r β Φ w) β0 y v))->t.length=(qCC τ l i p g).length->qAZ (frz (bq e) r β Φ w) w (β k) false τ.size t:=by
     intro t hR hh hl;rcases hR with⟨a0,x1,x2⟩|⟨b,off,cap,c,T,fr,x1,x2,x3,x4,x5,x6,x7,x8,x9,x10⟩
     ·exact .inl ⟨a0,x1,List.eq_nil_of_length_eq_zero (by rw[hl,x2];rfl)⟩
     ·refine .inr ⟨b,off,cap,c,T,fr,by rw[hl];exact x1,x2,x3,x4,x5,by rw[hl];exact x6,x7,fun q row hq=>?_,fun q row x y hq hx=>?_,fun q row x y v hq hx hv=>?_⟩
      ·obtain⟨row0,y1,y2,_⟩:=hh q row hq;rw[y2];exact x8 q row0 y1
      ·obtain⟨row0,y1,y2,y3⟩:=hh q row hq;exact(y3 x y hx).1
      ·obtain⟨row0,y1,y2,y3⟩:=hh q row hq;obtain⟨y0,z1,z2⟩:=(y3 x y hx).2;exact z2 v (x10 q row0 x y0 v y1 z1 hv)
    rw[hbf];refine eqv _ hr (fun q row hq=>?_) (by rw[qIN];simp)
    rw[List.getElem?_map,yAL] at hq;by_cases hqi:i=q
    ·subst hqi;rw[if_pos rfl,if_pos hi] at hq;cases hq;refine⟨_,qKT hi,by rw[qRQ,enc_len],fun x y hx=>⟨enc_one τ a x y hx,?_⟩⟩
     have hxl:x<τ.size:=by have:=qB2 hx;rwa [enc_len] at this
     by_cases hxp:p=x
     ·subst hxp;refine⟨_,qNN hp,fun v hv=>?_⟩
      cases hv;exact(hent.2 p _ y (by rw[qGS,yAL,if_pos rfl,if_pos (by rw[enc_len];exact hp)]) hx).1 _ _ _ hrd
     ·refine⟨(τ.enc (l.getD i τ.dflt))[x]'(by rw[enc_len];exact hxl),by rw[qKE hxp];exact yAK _,fun v hv=>?_⟩
      exact(hent.2 x _ y (by rw[qGS,yAL,if_neg hxp];exact yAK _) hx).1 _ _ _ hv
    ·rw[if_neg hqi] at hq;refine⟨row,?_,rfl,fun x y hx=>⟨?_,y,hx,fun v hv=>hv⟩⟩
     ·unfold qCC;rw[yAL,if_neg hqi,List.getElem?_map];exact hq
     ·cases hlq:l[q]? with
      | none=>rw[hlq] at hq;cases hq
      | some z=>rw[hlq] at hq;cases hq;exact enc_one τ z x y hx
  ·exact(m.chs _ _ p3).keep (qB7 m) (fun _ _=>rfl) (fun _ _ _ _ _ _ _ h=>h)
 ·obtain⟨q1,c0,q2,q3⟩:=blk k c b h q;rw[qHJ,m.sep _ _ _ q2 q3];intro x cx z1 z2 _ z4;rw[qpP z1] at z2 z4;exact q1 (m.nod _ _ _ _ _ q2 z2 q3 z4)
 ·obtain⟨_,c0,z2,z3⟩:=blk _ _ _ q1 q2;obtain⟨_,c0',z2',z3'⟩:=blk _ _ _ q1' q2';exact m.nod _ _ _ _ _ z2 z2' z3 z3'
 ·rw[qHJ (fun x cx _ z2 _=>hbn x cx z2)];exact hb
 ·obtain⟨_,c0,z2,z3⟩:=blk _ _ _ h q;exact hbn _ _ z2 z3
theorem qZW {ΦI:Phi}{w β}:∀ {L Φ:Phi}{K:Phi->Prop}{r},qnI ΦI L Φ K->MemSat r β Φ w->∃ Φ' r',K Φ'/\r.le r'/\MemSat r' β Φ' w/\
  ∀ b,r b=none->(∀ id ch,Phi.get Φ id=some ch->¬ch.hb (β id) b)->r' b=none/\∀ id ch,Phi.get Φ' id=some ch->¬ch.hb (β id) b:=by
 intro L
 induction L with
 | nil=>intro Φ K r h m;exact⟨Φ,r,h,Mem.le_refl r,m,fun b h1 h2=>⟨h1,h2⟩⟩
 | cons x L ih=>
  intro Φ K r h m;obtain⟨j0,c0⟩:=x;cases c0 with
  | foc=>
   simp only[qnI] at h;split at h
   ·rename_i τ l i p e g _ _ hj _;split at h
    ·rename_i τe le g' he;cases hne:Nat.beq e j0 with
     | true=>rw[hne] at h;exact h.elim
     | false=>
     rw[hne] at h;obtain⟨rfl,h⟩:=h;obtain⟨a,h,hent⟩:=qBP h;obtain⟨Φ1,h,h1⟩:=qZ5 h;obtain⟨Φ2,h,h2⟩:=qAP h (qA7 (by rw[h1,hne];exact hj))
     obtain⟨r1,hle,m1,hb1⟩:=qk0 m hj he (fun q=>by(rw[q,yAU] at hne;cases hne)) hent h1 h2
     obtain⟨Φ',r',hk,hle',m',hb'⟩:=ih h m1;exact⟨Φ',r',hk,Mem.le_trans hle hle',m',fun b q1 q2=>by obtain⟨z1,z2⟩:=hb1 b q1 q2;exact hb' b z1 z2⟩
    ·exact h.elim
   ·exact ih h m
  | _=>exact ih h m
theorem qiL {σ:Env}{Φ:Phi}{σI:Env}{ΦI Φ0:Phi}(h:qpQ σ Φ ΦI σI (qa8 Φ0) [] fun M Z=>qZ8 Φ ΦI ΦI M Z fun M Z=>bif qnK ΦI M&&(qKB M Z&&qZU ΦI Φ0) then True else False) {r β w}(m:MemSat r β Φ w):
  ∃ r' β',r.le r'/\MemSat r' β' ΦI w/\(∀ k g svI,Env.get σI k=some (g,svI)->∃ sv,Env.get σ k=some (none,sv)/\∀ v,Rel r β sv v->Rel r' β' svI v)/\
   (∀ b,r b=none->(∀ id ch,Phi.get Φ id=some ch->¬ch.hb (β id) b)->r' b=none/\∀ id ch,Phi.get ΦI id=some ch->¬ch.hb (β' id) b)/\
   (∀ id ch,Phi.get Φ0 id=some ch->ch.kind≠0->β' id=β id/\∃ ch',Phi.get ΦI id=some ch'/\ch'.kind=ch.kind):=by
 obtain⟨M1,Z1,h,hs1,hE⟩:=qbH h;obtain⟨M,Z,h,hs2,hC⟩:=qa4 h;cases hok:(qnK ΦI M&&(qKB M Z&&qZU ΦI Φ0)) with
 | false=>rw[hok] at h;exact h.elim
 | true=>
  simp only[yAD] at hok;obtain⟨hinj,hnu,hkp⟩:=hok;have hinj:=fun {j j' i}=>qhM hinj (j:=j) (j':=j') (i:=i)
  have hnu:=qSD hnu;have blkI:∀ {j chI b},Phi.get ΦI j=some chI->chI.hb (βM M β j) b->∃ i ch,MM.get M j=some (some i)/\Phi.get Φ i=some ch/\ch.hb (β i) b:=by
   intro j chI b hj hb;rcases hC j chI hj with⟨h1, τ,rfl⟩|⟨i,ch,h1,h2,h3⟩
   ·simp only[βM,h1] at hb;simp[Chunk.hb,Chunk.blk] at hb
   ·simp only[βM,h1] at hb;refine⟨i,ch,h1,h2,?_⟩;rcases h3 with⟨rfl,_⟩|⟨T,TI,cs,csI,_,rfl,rfl,_⟩
    ·exact hb
    ·have hb:(Chunk.bx TI csI).blk (β i)=some b:=hb;show(Chunk.bx T cs).blk (β i)=some b;rw[<-hb];cases β i<;>first|rfl|(rename_i a;cases a<;>rfl)
  have nz:∀ {j i},MM.get M j=some (some i)->qD8 i Z=false:=by
   intro j i hj;cases hm:qD8 i Z with
   | false=>rfl
   | true=>have:=hnu i (qB6.1 hm);rw[qVM hj] at this;cases this
  have out:∀ {i ch b},Phi.get Φ i=some ch->ch.hb (β i) b->qD8 i Z=false->frx (fun i=>qD8 i Z) r β Φ w b=none:=by
   intro i ch b hi hb hz;rw[qcZ]
   ·exact m.sep _ _ _ hi hb
   ·intro j c hq hj _ hb';have:=m.nod _ _ _ _ _ hj hi hb' hb;subst this;rw[hz] at hq;cases hq
  refine⟨frx (fun i=>qD8 i Z) r β Φ w, βM M β,qLI m,⟨fun b o h=>qkA m b o h,fun j chI hj=>?_,fun j chI b hj hb=>?_,fun j j' c c' b h1 h1' h2 h2'=>?_⟩,fun k g svI hk=>?_,fun b hb hbn=>⟨?_,fun j chI hj hb'=>?_⟩,fun id ch hid hk=>?_⟩
  ·rcases hC j chI hj with⟨h1, τ,rfl⟩|⟨i,ch,h1,h2,h3⟩
   ·have:βM M β j=.slice none 0 0:=by simp only[βM,h1]
    rw[this];exact .own (.inl ⟨none,rfl,rfl⟩)
   ·have e:βM M β j=β i:=by simp only[βM,h1]
    rw[e];rcases h3 with⟨rfl,hnb⟩|⟨T,TI,cs,csI,hTT,rfl,rfl,hl⟩
    ·exact(m.chs _ _ h2).keep (qLI m) (fun b _=>rfl) (fun T cells he=>(hnb T cells he).elim)
    ·have:=m.chs _ _ h2;cases this with
     | box hx hw hsz hc hT=>
      refine .box hx hw (by rw[hsz,hl.1]) (fun k sv v q1 q2=>?_) (fun t ht=>hT t (qhG hTT ht))
      have hi:k<cs.length:=by rw[hl.1];exact qAV q1
      exact hl.2 k _ _ (yAK hi) q1 M Z (Ext.refl M) (fun z hz=>hz) r β w v m (hc k _ v (yAK hi) q2)
  ·obtain⟨i,ch,h1,h2,h3⟩:=blkI hj hb;exact out h2 h3 (nz h1)
  ·obtain⟨i,ch,p1,p2,p3⟩:=blkI h1 h2;obtain⟨i',ch',p1',p2',p3'⟩:=blkI h1' h2';have:=m.nod _ _ _ _ _ p2 p2' p3 p3';subst this;exact hinj p1 p1'
  ·obtain⟨sv,q1,q2⟩:=hE k g svI hk;exact⟨sv,q1,fun v hr=>q2 M Z hs2.1 hs2.2 r β w v m hr⟩
  ·rw[qcZ]
   ·exact hb
   ·intro j c _ hj _ hb';exact hbn j c hj hb'
  ·obtain⟨i,ch,h1,h2,h3⟩:=blkI hj hb';exact hbn i ch h2 h3
  ·have hg:=hs2.1 _ _ (hs1.1 _ _ (qb7 hid hk));exact⟨by simp only[βM,hg],qZ0 hkp hid hk⟩
theorem qXQ {σ:Env}{Φ:Phi}{σI:Env}{ΦI Φ0:Phi}(h:qIU σ Φ σI ΦI Φ0) {r β w}(m:MemSat r β Φ w):
  ∃ r' β',r.le r'/\MemSat r' β' ΦI w/\(∀ k g svI,Env.get σI k=some (g,svI)->∃ sv,Env.get σ k=some (none,sv)/\∀ v,Rel r β sv v->Rel r' β' svI v)/\
   (∀ b,r b=none->(∀ id ch,Phi.get Φ id=some ch->¬ch.hb (β id) b)->r' b=none/\∀ id ch,Phi.get ΦI id=some ch->¬ch.hb (β' id) b)/\
   (∀ id ch,Phi.get Φ0 id=some ch->ch.kind≠0->β' id=β id/\∃ ch',Phi.get ΦI id=some ch'/\ch'.kind=ch.kind):=by
 unfold qIU at h;obtain⟨Φ1,r1,h,hle,m1,hb⟩:=qZW h m;obtain⟨r', β',h1,h2,h3,h4,h5⟩:=qiL h m1;exact⟨r', β',Mem.le_trans hle h1,h2,fun k g svI hk=>by obtain⟨sv,q1,q2⟩:=h3 k g svI hk;exact⟨sv,q1,fun v hr=>q2 v (hr.mono hle)⟩,fun b q1 q2=>by obtain⟨z1,z2⟩:=hb b q1 q2;exact h4 b z1 z2,h5⟩
theorem qK2 {B:Base}{e N r β σ Φ a w σI ΦI Φ0}(s:Sat B e N r β σ Φ a w) (h:qIU σ Φ σI ΦI Φ0) (hng:∀ k g sv,Env.get σI k=some (g,sv)->g=none)
  (hks:∀ id ch,Phi.get e.Φ id=some ch->ch.kind≠0->∃ ch0,Phi.get Φ0 id=some ch0/\ch0.kind=ch.kind):
  ∃ r' β',Sat B e N r' β' σI ΦI a w:=by
 obtain⟨r', β',hle,m',hE,hH,hK⟩:=qXQ h s.mem;refine⟨r', β',⟨fun k g svI hk=>?_,m',B.mono _ _ hle s.G,⟨Mem.le_trans s.kept.le hle,s.kept.os,s.kept.tape,s.kept.output,s.kept.size,fun b hb=>?_,fun id ch hid hk=>?_,s.kept.slt⟩,?_,s.size⟩⟩
 ·obtain⟨sv,q1,q2⟩:=hE k g svI hk;have:=hng k g svI hk;subst this;obtain⟨v,p1,p2⟩:=s.agree k none sv q1;exact⟨v,p1,q2 v p2⟩
 ·obtain⟨x1,x2,x3⟩:=s.kept.block b hb;exact⟨x1,hH b x2 x3⟩
 ·obtain⟨q1,_⟩:=s.kept.keep id ch hid hk;obtain⟨ch0,p1,p2⟩:=hks id ch hid hk;obtain⟨y1,y2⟩:=hK id ch0 p1 (by rw[p2];exact hk)
  exact⟨y1.trans q1,by rw[<-p2];exact y2⟩
 ·obtain⟨Ds,h1,h2,h3⟩:=s.defers;refine⟨Ds,h1,h2,fun D hD=>?_⟩
  obtain⟨g1,g2,g3,g4⟩:=h3 D hD;exact⟨g1,g2,hH D g3 g4⟩
end Go.Vc

namespace Go.Vc
set_option autoImplicit false
def purge:List Nat->Env->Env
 | [],_=>[]
 | k::L, σ=>
  match σ.get k with
  | some (none,sv)=>(k,none,sv)::purge L σ
  | _=>purge L σ
theorem qT9 (L:List Nat) (σ:Env):∀ (K:Env->Prop),qEE L σ K=K (purge L σ):=by
 induction L with
 | nil=>intro K;rfl
 | cons k L ih=>
  intro K;unfold qEE purge;cases hq:σ.get k with
  | none=>simp only[ih]
  | some p=>
   obtain⟨g,sv⟩:=p;cases g<;>simp only[ih]
theorem qHD {L:List Nat}{σ:Env}{k:Nat}{g sv}(h:Env.get (purge L σ) k=some (g,sv)):g=none/\Env.get σ k=some (none,sv):=by
 induction L with
 | nil=>simp[purge,Env.get] at h
 | cons x L ih=>
  unfold purge at h;split at h
  ·rename_i sv' hx;rw[qAX] at h;cases hb:Nat.beq x k with
   | true=>
    obtain rfl:=qAM hb;rw[hb] at h;simp only[cond_true,Option.some.injEq,Prod.mk.injEq] at h;obtain⟨rfl,rfl⟩:=h;exact⟨rfl,hx⟩
   | false=>rw[hb] at h;exact ih h
  ·exact ih h
theorem qFP (L:List Nat) (σ:Env):qFL (purge L σ):=fun k g sv h=>(qHD h).1
theorem Sat.purge {B:Base}{e N r β σ Φ a w}(s:Sat B e N r β σ Φ a w) (L:List Nat):Sat B e N r β (purge L σ) Φ a w:=
 ⟨fun k g sv h=>by obtain⟨rfl,h2⟩:=qHD h;exact s.agree k none sv h2,s.mem,s.G,s.kept,s.defers,s.size⟩
def qDQ (F Φ:Phi):Phi:=F++Φ.filter fun x => !qOL F x.1
theorem qgW (F Φ:Phi):∀ (K:Phi->Prop),qeO F Φ K=K (Φ.filter fun x => !qOL F x.1):=by
 induction Φ with
 | nil=>intro K;rfl
 | cons x r ih=>
  intro K;obtain⟨k,c⟩:=x;unfold qeO;cases hb:qOL F k with
  | true=>simp only[cond_true,ih,yAI,hb];rfl
  | false=>simp only[cond_false,ih,yAI,hb];rfl
theorem qeB (F R:Phi):∀ (K:Phi->Prop),qY0 F R K=K (F++R):=by
 induction F with
 | nil=>intro K;rfl
 | cons x F ih=>intro K;unfold qY0;rw[ih];rfl
theorem qB0 (L:List Nat) (U:List (Nat×SV)) (F:Phi) (σ:Env) (Φ:Phi) (K:Env->Phi->Prop):qEU L U F σ Φ K=K (purge L (qf0 U σ)) (qDQ F Φ):=by
 unfold qEU;rw[qT9,qgW,qeB];rfl
structure FamOk (F:Entry->Prop):Prop where
 lo:∀ e,F e->∀ D,e.w.heap.size<=D->e.lo D
 heads:∀ e e',F e->F e'->∀ id ch,Phi.get e'.Φ id=some ch->ch.kind≠0->∃ ch',Phi.get e.Φ id=some ch'/\ch'.kind=ch.kind
theorem FamOk.one {e:Entry}(h:∀ D,e.w.heap.size<=D->e.lo D):FamOk (fun x=>x=e):=⟨fun _ h'=>by subst h';exact h,fun _ _ h1 h2 id ch hg _=>by subst h1;subst h2;exact⟨ch,hg,rfl⟩⟩
def Out (B:Base) (F:Entry->Prop) (N:Nat) (K:KT) (ex:Ex) (a:Act) (w:World):Prop:=
 ∃ e r β σ Φ n,F e/\K ex σ Φ n/\Sat B e N r β σ Φ a w/\qFL σ
def QK (B:Base) (F:Entry->Prop) (N:Nat) (K:KT):Exit->Act->World->Prop
 | .normal,a,w=>Out B F N K .normal a w
 | .exit i,a,w=>Out B F N K (.exit i) a w
 | .ret,a,w=>Out B F N K .ret a w
 | _,_,_=>False
def qKN (β:qBD) (Φ:Phi) (β':qBD) (Φ':Phi):Prop:=∀ id ch,Phi.get Φ id=some ch->ch.kind≠0->β' id=β id/\∃ ch',Phi.get Φ' id=some ch'/\ch'.kind=ch.kind
theorem qKN.trans {β Φ β' Φ' β2 Φ2}(h:qKN β Φ β' Φ') (k:qKN β' Φ' β2 Φ2):qKN β Φ β2 Φ2:=fun id ch h0 hk=>by
 obtain⟨q1,ch1,q2,q3⟩:=h id ch h0 hk;obtain⟨p1,ch2,p2,p3⟩:=k id ch1 q2 (by rw[q3];exact hk)
 exact⟨p1.trans q1,ch2,p2,p3.trans q3⟩
theorem qMK {B:Base}{e N r β σ Φ a w σI ΦI Φ0}(s:Sat B e N r β σ Φ a w) (h:qIU σ Φ σI ΦI Φ0) (hng:∀ k g sv,Env.get σI k=some (g,sv)->g=none)
  (hks:∀ id ch,Phi.get e.Φ id=some ch->ch.kind≠0->∃ ch0,Phi.get Φ0 id=some ch0/\ch0.kind=ch.kind):
  ∃ r' β',Sat B e N r' β' σI ΦI a w/\r.le r'/\qKN β Φ0 β' ΦI/\
   (∀ b,r b=none->(∀ id ch,Phi.get Φ id=some ch->¬ch.hb (β id) b)->r' b=none/\∀ id ch,Phi.get ΦI id=some ch->¬ch.hb (β' id) b):=by
 obtain⟨r', β',hle,m',hE,hH,hK⟩:=qXQ h s.mem;refine⟨r', β',⟨fun k g svI hk=>?_,m',B.mono _ _ hle s.G,⟨Mem.le_trans s.kept.le hle,s.kept.os,s.kept.tape,s.kept.output,s.kept.size,fun b hb=>?_,fun id ch hid hk=>?_,s.kept.slt⟩,?_,s.size⟩,hle,hK,hH⟩
 ·obtain⟨sv,q1,q2⟩:=hE k g svI hk;have:=hng k g svI hk;subst this;obtain⟨v,p1,p2⟩:=s.agree k none sv q1;exact⟨v,p1,q2 v p2⟩
 ·obtain⟨x1,x2,x3⟩:=s.kept.block b hb;exact⟨x1,hH b x2 x3⟩
 ·obtain⟨q1,_⟩:=s.kept.keep id ch hid hk;obtain⟨ch0,p1,p2⟩:=hks id ch hid hk;obtain⟨y1,y2⟩:=hK id ch0 p1 (by rw[p2];exact hk)
  exact⟨y1.trans q1,by rw[<-p2];exact y2⟩
 ·obtain⟨Ds,h1,h2,h3⟩:=s.defers;refine⟨Ds,h1,h2,fun D hD=>?_⟩
  obtain⟨g1,g2,g3,g4⟩:=h3 D hD;exact⟨g1,g2,hH D g3 g4⟩
def qbP (Φ:Phi) (σ:Env):List Nat->Env
 | []=>[]
 | k::L=>
  match σ.get k with
  | some (none,sv)=>bif qRD Φ sv then(k,none,sv)::qbP Φ σ L else qbP Φ σ L
  | _=>qbP Φ σ L
theorem qHW (Φ:Phi) (σ:Env):∀ (L:List Nat) (K:Env->Prop),qIV Φ σ L K=K (qbP Φ σ L):=by
 intro L
 induction L with
 | nil=>intro K;rfl
 | cons k L ih=>
  intro K;unfold qIV qbP;cases hq:σ.get k with
  | none=>simp only[ih]
  | some p=>
   obtain⟨g,sv⟩:=p;cases g with
   | some p=>simp only[ih]
   | none=>
    cases hs:qRD Φ sv with
    | true=>simp only[hs,cond_true,ih]
    | false=>simp only[hs,cond_false,ih]
def Stb (Φ:Phi) (σ:Env):Prop:=∀ k g sv,Env.get σ k=some (g,sv)->g=none/\qRD Φ sv=true
theorem qRJ {Φ:Phi}{σ:Env}:∀ {L:List Nat}{k g sv},Env.get (qbP Φ σ L) k=some (g,sv)->g=none/\qRD Φ sv=true/\Env.get σ k=some (none,sv):=by
 intro L
 induction L with
 | nil=>intro k g sv h;cases h
 | cons x L ih=>
  intro k g sv h;unfold qbP at h;split at h
  ·rename_i sv' hx;cases hs:qRD Φ sv' with
   | false=>rw[hs] at h;exact ih h
   | true=>
    rw[hs] at h;simp only[cond_true] at h;rw[qAX] at h;cases hb:Nat.beq x k with
    | true=>
     obtain rfl:=qAM hb;rw[hb] at h;simp only[cond_true,Option.some.injEq,Prod.mk.injEq] at h;obtain⟨rfl,rfl⟩:=h;exact⟨rfl,hs,hx⟩
    | false=>rw[hb] at h;exact ih h
  ·exact ih h
theorem Stb.agree {Φ:Phi}{σ:Env}(hs:Stb Φ σ) {r r' β β' Φ' t}(h:Agree r β σ t) (hle:r.le r') (hk:qKN β Φ β' Φ'):Agree r' β' σ t:=by
 refine h.of fun k g sv hg=>⟨sv,hg,fun v hr=>?_⟩
 refine(hr.mono hle).bind (p:=fun id=>match Φ.get id with|some ch => !Nat.beq ch.kind 0|none=>false) (fun id hid=>?_) (hs k g sv hg).2
 cases hq:Phi.get Φ id with
 | none=>rw[hq] at hid;cases hid
 | some ch=>
  rw[hq] at hid;refine(hk id ch hq fun h0=>?_).1
  have hid:(!Nat.beq ch.kind 0)=true:=hid;rw[h0] at hid;cases hid
theorem qOX:∀ {ps:List Nat}{xs:List SV}{σ:Env}{K:Env->Prop},qlL ps xs σ K->∃ σr,K σr/\xs.length=ps.length/\
  ∀ {r β}{t:Array Value}{vs:List Value},Agree r β σ t->qA5 r β xs vs->qFL σ->(∀ p∈ps,p<t.size)->
   Agree r β σr ((ps.zip vs).foldl (fun tmps x=>tmps.setIfInBounds x.1 x.2) t)/\qFL σr:=by
 intro ps
 induction ps with
 | nil=>
  intro xs σ K h;cases xs with
  | nil=>exact⟨σ,h,rfl,fun ha _ hn _=>⟨ha,hn⟩⟩
  | cons x xs=>exact h.elim
 | cons p ps ih=>
  intro xs σ K h;cases xs with
  | nil=>exact h.elim
  | cons x xs=>
   obtain⟨σr,hk,hl,hr⟩:=ih (σ:=(p,none,x)::σ) h;refine⟨σr,hk,by simp[hl],fun {r β t vs} ha hv hn hp=>?_⟩
   obtain⟨v,us,rfl,h1,h2⟩:=hv.uncons;have hgd:qDX [] σ:=hn.gdIn _;have ha':Agree r β ((p,none,x)::σ) (t.setIfInBounds p v):=ha.put hgd (by simp) (hp p (by simp)) h1
   have hn':qFL ((p,none,x)::σ):=by
    intro k g sv hg;rw[qAX] at hg;cases hb:Nat.beq p k with
    | true=>rw[hb] at hg;simp at hg;exact hg.1.symm
    | false=>rw[hb] at hg;exact hn k g sv hg
   exact hr ha' h2 hn' fun q hq=>by simpa using hp q (by simp[hq])
theorem qKG {B:Base}{e e':Entry}{N r β σ Φ a w l}{o:Obj}(s:Sat B e N r β σ Φ a w) (hl:l<w.heap.size) (hr:r l=none) (hΦ:∀ id ch,Phi.get Φ id=some ch->¬ch.hb (β id) l)
  (hD:∀ Ds:List Nat,a.defers=Ds.map (fun D=>{ target:=.collected D,args := #[] })->l∉Ds) {σ' a'}(ha:Agree r β σ' a'.tmps) (hd:a'.defers=a.defers) (hsz:a'.tmps.size=N) (hlo:∀ D,e.lo D->e'.lo D)
  (hk:Kept e' r β Φ (w.putObj l o)):Sat B e' N r β σ' Φ a' (w.putObj l o):=by
 have get:∀ b,b≠l->(w.putObj l o).heap[b]?=w.heap[b]?:=fun b hb=>World.putObj_heap_other hb
 refine⟨ha,⟨fun b ob hb=>?_,fun id ch hi=>?_,s.mem.sep,s.mem.nod⟩,s.G,hk,?_,hsz⟩
 ·rw[get b (fun he=>by rw[he,hr] at hb;cases hb)];exact s.mem.vis b ob hb
 ·exact(s.mem.chs _ _ hi).keep (Mem.le_refl r) (fun b hb=>get b (fun he=>hΦ id ch hi (he▸hb))) (fun _ _ _ _ _ _ _ h=>h)
 ·obtain⟨Ds,h1,h2,h3⟩:=s.defers;refine⟨Ds,by rw[hd];exact h1,h2,fun D hDm=>?_⟩
  obtain⟨g1,g2,g3,g4⟩:=h3 D hDm;exact⟨hlo D g1,(get D (fun he=>hD Ds h1 (he▸hDm))).trans g2,g3,g4⟩
theorem qFK {w:World}{l:Nat}{o:Obj}(h:l<w.heap.size):(w.putObj l o).heap[l]?=some o:=by
 show(w.heap.setIfInBounds l o)[l]?=_;rw[Array.getElem?_setIfInBounds_self_of_lt h]
end Go.Vc

namespace Go.Vc
set_option autoImplicit false
def mkD (D:Nat):Deferred:={ target:=.collected D,args := #[] }
theorem qRB {a b:List Nat}(h:a.map mkD=b.map mkD):a=b:=by
 induction a generalizing b with
 | nil=>cases b with
  | nil=>rfl
  | cons y b=>simp at h
 | cons x a ih=>cases b with
  | nil=>simp at h
  | cons y b=>
   simp only[List.map_cons,List.cons.injEq] at h;have h1:x=y:=by
    have:=h.1;simp only[mkD,Deferred.mk.injEq,Target.collected.injEq,and_true] at this;exact this
   rw[h1,ih h.2]
def SJ (e:Entry) (r0 r':Mem) (β':qBD) (ΦI:Phi) (l:Nat) (ap:Act) (b:Nat):Prop:=
 (r' b≠none/\r0 b=none)\/(∃ id ch,Phi.get ΦI id=some ch/\ch.hb (β' id) b)\/e.S b\/b=l\/∃ Ds:List Nat,ap.defers=Ds.map mkD/\b∈Ds
structure JS (B:Base) (e:Entry) (N:Nat) (r0:Mem) (β0:qBD) (Φ0:Phi) (σI:Env) (ΦI:Phi) (rec:Loop) (l:Nat) (ap:Act) (S:Nat->Prop) (W:World) (r':Mem) (β':qBD):Prop where
 sat:Sat B e N r' β' σI ΦI ap W
 le:r0.le r'
 kh:qKN β0 Φ0 β' ΦI
 rc:W.heap[l]?=some (.loop rec)
 hr:r' l=none
 hΦ:∀ id ch,Phi.get ΦI id=some ch->¬ch.hb (β' id) l
 S:S=SJ e r0 r' β' ΦI l ap
section
variable {B:Base}{e:Entry}{N:Nat}{r0:Mem}{β0:qBD}{Φ0:Phi}{σI:Env}{ΦI:Phi}{rec:Loop}{l:Nat}{ap:Act}{S:Nat->Prop}{W:World}{r':Mem}{β':qBD}
theorem qEB {r r':Mem}(h:r.le r') {b:Nat}(hb:r' b=none):r b=none:=by
 cases hq:r b with
 | none=>rfl
 | some o=>rw[h b o hq] at hb;cases hb
theorem JS.lt (h:JS B e N r0 β0 Φ0 σI ΦI rec l ap S W r' β') {b:Nat}(hb:S b):b<W.heap.size/\r0 b=none:=by
 rw[h.S] at hb;rcases hb with⟨h1,h2⟩|⟨id,ch,h1,h2⟩|h1|rfl|⟨Ds,h1,h2⟩
 ·cases hq:r' b with
  | none=>exact absurd hq h1
  | some o=>exact⟨lt_of_heap (h.sat.mem.vis b o hq),h2⟩
 ·exact⟨qE8 h.sat.mem h1 h2,qEB h.le (h.sat.mem.sep _ _ _ h1 h2)⟩
 ·obtain⟨k1,k2,k3⟩:=h.sat.kept.block b h1;exact⟨yAY (h.sat.kept.slt b h1) h.sat.kept.size,qEB h.le k2⟩
 ·exact⟨lt_of_heap h.rc,qEB h.le h.hr⟩
 ·obtain⟨Ds',k1,k2,k3⟩:=h.sat.defers;obtain rfl:Ds=Ds':=qRB (h1.symm.trans k1);obtain⟨g1,g2,g3,g4⟩:=k3 b h2;exact⟨lt_of_heap g2,qEB h.le g3⟩
theorem JS.stable (h:JS B e N r0 β0 Φ0 σI ΦI rec l ap S W r' β') {W':World}(o:Oth r0 S W W'):JS B e N r0 β0 Φ0 σI ΦI rec l ap S W' r' β':=by
 have hS:∀ b,SJ e r0 r' β' ΦI l ap b->W'.heap[b]?=W.heap[b]?:=fun b hb=>o.same b (by rw[h.S];exact hb)
 refine⟨⟨h.sat.agree,⟨fun b ob hb=>?_,fun id ch hi=>?_,h.sat.mem.sep,h.sat.mem.nod⟩,h.sat.G,⟨h.sat.kept.le,o.os.trans h.sat.kept.os,o.tape.trans h.sat.kept.tape,o.output.trans h.sat.kept.output,yAX h.sat.kept.size o.size,fun b hb=>?_,h.sat.kept.keep,h.sat.kept.slt⟩,?_,h.sat.size⟩,h.le,h.kh,?_,h.hr,h.hΦ,h.S⟩
 ·cases hq:r0 b with
  | some o'=>
   have e1:=h.le b o' hq;rw[hb] at e1;cases e1;exact o.old b ob hq
  | none=>
   rw[hS b (.inl ⟨by rw[hb];simp,hq⟩)]
   exact h.sat.mem.vis b ob hb
 ·exact(h.sat.mem.chs _ _ hi).keep (Mem.le_refl r') (fun b hb=>hS b (.inr (.inl ⟨id,ch,hi,hb⟩))) (fun _ _ _ _ _ _ _ h=>h)
 ·obtain⟨k1,k2,k3⟩:=h.sat.kept.block b hb;exact⟨(hS b (.inr (.inr (.inl hb)))).trans k1,k2,k3⟩
 ·obtain⟨Ds,k1,k2,k3⟩:=h.sat.defers;refine⟨Ds,k1,k2,fun D hD=>?_⟩
  obtain⟨g1,g2,g3,g4⟩:=k3 D hD;exact⟨g1,(hS D (.inr (.inr (.inr (.inr ⟨Ds,k1,hD⟩))))).trans g2,g3,g4⟩
 ·rw[hS l (.inr (.inr (.inr (.inl rfl))))];exact h.rc
theorem JS.notD (h:JS B e N r0 β0 Φ0 σI ΦI rec l ap S W r' β'):∀ Ds:List Nat,ap.defers=Ds.map (fun D=>{ target:=.collected D,args := #[] })->l∉Ds:=by
 intro Ds h1 hm;obtain⟨Ds',k1,k2,k3⟩:=h.sat.defers;obtain rfl:Ds=Ds':=qRB (h1.symm.trans k1);obtain⟨g1,g2,g3,g4⟩:=k3 l hm;rw[h.rc] at g2;cases g2
theorem JS.turn (h:JS B e N r0 β0 Φ0 σI ΦI rec l ap S W r' β') (hl:¬e.S l) (o:Obj):Sat B e N r' β' σI ΦI ap (W.putObj l o):=by
 have get:∀ b,b≠l->(W.putObj l o).heap[b]?=W.heap[b]?:=fun b hb=>World.putObj_heap_other hb
 refine qKG h.sat (lt_of_heap h.rc) h.hr h.hΦ h.notD h.sat.agree rfl h.sat.size (fun _ h=>h) ⟨h.sat.kept.le,h.sat.kept.os,h.sat.kept.tape,h.sat.kept.output,by rw[World.putObj_size];exact h.sat.kept.size,fun b hb=>?_,h.sat.kept.keep,h.sat.kept.slt⟩
 obtain⟨k1,k2,k3⟩:=h.sat.kept.block b hb;exact⟨(get b (fun he=>hl (he▸hb))).trans k1,k2,k3⟩
end
def IH (B:Base) (N:Nat) (L:List Nat) (pl:List (Nat×List Nat)) (c:Code):Prop:=
 ∀ (F:Entry->Prop),YOk B F N->FamOk F->∀ (ro:Option Nat) (K:KT) (e:Entry) (r:Mem) (β:qBD) (σ:Env) (Φ:Phi) (n:Nat) (a:Act) (w:World),
  F e->vc B L pl c K σ Φ n->Sat B e N r β σ Φ a w->qFL σ->c.wpIn (fc ro) 0 B.P (QK B F N K) a w
theorem qOP {B:Base}{e:Entry}{N:Nat}{r0:Mem}{β0:qBD}{Φ0:Phi}{σI:Env}{ΦI:Phi}{rec:Loop}{l:Nat}{ap:Act}{S:Nat->Prop}{W:World}{r':Mem}{β':qBD}
  (j:JS B e N r0 β0 Φ0 σI ΦI rec l ap S W r' β') (hel:¬e.S l) (hst:Stb Φ0 σI) (hag0:Agree r0 β0 σI ap.tmps)
  {r1:Mem}{β1:qBD}{Φ1:Phi}{W1 W2:World}(k1:Kept (Entry.of r' β' ΦI W) r1 β1 Φ1 W1) (hW2:∀ b,b≠l->W2.heap[b]?=W1.heap[b]?) (hsz:W2.heap.size=W1.heap.size) (hos:W2.os=W1.os/\W2.tape=W1.tape/\W2.output=W1.output)
  {lo:Nat->Prop}{r3:Mem}{β3:qBD}{Φ3:Phi}{W3:World}(k3:Kept ⟨r1,hidS r1 β1 Φ1 W1,lo, β1, Φ1,W2⟩ r3 β3 Φ3 W3) (m3:MemSat r3 β3 Φ3 W3) (G3:B.G r3) (o:Obj):
  Sat B e N r3 β3 σI Φ3 ap (W3.putObj l o)/\r0.le r3/\qKN β0 Φ0 β3 Φ3/\r3 l=none/\(∀ id ch,Phi.get Φ3 id=some ch->¬ch.hb (β3 id) l)/\
   Own S W (W3.putObj l o)/\(∀ b,hidS r' β' ΦI W b->r3 b=none/\∀ id ch,Phi.get Φ3 id=some ch->¬ch.hb (β3 id) b)/\l<W3.heap.size:=by
 have hlW:l<W.heap.size:=lt_of_heap j.rc;have hidl:hidS r' β' ΦI W l:=⟨hlW,j.hr,j.hΦ⟩;have both:∀ b,hidS r' β' ΦI W b->(b≠l->W3.heap[b]?=W.heap[b]?)/\r3 b=none/\∀ id ch,Phi.get Φ3 id=some ch->¬ch.hb (β3 id) b:=by
  intro b hb;obtain⟨x1,x2,x3⟩:=k1.block b hb;have hb1:hidS r1 β1 Φ1 W1 b:=⟨yAY hb.1 k1.size,x2,x3⟩;obtain⟨y1,y2,y3⟩:=k3.block b hb1;exact⟨fun hne=>y1.trans ((hW2 b hne).trans x1),y2,y3⟩
 have hle:r0.le r3:=Mem.le_trans j.le (Mem.le_trans k1.le k3.le);have hkh:qKN β0 Φ0 β3 Φ3:=(j.kh.trans k1.keep).trans k3.keep;have hsize:W.heap.size<=W3.heap.size:=yAX k1.size (by rw[<-hsz];exact k3.size)
 have hl3:l<W3.heap.size:=yAY hlW hsize;have get:∀ b,b≠l->(W3.putObj l o).heap[b]?=W3.heap[b]?:=fun b hb=>World.putObj_heap_other hb
 have eos:W3.os=W.os/\W3.tape=W.tape/\W3.output=W.output:=⟨k3.os.trans (hos.1.trans k1.os),k3.tape.trans (hos.2.1.trans k1.tape),k3.output.trans (hos.2.2.trans k1.output)⟩;obtain⟨_,hrl,hΦl⟩:=both l hidl;refine⟨⟨hst.agree hag0 hle hkh,⟨fun b ob hb=>?_,fun id ch hi=>?_,m3.sep,m3.nod⟩,G3,⟨Mem.le_trans j.sat.kept.le (Mem.le_trans k1.le k3.le),eos.1.trans j.sat.kept.os,eos.2.1.trans j.sat.kept.tape,eos.2.2.trans j.sat.kept.output,by rw[World.putObj_size];exact yAX j.sat.kept.size hsize,fun b hb=>?_,fun id ch hid hk=>?_,j.sat.kept.slt⟩,?_,j.sat.size⟩,
  hle,hkh,hrl,hΦl,⟨eos.1,eos.2.1,eos.2.2,by rw[World.putObj_size];exact hsize,fun b hb hnS=>?_⟩,fun b hb=>(both b hb).2,hl3⟩
 ·rw[get b (fun he=>by rw[he,hrl] at hb;cases hb)];exact m3.vis b ob hb
 ·exact(m3.chs _ _ hi).keep (Mem.le_refl r3) (fun b hb=>get b (fun he=>hΦl id ch hi (he▸hb))) (fun _ _ _ _ _ _ _ h=>h)
 ·obtain⟨x1,x2,x3⟩:=j.sat.kept.block b hb;have hbW:b<W.heap.size:=yAY (j.sat.kept.slt b hb) j.sat.kept.size;have hne:b≠l:=fun he=>hel (he▸hb)
  obtain⟨y1,y2,y3⟩:=both b ⟨hbW,x2,x3⟩;exact⟨(get b hne).trans ((y1 hne).trans x1),y2,y3⟩
 ·obtain⟨q1,ch',q2,q3⟩:=j.sat.kept.keep id ch hid hk;obtain⟨p1,ch1,p2,p3⟩:=k1.keep id ch' q2 (by rw[q3];exact hk)
  obtain⟨t1,ch3,t2,t3⟩:=k3.keep id ch1 p2 (by rw[p3,q3];exact hk)
  exact⟨t1.trans (p1.trans q1),ch3,t2,t3.trans (p3.trans q3)⟩
 ·obtain⟨Ds,h1,h2,h3⟩:=j.sat.defers;refine⟨Ds,h1,h2,fun D hD=>?_⟩
  obtain⟨g1,g2,g3,g4⟩:=h3 D hD;have hne:D≠l:=fun he=>j.notD Ds h1 (he▸hD)
  obtain⟨y1,y2,y3⟩:=both D ⟨lt_of_heap g2,g3,g4⟩;exact⟨g1,(get D hne).trans ((y1 hne).trans g2),y2,y3⟩
 ·-- what is not the loop's has not turned
  have hnl:b≠l:=fun he=>hnS (by rw[j.S];exact .inr (.inr (.inr (.inl he))))
  rw[get b hnl];cases hq:r' b with
  | some ob=>
   have h3:r3 b=some ob:=k3.le b ob (k1.le b ob hq);rw[m3.vis b ob h3,j.sat.mem.vis b ob hq]
  | none=>
   exact(both b ⟨hb,hq,fun id ch hi hbk=>hnS (by rw[j.S];exact .inr (.inl ⟨id,ch,hi,hbk⟩))⟩).1 hnl
end Go.Vc

namespace Go.Vc
set_option autoImplicit false
theorem qWZ {r r':Mem}{β:qBD}{sv:SV}{v:Value}(h:Rel r β sv v) (hp:sv.rf0=true):Rel r' β sv v:=by
 cases h with
 | int=>exact .int
 | bool=>exact .bool
 | str h=>exact .str h
 | v=>exact .v
 | loc h=>exact .loc h
 | own h=>exact .own h
 | nk h hi ho=>exact .nk h hi ho
 | nils=>exact .nils
 | oel h=>exact .oel h
 | mref h=>exact .mref h
 | otl h hk hn=>exact .otl h hk hn
 | flt=>exact .flt
 | cpx=>exact .cpx
 | und=>exact .und
 | _=>cases hp
theorem qP8:∀ {l:List SV},qaL l=true->∀ (i:Nat) (sv:SV),l[i]?=some sv->sv.rf0=true
 | [],_,i,sv,hi=>by simp at hi
 | x::r,h,i,sv,hi=>by
  simp only[qaL,yAD] at h;cases i with
  | zero=>simp at hi;subst hi;exact h.1
  | succ i=>simp at hi;exact qP8 h.2 i sv hi
theorem qi8 {r r':Mem}{β:qBD}{sv:SV}{v:Value}(h:Rel r β sv v) (hp:sv.rf=true):Rel r' β sv v:=by
 cases sv with
 | agg l=>cases h with|agg hl h=>exact .agg hl fun i sv v q1 q2=>qWZ (h i sv v q1 q2) (qP8 hp i sv q1)
 | fn f l=>cases h with|fn hl h=>exact .fn hl fun i sv v q1 q2=>qWZ (h i sv v q1 q2) (qP8 hp i sv q1)
 | _=>exact qWZ h hp
theorem qn6 (x:SV):x.unf.rf=true:=by
 unfold SV.unf;cases h:x.rf with
 | true=>exact h
 | false=>rfl
theorem qfK {r r':Mem}{β:qBD}{sv:SV}{v:Value}(h:Rel r β sv v):Rel r' β sv.unf v:=by
 unfold SV.unf;cases hq:sv.rf with
 | true=>exact qi8 h hq
 | false=>exact .und
theorem qYG:∀ {σ:Env}{k:Nat}{g sv},Env.get (qbO σ) k=some (g,sv)->∃ sv0,Env.get σ k=some (g,sv0)/\sv=sv0.unf
 | [],k,g,sv,h=>by cases h
 | (k0,g0,s0)::r,k,g,sv,h=>by
  have h:(bif Nat.beq k0 k then some (g0,s0.unf) else Env.get (qbO r) k)=some (g,sv):=h
  show ∃ sv0,(bif Nat.beq k0 k then some (g0,s0) else Env.get r k)=some (g,sv0)/\_
  cases hb:Nat.beq k0 k with
  | true=>rw[hb] at h;simp only[cond_true,Option.some.injEq,Prod.mk.injEq] at h;exact⟨s0,by simp[h.1],h.2.symm⟩
  | false=>rw[hb] at h;simp only[cond_false] at h ⊢;exact qYG h
theorem qFS:∀ (Φ:Phi) (k:Nat),Phi.get (qDP Φ) k=(Phi.get Φ k).map Chunk.unf
 | [],k=>rfl
 | (k0,c)::r,k=>by
  show(bif Nat.beq k0 k then some c.unf else Phi.get (qDP r) k)=(bif Nat.beq k0 k then some c else Phi.get r k).map Chunk.unf
  cases Nat.beq k0 k with
  | true=>rfl
  | false=>exact qFS r k
theorem qYM:∀ {Φ:Phi},qPW Φ=true->∀ {k:Nat}{c:Chunk},Phi.get Φ k=some c->c.okF=true
 | [],_,k,c,h=>by cases h
 | (k0,c0)::r,h,k,c,hg=>by
  simp only[qPW,yAD] at h;have hg:(bif Nat.beq k0 k then some c0 else Phi.get r k)=some c:=hg
  cases hb:Nat.beq k0 k with
  | true=>rw[hb] at hg;simp only[cond_true,Option.some.injEq] at hg;rw[<-hg];exact h.1
  | false=>rw[hb] at hg;exact qYM h.2 hg
theorem qO1 {c:Chunk}{v:Value}{b:Nat}:c.unf.hb v b↔c.hb v b:=by
 cases c with
 | bx T cs=>cases v with
  | pointer p=>cases p<;>exact Iff.rfl
  | _=>exact Iff.rfl
 | _=>exact Iff.rfl
theorem qZN {c:Chunk}:c.unf.kind=c.kind:=by cases c<;>rfl
theorem qlU {c:Chunk}{r r':Mem}{β:qBD}{w:World}{x:Value}(h:c.Sat r β w x) (ok:c.okF=true):c.unf.Sat r' β w x:=by
 cases c with
 | bx T cs=>
  cases h with
  | box hx hw hl h hT=>
   refine .box hx hw (by simpa using hl) (fun i sv v q1 q2=>?_) hT
   rw[List.getElem?_map] at q1;obtain⟨sv0,e1,rfl⟩:=yA3.1 q1;exact qfK (h i sv0 v e1 q2)
 | own τ l=>exact qEG h ok
 | ow τ l=>
  cases h with
  | ow h=>
   have:=qEG (r2:=r') (β:=β) (Chunk.Sat.own h) ok;cases this with
   | own h=>exact .ow h
 | _=>cases ok
theorem Sat.free {B:Base}{e:Entry}{N:Nat}{r1 r:Mem}{β:qBD}{σ:Env}{Φ:Phi}{a:Act}{w:World}(s:Sat B e N r1 β σ Φ a w) (hle:r.le r1) (he:e.r.le r) (hG:B.G r) (hok:qPW Φ=true)
  (hσ:∀ k g sv,Env.get σ k=some (g,sv)->g=none/\sv.rf=true):Sat B e N r β σ (qDP Φ) a w:=by
 have gt:∀ {id ch},Phi.get (qDP Φ) id=some ch->∃ c0,Phi.get Φ id=some c0/\ch=c0.unf:=fun h=>by
  rw[qFS] at h;obtain⟨c0,h1,h2⟩:=yA3.1 h;exact⟨c0,h1,h2.symm⟩
 refine⟨fun k g sv hk=>?_,⟨fun b o hb=>s.mem.vis b o (hle b o hb),fun id ch hi=>?_,fun id ch b hi hb=>?_,fun id id' ch ch' b h1 h2 h3 h4=>?_⟩,hG,⟨he,s.kept.os,s.kept.tape,s.kept.output,s.kept.size,fun b hb=>?_,fun id ch hid hk=>?_,s.kept.slt⟩,?_,s.size⟩
 ·obtain⟨rfl,hr⟩:=hσ k g sv hk;obtain⟨v,p1,p2⟩:=s.agree k none sv hk;exact⟨v,p1,qi8 p2 hr⟩
 ·obtain⟨c0,h0,rfl⟩:=gt hi;exact qlU (s.mem.chs _ _ h0) (qYM hok h0)
 ·obtain⟨c0,h0,rfl⟩:=gt hi;exact qEB hle (s.mem.sep id c0 b h0 (qO1.1 hb))
 ·obtain⟨c0,h0,rfl⟩:=gt h1;obtain⟨c1,h5,rfl⟩:=gt h2;exact s.mem.nod id id' c0 c1 b h0 h5 (qO1.1 h3) (qO1.1 h4)
 ·obtain⟨x1,x2,x3⟩:=s.kept.block b hb;exact⟨x1,qEB hle x2,fun id ch hi hbk=>by obtain⟨c0,h0,rfl⟩:=gt hi;exact x3 id c0 h0 (qO1.1 hbk)⟩
 ·obtain⟨y1,ch',y2,y3⟩:=s.kept.keep id ch hid hk;exact⟨y1,ch'.unf,by rw[qFS,y2];rfl,by rw[qZN];exact y3⟩
 ·obtain⟨Ds,h1,h2,h3⟩:=s.defers;refine⟨Ds,h1,h2,fun D hD=>?_⟩
  obtain⟨g1,g2,g3,g4⟩:=h3 D hD;exact⟨g1,g2,qEB hle g3,fun id ch hi hbk=>by obtain⟨c0,h0,rfl⟩:=gt hi;exact g4 id c0 h0 (qO1.1 hbk)⟩
theorem Sat.up {B:Base}{e:Entry}{N:Nat}{r r':Mem}{β:qBD}{σ:Env}{Φ:Phi}{a:Act}{w:World}(s:Sat B e N r β σ Φ a w) (hle:r.le r') (hvis:∀ b o,r' b=some o->w.heap[b]?=some o)
  (h1:∀ b,e.S b->r' b=none) (h2:∀ id ch b,Phi.get Φ id=some ch->ch.hb (β id) b->r' b=none) (h3:∀ (Ds:List Nat) D,a.defers=Ds.map mkD->D∈Ds->r' D=none):Sat B e N r' β σ Φ a w:=by
 refine⟨s.agree.of fun k g sv hk=>⟨sv,hk,fun v hr=>hr.mono hle⟩,⟨hvis,fun id ch hi=>(s.mem.chs _ _ hi).keep hle (fun _ _=>rfl) (fun _ _ _ _ _ _ _ h=>h),h2,s.mem.nod⟩,B.mono _ _ hle s.G,⟨Mem.le_trans s.kept.le hle,s.kept.os,s.kept.tape,s.kept.output,s.kept.size,fun b hb=>?_,s.kept.keep,s.kept.slt⟩,?_,s.size⟩
 ·obtain⟨x1,x2,x3⟩:=s.kept.block b hb;exact⟨x1,h1 b hb,x3⟩
 ·obtain⟨Ds,k1,k2,k3⟩:=s.defers;refine⟨Ds,k1,k2,fun D hD=>?_⟩
  obtain⟨g1,g2,g3,g4⟩:=k3 D hD;exact⟨g1,g2,h3 Ds D k1 hD,g4⟩
theorem qKN.unf {β:qBD}{Φ:Phi}{β':qBD}{Φ':Phi}(h:qKN β Φ β' Φ'):qKN β Φ β' (qDP Φ'):=fun id ch hi hk=>by
 obtain⟨h1,ch',h2,h3⟩:=h id ch hi hk;exact⟨h1,ch'.unf,by rw[qFS,h2];rfl,by rw[qZN];exact h3⟩
theorem qI1 {Φ:Phi}{id:Nat}{ch:Chunk}{v:Value}{b:Nat}(h:Phi.get (qDP Φ) id=some ch) (hb:ch.hb v b):∃ c0,Phi.get Φ id=some c0/\c0.hb v b:=by
 rw[qFS] at h;obtain⟨c0,h1,rfl⟩:=yA3.1 h;exact⟨c0,h1,qO1.1 hb⟩
theorem qbU {Φ:Phi}{sv:SV}(h:qRD Φ sv=true):qRD Φ sv.unf=true:=by
 unfold SV.unf;cases sv.rf with
 | true=>exact h
 | false=>rfl
theorem qU6 {B:Base}{F:Entry->Prop}{e:Entry}{N:Nat}{L:List Nat}{pl:List (Nat×List Nat)}(hlen:B.Y.len=0) (hFam:FamOk F) {f:FuncId}{caps:List SV}{ps:List Nat}{x y:Code}{K:KT}{σ:Env}{Φ:Phi}{r:Mem}{β:qBD}{a:Act}{w:World}{g:Operand}{cs:List Value}
    (ihx:IH B N L pl x) (ihy:IH B N L pl y) (hps:∀ p∈ps,p<N)
    {pre:Prop}{len:Nat}{at_:Nat->List SV}(it:It B f caps pre len at_) (hp:Ob pre) (hpl:SV.okIdsL (fun _=>false) caps=true) {α:Type}(F':α->Phi) (m:Nat) (C:Nat->α->Prop) (a0:α) (h0:C 0 a0)
    (he:qIV Φ σ L fun σP=>qEU L [] (F' a0) σP Φ fun σI ΦI=>bif qPW ΦI then qIU (qbO σI) Φ (qbO σI) ΦI Φ else False)
    (hr : ∀ i a,C i a->i<len->qIV Φ σ L fun σP=>qEU L [] (F' a) σP Φ fun σI ΦI=>bif qPW ΦI&&SV.okIdsL (fun _=>false) (at_ i) then qlL ps (at_ i) (qbO σI) fun σr=>vc B L pl x (fun ex σ1 Φ1 n1=>
        match ex with
        | .normal=>vc B L pl y (fun ex σ' Φ' n'=>
          match ex with
          | .normal=>Rnd (∃ a',C (i+1) a'/\qEU L [] (F' a') σP Φ fun σI ΦI=>bif qPW ΦI then qIU (qbO σI) Φ' (qbO σI) ΦI Φ else False)
          | ex=>bif qPW Φ' then K ex (qbO σI) (qDP Φ') n' else False) σ1 Φ1 n1
        | _=>False) σr (qDP ΦI) m else False)
    (hend:∀ a,C len a->qIV Φ σ L fun σP=>qEU L [] (F' a) σP Φ fun σI ΦI=>bif qPW ΦI then K .normal (qbO σI) (qDP ΦI) m else False)
    (s:Sat B e N r β σ Φ a w) (hF:F e) (hgv:a.eval g=.func (.func f) #[] cs.toArray) (hcs:qA5 r β caps cs):
    (Code.rangeFunc g ⟨ps⟩ x y).wpIn (fc none) 0 B.P (QK B F N K) a w:=by
  rw[qHW,qB0] at he;have hrS:=hr;obtain⟨σI,hσI⟩:∃ σI, σI=qbO (purge L (qf0 [] (qbP Φ σ L))):=⟨_,rfl⟩;rw[<-hσI] at he;have hsub:∀ k g sv,Env.get σI k=some (g,sv)->∃ sv0,Env.get σ k=some (none,sv0)/\g=none/\qRD Φ sv0=true/\sv=sv0.unf:=by
    intro k g sv hk;rw[hσI] at hk;obtain⟨sv0,hk1,rfl⟩:=qYG hk;obtain⟨hg,hk'⟩:=qHD hk1;subst hg;obtain⟨_,h2,h3⟩:=qRJ (show Env.get (qbP Φ σ L) k=some (none,sv0) from hk')
    exact⟨sv0,h3,rfl,h2,rfl⟩
  have hst:Stb Φ σI:=by
    intro k g sv hk;obtain⟨sv0,_,h2,h3,rfl⟩:=hsub k g sv hk;exact⟨h2,qbU h3⟩
  have hng:qFL σI:=fun k g sv hk=>(hsub k g sv hk).elim fun _ h=>h.2.1
  have hrf:∀ k g sv,Env.get σI k=some (g,sv)->g=none/\sv.rf=true:=fun k g sv hk=>by
    obtain⟨sv0,_,h2,h3,rfl⟩:=hsub k g sv hk;exact⟨h2,qn6 sv0⟩
  have hagI:Agree r β σI a.tmps:=s.agree.of fun k g sv hk=>by
    obtain⟨sv0,h1,rfl,_,rfl⟩:=hsub k g sv hk;exact⟨sv0,h1,fun v hv=>qfK hv⟩
  refine wpIn_rangeFunc fun fn hfn=>?_
  obtain⟨rec,hrec⟩:∃ rec:Loop,rec={ state:=.ready,pending:=none,fn:=fn,tmps:=a.tmps,params:=⟨ps⟩,assign:=x,body:=y,defers:=w.heap.size }:=⟨_,rfl⟩;obtain⟨W0,hW0⟩:∃ W0:World,W0=(w.alloc (.deferred (some []))).alloc (.loop rec):=⟨_,rfl⟩;obtain⟨l,hl⟩:∃ l:Nat,l=w.heap.size+1:=⟨_,rfl⟩;obtain⟨ap,hap⟩:∃ ap:Act,ap={ a with defers:=[mkD w.heap.size]++a.defers }:=⟨_,rfl⟩
  have hent:(Instr.enterLoop fn a.tmps ⟨ps⟩ x y none).run B.P w=.ok (l,[mkD w.heap.size]) W0:=by
    rw[hl,hW0,hrec];exact run_enterLoop_outer fn a.tmps ⟨ps⟩ x y
  have hheap:W0.heap=(w.heap.push (.deferred (some []))).push (.loop rec):=by rw[hW0];rfl
  have hgrow:Grows w W0:=⟨by rw[hW0];rfl,by rw[hW0];rfl,by rw[hW0];rfl,by rw[hheap];simp;omega,fun b hb=>by
    rw[hheap,yAC,if_neg (by simp;omega),yAC,if_neg (by omega)]⟩
  have hl0:W0.heap[l]?=some (.loop rec):=by
    rw[hheap,hl,yAC,if_pos (by simp)]
  have hD0:W0.heap[w.heap.size]?=some (.deferred (some [])):=by
    rw[hheap,yAC,if_neg (by simp),yAC,if_pos rfl]
  have newn:∀ b,w.heap.size<=b->r b=none/\∀ id ch,Phi.get Φ id=some ch->¬ch.hb (β id) b:=by
    intro b hb;refine⟨?_,fun id ch h1 h2=>by have:=qE8 s.mem h1 h2;omega⟩
    cases hq:r b with
    | none=>rfl
    | some o=>have:=lt_of_heap (s.mem.vis b o hq);omega
  obtain⟨m0,hid0⟩:=qMZ s.mem hgrow;have s0:Sat B e N r β σI Φ ap W0:=by
    refine⟨by rw[hap];exact hagI,m0,s.G,s.kept.step (Mem.le_refl r) hid0,?_,by rw[hap];exact s.size⟩
    obtain⟨Ds,h1,h2,h3⟩:=s.defers;refine⟨w.heap.size::Ds,by rw[hap];show[mkD w.heap.size]++a.defers=_;rw[h1];rfl,yAR.2 ⟨fun hm=>?_,h2⟩,fun D hD=>?_⟩
    · obtain⟨g1,g2,_⟩:=h3 _ hm
      have:=lt_of_heap g2;omega
    · rcases yAP.1 hD with rfl|hD
      · exact⟨hFam.lo e hF _ s.kept.size,hD0,(newn _ (yAW _)).1,(newn _ (yAW _)).2⟩
      · obtain⟨g1,g2,g3,g4⟩:=h3 D hD
        exact⟨g1,(hgrow.old D (lt_of_heap g2)).trans g2,g3,g4⟩
  have hks:∀ id ch,Phi.get e.Φ id=some ch->ch.kind≠0->∃ ch0,Phi.get Φ id=some ch0/\ch0.kind=ch.kind:=fun id ch h hk=>(s.kept.keep id ch h hk).2
  have hel:¬e.S l:=fun hS=>by
    have:=s.kept.slt l hS;have:=s.kept.size;omega
  have hagP:Agree r β σI ap.tmps:=by rw[hap];exact hagI
  have her:e.r.le r:=s.kept.le
  let J:Nat->(Nat->Prop)->World->Prop:=fun i S W=>∃ x β',C i x/\qPW (qDQ (F' x) Φ)=true/\JS B e N r β Φ σI (qDP (qDQ (F' x) Φ)) rec l ap S W r β'
  let Jx:(Nat->Prop)->World->Prop:=fun S W=>∃ (ex:Ex) (c:Code) (β':qBD) (Φ':Phi) (n':Nat),((ex=.ret/\c=.ret)\/∃ id,ex=.exit id/\c=.exit id)/\K ex σI (qDP Φ') n'/\
    JS B e N r β Φ σI (qDP Φ') { rec with state:=.done,pending:=some c } l ap S W r β'
  have hJ:∀ i S W,J i S W->(∀ b,S b->b<W.heap.size/\r b=none)/\∀ W',Oth r S W W'->J i S W':=by
    rintro i S W ⟨x, β',hC,hok,hj⟩;exact⟨fun b hb=>hj.lt hb,fun W' ho=>⟨x, β',hC,hok,hj.stable ho⟩⟩
  have hJx:∀ S W,Jx S W->(∀ b,S b->b<W.heap.size/\r b=none)/\∀ W',Oth r S W W'->Jx S W':=by
    rintro S W ⟨ex,c, β', Φ',n',hc,hK,hj⟩;exact⟨fun b hb=>hj.lt hb,fun W' ho=>⟨ex,c, β', Φ',n',hc,hK,hj.stable ho⟩⟩
  have hJ0:∃ S,J 0 S W0:=by
    cases hok:qPW (qDQ (F' a0) Φ) with
    | false=>rw[hok] at he;exact he.elim
    | true=>
    rw[hok] at he;obtain⟨r1, β1,s1,hle1,hkh1,hH1⟩:=qMK s0 he hng hks;obtain⟨q1,q2⟩:=hH1 l (newn l (by omega)).1 (newn l (by omega)).2
    exact⟨_,a0, β1,h0,hok,s1.free hle1 her s.G hok hrf,Mem.le_refl r,hkh1.unf,hl0,qEB hle1 q1,fun id ch h1 h2=>by obtain⟨c0,h3,h4⟩:=qI1 h1 h2;exact q2 id c0 h3 h4,rfl⟩
  have hY : ∀ i S W r'' β'' vs,J i S W->i<len->r.le r''->(∀ b o,r'' b=some o->W.heap[b]?=some o)->(∀ b,S b->r'' b=none)->qA5 r'' β'' (at_ i) vs->qGA B.P l vs W fun en W'=>∃ b S',en=.returned (.bool b)/\Own S W W'/\(∀ z,S' z->S z\/W.heap.size<=z)/\(bif b then J (i+1) S' W' else Jx S' W'):=by
    rintro i S W r'' β'' vs ⟨z, β',hC,hok,hj⟩ hi hle'' hvis'' hhid'' hvs;have hb:=hr i z hC hi;rw[qHW,qB0, <-hσI,hok] at hb;cases hpl1:SV.okIdsL (fun _=>false) (at_ i) with
    | false=>rw[hpl1] at hb;exact hb.elim
    | true=>
    rw[hpl1] at hb;have hb:qlL ps (at_ i) σI _:=hb;obtain⟨σr,hb,hlenp,hpar⟩:=qOX hb;obtain⟨ΦI,hΦI⟩:∃ ΦI, ΦI=qDP (qDQ (F' z) Φ):=⟨_,rfl⟩;rw[<-hΦI] at hb hj;have hSl:S l:=by rw[hj.S];exact .inr (.inr (.inr (.inl rfl)))
    have hSc:∀ id ch b,Phi.get ΦI id=some ch->ch.hb (β' id) b->S b:=fun id ch b h1 h2=>by rw[hj.S];exact .inr (.inl ⟨id,ch,h1,h2⟩)
    have j2:JS B e N r β Φ σI ΦI rec l ap (SJ e r r'' β' ΦI l ap) W r'' β':=
      ⟨hj.sat.up hle'' hvis'' (fun b hb=>hhid'' b (by rw[hj.S];exact .inr (.inr (.inl hb)))) (fun id ch b h1 h2=>hhid'' b (hSc id ch b h1 h2)) (fun Ds D h1 h2=>hhid'' D (by rw[hj.S];exact .inr (.inr (.inr (.inr ⟨Ds,h1,h2⟩))))),hle'',hj.kh,hj.rc,hhid'' l hSl,hj.hΦ,rfl⟩
    have ownS:∀ {W':World},Own (SJ e r r'' β' ΦI l ap) W W'->(∀ b o,r'' b=some o->W'.heap[b]?=some o)->Own S W W':=fun q hv=>⟨q.os,q.tape,q.output,q.size,fun b hb hS=>by
      cases hq:r'' b with
      | some o=>rw[hv b o hq,hvis'' b o hq]
      | none=>
        refine q.same b hb fun h=>hS ?_
        rw[hj.S];rcases h with⟨h1,_⟩|h
        · exact absurd hq h1
        · exact .inr h⟩
    have hvs':qA5 r'' β' (at_ i) vs:=⟨hvs.1,fun k sv v q1 q2=>(hvs.2 k sv v q1 q2).bind (p:=fun _=>false) (fun _ h=>by cases h) (SV.okIdsL_get hpl1 k sv q1)⟩
    have hsz:vs.toArray.size=rec.params.size:=by
      rw[hrec];simp;rw[hvs.1,hlenp]
    refine⟨rec.fn,_,rec.assign,rec.body,run_yield j2.rc hsz,?_⟩;have htm:rec.tmps=a.tmps:=by rw[hrec]
    have hpm:rec.params=⟨ps⟩:=by rw[hrec]
    have has:rec.assign=x:=by rw[hrec]
    have hbo:rec.body=y:=by rw[hrec]
    rw[has,hbo];have hfold:(rec.params.zip vs.toArray).foldl (fun tmps (x:Tmp×Value)=>tmps.setIfInBounds x.1 x.2) rec.tmps=(ps.zip vs).foldl (fun tmps x=>tmps.setIfInBounds x.1 x.2) a.tmps:=by
      rw[htm,hpm];rw[<-yAA];simp
    have hagW:Agree r'' β' σI a.tmps:=by have:=j2.sat.agree;rw[hap] at this;exact this
    have hsza:a.tmps.size=N:=s.size;obtain⟨hagr,hngr⟩:=hpar hagW hvs' hng (fun p hp=>by rw[hsza];exact hps p hp)
    refine roundIn_of_wpIn (F:=fc none) trivial ?_;show x.wpIn (fc (some l)) 0 B.P _ _ W;have hszr:∀ (zs:List (Nat×Value)) (t:Array Value),(zs.foldl (fun tmps x=>tmps.setIfInBounds x.1 x.2) t).size=t.size:=by
      intro zs
      induction zs with
      | nil=>intro t;rfl
      | cons q zs ih=>intro t;rw[yAJ,ih];simp
    have sa:Sat B (Entry.of r'' β' ΦI W) N r'' β' σr ΦI { tmps:=(rec.params.zip vs.toArray).foldl (fun tmps (x:Tmp×Value)=>tmps.setIfInBounds x.1 x.2) rec.tmps,defers:=[] } W:=by
      refine⟨by rw[hfold];exact hagr,j2.sat.mem,j2.sat.G,Kept.refl ..,⟨[],rfl,yAS,fun D hD=>(yAT hD).elim⟩,by rw[hfold,hszr];exact hsza⟩
    refine wpIn_mono (ihx (fun e'=>e'=Entry.of r'' β' ΦI W) (YOk.none hlen) (FamOk.one (fun _ h=>h)) (some l) _ _ r'' β' σr _ m _ W rfl hb sa hngr) fun ex1 a1 W1 hq=>?_
    cases ex1 with
    | exit i=>obtain⟨_,_,_,_,_,_,_,hk,_⟩:=hq;exact hk.elim
    | ret=>obtain⟨_,_,_,_,_,_,_,hk,_⟩:=hq;exact hk.elim
    | goto l=>exact hq.elim
    | panic ch=>exact hq.elim
    | outgrown=>exact hq.elim
    | normal=>
    obtain⟨ea,r1, β1, σ1, Φ1,n1,rfl,hbody,s1,hng1⟩:=hq;have hlW:l<W.heap.size:=lt_of_heap j2.rc;have hidl:hidS r'' β' ΦI W l:=⟨hlW,j2.hr,j2.hΦ⟩;obtain⟨hl1,hr1l,hΦ1l⟩:=s1.kept.block l hidl;have hl1':W1.heap[l]?=some (.loop rec):=hl1.trans j2.rc;refine⟨_,run_beginRound hl1' (by rw[hrec]),?_⟩
    have hW2:∀ b,b≠l->(W1.putObj l (.loop { rec with state:=.busy })).heap[b]?=W1.heap[b]?:=fun b hb=>World.putObj_heap_other hb
    obtain⟨W2,hW2e⟩:∃ W2,W2=W1.putObj l (.loop { rec with state:=.busy }):=⟨_,rfl⟩
    rw[<-hW2e] at hW2 ⊢;have hsz2:W2.heap.size=W1.heap.size:=by rw[hW2e];simp
    have hos2:W2.os=W1.os/\W2.tape=W1.tape/\W2.output=W1.output:=by rw[hW2e];exact⟨rfl,rfl,rfl⟩
    have sb:Sat B ⟨r1,hidS r1 β1 Φ1 W1,fun D=>W.heap.size<=D, β1, Φ1,W2⟩ N r1 β1 σ1 Φ1 a1 W2:=by
      rw[hW2e];refine qKG s1 (lt_of_heap hl1') hr1l hΦ1l (fun Ds hd hm=>?_) s1.agree rfl s1.size (fun _ h=>h) ⟨Mem.le_refl r1,rfl,rfl,rfl,yAW _,fun b hb=>⟨rfl,hb.2.1,hb.2.2⟩,fun id ch hi _=>⟨rfl,ch,hi,rfl⟩,fun b hb=>by rw[World.putObj_size];exact hb.1⟩
      obtain⟨Ds',k1,k2,k3⟩:=s1.defers;obtain rfl:Ds=Ds':=qRB (hd.symm.trans k1);obtain⟨g1,g2,_⟩:=k3 l hm;rw[hl1'] at g2;cases g2
    refine wpIn_mono (ihy (fun e'=>e'=⟨r1,hidS r1 β1 Φ1 W1,fun D=>W.heap.size<=D, β1, Φ1,W2⟩) (YOk.none hlen) (FamOk.one (fun D h=>yAX (show W.heap.size<=W2.heap.size by rw[hsz2];exact s1.kept.size) h)) (some l) _ _ r1 β1 σ1 Φ1 n1 a1 W2 rfl hbody sb hng1) fun ex3 a3 W3 hq=>?_
    have back:∀ {r3 β3 σ3 Φ3}(s3:Sat B ⟨r1,hidS r1 β1 Φ1 W1,fun D=>W.heap.size<=D, β1, Φ1,W2⟩ N r3 β3 σ3 Φ3 a3 W3) (o:Obj),_:=fun s3 o=>qOP j2 hel hst hagP s1.kept hW2 hsz2 hos2 s3.kept s3.mem s3.G o
    have recl:∀ {r3 β3 σ3 Φ3}(s3:Sat B ⟨r1,hidS r1 β1 Φ1 W1,fun D=>W.heap.size<=D, β1, Φ1,W2⟩ N r3 β3 σ3 Φ3 a3 W3),W3.heap[l]?=some (.loop { rec with state:=.busy }):=by
      intro r3 β3 σ3 Φ3 s3;obtain⟨g1,_⟩:=s3.kept.block l ⟨lt_of_heap hl1',hr1l,hΦ1l⟩;rw[g1,hW2e];exact qFK (lt_of_heap hl1')
    have bounds:∀ {rn:Mem}{βn:qBD}{Φn:Phi},r''.le rn->(∀ id ch b,Phi.get Φn id=some ch->ch.hb (βn id) b->rn b=none)->
        (∀ b,hidS r'' β' ΦI W b->rn b=none/\∀ id ch,Phi.get Φn id=some ch->¬ch.hb (βn id) b)->∀ b,SJ e r r βn (qDP Φn) l ap b->S b\/W.heap.size<=b:=by
      intro rn βn Φn hlen hsep hh b hb;rcases yAZ b W.heap.size with hlt|hge
      · left
        refine Classical.byContradiction fun hS=>?_
        rcases hb with⟨h1,h2⟩|⟨id,ch,h1,h2⟩|h1|h1|h1
        · exact h1 h2
        · obtain⟨c0,h3,h4⟩:=qI1 h1 h2
          have hn:r'' b=none:=qEB hlen (hsep id c0 b h3 h4);exact(hh b ⟨hlt,hn,fun id ch hi hbk=>hS (hSc id ch b hi hbk)⟩).2 id c0 h3 h4
        · exact hS (by rw[hj.S];exact .inr (.inr (.inl h1)))
        · exact hS (by rw[hj.S];exact .inr (.inr (.inr (.inl h1))))
        · exact hS (by rw[hj.S];exact .inr (.inr (.inr (.inr h1))))
      · exact .inr hge
    have jump:∀ {r3 β3 σ3 Φ3 n3}(s3:Sat B ⟨r1,hidS r1 β1 Φ1 W1,fun D=>W.heap.size<=D, β1, Φ1,W2⟩ N r3 β3 σ3 Φ3 a3 W3) (ex:Ex) (c:Code),((ex=.ret/\c=.ret)\/∃ id,ex=.exit id/\c=.exit id)->(bif qPW Φ3 then K ex σI (qDP Φ3) n3 else False)->
        ∃ v w',(Instr.endRound l (some c)).run B.P W3=.ok v w'/\∃ b S',Ending.returned v=.returned (.bool b)/\Own S W w'/\(∀ z,S' z->S z\/W.heap.size<=z)/\(bif b then J (i+1) S' w' else Jx S' w'):=by
      intro r3 β3 σ3 Φ3 n3 s3 ex c hc hk;cases hok3:qPW Φ3 with
      | false=>rw[hok3] at hk;exact hk.elim
      | true=>
      rw[hok3] at hk;obtain⟨sB,q1,q2,q3,q4,q5,q6,q7⟩:=back s3 (.loop { rec with state:=.done,pending:=some c })
      have hl3:r''.le r3:=Mem.le_trans s1.kept.le s3.kept.le;exact⟨_,_,run_endRound (some c) (recl s3),false,_,rfl,ownS q5 (fun b o h=>sB.mem.vis b o (hl3 b o h)),bounds hl3 (fun id ch b h1 h2=>s3.mem.sep id ch b h1 h2) q6,ex,c, β3, Φ3,n3,hc,hk,
        sB.free q1 her s.G hok3 hrf,Mem.le_refl r,q2.unf,qFK q7,qEB q1 q3,fun id ch h1 h2=>by obtain⟨c0,h3,h4⟩:=qI1 h1 h2;exact q4 id c0 h3 h4,rfl⟩
    cases ex3 with
    | normal=>
      obtain⟨eb,r3, β3, σ3, Φ3,n3,rfl,⟨⟨z',hz',hent⟩⟩,s3,hng3⟩:=hq;rw[qB0, <-hσI] at hent;cases hokn:qPW (qDQ (F' z') Φ) with
      | false=>rw[hokn] at hent;exact hent.elim
      | true=>
      rw[hokn] at hent;obtain⟨sB,q1,q2,q3,q4,q5,q6,q7⟩:=back s3 (.loop rec);obtain⟨rn, βn,sn,hlen,hkn,hHn⟩:=qMK sB hent hng hks;have hrun:(Instr.endRound l none).run B.P W3=.ok (.bool true) (W3.putObj l (.loop rec)):=by
        rw[run_endRound none (recl s3),hrec];rfl
      have hl3:r''.le r3:=Mem.le_trans s1.kept.le s3.kept.le;refine⟨_,_,hrun,true,SJ e r r βn (qDP (qDQ (F' z') Φ)) l ap,rfl,ownS q5 (fun b o h=>sB.mem.vis b o (hl3 b o h)),bounds (Mem.le_trans hl3 hlen) (fun id ch b h1 h2=>sn.mem.sep id ch b h1 h2) (fun b hb=>hHn b (q6 b hb).1 (q6 b hb).2),z', βn,hz',hokn,
        sn.free (Mem.le_trans q1 hlen) her s.G hokn hrf,Mem.le_refl r,?_,qFK q7,qEB q1 q3,fun id ch h1 h2=>by obtain⟨c0,h3,h4⟩:=qI1 h1 h2;exact(hHn l q3 q4).2 id c0 h3 h4,rfl⟩
      refine qKN.unf fun id ch hi hk=>?_
      obtain⟨y1,y2⟩:=hkn id ch hi hk;obtain⟨x1,_⟩:=q2 id ch hi hk;exact⟨y1.trans x1,y2⟩
    | ret=>
      obtain⟨eb,r3, β3, σ3, Φ3,n3,rfl,hk,s3,hng3⟩:=hq;exact jump s3 .ret .ret (.inl ⟨rfl,rfl⟩) hk
    | exit id=>
      obtain⟨eb,r3, β3, σ3, Φ3,n3,rfl,hk,s3,hng3⟩:=hq;exact jump s3 (.exit id) (.exit id) (.inr ⟨id,rfl,rfl⟩) hk
    | goto t=>exact hq.elim
    | panic ch=>exact hq.elim
    | outgrown=>exact hq.elim
  obtain⟨S0,hJ0⟩:=hJ0;have hcs0:qA5 r β0 caps cs:=⟨hcs.1,fun k sv v q1 q2=>(hcs.2 k sv v q1 q2).bind (p:=fun _=>false) (fun _ h=>by cases h) (SV.okIdsL_get hpl k sv q1)⟩
  have mB:MemSat r Go.Vc.β0 [] W0:=⟨m0.vis,fun id ch h=>by simp[Phi.get] at h,fun id ch b h=>by simp[Phi.get] at h,fun id id' ch ch' b h=>by simp[Phi.get] at h⟩
  have hcall:=it.ok hp.h l r J Jx hJ hJx hY Go.Vc.β0 W0 cs S0 s.G mB hcs0 hJ0;refine⟨l,[mkD w.heap.size],W0, { target:=.fn (.func f) cs.toArray,args := #[qR4 l] },W0,f,(qR4 l::cs).toArray,W0,hent,?_,fun _ _=>trivial,?_,fun h=>by simp[fc,Fence.wide] at h,qEN.2 (hcall.mono ?_)⟩
  · simp only[rangeCall,resolve,hgv,Deferred.ofValue]
    have e1:(#[]:Array Value)++Array.map a.eval #[Operand.const (Value.func (Fn.yield l) #[] #[])] = #[qR4 l]:=by simp[qR4,Act.eval]
    rw[e1];rfl
  · have e1:(#[qR4 l]:Array Value)++cs.toArray=(qR4 l::cs).toArray:=by simp
    simp only[invoke];rw[e1];exact it.call _ _
  · rintro en W' ⟨⟨v,rfl⟩,S',hj|hj⟩
    · obtain⟨z, β',hC,hok,hj⟩:=hj
      have hk:=hend z hC;rw[qHW,qB0, <-hσI,hok] at hk;refine⟨none,W'.putObj l (.loop { rec with state:=.exhausted }),?_,?_⟩
      · have:=run_endLoop (P:=B.P) hj.rc (by rw[hrec];simp)
        rw[this,hrec]
      · rw[<-hap]
        exact⟨e,r, β', σI,_,m,hF,hk,hj.turn hel _,hng⟩
    · obtain⟨ex,c, β', Φ',n',hc,hK,hj⟩:=hj
      refine⟨some c,_,run_endLoop hj.rc (by simp),?_⟩
      rw[<-hap];rcases hc with⟨rfl,rfl⟩|⟨id,rfl,rfl⟩
      · exact wpIn_ret ⟨e,r, β', σI,_,n',hF,hK,hj.turn hel _,hng⟩
      · exact wpIn_exit ⟨e,r, β', σI,_,n',hF,hK,hj.turn hel _,hng⟩
end Go.Vc

namespace Go.Vc
set_option autoImplicit false
theorem qXB {B:Base}{F:Entry->Prop}{e:Entry}{N:Nat}{L:List Nat}{pl:List (Nat×List Nat)}(hlen:B.Y.len=0) (hFam:FamOk F) {f:FuncId}{caps:List SV}{ps:List Nat}{x y:Code}{K:KT}{σ:Env}{Φ:Phi}{r:Mem}{β:qBD}{a:Act}{w:World}{g:Operand}{cs:List Value}
    (ihx:IH B N L pl x) (ihy:IH B N L pl y) (hps:∀ p∈ps,p<N) (h:RangeStop B L f caps ps (fun K σ Φ n=>vc B L pl x K σ Φ n) (fun K σ Φ n=>vc B L pl y K σ Φ n) K σ Φ)
    (s:Sat B e N r β σ Φ a w) (hF:F e) (hgv:a.eval g=.func (.func f) #[] cs.toArray) (hcs:qA5 r β caps cs):
    (Code.rangeFunc g ⟨ps⟩ x y).wpIn (fc none) 0 B.P (QK B F N K) a w:=by
  cases h with
  | mkF hp hpl F' m C a0 h0 he hr hend=>
    rename_i pre len at_ it α;simp only[qZL,qQB] at he hr hend;exact qU6 hlen hFam ihx ihy hps it hp hpl F' m C a0 h0 he hr hend s hF hgv hcs
  | mk hp hpl F' m C a0 h0 he hr hend=>
  rename_i pre len at_ it α;rw[qHW,qB0] at he;have hrS:=hr;obtain⟨σI,hσI⟩:∃ σI, σI=purge L (qf0 [] (qbP Φ σ L)):=⟨_,rfl⟩;rw[<-hσI] at he;have hst:Stb Φ σI:=by
    intro k g sv hk;rw[hσI] at hk;obtain⟨hg,hk'⟩:=qHD hk;subst hg;obtain⟨_,h2,_⟩:=qRJ (show Env.get (qbP Φ σ L) k=some (none,sv) from hk')
    exact⟨rfl,h2⟩
  have hsub:∀ k g sv,Env.get σI k=some (g,sv)->Env.get σ k=some (none,sv)/\g=none:=by
    intro k g sv hk;rw[hσI] at hk;obtain⟨hg,hk'⟩:=qHD hk;subst hg;obtain⟨_,_,h3⟩:=qRJ (show Env.get (qbP Φ σ L) k=some (none,sv) from hk')
    exact⟨h3,rfl⟩
  have hng:qFL σI:=fun k g sv hk=>(hsub k g sv hk).2
  have hagI:Agree r β σI a.tmps:=s.agree.of fun k g sv hk=>by
    obtain⟨h1,rfl⟩:=hsub k g sv hk;exact⟨sv,h1,fun v hv=>hv⟩
  refine wpIn_rangeFunc fun fn hfn=>?_
  obtain⟨rec,hrec⟩:∃ rec:Loop,rec={ state:=.ready,pending:=none,fn:=fn,tmps:=a.tmps,params:=⟨ps⟩,assign:=x,body:=y,defers:=w.heap.size }:=⟨_,rfl⟩;obtain⟨W0,hW0⟩:∃ W0:World,W0=(w.alloc (.deferred (some []))).alloc (.loop rec):=⟨_,rfl⟩;obtain⟨l,hl⟩:∃ l:Nat,l=w.heap.size+1:=⟨_,rfl⟩;obtain⟨ap,hap⟩:∃ ap:Act,ap={ a with defers:=[mkD w.heap.size]++a.defers }:=⟨_,rfl⟩
  have hent:(Instr.enterLoop fn a.tmps ⟨ps⟩ x y none).run B.P w=.ok (l,[mkD w.heap.size]) W0:=by
    rw[hl,hW0,hrec];exact run_enterLoop_outer fn a.tmps ⟨ps⟩ x y
  have hheap:W0.heap=(w.heap.push (.deferred (some []))).push (.loop rec):=by rw[hW0];rfl
  have hgrow:Grows w W0:=⟨by rw[hW0];rfl,by rw[hW0];rfl,by rw[hW0];rfl,by rw[hheap];simp;omega,fun b hb=>by
    rw[hheap,yAC,if_neg (by simp;omega),yAC,if_neg (by omega)]⟩
  have hl0:W0.heap[l]?=some (.loop rec):=by
    rw[hheap,hl,yAC,if_pos (by simp)]
  have hD0:W0.heap[w.heap.size]?=some (.deferred (some [])):=by
    rw[hheap,yAC,if_neg (by simp),yAC,if_pos rfl]
  have newn:∀ b,w.heap.size<=b->r b=none/\∀ id ch,Phi.get Φ id=some ch->¬ch.hb (β id) b:=by
    intro b hb;refine⟨?_,fun id ch h1 h2=>by have:=qE8 s.mem h1 h2;omega⟩
    cases hq:r b with
    | none=>rfl
    | some o=>have:=lt_of_heap (s.mem.vis b o hq);omega
  obtain⟨m0,hid0⟩:=qMZ s.mem hgrow;have s0:Sat B e N r β σI Φ ap W0:=by
    refine⟨by rw[hap];exact hagI,m0,s.G,s.kept.step (Mem.le_refl r) hid0,?_,by rw[hap];exact s.size⟩
    obtain⟨Ds,h1,h2,h3⟩:=s.defers;refine⟨w.heap.size::Ds,by rw[hap];show[mkD w.heap.size]++a.defers=_;rw[h1];rfl,yAR.2 ⟨fun hm=>?_,h2⟩,fun D hD=>?_⟩
    · obtain⟨g1,g2,_⟩:=h3 _ hm
      have:=lt_of_heap g2;omega
    · rcases yAP.1 hD with rfl|hD
      · exact⟨hFam.lo e hF _ s.kept.size,hD0,(newn _ (yAW _)).1,(newn _ (yAW _)).2⟩
      · obtain⟨g1,g2,g3,g4⟩:=h3 D hD
        exact⟨g1,(hgrow.old D (lt_of_heap g2)).trans g2,g3,g4⟩
  have hks:∀ id ch,Phi.get e.Φ id=some ch->ch.kind≠0->∃ ch0,Phi.get Φ id=some ch0/\ch0.kind=ch.kind:=fun id ch h hk=>(s.kept.keep id ch h hk).2
  have hel:¬e.S l:=fun hS=>by
    have:=s.kept.slt l hS;have:=s.kept.size;omega
  have hagP:Agree r β σI ap.tmps:=by rw[hap];exact hagI
  let J:Nat->(Nat->Prop)->World->Prop:=fun i S W=>∃ x r' β',C i x/\JS B e N r β Φ σI (qDQ (F' x) Φ) rec l ap S W r' β'
  let Jx:(Nat->Prop)->World->Prop:=fun S W=>∃ (ex:Ex) (c:Code) (r':Mem) (β':qBD) (Φ':Phi) (n':Nat),((ex=.ret/\c=.ret)\/∃ id,ex=.exit id/\c=.exit id)/\K ex σI Φ' n'/\
    JS B e N r β Φ σI Φ' { rec with state:=.done,pending:=some c } l ap S W r' β'
  have hJ:∀ i S W,J i S W->(∀ b,S b->b<W.heap.size/\r b=none)/\∀ W',Oth r S W W'->J i S W':=by
    rintro i S W ⟨x,r', β',hC,hj⟩;exact⟨fun b hb=>hj.lt hb,fun W' ho=>⟨x,r', β',hC,hj.stable ho⟩⟩
  have hJx:∀ S W,Jx S W->(∀ b,S b->b<W.heap.size/\r b=none)/\∀ W',Oth r S W W'->Jx S W':=by
    rintro S W ⟨ex,c,r', β', Φ',n',hc,hK,hj⟩;exact⟨fun b hb=>hj.lt hb,fun W' ho=>⟨ex,c,r', β', Φ',n',hc,hK,hj.stable ho⟩⟩
  have hJ0:∃ S,J 0 S W0:=by
    obtain⟨r1, β1,s1,hle1,hkh1,hH1⟩:=qMK s0 he hng hks;obtain⟨q1,q2⟩:=hH1 l (newn l (by omega)).1 (newn l (by omega)).2
    exact⟨_,a0,r1, β1,h0,s1,hle1,hkh1,hl0,q1,q2,rfl⟩
  have hY : ∀ i S W r'' β'' vs,J i S W->i<len->r.le r''->(∀ b o,r'' b=some o->W.heap[b]?=some o)->(∀ b,S b->r'' b=none)->qA5 r'' β'' (at_ i) vs->qGA B.P l vs W fun en W'=>∃ b S',en=.returned (.bool b)/\Own S W W'/\(∀ z,S' z->S z\/W.heap.size<=z)/\(bif b then J (i+1) S' W' else Jx S' W'):=by
    rintro i S W r'' β'' vs ⟨z,r', β',hC,hj⟩ hi _ _ _ hvs;have hb:=hr i z hC hi;rw[qHW,qB0, <-hσI] at hb;cases hpl1:qJ8 (at_ i) with
    | false=>rw[hpl1] at hb;exact hb.elim
    | true=>
    rw[hpl1] at hb;have hb:qlL ps (at_ i) σI _:=hb;obtain⟨σr,hb,hlenp,hpar⟩:=qOX hb;have hvs':qA5 r' β' (at_ i) vs:=⟨hvs.1,fun k sv v q1 q2=>qKS (hvs.2 k sv v q1 q2) (qN3 hpl1 k sv q1) r' β'⟩
    have hsz:vs.toArray.size=rec.params.size:=by
      rw[hrec];simp;rw[hvs.1,hlenp]
    refine⟨rec.fn,_,rec.assign,rec.body,run_yield hj.rc hsz,?_⟩;have htm:rec.tmps=a.tmps:=by rw[hrec]
    have hpm:rec.params=⟨ps⟩:=by rw[hrec]
    have has:rec.assign=x:=by rw[hrec]
    have hbo:rec.body=y:=by rw[hrec]
    rw[has,hbo];have hfold:(rec.params.zip vs.toArray).foldl (fun tmps (x:Tmp×Value)=>tmps.setIfInBounds x.1 x.2) rec.tmps=(ps.zip vs).foldl (fun tmps x=>tmps.setIfInBounds x.1 x.2) a.tmps:=by
      rw[htm,hpm];rw[<-yAA];simp
    have hagW:Agree r' β' σI a.tmps:=by have:=hj.sat.agree;rw[hap] at this;exact this
    have hsza:a.tmps.size=N:=s.size;obtain⟨hagr,hngr⟩:=hpar hagW hvs' hng (fun p hp=>by rw[hsza];exact hps p hp)
    refine roundIn_of_wpIn (F:=fc none) trivial ?_;show x.wpIn (fc (some l)) 0 B.P _ _ W;have hszr:∀ (zs:List (Nat×Value)) (t:Array Value),(zs.foldl (fun tmps x=>tmps.setIfInBounds x.1 x.2) t).size=t.size:=by
      intro zs
      induction zs with
      | nil=>intro t;rfl
      | cons q zs ih=>intro t;rw[yAJ,ih];simp
    have sa:Sat B (Entry.of r' β' (qDQ (F' z) Φ) W) N r' β' σr (qDQ (F' z) Φ) { tmps:=(rec.params.zip vs.toArray).foldl (fun tmps (x:Tmp×Value)=>tmps.setIfInBounds x.1 x.2) rec.tmps,defers:=[] } W:=by
      refine⟨by rw[hfold];exact hagr,hj.sat.mem,hj.sat.G,Kept.refl ..,⟨[],rfl,yAS,fun D hD=>(yAT hD).elim⟩,by rw[hfold,hszr];exact hsza⟩
    refine wpIn_mono (ihx (fun e'=>e'=Entry.of r' β' (qDQ (F' z) Φ) W) (YOk.none hlen) (FamOk.one (fun _ h=>h)) (some l) _ _ r' β' σr _ m _ W rfl hb sa hngr) fun ex1 a1 W1 hq=>?_
    cases ex1 with
    | exit i=>obtain⟨_,_,_,_,_,_,_,hk,_⟩:=hq;exact hk.elim
    | ret=>obtain⟨_,_,_,_,_,_,_,hk,_⟩:=hq;exact hk.elim
    | goto l=>exact hq.elim
    | panic ch=>exact hq.elim
    | outgrown=>exact hq.elim
    | normal=>
    obtain⟨ea,r1, β1, σ1, Φ1,n1,rfl,hbody,s1,hng1⟩:=hq;have hlW:l<W.heap.size:=lt_of_heap hj.rc;have hidl:hidS r' β' (qDQ (F' z) Φ) W l:=⟨hlW,hj.hr,hj.hΦ⟩;obtain⟨hl1,hr1l,hΦ1l⟩:=s1.kept.block l hidl;have hl1':W1.heap[l]?=some (.loop rec):=hl1.trans hj.rc;refine⟨_,run_beginRound hl1' (by rw[hrec]),?_⟩
    have hW2:∀ b,b≠l->(W1.putObj l (.loop { rec with state:=.busy })).heap[b]?=W1.heap[b]?:=fun b hb=>World.putObj_heap_other hb
    obtain⟨W2,hW2e⟩:∃ W2,W2=W1.putObj l (.loop { rec with state:=.busy }):=⟨_,rfl⟩
    rw[<-hW2e] at hW2 ⊢;have hsz2:W2.heap.size=W1.heap.size:=by rw[hW2e];simp
    have hos2:W2.os=W1.os/\W2.tape=W1.tape/\W2.output=W1.output:=by rw[hW2e];exact⟨rfl,rfl,rfl⟩
    have sb:Sat B ⟨r1,hidS r1 β1 Φ1 W1,fun D=>W.heap.size<=D, β1, Φ1,W2⟩ N r1 β1 σ1 Φ1 a1 W2:=by
      rw[hW2e];refine qKG s1 (lt_of_heap hl1') hr1l hΦ1l (fun Ds hd hm=>?_) s1.agree rfl s1.size (fun _ h=>h) ⟨Mem.le_refl r1,rfl,rfl,rfl,yAW _,fun b hb=>⟨rfl,hb.2.1,hb.2.2⟩,fun id ch hi _=>⟨rfl,ch,hi,rfl⟩,fun b hb=>by rw[World.putObj_size];exact hb.1⟩
      obtain⟨Ds',k1,k2,k3⟩:=s1.defers;obtain rfl:Ds=Ds':=qRB (hd.symm.trans k1);obtain⟨g1,g2,_⟩:=k3 l hm;rw[hl1'] at g2;cases g2
    refine wpIn_mono (ihy (fun e'=>e'=⟨r1,hidS r1 β1 Φ1 W1,fun D=>W.heap.size<=D, β1, Φ1,W2⟩) (YOk.none hlen) (FamOk.one (fun D h=>yAX (show W.heap.size<=W2.heap.size by rw[hsz2];exact s1.kept.size) h)) (some l) _ _ r1 β1 σ1 Φ1 n1 a1 W2 rfl hbody sb hng1) fun ex3 a3 W3 hq=>?_
    have back:∀ {r3 β3 σ3 Φ3}(s3:Sat B ⟨r1,hidS r1 β1 Φ1 W1,fun D=>W.heap.size<=D, β1, Φ1,W2⟩ N r3 β3 σ3 Φ3 a3 W3) (o:Obj),_:=fun s3 o=>qOP hj hel hst hagP s1.kept hW2 hsz2 hos2 s3.kept s3.mem s3.G o
    have recl:∀ {r3 β3 σ3 Φ3}(s3:Sat B ⟨r1,hidS r1 β1 Φ1 W1,fun D=>W.heap.size<=D, β1, Φ1,W2⟩ N r3 β3 σ3 Φ3 a3 W3),W3.heap[l]?=some (.loop { rec with state:=.busy }):=by
      intro r3 β3 σ3 Φ3 s3;obtain⟨g1,_⟩:=s3.kept.block l ⟨lt_of_heap hl1',hr1l,hΦ1l⟩;rw[g1,hW2e];exact qFK (lt_of_heap hl1')
    have bounds:∀ {rn:Mem}{βn:qBD}{Φn:Phi},r.le rn->(∀ id ch b,Phi.get Φn id=some ch->ch.hb (βn id) b->rn b=none)->
        (∀ b,hidS r' β' (qDQ (F' z) Φ) W b->rn b=none/\∀ id ch,Phi.get Φn id=some ch->¬ch.hb (βn id) b)->∀ b,SJ e r rn βn Φn l ap b->S b\/W.heap.size<=b:=by
      intro rn βn Φn hlen hsep hh b hb;rcases yAZ b W.heap.size with hlt|hge
      · left
        rw[hj.S];refine Classical.byContradiction fun hS=>?_
        have hid:r b=none->hidS r' β' (qDQ (F' z) Φ) W b:=by
          intro hq0;refine⟨hlt,?_,fun id ch hi hbk=>hS (.inr (.inl ⟨id,ch,hi,hbk⟩))⟩
          cases hq:r' b with
          | none=>rfl
          | some o=>exact(hS (.inl ⟨by rw[hq];simp,hq0⟩)).elim
        rcases hb with⟨h1,h2⟩|⟨id,ch,h1,h2⟩|h1|h1|h1
        · exact h1 (hh b (hid h2)).1
        · exact(hh b (hid (qEB hlen (hsep id ch b h1 h2)))).2 id ch h1 h2
        · exact hS (.inr (.inr (.inl h1)))
        · exact hS (.inr (.inr (.inr (.inl h1))))
        · exact hS (.inr (.inr (.inr (.inr h1))))
      · exact .inr hge
    have jump:∀ {r3 β3 σ3 Φ3 n3}(s3:Sat B ⟨r1,hidS r1 β1 Φ1 W1,fun D=>W.heap.size<=D, β1, Φ1,W2⟩ N r3 β3 σ3 Φ3 a3 W3) (ex:Ex) (c:Code),((ex=.ret/\c=.ret)\/∃ id,ex=.exit id/\c=.exit id)->K ex σI Φ3 n3->
        ∃ v w',(Instr.endRound l (some c)).run B.P W3=.ok v w'/\∃ b S',Ending.returned v=.returned (.bool b)/\Own S W w'/\(∀ z,S' z->S z\/W.heap.size<=z)/\(bif b then J (i+1) S' w' else Jx S' w'):=by
      intro r3 β3 σ3 Φ3 n3 s3 ex c hc hk;obtain⟨sB,q1,q2,q3,q4,q5,q6,q7⟩:=back s3 (.loop { rec with state:=.done,pending:=some c })
      refine⟨_,_,run_endRound (some c) (recl s3),false,_,rfl,q5,bounds q1 (fun id ch b h1 h2=>s3.mem.sep id ch b h1 h2) q6,ex,c,r3, β3, Φ3,n3,hc,hk,sB,q1,q2,qFK q7,q3,q4,rfl⟩
    cases ex3 with
    | normal=>
      obtain⟨eb,r3, β3, σ3, Φ3,n3,rfl,⟨⟨z',hz',hent⟩⟩,s3,hng3⟩:=hq;rw[qB0, <-hσI] at hent;obtain⟨sB,q1,q2,q3,q4,q5,q6,q7⟩:=back s3 (.loop rec);obtain⟨rn, βn,sn,hlen,hkn,hHn⟩:=qMK sB hent hng hks;have hrun:(Instr.endRound l none).run B.P W3=.ok (.bool true) (W3.putObj l (.loop rec)):=by
        rw[run_endRound none (recl s3),hrec];rfl
      refine⟨_,_,hrun,true,SJ e r rn βn (qDQ (F' z') Φ) l ap,rfl,?_⟩;refine⟨q5,bounds (Mem.le_trans q1 hlen) (fun id ch b h1 h2=>sn.mem.sep id ch b h1 h2) (fun b hb=>hHn b (q6 b hb).1 (q6 b hb).2),z',rn, βn,hz',sn,Mem.le_trans q1 hlen,fun id ch hi hk=>?_,qFK q7,(hHn l q3 q4).1,(hHn l q3 q4).2,rfl⟩
      obtain⟨y1,y2⟩:=hkn id ch hi hk;obtain⟨x1,_⟩:=q2 id ch hi hk;exact⟨y1.trans x1,y2⟩
    | ret=>
      obtain⟨eb,r3, β3, σ3, Φ3,n3,rfl,hk,s3,hng3⟩:=hq;exact jump s3 .ret .ret (.inl ⟨rfl,rfl⟩) hk
    | exit id=>
      obtain⟨eb,r3, β3, σ3, Φ3,n3,rfl,hk,s3,hng3⟩:=hq;exact jump s3 (.exit id) (.exit id) (.inr ⟨id,rfl,rfl⟩) hk
    | goto t=>exact hq.elim
    | panic ch=>exact hq.elim
    | outgrown=>exact hq.elim
  obtain⟨S0,hJ0⟩:=hJ0;have hcs0:qA5 r β0 caps cs:=⟨hcs.1,fun k sv v q1 q2=>(hcs.2 k sv v q1 q2).bind (p:=fun _=>false) (fun _ h=>by cases h) (SV.okIdsL_get hpl k sv q1)⟩
  have mB:MemSat r Go.Vc.β0 [] W0:=⟨m0.vis,fun id ch h=>by simp[Phi.get] at h,fun id ch b h=>by simp[Phi.get] at h,fun id id' ch ch' b h=>by simp[Phi.get] at h⟩
  have hcall:=it.ok hp.h l r J Jx hJ hJx hY Go.Vc.β0 W0 cs S0 s.G mB hcs0 hJ0;refine⟨l,[mkD w.heap.size],W0, { target:=.fn (.func f) cs.toArray,args := #[qR4 l] },W0,f,(qR4 l::cs).toArray,W0,hent,?_,fun _ _=>trivial,?_,fun h=>by simp[fc,Fence.wide] at h,qEN.2 (hcall.mono ?_)⟩
  · simp only[rangeCall,resolve,hgv,Deferred.ofValue]
    have e1:(#[]:Array Value)++Array.map a.eval #[Operand.const (Value.func (Fn.yield l) #[] #[])] = #[qR4 l]:=by simp[qR4,Act.eval]
    rw[e1];rfl
  · have e1:(#[qR4 l]:Array Value)++cs.toArray=(qR4 l::cs).toArray:=by simp
    simp only[invoke];rw[e1];exact it.call _ _
  · rintro en W' ⟨⟨v,rfl⟩,S',hj|hj⟩
    · obtain⟨z,r', β',hC,hj⟩:=hj
      have hk:=hend z hC;rw[qHW,qB0, <-hσI] at hk;refine⟨none,W'.putObj l (.loop { rec with state:=.exhausted }),?_,?_⟩
      · have:=run_endLoop (P:=B.P) hj.rc (by rw[hrec];simp)
        rw[this,hrec]
      · rw[<-hap]
        exact⟨e,r', β', σI,_,m,hF,hk,hj.turn hel _,hng⟩
    · obtain⟨ex,c,r', β', Φ',n',hc,hK,hj⟩:=hj
      refine⟨some c,_,run_endLoop hj.rc (by simp),?_⟩
      rw[<-hap];rcases hc with⟨rfl,rfl⟩|⟨id,rfl,rfl⟩
      · exact wpIn_ret ⟨e,r', β', σI, Φ',n',hF,hK,hj.turn hel _,hng⟩
      · exact wpIn_exit ⟨e,r', β', σI, Φ',n',hF,hK,hj.turn hel _,hng⟩
end Go.Vc

namespace Go.Vc
set_option autoImplicit false
structure PlanT (all:List Oper) (plan:List Nat) (i:Nat) (o:Oper) (d:Nat):Prop where
 hf:(floats o.op||reads o.op)=true
 hg:o.guard=none
 hd:o.dst=some d
 hr:∀ (j:Nat) (oj:Oper),j<=i->all[j]?=some oj->d∉oj.looksAt all.toArray
 hw:∀ (j:Nat) (oj:Oper) (d':Nat),j<i->plan[j]?≠some 0->all[j]?=some oj->oj.dst=some d'->.tmp d'∉o.op.operands.toList
theorem qaT {all:List Oper}{plan:List Nat}(h:qmT all plan=true):plan.length=all.length/\(∀ (i:Nat) (o:Oper),all[i]?=some o->plan[i]?=some 0->∃ d,PlanT all plan i o d)/\
    (∀ (i:Nat),i<all.length->plan[i]?=some 0\/plan[i]?=some 6)/\∀ (i:Nat) (o:Oper),all[i]?=some o->plan[i]?=some 6->o.guard=none:=by
  have key:∀ (ps:List Nat) (ops:List Oper) (k:Nat),qI7 all plan k ps ops=true->ps.length=ops.length/\∀ (i:Nat) (o:Oper) (p:Nat),ops[i]?=some o->ps[i]?=some p->
      (match p with
       | 0=>(floats o.op||reads o.op)&&((match o.guard with|none=>true|some _=>false)&&((match o.dst with|some d=>qBO all.toArray d (all.take (k+i+1))|none=>false)&&qBN (qC0 o.op.operands.toList) (plan.take (k+i)) (all.take (k+i))))
       | 6=>(match o.guard with|none=>true|some _=>false)
       | _=>false)=true:=by
    intro ps
    induction ps with
    | nil=>
      intro ops k h;cases ops with
      | nil=>exact⟨rfl,fun i o p h=>by simp at h⟩
      | cons=>cases h
    | cons p0 ps ih=>
      intro ops k h;cases ops with
      | nil=>cases h
      | cons o0 ops=>
        simp only[qI7,yAD] at h;obtain⟨h1,h2⟩:=h;obtain⟨g1,g2⟩:=ih ops (k+1) h2;refine⟨by simp[g1],fun i o p ho hp=>?_⟩
        cases i with
        | zero=>simp at ho hp;subst ho;subst hp;exact h1
        | succ i=>
          have:=g2 i o p (by simpa using ho) (by simpa using hp)
          rw[show k+(i+1)=k+1+i by omega];exact this
  obtain⟨hl,hk⟩:=key plan all 0 h;refine⟨hl,fun i o ho hp=>?_,fun i hi=>?_,fun i o ho hp=>?_⟩
  · have:=hk i o _ ho hp
    simp only[yA2] at this;rw[yAD,yAD,yAD] at this;obtain⟨h1,h2,h3,h4⟩:=this;cases hd:o.dst with
    | none=>rw[hd] at h3;cases h3
    | some d=>
      rw[hd] at h3;refine⟨d,h1,?_,hd,fun j oj hj hoj=>?_,fun j oj d' hj hpj hoj hdj hm=>?_⟩
      · cases hg:o.guard with
        | none=>rfl
        | some _=>rw[hg] at h2;cases h2
      · exact qB4 h3 oj (yAQ (i:=j) (by rw[yAM,if_pos (by omega)];exact hoj))
      · have hjl:j<plan.length:=by have:=qAV hp;omega
        refine hpj ?_;have:=qCD h4 j plan[j] oj d' (by rw[yAM,if_pos hj];exact yAK hjl) (by rw[yAM,if_pos hj];exact hoj) hdj (qEO.2 hm)
        rw[yAK hjl,this]
  · have hi':i<plan.length:=by omega
    have hp:plan[i]?=some plan[i]:=yAK hi';have:=hk i all[i] _ (yAK hi) hp;split at this
    · rename_i he;rw[hp,he];exact .inl rfl
    · rename_i he;rw[hp,he];exact .inr rfl
    · cases this
  · have:=hk i o _ ho hp
    cases hg:o.guard with
    | none=>rfl
    | some _=>rw[hg] at this;cases this
theorem qcM {plan:List Nat}:∀ {k i:Nat},i∈qTV k plan↔∃ j,i=k+j/\plan[j]?=some 6:=by
 induction plan with
 | nil=>intro k i;simp[qTV]
 | cons p r ih=>
  intro k i;have step:i∈qTV (Nat.succ k) r↔∃ j,i=k+(j+1)/\(p::r)[j+1]?=some 6:=by
   rw[ih];constructor
   ·rintro⟨j,h1,h2⟩;exact⟨j,by omega,by simpa using h2⟩
   ·rintro⟨j,h1,h2⟩;exact⟨j,by omega,by simpa using h2⟩
  unfold qTV;cases hb:Nat.beq p 6 with
  | true=>
   obtain rfl:=qAM hb;simp only[cond_true,yAP,step];constructor
   ·rintro(rfl|⟨j,h1,h2⟩)
    ·exact⟨0,by omega,by simp⟩
    ·exact⟨j+1,h1,h2⟩
   ·rintro⟨j,h1,h2⟩;cases j with
    | zero=>exact .inl (by omega)
    | succ j=>exact .inr ⟨j,h1,h2⟩
  | false=>
   simp only[cond_false,step];constructor
   ·rintro⟨j,h1,h2⟩;exact⟨j+1,h1,h2⟩
   ·rintro⟨j,h1,h2⟩;cases j with
    | zero=>simp at h2;subst h2;simp at hb
    | succ j=>exact⟨j,h1,h2⟩
def Old (w0 w:World):Prop:=w.os=w0.os/\w.tape=w0.tape/\w.output=w0.output/\w0.heap.size<=w.heap.size/\∀ b,b<w0.heap.size->w.heap[b]?=w0.heap[b]?
theorem Old.near {r β Φ w0 w}(m:MemSat r β Φ w0) (h:Old w0 w):Near r β Φ w0 w:=by
 obtain⟨h1,h2,h3,h4,h5⟩:=h;refine⟨⟨fun b o hb=>?_,fun id ch hi=>(m.chs _ _ hi).keep (Mem.le_refl r) (fun b hb=>h5 b (qE8 m hi hb)) (fun _ _ _ _ _ _ _ h=>h),m.sep,m.nod⟩,fun id ch b hi hb=>h5 b (qE8 m hi hb),h1,h2,h3,h4,fun b hb q1 q2=>⟨h5 b hb,q1,q2⟩,fun _ ch h _=>⟨rfl,ch,h,rfl⟩⟩
 have:=m.vis b o hb;rw[h5 b (qD5 this)];exact this
theorem qgB {B:Base}{Φ σ op}{K:SV->Prop}(hfl:(floats op||reads op)=true) (h:evK B Φ σ [] (fun p=>p) false op K):
  ∃ sv,K sv/\∀ p r β a w0,(∀ x∈op.operands.toList,Has p x)->Sm p r β σ (Act.tmps a) [] (fun p=>p)->MemSat r β Φ w0->∀ dst ty pos after guard,∃ v,Rel r β sv v/\∀ w,Old w0 w->(execOp a.eval ⟨dst,op,ty,pos,after,guard⟩).run B.P w=.ok (.value v) w:=by
 cases hf:floats op with
 | true=>
  obtain⟨sv,hk,hr⟩:=qM7 hf h;exact⟨sv,hk,fun p r β a w0 hP sm m dst ty pos after guard=>by
   obtain⟨v,q1,q2⟩:=hr p r β a hP sm dst ty pos after guard;exact⟨v,q1,fun w _=>q2 w⟩⟩
 | false=>
 rw[hf,yAE] at hfl;unfold reads at hfl;split at hfl
 ·-- load
  simp only[evK] at h;obtain⟨sx,h,hx⟩:=qAK h;obtain⟨sv,hk,hr⟩:=qG5 h;refine⟨sv,hk,fun p r β a w0 hP sm m dst ty pos after guard=>?_⟩
  obtain⟨v,hv,hw⟩:=hr sm.valid r β _ (hx p r β a _ (hP _ (by simp[Op.operands])) sm) w0 m
  exact⟨v,hv,fun w ho=>by simp only[execOp,Sem.run_bind,hw w (ho.near m),Result.andThen_ok,Sem.run_pure]⟩
 ·-- indexAddr
  simp only[evK] at h;obtain⟨sx,h,hx⟩:=qAK h;obtain⟨si,h,hi⟩:=qAK h;obtain⟨sv,hk,hr⟩:=qFM h;refine⟨sv,hk,fun p r β a w0 hP sm m dst ty pos after guard=>?_⟩
  obtain⟨v,hv,hw⟩:=hr sm.valid r β _ _ (hx p r β a _ (hP _ (by simp[Op.operands])) sm) (hi p r β a _ (hP _ (by simp[Op.operands])) sm) w0 m
  exact⟨v,hv,fun w ho=>by simp only[execOp,Sem.run_bind,hw w,Result.andThen_ok,Sem.run_pure]⟩
 ·-- builtin
  rename_i b xs0 ts0;obtain⟨xs⟩:=xs0;obtain⟨ts⟩:=ts0;simp only[evK] at h;have hops:∀ x,x∈xs->x∈(Op.operands (.call ⟨.builtin b,⟨xs⟩,⟨ts⟩⟩)).toList:=fun x hx=>by simp[Op.operands,Call.operands,hx]
  obtain⟨l,h,h1,h2⟩:=qC6 h;obtain⟨sv,hk,hr⟩:=qHH h (fun hu=>by cases hu)
  refine⟨sv,hk,fun p r β a w0 hP sm m dst ty pos after guard=>?_⟩
  obtain⟨v,hv,hw⟩:=hr r β _ (qQ1 h1 (h2 p r β a _ (fun x hx=>hP _ (hops x hx)) sm))
  refine⟨v,hv,fun w ho=>?_⟩
  have:=hw w ty (Array.map (fun|.const _=>true|_=>false) (⟨xs⟩:Array Operand)) (ho.near m).mem
  simp only[execOp,resolve,Sem.run_bind,Sem.run_pure,Result.andThen_ok,invoke];rw[show Array.map a.eval ⟨xs⟩=(xs.map a.eval).toArray by simp]
  exact this
 ·cases hfl
def qkO (P:Program) (w0:World) (all:List Oper) (plan:List Nat) (k:Nat) (b:Act):Prop:=
 ∀ (i:Nat) (o:Oper) (d:Nat),i<k->plan[i]?=some 0->all[i]?=some o->o.dst=some d->∃ v,b.tmps[d]?=some v/\∀ w,Old w0 w->(execOp b.eval o).run P w=.ok (.value v) w
theorem qWO {op:Op}(h:(floats op||reads op)=true):∀ cs b,op≠.select cs b:=fun cs b hc=>by subst hc;cases h
theorem qVU {op:Op}(h:(floats op||reads op)=true):∀ c,op≠.defer c:=fun c hc=>by subst hc;cases h
theorem qbG {B:Base}{N:Nat}{all:List Oper}{plan:List Nat}(ok:RegOk N all) (hlen:plan.length=all.length) (hpl:∀ (i:Nat) (o:Oper),all[i]?=some o->plan[i]?=some 0->∃ d,PlanT all plan i o d) {r:Mem}{β:qBD}{Φ:Phi}{K:Env->Prop}{w0:World}(m:MemSat r β Φ w0):
    ∀ (l:List Oper) (k:Nat) (σ:Env) (b:Act),k+l.length=all.length->l=all.drop k->vcT B (plan.drop k) l σ Φ K->Agree r β σ b.tmps->qFL σ->b.tmps.size=N->qkO B.P w0 all plan k b->
      ∃ σT bT,K σT/\Agree r β σT bT.tmps/\qFL σT/\bT.tmps.size=N/\bT.defers=b.defers/\qkO B.P w0 all plan all.length bT/\
        ∀ t,(∀ (j:Nat) (oj:Oper),k<=j->plan[j]?=some 0->all[j]?=some oj->oj.dst≠some t)->bT.tmps[t]?=b.tmps[t]?/\Env.get σT t=Env.get σ t:=by
  intro l
  induction l with
  | nil=>
    intro k σ b hk he h ha hng hsz hT;have:vcT B (plan.drop k) [] σ Φ K=K σ:=by
      cases plan.drop k with
      | nil=>rfl
      | cons x r=>cases x<;>rfl
    rw[this] at h;exact⟨σ,b,h,ha,hng,hsz,rfl,by rw[<-hk];simpa using hT,fun t _=>⟨rfl,rfl⟩⟩
  | cons o l ih=>
    intro k σ b hk he h ha hng hsz hT;have hkl:k<all.length:=by simp at hk;omega
    have ho:all[k]?=some o:=by
      have:(all.drop k)[0]?=some o:=by rw[<-he];rfl
      simpa using this
    have hl:l=all.drop (k+1):=by
      have:=congrArg List.tail he;simpa using this
    have hkp:k<plan.length:=by omega
    have hp:plan[k]?=some plan[k]:=yAK hkp;have hpd:plan.drop k=plan[k]::plan.drop (k+1):=List.drop_eq_getElem_cons hkp;rw[hpd] at h;by_cases h0:plan[k]=0
    · rw [h0] at h hp
      obtain⟨dst,op,ty,pos,after,guard⟩:=o;have h:evK B Φ σ [] (fun p=>p) false op fun sv=>vcT B (plan.drop (k+1)) l (qK7 dst none sv σ) Φ K:=h
      obtain⟨d,hf,hg,hd,hr,hw⟩:=hpl k _ ho hp;have hd:dst=some d:=hd;subst hd;obtain⟨sv,h,hv⟩:=qgB hf h;obtain⟨v,hrel,hrun⟩:=hv _ r β b w0 (fun _ _=>qLT _) (Sm.plain ha) m (some d) ty pos after guard
      have hdN:d<N:=ok.lt _ (yAQ ho) d rfl;have ha':Agree r β ((d,none,sv)::σ) (b.put (some d) v).tmps:=ha.put (hng.gdIn []) (by simp) (by rw[hsz];exact hdN) hrel
      have hT':qkO B.P w0 all plan (k+1) (b.put (some d) v):=by
        intro i oi di hi hpi hoi hdi;obtain⟨_,hfi,_⟩:=hpl i oi hoi hpi;have hns:=qWO hfi;have hex:execOp (b.put (some d) v).eval oi=execOp b.eval oi:=execOp_put (ops:=all.toArray) oi hns b (some d) v (fun d' hd'=>by cases hd';exact hr i oi (by omega) hoi)
        by_cases hik:i=k
        · subst hik
          rw[ho] at hoi;cases hoi;cases hdi;exact⟨v,put_eq (by rw[hsz];exact hdN),fun w hw=>by rw[hex];exact hrun w hw⟩
        · obtain⟨v',q1,q2⟩:=hT i oi di (by omega) hpi hoi hdi
          have hne:di≠d:=by
            rintro rfl;exact hik (ok.uniq hoi ho hdi rfl)
          exact⟨v',by rw[qFG hne];exact q1,fun w hw=>by rw[hex];exact q2 w hw⟩
      obtain⟨σT,bT,g1,g2,g3,g4,g5,g6,g7⟩:=ih (k+1) _ _ (by simp at hk ⊢;omega) hl h ha' (hng.put d sv) (by rw[qBK];exact hsz) hT'
      refine⟨σT,bT,g1,g2,g3,g4,by rw[g5,put_defers],g6,fun t ht=>?_⟩
      obtain⟨q1,q2⟩:=g7 t (fun j oj hj=>ht j oj (by omega))
      have hne:t≠d:=by
        rintro rfl;exact ht k _ (yAW k) hp ho rfl
      refine⟨by rw[q1,qFG hne],?_⟩
      rw[q2];show Env.get ((d,none,sv)::σ) t=_;rw[qAX,qAS (fun hh=>hne hh.symm)];rfl
    · have h:vcT B (plan.drop (k+1)) l σ Φ K:=by
        match hq:plan[k],h0,h with
        | n+1,_,h=>exact h
      obtain⟨σT,bT,g1,g2,g3,g4,g5,g6,g7⟩:=ih (k+1) _ _ (by simp at hk ⊢;omega) hl h ha hng hsz (fun i oi di hi hpi hoi hdi=>by
        by_cases hik:i=k
        · subst hik;rw[hp] at hpi;exact absurd (Option.some.inj hpi) h0
        · exact hT i oi di (by omega) hpi hoi hdi)
      exact⟨σT,bT,g1,g2,g3,g4,g5,g6,fun t ht=>g7 t (fun j oj hj=>ht j oj (by omega))⟩
theorem qUD {r β t}:∀ {σ:Env},Agree r β σ t->Agree r β (qGG σ) t/\True:=by
 intro σ h;refine⟨fun k g sv hg=>?_,trivial⟩
 have key:∀ (σ:Env) k g sv,Env.get (qGG σ) k=some (g,sv)->∃ sv0,Env.get σ k=some (g,sv0)/\sv=(bif sv0.okIds (fun _=>false) then sv0 else .und):=by
  intro σ
  induction σ with
  | nil=>intro k g sv h;cases h
  | cons x r ih=>
   obtain⟨k0,g0,sv0⟩:=x;intro k g sv h;simp only[qGG,qAX] at h ⊢;cases hb:Nat.beq k0 k with
   | true=>rw[hb] at h;simp only[cond_true,Option.some.injEq,Prod.mk.injEq] at h ⊢;exact⟨sv0,⟨h.1,rfl⟩,h.2.symm⟩
   | false=>rw[hb] at h;simp only[cond_false] at h ⊢;exact ih k g sv h
 obtain⟨sv0,h1,rfl⟩:=key σ k g sv hg;have hu:∀ v,Rel r β sv0 v->Rel r β (bif sv0.okIds (fun _=>false) then sv0 else .und) v:=by
  intro v hv;cases sv0.okIds (fun _=>false) with
  | true=>exact hv
  | false=>exact .und
 have:=h k g sv0 h1;cases g with
 | none=>obtain⟨v,q1,q2⟩:=this;exact⟨v,q1,hu v q2⟩
 | some p=>obtain⟨s,w⟩:=p;exact⟨fun hs=>by obtain⟨v,q1,q2⟩:=this.1 hs;exact⟨v,q1,hu v q2⟩,this.2⟩
theorem qXF {σ:Env}(h:qFL σ):qFL (qGG σ):=by
 have key:∀ (σ:Env) k g sv,Env.get (qGG σ) k=some (g,sv)->∃ sv0,Env.get σ k=some (g,sv0):=by
  intro σ
  induction σ with
  | nil=>intro k g sv h;cases h
  | cons x r ih=>
   obtain⟨k0,g0,sv0⟩:=x;intro k g sv h;simp only[qGG,qAX] at h ⊢;cases hb:Nat.beq k0 k with
   | true=>rw[hb] at h;simp only[cond_true,Option.some.injEq,Prod.mk.injEq] at h ⊢;exact⟨sv0,h.1,rfl⟩
   | false=>rw[hb] at h;simp only[cond_false] at h ⊢;exact ih k g sv h
 intro k g sv hg;obtain⟨sv0,h1⟩:=key σ k g sv hg;exact h _ _ _ h1
theorem qe9:∀ (σ:Env) (K:Env->Prop),qT1 σ K=K (qGG σ):=by
 intro σ
 induction σ with
 | nil=>intro K;rfl
 | cons x r ih=>
  obtain⟨k,g,sv⟩:=x;intro K;simp only[qT1,qGG];cases sv.okIds (fun _=>false) with
  | true=>simp only[cond_true,ih]
  | false=>simp only[cond_false,ih]
theorem qUB {σ:Env}:∀ {ds:List Nat}{K:List SV->Prop},qSX σ ds K->∃ l,K l/\l.length=ds.length:=by
 intro ds
 induction ds with
 | nil=>intro K h;exact⟨[],h,rfl⟩
 | cons d ds ih=>
  intro K h;unfold qSX at h;split at h
  ·obtain⟨l,h1,h2⟩:=ih h;exact⟨_,h1,by simp[h2]⟩
  ·obtain⟨l,h1,h2⟩:=ih h;exact⟨_,h1,by simp[h2]⟩
  ·exact h.elim
theorem qW8:∀ (ds:List Nat) (l:List SV) k g sv,Env.get (qEC ds l) k=some (g,sv)->g=none:=by
 intro ds
 induction ds with
 | nil=>intro l k g sv h;cases l<;>cases h
 | cons d ds ih=>
  intro l k g sv h;cases l with
  | nil=>cases h
  | cons x xs=>
   simp only[qEC,qAX] at h;cases hb:Nat.beq d k with
   | true=>rw[hb] at h;simp at h;exact h.1.symm
   | false=>rw[hb] at h;exact ih xs k g sv h
theorem qVF {σ:Env}(hσ:qFL σ):∀ (ds:List Nat) (l:List SV),qFL (qOS σ ds l):=by
 intro ds
 induction ds with
 | nil=>intro l;exact hσ
 | cons d ds ih=>
  intro l;cases l with
  | nil=>exact hσ
  | cons x xs=>exact(ih xs).put d x
theorem qVH {r β}{t:Array Value}:∀ (ds:List Nat) (l:List SV),l.length=ds.length->ds.Nodup->Agree r β (qEC ds l) t->∃ vs:List Value,qA5 r β l vs/\∀ (i d:Nat),ds[i]?=some d->t[d]?=vs[i]?:=by
 intro ds
 induction ds with
 | nil=>intro l hl _ _;cases l with|nil=>exact⟨[],⟨rfl,fun i sv v h=>by simp at h⟩,fun i d h=>by simp at h⟩|cons=>cases hl
 | cons d ds ih=>
  intro l hl hnd h;cases l with
  | nil=>cases hl
  | cons x xs=>
   rw[yAR] at hnd;obtain⟨v,q1,q2⟩:=h d none x (by simp only[qEC,qAX,yAU];rfl)
   have h':Agree r β (qEC ds xs) t:=by
    intro k g sv hg;by_cases hk:d=k
    ·subst hk;exfalso;have key:∀ (ds:List Nat) (l:List SV) k g sv,Env.get (qEC ds l) k=some (g,sv)->k∈ds:=by
      intro ds
      induction ds with
      | nil=>intro l k g sv h;cases l<;>cases h
      | cons d ds ih=>
       intro l k g sv h;cases l with
       | nil=>cases h
       | cons x xs=>
        simp only[qEC,qAX] at h;cases hb:Nat.beq d k with
        | true=>rw[qAM hb];simp
        | false=>rw[hb] at h;exact List.mem_cons_of_mem _ (ih xs k g sv h)
     exact hnd.1 (key _ _ _ _ _ hg)
    ·refine h k g sv ?_;simp only[qEC,qAX,qAS hk];exact hg
   obtain⟨vs,⟨r1,r2⟩,r3⟩:=ih xs (by simpa using hl) hnd.2 h'
   refine⟨v::vs,⟨by simp[r1],fun i sv u a1 a2=>?_⟩,fun i d' hd=>?_⟩
   ·cases i with
    | zero=>simp at a1 a2;subst a1;subst a2;exact q2
    | succ i=>exact r2 i sv u (by simpa using a1) (by simpa using a2)
   ·cases i with
    | zero=>simp at hd;subst hd;simpa using q1
    | succ i=>simpa using r3 i d' (by simpa using hd)
theorem qZY {σ:Env}{k:Nat}{g:Option (Nat×Bool)}{sv:SV}:∀ (ds:List Nat) (l:List SV),l.length=ds.length->Env.get (qOS σ ds l) k=some (g,sv)->
  (∃ i:Nat,l[i]?=some sv/\ds[i]?=some k/\g=none)\/(k∉ds/\Env.get σ k=some (g,sv)):=by
 intro ds
 induction ds with
 | nil=>intro l _ h;exact .inr ⟨by simp,h⟩
 | cons d ds ih=>
  intro l hl h;cases l with
  | nil=>cases hl
  | cons x xs=>
   simp only[qOS,qAX] at h;cases hb:Nat.beq d k with
   | true=>
    obtain rfl:=qAM hb;rw[hb] at h;simp only[cond_true,Option.some.injEq,Prod.mk.injEq] at h;obtain⟨rfl,rfl⟩:=h;exact .inl ⟨0,rfl,rfl,rfl⟩
   | false=>
    rw[hb] at h;have hdk:d≠k:=by rintro rfl;rw[yAU] at hb;cases hb
    rcases ih xs (by simpa using hl) h with⟨i,h1,h2,h3⟩|⟨h1,h2⟩
    ·exact .inl ⟨i+1,by simpa using h1,by simpa using h2,h3⟩
    ·refine .inr ⟨?_,h2⟩;intro hm;cases hm with
     | head=>exact hdk rfl
     | tail _ hm=>exact h1 hm
theorem qc0 {d:Nat}:∀ {plan:List Nat}{all:List Oper},d∈qET plan all->∃ (i:Nat) (o:Oper),plan[i]?=some 6/\all[i]?=some o/\o.dst=some d:=by
 intro plan
 induction plan with
 | nil=>intro all h;cases all<;>cases h
 | cons p ps ih=>
  intro all h;cases all with
  | nil=>unfold qET at h;split at h<;>first|(rename_i he;cases he)|cases h
  | cons o ops=>
   unfold qET at h;split at h
   ·rename_i ps' d' _ _ _ _ _ ops' h1 h2;cases h1;cases h2;cases h with
    | head=>exact⟨0,_,rfl,rfl,rfl⟩
    | tail _ h=>obtain⟨i,o',q1,q2,q3⟩:=ih h;exact⟨i+1,o',by simpa using q1,by simpa using q2,q3⟩
   ·rename_i h1 h2;cases h1;cases h2;obtain⟨i,o',q1,q2,q3⟩:=ih h;exact⟨i+1,o',by simpa using q1,by simpa using q2,q3⟩
   ·cases h
theorem qdY {d:Nat}:∀ {plan:List Nat}{all:List Oper}{i:Nat}{o:Oper},plan[i]?=some 6->all[i]?=some o->o.dst=some d->d∈qET plan all:=by
 intro plan
 induction plan with
 | nil=>intro all i o h;simp at h
 | cons p ps ih=>
  intro all i o hp ho hd;cases all with
  | nil=>simp at ho
  | cons o0 ops=>
   cases i with
   | zero=>
    simp at hp ho;subst hp;subst ho;obtain⟨dst,op,ty,pos,after,guard⟩:=o0;simp only at hd;subst hd;simp[qET]
   | succ i=>
    have:=ih (by simpa using hp) (by simpa using ho) hd
    unfold qET;split
    ·rename_i h1 h2;cases h1;cases h2;exact List.mem_cons_of_mem _ this
    ·rename_i h1 h2;cases h1;cases h2;exact this
    ·rename_i h1 h2;exact absurd rfl (h2 _ _ _ _ rfl)
theorem qWD:∀ {all:List Oper}{plan:List Nat},(∀ (i j:Nat) (oi oj:Oper) d,all[i]?=some oi->all[j]?=some oj->oi.dst=some d->oj.dst=some d->i=j)->(qET plan all).Nodup:=by
 intro all
 induction all with
 | nil=>intro plan _;cases plan with|nil=>exact yAS|cons p ps=>unfold qET;split<;>first|(rename_i he;cases he)|exact yAS
 | cons o ops ih=>
  intro plan hu;have hu':∀ (i j:Nat) (oi oj:Oper) d,ops[i]?=some oi->ops[j]?=some oj->oi.dst=some d->oj.dst=some d->i=j:=fun i j oi oj d a b c e=>by
   have:=hu (i+1) (j+1) oi oj d (by simpa using a) (by simpa using b) c e
   omega
  unfold qET;split
  ·rename_i ps d op ty pos after guard ops' h1;cases h1;rw[yAR];refine⟨fun hm=>?_,ih hu'⟩
   obtain⟨i,o',q1,q2,q3⟩:=qc0 hm;have:=hu 0 (i+1) _ o' d rfl (by simpa using q2) rfl q3
   omega
  ·rename_i h1;cases h1;exact ih hu'
  ·exact yAS
theorem OpTo.wit {P a w o R}(h:OpTo P a w o R):∃ v w',R v w':=by
 cases h with
 | val v w' h hr=>exact⟨v,w',hr⟩
 | skip w' h hr=>exact⟨_,w',hr⟩
 | call f args h hc=>obtain⟨e,w',v,_,hr⟩:=qRV hc;exact⟨v,w',hr⟩
 | round l f tmps assign body h hc=>
  obtain⟨e,w',⟨v,_,hr⟩,_⟩:=hc.2 (Frame.enter P f #[] .normal) [] (by simp[fc,Fence.wide,Fence.room])
  exact⟨v,w',hr⟩
theorem canon {B:Base}{F:Entry->Prop}{N all}(hY:YOk B F N) {K:Env->Phi->Nat->Prop}:∀ (l:List Oper),(∀ o∈l,o.guard=none/\∀ d,o.dst=some d->d<N)->∀ a w,qIF B F N all [] l K a w->∃ σ Φ n,K σ Φ n:=by
 intro l
 induction l with
 | nil=>rintro _ a w ⟨e,r, β, σ, Φ,n,_,h,_,_⟩;exact⟨σ, Φ,n,h⟩
 | cons o l ih=>
  intro hl a w h;obtain⟨hg,hd⟩:=hl o (by simp)
  obtain⟨_,h2,_⟩:=qJX (D:=[]) (D':=[]) hY (fun d h=>⟨by simp,hd d h⟩) (fun d h=>h) (fun j w s h=>by rw[hg] at h;cases h) h
  obtain⟨v,w',h3⟩:=(h2 (by simp[Region.wanted,hg])).wit
  exact ih (fun o ho=>hl o (by simp[ho])) _ _ h3
theorem qV5:∀ {plan:List Nat}{all:List Oper},plan.length=all.length->∀ {o:Oper},o∈qBR plan all->∃ i:Nat,all[i]?=some o/\plan[i]?≠some 0:=by
 intro plan
 induction plan with
 | nil=>intro all _ o h;cases all<;>cases h
 | cons p ps ih=>
  intro all hl o h;cases all with
  | nil=>cases hl
  | cons x ops=>
   have rest:o∈qBR ps ops->∃ i:Nat,(x::ops)[i]?=some o/\(p::ps)[i]?≠some 0:=fun h=>by
    obtain⟨i,q1,q2⟩:=ih (by simpa using hl) h
    exact⟨i+1,by simpa using q1,by simpa using q2⟩
   cases p with
   | zero=>exact rest h
   | succ p=>
    have h:o∈x::qBR ps ops:=h;cases h with
    | head=>exact⟨0,rfl,by simp⟩
    | tail _ h=>exact rest h
def qq6 (e:Entry) (r:Mem) (β:qBD) (w:World):Entry:={ Entry.of r β [] w with lo:=e.lo }
theorem qXU {e r β w r1 β1 Φ1 w1}(m:MemSat r β [] w) (h:Kept (qq6 e r β w) r1 β1 Φ1 w1) (m1:MemSat r1 β1 Φ1 w1):Old w w1:=by
 refine⟨h.os,h.tape,h.output,h.size,fun b hb=>?_⟩
 cases hr:r b with
 | some o=>rw[m.vis b o hr,m1.vis b o (h.le _ _ hr)]
 | none=>exact(h.block b ⟨hb,hr,fun id ch h=>by simp[Phi.get] at h⟩).1
def DX (B:Base) (F:Entry->Prop) (N:Nat) (all:List Oper) (plan:List Nat) (aT:Act) (K:Env->Phi->Nat->Prop) (S:Nat->Prop) (a:Act) (w:World):Prop:=
 ∃ b,TR all plan S aT a b/\∃ (rem:List Nat) (f:Nat) (e:Entry) (r:Mem) (β:qBD) (σ:Env) (Φ:Phi) (n:Nat) (D:List Nat),
  (∀ i,i∈rem↔plan[i]?=some 6/\¬S i)/\(∀ d∈D,∃ (j:Nat) (oj:Oper),S j/\all[j]?=some oj/\oj.dst=some d)/\(∀ (j:Nat) (oj:Oper) d,S j->all[j]?=some oj->oj.dst=some d->d∈D)/\
  F e/\vcE B all [] K f rem σ Φ n/\Sat B e N r β σ Φ b w/\qDX D σ
theorem qUZ {B:Base}{F:Entry->Prop}{e:Entry}(hF:F e) {N:Nat}{all:List Oper}{plan:List Nat}{ro:Option Nat}{K:Env->Phi->Nat->Prop}{Q:Exit->Act->World->Prop}{id:Nat}(ok:RegOk N all) (hlex:Region.lexB .any all.toArray=true) (hpk:qmT all plan=true)
    (hQ:∀ e r β σ Φ n a w,F e->K σ Φ n->Sat B e N r β σ Φ a w->qFL σ->Q .normal a w) {r β σ Φ n a0 w00}(h:qVS B all plan σ Φ n K) (s00:Sat B e N r β σ Φ a0 w00) (hng:qFL σ):
    (Code.region id all.toArray true).wpIn (fc ro) 0 B.P Q a0 w00:=by
  obtain⟨hlen,hpl,h04,h6g⟩:=qaT hpk;have lx:LexOk .any all.toArray:=qMP hlex;have nosel:∀ (i:Nat) (o:Oper),all[i]?=some o->∀ cs b,o.op≠.select cs b:=by
    intro i o ho cs b;simp only[Region.lexB,yAD] at hlex;exact Region.noSelect_spec hlex.1 i o cs b (by simpa using ho)
  obtain⟨w0,hw0⟩:∃ w0:World,w0={ w00 with drawn:=w00.drawn+1 }:=⟨_,rfl⟩
  have hheap:w0.heap=w00.heap:=by rw[hw0]
  have s0:Sat B e N r β σ Φ a0 w0:=by
    refine s00.step s00.agree ⟨fun b o h=>by rw[hheap];exact s00.mem.vis b o h,fun id ch h=>(s00.mem.chs _ _ h).keep (Mem.le_refl r) (fun b _=>by rw[hheap]) (fun _ _ _ _ _ _ _ h=>h),s00.mem.sep,s00.mem.nod⟩ (Mem.le_refl r) ?_
    exact⟨by rw[hw0],by rw[hw0],by rw[hw0],by rw[hheap];exact yAW _,fun b _ h1 h2=>⟨by rw[hheap],h1,h2⟩,fun _ ch h _=>⟨rfl,ch,h,rfl⟩⟩
  unfold qVS at h;cases hyl:Nat.beq B.Y.len 0 with
  | false=>rw[hyl] at h;exact h.elim
  | true=>
  rw[hyl] at h;have hY:YOk B (fun e'=>e'=qq6 e r β w0) N:=YOk.none (qAM hyl)
  obtain⟨σT,aT,h,hagT,hngT,hszT,hdfT,hTI,hbaseT⟩:=qbG (r:=r) (β:=β) ok hlen hpl s0.mem all 0 σ a0 (by simp) (by simp) (by simpa using h) s0.agree hng s0.size (fun i o d hi=>by omega)
  have getA:∀ {i:Nat}{o:Oper},all.toArray[i]?=some o->all[i]?=some o:=fun h=>by simpa using h
  have m0:MemSat r β [] w0:=qUQ s0.mem β;obtain⟨e4,he4⟩:∃ e4,e4=qq6 e r β w0:=⟨_,rfl⟩;have s4:Sat B e4 N r β (qGG σT) [] aT w0:=by
    refine⟨(qUD hagT).1,m0,s0.G,?_,?_,hszT⟩
    · rw[he4]
      obtain⟨k1,k2,k3,k4,k5,k6,k7,k8⟩:=Kept.refl r β [] w0;exact⟨k1,k2,k3,k4,k5,k6,k7,k8⟩
    · rw[hdfT,he4]
      obtain⟨Ds,d1,d2,d3⟩:=s0.defers;exact⟨Ds,d1,d2,fun D hD=>⟨(d3 D hD).1,(d3 D hD).2.1,(d3 D hD).2.2.1,fun id ch h=>by simp[Phi.get] at h⟩⟩
  have hng4:qFL (qGG σT):=qXF hngT;rw[qe9] at h;rw[<-he4] at hY;obtain⟨σc, Φc,nc,hc⟩:=canon (all:=all) hY (qBR plan all) (fun o ho=>by
    obtain⟨i,q1,q2⟩:=qV5 hlen ho;rcases h04 i (qAV q1) with h0|h6
    · exact absurd h0 q2
    · exact⟨h6g i o q1 h6,fun d hd=>ok.lt o (yAQ q1) d hd⟩) aT w0 ⟨e4,r, β,_,_,_,rfl,h,s4,hng4.gdIn _⟩
  obtain⟨l,⟨hEn,hAf⟩,hll⟩:=qUB hc;obtain⟨resA, ΦA,nA,hK,hAf⟩:=qLO hAf;refine qDB (I:=DX B (fun e'=>e'=e4) N all plan aT (fun σ' Φ' _=>qIU σ' Φ' (qEC (qET plan all) l) Φc [])) (ops:=all.toArray) lx B.mixed ?_ ?_ ?_
  · -- one operation
    intro S i o a w hSlt hcl ho hnS hdep hI;have ho:all[i]?=some o:=getA ho;have hil:=qAV ho;obtain⟨b,tr,hph⟩:=hI;have ahead:∀ (j:Nat) (oj:Oper) (t:Nat),all[j]?=some oj->oj.dst=some t->t∈o.looksAt all.toArray->(j<i->S j)/\(i<j->¬S j):=by
      intro j oj t hoj hdj hm;refine⟨fun hji=>?_,fun hij hSj=>?_⟩
      · rcases lx.apart j i oj o (by simpa using hoj) (by simpa using ho) hji with⟨ed,he,hb,heq⟩|hap
        · have:=hdep ed he hb;rw[heq] at this;exact this
        · exact absurd hm ((Oper.apart_spec hap).1 t hdj)
      · rcases lx.apart i j o oj (by simpa using ho) (by simpa using hoj) hij with⟨ed,he,hb,heq⟩|hap
        · have:=hcl j oj hSj (by simpa using hoj) ed he hb
          rw[heq] at this;exact hnS this
        · exact(Oper.apart_spec hap).2.2 t hdj hm
    have heq:∀ t∈o.looksAt all.toArray,a.tmps[t]?=b.tmps[t]?:=by
      intro t ht;by_cases hex:∃ (j:Nat) (oj:Oper),plan[j]?=some 0/\all[j]?=some oj/\oj.dst=some t
      · obtain⟨j,oj,hpj,hoj,hdj⟩:=hex
        obtain⟨h1,h2⟩:=ahead j oj t hoj hdj ht;refine tr.slotT j oj t hpj hoj hdj ?_;rcases yA1 j i with hji|hji|hji
        · exact h1 hji
        · subst hji
          rw[ho] at hoj;cases hoj;obtain⟨d,_,_,hd,hr,_⟩:=hpl j o ho hpj;rw[hd] at hdj;cases hdj;exact absurd ht (hr j o (yAW j) ho)
        · obtain⟨d,_,_,hd,hr,_⟩:=hpl j oj hoj hpj
          rw[hd] at hdj;cases hdj;exact absurd ht (hr i o (by omega) ho)
      · exact tr.slotN t fun j oj h1 h2 h3=>hex ⟨j,oj,h1,h2,h3⟩
    have hexec:execOp a.eval o=execOp b.eval o:=qDL (nosel i o ho) heq;have hwant:Region.wanted o (yielded all.toArray a.tmps)=Region.wanted o (yielded all.toArray b.tmps):=qF9 heq;have hszb:b.tmps.size=N->a.tmps.size=N:=fun h=>by rw[tr.size];exact h
    have hNlt:∀ d,o.dst=some d->d<N:=fun d hd=>ok.lt o (yAQ ho) d hd
    have tr_put:∀ (v:Value),plan[i]?≠some 0->TR all plan (fun j=>S j\/j=i) aT (a.put o.dst v) (b.put o.dst v):=by
      intro v hnT;have other:∀ {x:Act}{t:Nat},o.dst≠some t->(x.put o.dst v).tmps[t]?=x.tmps[t]?:=by
        intro x t hne;cases hd:o.dst with
        | none=>rfl
        | some d=>exact qFG (fun h=>hne (by rw[hd,h]))
      refine⟨by rw[put_defers,put_defers];exact tr.defers,by rw[qBK,qBK];exact tr.size,by rw[qBK];exact tr.szT,by rw[put_defers];exact tr.dfT,fun j oj d hpj hoj hdj hSj=>?_,fun t ht=>?_,fun t ht=>?_⟩
      · have hji:j≠i:=by rintro rfl;exact hnT hpj
        have hne:o.dst≠some d:=fun h=>hji (ok.uniq hoj ho hdj h)
        rw[other hne,other hne];exact tr.slotT j oj d hpj hoj hdj (hSj.resolve_right hji)
      · by_cases hd:o.dst=some t
        · have hl:∀ {x:Act},x.tmps.size=a.tmps.size->(x.put o.dst v).tmps[t]?=if t<a.tmps.size then some v else none:=by
            intro x hx;rw[hd,qHV];rw[Array.getElem?_setIfInBounds];simp[hx]
          rw[hl rfl,hl tr.size.symm]
        · rw[other hd,other hd];exact tr.slotN t ht
      · have hne:o.dst≠some t:=ht i o (.inr rfl) hnT ho
        rw[other hne];exact tr.base t fun j oj hj=>ht j oj (.inl hj)
    have hsz0:b.tmps.size=N:=by rw[tr.szT,hszT]
    have qIP:∀ {x:Act}{d:Nat}{v:Value},x.tmps.size=N->o.dst=some d->(x.put o.dst v).tmps[d]?=some v:=by
      intro x d v hx hd;rw[hd];exact put_eq (by rw[hx];exact hNlt d hd)
    have other:∀ {x:Act}{t:Nat}{v:Value},o.dst≠some t->(x.put o.dst v).tmps[t]?=x.tmps[t]?:=by
      intro x t v hne;cases hd:o.dst with
      | none=>rfl
      | some d=>exact qFG (fun h=>hne (by rw[hd,h]))
    unfold wpOpIn;simp only[List.getElem?_toArray,ho];obtain⟨rem,f,e1,r1, β1, σ1, Φ1,n1,D,hrem,hDs,hDa,hF1,hv1,s1,hgd1⟩:=hph;rcases h04 i hil with hq|hq
    · -- it looks at what was there
      obtain⟨d,hfl,hg,hd,hr,hw⟩:=hpl i o ho hq
      · have hOld:Old w0 w:=qXU m0 (e:=e) (by have:=s1.kept;rw[hF1,he4] at this;exact this) s1.mem
        have hw1:Region.wanted o (yielded all.toArray a.tmps)=true:=by simp[Region.wanted,hg]
        rw[if_pos hw1];have hbT:∀ t∈o.looksAt all.toArray,b.tmps[t]?=aT.tmps[t]?:=by
          intro t ht;refine tr.base t fun j oj hSj hnT hoj hdj=>?_
          obtain⟨_,h2⟩:=ahead j oj t hoj hdj ht;rcases yA1 j i with hji|hji|hji
          · have hop:Operand.tmp t∈o.op.operands.toList:=by
              unfold Oper.looksAt at ht;rw[hg,List.append_nil,List.mem_filterMap] at ht;obtain⟨y,hy,hyt⟩:=ht;cases y<;>simp at hyt;subst hyt;exact hy
            exact hw j oj t hji hnT hoj hdj hop
          · subst hji;exact hnS hSj
          · exact h2 hji hSj
        have hexT:execOp b.eval o=execOp aT.eval o:=qDL (nosel i o ho) hbT;obtain⟨v,hv,hrun⟩:=hTI i o d hil hq ho hd;refine(OpTo.val v w (R:=fun v' w'=>v'=v/\w'=w) (by rw[hexec,hexT];exact hrun w hOld) ⟨rfl,rfl⟩).wpIn (qVU hfl) ?_
        rintro v' w' ⟨rfl,rfl⟩;have hnTd:∀ (j:Nat) (oj:Oper),plan[j]?≠some 0->all[j]?=some oj->oj.dst≠some d:=fun j oj h1 h2 h3=>by
          have:=ok.uniq h2 ho h3 hd;subst this;exact h1 hq
        refine⟨b,⟨by rw[put_defers];exact tr.defers,by rw[qBK];exact tr.size,tr.szT,tr.dfT,fun j oj d' hpj hoj hdj hSj=>?_,fun t ht=>?_,fun t ht=>?_⟩,rem,f,e1,r1, β1, σ1, Φ1,n1,d::D,fun j=>?_,fun d' hd'=>?_,fun j oj d' hSj hoj hdj=>?_,hF1,hv1,s1,hgd1.mono (fun x hx=>List.mem_cons_of_mem _ hx)⟩
        · by_cases hji:j=i
          · subst hji
            rw[ho] at hoj;cases hoj;rw[qIP (hszb hsz0) hdj];rw[hd] at hdj;cases hdj;rw[tr.base d (fun j oj _ h1 h2=>hnTd j oj h1 h2)]
            exact hv.symm
          · have hne:o.dst≠some d':=fun h=>hji (ok.uniq hoj ho hdj h)
            rw[other hne];exact tr.slotT j oj d' hpj hoj hdj (hSj.resolve_right hji)
        · rw[other (ht i o hq ho)];exact tr.slotN t ht
        · exact tr.base t fun j oj hj=>ht j oj (.inl hj)
        · rw[hrem j]
          constructor
          · rintro⟨g1,g2⟩
            refine⟨g1,fun h=>?_⟩
            rcases h with h|rfl
            · exact g2 h
            · rw[hq] at g1;cases g1
          · rintro⟨g1,g2⟩;exact⟨g1,fun h=>g2 (.inl h)⟩
        · cases hd' with
          | head=>exact⟨i,o,.inr rfl,ho,hd⟩
          | tail _ hd'=>obtain⟨j,oj,g1,g2⟩:=hDs d' hd';exact⟨j,oj,.inl g1,g2⟩
        · rcases hSj with h|rfl
          · exact List.mem_cons_of_mem _ (hDa j oj d' h hoj hdj)
          · rw[ho] at hoj;cases hoj
            rw[hd] at hdj;cases hdj;simp
    · -- one of those whose order is drawn
      have hnT:plan[i]?≠some 0:=by rw[hq];simp
      have him:i∈rem:=(hrem i).2 ⟨hq,hnS⟩;have hrdy:qNC all [] rem i=true:=by
        refine qJY fun j hj hji hm=>?_
        have:=qHK (all:=all) (Q:=fun x=>S x\/x=i) (fun x ox hx hox ed hed hb=>by
          rcases hx with hx|rfl
          · exact .inl (hcl x ox hx (by simpa using hox) ed hed hb)
          · rw[ho] at hox;cases hox
            exact .inl (hdep ed hed hb)) _ [i] [] (fun x hx=>by simp at hx;exact .inr hx) (fun x hx=>by cases hx) j hm
        rcases this with h|h
        · exact((hrem j).1 hj).2 h
        · exact hji h
      obtain⟨f',hv⟩:∃ f',qF1 B all [o] σ1 Φ1 n1 fun σ Φ n=>vcE B all [] (fun σ' Φ' _=>qIU σ' Φ' (qEC (qET plan all) l) Φc []) f' (qRH i rem) σ Φ n:=by
        cases f with
        | zero=>exact hv1.elim
        | succ f=>
          cases rem with
          | nil=>cases him
          | cons x rr=>
            have:=qQO hv1 i him hrdy;rw[qE5,ho] at this;exact⟨f,this⟩
      obtain⟨hnd,hop1,hop2⟩:=qJX (all:=all) (N:=N) (o:=o) (rest:=[]) (D:=D) (D':=(match o.dst with|some d=>[d]|none=>[])++D) (K:=fun σ Φ n=>vcE B all [] (fun σ' Φ' _=>qIU σ' Φ' (qEC (qET plan all) l) Φc []) f' (qRH i rem) σ Φ n) hY (fun d hd=>⟨fun hm=>by
          obtain⟨j,oj,g1,g2,g3⟩:=hDs d hm;have:=ok.uniq g2 ho g3 hd;subst this;exact hnS g1,hNlt d hd⟩) (fun d hd=>yAO _ hd) (fun j wv s h1 h2=>by
          obtain⟨o',k1,k2⟩:=qCK h2;have hlt:=ok.before i o ho _ _ h1;have hSj:S j:=(ahead j o' s k1 k2 (qDW h1 h2)).1 hlt;exact hDa j o' s hSj k1 k2) ⟨e1,r1, β1, σ1, Φ1,n1,hF1,hv,s1,hgd1⟩
      have next:∀ {v w'},qIF B (fun e'=>e'=e4) N all ((match o.dst with|some d=>[d]|none=>[])++D) [] (fun σ Φ n=>vcE B all [] (fun σ' Φ' _=>qIU σ' Φ' (qEC (qET plan all) l) Φc []) f' (qRH i rem) σ Φ n) (b.put o.dst v) w'->DX B (fun e'=>e'=e4) N all plan aT (fun σ' Φ' _=>qIU σ' Φ' (qEC (qET plan all) l) Φc []) (fun j=>S j\/j=i) (a.put o.dst v) w':=by
        rintro v w' ⟨e2,r2, β2, σ2, Φ2,n2,q1,q2,q3,q4⟩;refine⟨_,tr_put v hnT,qRH i rem,f',e2,r2, β2, σ2, Φ2,n2,_,fun j=>?_,fun d hd=>?_,fun j oj d hSj hoj hdj=>?_,q1,q2,q3,q4⟩
        · rw[qRZ,hrem j]
          constructor
          · rintro⟨⟨g1,g2⟩,g3⟩;exact⟨g1,fun h=>h.elim g2 g3⟩
          · rintro⟨g1,g2⟩;exact⟨⟨g1,fun h=>g2 (.inl h)⟩,fun h=>g2 (.inr h)⟩
        · rcases List.mem_append.1 hd with hd|hd
          · cases hod:o.dst with
            | none=>rw[hod] at hd;cases hd
            | some d'=>
              rw[hod] at hd;simp at hd;subst hd;exact⟨i,o,.inr rfl,ho,hod⟩
          · obtain⟨j,oj,g1,g2⟩:=hDs d hd;exact⟨j,oj,.inl g1,g2⟩
        · rcases hSj with h|rfl
          · exact yAO _ (hDa j oj d h hoj hdj)
          · rw[ho] at hoj;cases hoj
            rw[hdj];simp
      cases hw:Region.wanted o (yielded all.toArray b.tmps) with
      | true=>
        rw[hwant,hw,if_pos rfl];exact(OpTo.same hexec (hop1 hw)).wpIn hnd fun v w' h=>next h
      | false=>
        rw[hwant,hw,if_neg (by simp)]
        exact⟨fun _ _=>trivial,next (hop2 hw)⟩
  · -- the end
    intro S a w hall hI;obtain⟨b,tr,rem,f,e1,r1, β1, σ1, Φ1,n1,D,hrem,hDs,hDa,hF1,hv1,s1,hgd1⟩:=hI;have hall':∀ (i:Nat),i<all.length->S i:=fun i hi=>hall i (by simpa using hi)
    have hab:a=b:=by
      have ht:a.tmps=b.tmps:=by
        apply Array.ext_getElem?;intro t;by_cases hex:∃ (j:Nat) (oj:Oper),plan[j]?=some 0/\all[j]?=some oj/\oj.dst=some t
        · obtain⟨j,oj,h1,h2,h3⟩:=hex
          exact tr.slotT j oj t h1 h2 h3 (hall' j (qAV h2))
        · exact tr.slotN t fun j oj h1 h2 h3=>hex ⟨j,oj,h1,h2,h3⟩
      cases a;cases b;have hd:=tr.defers;simp only at ht hd;subst ht;subst hd;rfl
    subst hab;have hr0:rem=[]:=by
      cases hr:rem with
      | nil=>rfl
      | cons x rr=>
        obtain⟨g1,g2⟩:=(hrem x).1 (by rw[hr];simp)
        exact absurd (hall' x (by have:=qAV g1;omega)) g2
    subst hr0;cases f with
    | zero=>exact hv1.elim
    | succ f =>
      have hv1:qIU σ1 Φ1 (qEC (qET plan all) l) Φc []:=hv1;have hF1:e1=e4:=hF1;subst hF1;obtain⟨r2, β2,s2⟩:=qK2 s1 hv1 (fun k g sv h=>qW8 _ _ _ _ _ h) (fun id ch h=>by rw[he4] at h;simp[qq6,Entry.of,Phi.get] at h)
      have hkept:Kept (qq6 e r β w0) r2 β2 Φc w:=by have:=s2.kept;rw[he4] at this;exact this
      have hOld:Old w0 w:=qXU m0 hkept s2.mem;have hle:r.le r2:=hkept.le;have hnd:(qET plan all).Nodup:=qWD fun i j oi oj d q1 q2 q3 q4=>ok.uniq q1 q2 q3 q4
      obtain⟨vs,hvs,hslot⟩:=qVH _ _ hll hnd s2.agree;have near:=hOld.near s0.mem;have mOld:MemSat r2 β Φ w:=⟨s2.mem.vis,fun id ch h=>(near.mem.chs _ _ h).keep hle (fun _ _=>rfl) (fun _ _ _ _ _ _ _ h=>h),fun id ch b q1 q2=>by
        have hb:=qE8 s0.mem q1 q2;exact(hkept.block b ⟨hb,s0.mem.sep _ _ _ q1 q2,fun id ch h=>by simp[Phi.get] at h⟩).2.1,s0.mem.nod⟩
      obtain⟨β3,g1,g2,g3,g4,g5⟩:=hAf r2 β β2 w (.tuple vs.toArray) mOld s2.mem (fun id ch j ch' b q1 q2 q3 q4=>by
        have hb:=qE8 s0.mem q1 q2;exact(hkept.block b ⟨hb,s0.mem.sep _ _ _ q1 q2,fun id ch h=>by simp[Phi.get] at h⟩).2.2 j ch' q3 q4) (.tup hvs.1 hvs.2)
      cases resA with
      | tup lA=>
        have hK:K (qOS σT (qET plan all) lA) ΦA nA:=hK;obtain⟨ws,hws,hrA⟩:∃ ws:List Value,ws.toArray=vs.toArray/\qA5 r2 β3 lA ws:=by
          generalize hz:Value.tuple vs.toArray=z at g1;cases g1 with
          | tup hl h=>cases hz;exact⟨_,rfl,hl,h⟩
        obtain rfl:ws=vs:=by simpa using congrArg Array.toList hws
        have hlA:lA.length=(qET plan all).length:=by rw[<-hrA.1,hvs.1,hll]
        refine hQ e r2 β3 _ ΦA nA a w hF hK ?_ (qVF hngT _ _);have hidF:Hid r β Φ w0 r2 β3 ΦA w:=by
          refine⟨hOld.1,hOld.2.1,hOld.2.2.1,hOld.2.2.2.1,fun b hb q1 q2=>?_,g3⟩
          obtain⟨k1,k2,k3⟩:=hkept.block b ⟨hb,q1,fun id ch h=>by simp[Phi.get] at h⟩
          refine⟨k1,k2,fun id ch q3 q4=>?_⟩
          rcases g5 id ch b q3 q4 with⟨id',c,c1,c2⟩|⟨j,c,c1,c2⟩
          · exact q2 id' c c1 c2
          · exact k3 j c c1 c2
        refine⟨fun k g sv hg=>?_,g2,s2.G,s0.kept.step hle hidF,?_,s2.size⟩
        · rcases qZY _ _ hlA hg with⟨i,q1,q2,rfl⟩|⟨q1,q2⟩
          · have hi:=qAV q1
            have hi':i<ws.length:=by rw[hrA.1];exact hi
            exact⟨ws[i],by rw[hslot i k q2,yAK hi'],hrA.2 i sv _ q1 (yAK hi')⟩
          · obtain rfl:=hngT k g sv q2
            have ht:a.tmps[k]?=aT.tmps[k]?:=tr.base k fun j oj _ hn hoj hd=>by
              rcases h04 j (qAV hoj) with h0|h6
              · exact hn h0
              · exact q1 (qdY h6 hoj hd)
            obtain⟨v,p1,p2⟩:=hagT k none sv q2;exact⟨v,ht.trans p1,g4 k none sv q2 v (p2.mono hle)⟩
        · have hd:a.defers=a0.defers:=by rw[tr.dfT,hdfT]
          rw[hd];exact s0.defers.step hidF
      | _=>exact hK.elim
  · -- the beginning
    intro S hS;have hw:({ w00 with drawn:=w00.drawn+1 }:World)=w0:=hw0.symm
    rw[hw];refine⟨aT,⟨hdfT.symm,by rw[hszT,s0.size],rfl,rfl,fun i o d _ _ _ h=>absurd h (hS i),fun t ht=>?_,fun t _=>rfl⟩,qTV 0 plan,_,e4,r, β,qGG σT,[],0,[],fun i=>?_,fun d hd=>(by cases hd),fun j oj d h=>absurd h (hS j),rfl,hEn,s4,hng4.gdIn _⟩
    · exact((hbaseT t fun j oj _ h1 h2=>ht j oj h1 h2).1).symm
    · rw[qcM]
      constructor
      · rintro⟨j,rfl,h2⟩;exact⟨by simpa using h2,hS _⟩
      · rintro⟨h1,_⟩;exact⟨i,by omega,h1⟩
end Go.Vc

namespace Go.Vc
set_option autoImplicit false
theorem qBE {P:Program}{b:Frame}{a:Act}{k:List Item}{cs:List Frame}{w:World}{c:Code}:step P (lone (b.atR a (.code (.scope c)::k)) cs w)=.next (lone (b.atR a (.code c::.inScope c::k)) cs w):=
 step_lone_go (by simp[stepG,stepG.exec,Frame.atR])
theorem qF2 {P:Program}{b:Frame}{a:Act}{k:List Item}{cs:List Frame}{w:World}{c:Code}:step P (lone (b.atR a (.inScope c::k)) cs w)=.next (lone (b.atR a k) cs w):=
 step_lone_go (by simp[stepG,stepG.exec,Frame.atR])
def Exit.noGoto' (Q:Exit->Act->World->Prop):Exit->Act->World->Prop
 | .goto _,_,_=>False
 | e,a,w=>Q e a w
theorem qIK {F:Fence}{n:Nat}{P:Program}{Q:Exit->Act->World->Prop}{a:Act}{w:World}{c:Code}(h:c.wpIn F n P (Exit.noGoto' Q) a w):(Code.scope c).wpIn F n P Q a w:=by
 intro b k cs hro hb hr;have h0:(lone (b.atR a (.code (.scope c)::k)) cs w).fenced P F:=fenced_calm hb hr rfl;obtain⟨e,a₁,w₁,hq,harr⟩:=h b (.inScope c::k) cs hro hb hr;cases e with
 | normal=>exact⟨.normal,a₁,w₁,hq,.head h0 qBE (StepsIn.trans harr (.one (fenced_calm hb hr rfl) qF2))⟩
 | exit id=>
  have hx:exitTo id (.inScope c::k)=exitTo id k:=by simp[exitTo]
  exact⟨.exit id,a₁,w₁,hq,fun k' hk=>.head h0 qBE (harr.1 k' (by rw[hx];exact hk)),
   fun hr' hk=>let ⟨k₁,h1,h2⟩:=harr.2 hr' (by rw[hx];exact hk);⟨k₁,h1,.head h0 qBE h2⟩⟩
 | goto l=>exact hq.elim
 | ret=>exact⟨_,a₁,w₁,hq,.of_steps (.one h0 qBE) harr⟩
 | panic ch=>exact⟨_,a₁,w₁,hq,.of_steps (.one h0 qBE) harr⟩
 | outgrown=>exact⟨_,a₁,w₁,hq,.of_steps (.one h0 qBE) harr⟩
theorem wpIn_loop_ghost {F:Fence}{n:Nat}{P:Program}{Q:Exit->Act->World->Prop}{a:Act}{w:World}{c:Code}(I:Nat->Act->World->Prop) (n₀:Nat) (h₀:I n₀ a w)
  (round:∀ j a w,I j a w->c.wpIn F n P (Exit.then (fun a' w'=>∃ j',j'<j/\I j' a' w') Q) a w):(Code.loop c).wpIn F n P Q a w:=by
 intro b k cs hro hb hr;have key:∀ j a w,I j a w->∃ e a' w',Q e a' w'/\ArrivesIn (Machine.fenced P F) P (lone (b.atR a (.code c::.inLoop c::k)) cs w) b k cs e a' w':=by
  intro j
  induction j using Nat.strongRecOn with
  | _ j ih=>
   intro a w hI;obtain⟨e,a₁,w₁,hq,harr⟩:=round j a w hI b (.inLoop c::k) cs hro hb hr;cases e with
   | normal=>
    obtain⟨j',hlt,hI₁⟩:=hq;obtain⟨e₂,a₂,w₂,hq₂,harr₂⟩:=ih j' hlt a₁ w₁ hI₁;exact⟨e₂,a₂,w₂,hq₂,.of_steps (StepsIn.trans harr (.one (fenced_calm hb hr rfl) stepR_inLoop)) harr₂⟩
   | exit id=>exact⟨_,a₁,w₁,hq,.pass (x:=.inLoop c) rfl (fun _ _=>.inl (by simp)) harr⟩
   | goto l=>exact⟨_,a₁,w₁,hq,.pass (x:=.inLoop c) rfl (fun _ _=>.inl (by simp)) harr⟩
   | ret=>exact⟨_,a₁,w₁,hq,.pass (x:=.inLoop c) rfl (fun _ _=>.inl (by simp)) harr⟩
   | panic ch=>exact⟨_,a₁,w₁,hq,.pass (x:=.inLoop c) rfl (fun _ _=>.inl (by simp)) harr⟩
   | outgrown=>exact⟨_,a₁,w₁,hq,.pass (x:=.inLoop c) rfl (fun _ _=>.inl (by simp)) harr⟩
 obtain⟨e,a',w',hq,harr⟩:=key _ a w h₀;exact⟨e,a',w',hq,.of_steps (.one (fenced_calm hb hr rfl) stepR_loop) harr⟩
theorem qZ2 {N:Nat}:∀ {l:List Nat},qg7 N l=true->∀ p∈l,p<N:=by
 intro l
 induction l with
 | nil=>intro _ p hp;cases hp
 | cons x l ih=>
  intro h p hp;simp only[qg7,yAD] at h;cases hp with
  | head=>have:=yAV h.1;omega
  | tail _ hp=>exact ih h.2 p hp
def Exit.jumps (J:Nat->Act->World->Prop) (Q:Exit->Act->World->Prop):Exit->Act->World->Prop
 | .goto l,a,w=>J l a w
 | e,a,w=>Q e a w
theorem qLW {F:Fence}{n:Nat}{P:Program}{Q:Exit->Act->World->Prop}{a:Act}{w:World}{c:Code}(I:Nat->Nat->Act->World->Prop)
  (first:c.wpIn F n P (Exit.jumps (fun l a w=>∃ k,I l k a w) Q) a w)
  (pass:∀ l k a w,I l k a w->∃ rest,findLabel c l=some rest/\rest.wpIn F n P (Exit.jumps (fun l' a' w'=>∃ k',k'<k/\I l' k' a' w') Q) a w):(Code.scope c).wpIn F n P Q a w:=by
 intro b k cs hro hb hr;have h0:(lone (b.atR a (.code (.scope c)::k)) cs w).fenced P F:=fenced_calm hb hr rfl;have hg:∀ l rest,findLabel c l=some rest->gotoIn l (.inScope c::k)=some (.code rest::.inScope c::k):=fun l rest h=>by simp[gotoIn,h]
 have hx:∀ id,exitTo id (.inScope c::k)=exitTo id k:=fun id=>by simp[exitTo]
 have key:∀ j l a w rest,I l j a w->findLabel c l=some rest->∃ e a' w',Q e a' w'/\ArrivesIn (Machine.fenced P F) P (lone (b.atR a (.code rest::.inScope c::k)) cs w) b k cs e a' w':=by
  intro j
  induction j using Nat.strongRecOn with
  | _ j ih=>
   intro l a w rest hI hf;obtain⟨rest',hf',hp⟩:=pass l j a w hI;rw[hf] at hf';cases hf';obtain⟨e,a₁,w₁,hq,harr⟩:=hp b (.inScope c::k) cs hro hb hr;cases e with
   | normal=>exact⟨.normal,a₁,w₁,hq,StepsIn.trans harr (.one (fenced_calm hb hr rfl) qF2)⟩
   | exit id=>
    exact⟨.exit id,a₁,w₁,hq,fun k' hk=>harr.1 k' (by rw[hx];exact hk),fun hr' hk=>let ⟨k₁,h1,h2⟩:=harr.2 hr' (by rw[hx];exact hk);⟨k₁,h1,h2⟩⟩
   | goto l'=>
    obtain⟨j',hlt,hI'⟩:=hq;obtain⟨rest2,hf2,_⟩:=pass l' j' a₁ w₁ hI';obtain⟨e₂,a₂,w₂,hq₂,harr₂⟩:=ih j' hlt l' a₁ w₁ rest2 hI' hf2;exact⟨e₂,a₂,w₂,hq₂,.of_steps (harr.1 _ (hg l' rest2 hf2)) harr₂⟩
   | ret=>exact⟨_,a₁,w₁,hq,harr⟩
   | panic ch=>exact⟨_,a₁,w₁,hq,harr⟩
   | outgrown=>exact⟨_,a₁,w₁,hq,harr⟩
 obtain⟨e,a₁,w₁,hq,harr⟩:=first b (.inScope c::k) cs hro hb hr
 cases e with
 | normal=>exact⟨.normal,a₁,w₁,hq,.head h0 qBE (StepsIn.trans harr (.one (fenced_calm hb hr rfl) qF2))⟩
 | exit id=>
  exact⟨.exit id,a₁,w₁,hq,fun k' hk=>.head h0 qBE (harr.1 k' (by rw[hx];exact hk)),
   fun hr' hk=>let ⟨k₁,h1,h2⟩:=harr.2 hr' (by rw[hx];exact hk);⟨k₁,h1,.head h0 qBE h2⟩⟩
 | goto l=>
  obtain⟨j,hI⟩:=hq;obtain⟨rest,hf,_⟩:=pass l j a₁ w₁ hI;obtain⟨e₂,a₂,w₂,hq₂,harr₂⟩:=key j l a₁ w₁ rest hI hf;exact⟨e₂,a₂,w₂,hq₂,.of_steps (.head h0 qBE (harr.1 _ (hg l rest hf))) harr₂⟩
 | ret=>exact⟨_,a₁,w₁,hq,.of_steps (.one h0 qBE) harr⟩
 | panic ch=>exact⟨_,a₁,w₁,hq,.of_steps (.one h0 qBE) harr⟩
 | outgrown=>exact⟨_,a₁,w₁,hq,.of_steps (.one h0 qBE) harr⟩
theorem qOC {l:Nat}:∀ {c:Code},qCQ l c=false->findLabel c l=none:=by
 intro c
 induction c with
 | seq x y ihx ihy=>
  intro h;simp only[qCQ,yAG] at h;simp[findLabel,ihx h.1,ihy h.2]
 | label l'=>
  intro h;simp only[qCQ] at h;have:l'≠l:=fun q=>by rw[q,yAU] at h;cases h
  simp[findLabel,this]
 | _=>intro _;rfl
def QKg (B:Base) (F:Entry->Prop) (N:Nat) (K:KT) (gb nr:Bool):Exit->Act->World->Prop
 | .normal,a,w=>Out B F N K .normal a w
 | .exit i,a,w=>(nr=true->i<GT)/\Out B F N K (.exit i) a w
 | .ret,a,w=>Out B F N K .ret a w
 | .goto l,a,w=>gb=true/\Out B F N K (.exit (GT+l)) a w
 | _,_,_=>False
theorem QKg.up {B:Base}{F:Entry->Prop}{N:Nat}{K:KT}{gb nr gb' nr':Bool}(h1:gb=true->gb'=true) (h2:nr'=true->nr=true) {ex:Exit}{a:Act}{w:World}(h:QKg B F N K gb nr ex a w):QKg B F N K gb' nr' ex a w:=by
 cases ex with
 | normal=>exact h
 | exit i=>exact⟨fun q=>h.1 (h2 q),h.2⟩
 | ret=>exact h
 | goto l=>exact⟨h1 h.1,h.2⟩
 | panic ch=>exact h.elim
 | outgrown=>exact h.elim
theorem QKg.of {B:Base}{F:Entry->Prop}{N:Nat}{K:KT}{gb:Bool}{ex:Exit}{a:Act}{w:World}(h:QK B F N K ex a w):QKg B F N K gb false ex a w:=by
 cases ex with
 | normal=>exact h
 | exit i=>exact⟨fun q=>(by cases q),h⟩
 | ret=>exact h
 | goto l=>exact h.elim
 | panic ch=>exact h.elim
 | outgrown=>exact h.elim
theorem QKg.to {B:Base}{F:Entry->Prop}{N:Nat}{K:KT}{gb nr:Bool}(hg:gb=false\/∀ l σ Φ n,¬K (.exit (GT+l)) σ Φ n) {ex:Exit}{a:Act}{w:World}(h:QKg B F N K gb nr ex a w):QK B F N K ex a w:=by
 cases ex with
 | normal=>exact h
 | exit i=>exact h.2
 | ret=>exact h
 | goto l=>
  rcases hg with hg|hg
  ·rw[hg] at h;cases h.1
  ·obtain⟨_,e',r', β', σ', Φ',n',_,hk,_⟩:=h;exact(hg l _ _ _ hk).elim
 | panic ch=>exact h.elim
 | outgrown=>exact h.elim
abbrev zGH (B:Base) (N:Nat) (L:List Nat) (pl:List (Nat×List Nat)) (c:Code) (F:Entry->Prop) (ro:Option Nat) (m:Option Nat) (rest:Code):Prop:=
 ∀ (K:KT) (e:Entry) (r:Mem) (β:qBD) (σ:Env) (Φ:Phi) (n:Nat) (a:Act) (w:World),
  F e->vcg B L pl c m K σ Φ n->Sat B e N r β σ Φ a w->qFL σ->rest.wpIn (fc ro) 0 B.P (QKg B F N K (qBB c) (qA6 c)) a w
theorem qbZ {B:Base}{N:Nat}{L:List Nat}{pl:List (Nat×List Nat)}:∀ (c:Code),codeOk N pl c=true->∀ (F:Entry->Prop),YOk B F N->FamOk F->∀ (ro:Option Nat),(ro=none\/qA6 c=true)->
    zGH B N L pl c F ro none c/\∀ l,qCQ l c=true->∃ rest,findLabel c l=some rest/\zGH B N L pl c F ro (some l) rest:=by
  intro c
  induction c with
  | skip=>intro hok F hY hFam ro hro;exact⟨fun K e r β σ Φ n a w hF h s hng=>wpIn_skip ⟨e,r, β, σ, Φ,n,hF,h,s,hng⟩,fun l h=>absurd h (by simp[qCQ])⟩
  | region id ops draw=>
    intro hok F hY hFam ro hro;refine⟨fun K e r β σ Φ n a w hF h s hng=>?_,fun l h=>absurd h (by simp[qCQ])⟩
    generalize qBB (.region id ops draw)=gb;generalize qA6 (.region id ops draw)=nr;obtain⟨ops⟩:=ops;simp only[codeOk,yAD] at hok;obtain⟨h1,h2,h3,h4⟩:=hok;have ok:=qiZ h1 h2 h3;simp only[vcg] at h;obtain⟨_, σ1, Φ1,r1,h,s1,_,hD1⟩:=qHN h s (vs:=[]) ⟨rfl,fun i sv v h=>by simp at h⟩
    obtain⟨Φ1,h,s1⟩:=qhY h s1;have hng1:qFL σ1:=fun k g sv hg=>by
      cases g with
      | none=>rfl
      | some p=>obtain⟨s0,w0⟩:=p;exact(yAT (hD1 [] (hng.gdIn _) k s0 w0 sv hg)).elim
    have fin:∀ e r β σ Φ n a w,F e->(qEE L σ fun σ=>K .normal σ Φ n)->Sat B e N r β σ Φ a w->QKg B F N K gb nr .normal a w:=by
      intro e r β σ Φ n a w hF hk s';rw[qT9] at hk;exact⟨e,r, β,_, Φ,n,hF,hk,s'.purge L,qFP L σ⟩
    cases draw with
    | false=>exact qZ6 hY hF ok (K:=fun σ Φ n=>qEE L σ fun σ=>K .normal σ Φ n) fin h s1 (hng1.gdIn _)
    | true =>
      simp only[Bool.not_true,yAE,yAD] at h4;obtain⟨h5,h6⟩:=h4;cases hx:qD8 6 (qBS pl id) with
      | true=>
        rw[hx] at h h6;exact qUZ hF ok h5 h6 (K:=fun σ Φ n=>qEE L σ fun σ=>K .normal σ Φ n) (fun e r β σ Φ n a w h1 h2 h3 _=>fin e r β σ Φ n a w h1 h2 h3) h s1 hng1
      | false=>
      rw[hx] at h h6;cases hm:qD8 4 (qBS pl id) with
      | true =>
        rw[hm] at h h6;have h6:((bif isNil (qBS pl (Nat.add id 3000000)) then qhE ops (qBS pl id) else qf8 ops (qBS pl id))&&(qR5 ops (qBS pl (Nat.add id 3000000))&&Nat.ble ops.length 64))=true:=h6
        rw[yAD,yAD] at h6;obtain⟨h6,h7⟩:=h6;cases hz:isNil (qBS pl (Nat.add id 3000000)) with
        | true=>
          rw[hz] at h h6;exact qXC hF hY ok h5 h6 (tab:=[]) rfl (.inl rfl) (K:=fun σ Φ n=>qEE L σ fun σ=>K .normal σ Φ n) fin h s1 hng1
        | false=>
          rw[hz] at h h6;simp only[cond_false,cond_true] at h;cases h with
          | dir hd=>exact qN1 hF hY ok h5 h6 (tab:=qBS pl (Nat.add id 3000000)) h7.1 (.inr (yAV h7.2)) (K:=fun σ Φ n=>qEE L σ fun σ=>K .normal σ Φ n) fin hd s1 hng1
          | mk U Fz m he=>
            rw[qB0] at he;obtain⟨hd,hk⟩:=he;have hks:∀ e',F e'->∀ id ch,Phi.get e'.Φ id=some ch->ch.kind≠0->∃ ch0,Phi.get Φ1 id=some ch0/\ch0.kind=ch.kind:=fun e' he' id ch h hk=>by
              obtain⟨ch',q1,q2⟩:=hFam.heads e e' hF he' id ch h hk;obtain⟨_,ch0,p1,p2⟩:=s1.kept.keep id ch' q1 (by rw[q2];exact hk)
              exact⟨ch0,p1,p2.trans q2⟩
            refine qN1 hF hY ok h5 h6 (tab:=qBS pl (Nat.add id 3000000)) h7.1 (.inr (yAV h7.2)) (K:=fun σ' Φ' _=>Rnd (qIU σ' Φ' (purge L (qf0 U σ1)) (qDQ Fz Φ1) Φ1)) (fun e2 r2 β2 σ2 Φ2 n2 a2 w2 hF2 hm2 s2=>?_) hd s1 hng1
            obtain⟨r3, β3,s3⟩:=qK2 s2 hm2.h (qFP _ _) (hks e2 hF2);exact⟨e2,r3, β3,_,_,m,hF2,hk,s3,qFP _ _⟩
      | false=>
        rw[hm] at h h6;exact qWL hF hY ok h5 h6 (K:=fun σ Φ n=>qEE L σ fun σ=>K .normal σ Φ n) fin h s1 hng1
  | seq x y ihx ihy=>
    intro hok F hY hFam ro hro;simp only[codeOk,yAD] at hok;have hro2:=hro;simp only[qA6,yAD] at hro;obtain⟨ix,lx⟩:=ihx hok.1 F hY hFam ro (hro.imp id And.left);obtain⟨iy,ly⟩:=ihy hok.2 F hY hFam ro (hro.imp id And.right);have gx:qBB x=true->qBB (.seq x y)=true:=fun h=>by simp[qBB,h]
    have gy:qBB y=true->qBB (.seq x y)=true:=fun h=>by simp[qBB,h]
    have nx:qA6 (.seq x y)=true->qA6 x=true:=fun h=>by simp only[qA6,yAD] at h;exact h.1
    have ny:qA6 (.seq x y)=true->qA6 y=true:=fun h=>by simp only[qA6,yAD] at h;exact h.2
    have step:∀ (K:KT) (x':Code) (a:Act) (w:World),x'.wpIn (fc ro) 0 B.P (QKg B F N (fun e=>match e with|.normal=>vcg B L pl y none K|e=>K e) (qBB x) (qA6 x)) a w->
        (Code.seq x' y).wpIn (fc ro) 0 B.P (QKg B F N K (qBB (.seq x y)) (qA6 (.seq x y))) a w:=fun K x' a w h=>by
      refine wpIn_seq (wpIn_mono h fun ex a' w' hq=>?_)
      cases ex with
      | normal=>
        obtain⟨e',r', β', σ', Φ',n',hF',hk,s',hng'⟩:=hq;exact wpIn_mono (iy K e' r' β' σ' Φ' n' a' w' hF' hk s' hng') fun ex a'' w'' hq=>QKg.up gy ny hq
      | exit i=>exact⟨fun q=>hq.1 (nx q),hq.2⟩
      | ret=>exact hq
      | goto l=>exact⟨gx hq.1,hq.2⟩
      | panic ch=>exact hq.elim
      | outgrown=>exact hq.elim
    refine⟨fun K e r β σ Φ n a w hF h s hng=>step K x a w (ix (fun e=>match e with|.normal=>vcg B L pl y none K|e=>K e) e r β σ Φ n a w hF h s hng),fun l hl=>?_⟩
    cases hlx:qCQ l x with
    | true=>
      obtain⟨rest,hf,hr⟩:=lx l hlx;refine⟨.seq rest y,by simp[findLabel,hf],fun K e r β σ Φ n a w hF h s hng=>?_⟩
      simp only[vcg,hlx,cond_true] at h;exact step K rest a w (hr _ e r β σ Φ n a w hF h s hng)
    | false=>
      simp only[qCQ,hlx,yAE] at hl;obtain⟨rest,hf,hr⟩:=ly l hl;refine⟨rest,by simp[findLabel,qOC hlx,hf],fun K e r β σ Φ n a w hF h s hng=>?_⟩
      simp only[vcg,hlx,cond_false] at h;exact wpIn_mono (hr _ e r β σ Φ n a w hF h s hng) fun ex a'' w'' hq=>QKg.up gy ny hq
  | cond c x y ihx ihy=>
    intro hok F hY hFam ro hro;refine⟨fun K e r β σ Φ n a w hF h s hng=>?_,fun l h=>absurd h (by simp[qCQ])⟩
    simp only[codeOk,yAD] at hok;simp only[qA6,yAD] at hro;have gx:qBB x=true->qBB (.cond c x y)=true:=fun h=>by simp[qBB,h]
    have gy:qBB y=true->qBB (.cond c x y)=true:=fun h=>by simp[qBB,h]
    have nx:qA6 (.cond c x y)=true->qA6 x=true:=fun h=>by simp only[qA6,yAD] at h;exact h.1
    have ny:qA6 (.cond c x y)=true->qA6 y=true:=fun h=>by simp only[qA6,yAD] at h;exact h.2
    simp only[vcg] at h;obtain⟨sv,hk,hr⟩:=qAK h;cases sv<;>simp only at hk;rename_i b;have hv:=hr _ r β a _ (qLT _) (Sm.plain s.agree);generalize hq:a.eval c=v at hv;cases hv;exact wpIn_cond_split hq
      (fun hb=>wpIn_mono ((ihx hok.1 F hY hFam ro (hro.imp id And.left)).1 K e r β σ Φ n a w hF (hk.1 hb) s hng) fun ex a' w' hq=>QKg.up gx nx hq)
      (fun hb=>wpIn_mono ((ihy hok.2 F hY hFam ro (hro.imp id And.right)).1 K e r β σ Φ n a w hF (hk.2 hb) s hng) fun ex a' w' hq=>QKg.up gy ny hq)
  | block id c ih=>
    intro hok F hY hFam ro hro;refine⟨fun K e r β σ Φ n a w hF h s hng=>?_,fun l h=>absurd h (by simp[qCQ])⟩
    simp only[codeOk,yAD] at hok;have hid:id<GT:=yAV hok.1;simp only[qA6] at hro;simp only[vcg] at h;refine wpIn_block (wpIn_mono ((ih hok.2 F hY hFam ro hro).1 _ e r β σ Φ n a w hF h s hng) fun ex a' w' hq=>?_)
    cases ex with
    | normal=>exact hq
    | exit i=>
      obtain⟨hlt,e',r', β', σ', Φ',n',hF',hk,s',hng'⟩:=hq;simp only[Exit.inBlock];by_cases hi:i=id
      · subst hi
        rw[if_pos rfl];simp only[yAU,cond_true] at hk;exact⟨e',r', β', σ', Φ',n',hF',hk,s',hng'⟩
      · rw[if_neg hi]
        simp only[qAS hi,cond_false] at hk;exact⟨fun q=>hlt q,e',r', β', σ', Φ',n',hF',hk,s',hng'⟩
    | ret=>exact hq
    | goto l=>
      obtain⟨hg,e',r', β', σ', Φ',n',hF',hk,s',hng'⟩:=hq;have hi:GT+l≠id:=by omega
      simp only[qAS hi,cond_false] at hk;exact⟨hg,e',r', β', σ', Φ',n',hF',hk,s',hng'⟩
    | panic ch=>exact hq.elim
    | outgrown=>exact hq.elim
  | loop c ih=>
    intro hok F0 hY hFam ro hro;refine⟨fun K e r β σ Φ n a w hF h s hng=>?_,fun l h=>absurd h (by simp[qCQ])⟩
    simp only[codeOk] at hok;simp only[qA6] at hro;simp only[vcg] at h;cases h with
    | mk U F m C μ a0 h0 he hr=>
      rename_i α;have head:∀ x,qFL (purge L (qf0 (U x) σ)):=fun x=>qFP _ _
      have hks:∀ e',F0 e'->∀ id ch,Phi.get e'.Φ id=some ch->ch.kind≠0->∃ ch0,Phi.get Φ id=some ch0/\ch0.kind=ch.kind:=fun e' he' id ch h hk=>by
        obtain⟨ch',q1,q2⟩:=hFam.heads e e' hF he' id ch h hk;obtain⟨_,ch0,p1,p2⟩:=s.kept.keep id ch' q1 (by rw[q2];exact hk)
        exact⟨ch0,p1,p2.trans q2⟩
      refine wpIn_loop_ghost (fun k a' w'=>∃ x,C x/\μ x=k/\∃ e' r' β',F0 e'/\Sat B e' N r' β' (purge L (qf0 (U x) σ)) (qDQ (F x) Φ) a' w') (μ a0) ?_ ?_
      · rw[qB0] at he
        obtain⟨r', β',s'⟩:=qK2 s he (head a0) (hks e hF);exact⟨a0,h0,rfl,e,r', β',hF,s'⟩
      · rintro k a' w' ⟨x,hx,rfl,e',r', β',hF',s'⟩
        have hbody:=hr x hx;rw[qB0] at hbody;refine wpIn_mono ((ih hok F0 hY hFam ro hro).1 _ e' r' β' _ _ m a' w' hF' hbody s' (head x)) fun ex a'' w'' hq=>?_
        cases ex with
        | normal=>
          obtain⟨e2,r2, β2, σ2, Φ2,n2,hF2,⟨⟨x',hx',hlt,hent⟩⟩,s2,hng2⟩:=hq;rw[qB0] at hent;obtain⟨r3, β3,s3⟩:=qK2 s2 hent (head x') (hks e2 hF2);exact⟨μ x',hlt,x',hx',rfl,e2,r3, β3,hF2,s3⟩
        | exit i=>exact hq
        | ret=>exact hq
        | goto l=>exact hq
        | panic ch=>exact hq.elim
        | outgrown=>exact hq.elim
    | unroll k0 hk0=>
      refine wpIn_loop_ghost (fun k a' w'=>∃ e' r' β' σ' Φ' n',F0 e'/\qkF (fun K σ Φ n=>vcg B L pl c none K σ Φ n) K k σ' Φ' n'/\Sat B e' N r' β' σ' Φ' a' w'/\qFL σ') k0 ⟨e,r, β, σ, Φ,n,hF,hk0,s,hng⟩ ?_
      rintro k a' w' ⟨e',r', β', σ', Φ',n',hF',hk,s',hng'⟩;cases k with
      | zero=>exact hk.elim
      | succ k=>
        refine wpIn_mono ((ih hok F0 hY hFam ro hro).1 _ e' r' β' _ _ n' a' w' hF' hk s' hng') fun ex a'' w'' hq=>?_
        cases ex with
        | normal=>
          obtain⟨e2,r2, β2, σ2, Φ2,n2,hF2,hk2,s2,hng2⟩:=hq;exact⟨k,yA0 k,e2,r2, β2, σ2, Φ2,n2,hF2,hk2,s2,hng2⟩
        | exit i=>exact hq
        | ret=>exact hq
        | goto l=>exact hq
        | panic ch=>exact hq.elim
        | outgrown=>exact hq.elim
    | ug k0 hk0=>
      have hks:∀ e',F0 e'->∀ id ch,Phi.get e'.Φ id=some ch->ch.kind≠0->qH5 Φ id=true:=fun e' he' id ch h hk=>by
        obtain⟨ch',q1,q2⟩:=hFam.heads e e' hF he' id ch h hk;obtain⟨_,ch0,p1,p2⟩:=s.kept.keep id ch' q1 (by rw[q2];exact hk)
        exact qJ5.2 ⟨ch0,p1⟩
      refine wpIn_loop_ghost (fun k a' w'=>∃ e' r' β' σ' Φ' n',F0 e'/\qh0 (fun K σ Φ n=>vcg B L pl c none K σ Φ n) K Φ n k σ' Φ' n'/\Sat B e' N r' β' σ' Φ' a' w'/\qFL σ') k0 ⟨e,r, β, σ, Φ,n,hF,hk0,s,hng⟩ ?_
      rintro k a' w' ⟨e',r', β', σ', Φ',n',hF',hk,s',hng'⟩;cases k with
      | zero=>exact hk.elim
      | succ k=>
        refine wpIn_mono ((ih hok F0 hY hFam ro hro).1 _ e' r' β' _ _ n' a' w' hF' hk s' hng') fun ex a'' w'' hq=>?_
        cases ex with
        | normal=>
          obtain⟨e2,r2, β2, σ2, Φ2,n2,hF2,hk2,s2,hng2⟩:=hq;obtain⟨σ3,hk3,o1⟩:=qaB hk2;obtain⟨Φ3,hk3,g1,g2⟩:=qTX hk3;have s3:=s2.less o1 g1 (fun id ch hi hk0=>g2 id (hks e2 hF2 id ch hi hk0))
          have ng3:qFL σ3:=fun k g sv hh=>by
            obtain⟨sv0,q1,_⟩:=o1 k g sv hh;exact hng2 k g sv0 q1
          cases hb:qRT Φ3 Φ with
          | true=>rw[hb] at hk3;exact⟨k,yA0 k,e2,r2, β2, σ3, Φ3,n,hF2,hk3.h,s3,ng3⟩
          | false=>rw[hb] at hk3;exact⟨k,yA0 k,e2,r2, β2, σ3, Φ3,n2,hF2,hk3.h,s3,ng3⟩
        | exit i=>exact hq
        | ret=>exact hq
        | goto l=>exact hq
        | panic ch=>exact hq.elim
        | outgrown=>exact hq.elim
  | exit id=>
    intro hok F hY hFam ro hro;simp only[codeOk] at hok;exact⟨fun K e r β σ Φ n a w hF h s hng=>wpIn_exit ⟨fun _=>yAV hok,e,r, β, σ, Φ,n,hF,h,s,hng⟩,fun l h=>absurd h (by simp[qCQ])⟩
  | ret=>intro hok F hY hFam ro hro;exact⟨fun K e r β σ Φ n a w hF h s hng=>wpIn_ret ⟨e,r, β, σ, Φ,n,hF,h,s,hng⟩,fun l h=>absurd h (by simp[qCQ])⟩
  | scope c ih=>
    intro hok F0 hY hFam ro hro;refine⟨fun K e r β σ Φ n a w hF h s hng=>?_,fun l h=>absurd h (by simp[qCQ])⟩
    simp only[codeOk,yAD] at hok;have hro2:=hro;simp only[qA6] at hro;simp only[vcg] at h;obtain⟨ic,lc⟩:=ih hok.2 F0 hY hFam ro hro;have hst:∀ (K':KT),(∀ l σ Φ n,¬K' (.exit (GT+l)) σ Φ n)\/qBB c=false->(∀ ex σ Φ n,K' ex σ Φ n->K ex σ Φ n)->vcg B L pl c none K' σ Φ n->
        (Code.scope c).wpIn (fc ro) 0 B.P (QKg B F0 N K (qBB (.scope c)) (qA6 (.scope c))) a w:=fun K' hg hKK h=>by
      refine qIK (wpIn_mono (ic K' e r β σ Φ n a w hF h s hng) fun ex a' w' hq=>?_)
      cases ex with
      | normal=>obtain⟨e',r', β', σ', Φ',n',hF',hk,s',hng'⟩:=hq;exact⟨e',r', β', σ', Φ',n',hF',hKK _ _ _ _ hk,s',hng'⟩
      | exit i=>obtain⟨hlt,e',r', β', σ', Φ',n',hF',hk,s',hng'⟩:=hq;exact⟨hlt,e',r', β', σ', Φ',n',hF',hKK _ _ _ _ hk,s',hng'⟩
      | ret=>obtain⟨e',r', β', σ', Φ',n',hF',hk,s',hng'⟩:=hq;exact⟨e',r', β', σ', Φ',n',hF',hKK _ _ _ _ hk,s',hng'⟩
      | goto l=>
        obtain⟨hb,e',r', β', σ', Φ',n',hF',hk,s',hng'⟩:=hq;rcases hg with hg|hg
        · exact hg l _ _ _ hk
        · rw[hg] at hb;cases hb
      | panic ch=>exact hq.elim
      | outgrown=>exact hq.elim
    cases hg:qBB c with
    | false=>
      rw[hg] at h;exact hst K (.inr hg) (fun _ _ _ _ h=>h) h
    | true =>
      rw[hg] at h;have hnr:qA6 c=true:=by
        have h1:=hok.1;rw[hg] at h1;simpa using h1
      have hle:∀ l,Nat.ble GT (GT+l)=true:=fun l=>Nat.ble_eq_true_of_le (by omega)
      cases h with
      | straight h=>
        refine hst _ (.inl fun l σ Φ n hk=>?_) (fun ex σ Φ n hk=>?_) h
        · simp only[hle l,cond_true] at hk
        · cases ex with
          | normal=>exact hk
          | ret=>exact hk
          | exit i=>
            simp only at hk;cases hb:Nat.ble GT i with
            | true=>rw[hb] at hk;exact hk.elim
            | false=>rw[hb] at hk;exact hk
      | mk lab U F m C μ hl h1 hr=>
        rename_i α;have head:∀ x,qFL (purge L (qf0 (U x) σ)):=fun x=>qFP _ _
        have hks:∀ e',F0 e'->∀ id ch,Phi.get e'.Φ id=some ch->ch.kind≠0->∃ ch0,Phi.get Φ id=some ch0/\ch0.kind=ch.kind:=fun e' he' id ch h hk=>by
          obtain⟨ch',q1,q2⟩:=hFam.heads e e' hF he' id ch h hk;obtain⟨_,ch0,p1,p2⟩:=s.kept.keep id ch' q1 (by rw[q2];exact hk)
          exact⟨ch0,p1,p2.trans q2⟩
        have hexit:∀ (J:Nat->Act->World->Prop) (R:Nat->Env->Phi->Prop) (hJ:∀ l a' w',Out B F0 N (fun e σ' Φ' n'=>match e with|.exit i=>(bif Nat.ble GT i then R i σ' Φ' else K (.exit i) σ' Φ' n')|e=>K e σ' Φ' n') (.exit (GT+l)) a' w'->J l a' w') (ex:Exit) (a':Act) (w':World),
            QKg B F0 N (fun e σ' Φ' n'=>match e with|.exit i=>(bif Nat.ble GT i then R i σ' Φ' else K (.exit i) σ' Φ' n')|e=>K e σ' Φ' n') (qBB c) (qA6 c) ex a' w'->Exit.jumps J (QKg B F0 N K (qBB (.scope c)) (qA6 (.scope c))) ex a' w':=fun J R hJ ex a' w' hq=>by
          cases ex with
          | normal=>exact hq
          | exit i=>
            obtain⟨hlt,e',r', β', σ', Φ',n',hF',hk,s',hng'⟩:=hq;have hlt':=hlt hnr;have hb:Nat.ble GT i=false:=by
              cases hb:Nat.ble GT i with
              | false=>rfl
              | true=>have:=yAV hb;omega
            simp only[hb,cond_false] at hk;exact⟨fun _=>hlt',e',r', β', σ', Φ',n',hF',hk,s',hng'⟩
          | ret=>exact hq
          | goto l=>exact hJ l a' w' hq.2
          | panic ch=>exact hq.elim
          | outgrown=>exact hq.elim
        refine qLW (fun l k a' w'=>∃ x,lab x=l/\C x/\μ x=k/\∃ e' r' β',F0 e'/\Sat B e' N r' β' (purge L (qf0 (U x) σ)) (qDQ (F x) Φ) a' w') ?_ ?_
        · refine wpIn_mono (ic _ e r β σ Φ n a w hF h1 s hng) (hexit _ (fun i σ' Φ'=>Rnd (∃ a',GT+lab a'=i/\C a'/\qEU L (U a') (F a') σ Φ fun σI ΦI=>qIU σ' Φ' σI ΦI Φ)) fun l a' w' ho=>?_)
          obtain⟨e2,r2, β2, σ2, Φ2,n2,hF2,hk,s2,hng2⟩:=ho;simp only[hle l,cond_true] at hk;obtain⟨⟨x,hx1,hx2,hent⟩⟩:=hk;rw[qB0] at hent;obtain⟨r3, β3,s3⟩:=qK2 s2 hent (head x) (hks e2 hF2);exact⟨μ x,x,by omega,hx2,rfl,e2,r3, β3,hF2,s3⟩
        · rintro l k a' w' ⟨x,rfl,hx,rfl,e',r', β',hF',s'⟩
          obtain⟨rest,hf,hrest⟩:=lc (lab x) (hl x hx);refine⟨rest,hf,?_⟩;have hbody:=hr x hx;rw[qB0] at hbody;refine wpIn_mono (hrest _ e' r' β' _ _ m a' w' hF' hbody s' (head x)) (hexit _ (fun i σ' Φ'=>Rnd (∃ a',GT+lab a'=i/\C a'/\μ a'<μ x/\qEU L (U a') (F a') σ Φ fun σI ΦI=>qIU σ' Φ' σI ΦI Φ)) fun l a'' w'' ho=>?_)
          obtain⟨e2,r2, β2, σ2, Φ2,n2,hF2,hk,s2,hng2⟩:=ho;simp only[hle l,cond_true] at hk;obtain⟨⟨x',hx1,hx2,hlt,hent⟩⟩:=hk;rw[qB0] at hent;obtain⟨r3, β3,s3⟩:=qK2 s2 hent (head x') (hks e2 hF2);exact⟨μ x',hlt,x',by omega,hx2,rfl,e2,r3, β3,hF2,s3⟩
  | rangeFunc g ps x y ihx ihy=>
    intro hok F hY hFam ro hro;refine⟨fun K e r β σ Φ n a w hF h s hng=>?_,fun l h=>absurd h (by simp[qCQ])⟩
    refine wpIn_mono (Q:=QK B F N K) ?_ fun ex a' w' hq=>QKg.of hq
    obtain⟨ps⟩:=ps;simp only[codeOk,yAD,yAF,yAG] at hok;obtain⟨⟨hps,⟨hnx,hny⟩,hgx,hgy⟩,hokx,hoky⟩:=hok;rcases hro with rfl|hro
    · simp only[vcg] at h
      obtain⟨sv,hk,hr⟩:=qAK h;cases sv<;>simp only at hk;rename_i f caps;cases hl:Nat.beq B.Y.len 0 with
      | false=>rw[hl] at hk;exact hk.elim
      | true=>
        rw[hl] at hk;have hv:=hr _ r β a _ (qLT _) (Sm.plain s.agree);generalize hq:a.eval g=v at hv;cases hv with
        | fn h1 h2=>
          rename_i cs;refine qXB (pl:=pl) (qAM hl) hFam
            (fun F hY hFam ro K e r β σ Φ n a w hF h s hng=>wpIn_mono ((ihx hokx F hY hFam ro (.inr hnx)).1 K e r β σ Φ n a w hF h s hng) fun ex a' w' hq=>QKg.to (.inl hgx) hq)
            (fun F hY hFam ro K e r β σ Φ n a w hF h s hng=>wpIn_mono ((ihy hoky F hY hFam ro (.inr hny)).1 K e r β σ Φ n a w hF h s hng) fun ex a' w' hq=>QKg.to (.inl hgy) hq) (qZ2 hps) hk s hF hq ⟨h1,h2⟩
    · cases hro
  | label l=>
    intro hok F hY hFam ro hro;refine⟨fun K e r β σ Φ n a w hF h s hng=>wpIn_label ⟨e,r, β, σ, Φ,n,hF,h,s,hng⟩,fun l' h=>?_⟩
    simp only[qCQ] at h;have hll:l=l':=Nat.eq_of_beq_eq_true h;refine⟨.skip,by simp[findLabel,hll],fun K e r β σ Φ n a w hF hv s hng=>?_⟩
    simp only[vcg,h,cond_true] at hv;exact wpIn_skip ⟨e,r, β, σ, Φ,n,hF,hv,s,hng⟩
  | goto l=>intro hok F hY hFam ro hro;exact⟨fun K e r β σ Φ n a w hF h s hng=>wpIn_goto ⟨rfl,e,r, β, σ, Φ,n,hF,h,s,hng⟩,fun l h=>absurd h (by simp[qCQ])⟩
  | refuse y=>intro hok F hY hFam ro hro;exact⟨fun K e r β σ Φ n a w hF h=>h.elim,fun l h=>absurd h (by simp[qCQ])⟩
theorem qMV {B:Base}{N:Nat}{L:List Nat}{pl:List (Nat×List Nat)}(c:Code) (hok:codeOk N pl c=true) (F:Entry->Prop) (hY:YOk B F N) (hFam:FamOk F) (ro:Option Nat) (hro:ro=none\/qA6 c=true)
  (K:KT) (hK:∀ l σ Φ n,¬K (.exit (GT+l)) σ Φ n) (e:Entry) (r:Mem) (β:qBD) (σ:Env) (Φ:Phi) (n:Nat) (a:Act) (w:World)
  (hF:F e) (h:vc B L pl c K σ Φ n) (s:Sat B e N r β σ Φ a w) (hng:qFL σ):c.wpIn (fc ro) 0 B.P (QK B F N K) a w:=
 wpIn_mono ((qbZ c hok F hY hFam ro hro).1 K e r β σ Φ n a w hF h s hng) fun ex a' w' hq=>QKg.to (.inr hK) hq
end Go.Vc

namespace Go.Vc
set_option autoImplicit false
theorem qFF {α β:Type _}{l:List α}{l':List β}(h:l.length=l'.length) {i:Nat}{b:β}(hb:l'[i]?=some b):∃ a,l[i]?=some a:=by
 rcases yAZ i l.length with hi|hi
 ·exact⟨l[i],yAK hi⟩
 ·rw[List.getElem?_eq_none (by omega)] at hb;cases hb
def qnF (tmps:Array Value):ResultVar->Sem Value
 | .tmp t=>pure (tmps.getD t undef)
 | .cell ad t=>do loadVar t (←asAddr (tmps.getD ad undef))
theorem qK0 {P:Program}{σ Φ}{rs:List ResultVar}:∀ {K:List SV->Prop},qfF P σ Φ rs K->∃ l,K l/\∀ r β (a:Act) w,Agree r β σ a.tmps->MemSat r β Φ w->
  ∃ vs,qA5 r β l vs/\(rs.mapM (qnF a.tmps)).run P w=.ok vs w:=by
 induction rs with
 | nil=>intro K h;exact⟨[],h,fun r β a w ha m=>⟨[],⟨rfl,fun i sv v h=>by simp at h⟩,rfl⟩⟩
 | cons x rs ih=>
  intro K h;cases x with
  | tmp t=>
   simp only[qfF] at h;obtain⟨sv,h,hr⟩:=qAK h;obtain⟨l,hk,hl⟩:=ih h;refine⟨_,hk,fun r β a w ha m=>?_⟩
   obtain⟨vs,h1,h2⟩:=hl r β a w ha m;refine⟨_,qA5.cons (hr _ r β a _ (qLT _) (Sm.plain ha)) h1,?_⟩;simp only[yAN,qnF,Sem.run_bind,Sem.run_pure,Result.andThen_ok,h2];rfl
  | cell ad t=>
   simp only[qfF] at h;obtain⟨sv,h,hr⟩:=qAK h;cases sv<;>simp only at h;rename_i id off;split at h
   ·rename_i cs hg;obtain⟨sv',h,hp⟩:=qC1 h;obtain⟨l,hk,hl⟩:=ih h;refine⟨_,hk,fun r β a w ha m=>?_⟩
    obtain⟨vs,h1,h2⟩:=hl r β a w ha m;have hloc:=hr _ r β a _ (qLT _) (Sm.plain ha);generalize hq:a.eval (.tmp ad)=v at hloc;cases hloc with
    | loc hβ=>
     rename_i b;have hs:=m.chs _ _ hg;cases hs with
     | box hxb hw hlen hc hT=>
      rename_i b' c T;rw[hβ] at hxb;obtain rfl:b=b':=by simpa using hxb
      obtain⟨v,hrel,_,hload⟩:=hp r β c.toList (qO7 hlen hc);refine⟨_,qA5.cons hrel h1,?_⟩;have hl2:=hload w b 0 (fun j u hj=>by rw[cell_of_block hw];simpa using hj)
      simp only[yA2] at hl2;have hq':a.tmps.getD ad undef=.pointer (some ⟨b,off,none⟩):=hq;simp only[yAN,qnF,Sem.run_bind,hq',asAddr,Sem.run_pure,Result.andThen_ok,hl2,h2]
   ·exact h.elim
theorem qbQ {r β l vs}(h:qA5 r β l vs):Rel r β (qXK l) (if h:vs.toArray.size=1 then vs.toArray[0] else .tuple vs.toArray):=by
 obtain⟨h1,h2⟩:=h
 match l,vs,h1 with
 | [],[],_=>exact .tup (cs:=[]) rfl (fun i sv v h=>by simp at h)
 | [x],[v],_=>exact h2 0 x v rfl rfl
 | x::y::l,v::u::vs,h1=>
  rw[dif_neg (by simp)]
  exact .tup h1 h2
theorem qIM {P:Program}{fn:Func}{tmps:Array Value}{vs:List Value}{w:World}
  (h:(fn.results.toList.mapM (qnF tmps)).run P w=.ok vs w):
  (results fn tmps).run P w=.ok (if h:vs.toArray.size=1 then vs.toArray[0] else .tuple vs.toArray) w:=by
 have e:results fn tmps=(do let vs <-fn.results.mapM (qnF tmps);pure (if h:vs.size=1 then vs[0] else .tuple vs)):=by
  unfold results;congr 2
 rw[e,Sem.run_bind];have:(fn.results.mapM (qnF tmps)).run P w=.ok vs.toArray w:=by
  rw[<-Array.toArray_toList (xs:=fn.results),List.mapM_toArray,Sem.run_map];rw[h];rfl
 rw[this];rfl
theorem qHL {args:List SV}:∀ {i k:Nat}{g sv},Env.get (qOZ i args) k=some (g,sv)->g=none/\i<=k/\args[k-i]?=some sv:=by
 induction args with
 | nil=>intro i k g sv h;simp[qOZ,Env.get] at h
 | cons x l ih=>
  intro i k g sv h;simp only[qOZ] at h;rw[qAX] at h;cases hb:Nat.beq i k with
  | true=>
   obtain rfl:=qAM hb;rw[hb] at h;simp only[cond_true,Option.some.injEq,Prod.mk.injEq] at h;obtain⟨rfl,rfl⟩:=h;exact⟨rfl,yAW _,by simp⟩
  | false=>
   rw[hb] at h;obtain⟨h1,h2,h3⟩:=ih h;refine⟨h1,by omega,?_⟩
   rw[show k-i=(k-(i+1))+1 by omega]
   simpa using h3
theorem qZ4 {w:World}{D:Nat}{o:Obj}{b:Nat}(h:b≠D):({ w with heap:=w.heap.setIfInBounds D o }:World).heap[b]?=w.heap[b]?:=by
 show(w.heap.setIfInBounds D o)[b]?=_;exact Array.getElem?_setIfInBounds_ne (Ne.symm h)
theorem qHE {F:Fence}{n:Nat}{P:Program}{fn:Func}{tmps:Array Value}{R:Ending->World->Prop}{r:Mem}{β:qBD}{Φ:Phi}{lo:Nat->Prop}:
  ∀ (Ds:List Nat) (w:World),Ds.Nodup->(∀ D∈Ds,lo D/\w.heap[D]?=some (.deferred (some []))/\r D=none/\∀ id ch,Phi.get Φ id=some ch->¬ch.hb (β id) D)->MemSat r β Φ w->
  (∀ w',MemSat r β Φ w'->w'.os=w.os->w'.tape=w.tape->w'.output=w.output->w'.heap.size=w.heap.size->(∀ b,¬lo b->w'.heap[b]?=w.heap[b]?)->∃ v,(results fn tmps).run P w'=.ok v w'/\R (.returned v) w')->
  LeavesInM F n P fn tmps R (Ds.map (fun D=>{ target:=.collected D,args := #[] })) .returning w:=by
 intro Ds
 induction Ds with
 | nil=>intro w _ _ m h;exact h w m rfl rfl rfl rfl (fun _ _=>rfl)
 | cons D Ds ih=>
  intro w hnd hD m h;obtain⟨g1,g2,g3,g4⟩:=hD D (by simp)
  have hnd':=yAR.1 hnd;refine⟨by simp,.inl ⟨D,_,rfl,run_takeDeferred g2,?_⟩⟩
  have get:∀ b,b≠D->(w.putObj D (.deferred none)).heap[b]?=w.heap[b]?:=fun b hb=>qZ4 hb
  refine ih _ hnd'.2 (fun D' hD'=>?_) ⟨fun b o hb=>?_,fun id ch hi=>?_,m.sep,m.nod⟩ (fun w' m' e1 e2 e3 e4 e5=>h w' m' e1 e2 e3 (e4.trans (by simp[World.putObj])) (fun b hb=>(e5 b hb).trans (get b (fun he=>hb (he▸g1)))))
  ·obtain⟨k1,k2,k3,k4⟩:=hD D' (by simp[hD'])
   exact⟨k1,(get D' (fun he=>hnd'.1 (he▸hD'))).trans k2,k3,k4⟩
  ·rw[get b (fun he=>by rw[he,g3] at hb;cases hb)];exact m.vis b o hb
  ·exact(m.chs _ _ hi).keep (Mem.le_refl r) (fun b hb=>get b (fun he=>g4 id ch hi (he▸hb))) (fun _ _ _ _ _ _ _ h=>h)
theorem qeQ {B:Base}{f:FuncId}{fn:Func}{c:Code}{args:List SV}{Φ0 Φ':Phi}{res:SV}{N:Nat}(L:List Nat) (pl:List (Nat×List Nat)) (n:Nat)
    (hf:B.P.funcs[f]?=some fn) (hb:fn.body=some c) (hN:fn.ntmps=N) (hok:(Nat.ble args.length N&&codeOk N pl c)=true)
    (h:vc B L pl c (qiF B.P fn.results.toList res Φ0 Φ') (qOZ 0 args) Φ0 n) (hY:B.Y.len=0):Ct B f args Φ0 fun sv Φ1=>sv=res/\Φ1=Φ':=by
  simp only[yAD] at hok;obtain⟨hlen,hok⟩:=hok;have hlen:=yAV hlen;intro r β w vs hG m hl;refine qEN (ro:=none) (n:=0) |>.1 ?_
  refine callsIn_of_wp_marks hf hb trivial ?_ rfl;have hvl:vs.length=args.length:=hl.1;have hsz:vs.toArray.size=args.length:=by simpa using hvl
  rw[hN];have hget:∀ (k:Nat) (v:Value),vs[k]?=some v->(vs.toArray++Array.replicate (N-vs.toArray.size) undef)[k]?=some v:=by
    intro k v hk;have:k<vs.length:=qAV hk;rw[yAB (by simpa using this)]
    simpa using hk
  have s:Sat B (Entry.of r β Φ0 w) N r β (qOZ 0 args) Φ0 { tmps:=vs.toArray++Array.replicate (N-vs.toArray.size) undef,defers:=[] } w:=by
    refine⟨fun k g sv hg=>?_,m,hG,Kept.refl ..,⟨[],rfl,yAS,fun D hD=>(yAT hD).elim⟩,by simp;omega⟩
    obtain⟨rfl,_,hk⟩:=qHL hg;have hk:args[k]?=some sv:=by simpa using hk
    obtain⟨v,hv⟩:=qFF hvl hk;exact⟨v,hget k v hv,hl.2 k sv v hk hv⟩
  have hng:qFL (qOZ 0 args):=fun k g sv hg=>(qHL hg).1
  refine wpIn_mono (qMV c hok (fun e=>e=Entry.of r β Φ0 w) (YOk.none hY) (FamOk.one (fun _ h=>h)) none (.inl rfl) _ (fun l σ Φ n h=>h) _ r β (qOZ 0 args) Φ0 n _ w rfl h s hng) fun ex a' w' hq=>?_
  have fin:∀ {ex},(∀ i,ex≠Ex.exit i)->Out B (fun e=>e=Entry.of r β Φ0 w) N (qiF B.P fn.results.toList res Φ0 Φ') ex a' w'->
      LeavesInM (fc none) 0 B.P fn a'.tmps (fun e w'=>∃ v sv r' β' Φ1,e=.returned v/\(sv=res/\Φ1=Φ')/\Rel r' β' sv v/\MemSat r' β' Φ1 w'/\r.le r'/\Hid r β Φ0 w r' β' Φ1 w') a'.defers .returning w':=by
    intro ex hex ⟨e',r', β', σ', Φ1,n',he',hk,s',_⟩;subst he';have hhid:=s'.kept.hid;have hk:qfF B.P σ' Φ1 fn.results.toList fun l=>Fin (qIU [(0,none,qXK l)] Φ1 [(0,none,res)] Φ' Φ0):=by
      cases ex with
      | exit i=>exact(hex i rfl).elim
      | normal=>exact hk
      | ret=>exact hk
    obtain⟨l,hfin,hl'⟩:=qK0 hk;obtain⟨Ds,hds,hnd,hD⟩:=s'.defers;rw[hds];refine qHE (r:=r') (β:=β') (Φ:=Φ1) (lo:=fun D=>w.heap.size<=D) Ds w' hnd hD s'.mem fun w2 m2 e1 e2 e3 e4 e5=>?_
    obtain⟨us,hus,hrun⟩:=hl' r' β' a' w2 s'.agree m2;obtain⟨r2, β2,hle,m3,hE,hH,hK⟩:=qXQ hfin.h m2;refine⟨_,qIM hrun,_,res,r2, β2, Φ',rfl,⟨rfl,rfl⟩,?_,m3,Mem.le_trans s'.kept.le hle,?_⟩
    · obtain⟨sv,q1,q2⟩:=hE 0 none res rfl
      cases q1;exact q2 _ (qbQ hus)
    · refine⟨e1.trans hhid.os,e2.trans hhid.tape,e3.trans hhid.output,by rw[e4];exact hhid.size,fun b hb' h1 h2=>?_,fun id ch hi hk=>?_⟩
      · obtain⟨q1,q2,q3⟩:=hhid.block b hb' h1 h2
        exact⟨(e5 b (by omega)).trans q1,hH b q2 q3⟩
      · obtain⟨q1,_⟩:=hhid.keep id ch hi hk
        obtain⟨p1,p2⟩:=hK id ch hi hk;exact⟨p1.trans q1,p2⟩
  cases ex with
  | normal=>exact fin (by intro i h;cases h) hq
  | ret=>exact fin (by intro i h;cases h) hq
  | exit i=>
    obtain⟨_,r', β', σ', Φ1,n',_,hk,_⟩:=hq;exact hk.elim
  | goto l=>exact hq.elim
  | panic ch=>exact hq.elim
  | outgrown=>exact hq.elim
theorem qg1 {B:Base}{f:FuncId}{fn:Func}{c:Code}{args:List SV}{Φ0:Phi}{N:Nat}{Kr:SV->Phi->Nat->Prop}(L:List Nat) (pl:List (Nat×List Nat)) (n:Nat)
    (hf:B.P.funcs[f]?=some fn) (hb:fn.body=some c) (hN:fn.ntmps=N) (hok:(Nat.ble args.length N&&codeOk N pl c)=true)
    (h:vc B L pl c (qzQ B.P fn.results.toList Kr) (qOZ 0 args) Φ0 n) (hY:B.Y.len=0):Ct B f args Φ0 fun sv Φ1=>∃ n',Kr sv Φ1 n':=by
  simp only[yAD] at hok;obtain⟨hlen,hok⟩:=hok;have hlen:=yAV hlen;intro r β w vs hG m hl;refine qEN (ro:=none) (n:=0) |>.1 ?_
  refine callsIn_of_wp_marks hf hb trivial ?_ rfl;have hvl:vs.length=args.length:=hl.1;have hsz:vs.toArray.size=args.length:=by simpa using hvl
  rw[hN];have hget:∀ (k:Nat) (v:Value),vs[k]?=some v->(vs.toArray++Array.replicate (N-vs.toArray.size) undef)[k]?=some v:=by
    intro k v hk;have:k<vs.length:=qAV hk;rw[yAB (by simpa using this)]
    simpa using hk
  have s:Sat B (Entry.of r β Φ0 w) N r β (qOZ 0 args) Φ0 { tmps:=vs.toArray++Array.replicate (N-vs.toArray.size) undef,defers:=[] } w:=by
    refine⟨fun k g sv hg=>?_,m,hG,Kept.refl ..,⟨[],rfl,yAS,fun D hD=>(yAT hD).elim⟩,by simp;omega⟩
    obtain⟨rfl,_,hk⟩:=qHL hg;have hk:args[k]?=some sv:=by simpa using hk
    obtain⟨v,hv⟩:=qFF hvl hk;exact⟨v,hget k v hv,hl.2 k sv v hk hv⟩
  have hng:qFL (qOZ 0 args):=fun k g sv hg=>(qHL hg).1
  refine wpIn_mono (qMV c hok (fun e=>e=Entry.of r β Φ0 w) (YOk.none hY) (FamOk.one (fun _ h=>h)) none (.inl rfl) _ (fun l σ Φ n h=>h) _ r β (qOZ 0 args) Φ0 n _ w rfl h s hng) fun ex a' w' hq=>?_
  have fin:∀ {ex},(∀ i,ex≠Ex.exit i)->Out B (fun e=>e=Entry.of r β Φ0 w) N (qzQ B.P fn.results.toList Kr) ex a' w'->
      LeavesInM (fc none) 0 B.P fn a'.tmps (fun e w'=>∃ v sv r' β' Φ1,e=.returned v/\(∃ n',Kr sv Φ1 n')/\Rel r' β' sv v/\MemSat r' β' Φ1 w'/\r.le r'/\Hid r β Φ0 w r' β' Φ1 w') a'.defers .returning w':=by
    intro ex hex ⟨e',r', β', σ', Φ1,n',he',hk,s',_⟩;subst he';have hhid:=s'.kept.hid;have hk:qfF B.P σ' Φ1 fn.results.toList fun l=>zCJ l fun sv=>Kr sv Φ1 n':=by
      cases ex with
      | exit i=>exact(hex i rfl).elim
      | normal=>exact hk
      | ret=>exact hk
    obtain⟨l,hfin,hl'⟩:=qK0 hk;rw[qlE] at hfin;obtain⟨Ds,hds,hnd,hD⟩:=s'.defers;rw[hds];refine qHE (r:=r') (β:=β') (Φ:=Φ1) (lo:=fun D=>w.heap.size<=D) Ds w' hnd hD s'.mem fun w2 m2 e1 e2 e3 e4 e5=>?_
    obtain⟨us,hus,hrun⟩:=hl' r' β' a' w2 s'.agree m2;refine⟨_,qIM hrun,_,qXK l,r', β', Φ1,rfl,⟨n',hfin⟩,qbQ hus,m2,s'.kept.le,?_⟩;refine⟨e1.trans hhid.os,e2.trans hhid.tape,e3.trans hhid.output,by rw[e4];exact hhid.size,fun b hb' h1 h2=>?_,fun id ch hi hk=>hhid.keep id ch hi hk⟩
    obtain⟨q1,q2,q3⟩:=hhid.block b hb' h1 h2;exact⟨(e5 b (by omega)).trans q1,q2,q3⟩
  cases ex with
  | normal=>exact fin (by intro i h;cases h) hq
  | ret=>exact fin (by intro i h;cases h) hq
  | exit i=>
    obtain⟨_,r', β', σ', Φ1,n',_,hk,_⟩:=hq;exact hk.elim
  | goto l=>exact hq.elim
  | panic ch=>exact hq.elim
  | outgrown=>exact hq.elim
class Inl (B:Base) (f:FuncId) where
 fn:Func
 c:Code
 N:Nat
 L:List Nat
 pl:List (Nat×List Nat)
 call:∀ (vs:Array Value) (w:World),(callFunc f vs).run B.P w=.ok (.enter f vs) w
 hf:B.P.funcs[f]?=some fn
 hb:fn.body=some c
 hN:fn.ntmps=N
 hok:codeOk N pl c=true
 hY:B.Y.len=0
@[reducible] def Inl.make {B:Base}{f:FuncId}{fn:Func}{c:Code}{N:Nat}(L:List Nat) (pl:List (Nat×List Nat)) (call:∀ (vs:Array Value) (w:World),(callFunc f vs).run B.P w=.ok (.enter f vs) w)
  (hf:B.P.funcs[f]?=some fn) (hb:fn.body=some c) (hN:fn.ntmps=N) (hok:codeOk N pl c=true) (hY:B.Y.len=0:=by rfl):Inl B f:=⟨fn,c,N,L,pl,call,hf,hb,hN,hok,hY⟩
theorem CallS.inl {B:Base}{f:FuncId}{args:List SV}{σ:Env}{Φ:Phi}{n:Nat}{K:EK}[I:Inl B f] (hl:Nat.ble args.length I.N=true)
  (h:vc B I.L I.pl I.c (qzQ B.P I.fn.results.toList fun sv Φ' n'=>gcP (fun i => !(sv.okIds (fun j => !Nat.beq j i))) Φ Φ' Φ' fun Φ''=>qLR Φ σ fun σ'=>bif qRT Φ'' Φ then K sv σ' Φ'' n else K sv σ' Φ'' n') (qOZ 0 args) Φ n):CallS B f args σ Φ n K:=
 .i I.call (qg1 I.L I.pl n I.hf I.hb I.hN (by rw[hl,I.hok];rfl) h I.hY)
theorem Fn.intro {B:Base}{f:FuncId}{fn:Func}{c:Code}{args:List SV}{pre:Prop}{res:SV}{N:Nat}(L:List Nat) (pl:List (Nat×List Nat))
  (call:∀ (vs:Array Value) (w:World),(callFunc f vs).run B.P w=.ok (.enter f vs) w)
  (hf:B.P.funcs[f]?=some fn) (hb:fn.body=some c) (hN:fn.ntmps=N) (hok:(Nat.ble args.length N&&codeOk N pl c)=true)
  (h:pre->vc B L pl c (qiF B.P fn.results.toList res [] []) (qOZ 0 args) [] 0) (hY:B.Y.len=0:=by rfl):Fn B f args pre res:=
 ⟨call,fun hp=>qeQ L pl 0 hf hb hN hok (h hp) hY⟩
theorem FnM.intro {B:Base}{f:FuncId}{fn:Func}{c:Code}{args:List SV}{Φ:Phi}{pre:Prop}{res:SV}{Φ':Phi}{N:Nat}(L:List Nat) (pl:List (Nat×List Nat)) (n:Nat)
  (call:∀ (vs:Array Value) (w:World),(callFunc f vs).run B.P w=.ok (.enter f vs) w)
  (hf:B.P.funcs[f]?=some fn) (hb:fn.body=some c) (hN:fn.ntmps=N) (hok:(Nat.ble args.length N&&codeOk N pl c)=true)
  (h:pre->vc B L pl c (qiF B.P fn.results.toList res Φ Φ') (qOZ 0 args) Φ n) (hY:B.Y.len=0:=by rfl):FnM B f args Φ pre res Φ':=
 ⟨call,fun hp=>qeQ L pl n hf hb hN hok (h hp) hY⟩
theorem CallS.norm {B:Base}{f:FuncId}{args:List SV}{σ:Env}{Φ:Phi}{n:Nat}{K:EK}{args':List SV}{σ':Env}{Φ':Phi}{n':Nat}(h:(args, σ, Φ,n)=(args', σ', Φ',n')) [I:Inl B f] (hl:Nat.ble args'.length I.N=true)
  (k:vc B I.L I.pl I.c (qzQ B.P I.fn.results.toList fun sv Φ2 n2=>gcP (fun i => !(sv.okIds (fun j => !Nat.beq j i))) Φ' Φ2 Φ2 fun Φ''=>qLR Φ' σ' fun σ2=>bif qRT Φ'' Φ' then K sv σ2 Φ'' n' else K sv σ2 Φ'' n2) (qOZ 0 args') Φ' n'):CallS B f args σ Φ n K:=by
 cases h;exact CallS.inl hl k
theorem qAG {p:Prop}(h:true=false):p:=nomatch h
theorem qAH {p:Prop}(h:false=true):p:=nomatch h
theorem Fn.lift {B:Base}{f:FuncId}{args:List SV}{pre:Prop}{res:SV}
  (call:∀ (vs:Array Value) (w:World),(callFunc f vs).run B.P w=.ok (.enter f vs) w)
  (h:pre->∀ (r:Mem) (β:qBD) (w:World) (vs:List Value),B.G r->MemSat r β [] w->qA5 r β args vs->
   ∃ v,Calls B.P f vs.toArray w (fun e w'=>e=.returned v/\w'=w)/\Rel r β res v):Fn B f args pre res:=by
 refine⟨call,fun hp r β w vs hG m hl=>?_⟩
 obtain⟨v,hc,hr⟩:=h hp r β w vs hG m hl;refine hc.mono fun e w' hh=>?_
 obtain⟨rfl,rfl⟩:=hh;exact⟨v,res,r, β,[],rfl,⟨rfl,rfl⟩,hr,m,Mem.le_refl r,Hid.refl ..⟩
theorem qA5.str1 {r:Mem}{β:qBD}{s:List UInt8}{vs:List Value}(h:qA5 r β [.str s] vs):vs=[.string ⟨s.toArray⟩]/\s.length<=9223372036854775807:=by
 obtain⟨hl,h⟩:=h
 match vs,hl with
 | [a],_=>
  have h0:=h 0 _ a rfl rfl;cases h0 with
  | str k=>exact⟨rfl,k⟩
theorem qA5.str2 {r:Mem}{β:qBD}{s t:List UInt8}{vs:List Value}(h:qA5 r β [.str s,.str t] vs):
  vs=[.string ⟨s.toArray⟩,.string ⟨t.toArray⟩]/\s.length<=9223372036854775807/\t.length<=9223372036854775807:=by
 obtain⟨hl,h⟩:=h
 match vs,hl with
 | [a,b],_=>
  have h0:=h 0 _ a rfl rfl;have h1:=h 1 _ b rfl rfl;cases h0 with
  | str k=>cases h1 with
   | str k1=>exact⟨rfl,k,k1⟩
end Go.Vc

namespace Go.Vc
set_option autoImplicit false
structure ItFin (len:Nat) (Φ:Phi):Prop where
 h:(∃ i,Phi.get Φ GID=some (.gh (some i))/\i=len)\/Phi.get Φ GID=some (.gh none)
def qhI (len:Nat) (Φ:Phi):Prop:=
 match Phi.get Φ GID with
 | some (.gh none)=>True
 | some (.gh (some i))=>Ob (i=len)
 | _=>False
theorem qfY {len:Nat}{Φ:Phi}(h:qhI len Φ):ItFin len Φ:=by
 unfold qhI at h;split at h
 ·rename_i h1;exact⟨.inr h1⟩
 ·rename_i i h1;exact⟨.inl ⟨i,h1,h.h⟩⟩
 ·exact h.elim
def zF1 (P:Program) (rs:List ResultVar) (len:Nat):KT:=fun e σ Φ _=>
 match e with
 | .exit _=>False
 | _=>qfF P σ Φ rs fun _=>qhI len Φ
theorem qaG {n:Nat}{Φ:Phi}(h:qOM n Φ=true) (k:Nat) (ch) (hg:Phi.get Φ k=some ch):qR6 n ch=true:=by
 induction Φ with
 | nil=>simp[Phi.get] at hg
 | cons x r ih=>
  obtain⟨k0,c⟩:=x;simp only[qOM,yAD] at h;rw[qAQ] at hg;cases hb:Nat.beq k0 k with
  | true=>rw[hb] at hg;simp at hg;subst hg;exact h.1
  | false=>rw[hb] at hg;exact ih h.2 hg
def zFP (J:Nat->(Nat->Prop)->World->Prop) (Jx:(Nat->Prop)->World->Prop):Option Nat->(Nat->Prop)->World->Prop
 | some i,S,w=>J i S w
 | none,S,w=>Jx S w
structure ItE (r0:Mem) (J:Nat->(Nat->Prop)->World->Prop) (Jx:(Nat->Prop)->World->Prop) (e:Entry):Prop where
 r:e.r=r0
 lo:e.lo=fun D=>¬e.S D
 h:∃ oi,e.Φ=[(GID,.gh oi)]/\e.β GID=ghV oi/\zFP J Jx oi e.S e.w
section
variable {B:Base}{len:Nat}{at_:Nat->List SV}{l:Nat}{r0:Mem}{J:Nat->(Nat->Prop)->World->Prop}{Jx:(Nat->Prop)->World->Prop}
 (hJ:∀ i S w,J i S w->(∀ b,S b->b<w.heap.size/\r0 b=none)/\∀ w',Oth r0 S w w'->J i S w')
 (hJx:∀ S w,Jx S w->(∀ b,S b->b<w.heap.size/\r0 b=none)/\∀ w',Oth r0 S w w'->Jx S w')
include hJ hJx
theorem ItE.fam:FamOk (ItE r0 J Jx):=by
 refine⟨fun e he D hD=>?_,fun e e' he he' id ch h hk=>?_⟩
 ·rw[he.lo];intro hS;obtain⟨oi,_,_,h3⟩:=he.h;have:D<e.w.heap.size:=by
   cases oi with
   | some i=>exact((hJ _ _ _ h3).1 D hS).1
   | none=>exact((hJx _ _ h3).1 D hS).1
  omega
 ·obtain⟨oi,h1,_,_⟩:=he.h;obtain⟨oi',h1',_,_⟩:=he'.h;rw[h1'] at h;rw[h1];rw[qAQ] at h;cases hb:Nat.beq GID id with
  | true=>rw[hb] at h;simp at h;subst h;exact⟨.gh oi,by rw[qAQ,hb];rfl,rfl⟩
  | false=>rw[hb] at h;simp[Phi.get] at h
theorem ItE.now {B':Base}{e N r β σ Φ a w}(he:ItE r0 J Jx e) (s:Sat B' e N r β σ Φ a w) {oi}(hg:Phi.get Φ GID=some (.gh oi)) {w2:World}(hw:Oth r0 e.S w w2):
  zFP J Jx oi e.S w2:=by
 obtain⟨oi',h1,h2,h3⟩:=he.h;have hk:=(s.kept.keep GID (.gh oi') (by rw[h1];rfl) (by simp[Chunk.kind])).1
 have hc:=s.mem.chs GID _ hg;have:oi=oi':=by
  cases hc with
  | gh hx=>rw[hk,h2] at hx;exact(qkG hx).symm
 subst this;have ho:Oth r0 e.S e.w w2:=⟨hw.os.trans s.kept.os,hw.tape.trans s.kept.tape,hw.output.trans s.kept.output,yAX s.kept.size hw.size,fun b hb=>(hw.same b hb).trans (s.kept.block b hb).1,hw.old⟩
 cases oi with
 | some i=>exact(hJ _ _ _ h3).2 _ ho
 | none=>exact(hJx _ _ h3).2 _ ho
theorem ItE.yok (hY:∀ i S w r β vs,J i S w->i<len->r0.le r->(∀ b o,r b=some o->w.heap[b]?=some o)->(∀ b,S b->r b=none)->qA5 r β (at_ i) vs->qGA B.P l vs w fun e w'=>∃ b S',e=.returned (.bool b)/\Own S w w'/\(∀ x,S' x->S x\/w.heap.size<=x)/\(bif b then J (i+1) S' w' else Jx S' w')) (N:Nat):
  YOk (B.withY ⟨l,len,at_⟩) (ItE r0 J Jx) N:=by
 intro e r β σ Φ a w i vs hF s hg hi hvs hfσ hfΦ;have hr0:r0.le r:=by rw[<-hF.r];exact s.kept.le
 have hnow:=hF.now hJ hJx s hg (w2:=w) ⟨rfl,rfl,rfl,yAW _,fun _ _=>rfl,fun b o h=>s.mem.vis b o (hr0 b o h)⟩
 refine(hY i e.S w r β vs hnow hi hr0 s.mem.vis (fun b hb=>(s.kept.block b hb).2.1) hvs).mono ?_
 rintro en w' ⟨b,S',rfl,hown,hS',hb⟩;obtain⟨oi,hoi⟩:∃ oi:Option Nat,oi=bif b then some (i+1) else none:=⟨_,rfl⟩
 obtain⟨β',hβ⟩:∃ β':qBD, β'=fun id=>bif Nat.beq GID id then ghV oi else β id:=⟨_,rfl⟩
 have hin:zFP J Jx oi S' w':=by
  cases b<;>subst hoi<;>exact hb
 have hlt:∀ x,S' x->x<w'.heap.size/\r0 x=none:=by
  intro x hx;cases oi with
  | some i=>exact(hJ _ _ _ hin).1 x hx
  | none=>exact(hJx _ _ hin).1 x hx
 have hβg:β' GID=ghV oi:=by rw[hβ];simp
 have hβo:∀ id,(!Nat.beq id GID)=true->β' id=β id:=by
  intro id hid;have:Nat.beq GID id=false:=by
   cases hq:Nat.beq GID id with
   | false=>rfl
   | true=>rw[<-qAM hq] at hid;simp at hid
  rw[hβ];simp[this]
 have ngid:∀ {id ch},Phi.get Φ id=some ch->(∀ oi,ch≠.gh oi)\/id=id:=fun _=>.inr rfl
 refine⟨b,rfl,⟨r0,S',fun D=>¬S' D, β',[(GID,.gh oi)],w'⟩,⟨rfl,rfl,oi,rfl,hβg,hin⟩,fun Φ' hΦ'=>⟨β',?_⟩⟩
 rw[<-hoi] at hΦ';have other:∀ {j ch},Phi.get Φ' j=some ch->(j=GID/\ch=.gh oi)\/((!Nat.beq j GID)=true/\Phi.get Φ j=some ch):=by
  intro j ch h;rw[hΦ'] at h;cases hq:Nat.beq GID j with
  | true=>rw[hq] at h;simp at h;exact .inl ⟨(qAM hq).symm,h.symm⟩
  | false=>
   rw[hq] at h;refine .inr ⟨?_,h⟩;cases hq':Nat.beq j GID with
   | false=>rfl
   | true=>rw[qAM hq'] at hq;simp at hq
 have hidn:∀ {x},S' x->r x=none/\∀ id ch,Phi.get Φ id=some ch->¬ch.hb (β id) x:=by
  intro x hx;rcases hS' x hx with h|h
  ·exact(s.kept.block x h).2
  ·refine⟨?_,fun id ch h1 h2=>by have:=qE8 s.mem h1 h2;omega⟩
   cases hq:r x with
   | none=>rfl
   | some o=>have:=lt_of_heap (s.mem.vis x o hq);omega
 have heap:∀ x,x<w.heap.size->¬e.S x->w'.heap[x]?=w.heap[x]?:=hown.same;refine⟨?_,⟨fun b o h=>?_,fun id ch hi'=>?_,fun id ch b hi' hb'=>?_,fun id id' ch ch' b h1 h2 h3 h4=>?_⟩,s.G,⟨hr0,rfl,rfl,rfl,yAW _,fun x hx=>⟨rfl,(hidn hx).1,fun id ch hi' hb'=>?_⟩,fun id ch hi' hk=>?_,fun x hx=>(hlt x hx).1⟩,?_,s.size⟩
 ·refine s.agree.of fun k g sv hk=>⟨sv,hk,fun v hr=>?_⟩
  exact hr.bind (p:=fun i => !Nat.beq i GID) hβo (qHY hfσ k g sv hk)
 ·have h1:=s.mem.vis b o h;rw[heap b (lt_of_heap h1) (fun hS=>by rw[(s.kept.block b hS).2.1] at h;cases h)]
  exact h1
 ·rcases other hi' with⟨rfl,rfl⟩|⟨hne,hg'⟩
  ·exact .gh hβg
  ·have hc:=s.mem.chs id ch hg';have hfc:=qaG hfΦ id ch hg';have e1:β' id=β id:=hβo id hne;rw[e1];have h2:ch.Sat r β w' (β id):=hc.keep (Mem.le_refl r) (fun b hb'=>heap b (qE8 s.mem hg' hb') (fun hS=>(s.kept.block b hS).2.2 id ch hg' hb')) (fun _ _ _ _ _ _ _ h=>h)
   refine h2.keep (Mem.le_refl r) (fun _ _=>rfl) fun _ cells hcl i sv v h3 h4=>?_
   subst hcl;exact h4.bind (p:=fun i => !Nat.beq i GID) hβo (SV.okIdsL_get (by simpa[qR6] using hfc) i sv h3)
 ·rcases other hi' with⟨rfl,rfl⟩|⟨hne,hg'⟩
  ·cases hb'
  ·rw[hβo id hne] at hb';exact s.mem.sep id ch b hg' hb'
 ·rcases other h1 with⟨rfl,rfl⟩|⟨hne,hg1⟩
  ·cases h3
  ·rcases other h2 with⟨rfl,rfl⟩|⟨hne',hg2⟩
   ·cases h4
   ·rw[hβo id hne] at h3;rw[hβo id' hne'] at h4;exact s.mem.nod id id' ch ch' b hg1 hg2 h3 h4
 ·rcases other hi' with⟨rfl,rfl⟩|⟨hne,hg'⟩
  ·cases hb'
  ·rw[hβo id hne] at hb';exact(hidn hx).2 id ch hg' hb'
 ·have hi':Phi.get [(GID,Chunk.gh oi)] id=some ch:=hi';rw[qAQ] at hi';cases hq:Nat.beq GID id with
  | true=>
   obtain rfl:=qAM hq;rw[hq] at hi';simp at hi';subst hi';exact⟨rfl,.gh oi,by rw[hΦ'];simp,rfl⟩
  | false=>rw[hq] at hi';simp[Phi.get] at hi'
 ·obtain⟨Ds,h1,h2,h3⟩:=s.defers;refine⟨Ds,h1,h2,fun D hD=>?_⟩
  obtain⟨g1,g2,g3,g4⟩:=h3 D hD;rw[hF.lo] at g1;have hDw:=lt_of_heap g2;refine⟨fun hS=>?_,(heap D hDw g1).trans g2,g3,fun id ch hi' hb'=>?_⟩
  ·rcases hS' D hS with h|h
   ·exact g1 h
   ·omega
  ·rcases other hi' with⟨rfl,rfl⟩|⟨hne,hg'⟩
   ·cases hb'
   ·rw[hβo id hne] at hb';exact g4 id ch hg' hb'
end
theorem It.intro {B:Base}{f:FuncId}{fn:Func}{c:Code}{caps:List SV}{pre:Prop}{len:Nat}{at_:Nat->List SV}{N:Nat}(L:List Nat) (pl:List (Nat×List Nat)) (n:Nat)
    (call:∀ (vs:Array Value) (w:World),(callFunc f vs).run B.P w=.ok (.enter f vs) w)
    (hf:B.P.funcs[f]?=some fn) (hb:fn.body=some c) (hN:fn.ntmps=N) (hok:(Nat.ble (caps.length+1) N&&(codeOk N pl c&&SV.okIdsL (fun _=>false) caps))=true)
    (h:pre->∀ l,vc (B.withY ⟨l,len,at_⟩) L pl c (zF1 B.P fn.results.toList len) (qOZ 0 (.v (qR4 l)::caps)) [(GID,.gh (some 0))] n):It B f caps pre len at_:=by
  refine⟨call,fun hpre l r0 J Jx hJ hJx hY β w vs S hG m hl hJ0=>?_⟩
  have h:=h hpre l;simp only[yAD] at hok;obtain⟨hlen,hok,hcap⟩:=hok;have hlen:=yAV hlen;obtain⟨βi,hβi⟩:∃ βi:qBD, βi=fun _=>ghV (some 0):=⟨_,rfl⟩
  have hrel:qA5 r0 βi (.v (qR4 l)::caps) (qR4 l::vs):=by
    refine qA5.cons .v ⟨hl.1,fun i sv v h1 h2=>(hl.2 i sv v h1 h2).bind (p:=fun _=>false) (fun _ h=>by cases h) (SV.okIdsL_get hcap i sv h1)⟩
  generalize hargs:(SV.v (qR4 l)::caps)=args at h hrel;have halen:args.length<=N:=by rw[<-hargs];simpa using hlen
  generalize (qR4 l::vs)=vs at hrel;refine qEN (ro:=none) (n:=0) |>.1 ?_
  refine callsIn_of_wp_marks hf hb trivial ?_ rfl;have hvl:vs.length=args.length:=hrel.1;have hsz:vs.toArray.size=args.length:=by simpa using hvl
  rw[hN];have hget:∀ (k:Nat) (v:Value),vs[k]?=some v->(vs.toArray++Array.replicate (N-vs.toArray.size) undef)[k]?=some v:=by
    intro k v hk;have:k<vs.length:=qAV hk;rw[yAB (by simpa using this)]
    simpa using hk
  have hbound:=(hJ _ _ _ hJ0).1;have he0:ItE r0 J Jx ⟨r0,S,fun D=>¬S D, βi,[(GID,.gh (some 0))],w⟩:=⟨rfl,rfl,some 0,rfl,by rw[hβi],hJ0⟩
  have mi:MemSat r0 βi [(GID,.gh (some 0))] w:=by
    have one:∀ {id ch},Phi.get [(GID,Chunk.gh (some 0))] id=some ch->ch=.gh (some 0):=by
      intro id ch h;rw[qAQ] at h;cases hq:Nat.beq GID id with
      | true=>rw[hq] at h;simp at h;exact h.symm
      | false=>rw[hq] at h;simp[Phi.get] at h
    refine⟨m.vis,fun id ch h=>?_,fun id ch b h h1=>?_,fun id id' ch ch' b h h' h1=>?_⟩
    · rw[one h];exact .gh (by rw[hβi])
    · rw[one h] at h1;cases h1
    · rw[one h] at h1;cases h1
  have s:Sat (B.withY ⟨l,len,at_⟩) ⟨r0,S,fun D=>¬S D, βi,[(GID,.gh (some 0))],w⟩ N r0 βi (qOZ 0 args) [(GID,.gh (some 0))] { tmps:=vs.toArray++Array.replicate (N-vs.toArray.size) undef,defers:=[] } w:=by
    refine⟨fun k g sv hg=>?_,mi,hG,⟨Mem.le_refl _,rfl,rfl,rfl,yAW _,fun b hb=>⟨rfl,(hbound b hb).2,fun id ch hi hbk=>?_⟩,fun id ch hi _=>⟨rfl,ch,hi,rfl⟩,fun b hb=>(hbound b hb).1⟩,⟨[],rfl,yAS,fun D hD=>(yAT hD).elim⟩,by simp;omega⟩
    · obtain⟨rfl,_,hk⟩:=qHL hg
      have hk:args[k]?=some sv:=by simpa using hk
      obtain⟨v,hv⟩:=qFF hvl hk;exact⟨v,hget k v hv,hrel.2 k sv v hk hv⟩
    · rw[qAQ] at hi
      cases hq:Nat.beq GID id with
      | true=>rw[hq] at hi;simp at hi;subst hi;cases hbk
      | false=>rw[hq] at hi;simp[Phi.get] at hi
  have hng:qFL (qOZ 0 args):=fun k g sv hg=>(qHL hg).1
  refine wpIn_mono (qMV (B:=B.withY ⟨l,len,at_⟩) c hok (ItE r0 J Jx) (ItE.yok hJ hJx hY N) (ItE.fam hJ hJx) none (.inl rfl) _ (fun l σ Φ n h=>h) _ r0 βi (qOZ 0 args) _ n _ w he0 h s hng) fun ex a' w' hq=>?_
  have fin:∀ {ex},(∀ i,ex≠Ex.exit i)->Out (B.withY ⟨l,len,at_⟩) (ItE r0 J Jx) N (zF1 B.P fn.results.toList len) ex a' w'->
      LeavesInM (fc none) 0 B.P fn a'.tmps (fun e w'=>(∃ v,e=.returned v)/\∃ S',J len S' w'\/Jx S' w') a'.defers .returning w':=by
    intro ex hex ⟨e',r', β', σ', Φ1,n',he',hk,s',_⟩;have hk:qfF B.P σ' Φ1 fn.results.toList fun _=>qhI len Φ1:=by
      cases ex with
      | exit i=>exact(hex i rfl).elim
      | normal=>exact hk
      | ret=>exact hk
    obtain⟨ls,hfin,hl'⟩:=qK0 hk;obtain⟨Ds,hds,hnd,hD⟩:=s'.defers;rw[hds];refine qHE (r:=r') (β:=β') (Φ:=Φ1) (lo:=e'.lo) Ds w' hnd hD s'.mem fun w2 m2 e1 e2 e3 e4 e5=>?_
    obtain⟨us,hus,hrun⟩:=hl' r' β' a' w2 s'.agree m2;refine⟨_,qIM hrun,⟨_,rfl⟩,e'.S,?_⟩;have hle:r0.le r':=by rw[<-he'.r];exact s'.kept.le
    have ho:Oth r0 e'.S w' w2:=⟨e1,e2,e3,by rw[e4];exact yAW _,fun b hb=>e5 b (by rw[he'.lo];exact fun h=>h hb),fun b o hb=>m2.vis b o (hle b o hb)⟩
    rcases(qfY hfin).h with⟨i,hg,rfl⟩|hg
    · exact .inl (he'.now hJ hJx s' hg ho)
    · exact .inr (he'.now hJ hJx s' hg ho)
  cases ex with
  | normal=>exact fin (by intro i h;cases h) hq
  | ret=>exact fin (by intro i h;cases h) hq
  | exit i=>
    obtain⟨_,r', β', σ', Φ1,n',_,hk,_⟩:=hq;exact hk.elim
  | goto l=>exact hq.elim
  | panic ch=>exact hq.elim
  | outgrown=>exact hq.elim
theorem ZA {p:Prop}[Decidable p]:(decide p=true)=p:=decide_eq_true_eq
theorem ZB {p:Prop}[Decidable p]:decide p=false↔¬p:=decide_eq_false_iff_not
theorem ZC.{u}{α:Type u}[BEq α] [LawfulBEq α] {a b:α}:(a==b)=true↔a=b:=beq_iff_eq
theorem ZD.{u}{α:Type u}[BEq α] [LawfulBEq α] {a b:α}:(a==b)=false↔a≠b:=beq_eq_false_iff_ne
theorem ZE.{u}{α:Type u}[BEq α] [LawfulBEq α] {a b:α}:(a != b)=true↔a≠b:=bne_iff_ne
theorem ZF.{u}{α:Type u}[BEq α] [LawfulBEq α] {a b:α}:(a != b)=false↔a=b:=bne_eq_false_iff_eq
theorem ZG.{u}{α:Sort u}(a b:α):(a≠b)=¬(a=b):=ne_eq a b
theorem ZH (a b:Bool):((a&&b)=true)=(a=true/\b=true):=yAD a b
theorem ZI (a b:Bool):((a||b)=true)=(a=true\/b=true):=yAH a b
theorem ZJ (b:Bool):(¬b=true)=(b=false):=Bool.not_eq_true b
theorem ZK (b:Bool):(¬b=false)=(b=true):=Bool.not_eq_false b
theorem ZL (b:Bool):((!b)=true)=(b=false):=yAF b
theorem ZM (b:Bool):((!b)=false)=(b=true):=Bool.not_eq_false' b
theorem ZN {a b:Int}:¬a<b↔b<=a:=Int.not_lt
theorem ZO {a b:Int}:¬a<=b↔b<a:=Int.not_le
abbrev W1:=@CallG.plain
abbrev W2:=@CallG.mk
abbrev W3:=@CallG.nwl
abbrev W4:=@CallG.nw
abbrev W5:=@CallF.nwl
abbrev W6:=@CallF.nw
abbrev W7:=@CallM.mk
theorem qR {p:Prop}(h:p:=by first|(with_reducible first|rfl|exact qAG|exact qAH)|exact True.intro):p:=h
abbrev WA:=@And.intro
abbrev WF:=@Fin.mk
abbrev WN:=@AppN.mk
abbrev X1:=@CallS.q
abbrev X2:=@CallS.m
abbrev X3:=@CallS.h
abbrev X4:=@CallS.b
abbrev X5:=@CallS.z
abbrev X7:=@CallS.norm
abbrev X8:=@RdG.norm
end Go.Vc

namespace Go.Vc
set_option autoImplicit false
open Go.RowKit
theorem Fn.liftB {B:Base}{f:FuncId}{args:List SV}{pre:Prop}{res:SV}
  (call:∀ (vs:Array Value) (w:World),(callFunc f vs).run B.P w=.ok (.enter f vs) w)
  (h:pre->∀ (r:Mem) (β:qBD) (w:World) (vs:List Value),B.G r->MemSat r β [] w->qA5 r β args vs->
   ∃ v,Calls B.P f vs.toArray w (fun e w'=>e=.returned v/\Below w.heap.size w w')/\Rel r β res v):Fn B f args pre res:=by
 refine⟨call,fun hp r β w vs hG m hl=>?_⟩
 obtain⟨v,hc,hr⟩:=h hp r β w vs hG m hl;refine hc.mono fun e w' hh=>?_
 obtain⟨rfl,hb⟩:=hh;refine⟨v,res,r, β,[],rfl,⟨rfl,rfl⟩,hr,⟨fun b o h=>?_,fun _ _ h=>(by cases h),fun _ _ _ h=>(by cases h),fun _ _ _ _ _ h=>(by cases h)⟩,Mem.le_refl r,
  ⟨hb.os,hb.tape,hb.output,hb.size,fun b hb' h1 h2=>⟨hb.block b hb',h1,h2⟩,fun _ _ h=>(by cases h)⟩⟩
 have:=m.vis b o h;rw[hb.block b (lt_of_heap this)];exact this
end Go.Vc
