/- A part of the proof: lemmas and walks that the last text of the claim joins; no condition. -/
import Derived.Test.YtjnmepijcndcpaaGreatSlotPartsTH
import Derived.Test.YtjnmepijcndcpaaGreatSlotPartsTG
import Derived.Test.YtjnmepijcndcpaaGreatSlotPartsVF
open Bool renaming and_eq_false_iff→yAA,and_eq_true→yAB,and_false→yAC,not_eq_true'→yAD,or_eq_false_iff→yAE,or_eq_true→yAF
open Int renaming le_refl→yAG,ofNat_lt→yAH,toNat_natCast→yAI
open List renaming all_append→yAJ,all_cons→yAK,all_eq_true→yAL,all_nil→yAM,any_eq_true→yAN,cons_append→yAO,drop_drop→yAP,filter_eq_self→yAQ,getD_eq_getElem?_getD→yAR,getElem?_append_left→yAS,getElem?_append_right→yAT,getElem?_eq_getElem→yAU,getElem?_eq_none→yAV,getElem_mem→yAW,getElem_of_mem→yAX,length_append→yAY,length_cons→yAZ,length_nil→yA0,length_replicate→yA1,length_set→yA2,length_singleton→yA3,length_take→yA4,mem_iff_getElem→yA5,take_length→yA6,take_of_length_le→yA7
open Nat renaming add_comm→yA8,le_refl→yA9,le_succ_of_le→yBA,le_trans→yBB,lt_or_ge→yBC,lt_succ_self→yBD,not_lt_zero→yBE,sub_self→yBF,succ_le_succ→yBG,zero_le→yBH
open UInt8 renaming ofNat_toNat→yBI
set_option linter.unusedVariables false
set_option linter.unusedSimpArgs false
set_option maxHeartbeats 8000000
namespace Go.Vc
open Go.Proofs
set_option autoImplicit false
theorem zD1 {K:Nat->List Int}{s i j f s'}(d:D K s i j f s'):∀ {g s''},D K s i j g s''->f=g/\s'=s'':=by
 induction d with
 | done h=>
  intro g s'' e;cases e with
  | done _=>exact⟨rfl,rfl⟩
  | bad h2 _ _=>exact absurd h2 h
  | ok h2 _ _ _=>exact absurd h2 h
 | bad h hk d ih=>
  intro g s'' e;cases e with
  | done h2=>exact absurd h h2
  | bad _ _ d2=>exact ih d2
  | ok _ hk2 _ _=>rw[hk] at hk2;cases hk2
 | ok h hk d1 d2 ih1 ih2=>
  intro g s'' e;cases e with
  | done h2=>exact absurd h h2
  | bad _ hk2 _=>rw[hk] at hk2;cases hk2
  | ok _ _ e1 e2=>
   obtain⟨a,b⟩:=ih1 e1;subst a;subst b;obtain⟨a,b⟩:=ih2 e2;subst a;subst b;exact⟨rfl,rfl⟩
noncomputable def qPK (t:List qAD):Fo:=if t=[] then .nil else Classical.choose (zAR (K:=qAC t) (s0 t.length) 0 0)
theorem qP2 {t:List qAD}(h:t≠[]):∃ s',D (qAC t) (s0 t.length) 0 0 (qPK t) s':=by
 unfold qPK;rw[if_neg h];exact Classical.choose_spec (zAR (K:=qAC t) (s0 t.length) 0 0)
theorem qcH {t:List qAD}(h:t≠[]) {f s'}(d:D (qAC t) (s0 t.length) 0 0 f s'):qPK t=f:=by
 obtain⟨s2,d2⟩:=qP2 h;exact(zD1 d2 d).1
theorem qPF:qPK []=.nil:=by unfold qPK;rw[if_pos rfl]
noncomputable def qDO (t:List qAD):FD:=fdO t (qPK t)
theorem qPQ {t:List qAD}(h:t≠[]):(fin t).L.length=(qDO t).size+1:=by
 obtain⟨s',d⟩:=qP2 h;rw[qQL h d,yAZ,qEY];unfold qDO;rw[qQG]
abbrev qVB:=List UInt8×List UInt8×List UInt8
abbrev qA8:=List UInt8×List UInt8×List UInt8×List UInt8×List UInt8×List qVB
abbrev qlI:List UInt8:=[105,100]
abbrev qWP:List UInt8:=[110,97,109,101]
abbrev qV8:List UInt8:=[102,111,114,109]
abbrev qAI:List UInt8:=[104,116,109,108]
abbrev qAN:List UInt8:=[104,101,97,100]
abbrev qAR:List UInt8:=[116,105,116,108,101]
abbrev qCI:List UInt8:=[98,111,100,121]
abbrev qCP:List UInt8:=[100,105,118]
def atE (n v:List UInt8):List qAY:=if v=[] then[] else[(n,v)]
def qX9 (id lb fm:List UInt8):List qAY:=atE qlI id++atE qWP lb++atE qV8 fm
def qAE (tag id lb fm:List UInt8):qAD:=((1:Int),(0:Int),tag,qX9 id lb fm,([]:List UInt8),(0:Int),([]:List Int))
def qn7 (s:List UInt8):qAD:=((2:Int),(0:Int),([]:List UInt8),([]:List qAY),s,(0:Int),([]:List Int))
def qAO:qAD:=((4:Int),(0:Int),([]:List UInt8),([]:List qAY),qAI,(0:Int),([]:List Int))
def qAT (s:List UInt8):FD:=if s=[] then .nil else .cons (qn7 s) .nil .nil
def qF7:List qVB->FD
 | []=>.nil
 | c::l=>.cons (qAE c.1 c.2.1 c.2.2 []) .nil (qF7 l)
def qLV (vo:List UInt8->Bool) (p:qA8):FD:=(if vo p.1=true then .nil else qAT p.2.2.2.2.1).app (qF7 p.2.2.2.2.2)
def qAU (vo:List UInt8->Bool):List qA8->FD
 | []=>.nil
 | p::l=>.cons (qAE p.1 p.2.1 p.2.2.1 p.2.2.2.1) (qLV vo p) (qAU vo l)
def qB5:List (List UInt8)->FD->FD
 | [],S=>.cons (qAE qCP [] [] []) S .nil
 | a::l,S=>.cons (qAE a [] [] []) (qB5 l S) .nil
def qLZ (ti:List UInt8):FD:=.cons (qAE qAR [] [] []) (qAT ti) .nil
def qRR (vo:List UInt8->Bool) (be:List qA8) (ar:List (List UInt8)) (af:List qA8) (S:FD):FD:=(qAU vo be).app ((qB5 ar S).app (qAU vo af))
def qDC (vo:List UInt8->Bool) (ti:List UInt8) (be:List qA8) (ar:List (List UInt8)) (af:List qA8) (S:FD):FD:=
 .cons qAO .nil (.cons (qAE qAI [] [] []) (.cons (qAE qAN [] [] []) (qLZ ti) (.cons (qAE qCI [] [] []) (qRR vo be ar af S) .nil)) .nil)
theorem qEM:∀ l:List qVB,(qF7 l).size=l.length
 | []=>rfl
 | c::l=>by simp only[qF7,FD.size,qEM l,yAZ];omega
theorem qIT (s:List UInt8):(qAT s).size<=1:=by unfold qAT;split<;>simp[FD.size]
theorem qZV (vo:List UInt8->Bool) (p:qA8) (h:p.2.2.2.2.2.length<=8):(qLV vo p).size<=9:=by
 unfold qLV;rw[qHS,qEM];have:=qIT p.2.2.2.2.1;split
 ·simp only[FD.size];omega
 ·omega
theorem qEV (vo:List UInt8->Bool):∀ l:List qA8,(∀ p∈l,p.2.2.2.2.2.length<=8)->(qAU vo l).size<=10*l.length
 | [],_=>by simp[qAU,FD.size]
 | p::l,h=>by
  have h1:=qZV vo p (h p List.mem_cons_self);have h2:=qEV vo l fun q hq=>h q (List.mem_cons_of_mem _ hq)
  simp only[qAU,FD.size,yAZ];omega
theorem qG9 (S:FD):∀ l:List (List UInt8),(qB5 l S).size=l.length+1+S.size
 | []=>by simp[qB5,FD.size]
 | a::l=>by simp only[qB5,FD.size,qG9 S l,yAZ];omega
theorem qNH (vo:List UInt8->Bool):∀ (l:List qA8) (n:Nat),(qC8 n (qAU vo l)).length=l.length
 | [],_=>rfl
 | p::l,n=>by simp only[qAU,qC8,yAZ,qNH vo l]
theorem qdH (vo:List UInt8->Bool) (ti:List UInt8) (be:List qA8) (ar:List (List UInt8)) (af:List qA8) (S:FD) (h1:∀ p∈be,p.2.2.2.2.2.length<=8) (h2:∀ p∈af,p.2.2.2.2.2.length<=8):
  (qDC vo ti be ar af S).size<=7+10*be.length+ar.length+S.size+10*af.length:=by
 have a1:=qEV vo be h1;have a2:=qEV vo af h2;have a3:=qIT ti;simp only[qDC,qRR,qLZ,FD.size,qHS,qG9];omega
def qGO (t:List qAD) (i k:Int):Int:=
 if i<0\/i>=t.length then 0 else
 let l:=(nd t i).kids
 let j:=if k<0 then k+l.length else k
 if j<0\/j>=l.length then 0 else l.getD j.toNat 0
def qPG (t:List qAD) (i:Int) (nm:List UInt8):Bool:=if i<=0\/i>=t.length then false else(nd t i).1==1&&(nd t i).2.1==0&&(nd t i).2.2.1==nm
def goT (t:List qAD):List (List UInt8)->Int->Int
 | [],i=>if qPG t i qCP=true then i else 0
 | a::l,i=>if qPG t i a=true then goT t l (qGO t i 0) else 0
def qL7 (t:List qAD) (nb:Nat) (ar:List (List UInt8)):Int:=
 if qPG t (qGO t 0 (-1)) qAI=true then
  if qPG t (qGO t (qGO t 0 (-1)) (-1)) qCI=true then goT t ar (qGO t (qGO t (qGO t 0 (-1)) (-1)) nb) else 0
 else 0
theorem qQ8 {u:List qAD}{n:Nat}(h:(u.getD n qAB.dflt).1=1):n<u.length:=by
 rcases yBC n u.length with q|q
 ·exact q
 ·rw[yAR,yAV q] at h;exact absurd h (by decide)
theorem qRK {u:List qAD}{n:Nat}{tag id lb fm:List UInt8}{p:Int}{ks:List Int}(h0:0<n) (h:u.getD n qAB.dflt=qIJ (mkN (qAE tag id lb fm) p) ks):qPG u n tag=true:=by
 have hl:=qQ8 (u:=u) (n:=n) (by rw[h];rfl)
 have e:nd u (n:Int)=qIJ (mkN (qAE tag id lb fm) p) ks:=by show u.getD ((n:Int)).toNat qAB.dflt=_;rw[yAI,h]
 unfold qPG;rw[if_neg (by omega),e]
 show((1:Int)==1&&(0:Int)==0&&tag==tag)=true;simp
theorem qcL {u:List qAD}{n:Nat}{ks:List Int}(hl:n<u.length) (h:(u.getD n qAB.dflt).kids=ks) (k:Nat) (hk:k<ks.length):qGO u n k=ks.getD k 0:=by
 have e:(nd u (n:Int)).kids=ks:=by show(u.getD ((n:Int)).toNat qAB.dflt).kids=_;rw[yAI,h]
 unfold qGO;rw[if_neg (by omega),e]
 simp only[];rw[if_neg (by omega:¬(k:Int)<0),if_neg (by omega),yAI]
theorem qTA {u:List qAD}{n:Nat}{ks:List Int}(hl:n<u.length) (h:(u.getD n qAB.dflt).kids=ks) (k:Nat) (hk:ks.length=k+1):qGO u n (-1)=ks.getD k 0:=by
 have e:(nd u (n:Int)).kids=ks:=by show(u.getD ((n:Int)).toNat qAB.dflt).kids=_;rw[yAI,h]
 unfold qGO;rw[if_neg (by omega),e]
 simp only[];rw[if_pos (by omega:(-1:Int)<0),if_neg (by omega),show(-1+(ks.length:Int)).toNat=k by omega]
theorem qSS (S:FD):∀ (ar:List (List UInt8)) (n:Nat),Loc (qB5 ar S) n (n+ar.length) (qAE qCP [] [] []) S
 | [],n=>.here
 | a::l,n=>by
  have:=qSS S l (n+1);rw[show n+1+l.length=n+(a::l).length by rw[yAZ];omega] at this
  exact .kid this
theorem qtH {u:List qAD}(S:FD):∀ (ar:List (List UInt8)) (n p:Nat) (e:FD),0<n->qR3 u ((qB5 ar S).app e) n p->goT u ar n=((n+ar.length:Nat):Int)
 | [],n,p,e,h0,h=>by
  have h1:u.getD n qAB.dflt=qIJ (mkN (qAE qCP [] [] []) p) (qC8 (n+1) S):=h.1;unfold goT;rw[if_pos (qRK h0 h1)];rfl
 | a::l,n,p,e,h0,h=>by
  have h1:u.getD n qAB.dflt=qIJ (mkN (qAE a [] [] []) p) (qC8 (n+1) (qB5 l S)):=h.1;have h2:qR3 u (qB5 l S) (n+1) n:=h.2.1;unfold goT;rw[if_pos (qRK h0 h1)];have hl:=qQ8 (u:=u) (n:=n) (by rw[h1];rfl)
  have ht:∃ r,qC8 (n+1) (qB5 l S)=((n+1:Nat):Int)::r:=by
   cases l with
   | nil=>exact⟨_,rfl⟩
   | cons b l=>exact⟨_,rfl⟩
  obtain⟨r,hr⟩:=ht;have hk:qGO u n 0=((n+1:Nat):Int):=by
   have:=qcL (u:=u) (n:=n) (ks:=((n+1:Nat):Int)::r) hl (by rw[h1,hr];rfl) 0 (by simp)
   exact this
  rw[hk];have:=qtH (u:=u) S l (n+1) n .nil (by omega) (by rw[qeI];exact h2)
  rw[this,yAZ,show n+1+l.length=n+(l.length+1) by omega]
def qDM (ti:List UInt8):Nat:=5+(qAT ti).size
def qJ1 (vo:List UInt8->Bool) (ti:List UInt8) (be:List qA8) (ar:List (List UInt8)):Nat:=qDM ti+1+(qAU vo be).size+ar.length
theorem qiM (vo:List UInt8->Bool) (ti:List UInt8) (be:List qA8) (ar:List (List UInt8)) (af:List qA8) (S:FD):Loc (qDC vo ti be ar af S) 1 (qJ1 vo ti be ar) (qAE qCP [] [] []) S:=by
 refine .next (.kid (.next (.kid ?_)));have h:Loc (qRR vo be ar af S) (qDM ti+1) (qJ1 vo ti be ar) (qAE qCP [] [] []) S:=Loc.app_r _ _ (Loc.app_l (qSS S ar _) _);have e:1+1+FD.nil.size+1+1+(qLZ ti).size+1=qDM ti+1:=by simp only[qDM,qLZ,FD.size];omega
 rw[e];exact h
theorem qdG (vo:List UInt8->Bool) (ti:List UInt8) (be:List qA8) (ar:List (List UInt8)) (af:List qA8) (S:FD):
  qL7 (mkT (qDC vo ti be ar af S)) be.length ar=(qJ1 vo ti be ar:Int):=by
 obtain⟨F,hF⟩:∃ F,F=qDC vo ti be ar af S:=⟨_,rfl⟩;rw[<-hF];have hr:=qJE F;have hlu:∀ u,qR3 u F 1 0->qR3 u (qDC vo ti be ar af S) 1 0:=fun u h=>by rw[<-hF];exact h
 have hl:=hlu _ (qRP F);have hlen:=qJ2 F;obtain⟨B,hB⟩:∃ B,B=qRR vo be ar af S:=⟨_,rfl⟩;unfold qDC at hl;rw[<-hB] at hl;obtain⟨_,_,h2,h3,_⟩:=hl;obtain⟨_,_,h5,h6,_⟩:=h3;have e0:(1+1+FD.nil.size:Nat)=2:=rfl;have eb:(1+1+FD.nil.size+1+1+(qLZ ti).size:Nat)=qDM ti:=by simp only[qDM,qLZ,FD.size];omega
 rw[eb] at h5 h6;rw[e0] at h2;have t0:qC8 1 F=[((1:Nat):Int),((2:Nat):Int)]:=by rw[hF];rfl
 have k0:qGO (mkT F) 0 (-1)=((2:Nat):Int):=by
  have:=qTA (u:=mkT F) (n:=0) (ks:=[((1:Nat):Int),((2:Nat):Int)]) (by omega) (by rw[hr,t0];rfl) 1 rfl
  exact this
 have t2:qC8 (2+1) (.cons (qAE qAN [] [] []) (qLZ ti) (.cons (qAE qCI [] [] []) B .nil))=[((3:Nat):Int),((qDM ti:Nat):Int)]:=by
  simp only[qC8];rw[show 2+1+1+(qLZ ti).size=qDM ti from eb]
 rw[t2] at h2;have k2:qGO (mkT F) ((2:Nat):Int) (-1)=((qDM ti:Nat):Int):=qTA (u:=mkT F) (n:=2) (ks:=[((3:Nat):Int),((qDM ti:Nat):Int)]) (qQ8 (by rw[h2];rfl)) (by rw[h2];rfl) 1 rfl
 have tb:qC8 (qDM ti+1) B=qC8 (qDM ti+1) (qAU vo be)++qC8 (qDM ti+1+(qAU vo be).size) ((qB5 ar S).app (qAU vo af)):=by rw[hB];exact qSW _ _ _
 have ta:∃ r,qC8 (qDM ti+1+(qAU vo be).size) ((qB5 ar S).app (qAU vo af))=((qDM ti+1+(qAU vo be).size:Nat):Int)::r:=by
  cases ar with
  | nil=>exact⟨_,rfl⟩
  | cons b l=>exact⟨_,rfl⟩
 obtain⟨r,hr2⟩:=ta;rw[hr2] at tb;have hpl:=qNH vo be (qDM ti+1);have kb:qGO (mkT F) ((qDM ti:Nat):Int) be.length=((qDM ti+1+(qAU vo be).size:Nat):Int):=by
  rw[qcL (u:=mkT F) (n:=qDM ti) (ks:=qC8 (qDM ti+1) B) (qQ8 (by rw[h5];rfl)) (by rw[h5];rfl) be.length (by rw[tb,yAY,hpl,yAZ];omega),tb,yAR,yAT (by omega),hpl,yBF]
  rfl
 have hA:∀ (a:FD) (n:Nat) {b:FD}{p:Nat},qR3 (mkT F) (a.app b) n p->qR3 (mkT F) b (n+a.size) p:=by
  intro a
  induction a with
  | nil=>intro n b p h;exact h
  | cons x c r _ ir=>
   intro n b p h;have:=ir (n+1+c.size) h.2.2;rw[show n+1+c.size+r.size=n+(FD.cons x c r).size by simp only[FD.size];omega] at this
   exact this
 have hg:goT (mkT F) ar ((qDM ti+1+(qAU vo be).size:Nat):Int)=((qDM ti+1+(qAU vo be).size+ar.length:Nat):Int):=
  qtH (u:=mkT F) S ar _ (qDM ti) (qAU vo af) (by omega) (hA (qAU vo be) _ (by rw[hB] at h6;exact h6))
 unfold qL7;rw[k0,if_pos (qRK (by omega) h2),k2,if_pos (qRK (by unfold qDM;omega) h5),kb,hg]
 rfl
theorem qiT (vo:List UInt8->Bool) (ti:List UInt8) (be:List qA8) (ar:List (List UInt8)) (af:List qA8) (S:FD):
  qUK (qJ1 vo ti be ar) 1 (qDC vo ti be ar af S)=qDC vo ti be ar af .nil:=by
 have hA:∀ (ar:List (List UInt8)) (n:Nat),qUK (n+ar.length) n (qB5 ar S)=qB5 ar .nil:=by
  intro ar
  induction ar with
  | nil=>intro n;simp only[qB5,qUK,yA0,Nat.add_zero,if_true]
  | cons a l ih=>
   intro n;simp only[qB5,qUK,yAZ];rw[if_neg (by omega),show n+(l.length+1)=n+1+l.length by omega,ih]
 have eb:(1+1+FD.nil.size+1+1+(qLZ ti).size:Nat)=qDM ti:=by simp only[qDM,qLZ,FD.size];omega
 have hb:qDM ti=5+(qAT ti).size:=rfl;have hs:qJ1 vo ti be ar=qDM ti+1+(qAU vo be).size+ar.length:=rfl;have hB:qUK (qJ1 vo ti be ar) (qDM ti+1) (qRR vo be ar af S)=qRR vo be ar af .nil:=by
  unfold qRR;rw[qPU,qPU,qW7 _ (qAU vo be) _ (by omega),hs,hA,qW7 _ (qAU vo af) _ (by rw[qG9];omega)]
 unfold qDC;simp only[qUK];rw[eb,hB,if_neg (by omega),if_neg (by omega),if_neg (by omega),if_neg (by omega),qW7 _ (qLZ ti) _ (by simp only[qLZ,FD.size];omega)]
theorem qg8 (vo:List UInt8->Bool) (ti:List UInt8) (be:List qA8) (ar:List (List UInt8)) (af:List qA8) {t:List qAD}(h:t≠[]):
  0<qJ1 vo ti be ar/\((qE2 (mkT (qDC vo ti be ar af (qDO t))) (qJ1 vo ti be ar)).length:Int)=(fin t).L.length-1/\
   qCL (qC9 (mkT (qDC vo ti be ar af (qDO t))) (qJ1 vo ti be ar))=mkT (qDC vo ti be ar af .nil):=by
 have hl:=qiM vo ti be ar af (qDO t);have hb:=hl.bnd;refine⟨by omega,?_,?_⟩
 ·rw[qeW hl,qPQ h];omega
 ·rw[qO9 (by omega) (by omega),qiT]
end Go.Vc

namespace Go.Vc.W
open Go.Proofs
set_option maxRecDepth 10000
def qqK (out:List (List UInt8)) (w:List UInt8):List (List UInt8):=if out.contains w then out else out++[w]
def once (l:List (List UInt8)):List (List UInt8):=l.foldl qqK []
end Go.Vc.W

namespace Go.Vc.W
open Go.Proofs
set_option maxRecDepth 10000
def marks (L:List (List UInt8)):List (List UInt8×Int):=L.map fun w=>(w,1)
def qMY (l:List (List UInt8)) (m:Int):Bool:=decide ((l.length:Int)<=m)&&l.all fun w=>decide (w.length<=100)
instance fWords (l:List (List UInt8)) (m:Int):Fn BB 57 [.rd .str l,.int .i64 m] True (.bool (qMY l m)):=by
 refine Fn.intro (N:=21) [0,1,4,6,10,11,12,13,14,19] [] Tryz.call57 Tryz.func57 rfl rfl (by kernel_rfl) (fun hpre=>?_)
 repeat'((conv=>whnf);first|exact qR|intro _|refine And.intro ?_ ?_|refine Fin.mk ?_)
 all_goals(try(conv=>whnf))
 all_goals(try simp only[ZA,ZB,ZC,ZD,ZE,ZF,ZG,ZH,ZI,ZJ,ZK,ZL,ZM,ZN,ZO,yAA,yAE,ge_iff_le,gt_iff_lt,yAI,yBI,cast_eq] at *)
 ·have:decide ((l.length:Int)<=m)=false:=decide_eq_false (by omega)
  simp[qMY,this]
 ·refine LoopStop.mk (α:=Nat) (fun i=>[(13,.int .i64 i)]) (fun i=>[]) 60 (fun i=>i<=l.length/\(l.take i).all (fun w=>decide (w.length<=100))=true) (fun i=>l.length-i) 0 (by simp) ?_ (fun i hi=>?_)
  ·all_goals exact vcA
  ·obtain⟨h1,h2⟩:=hi
   repeat'((conv=>whnf);first|exact qR|intro _|refine And.intro ?_ ?_|refine Fin.mk ?_)
   all_goals(try(conv=>whnf))
   all_goals(try first|exact obA|refine Ob.mk ?_)
   all_goals(try(simp only[yAI,Int.reduceToNat,Ty.dflt,cast_eq] at *))
   all_goals(try simp only[ZA,ZB,ZC,ZD,ZE,ZF,ZG,ZH,ZI,ZJ,ZK,ZL,ZM,ZN,ZO,yAA,yAE,ge_iff_le,gt_iff_lt,yAI,yBI,cast_eq] at *)
   all_goals(try omega)
   all_goals(try(have hlt:i<l.length:=by omega))
   all_goals(try(have ht:=take_snoc l i [] hlt))
   ·have hm:l.getD i []∈l:=by simp[List.getD,yAU hlt]
    have:(l.all fun w=>decide (w.length<=100))=false:=by
     rw[List.all_eq_false];exact⟨_,hm,by rw[decide_eq_true_eq];omega⟩
    rw[qMY,this,yAC]
   ·refine Rnd.mk ⟨i+1,?_,?_,?_⟩
    ·exact⟨hlt,by rw[ht,yAJ,h2,yAK,yAM,decide_eq_true (by omega)];rfl⟩
    ·omega
    ·all_goals exact vcA
   ·have e:i=l.length:=by omega
    rw[e,yA6] at h2;rw[qMY,h2,decide_eq_true (by omega)];rfl
end Go.Vc.W

namespace Go.Vc
open Go.Proofs
open Go.Vc.W
set_option maxRecDepth 10000
set_option maxHeartbeats 4000000
abbrev pd (l:List qA8) (i:Nat):qA8:=l.getD i qCA.dflt
abbrev cd (l:List qVB) (i:Nat):qVB:=l.getD i qWM.dflt
def ctF (cs:List qVB) (i:Nat):Option Bool:=bif (decide (((cd cs i).1.length:Int)>40)||decide (((cd cs i).2.1.length:Int)>100)||decide (((cd cs i).2.2.length:Int)>100)) then some false else none
def qE6 (nm id lb fm tx:List UInt8) (cs:List qVB):Bool:=bif decide ((nm.length:Int)>40)||decide ((id.length:Int)>100)||decide ((lb.length:Int)>100)||decide ((fm.length:Int)>100)||decide ((tx.length:Int)>200)||decide ((cs.length:Int)>8) then false else scU (ctF cs) true cs.length 0
instance bPlPart (nm id lb fm tx:List UInt8) (cs:List qVB):Fn BB 58 [.agg [.str nm,.str id,.str lb,.str fm,.str tx,.rd qWM cs]] True (.bool (qE6 nm id lb fm tx cs)):=by
 refine Fn.intro (N:=63) [0,1,2,4,38,40,41,42,43,61] [] Tryz.call58 Tryz.func58 rfl rfl (by kernel_rfl) (fun hpre=>?_)
 repeat'((conv=>whnf);first|exact qR|intro _|refine And.intro ?_ ?_|refine Fin.mk ?_)
 all_goals(try(conv=>whnf))
 all_goals(try(unfold qE6;rw[qDN ‹_›];done))
 have red:qE6 nm id lb fm tx cs=scU (ctF cs) true cs.length 0:=by unfold qE6;rw[qA3 ‹_›]
 rw[red];refine LoopStop.mk (α:=Nat) (fun i=>[(42,.int .i64 i)]) (fun _=>[]) 40 (fun i=>i<=cs.length/\scU (ctF cs) (true) (cs.length-i) i=scU (ctF cs) (true) cs.length 0) (fun i=>cs.length-i) 0 ⟨yBH _,rfl⟩ ?_ (fun i hi=>?_)
 ·all_goals exact vcA
 ·obtain⟨hi,halli⟩:=hi;rw[<-halli];have f1i:(decide (((cd cs i).1.length:Int)>40)||decide (((cd cs i).2.1.length:Int)>100)||decide (((cd cs i).2.2.length:Int)>100))=true->(ctF cs) i=some false:=fun h=>by show(bif (decide (((cd cs i).1.length:Int)>40)||decide (((cd cs i).2.1.length:Int)>100)||decide (((cd cs i).2.2.length:Int)>100)) then some false else none)=_;rw[h];rfl
  have f2i:(decide (((cd cs i).1.length:Int)>40)||decide (((cd cs i).2.1.length:Int)>100)||decide (((cd cs i).2.2.length:Int)>100))=false->(ctF cs) i=none:=fun h=>by show(bif (decide (((cd cs i).1.length:Int)>40)||decide (((cd cs i).2.1.length:Int)>100)||decide (((cd cs i).2.2.length:Int)>100)) then some false else none)=_;rw[h];rfl
  repeat'((conv=>whnf);first|exact qR|intro _|refine And.intro ?_ ?_|refine Fin.mk ?_)
  all_goals(try(conv=>whnf))
  all_goals(try first|exact obA|refine Ob.mk ?_)
  all_goals(try simp only[yAI] at *)
  all_goals(try(have hl:i<cs.length:=by have h:=of_decide_eq_true ‹decide ((i:Int)<((cs.length:Nat):Int))=true›;omega))
  all_goals(try(rw[qBQ hl (f1i ‹_›)];done))
  all_goals(try(refine Rnd.mk ⟨i+1,⟨by omega,(qBV hl (f2i ‹_›)).symm⟩,by omega,?_⟩))
  repeat'((conv=>whnf);first|exact qR|refine And.intro ?_ ?_)
  all_goals(try(conv=>whnf))
  all_goals(try first|exact obA|refine Ob.mk ?_)
  all_goals(first|rfl|(rw[qCR (by have h:=of_decide_eq_false ‹decide ((i:Int)<((cs.length:Nat):Int))=false›;omega)];done)|(simp;done)|trace_state)
def plF (l:List qA8) (i:Nat):Option Bool:=bif !qE6 (pd l i).1 (pd l i).2.1 (pd l i).2.2.1 (pd l i).2.2.2.1 (pd l i).2.2.2.2.1 (pd l i).2.2.2.2.2 then some false else none
def qOR (ti:List UInt8) (be:List qA8) (ar:List (List UInt8)) (af:List qA8):Bool:=
 bif decide ((ti.length:Int)>200)||decide ((be.length:Int)>24)||decide ((af.length:Int)>24) || !qMY ar 8 then false else scU (plF be) (scU (plF af) true af.length 0) be.length 0
instance bPlPage (ti:List UInt8) (be:List qA8) (ar:List (List UInt8)) (af:List qA8):Fn BB 12 [.agg [.str ti,.rd qCA be,.rd .str ar,.rd qCA af]] True (.bool (qOR ti be ar af)):=by
 refine Fn.intro (N:=51) [0,1,2,4,6,28,30,31,32,33,38,41,42,43,44,49] [] Tryz.call12 Tryz.func12 rfl rfl (by kernel_rfl) (fun hpre=>?_)
 repeat'((conv=>whnf);first|exact qR|intro _|refine WA ?_ ?_|refine WF ?_|refine W1 rfl ?_ ?_)
 all_goals(try(conv=>whnf))
 all_goals(try first|exact obA|refine Ob.mk ?_)
 all_goals(try(unfold qOR;rw[qDN ‹_›];done))
 have red:qOR ti be ar af=scU (plF be) (scU (plF af) true af.length 0) be.length 0:=by unfold qOR;rw[qA3 ‹_›]
 rw[red];refine LoopStop.mk (α:=Nat) (fun i=>[(32,.int .i64 i)]) (fun _=>[]) 40 (fun i=>i<=be.length/\scU (plF be) (scU (plF af) true af.length 0) (be.length-i) i=scU (plF be) (scU (plF af) true af.length 0) be.length 0) (fun i=>be.length-i) 0 ⟨yBH _,rfl⟩ ?_ (fun i hi=>?_)
 ·all_goals exact vcA
 ·obtain⟨hi,halli⟩:=hi;rw[<-halli];have f1i:(!qE6 (pd be i).1 (pd be i).2.1 (pd be i).2.2.1 (pd be i).2.2.2.1 (pd be i).2.2.2.2.1 (pd be i).2.2.2.2.2)=true->(plF be) i=some false:=fun h=>by show(bif (!qE6 (pd be i).1 (pd be i).2.1 (pd be i).2.2.1 (pd be i).2.2.2.1 (pd be i).2.2.2.2.1 (pd be i).2.2.2.2.2) then some false else none)=_;rw[h];rfl
  have f2i:(!qE6 (pd be i).1 (pd be i).2.1 (pd be i).2.2.1 (pd be i).2.2.2.1 (pd be i).2.2.2.2.1 (pd be i).2.2.2.2.2)=false->(plF be) i=none:=fun h=>by show(bif (!qE6 (pd be i).1 (pd be i).2.1 (pd be i).2.2.1 (pd be i).2.2.2.1 (pd be i).2.2.2.2.1 (pd be i).2.2.2.2.2) then some false else none)=_;rw[h];rfl
  repeat'((conv=>whnf);first|exact qR|intro _|refine WA ?_ ?_|refine WF ?_|refine X1 (W1 rfl ?_ ?_))
  all_goals(try(conv=>whnf))
  all_goals(try first|exact obA|refine Ob.mk ?_)
  all_goals(try simp only[yAI] at *)
  all_goals(try(have hl:i<be.length:=by have h:=of_decide_eq_true ‹decide ((i:Int)<((be.length:Nat):Int))=true›;omega))
  all_goals(try(rw[qBQ hl (f1i ‹_›)];done))
  all_goals(try(refine Rnd.mk ⟨i+1,⟨by omega,(qBV hl (f2i ‹_›)).symm⟩,by omega,?_⟩))
  all_goals(try(rw[qCR (by have h:=of_decide_eq_false ‹decide ((i:Int)<((be.length:Nat):Int))=false›;omega)]))
  rotate_left
  refine LoopStop.mk (α:=Nat) (fun j=>[(43,.int .i64 j)]) (fun _=>[]) 80 (fun j=>j<=af.length/\scU (plF af) (true) (af.length-j) j=scU (plF af) (true) af.length 0) (fun j=>af.length-j) 0 ⟨yBH _,rfl⟩ ?_ (fun j hj=>?_)
  ·all_goals exact vcA
  ·obtain⟨hj,hallj⟩:=hj;rw[<-hallj];have f1j:(!qE6 (pd af j).1 (pd af j).2.1 (pd af j).2.2.1 (pd af j).2.2.2.1 (pd af j).2.2.2.2.1 (pd af j).2.2.2.2.2)=true->(plF af) j=some false:=fun h=>by show(bif (!qE6 (pd af j).1 (pd af j).2.1 (pd af j).2.2.1 (pd af j).2.2.2.1 (pd af j).2.2.2.2.1 (pd af j).2.2.2.2.2) then some false else none)=_;rw[h];rfl
   have f2j:(!qE6 (pd af j).1 (pd af j).2.1 (pd af j).2.2.1 (pd af j).2.2.2.1 (pd af j).2.2.2.2.1 (pd af j).2.2.2.2.2)=false->(plF af) j=none:=fun h=>by show(bif (!qE6 (pd af j).1 (pd af j).2.1 (pd af j).2.2.1 (pd af j).2.2.2.1 (pd af j).2.2.2.2.1 (pd af j).2.2.2.2.2) then some false else none)=_;rw[h];rfl
   repeat'((conv=>whnf);first|exact qR|intro _|refine WA ?_ ?_|refine WF ?_|refine X1 (W1 rfl ?_ ?_))
   all_goals(try(conv=>whnf))
   all_goals(try first|exact obA|refine Ob.mk ?_)
   all_goals(try simp only[yAI] at *)
   all_goals(try(have hl:j<af.length:=by have h:=of_decide_eq_true ‹decide ((j:Int)<((af.length:Nat):Int))=true›;omega))
   all_goals(try(rw[qBQ hl (f1j ‹_›)];done))
   all_goals(try(refine Rnd.mk ⟨j+1,⟨by omega,(qBV hl (f2j ‹_›)).symm⟩,by omega,?_⟩))
   repeat'((conv=>whnf);first|exact qR|refine And.intro ?_ ?_)
   all_goals(try(conv=>whnf))
   all_goals(try first|exact obA|refine Ob.mk ?_)
   all_goals(first|rfl|(rw[qCR (by have h:=of_decide_eq_false ‹decide ((j:Int)<((af.length:Nat):Int))=false›;omega)];done)|(simp;done)|trace_state)
  all_goals exact vcA
end Go.Vc

namespace Go.Vc
open Go.Proofs
open Go.Vc.W
set_option maxRecDepth 10000
set_option maxHeartbeats 4000000
noncomputable def name45 (s px:List UInt8):Bool:=qGC s&&(s==[]||decide ((s.length:Int)<(px.length:Int)) || !(s.take px.length==px))
instance bName45 (s px:List UInt8):Fn BB 132 [.str s,.str px] (s.length<=100000) (.bool (name45 s px)):=by
 refine Fn.intro (N:=26) [0,1,4] [] Tryz.call132 Tryz.func132 rfl rfl (by kernel_rfl) (fun hpre=>?_)
 repeat'((conv=>whnf);first|exact qR|intro _|refine WA ?_ ?_|refine WF ?_|refine X1 (W1 rfl ?_ ?_))
 all_goals(try(conv=>whnf))
 all_goals(try first|exact obA|refine Ob.mk ?_)
 ·rename_i h;rw[yAE] at h;have:=of_decide_eq_false h.2;omega
 all_goals(first|rfl|(unfold name45;rw[yAI];done)|trace_state)
noncomputable def qm8 (px:List UInt8) (cs:List qVB) (i:Nat):Option Bool:=bif (!qOE [98,117,116,116,111,110,32,105,110,112,117,116,32,115,101,108,101,99,116,32,116,101,120,116,97,114,101,97] (cd cs i).1 || !name45 (cd cs i).2.1 px || !name45 (cd cs i).2.2 px) then some false else none
noncomputable def qE3 (nm id lb fm tx:List UInt8) (cs:List qVB) (px:List UInt8):Bool:=
 bif !qOE [97,32,98,117,116,116,111,110,32,100,105,118,32,102,111,114,109,32,104,49,32,105,109,103,32,105,110,112,117,116,32,112,32,115,101,99,116,105,111,110,32,115,112,97,110] nm||decide ((cs.length:Int)>0) && !nm==[102,111,114,109] then false else
 bif !name45 id px || !name45 lb px || !name45 fm px || !qGC tx then false else scU (qm8 px cs) true cs.length 0
def qGB (p:qA8):Prop:=p.1.length<=40/\p.2.1.length<=100/\p.2.2.1.length<=100/\p.2.2.2.1.length<=100/\p.2.2.2.2.1.length<=200/\p.2.2.2.2.2.length<=8/\∀ i:Nat,(cd p.2.2.2.2.2 i).1.length<=40/\(cd p.2.2.2.2.2 i).2.1.length<=100/\(cd p.2.2.2.2.2 i).2.2.length<=100
instance bPart45 (nm id lb fm tx:List UInt8) (cs:List qVB) (px:List UInt8):Fn BB 73 [.agg [.str nm,.str id,.str lb,.str fm,.str tx,.rd qWM cs],.str px] (qGB (nm,id,lb,fm,tx,cs)) (.bool (qE3 nm id lb fm tx cs px)):=by
 refine Fn.intro (N:=77) [0,1,2,4,5,6,21,46,51,76] [] Tryz.call73 Tryz.func73 rfl rfl (by kernel_rfl) (fun hpre=>?_)
 obtain⟨h1,h2,h3,h4,h5,h6,h7⟩:=hpre;dsimp only at h1 h2 h3 h4 h5 h6 h7
 repeat'((conv=>whnf);first|exact qR|intro _|refine WA ?_ ?_|refine WF ?_|refine W1 rfl ?_ ?_|refine X1 (W1 rfl ?_ ?_))
 all_goals(try(conv=>whnf))
 all_goals(try first|exact obA|refine Ob.mk ?_)
 all_goals(try(first|decide|omega))
 all_goals(try(unfold qE3;rw[qDN ‹_›];done))
 all_goals(try(unfold qE3;rw[qA3 ‹_›,qDN ‹_›];done))
 have red:qE3 nm id lb fm tx cs px=scU (qm8 px cs) true cs.length 0:=by unfold qE3;rw[qA3 ‹_›,qA3 ‹_›]
 rw[red];refine LoopStop.mk (α:=Nat) (fun i=>[(5,.int .i64 i)]) (fun _=>[]) 40 (fun i=>i<=cs.length/\scU (qm8 px cs) (true) (cs.length-i) i=scU (qm8 px cs) (true) cs.length 0) (fun i=>cs.length-i) 0 ⟨yBH _,rfl⟩ ?_ (fun i hi=>?_)
 ·all_goals exact vcA
 ·obtain⟨hi,halli⟩:=hi;rw[<-halli];have f1i:(!qOE [98,117,116,116,111,110,32,105,110,112,117,116,32,115,101,108,101,99,116,32,116,101,120,116,97,114,101,97] (cd cs i).1 || !name45 (cd cs i).2.1 px || !name45 (cd cs i).2.2 px)=true->(qm8 px cs) i=some false:=fun h=>by show(bif (!qOE [98,117,116,116,111,110,32,105,110,112,117,116,32,115,101,108,101,99,116,32,116,101,120,116,97,114,101,97] (cd cs i).1 || !name45 (cd cs i).2.1 px || !name45 (cd cs i).2.2 px) then some false else none)=_;rw[h];rfl
  have f2i:(!qOE [98,117,116,116,111,110,32,105,110,112,117,116,32,115,101,108,101,99,116,32,116,101,120,116,97,114,101,97] (cd cs i).1 || !name45 (cd cs i).2.1 px || !name45 (cd cs i).2.2 px)=false->(qm8 px cs) i=none:=fun h=>by show(bif (!qOE [98,117,116,116,111,110,32,105,110,112,117,116,32,115,101,108,101,99,116,32,116,101,120,116,97,114,101,97] (cd cs i).1 || !name45 (cd cs i).2.1 px || !name45 (cd cs i).2.2 px) then some false else none)=_;rw[h];rfl
  repeat'((conv=>whnf);first|exact qR|intro _|refine WA ?_ ?_|refine WF ?_|refine W1 rfl ?_ ?_|refine X1 (W1 rfl ?_ ?_))
  all_goals(try(conv=>whnf))
  all_goals(try first|exact obA|refine Ob.mk ?_)
  all_goals(try simp only[yAI] at *)
  all_goals(try(exact(yBB (h7 i).2.1 (by decide))))
  all_goals(try(exact(yBB (h7 i).2.2 (by decide))))
  all_goals(try(exact(by decide)))
  all_goals(try(have hl:i<cs.length:=by have h:=of_decide_eq_true ‹decide ((i:Int)<((cs.length:Nat):Int))=true›;omega))
  all_goals(try(rw[qBQ hl (f1i ‹_›)];done))
  all_goals(try(refine Rnd.mk ⟨i+1,⟨by omega,(qBV hl (f2i ‹_›)).symm⟩,by omega,?_⟩))
  repeat'((conv=>whnf);first|exact qR|refine And.intro ?_ ?_)
  all_goals(try(conv=>whnf))
  all_goals(try first|exact obA|refine Ob.mk ?_)
  all_goals(first|rfl|(rw[qCR (by have h:=of_decide_eq_false ‹decide ((i:Int)<((cs.length:Nat):Int))=false›;omega)];done)|(simp;done)|trace_state)
noncomputable def qR2 (px:List UInt8) (l:List qA8) (i:Nat):Option Bool:=bif !qE3 (pd l i).1 (pd l i).2.1 (pd l i).2.2.1 (pd l i).2.2.2.1 (pd l i).2.2.2.2.1 (pd l i).2.2.2.2.2 px then some false else none
def qnO (ar:List (List UInt8)) (i:Nat):Option Bool:=bif !qOE [97,114,116,105,99,108,101,32,100,105,118,32,109,97,105,110,32,115,101,99,116,105,111,110] (ar.getD i []) then some false else none
noncomputable def qIR (ti:List UInt8) (be:List qA8) (ar:List (List UInt8)) (af:List qA8) (px:List UInt8):Bool:=
 bif decide ((be.length:Int)+(af.length:Int)>20)||decide ((ar.length:Int)>5) || !qGC ti then false else
 scU (qnO ar) (scU (qR2 px be) (scU (qR2 px af) true af.length 0) be.length 0) ar.length 0
def qNF (ti:List UInt8) (be:List qA8) (ar:List (List UInt8)) (af:List qA8):Prop:=ti.length<=200/\be.length<=24/\af.length<=24/\ar.length<=8/\(∀ i:Nat,qGB (pd be i))/\∀ i:Nat,qGB (pd af i)
instance bRight45 (ti:List UInt8) (be:List qA8) (ar:List (List UInt8)) (af:List qA8) (px:List UInt8):Fn BB 18 [.agg [.str ti,.rd qCA be,.rd .str ar,.rd qCA af],.str px] (qNF ti be ar af) (.bool (qIR ti be ar af px)):=by
 refine Fn.intro (N:=72) [0,1,2,4,5,6,7,27,32,41,46,56,61,71] [] Tryz.call18 Tryz.func18 rfl rfl (by kernel_rfl) (fun hpre=>?_)
 obtain⟨h1,h2,h3,h4,h5,h6⟩:=hpre
 repeat'((conv=>whnf);first|exact qR|intro _|refine WA ?_ ?_|refine WF ?_|refine W1 rfl ?_ ?_)
 all_goals(try(conv=>whnf))
 all_goals(try first|exact obA|refine Ob.mk ?_)
 all_goals(try(first|decide|omega))
 all_goals(try(unfold qIR;rw[qDN ‹_›];done))
 have red:qIR ti be ar af px=scU (qnO ar) (scU (qR2 px be) (scU (qR2 px af) true af.length 0) be.length 0) ar.length 0:=by unfold qIR;rw[qA3 ‹_›]
 rw[red];refine LoopStop.mk (α:=Nat) (fun i=>[(5,.int .i64 i)]) (fun _=>[]) 40 (fun i=>i<=ar.length/\scU (qnO ar) (scU (qR2 px be) (scU (qR2 px af) true af.length 0) be.length 0) (ar.length-i) i=scU (qnO ar) (scU (qR2 px be) (scU (qR2 px af) true af.length 0) be.length 0) ar.length 0) (fun i=>ar.length-i) 0 ⟨yBH _,rfl⟩ ?_ (fun i hi=>?_)
 ·all_goals exact vcA
 ·obtain⟨hi,halli⟩:=hi;rw[<-halli];have f1i:(!qOE [97,114,116,105,99,108,101,32,100,105,118,32,109,97,105,110,32,115,101,99,116,105,111,110] (ar.getD i []))=true->(qnO ar) i=some false:=fun h=>by show(bif (!qOE [97,114,116,105,99,108,101,32,100,105,118,32,109,97,105,110,32,115,101,99,116,105,111,110] (ar.getD i [])) then some false else none)=_;rw[h];rfl
  have f2i:(!qOE [97,114,116,105,99,108,101,32,100,105,118,32,109,97,105,110,32,115,101,99,116,105,111,110] (ar.getD i []))=false->(qnO ar) i=none:=fun h=>by show(bif (!qOE [97,114,116,105,99,108,101,32,100,105,118,32,109,97,105,110,32,115,101,99,116,105,111,110] (ar.getD i [])) then some false else none)=_;rw[h];rfl
  repeat'((conv=>whnf);first|exact qR|intro _|refine WA ?_ ?_|refine WF ?_|refine X1 (W1 rfl ?_ ?_))
  all_goals(try(conv=>whnf))
  all_goals(try first|exact obA|refine Ob.mk ?_)
  all_goals(try simp only[yAI] at *)
  all_goals(try(exact(by decide)))
  all_goals(try(have hl:i<ar.length:=by have h:=of_decide_eq_true ‹decide ((i:Int)<((ar.length:Nat):Int))=true›;omega))
  all_goals(try(rw[qBQ hl (f1i ‹_›)];done))
  all_goals(try(refine Rnd.mk ⟨i+1,⟨by omega,(qBV hl (f2i ‹_›)).symm⟩,by omega,?_⟩))
  all_goals(try(rw[qCR (by have h:=of_decide_eq_false ‹decide ((i:Int)<((ar.length:Nat):Int))=false›;omega)]))
  rotate_left
  refine LoopStop.mk (α:=Nat) (fun j=>[(6,.int .i64 j)]) (fun _=>[]) 80 (fun j=>j<=be.length/\scU (qR2 px be) (scU (qR2 px af) true af.length 0) (be.length-j) j=scU (qR2 px be) (scU (qR2 px af) true af.length 0) be.length 0) (fun j=>be.length-j) 0 ⟨yBH _,rfl⟩ ?_ (fun j hj=>?_)
  ·all_goals exact vcA
  ·obtain⟨hj,hallj⟩:=hj;rw[<-hallj];have f1j:(!qE3 (pd be j).1 (pd be j).2.1 (pd be j).2.2.1 (pd be j).2.2.2.1 (pd be j).2.2.2.2.1 (pd be j).2.2.2.2.2 px)=true->(qR2 px be) j=some false:=fun h=>by show(bif (!qE3 (pd be j).1 (pd be j).2.1 (pd be j).2.2.1 (pd be j).2.2.2.1 (pd be j).2.2.2.2.1 (pd be j).2.2.2.2.2 px) then some false else none)=_;rw[h];rfl
   have f2j:(!qE3 (pd be j).1 (pd be j).2.1 (pd be j).2.2.1 (pd be j).2.2.2.1 (pd be j).2.2.2.2.1 (pd be j).2.2.2.2.2 px)=false->(qR2 px be) j=none:=fun h=>by show(bif (!qE3 (pd be j).1 (pd be j).2.1 (pd be j).2.2.1 (pd be j).2.2.2.1 (pd be j).2.2.2.2.1 (pd be j).2.2.2.2.2 px) then some false else none)=_;rw[h];rfl
   repeat'((conv=>whnf);first|exact qR|intro _|refine WA ?_ ?_|refine WF ?_|refine X1 (W1 rfl ?_ ?_))
   all_goals(try(conv=>whnf))
   all_goals(try first|exact obA|refine Ob.mk ?_)
   all_goals(try simp only[yAI] at *)
   all_goals(try(exact h5 j))
   all_goals(try(have hl:j<be.length:=by have h:=of_decide_eq_true ‹decide ((j:Int)<((be.length:Nat):Int))=true›;omega))
   all_goals(try(rw[qBQ hl (f1j ‹_›)];done))
   all_goals(try(refine Rnd.mk ⟨j+1,⟨by omega,(qBV hl (f2j ‹_›)).symm⟩,by omega,?_⟩))
   all_goals(try(rw[qCR (by have h:=of_decide_eq_false ‹decide ((j:Int)<((be.length:Nat):Int))=false›;omega)]))
   rotate_left
   refine LoopStop.mk (α:=Nat) (fun k=>[(7,.int .i64 k)]) (fun _=>[]) 120 (fun k=>k<=af.length/\scU (qR2 px af) (true) (af.length-k) k=scU (qR2 px af) (true) af.length 0) (fun k=>af.length-k) 0 ⟨yBH _,rfl⟩ ?_ (fun k hk=>?_)
   ·all_goals exact vcA
   ·obtain⟨hk,hallk⟩:=hk;rw[<-hallk];have f1k:(!qE3 (pd af k).1 (pd af k).2.1 (pd af k).2.2.1 (pd af k).2.2.2.1 (pd af k).2.2.2.2.1 (pd af k).2.2.2.2.2 px)=true->(qR2 px af) k=some false:=fun h=>by show(bif (!qE3 (pd af k).1 (pd af k).2.1 (pd af k).2.2.1 (pd af k).2.2.2.1 (pd af k).2.2.2.2.1 (pd af k).2.2.2.2.2 px) then some false else none)=_;rw[h];rfl
    have f2k:(!qE3 (pd af k).1 (pd af k).2.1 (pd af k).2.2.1 (pd af k).2.2.2.1 (pd af k).2.2.2.2.1 (pd af k).2.2.2.2.2 px)=false->(qR2 px af) k=none:=fun h=>by show(bif (!qE3 (pd af k).1 (pd af k).2.1 (pd af k).2.2.1 (pd af k).2.2.2.1 (pd af k).2.2.2.2.1 (pd af k).2.2.2.2.2 px) then some false else none)=_;rw[h];rfl
    repeat'((conv=>whnf);first|exact qR|intro _|refine WA ?_ ?_|refine WF ?_|refine X1 (W1 rfl ?_ ?_))
    all_goals(try(conv=>whnf))
    all_goals(try first|exact obA|refine Ob.mk ?_)
    all_goals(try simp only[yAI] at *)
    all_goals(try(exact h6 k))
    all_goals(try(have hl:k<af.length:=by have h:=of_decide_eq_true ‹decide ((k:Int)<((af.length:Nat):Int))=true›;omega))
    all_goals(try(rw[qBQ hl (f1k ‹_›)];done))
    all_goals(try(refine Rnd.mk ⟨k+1,⟨by omega,(qBV hl (f2k ‹_›)).symm⟩,by omega,?_⟩))
    repeat'((conv=>whnf);first|exact qR|refine And.intro ?_ ?_)
    all_goals(try(conv=>whnf))
    all_goals(try first|exact obA|refine Ob.mk ?_)
    all_goals(first|rfl|(rw[qCR (by have h:=of_decide_eq_false ‹decide ((k:Int)<((af.length:Nat):Int))=false›;omega)];done)|(simp;done)|trace_state)
   all_goals exact vcA
  all_goals exact vcA
end Go.Vc

namespace Go.Vc
open Go.Proofs
open Go.Vc.W
set_option maxRecDepth 10000
theorem qYQ {f:Nat->Option Bool}{d:Bool}(hf:∀ i,f i=some false\/f i=none):∀ m i,scU f d m i=true->(∀ k,i<=k->k<i+m->f k=none)/\d=true:=by
 intro m
 induction m with
 | zero=>intro i h;exact⟨fun k h1 h2=>by omega,h⟩
 | succ m ih=>
  intro i h;rw[scU] at h;rcases hf i with q|q
  ·rw[q] at h;cases h
  ·rw[q] at h;obtain⟨a,b⟩:=ih (i+1) h;refine⟨fun k h1 h2=>?_,b⟩
   by_cases e:k=i
   ·rw[e];exact q
   ·exact a k (by omega) (by omega)
theorem qjB {c:Bool}:(bif c then some false else none)=some false\/(bif c then some false else none)=(none:Option Bool):=by cases c<;>simp
theorem qYE {c:Bool}(h:(bif c then some false else none)=(none:Option Bool)):c=false:=by cases c<;>simp_all
theorem qE9 {c x:Bool}(h:(bif c then false else x)=true):c=false/\x=true:=by cases c<;>simp_all
theorem qNA:qGB qCA.dflt:=⟨by decide,by decide,by decide,by decide,by decide,by decide,fun i=>⟨yBH _,yBH _,yBH _⟩⟩
theorem qkW {p:qA8}(h:qE6 p.1 p.2.1 p.2.2.1 p.2.2.2.1 p.2.2.2.2.1 p.2.2.2.2.2=true):qGB p:=by
 obtain⟨h1,h2⟩:=qE9 h;simp only[yAE,decide_eq_false_iff_not] at h1;refine⟨by omega,by omega,by omega,by omega,by omega,by omega,fun i=>?_⟩
 obtain⟨h3,_⟩:=qYQ (fun i=>qjB) _ _ h2
 rcases yBC i p.2.2.2.2.2.length with hi|hi
 ·have h4:=qYE (h3 i (yBH _) (by omega))
  simp only[yAE,decide_eq_false_iff_not] at h4;exact⟨by omega,by omega,by omega⟩
 ·have e:cd p.2.2.2.2.2 i=qWM.dflt:=by show List.getD _ _ _=_;rw[yAR,yAV hi];rfl
  rw[e];exact⟨yBH _,yBH _,yBH _⟩
theorem qYJ {l:List qA8}{d:Bool}(h:scU (plF l) d l.length 0=true):(∀ i:Nat,qGB (pd l i))/\d=true:=by
 obtain⟨h3,h4⟩:=qYQ (fun i=>qjB) _ _ h
 refine⟨fun i=>?_,h4⟩
 rcases yBC i l.length with hi|hi
 ·have h5:=qYE (h3 i (yBH _) (by omega))
  exact qkW (by simpa using h5)
 ·have e:pd l i=qCA.dflt:=by show List.getD _ _ _=_;rw[yAR,yAV hi];rfl
  rw[e];exact qNA
theorem qkU {ti:List UInt8}{be:List qA8}{ar:List (List UInt8)}{af:List qA8}(h:qOR ti be ar af=true):qNF ti be ar af/\∀ i:Nat,(ar.getD i []).length<=100:=by
 obtain⟨h1,h2⟩:=qE9 h;simp only[yAE,decide_eq_false_iff_not] at h1;obtain⟨h3,h4⟩:=qYJ h2;obtain⟨h5,_⟩:=qYJ h4;have hw:qMY ar 8=true:=by simpa using h1.2
 have ha:ar.length<=8/\∀ i:Nat,(ar.getD i []).length<=100:=by
  unfold qMY at hw;simp only[yAB,decide_eq_true_eq,yAL] at hw;refine⟨by omega,fun i=>?_⟩
  rcases yBC i ar.length with hi|hi
  ·have:=hw.2 _ (yAW hi);rw[yAR,yAU hi];exact by have:=this;show ar[i].length<=100;omega
  ·rw[yAR,yAV hi];exact yBH _
 exact⟨⟨by omega,by omega,by omega,ha.1,h3,h5⟩,ha.2⟩
theorem qdN {ti:List UInt8}{be:List qA8}{ar:List (List UInt8)}{af:List qA8}{px:List UInt8}(h:qIR ti be ar af px=true):be.length+af.length<=20/\ar.length<=5:=by
 obtain⟨h1,_⟩:=qE9 h;simp only[yAE,decide_eq_false_iff_not] at h1;omega
theorem qI4 {l:List qA8}(h:∀ i:Nat,qGB (pd l i)):∀ p∈l,qGB p:=by
 intro p hp;obtain⟨i,hi,rfl⟩:=yAX hp;have:=h i;have e:pd l i=l[i]:=by show List.getD _ _ _=_;rw[yAR,yAU hi];rfl
 rwa [e] at this
end Go.Vc

namespace Go.Vc
open Go.Proofs
set_option maxRecDepth 10000
set_option maxHeartbeats 4000000
theorem mm (a b:Int) (hb:0<=b):(bif true then max 0 (bif false then max a b else min a b) else min 0 (bif false then max a b else min a b))=min (max a 0) b:=by
 show max 0 (min a b)=min (max a 0) b;omega
instance hPut (l:List qAD) (up at_ kid:Int):FnM BB 134 [.loc 0 0,.int .i64 up,.int .i64 at_,.int .i64 kid] [(0,.box [.own 1]),(1,.own qAB l)] (qA4 l=true)
      (.tup []) [(0,.box [.own 1]),(1,.own qAB (qnL l up at_ kid))]:=by
  refine FnM.intro (N:=69) [0,1,2,3,8,34] [(3,[0,0,0,1,0,0,0,0,1,1,1,0,1,3,3,3])] 2 Tryz.call134 Tryz.func134 rfl rfl (by kernel_rfl) (fun hpre=>?_)
  have hsm:=qmJ (kid:=kid) (qpR hpre);have hll:=qFN hpre;have hu:(!isT l up || !isT l kid||kid==0||qFO l kid up)=false->(0<=up/\up<(qWF l kid).length)/\(0<=kid/\kid<(qWF l kid).length)/\((qWF l kid).getD up.toNat qAB.dflt).kids.length<=1000:=by
    intro h;simp only[yAE,Bool.not_eq_false'] at h;have h1:=qBH.1 h.1.1.1;have h2:=qBH.1 h.1.1.2;rw[qY4];exact⟨h1,h2,(hsm.2 up.toNat (by rw[qY4];omega)).2⟩
  have hp1:(!isT l up || !isT l kid||kid==0||qFO l kid up)=true->qnL l up at_ kid=l:=fun h=>by rw[qnL,if_pos h]
  repeat'((conv=>whnf);first|exact qR|intro _|refine WA ?_ ?_|refine WF ?_|refine W1 rfl ?_ ?_|refine W2 rfl ?_ ?_|refine X1 (W1 rfl ?_ ?_)|refine X2 (W7 rfl ?_ ?_))
  all_goals(try(conv=>whnf))
  all_goals(try first|exact obA|refine Ob.mk ?_)
  all_goals(try(have q:=hu ‹(!isT l up || !isT l kid||kid==0||qFO l kid up)=false›;obtain⟨q1,q2,q3⟩:=q))
  all_goals(first|(rw[hp1 ‹_›];done)|exact q1|exact q2|(show Int.toNat _<_;omega)|skip)
  · rw[mm _ _ (by omega)]
    refine⟨by omega,by omega,yBB q3 (by omega)⟩
  · rw[yA2];exact q2
  · rw[yA2];omega
  · rw[qnL,if_neg (by rw[show(!isT l up || !isT l kid||kid==0||qFO l kid up)=false from‹_›];decide),mm _ _ (by omega)]
    rfl
  all_goals trace_state
end Go.Vc

namespace Go.Vc
open Go.Proofs
open Go.Vc.W
set_option maxRecDepth 10000
set_option maxHeartbeats 4000000
def qiR (o:List qAD):Prop:=∀ q,q<o.length->(o.getD q qAB.dflt).up = -1\/(0<=(o.getD q qAB.dflt).up/\(o.getD q qAB.dflt).up<o.length)
def qAF (o:List qAD) (up:Nat) (n:qAD):List qAD:=qBA o up o.length++[mkN n up]
theorem qBJ (o:List qAD) (up:Nat) (n:qAD):(qAF o up n).length=o.length+1:=by unfold qAF;rw[yAY,qA0];rfl
theorem qWK (o:List qAD) (up:Nat) (n:qAD) (h:up<o.length) (q:Nat) (hq:q<o.length):(qAF o up n).getD q qAB.dflt=if q=up then qH4 (o.getD q qAB.dflt) o.length else o.getD q qAB.dflt:=by
 unfold qAF;rw[qQJ _ _ _ (by rw[qA0];exact hq)]
 by_cases e:q=up
 ·subst e;rw[if_pos rfl,qYU _ _ _ h]
 ·rw[if_neg e,qY9 _ _ _ _ e]
theorem qQQ (o:List qAD) (up:Nat) (n:qAD):(qAF o up n).getD o.length qAB.dflt=mkN n up:=by
 have:=qJA (qBA o up o.length) (mkN n up);rw[qA0] at this;exact this
theorem qiQ {o:List qAD}{up:Nat}{n:qAD}(h:qiR o) (hu:up<o.length):qiR (qAF o up n):=by
 intro q hq;rw[qBJ] at hq ⊢;rcases yBC q o.length with hl|hl
 ·rw[qWK o up n hu q hl];have hh:=h q hl;have e:(if q=up then qH4 (o.getD q qAB.dflt) o.length else o.getD q qAB.dflt).up=(o.getD q qAB.dflt).up:=by split<;>rfl
  rw[e];omega
 ·have e:q=o.length:=by omega
  subst e;rw[qQQ]
  right
  show 0<=((up:Nat):Int)/\((up:Nat):Int)<_;omega
theorem qgM {l:List qAD}{m:Nat}(h:∀ q,q<m->(l.getD q qAB.dflt).up = -1\/(0<=(l.getD q qAB.dflt).up/\(l.getD q qAB.dflt).up<m)):∀ (f:Nat) (x:Int),x = -1\/(0<=x/\x<m)->qGZ f l m x=false:=by
 intro f
 induction f with
 | zero=>intro x _;rfl
 | succ f ih=>
  intro x hx;rw[qGZ];split
  ·rename_i hi;have hi:=qBH.1 hi;rw[if_neg (by omega)]
   refine ih _ ?_;have:=h x.toNat (by omega)
   exact this
  ·rfl
theorem qkV {o:List qAD}{up:Nat}{n:qAD}(h:qiR o) (hu:up<o.length) (hkl:(o.getD up qAB.dflt).kids.length<=o.length):qnL (qKR o n) up ((qKR o n).length) o.length=qAF o up n:=by
 have hl:(qKR o n).length=o.length+1:=by unfold qKR;rw[yAY];rfl
 have hq:∀ q,q<o.length->(qKR o n).getD q qAB.dflt=o.getD q qAB.dflt:=fun q hq=>qQJ o _ q hq
 have hn:(qKR o n).getD o.length qAB.dflt=mkN n (-1):=qJA o _;have hh:qFO (qKR o n) (o.length:Int) (up:Int)=false:=by
  unfold qFO;have:=qgM (l:=qKR o n) (m:=o.length) (fun q hql=>by rw[hq q hql];exact h q hql) ((qKR o n).length+1) (up:Int) (.inr ⟨by omega,by omega⟩)
  rw[this,yAC]
 have e1:isT (qKR o n) (up:Int)=true:=qBH.2 ⟨by omega,by omega⟩
 have e2:isT (qKR o n) (o.length:Int)=true:=qBH.2 ⟨by omega,by omega⟩
 have e0:((o.length:Int)==0)=false:=beq_eq_false_iff_ne.2 (by omega)
 have hnd:nd (qKR o n) (o.length:Int)=mkN n (-1):=by show(qKR o n).getD ((o.length:Int)).toNat qAB.dflt=_;rw[yAI];exact hn
 have hpl:qA9 (qKR o n) (o.length:Int) = -1:=by
  unfold qA9;rw[hnd];have:isT (qKR o n) (mkN n (-1)).up=false:=by
   show isT _ (-1)=false;unfold isT;simp
  rw[this,yAC];rfl
 have hcA:qTZ (qKR o n) (o.length:Int)=qKR o n:=by unfold qTZ;rw[hpl,if_neg (by decide)]
 have hc:qWF (qKR o n) (o.length:Int)=qKR o n:=by
  unfold qWF;rw[if_pos ⟨by omega,e2⟩,hcA,hnd]
  have es:qhT (mkN n (-1)) (-1)=mkN n (-1):=rfl;rw[es,yAI];refine List.ext_getElem (by rw[yA2]) fun i h1 h2=>?_
  rw[List.getElem_set];split
  ·rename_i e;subst e;have:=hn;rw[yAR,yAU h2] at this;exact this.symm
  ·rfl
 rw[qnL,if_neg (by rw[e1,e2,e0,hh];decide)]
 simp only[hc];have hk:nd (qKR o n) (up:Int)=o.getD up qAB.dflt:=by show(qKR o n).getD ((up:Int)).toNat qAB.dflt=_;rw[yAI];exact hq up hu
 have hm:(min (max (((qKR o n).length:Nat):Int) 0) ((o.getD up qAB.dflt).kids.length:Int)).toNat=(o.getD up qAB.dflt).kids.length:=by omega
 rw[hk,hm,yA6,List.drop_length,yAI,yAI];have hX:qIS (o.getD up qAB.dflt) ((o.getD up qAB.dflt).kids++[(o.length:Int)])=qH4 (o.getD up qAB.dflt) o.length:=rfl;rw[hX];have hs:(qKR o n).set up (qH4 (o.getD up qAB.dflt) o.length)=o.set up (qH4 (o.getD up qAB.dflt) o.length)++[mkN n (-1)]:=by
  show(o++[mkN n (-1)]).set up _=_;rw[List.set_append_left _ _ hu]
 rw[hs];have hl2:(o.set up (qH4 (o.getD up qAB.dflt) o.length)).length=o.length:=yA2;have hnd2:nd (o.set up (qH4 (o.getD up qAB.dflt) o.length)++[mkN n (-1)]) (o.length:Int)=mkN n (-1):=by
  show List.getD _ ((o.length:Int)).toNat qAB.dflt=_;rw[yAI];have:=qJA (o.set up (qH4 (o.getD up qAB.dflt) o.length)) (mkN n (-1))
  rwa [hl2] at this
 rw[hnd2,List.set_append_right _ _ (by rw[hl2];exact yA9 _),hl2,yBF]
 rfl
structure TOk (o:List qAD):Prop where
 ups:qiR o
 kl:∀ q,(o.getD q qAB.dflt).kids.length<=o.length
 al:∀ q,(o.getD q qAB.dflt).2.2.2.1.length<=1000
theorem TOk.add {o:List qAD}{up:Nat}{n:qAD}(h:TOk o) (hu:up<o.length) (hn:n.2.2.2.1.length<=1000):TOk (qAF o up n):=by
 refine⟨qiQ h.ups hu,fun q=>?_,fun q=>?_⟩
 ·rw[qBJ];rcases yBC q o.length with hl|hl
  ·rw[qWK o up n hu q hl];have:=h.kl q;split
   ·show((o.getD q qAB.dflt).kids++[_]).length<=_;rw[yAY,yA3];omega
   ·omega
  ·by_cases e:q=o.length
   ·subst e;rw[qQQ];exact yBH _
   ·rw[yAR,yAV (by rw[qBJ];omega)];exact yBH _
 ·rcases yBC q o.length with hl|hl
  ·rw[qWK o up n hu q hl];have:=h.al q;split
   ·exact this
   ·exact this
  ·by_cases e:q=o.length
   ·subst e;rw[qQQ];exact hn
   ·rw[yAR,yAV (by rw[qBJ];omega)];exact yBH _
theorem TOk.small {o:List qAD}(h:TOk o) (hl:o.length<=999):qA4 o=true:=by
 unfold qA4;rw[yAB,decide_eq_true_eq,yAL];refine⟨by omega,fun n hn=>?_⟩
 obtain⟨q,hq,rfl⟩:=yAX hn;have h1:=h.kl q;have h2:=h.al q;rw[yAR,yAU hq] at h1 h2;rw[yAB,decide_eq_true_eq,decide_eq_true_eq];exact⟨h2,by have:=h1;show(o[q]).kids.length<=1000;exact yBB h1 (by omega)⟩
theorem qaQ {o:List qAD}{n:qAD}(h:TOk o) (hl:o.length<=990) (hn:n.2.2.2.1.length<=1000):qA4 (qKR o n)=true:=by
 have h0:=h.small (by omega)
 unfold qA4 at h0 ⊢;rw[yAB,decide_eq_true_eq] at h0 ⊢;refine⟨by unfold qKR;rw[yAY];simp;omega,?_⟩
 unfold qKR;rw[yAJ,h0.2];simp only[yAK,yAM,Bool.and_true,Bool.true_and,yAB,decide_eq_true_eq];exact⟨hn,yBH _⟩
instance bAdd (o:List qAD) (up:Nat) (k s:Int) (nm:List UInt8) (at_:List qAY) (d:List UInt8) (u:Int) (kids:List Int):
  FnM BB 75 [.loc 0 0,.int .i64 (up:Int),.agg [.int .i64 k,.int .i64 s,.str nm,.rd qA2 at_,.str d,.int .i64 u,.rd qAL kids]] [(0,.box [.own 1]),(1,.own qAB o)]
   (TOk o/\up<o.length/\o.length<=900/\at_.length<=1000) (.int .i64 (o.length:Int)) [(0,.box [.own 1]),(1,.own qAB (qAF o up (k,s,nm,at_,d,u,kids)))]:=by
 refine FnM.intro (N:=21) [0,1,2,5,6,7] [] 2 Tryz.call75 Tryz.func75 rfl rfl (by kernel_rfl) (fun hpre=>?_)
 obtain⟨h1,h2,h3,h4⟩:=hpre;have hp:=qkV (n:=(k,s,nm,at_,d,u,kids)) h1.ups h2 (h1.kl up)
 repeat'((conv=>whnf);first|exact qR|intro _|refine WA ?_ ?_|refine WF ?_|refine X2 (W7 rfl ?_ ?_))
 all_goals(try(conv=>whnf))
 all_goals(try first|exact obA|refine Ob.mk ?_)
 all_goals(first|exact⟨by omega,by omega⟩|exact qaQ h1 (by omega) h4|(rw[hp];done)|(rw[hp];rfl)|skip)
 all_goals trace_state
end Go.Vc

namespace Go.Vc
open Go.Proofs
open Go.Vc.W
set_option maxRecDepth 10000
set_option maxHeartbeats 4000000
instance bAddN (o:List qAD) (up:Nat) (k s:Int) (nm:List UInt8) (d:List UInt8) (u:Int):
  FnM BB 75 [.loc 0 0,.int .i64 (up:Int),.agg [.int .i64 k,.int .i64 s,.str nm,.nils,.str d,.int .i64 u,.nils]] [(0,.box [.own 1]),(1,.own qAB o)]
   (TOk o/\up<o.length/\o.length<=900/\([]:List qAY).length<=1000) (.int .i64 (o.length:Int)) [(0,.box [.own 1]),(1,.own qAB (qAF o up (k,s,nm,[],d,u,[])))]:=
 FnM.wk (bAdd o up k s nm [] d u []) fun r β vs h=>by
  refine⟨h.1,fun i sv v h1 h2=>?_⟩
  match i,h1 with
  | 0,h1=>cases h1;exact h.2 0 _ v rfl h2
  | 1,h1=>cases h1;exact h.2 1 _ v rfl h2
  | 2,h1=>
   cases h1;obtain⟨cs,rfl,hc⟩:=(h.2 2 _ v rfl h2).aggL_inv;refine .aggL ⟨hc.1,fun j sv u q1 q2=>?_⟩
   match j,q1 with
   | 0,q1=>cases q1;exact hc.2 0 _ u rfl q2
   | 1,q1=>cases q1;exact hc.2 1 _ u rfl q2
   | 2,q1=>cases q1;exact hc.2 2 _ u rfl q2
   | 3,q1=>cases q1;exact qMU (hc.2 3 _ u rfl q2)
   | 4,q1=>cases q1;exact hc.2 4 _ u rfl q2
   | 5,q1=>cases q1;exact hc.2 5 _ u rfl q2
   | 6,q1=>cases q1;exact qMU (hc.2 6 _ u rfl q2)
instance bAddK (o:List qAD) (up:Nat) (k s:Int) (nm:List UInt8) (at_:List qAY) (d:List UInt8) (u:Int):
  FnM BB 75 [.loc 0 0,.int .i64 (up:Int),.agg [.int .i64 k,.int .i64 s,.str nm,.rd qA2 at_,.str d,.int .i64 u,.nils]] [(0,.box [.own 1]),(1,.own qAB o)]
   (TOk o/\up<o.length/\o.length<=900/\(at_:List qAY).length<=1000) (.int .i64 (o.length:Int)) [(0,.box [.own 1]),(1,.own qAB (qAF o up (k,s,nm,at_,d,u,[])))]:=
 FnM.wk (bAdd o up k s nm at_ d u []) fun r β vs h=>by
  refine⟨h.1,fun i sv v h1 h2=>?_⟩
  match i,h1 with
  | 0,h1=>cases h1;exact h.2 0 _ v rfl h2
  | 1,h1=>cases h1;exact h.2 1 _ v rfl h2
  | 2,h1=>
   cases h1;obtain⟨cs,rfl,hc⟩:=(h.2 2 _ v rfl h2).aggL_inv;refine .aggL ⟨hc.1,fun j sv u q1 q2=>?_⟩
   match j,q1 with
   | 0,q1=>cases q1;exact hc.2 0 _ u rfl q2
   | 1,q1=>cases q1;exact hc.2 1 _ u rfl q2
   | 2,q1=>cases q1;exact hc.2 2 _ u rfl q2
   | 3,q1=>cases q1;exact hc.2 3 _ u rfl q2
   | 4,q1=>cases q1;exact hc.2 4 _ u rfl q2
   | 5,q1=>cases q1;exact hc.2 5 _ u rfl q2
   | 6,q1=>cases q1;exact qMU (hc.2 6 _ u rfl q2)
theorem qkM {n v:List UInt8}(h:(!v==[])=true):atE n v=[(n,v)]:=by unfold atE;rw[if_neg (by simpa using h)]
theorem qmG {n v:List UInt8}(h:(!v==[])=false):atE n v=[]:=by unfold atE;rw[if_pos (by simpa using h)]
instance bElem (o:List qAD) (up:Nat) (tag id lb fm:List UInt8):
  FnM BB 76 [.loc 0 0,.int .i64 (up:Int),.str tag,.str id,.str lb,.str fm] [(0,.box [.own 1]),(1,.own qAB o)]
   (TOk o/\up<o.length/\o.length<=900) (.int .i64 (o.length:Int)) [(0,.box [.own 1]),(1,.own qAB (qAF o up (qAE tag id lb fm)))]:=by
 refine FnM.intro (N:=53) [0,1,2,3,4,5,12,13,14,15,16,27,34] [(7,[0,1,0,0,1,1,0,0,1,1,1,1,3,0,3])] 2 Tryz.call76 Tryz.func76 rfl rfl (by kernel_rfl) (fun hpre=>?_)
 obtain⟨h1,h2,h3⟩:=hpre;skip
 all_goals(try(conv=>whnf))
 refine LoopStop.unroll 4 ?_
 repeat'((conv=>whnf);first|exact qR|intro _|refine WA ?_ ?_|refine WF ?_|refine WN ?_|refine X2 (W7 rfl ?_ ?_)|refine X5 (W7 rfl ?_ ?_))
 all_goals(try(conv=>whnf))
 all_goals(try first|exact obA|refine Ob.mk ?_)
 all_goals(try(simp only[yAZ,yA0];omega))
 all_goals(try(exfalso;simp only[qo9,qq9,yAZ,yA0] at *;omega))
 all_goals(first|have a1:=qkM (n:=qlI) (v:=id) (by assumption)|have a1:=qmG (n:=qlI) (v:=id) (by assumption)|skip)
 all_goals(first|have a2:=qkM (n:=qWP) (v:=lb) (by assumption)|have a2:=qmG (n:=qWP) (v:=lb) (by assumption)|skip)
 all_goals(first|have a3:=qkM (n:=qV8) (v:=fm) (by assumption)|have a3:=qmG (n:=qV8) (v:=fm) (by assumption)|skip)
 all_goals(try(refine⟨h1,h2,h3,?_⟩;simp only[cast_eq,yAY,yAZ,yA0];omega))
 all_goals(try(refine⟨h1,h2,h3,?_⟩;exact yBH _))
 all_goals(try(unfold qAE qX9;rw[a1,a2,a3];rfl))
 all_goals trace_state
end Go.Vc

namespace Go.Vc
open Go.Proofs
open Go.Vc.W
set_option maxRecDepth 10000
set_option maxHeartbeats 4000000
def FD.at:FD->Prop
 | .nil=>True
 | .cons x c r=>x.2.2.2.1.length<=1000/\c.at/\r.at
theorem qXT {e:FD}(he:e.at):∀ {d:FD},d.at->(d.app e).at
 | .nil,_=>he
 | .cons x c r,⟨h1,h2,h3⟩=>⟨h1,h2,qXT he h3⟩
theorem qhO (x:qAD) (c r:FD) (o:List qAD) (p:Nat):flD (.cons x c r) o p=flD r (flD c (qAF o p x) o.length) p:=rfl
theorem TOk.fl:∀ (d:FD) {o:List qAD}{p:Nat},TOk o->p<o.length->d.at->TOk (flD d o p):=by
 intro d
 induction d with
 | nil=>intro o p h _ _;exact h
 | cons x c r ic ir=>
  rintro o p h hp ⟨h1,h2,h3⟩;rw[qhO];refine ir (ic (h.add hp h1) (by rw[qBJ];omega) h2) (by rw[qFE,qBJ];omega) h3
theorem qaC (a b c:List UInt8):(qX9 a b c).length<=3:=by
 unfold qX9 atE
 repeat' split
 all_goals(simp only[yAY,yAZ,yA0];omega)
theorem qCZ (a b c d:List UInt8):(qAE a b c d).2.2.2.1.length<=1000:=yBB (qaC b c d) (by decide)
theorem qJT (s:List UInt8):(qAT s).at:=by
 unfold qAT;split
 ·exact True.intro
 ·exact⟨yBH _,True.intro,True.intro⟩
theorem qME:∀ l:List qVB,(qF7 l).at
 | []=>True.intro
 | c::l=>⟨qCZ _ _ _ _,True.intro,qME l⟩
theorem qiK (vo:List UInt8->Bool) (p:qA8):(qLV vo p).at:=by
 unfold qLV;refine qXT (qME _) ?_;split
 ·exact True.intro
 ·exact qJT _
theorem qG3 (vo:List UInt8->Bool):∀ l:List qA8,(qAU vo l).at
 | []=>True.intro
 | p::l=>⟨qCZ _ _ _ _,qiK vo p,qG3 vo l⟩
theorem qHO (vo:List UInt8->Bool) (b:List qA8):∀ a:List qA8,qAU vo (a++b)=(qAU vo a).app (qAU vo b)
 | []=>rfl
 | p::a=>by simp only[yAO,qAU,FD.app,qHO vo b a]
theorem qTE (b:List qVB):∀ a:List qVB,qF7 (a++b)=(qF7 a).app (qF7 b)
 | []=>rfl
 | c::a=>by simp only[yAO,qF7,FD.app,qTE b a]
theorem qaZ (vo:List UInt8->Bool) (l:List qA8) {i:Nat}(h:i<l.length) (o:List qAD) (up:Nat):
  flD (qAU vo (l.take (i+1))) o up=flD (qLV vo (pd l i)) (qAF (flD (qAU vo (l.take i)) o up) up (qAE (pd l i).1 (pd l i).2.1 (pd l i).2.2.1 (pd l i).2.2.2.1)) (flD (qAU vo (l.take i)) o up).length:=by
 rw[take_snoc l i qCA.dflt h,qHO,qJ4];rfl
theorem qaW (vo:List UInt8->Bool) (l:List qA8) {i:Nat}(h:i<l.length):(qAU vo (l.take i)).size+1+(qLV vo (pd l i)).size<=(qAU vo l).size:=by
 have e:(qAU vo l).size=(qAU vo (l.take (i+1))).size+(qAU vo (l.drop (i+1))).size:=by
  rw[<-qHS, <-qHO,List.take_append_drop]
 have e2:(qAU vo (l.take (i+1))).size=(qAU vo (l.take i)).size+(1+(qLV vo (pd l i)).size):=by
  rw[take_snoc l i qCA.dflt h,qHO,qHS];rfl
 omega
theorem qSY (l:List qVB) {i:Nat}(h:i<l.length) (o:List qAD) (up:Nat):
  flD (qF7 (l.take (i+1))) o up=qAF (flD (qF7 (l.take i)) o up) up (qAE (cd l i).1 (cd l i).2.1 (cd l i).2.2 []):=by
 rw[take_snoc l i qWM.dflt h,qTE,qJ4];rfl
instance bChars (o:List qAD) (up:Nat) (s:List UInt8):
  FnM BB 77 [.loc 0 0,.int .i64 (up:Int),.str s] [(0,.box [.own 1]),(1,.own qAB o)]
   (TOk o/\up<o.length/\o.length<=900) (.tup []) [(0,.box [.own 1]),(1,.own qAB (flD (qAT s) o up))]:=by
 refine FnM.intro (N:=13) [0,1,2,7] [] 2 Tryz.call77 Tryz.func77 rfl rfl (by kernel_rfl) (fun hpre=>?_)
 obtain⟨h1,h2,h3⟩:=hpre
 repeat'((conv=>whnf);first|exact qR|intro _|refine WA ?_ ?_|refine WF ?_|refine X2 (W7 rfl ?_ ?_))
 all_goals(try(conv=>whnf))
 all_goals(try first|exact obA|refine Ob.mk ?_)
 all_goals(try(exact⟨h1,h2,h3,yBH _⟩))
 ·have e:qAT s=.cons (qn7 s) .nil .nil:=by unfold qAT;rw[if_neg (by simpa using‹(!s==[])=true›)]
  rw[e];rfl
 ·have e:qAT s=.nil:=by unfold qAT;rw[if_pos (by simpa using‹(!s==[])=false›)]
  rw[e];rfl
def voB (nm:List UInt8):Bool:=qFB 0 nm qbY
instance bParts (o:List qAD) (up:Nat) (l:List qA8):
  FnM BB 78 [.loc 0 0,.int .i64 (up:Int),.rd qCA l] [(0,.box [.own 1]),(1,.own qAB o)]
   (TOk o/\up<o.length/\o.length+(qAU voB l).size<=890/\l.length<=24/\∀ i:Nat,qGB (pd l i)) (.tup []) [(0,.box [.own 1]),(1,.own qAB (flD (qAU voB l) o up))]:=by
 refine FnM.intro (N:=68) [0,1,2,6,7,8,9,13,34,44] [(10,[0,0,0,1,0,1,1,1,0,1,0,1,1,1,0,1,0,1,1,1,3])] 2 Tryz.call78 Tryz.func78 rfl rfl (by kernel_rfl) (fun hpre=>?_)
 obtain⟨h1,h2,h3,h4,h5⟩:=hpre;skip
 all_goals(try(conv=>whnf))
 refine LoopStop.mk (α:=Nat) (fun i=>[(6,.int .i64 i)]) (fun i=>[(1,.own qAB (flD (qAU voB (l.take i)) o up))]) 40 (fun i=>i<=l.length) (fun i=>l.length-i) 0 (yBH _) ?_ (fun i hi=>?_)
 ·all_goals exact vcA
 ·by_cases hl:i<l.length
  ·obtain⟨p1,p2,p3,p4,p5,p6,p7⟩:=h5 i;have hs:=qaW voB l hl;have hT:=qaZ voB l hl o up;have ho1:TOk (flD (qAU voB (l.take i)) o up):=h1.fl _ h2 (qG3 _ _);have hl1:=qFE (qAU voB (l.take i)) o up;have ho2:=ho1.add (up:=up) (n:=qAE (pd l i).1 (pd l i).2.1 (pd l i).2.2.1 (pd l i).2.2.2.1) (by omega) (qCZ _ _ _ _)
   have hl2:=qBJ (flD (qAU voB (l.take i)) o up) up (qAE (pd l i).1 (pd l i).2.1 (pd l i).2.2.1 (pd l i).2.2.2.1);have hc1:(!voB (pd l i).1)=true->qLV voB (pd l i)=(qAT (pd l i).2.2.2.2.1).app (qF7 (pd l i).2.2.2.2.2):=fun h=>by unfold qLV;rw[if_neg (by simpa using h)]
   have hc2:(!voB (pd l i).1)=false->qLV voB (pd l i)=qF7 (pd l i).2.2.2.2.2:=fun h=>by unfold qLV;rw[if_pos (by simpa using h)];rfl
   generalize flD (qAU voB (l.take i)) o up=oi at *
   repeat'((conv=>whnf);first|exact qR|intro _|refine WA ?_ ?_|refine WF ?_|refine X1 (W1 rfl ?_ ?_)|refine X2 (W7 rfl ?_ ?_))
   all_goals(try(conv=>whnf))
   all_goals(try first|exact obA|refine Ob.mk ?_)
   all_goals(try simp only[yAI] at *)
   all_goals(try(exact absurd (yAH.mpr hl) (of_decide_eq_false (by assumption))))
   all_goals(try(exact⟨ho1,by omega,by omega⟩))
   all_goals(try(exact⟨ho2,by rw[qBJ];omega,by rw[qBJ];omega⟩))
   all_goals(try(exact yBB p1 (by decide)))
   ·have hC:=hc1 ‹_›;rw[hC,qJ4] at hT;rw[hC,qHS,qEM] at hs;have hO2:TOk (flD (qAT (pd l i).2.2.2.2.1) (qAF oi up (qAE (pd l i).1 (pd l i).2.1 (pd l i).2.2.1 (pd l i).2.2.2.1)) oi.length):=ho2.fl _ (by omega) (qJT _)
    have hO2l:(flD (qAT (pd l i).2.2.2.2.1) (qAF oi up (qAE (pd l i).1 (pd l i).2.1 (pd l i).2.2.1 (pd l i).2.2.2.1)) oi.length).length+(pd l i).2.2.2.2.2.length<=890:=by rw[qFE];omega
    have hO2k:oi.length<(flD (qAT (pd l i).2.2.2.2.1) (qAF oi up (qAE (pd l i).1 (pd l i).2.1 (pd l i).2.2.1 (pd l i).2.2.2.1)) oi.length).length:=by rw[qFE];omega
    refine LoopStop.mk (α:=Nat) (fun j=>[(9,.int .i64 j)]) (fun j=>[(1,.own qAB (flD (qF7 ((pd l i).2.2.2.2.2.take j)) (flD (qAT (pd l i).2.2.2.2.1) (qAF oi up (qAE (pd l i).1 (pd l i).2.1 (pd l i).2.2.1 (pd l i).2.2.2.1)) oi.length) oi.length))]) 80 (fun j=>j<=(pd l i).2.2.2.2.2.length) (fun j=>(pd l i).2.2.2.2.2.length-j) 0 (yBH _) ?_ (fun j hj=>?_)
    ·all_goals exact vcA
    ·by_cases hjl:j<(pd l i).2.2.2.2.2.length
     ·have hc:=qSY (pd l i).2.2.2.2.2 hjl (flD (qAT (pd l i).2.2.2.2.1) (qAF oi up (qAE (pd l i).1 (pd l i).2.1 (pd l i).2.2.1 (pd l i).2.2.2.1)) oi.length) oi.length;have hj1:TOk (flD (qF7 ((pd l i).2.2.2.2.2.take j)) (flD (qAT (pd l i).2.2.2.2.1) (qAF oi up (qAE (pd l i).1 (pd l i).2.1 (pd l i).2.2.1 (pd l i).2.2.2.1)) oi.length) oi.length):=hO2.fl _ hO2k (qME _);have hj2:=qFE (qF7 ((pd l i).2.2.2.2.2.take j)) (flD (qAT (pd l i).2.2.2.2.1) (qAF oi up (qAE (pd l i).1 (pd l i).2.1 (pd l i).2.2.1 (pd l i).2.2.2.1)) oi.length) oi.length;rw[qEM,yA4] at hj2
      repeat'((conv=>whnf);first|intro _|refine And.intro ?_ ?_|refine X2 (W7 rfl ?_ ?_))
      all_goals(try(conv=>whnf))
      all_goals(try first|exact obA|refine Ob.mk ?_)
      all_goals(try simp only[yAI] at *)
      all_goals(try(exact absurd (yAH.mpr hjl) (of_decide_eq_false (by assumption))))
      all_goals(try(exact⟨hj1,by omega,by omega⟩))
      all_goals(try(refine Rnd.mk ⟨j+1,by omega,by omega,?_⟩))
      repeat'((conv=>whnf);first|exact qR|refine And.intro ?_ ?_)
      all_goals(try(conv=>whnf))
      all_goals(try first|exact obA|refine Ob.mk ?_)
      all_goals(first|rfl|(rw[hc];done)|(rw[hc];rfl)|trace_state)
     ·repeat'((conv=>whnf);first|intro _|refine And.intro ?_ ?_|refine X2 (W7 rfl ?_ ?_))
      all_goals(try(conv=>whnf))
      all_goals(try first|exact obA|refine Ob.mk ?_)
      all_goals(try(exact absurd (of_decide_eq_true (by assumption)) (fun h=>hjl (yAH.mp h))))
      all_goals(try(refine Rnd.mk ⟨i+1,by omega,by omega,?_⟩))
      repeat'((conv=>whnf);first|exact qR|refine And.intro ?_ ?_)
      all_goals(try(conv=>whnf))
      all_goals(try first|exact obA|refine Ob.mk ?_)
      all_goals(first|rfl|(rw[hT,yA7 (by omega)];done)|(rw[hT,yA7 (by omega)];rfl)|trace_state)
   ·have hC:=hc2 ‹_›;rw[hC] at hT;rw[hC,qEM] at hs;have hO2:TOk ((qAF oi up (qAE (pd l i).1 (pd l i).2.1 (pd l i).2.2.1 (pd l i).2.2.2.1))):=ho2;have hO2l:((qAF oi up (qAE (pd l i).1 (pd l i).2.1 (pd l i).2.2.1 (pd l i).2.2.2.1))).length+(pd l i).2.2.2.2.2.length<=890:=by omega
    have hO2k:oi.length<((qAF oi up (qAE (pd l i).1 (pd l i).2.1 (pd l i).2.2.1 (pd l i).2.2.2.1))).length:=by omega
    refine LoopStop.mk (α:=Nat) (fun j=>[(9,.int .i64 j)]) (fun j=>[(1,.own qAB (flD (qF7 ((pd l i).2.2.2.2.2.take j)) ((qAF oi up (qAE (pd l i).1 (pd l i).2.1 (pd l i).2.2.1 (pd l i).2.2.2.1))) oi.length))]) 80 (fun j=>j<=(pd l i).2.2.2.2.2.length) (fun j=>(pd l i).2.2.2.2.2.length-j) 0 (yBH _) ?_ (fun j hj=>?_)
    ·all_goals exact vcA
    ·by_cases hjl:j<(pd l i).2.2.2.2.2.length
     ·have hc:=qSY (pd l i).2.2.2.2.2 hjl ((qAF oi up (qAE (pd l i).1 (pd l i).2.1 (pd l i).2.2.1 (pd l i).2.2.2.1))) oi.length;have hj1:TOk (flD (qF7 ((pd l i).2.2.2.2.2.take j)) ((qAF oi up (qAE (pd l i).1 (pd l i).2.1 (pd l i).2.2.1 (pd l i).2.2.2.1))) oi.length):=hO2.fl _ hO2k (qME _);have hj2:=qFE (qF7 ((pd l i).2.2.2.2.2.take j)) ((qAF oi up (qAE (pd l i).1 (pd l i).2.1 (pd l i).2.2.1 (pd l i).2.2.2.1))) oi.length;rw[qEM,yA4] at hj2
      repeat'((conv=>whnf);first|intro _|refine And.intro ?_ ?_|refine X2 (W7 rfl ?_ ?_))
      all_goals(try(conv=>whnf))
      all_goals(try first|exact obA|refine Ob.mk ?_)
      all_goals(try simp only[yAI] at *)
      all_goals(try(exact absurd (yAH.mpr hjl) (of_decide_eq_false (by assumption))))
      all_goals(try(exact⟨hj1,by omega,by omega⟩))
      all_goals(try(refine Rnd.mk ⟨j+1,by omega,by omega,?_⟩))
      repeat'((conv=>whnf);first|exact qR|refine And.intro ?_ ?_)
      all_goals(try(conv=>whnf))
      all_goals(try first|exact obA|refine Ob.mk ?_)
      all_goals(first|rfl|(rw[hc];done)|(rw[hc];rfl)|trace_state)
     ·repeat'((conv=>whnf);first|intro _|refine And.intro ?_ ?_|refine X2 (W7 rfl ?_ ?_))
      all_goals(try(conv=>whnf))
      all_goals(try first|exact obA|refine Ob.mk ?_)
      all_goals(try(exact absurd (of_decide_eq_true (by assumption)) (fun h=>hjl (yAH.mp h))))
      all_goals(try(refine Rnd.mk ⟨i+1,by omega,by omega,?_⟩))
      repeat'((conv=>whnf);first|exact qR|refine And.intro ?_ ?_)
      all_goals(try(conv=>whnf))
      all_goals(try first|exact obA|refine Ob.mk ?_)
      all_goals(first|rfl|(rw[hT,yA7 (by omega)];done)|(rw[hT,yA7 (by omega)];rfl)|trace_state)
  ·repeat'((conv=>whnf);first|exact qR|intro _|refine WA ?_ ?_|refine WF ?_|refine X1 (W1 rfl ?_ ?_)|refine X2 (W7 rfl ?_ ?_))
   all_goals(try(conv=>whnf))
   all_goals(try first|exact obA|refine Ob.mk ?_)
   all_goals(try(exact absurd (of_decide_eq_true (by assumption)) (fun h=>hl (yAH.mp h))))
   all_goals(rw[yA7 (by omega)])
end Go.Vc

namespace Go.Vc
open Go.Proofs
open Go.Vc.W
set_option maxRecDepth 10000
set_option maxHeartbeats 4000000
theorem qZB {t:List qAD}(h:∀ q,(t.getD q qAB.dflt).2.2.2.1.length<=1000):∀ f:Fo,(fdO t f).at
 | .nil=>True.intro
 | .cons a c r=>⟨h a,qZB h c,qZB h r⟩
theorem qII {t:List qAD}(h:qA4 t=true) (q:Nat):(t.getD q qAB.dflt).2.2.2.1.length<=1000:=by
 rcases yBC q t.length with hq|hq
 ·have:=(qCY h (q:Int) (qBH.2 ⟨by omega,by omega⟩)).1
  have e:nd t (q:Int)=t.getD q qAB.dflt:=by show t.getD ((q:Int)).toNat qAB.dflt=_;rw[yAI]
  rwa [e] at this
 ·rw[yAR,yAV hq];exact yBH _
theorem zDW (t:List qAD) (K:Nat->List Int) (s:List Bool) (i j:Nat):∃ f:Fo,∀ (o:List qAD) (p:Nat),pS t K o s p i j=flD (fdO t f) o p:=by
 obtain⟨f,s',d⟩:=zAR (K:=K) s i j;exact⟨f,fun o p=>by rw[(zFX d t o p).1,qMM]⟩
theorem qjM {t:List qAD}(h:qA4 t=true) {K:Nat->List Int}{s:List Bool}{i j:Nat}{o:List qAD}{p:Nat}(ho:TOk o) (hp:p<o.length):TOk (pS t K o s p i j):=by
 obtain⟨f,hf⟩:=zDW t K s i j;rw[hf];exact ho.fl _ hp (qZB (qII h) f)
theorem qj1 (t:List qAD) (K:Nat->List Int) (s:List Bool) (i j:Nat) (o:List qAD) (p:Nat):o.length<=(pS t K o s p i j).length/\(pS t K o s p i j).length+unseen (sS K s i j)=o.length+unseen s/\(sS K s i j).length=s.length:=by
 obtain⟨h1,h2,_,h4⟩:=qj4 (t:=t) (K:=K) s i j 0 o p;exact⟨h1,h2,h4⟩
theorem qlN {s:List Bool}{k:Int}(h:okK s k=true):(0<=k/\k<(s.length:Int))/\unseen (s.set k.toNat true)+1=unseen s:=by
 obtain⟨k1,k2,k3⟩:=qBF h;exact⟨⟨k1,by omega⟩,qBC k3⟩
def zFT (t o:List qAD) (s:List Bool) (up:Nat) (i:Int):Prop:=qA4 t=true/\s.length=t.length/\(0<=i/\i<t.length)/\TOk o/\up<o.length/\o.length+unseen s<=890
theorem qmL (N:Nat):∀ (t o:List qAD) (s:List Bool) (up:Nat) (i:Int),
  FnM BB 79 [.loc 0 0,.int .i64 (up:Int),.agg [.rd qAB t],.int .i64 i,.own 2] [(0,.box [.own 1]),(1,.own qAB o),(2,.ow .bool s)]
   (zFT t o s up i/\unseen s<N)
   (.tup []) [(0,.box [.own 1]),(1,.own qAB (pS t (qAC t) o s up i.toNat 0)),(2,.ow .bool (sS (qAC t) s i.toNat 0))]:=by
 induction N with
 | zero=>intro t o s up i;exact⟨Tryz.call79,fun h=>absurd h.2 (yBE _)⟩
 | succ N ih=>
  intro t o s up i;refine FnM.intro (N:=64) [0,1,2,3,4,7,10,11,20,47] [(7,[0,0,0,0,4,0,4,4,4,4,0,0,4])] 3 Tryz.call79 Tryz.func79 rfl rfl (by kernel_rfl) (fun hpre=>?_)
  obtain⟨⟨hsm,hsl,hi,hto,hup,hlen⟩,hN⟩:=hpre;skip
  all_goals(try(conv=>whnf))
  refine LoopStop.mk (α:=List qAD×List Bool×Nat) (fun a=>[(10,.int .i64 a.2.2)]) (fun a=>[(1,.own qAB a.1),(2,.ow .bool a.2.1)]) 40
   (fun a=>pS t (qAC t) a.1 a.2.1 up i.toNat a.2.2=pS t (qAC t) o s up i.toNat 0/\sS (qAC t) a.2.1 i.toNat a.2.2=sS (qAC t) s i.toNat 0/\a.2.1.length=t.length/\TOk a.1/\up<a.1.length/\a.1.length+unseen a.2.1<=890/\a.2.2<=(qAC t i.toNat).length/\unseen a.2.1<=N)
   (fun a=>(qAC t i.toNat).length-a.2.2) (o,s,0) ⟨rfl,rfl,hsl,hto,hup,hlen,yBH _,by show unseen s<=N;omega⟩ ?_ (fun a ha=>?_)
  ·all_goals exact vcA
  ·obtain⟨q,z,j⟩:=a;dsimp only at ha ⊢;obtain⟨h1,h2,h3,h4,h5,h6,h7,h8⟩:=ha;have hT1:(decide ((List.getD (t.getD i.toNat qAB.dflt).2.2.2.2.2.2 j qAL.dflt)>=0)&&decide ((List.getD (t.getD i.toNat qAB.dflt).2.2.2.2.2.2 j qAL.dflt)<(t.length:Int)) && !z.getD (Int.toNat (List.getD (t.getD i.toNat qAB.dflt).2.2.2.2.2.2 j qAL.dflt)) Ty.bool.dflt)=true->okK z (List.getD (t.getD i.toNat qAB.dflt).2.2.2.2.2.2 j qAL.dflt)=true:=fun h=>by rw[<-qW1 h3];exact h
   have hT2:(decide ((List.getD (t.getD i.toNat qAB.dflt).2.2.2.2.2.2 j qAL.dflt)>=0)&&decide ((List.getD (t.getD i.toNat qAB.dflt).2.2.2.2.2.2 j qAL.dflt)<(t.length:Int)) && !z.getD (Int.toNat (List.getD (t.getD i.toNat qAB.dflt).2.2.2.2.2.2 j qAL.dflt)) Ty.bool.dflt)=false->okK z (List.getD (t.getD i.toNat qAB.dflt).2.2.2.2.2.2 j qAL.dflt)=false:=fun h=>by rw[<-qW1 h3];exact h
   have hJ1:decide ((j:Int)<((t.getD i.toNat qAB.dflt).2.2.2.2.2.2.length:Int))=true->j<(qAC t i.toNat).length:=fun h=>yAH.mp (of_decide_eq_true h)
   have hJ2:decide ((j:Int)<((t.getD i.toNat qAB.dflt).2.2.2.2.2.2.length:Int))=false->¬j<(qAC t i.toNat).length:=fun h q=>of_decide_eq_false h (yAH.mpr q)
   have hok:okK z (List.getD (t.getD i.toNat qAB.dflt).2.2.2.2.2.2 j qAL.dflt)=true->(0<=(List.getD (t.getD i.toNat qAB.dflt).2.2.2.2.2.2 j qAL.dflt)/\(List.getD (t.getD i.toNat qAB.dflt).2.2.2.2.2.2 j qAL.dflt)<(z.length:Int))/\unseen (z.set (Int.toNat (List.getD (t.getD i.toNat qAB.dflt).2.2.2.2.2.2 j qAL.dflt)) true)+1=unseen z:=fun h=>qlN h
   have hB:=qII hsm (Int.toNat (List.getD (t.getD i.toNat qAB.dflt).2.2.2.2.2.2 j qAL.dflt));have hA:=qBJ q up (t.getD (Int.toNat (List.getD (t.getD i.toNat qAB.dflt).2.2.2.2.2.2 j qAL.dflt)) qAB.dflt);have hAo:TOk (qAF q up (t.getD (Int.toNat (List.getD (t.getD i.toNat qAB.dflt).2.2.2.2.2.2 j qAL.dflt)) qAB.dflt)):=h4.add h5 hB;have hL:=qj1 t (qAC t) (z.set (Int.toNat (List.getD (t.getD i.toNat qAB.dflt).2.2.2.2.2.2 j qAL.dflt)) true) (Int.toNat (List.getD (t.getD i.toNat qAB.dflt).2.2.2.2.2.2 j qAL.dflt)) 0 (qAF q up (t.getD (Int.toNat (List.getD (t.getD i.toNat qAB.dflt).2.2.2.2.2.2 j qAL.dflt)) qAB.dflt)) q.length;have hLt:TOk (pS t (qAC t) (qAF q up (t.getD (Int.toNat (List.getD (t.getD i.toNat qAB.dflt).2.2.2.2.2.2 j qAL.dflt)) qAB.dflt)) (z.set (Int.toNat (List.getD (t.getD i.toNat qAB.dflt).2.2.2.2.2.2 j qAL.dflt)) true) q.length (Int.toNat (List.getD (t.getD i.toNat qAB.dflt).2.2.2.2.2.2 j qAL.dflt)) 0):=qjM hsm hAo (by omega)
   have hE:j<(qAC t i.toNat).length->okK z (List.getD (t.getD i.toNat qAB.dflt).2.2.2.2.2.2 j qAL.dflt)=true->pS t (qAC t) q z up i.toNat j=pS t (qAC t) (pS t (qAC t) (qAF q up (t.getD (Int.toNat (List.getD (t.getD i.toNat qAB.dflt).2.2.2.2.2.2 j qAL.dflt)) qAB.dflt)) (z.set (Int.toNat (List.getD (t.getD i.toNat qAB.dflt).2.2.2.2.2.2 j qAL.dflt)) true) q.length (Int.toNat (List.getD (t.getD i.toNat qAB.dflt).2.2.2.2.2.2 j qAL.dflt)) 0) (sS (qAC t) (z.set (Int.toNat (List.getD (t.getD i.toNat qAB.dflt).2.2.2.2.2.2 j qAL.dflt)) true) (Int.toNat (List.getD (t.getD i.toNat qAB.dflt).2.2.2.2.2.2 j qAL.dflt)) 0) up i.toNat (j+1)/\sS (qAC t) z i.toNat j=sS (qAC t) (sS (qAC t) (z.set (Int.toNat (List.getD (t.getD i.toNat qAB.dflt).2.2.2.2.2.2 j qAL.dflt)) true) (Int.toNat (List.getD (t.getD i.toNat qAB.dflt).2.2.2.2.2.2 j qAL.dflt)) 0) i.toNat (j+1):=fun hj hk=>by
    obtain⟨e1,e2⟩:=qZ9 (t:=t) (K:=qAC t) (out:=q) (s:=z) (p:=up) (i:=i.toNat) (j:=j) hj hk;refine⟨?_,e2⟩;rw[e1];unfold qH7;rw[qA0];rfl
   rw[yA2,h3] at hL
   repeat'((conv=>whnf);first|exact qR|intro _|refine WA ?_ ?_|refine WF ?_|refine X2 (W7 rfl ?_ ?_)|refine X3 (W7 rfl ?_ ?_))
   all_goals(try(conv=>whnf))
   all_goals(try first|exact obA|refine Ob.mk ?_)
   all_goals(try simp only[yAI] at *)
   all_goals(try(have hj:=hJ1 (by assumption)))
   all_goals(try(have hk:=hT1 (by assumption);have hz:=hok hk;rw[h3] at hz))
   all_goals(try(exact⟨h4,h5,by omega,hB⟩))
   all_goals(try(exact⟨⟨hsm,by rw[yA2];exact h3,hz.1,hAo,by rw[qBJ];omega,by rw[qBJ];omega⟩,by omega⟩))
   all_goals(try(refine Rnd.mk ⟨(pS t (qAC t) (qAF q up (t.getD (Int.toNat (List.getD (t.getD i.toNat qAB.dflt).2.2.2.2.2.2 j qAL.dflt)) qAB.dflt)) (z.set (Int.toNat (List.getD (t.getD i.toNat qAB.dflt).2.2.2.2.2.2 j qAL.dflt)) true) q.length (Int.toNat (List.getD (t.getD i.toNat qAB.dflt).2.2.2.2.2.2 j qAL.dflt)) 0,sS (qAC t) (z.set (Int.toNat (List.getD (t.getD i.toNat qAB.dflt).2.2.2.2.2.2 j qAL.dflt)) true) (Int.toNat (List.getD (t.getD i.toNat qAB.dflt).2.2.2.2.2.2 j qAL.dflt)) 0,j+1),⟨(hE hj hk).1.symm.trans h1,(hE hj hk).2.symm.trans h2,hL.2.2,hLt,by dsimp only;omega,by dsimp only;omega,by dsimp only;omega,by dsimp only;omega⟩,by dsimp only;omega,?_⟩))
   all_goals(try(have hk:=hT2 (by assumption);obtain⟨e1,e2⟩:=qPD (t:=t) (K:=qAC t) (out:=q) (s:=z) (p:=up) (i:=i.toNat) (j:=j) hj hk;refine Rnd.mk ⟨(q,z,j+1),⟨e1.symm.trans h1,e2.symm.trans h2,h3,h4,h5,h6,by dsimp only;omega,h8⟩,by dsimp only;omega,?_⟩))
   all_goals(try(have hj:=hJ2 (by assumption);obtain⟨e1,e2⟩:=qOW (t:=t) (K:=qAC t) (out:=q) (s:=z) (p:=up) hj;first|(rw[<-h1,e1];done)|(rw[<-h2,e2];done)))
   all_goals exact vcA
instance bGraft (t o:List qAD) (s:List Bool) (up:Nat) (i:Int):
  FnM BB 79 [.loc 0 0,.int .i64 (up:Int),.agg [.rd qAB t],.int .i64 i,.own 2] [(0,.box [.own 1]),(1,.own qAB o),(2,.ow .bool s)]
   (zFT t o s up i) (.tup []) [(0,.box [.own 1]),(1,.own qAB (pS t (qAC t) o s up i.toNat 0)),(2,.ow .bool (sS (qAC t) s i.toNat 0))]:=
 have h:=qmL (unseen s+1) t o s up i
 ⟨h.call,fun hp=>h.ok ⟨hp,yBD _⟩⟩
end Go.Vc

namespace Go.Vc
open Go.Proofs
open Go.Vc.W
set_option maxRecDepth 10000
set_option maxHeartbeats 8000000
theorem qRF:TOk [qAJ]:=by
 refine⟨fun q hq=>?_,fun q=>?_,fun q=>?_⟩
 ·have:q=0:=by simpa using hq
  subst this;exact .inl rfl
 ·rcases q with _|q
  ·exact yBH _
  ·exact yBH _
 ·rcases q with _|q
  ·exact yBH _
  ·exact yBH _
def qO3 (x:List qAD×Nat) (a:List UInt8):List qAD×Nat:=(qAF x.1 x.2 (qAE a [] [] []),x.1.length)
def arS (l:List (List UInt8)) (x:List qAD×Nat):List qAD×Nat:=l.foldl qO3 x
theorem qgD (l:List (List UInt8)) (a:List UInt8) (x:List qAD×Nat):arS (l++[a]) x=qO3 (arS l x) a:=by unfold arS;rw[List.foldl_append];rfl
theorem qeK:∀ (l:List (List UInt8)) {x:List qAD×Nat},TOk x.1->x.2<x.1.length->TOk (arS l x).1/\(arS l x).2<(arS l x).1.length/\(arS l x).1.length=x.1.length+l.length
 | [],x,h1,h2=>⟨h1,h2,rfl⟩
 | a::l,x,h1,h2=>by
  have:=qeK l (x:=qO3 x a) (h1.add h2 (qCZ _ _ _ _)) (by show x.1.length<(qAF _ _ _).length;rw[qBJ];omega)
  have e:(qO3 x a).1.length=x.1.length+1:=qBJ _ _ _;rw[e] at this;refine⟨this.1,this.2.1,?_⟩;show(arS l (qO3 x a)).1.length=_;rw[this.2.2,yAZ];omega
theorem qSQ (S:FD):∀ (l:List (List UInt8)) (o:List qAD) (up:Nat),flD (qB5 l S) o up=flD S (qAF (arS l (o,up)).1 (arS l (o,up)).2 (qAE qCP [] [] [])) (arS l (o,up)).1.length
 | [],o,up=>rfl
 | a::l,o,up=>qSQ S l (qAF o up (qAE a [] [] [])) o.length
instance bAddN0 (o:List qAD) (k s:Int) (nm:List UInt8) (d:List UInt8) (u:Int):
  FnM BB 75 [.loc 0 0,.int .i64 0,.agg [.int .i64 k,.int .i64 s,.str nm,.nils,.str d,.int .i64 u,.nils]] [(0,.box [.own 1]),(1,.own qAB o)]
   (TOk o/\0<o.length/\o.length<=900/\([]:List qAY).length<=1000) (.int .i64 (o.length:Int)) [(0,.box [.own 1]),(1,.own qAB (qAF o 0 (k,s,nm,[],d,u,[])))]:=bAddN o 0 k s nm d u
instance bElem0 (o:List qAD) (tag id lb fm:List UInt8):
  FnM BB 76 [.loc 0 0,.int .i64 0,.str tag,.str id,.str lb,.str fm] [(0,.box [.own 1]),(1,.own qAB o)]
   (TOk o/\0<o.length/\o.length<=900) (.int .i64 (o.length:Int)) [(0,.box [.own 1]),(1,.own qAB (qAF o 0 (qAE tag id lb fm)))]:=bElem o 0 tag id lb fm
theorem qfV (ti:List UInt8) (be:List qA8) (ar:List (List UInt8)) (af:List qA8) (S:FD) (Y:List qAD×Nat) (hY:Y=arS ar ((flD (qAU voB be) (qAF (flD (qAT ti) (qAF (qAF (qAF (qAF [qAJ] 0 qAO) 0 (qAE qAI [] [] [])) (qAF [qAJ] 0 qAO).length (qAE qAN [] [] [])) (qAF (qAF [qAJ] 0 qAO) 0 (qAE qAI [] [] [])).length (qAE qAR [] [] [])) (qAF (qAF (qAF [qAJ] 0 qAO) 0 (qAE qAI [] [] [])) (qAF [qAJ] 0 qAO).length (qAE qAN [] [] [])).length) (qAF [qAJ] 0 qAO).length (qAE qCI [] [] [])) (flD (qAT ti) (qAF (qAF (qAF (qAF [qAJ] 0 qAO) 0 (qAE qAI [] [] [])) (qAF [qAJ] 0 qAO).length (qAE qAN [] [] [])) (qAF (qAF [qAJ] 0 qAO) 0 (qAE qAI [] [] [])).length (qAE qAR [] [] [])) (qAF (qAF (qAF [qAJ] 0 qAO) 0 (qAE qAI [] [] [])) (qAF [qAJ] 0 qAO).length (qAE qAN [] [] [])).length).length),(flD (qAT ti) (qAF (qAF (qAF (qAF [qAJ] 0 qAO) 0 (qAE qAI [] [] [])) (qAF [qAJ] 0 qAO).length (qAE qAN [] [] [])) (qAF (qAF [qAJ] 0 qAO) 0 (qAE qAI [] [] [])).length (qAE qAR [] [] [])) (qAF (qAF (qAF [qAJ] 0 qAO) 0 (qAE qAI [] [] [])) (qAF [qAJ] 0 qAO).length (qAE qAN [] [] [])).length).length)):
  flD (qAU voB af) (flD S (qAF Y.1 Y.2 (qAE qCP [] [] [])) Y.1.length) (flD (qAT ti) (qAF (qAF (qAF (qAF [qAJ] 0 qAO) 0 (qAE qAI [] [] [])) (qAF [qAJ] 0 qAO).length (qAE qAN [] [] [])) (qAF (qAF [qAJ] 0 qAO) 0 (qAE qAI [] [] [])).length (qAE qAR [] [] [])) (qAF (qAF (qAF [qAJ] 0 qAO) 0 (qAE qAI [] [] [])) (qAF [qAJ] 0 qAO).length (qAE qAN [] [] [])).length).length=mkT (qDC voB ti be ar af S):=by
 have e:mkT (qDC voB ti be ar af S)=flD (qRR voB be ar af S) (qAF (flD (qAT ti) (qAF (qAF (qAF (qAF [qAJ] 0 qAO) 0 (qAE qAI [] [] [])) (qAF [qAJ] 0 qAO).length (qAE qAN [] [] [])) (qAF (qAF [qAJ] 0 qAO) 0 (qAE qAI [] [] [])).length (qAE qAR [] [] [])) (qAF (qAF (qAF [qAJ] 0 qAO) 0 (qAE qAI [] [] [])) (qAF [qAJ] 0 qAO).length (qAE qAN [] [] [])).length) (qAF [qAJ] 0 qAO).length (qAE qCI [] [] [])) (flD (qAT ti) (qAF (qAF (qAF (qAF [qAJ] 0 qAO) 0 (qAE qAI [] [] [])) (qAF [qAJ] 0 qAO).length (qAE qAN [] [] [])) (qAF (qAF [qAJ] 0 qAO) 0 (qAE qAI [] [] [])).length (qAE qAR [] [] [])) (qAF (qAF (qAF [qAJ] 0 qAO) 0 (qAE qAI [] [] [])) (qAF [qAJ] 0 qAO).length (qAE qAN [] [] [])).length).length:=rfl;rw[e];unfold qRR;rw[qJ4,qJ4,qSQ,hY]
theorem qhX {t:List qAD}(h:t≠[]) (o:List qAD) (p:Nat):pS t (qAC t) o (s0 t.length) p 0 0=flD (qDO t) o p:=by
 obtain⟨s',d⟩:=qP2 h;rw[(zFX d t o p).1,qMM];rfl
instance bTree45 (ti:List UInt8) (be:List qA8) (ar:List (List UInt8)) (af:List qA8) (t:List qAD):
  Fn BB 19 [.agg [.str ti,.rd qCA be,.rd .str ar,.rd qCA af],.agg [.rd qAB t]] (qNF ti be ar af/\qA4 t=true/\t.length<=45) (.agg [.rd qAB (mkT (qDC voB ti be ar af (qDO t)))]):=by
 refine Fn.intro (N:=65) [0,1,2,3,4,5,6,7,8,9,10,11,34,49] [(5,[0,4,0,7,4]),(3000005,[257]),(2000017,[100])] Tryz.call19 Tryz.func19 rfl rfl (by kernel_rfl) (fun hpre=>?_)
 obtain⟨⟨p1,p2,p3,p4,p5,p6⟩,hsm,hlen⟩:=hpre;have z0:=qIT ti;have z1:=qEV voB be (fun p hp=>(qI4 p5 p hp).2.2.2.2.2.1)
 have z2:=qEV voB af (fun p hp=>(qI4 p6 p hp).2.2.2.2.2.1)
 have l1:(qAF [qAJ] 0 qAO).length=2:=qBJ _ _ _;have l2:(qAF (qAF [qAJ] 0 qAO) 0 (qAE qAI [] [] [])).length=3:=by rw[qBJ,l1]
 have l3:(qAF (qAF (qAF [qAJ] 0 qAO) 0 (qAE qAI [] [] [])) (qAF [qAJ] 0 qAO).length (qAE qAN [] [] [])).length=4:=by rw[qBJ,l2]
 have l4:(qAF (qAF (qAF (qAF [qAJ] 0 qAO) 0 (qAE qAI [] [] [])) (qAF [qAJ] 0 qAO).length (qAE qAN [] [] [])) (qAF (qAF [qAJ] 0 qAO) 0 (qAE qAI [] [] [])).length (qAE qAR [] [] [])).length=5:=by rw[qBJ,l3]
 have l5:(flD (qAT ti) (qAF (qAF (qAF (qAF [qAJ] 0 qAO) 0 (qAE qAI [] [] [])) (qAF [qAJ] 0 qAO).length (qAE qAN [] [] [])) (qAF (qAF [qAJ] 0 qAO) 0 (qAE qAI [] [] [])).length (qAE qAR [] [] [])) (qAF (qAF (qAF [qAJ] 0 qAO) 0 (qAE qAI [] [] [])) (qAF [qAJ] 0 qAO).length (qAE qAN [] [] [])).length).length=5+(qAT ti).size:=by rw[qFE,l4]
 have l6:(qAF (flD (qAT ti) (qAF (qAF (qAF (qAF [qAJ] 0 qAO) 0 (qAE qAI [] [] [])) (qAF [qAJ] 0 qAO).length (qAE qAN [] [] [])) (qAF (qAF [qAJ] 0 qAO) 0 (qAE qAI [] [] [])).length (qAE qAR [] [] [])) (qAF (qAF (qAF [qAJ] 0 qAO) 0 (qAE qAI [] [] [])) (qAF [qAJ] 0 qAO).length (qAE qAN [] [] [])).length) (qAF [qAJ] 0 qAO).length (qAE qCI [] [] [])).length=5+(qAT ti).size+1:=by rw[qBJ,l5]
 have l7:(flD (qAU voB be) (qAF (flD (qAT ti) (qAF (qAF (qAF (qAF [qAJ] 0 qAO) 0 (qAE qAI [] [] [])) (qAF [qAJ] 0 qAO).length (qAE qAN [] [] [])) (qAF (qAF [qAJ] 0 qAO) 0 (qAE qAI [] [] [])).length (qAE qAR [] [] [])) (qAF (qAF (qAF [qAJ] 0 qAO) 0 (qAE qAI [] [] [])) (qAF [qAJ] 0 qAO).length (qAE qAN [] [] [])).length) (qAF [qAJ] 0 qAO).length (qAE qCI [] [] [])) (flD (qAT ti) (qAF (qAF (qAF (qAF [qAJ] 0 qAO) 0 (qAE qAI [] [] [])) (qAF [qAJ] 0 qAO).length (qAE qAN [] [] [])) (qAF (qAF [qAJ] 0 qAO) 0 (qAE qAI [] [] [])).length (qAE qAR [] [] [])) (qAF (qAF (qAF [qAJ] 0 qAO) 0 (qAE qAI [] [] [])) (qAF [qAJ] 0 qAO).length (qAE qAN [] [] [])).length).length).length=5+(qAT ti).size+1+(qAU voB be).size:=by rw[qFE,l6]
 have t1:TOk (qAF [qAJ] 0 qAO):=qRF.add (by decide) (yBH _)
 have t2:TOk (qAF (qAF [qAJ] 0 qAO) 0 (qAE qAI [] [] [])):=t1.add (by omega) (qCZ _ _ _ _)
 have t3:TOk (qAF (qAF (qAF [qAJ] 0 qAO) 0 (qAE qAI [] [] [])) (qAF [qAJ] 0 qAO).length (qAE qAN [] [] [])):=t2.add (by omega) (qCZ _ _ _ _)
 have t4:TOk (qAF (qAF (qAF (qAF [qAJ] 0 qAO) 0 (qAE qAI [] [] [])) (qAF [qAJ] 0 qAO).length (qAE qAN [] [] [])) (qAF (qAF [qAJ] 0 qAO) 0 (qAE qAI [] [] [])).length (qAE qAR [] [] [])):=t3.add (by omega) (qCZ _ _ _ _)
 have t5:TOk (flD (qAT ti) (qAF (qAF (qAF (qAF [qAJ] 0 qAO) 0 (qAE qAI [] [] [])) (qAF [qAJ] 0 qAO).length (qAE qAN [] [] [])) (qAF (qAF [qAJ] 0 qAO) 0 (qAE qAI [] [] [])).length (qAE qAR [] [] [])) (qAF (qAF (qAF [qAJ] 0 qAO) 0 (qAE qAI [] [] [])) (qAF [qAJ] 0 qAO).length (qAE qAN [] [] [])).length):=t4.fl _ (by omega) (qJT _)
 have t6:TOk (qAF (flD (qAT ti) (qAF (qAF (qAF (qAF [qAJ] 0 qAO) 0 (qAE qAI [] [] [])) (qAF [qAJ] 0 qAO).length (qAE qAN [] [] [])) (qAF (qAF [qAJ] 0 qAO) 0 (qAE qAI [] [] [])).length (qAE qAR [] [] [])) (qAF (qAF (qAF [qAJ] 0 qAO) 0 (qAE qAI [] [] [])) (qAF [qAJ] 0 qAO).length (qAE qAN [] [] [])).length) (qAF [qAJ] 0 qAO).length (qAE qCI [] [] [])):=t5.add (by omega) (qCZ _ _ _ _)
 have t7:TOk (flD (qAU voB be) (qAF (flD (qAT ti) (qAF (qAF (qAF (qAF [qAJ] 0 qAO) 0 (qAE qAI [] [] [])) (qAF [qAJ] 0 qAO).length (qAE qAN [] [] [])) (qAF (qAF [qAJ] 0 qAO) 0 (qAE qAI [] [] [])).length (qAE qAR [] [] [])) (qAF (qAF (qAF [qAJ] 0 qAO) 0 (qAE qAI [] [] [])) (qAF [qAJ] 0 qAO).length (qAE qAN [] [] [])).length) (qAF [qAJ] 0 qAO).length (qAE qCI [] [] [])) (flD (qAT ti) (qAF (qAF (qAF (qAF [qAJ] 0 qAO) 0 (qAE qAI [] [] [])) (qAF [qAJ] 0 qAO).length (qAE qAN [] [] [])) (qAF (qAF [qAJ] 0 qAO) 0 (qAE qAI [] [] [])).length (qAE qAR [] [] [])) (qAF (qAF (qAF [qAJ] 0 qAO) 0 (qAE qAI [] [] [])) (qAF [qAJ] 0 qAO).length (qAE qAN [] [] [])).length).length):=t6.fl _ (by omega) (qG3 _ _)
 have c0:TOk [qAJ]/\0<[qAJ].length/\[qAJ].length<=900/\([]:List qAY).length<=1000:=⟨qRF,by decide,by decide,by decide⟩
 have c1:TOk (qAF [qAJ] 0 qAO)/\0<(qAF [qAJ] 0 qAO).length/\(qAF [qAJ] 0 qAO).length<=900:=⟨t1,by omega,by omega⟩
 have c2:TOk (qAF (qAF [qAJ] 0 qAO) 0 (qAE qAI [] [] []))/\(qAF [qAJ] 0 qAO).length<(qAF (qAF [qAJ] 0 qAO) 0 (qAE qAI [] [] [])).length/\(qAF (qAF [qAJ] 0 qAO) 0 (qAE qAI [] [] [])).length<=900:=⟨t2,by omega,by omega⟩
 have c3:TOk (qAF (qAF (qAF [qAJ] 0 qAO) 0 (qAE qAI [] [] [])) (qAF [qAJ] 0 qAO).length (qAE qAN [] [] []))/\(qAF (qAF [qAJ] 0 qAO) 0 (qAE qAI [] [] [])).length<(qAF (qAF (qAF [qAJ] 0 qAO) 0 (qAE qAI [] [] [])) (qAF [qAJ] 0 qAO).length (qAE qAN [] [] [])).length/\(qAF (qAF (qAF [qAJ] 0 qAO) 0 (qAE qAI [] [] [])) (qAF [qAJ] 0 qAO).length (qAE qAN [] [] [])).length<=900:=⟨t3,by omega,by omega⟩
 have c4:TOk (qAF (qAF (qAF (qAF [qAJ] 0 qAO) 0 (qAE qAI [] [] [])) (qAF [qAJ] 0 qAO).length (qAE qAN [] [] [])) (qAF (qAF [qAJ] 0 qAO) 0 (qAE qAI [] [] [])).length (qAE qAR [] [] []))/\(qAF (qAF (qAF [qAJ] 0 qAO) 0 (qAE qAI [] [] [])) (qAF [qAJ] 0 qAO).length (qAE qAN [] [] [])).length<(qAF (qAF (qAF (qAF [qAJ] 0 qAO) 0 (qAE qAI [] [] [])) (qAF [qAJ] 0 qAO).length (qAE qAN [] [] [])) (qAF (qAF [qAJ] 0 qAO) 0 (qAE qAI [] [] [])).length (qAE qAR [] [] [])).length/\(qAF (qAF (qAF (qAF [qAJ] 0 qAO) 0 (qAE qAI [] [] [])) (qAF [qAJ] 0 qAO).length (qAE qAN [] [] [])) (qAF (qAF [qAJ] 0 qAO) 0 (qAE qAI [] [] [])).length (qAE qAR [] [] [])).length<=900:=⟨t4,by omega,by omega⟩
 have c5:TOk (flD (qAT ti) (qAF (qAF (qAF (qAF [qAJ] 0 qAO) 0 (qAE qAI [] [] [])) (qAF [qAJ] 0 qAO).length (qAE qAN [] [] [])) (qAF (qAF [qAJ] 0 qAO) 0 (qAE qAI [] [] [])).length (qAE qAR [] [] [])) (qAF (qAF (qAF [qAJ] 0 qAO) 0 (qAE qAI [] [] [])) (qAF [qAJ] 0 qAO).length (qAE qAN [] [] [])).length)/\(qAF [qAJ] 0 qAO).length<(flD (qAT ti) (qAF (qAF (qAF (qAF [qAJ] 0 qAO) 0 (qAE qAI [] [] [])) (qAF [qAJ] 0 qAO).length (qAE qAN [] [] [])) (qAF (qAF [qAJ] 0 qAO) 0 (qAE qAI [] [] [])).length (qAE qAR [] [] [])) (qAF (qAF (qAF [qAJ] 0 qAO) 0 (qAE qAI [] [] [])) (qAF [qAJ] 0 qAO).length (qAE qAN [] [] [])).length).length/\(flD (qAT ti) (qAF (qAF (qAF (qAF [qAJ] 0 qAO) 0 (qAE qAI [] [] [])) (qAF [qAJ] 0 qAO).length (qAE qAN [] [] [])) (qAF (qAF [qAJ] 0 qAO) 0 (qAE qAI [] [] [])).length (qAE qAR [] [] [])) (qAF (qAF (qAF [qAJ] 0 qAO) 0 (qAE qAI [] [] [])) (qAF [qAJ] 0 qAO).length (qAE qAN [] [] [])).length).length<=900:=⟨t5,by omega,by omega⟩
 have c6:TOk (qAF (flD (qAT ti) (qAF (qAF (qAF (qAF [qAJ] 0 qAO) 0 (qAE qAI [] [] [])) (qAF [qAJ] 0 qAO).length (qAE qAN [] [] [])) (qAF (qAF [qAJ] 0 qAO) 0 (qAE qAI [] [] [])).length (qAE qAR [] [] [])) (qAF (qAF (qAF [qAJ] 0 qAO) 0 (qAE qAI [] [] [])) (qAF [qAJ] 0 qAO).length (qAE qAN [] [] [])).length) (qAF [qAJ] 0 qAO).length (qAE qCI [] [] []))/\(flD (qAT ti) (qAF (qAF (qAF (qAF [qAJ] 0 qAO) 0 (qAE qAI [] [] [])) (qAF [qAJ] 0 qAO).length (qAE qAN [] [] [])) (qAF (qAF [qAJ] 0 qAO) 0 (qAE qAI [] [] [])).length (qAE qAR [] [] [])) (qAF (qAF (qAF [qAJ] 0 qAO) 0 (qAE qAI [] [] [])) (qAF [qAJ] 0 qAO).length (qAE qAN [] [] [])).length).length<(qAF (flD (qAT ti) (qAF (qAF (qAF (qAF [qAJ] 0 qAO) 0 (qAE qAI [] [] [])) (qAF [qAJ] 0 qAO).length (qAE qAN [] [] [])) (qAF (qAF [qAJ] 0 qAO) 0 (qAE qAI [] [] [])).length (qAE qAR [] [] [])) (qAF (qAF (qAF [qAJ] 0 qAO) 0 (qAE qAI [] [] [])) (qAF [qAJ] 0 qAO).length (qAE qAN [] [] [])).length) (qAF [qAJ] 0 qAO).length (qAE qCI [] [] [])).length/\(qAF (flD (qAT ti) (qAF (qAF (qAF (qAF [qAJ] 0 qAO) 0 (qAE qAI [] [] [])) (qAF [qAJ] 0 qAO).length (qAE qAN [] [] [])) (qAF (qAF [qAJ] 0 qAO) 0 (qAE qAI [] [] [])).length (qAE qAR [] [] [])) (qAF (qAF (qAF [qAJ] 0 qAO) 0 (qAE qAI [] [] [])) (qAF [qAJ] 0 qAO).length (qAE qAN [] [] [])).length) (qAF [qAJ] 0 qAO).length (qAE qCI [] [] [])).length+(qAU voB be).size<=890/\be.length<=24/\∀ i:Nat,qGB (pd be i):=⟨t6,by omega,by omega,p2,p5⟩
 repeat'((conv=>whnf);first|refine X2 (W7 rfl ?_ ?_))
 all_goals(try(conv=>whnf))
 all_goals(try first|exact obA|refine Ob.mk ?_)
 all_goals(try(refine ZStop.dir ?_))
 all_goals(try(first|exact c0|exact c1|exact c2|exact c3|exact c4|exact c5|exact c6))
 repeat'((conv=>whnf);first|exact qR|refine And.intro ?_ ?_|refine X2 (W7 rfl ?_ ?_))
 all_goals(try(conv=>whnf))
 all_goals(try first|exact obA|refine Ob.mk ?_)
 all_goals(try(first|exact c0|exact c1|exact c2|exact c3|exact c4|exact c5|exact c6))
 refine LoopStop.mk (α:=Nat) (fun i=>[(10,.int .i64 i),(9,.int .i64 ((arS (ar.take i) ((flD (qAU voB be) (qAF (flD (qAT ti) (qAF (qAF (qAF (qAF [qAJ] 0 qAO) 0 (qAE qAI [] [] [])) (qAF [qAJ] 0 qAO).length (qAE qAN [] [] [])) (qAF (qAF [qAJ] 0 qAO) 0 (qAE qAI [] [] [])).length (qAE qAR [] [] [])) (qAF (qAF (qAF [qAJ] 0 qAO) 0 (qAE qAI [] [] [])) (qAF [qAJ] 0 qAO).length (qAE qAN [] [] [])).length) (qAF [qAJ] 0 qAO).length (qAE qCI [] [] [])) (flD (qAT ti) (qAF (qAF (qAF (qAF [qAJ] 0 qAO) 0 (qAE qAI [] [] [])) (qAF [qAJ] 0 qAO).length (qAE qAN [] [] [])) (qAF (qAF [qAJ] 0 qAO) 0 (qAE qAI [] [] [])).length (qAE qAR [] [] [])) (qAF (qAF (qAF [qAJ] 0 qAO) 0 (qAE qAI [] [] [])) (qAF [qAJ] 0 qAO).length (qAE qAN [] [] [])).length).length),(flD (qAT ti) (qAF (qAF (qAF (qAF [qAJ] 0 qAO) 0 (qAE qAI [] [] [])) (qAF [qAJ] 0 qAO).length (qAE qAN [] [] [])) (qAF (qAF [qAJ] 0 qAO) 0 (qAE qAI [] [] [])).length (qAE qAR [] [] [])) (qAF (qAF (qAF [qAJ] 0 qAO) 0 (qAE qAI [] [] [])) (qAF [qAJ] 0 qAO).length (qAE qAN [] [] [])).length).length)).2:Int))]) (fun i=>[(3,.own qAB (arS (ar.take i) ((flD (qAU voB be) (qAF (flD (qAT ti) (qAF (qAF (qAF (qAF [qAJ] 0 qAO) 0 (qAE qAI [] [] [])) (qAF [qAJ] 0 qAO).length (qAE qAN [] [] [])) (qAF (qAF [qAJ] 0 qAO) 0 (qAE qAI [] [] [])).length (qAE qAR [] [] [])) (qAF (qAF (qAF [qAJ] 0 qAO) 0 (qAE qAI [] [] [])) (qAF [qAJ] 0 qAO).length (qAE qAN [] [] [])).length) (qAF [qAJ] 0 qAO).length (qAE qCI [] [] [])) (flD (qAT ti) (qAF (qAF (qAF (qAF [qAJ] 0 qAO) 0 (qAE qAI [] [] [])) (qAF [qAJ] 0 qAO).length (qAE qAN [] [] [])) (qAF (qAF [qAJ] 0 qAO) 0 (qAE qAI [] [] [])).length (qAE qAR [] [] [])) (qAF (qAF (qAF [qAJ] 0 qAO) 0 (qAE qAI [] [] [])) (qAF [qAJ] 0 qAO).length (qAE qAN [] [] [])).length).length),(flD (qAT ti) (qAF (qAF (qAF (qAF [qAJ] 0 qAO) 0 (qAE qAI [] [] [])) (qAF [qAJ] 0 qAO).length (qAE qAN [] [] [])) (qAF (qAF [qAJ] 0 qAO) 0 (qAE qAI [] [] [])).length (qAE qAR [] [] [])) (qAF (qAF (qAF [qAJ] 0 qAO) 0 (qAE qAI [] [] [])) (qAF [qAJ] 0 qAO).length (qAE qAN [] [] [])).length).length)).1)]) 100 (fun i=>i<=ar.length) (fun i=>ar.length-i) 0 (yBH _) ?_ (fun i hi=>?_)
 ·all_goals exact vcA
 ·obtain⟨X,hX⟩:∃ X,X=((flD (qAU voB be) (qAF (flD (qAT ti) (qAF (qAF (qAF (qAF [qAJ] 0 qAO) 0 (qAE qAI [] [] [])) (qAF [qAJ] 0 qAO).length (qAE qAN [] [] [])) (qAF (qAF [qAJ] 0 qAO) 0 (qAE qAI [] [] [])).length (qAE qAR [] [] [])) (qAF (qAF (qAF [qAJ] 0 qAO) 0 (qAE qAI [] [] [])) (qAF [qAJ] 0 qAO).length (qAE qAN [] [] [])).length) (qAF [qAJ] 0 qAO).length (qAE qCI [] [] [])) (flD (qAT ti) (qAF (qAF (qAF (qAF [qAJ] 0 qAO) 0 (qAE qAI [] [] [])) (qAF [qAJ] 0 qAO).length (qAE qAN [] [] [])) (qAF (qAF [qAJ] 0 qAO) 0 (qAE qAI [] [] [])).length (qAE qAR [] [] [])) (qAF (qAF (qAF [qAJ] 0 qAO) 0 (qAE qAI [] [] [])) (qAF [qAJ] 0 qAO).length (qAE qAN [] [] [])).length).length),(flD (qAT ti) (qAF (qAF (qAF (qAF [qAJ] 0 qAO) 0 (qAE qAI [] [] [])) (qAF [qAJ] 0 qAO).length (qAE qAN [] [] [])) (qAF (qAF [qAJ] 0 qAO) 0 (qAE qAI [] [] [])).length (qAE qAR [] [] [])) (qAF (qAF (qAF [qAJ] 0 qAO) 0 (qAE qAI [] [] [])) (qAF [qAJ] 0 qAO).length (qAE qAN [] [] [])).length).length):=⟨_,rfl⟩;have hx1:X.1.length=5+(qAT ti).size+1+(qAU voB be).size:=by rw[hX];exact l7
  have hx2:X.2=5+(qAT ti).size:=by rw[hX];exact l5
  have hx3:TOk X.1:=by rw[hX];exact t7
  rw[<-hX];by_cases hl:i<ar.length
  ·obtain⟨w1,w2,w3⟩:=qeK (ar.take i) hx3 (by omega)
   rw[yA4] at w3;have hT:arS (ar.take (i+1)) X=qO3 (arS (ar.take i) X) (ar.getD i []):=by rw[take_snoc ar i [] hl,qgD]
   repeat'((conv=>whnf);first|exact qR|intro _|refine WA ?_ ?_|refine WF ?_|refine X2 (W7 rfl ?_ ?_)|refine X3 (W7 rfl ?_ ?_))
   all_goals(try(conv=>whnf))
   all_goals(try first|exact obA|refine Ob.mk ?_)
   all_goals(try simp only[yAI] at *)
   all_goals(try(exact absurd (yAH.mpr hl) (of_decide_eq_false (by assumption))))
   all_goals(try(exact⟨w1,w2,by omega⟩))
   all_goals(try(refine Rnd.mk ⟨i+1,by omega,by omega,?_⟩))
   repeat'((conv=>whnf);first|exact qR|refine And.intro ?_ ?_)
   all_goals(try(conv=>whnf))
   all_goals(try first|exact obA|refine Ob.mk ?_)
   all_goals(first|rfl|(rw[hT];rfl)|trace_state)
  ·have hti:ar.take i=ar:=yA7 (by omega)
   obtain⟨w1,w2,w3⟩:=qeK ar hx3 (by omega)
   rw[hti];obtain⟨Y,hY⟩:∃ Y,Y=arS ar X:=⟨_,rfl⟩;rw[<-hY] at w1 w2 w3 ⊢;rw[hX] at hY;have d0:TOk Y.1/\Y.2<Y.1.length/\Y.1.length<=900:=⟨w1,w2,by omega⟩
   have l9:(qAF Y.1 Y.2 (qAE qCP [] [] [])).length=Y.1.length+1:=qBJ _ _ _;have t9:TOk (qAF Y.1 Y.2 (qAE qCP [] [] [])):=w1.add w2 (qCZ _ _ _ _);have hR:(List.replicate ((t.length:Int)).toNat false).length=t.length:=by rw[yA1,yAI]
   have hS:((List.replicate ((t.length:Int)).toNat false).set (Int.toNat 0) true)=s0 t.length:=by rw[yAI];rfl
   have hSl:((List.replicate ((t.length:Int)).toNat false).set (Int.toNat 0) true).length=t.length:=by rw[yA2,hR]
   have hU:unseen ((List.replicate ((t.length:Int)).toNat false).set (Int.toNat 0) true)<=t.length:=by have:=qO8 ((List.replicate ((t.length:Int)).toNat false).set (Int.toNat 0) true);omega
   have g1:decide ((t.length:Int)>0)=true->(0:Int)<=0/\(0:Int)<((List.replicate ((t.length:Int)).toNat false).length:Int):=fun h=>by have:=of_decide_eq_true h;omega
   have g2:decide ((t.length:Int)>0)=true->Int.toNat 0<(List.replicate ((t.length:Int)).toNat false).length:=fun h=>by have:=of_decide_eq_true h;rw[hR];show 0<t.length;omega
   have g3:decide ((t.length:Int)>0)=true->zFT t (qAF Y.1 Y.2 (qAE qCP [] [] [])) ((List.replicate ((t.length:Int)).toNat false).set (Int.toNat 0) true) Y.1.length 0:=fun h=>by have:=of_decide_eq_true h;exact⟨hsm,hSl,⟨yAG 0,by omega⟩,t9,by omega,by omega⟩
   have hPl:=qj1 t (qAC t) ((List.replicate ((t.length:Int)).toNat false).set (Int.toNat 0) true) (Int.toNat 0) 0 (qAF Y.1 Y.2 (qAE qCP [] [] [])) Y.1.length;have e1:TOk (pS t (qAC t) (qAF Y.1 Y.2 (qAE qCP [] [] [])) ((List.replicate ((t.length:Int)).toNat false).set (Int.toNat 0) true) Y.1.length (Int.toNat 0) 0)/\(flD (qAT ti) (qAF (qAF (qAF (qAF [qAJ] 0 qAO) 0 (qAE qAI [] [] [])) (qAF [qAJ] 0 qAO).length (qAE qAN [] [] [])) (qAF (qAF [qAJ] 0 qAO) 0 (qAE qAI [] [] [])).length (qAE qAR [] [] [])) (qAF (qAF (qAF [qAJ] 0 qAO) 0 (qAE qAI [] [] [])) (qAF [qAJ] 0 qAO).length (qAE qAN [] [] [])).length).length<(pS t (qAC t) (qAF Y.1 Y.2 (qAE qCP [] [] [])) ((List.replicate ((t.length:Int)).toNat false).set (Int.toNat 0) true) Y.1.length (Int.toNat 0) 0).length/\(pS t (qAC t) (qAF Y.1 Y.2 (qAE qCP [] [] [])) ((List.replicate ((t.length:Int)).toNat false).set (Int.toNat 0) true) Y.1.length (Int.toNat 0) 0).length+(qAU voB af).size<=890/\af.length<=24/\∀ i:Nat,qGB (pd af i):=⟨qjM hsm t9 (by omega),by omega,by omega,p3,p6⟩
   have e2:TOk (qAF Y.1 Y.2 (qAE qCP [] [] []))/\(flD (qAT ti) (qAF (qAF (qAF (qAF [qAJ] 0 qAO) 0 (qAE qAI [] [] [])) (qAF [qAJ] 0 qAO).length (qAE qAN [] [] [])) (qAF (qAF [qAJ] 0 qAO) 0 (qAE qAI [] [] [])).length (qAE qAR [] [] [])) (qAF (qAF (qAF [qAJ] 0 qAO) 0 (qAE qAI [] [] [])) (qAF [qAJ] 0 qAO).length (qAE qAN [] [] [])).length).length<(qAF Y.1 Y.2 (qAE qCP [] [] [])).length/\(qAF Y.1 Y.2 (qAE qCP [] [] [])).length+(qAU voB af).size<=890/\af.length<=24/\∀ i:Nat,qGB (pd af i):=⟨t9,by omega,by omega,p3,p6⟩
   have r1:decide ((t.length:Int)>0)=true->SV.rd qAB (flD (qAU voB af) (pS t (qAC t) (qAF Y.1 Y.2 (qAE qCP [] [] [])) ((List.replicate ((t.length:Int)).toNat false).set (Int.toNat 0) true) Y.1.length (Int.toNat 0) 0) (flD (qAT ti) (qAF (qAF (qAF (qAF [qAJ] 0 qAO) 0 (qAE qAI [] [] [])) (qAF [qAJ] 0 qAO).length (qAE qAN [] [] [])) (qAF (qAF [qAJ] 0 qAO) 0 (qAE qAI [] [] [])).length (qAE qAR [] [] [])) (qAF (qAF (qAF [qAJ] 0 qAO) 0 (qAE qAI [] [] [])) (qAF [qAJ] 0 qAO).length (qAE qAN [] [] [])).length).length)=SV.rd qAB (mkT (qDC voB ti be ar af (qDO t))):=fun h=>by
    have hne:t≠[]:=fun e=>by subst e;cases h
    rw[hS,show Int.toNat 0=0 from rfl,qhX hne,qfV ti be ar af (qDO t) Y hY]
   have r2:decide ((t.length:Int)>0)=false->SV.rd qAB (flD (qAU voB af) (qAF Y.1 Y.2 (qAE qCP [] [] [])) (flD (qAT ti) (qAF (qAF (qAF (qAF [qAJ] 0 qAO) 0 (qAE qAI [] [] [])) (qAF [qAJ] 0 qAO).length (qAE qAN [] [] [])) (qAF (qAF [qAJ] 0 qAO) 0 (qAE qAI [] [] [])).length (qAE qAR [] [] [])) (qAF (qAF (qAF [qAJ] 0 qAO) 0 (qAE qAI [] [] [])) (qAF [qAJ] 0 qAO).length (qAE qAN [] [] [])).length).length)=SV.rd qAB (mkT (qDC voB ti be ar af (qDO t))):=fun h=>by
    have hne:t=[]:=by
     cases t with
     | nil=>rfl
     | cons a l=>have:=of_decide_eq_false h;simp only[yAZ] at this;omega
    have e:qDO t=.nil:=by unfold qDO;rw[hne,qPF];rfl
    rw[e, <-qfV ti be ar af .nil Y hY];rfl
   repeat'((conv=>whnf);first|exact qR|intro _|refine WA ?_ ?_|refine WF ?_|refine X2 (W7 rfl ?_ ?_)|refine X3 (W7 rfl ?_ ?_))
   all_goals(try(conv=>whnf))
   all_goals(try first|exact obA|refine Ob.mk ?_)
   all_goals(try(exact absurd (of_decide_eq_true (by assumption)) (fun h=>hl (yAH.mp h))))
   all_goals(try(first|exact d0|exact e1|exact e2|exact g1 (by assumption)|exact g2 (by assumption)|exact g3 (by assumption)|exact r1 (by assumption)|exact r2 (by assumption)))
   all_goals trace_state
end Go.Vc

namespace Go.Vc
open Go.Proofs
open Go.Vc.W
set_option maxRecDepth 10000
set_option maxHeartbeats 4000000
theorem qsF {t:List qAD}{i:Int}{nm:List UInt8}(h:(decide (i<=0)||decide (i>=(t.length:Int)))=true):qPG t i nm=false:=by
 unfold qPG;rw[yAF,decide_eq_true_eq,decide_eq_true_eq] at h;rw[if_pos h]
theorem qn8 {t:List qAD}{i:Int}{nm:List UInt8}(h:(decide (i<=0)||decide (i>=(t.length:Int)))=false):(0<=i/\i<t.length)/\qPG t i nm=((nd t i).1==1&&(nd t i).2.1==0&&(nd t i).2.2.1==nm):=by
 rw[yAE,decide_eq_false_iff_not,decide_eq_false_iff_not] at h;refine⟨by omega,?_⟩
 unfold qPG;rw[if_neg (by omega)]
instance dIs (t:List qAD) (i:Int) (nm:List UInt8):Fn BB 81 [.agg [.rd qAB t],.int .i64 i,.str nm] True (.bool (qPG t i nm)):=by
 refine Fn.intro (N:=36) [0,1,2,3,6,7,16] [] Tryz.call81 Tryz.func81 rfl rfl (by kernel_rfl) (fun hpre=>?_)
 have f:=fun h=>qsF (t:=t) (i:=i) (nm:=nm) h
 have g:=fun h=>qn8 (t:=t) (i:=i) (nm:=nm) h
 repeat'((conv=>whnf);first|exact qR|intro _|refine And.intro ?_ ?_|refine Fin.mk ?_)
 all_goals(try(conv=>whnf))
 all_goals(try first|exact obA|refine Ob.mk ?_)
 all_goals(first|exact(f (by assumption)).symm|exact(g (by assumption)).1|exact(g (by assumption)).2.symm|trace_state)
theorem qpV {t:List qAD}{i k:Int}(h:(decide (i<0)||decide (i>=(t.length:Int)))=true):qGO t i k=0:=by
 unfold qGO;rw[yAF,decide_eq_true_eq,decide_eq_true_eq] at h;rw[if_pos h]
theorem qlB {t:List qAD}{i k:Int}(h:(decide (i<0)||decide (i>=(t.length:Int)))=false):(0<=i/\i<t.length)/\qGO t i k=
    (let j:=if k<0 then k+(nd t i).kids.length else k
     if j<0\/j>=(nd t i).kids.length then 0 else(nd t i).kids.getD j.toNat 0):=by
  rw[yAE,decide_eq_false_iff_not,decide_eq_false_iff_not] at h;refine⟨by omega,?_⟩
  unfold qGO;rw[if_neg (by omega)]
instance dKid (t:List qAD) (i k:Int):Fn BB 80 [.agg [.rd qAB t],.int .i64 i,.int .i64 k] (qA4 t=true /\ -1000<=k/\k<=1000) (.int .i64 (qGO t i k)):=by
 refine Fn.intro (N:=41) [0,1,2,3,6,7,16,24,36] [] Tryz.call80 Tryz.func80 rfl rfl (by kernel_rfl) (fun hpre=>?_)
 obtain⟨h1,h2,h3⟩:=hpre;have f:=fun h=>qpV (t:=t) (i:=i) (k:=k) h
 have g:=fun h=>qlB (t:=t) (i:=i) (k:=k) h
 have b:=fun(h:0<=i/\i<t.length)=>(qCY h1 i (qBH.2 h)).2
 generalize hks:(nd t i).kids=ks at *;have hks':(t.getD i.toNat qAB.dflt).2.2.2.2.2.2=ks:=hks
 repeat'((conv=>whnf);first|exact qR|intro _|refine And.intro ?_ ?_|refine Fin.mk ?_)
 all_goals(try(conv=>whnf))
 all_goals(try simp only[hks'] at *)
 all_goals(try first|exact obA|refine Ob.mk ?_)
 all_goals(try(exact(f (by assumption)).symm))
 all_goals(try(have q:=g (by assumption);have hb:=b q.1))
 all_goals(try(exact q.1))
 all_goals(have q2:=q.2;clear f g b;clear hks')
 all_goals(simp only[qo9,qq9,yAF,yAE] at *)
 all_goals(try omega)
 all_goals(rw[q2])
 all_goals(repeat' split)
 all_goals(first|rfl|(exfalso;omega)|trace_state)
instance dFind (t:List qAD) (ti:List UInt8) (be:List qA8) (ar:List (List UInt8)) (af:List qA8):Fn BB 20 [.agg [.rd qAB t],.agg [.str ti,.rd qCA be,.rd .str ar,.rd qCA af]] (qA4 t=true/\be.length<=24) (.int .i64 (qL7 t be.length ar)):=by
  refine Fn.intro (N:=48) [0,1,2,3,4,5,7,13,20,28,29,30,31,38,46] [] Tryz.call20 Tryz.func20 rfl rfl (by kernel_rfl) (fun hpre=>?_)
  obtain⟨h1,h2⟩:=hpre;have e1:(!qPG t (qGO t 0 (-1)) qAI)=true->qL7 t be.length ar=0:=fun h=>by unfold qL7;rw[if_neg (by simpa using h)]
  have e2:(!qPG t (qGO t 0 (-1)) qAI)=false->(!qPG t (qGO t (qGO t 0 (-1)) (-1)) qCI)=true->qL7 t be.length ar=0:=fun h g=>by unfold qL7;rw[if_pos (by simpa using h),if_neg (by simpa using g)]
  have e3:(!qPG t (qGO t 0 (-1)) qAI)=false->(!qPG t (qGO t (qGO t 0 (-1)) (-1)) qCI)=false->qL7 t be.length ar=goT t ar (qGO t (qGO t (qGO t 0 (-1)) (-1)) be.length):=fun h g=>by unfold qL7;rw[if_pos (by simpa using h),if_pos (by simpa using g)]
  repeat'((conv=>whnf);first|exact qR|intro _|refine WA ?_ ?_|refine WF ?_|refine X1 (W1 rfl ?_ ?_))
  all_goals(try(conv=>whnf))
  all_goals(try first|exact obA|refine Ob.mk ?_)
  all_goals(try(exact⟨h1,by decide,by decide⟩))
  all_goals(try(exact⟨h1,by omega,by omega⟩))
  all_goals(try(exact(e1 (by assumption)).symm))
  all_goals(try(exact(e2 (by assumption) (by assumption)).symm))
  rw[e3 (by assumption) (by assumption)]
  generalize qGO t (qGO t (qGO t 0 (-1)) (-1)) be.length=c0;refine LoopStop.mk (α:=Nat×Int) (fun a=>[(30,.int .i64 a.1),(5,.int .i64 a.2)]) (fun _=>[]) 40 (fun a=>a.1<=ar.length/\goT t (ar.drop a.1) a.2=goT t ar c0) (fun a=>ar.length-a.1) (0,c0) ⟨yBH _,rfl⟩ ?_ (fun a ha=>?_)
  · all_goals exact vcA
  · obtain⟨i,c⟩:=a
    obtain⟨hi,hg⟩:=ha;dsimp only at hi hg ⊢;rw[<-hg];by_cases hl:i<ar.length
    · have hd:ar.drop i=ar.getD i []::ar.drop (i+1):=by
        rw[List.drop_eq_getElem_cons hl,yAR,yAU hl];rfl
      have g1:(!qPG t c (ar.getD i []))=true->goT t (ar.drop i) c=0:=fun h=>by rw[hd,goT,if_neg (by simpa using h)]
      have g2:(!qPG t c (ar.getD i []))=false->goT t (ar.drop i) c=goT t (ar.drop (i+1)) (qGO t c 0):=fun h=>by rw[hd,goT,if_pos (by simpa using h)]
      repeat'((conv=>whnf);first|exact qR|intro _|refine WA ?_ ?_|refine WF ?_|refine X1 (W1 rfl ?_ ?_))
      all_goals(try(conv=>whnf))
      all_goals(try first|exact obA|refine Ob.mk ?_)
      all_goals(try simp only[yAI] at *)
      all_goals(try(exact absurd (yAH.mpr hl) (of_decide_eq_false (by assumption))))
      all_goals(try(exact⟨h1,by decide,by decide⟩))
      all_goals(try(exact(g1 (by assumption)).symm))
      all_goals(try(refine Rnd.mk ⟨(i+1,qGO t c 0),⟨by dsimp only;omega,(g2 (by assumption)).symm⟩,by dsimp only;omega,?_⟩))
      all_goals exact vcA
    · have hd:ar.drop i=[]:=List.drop_eq_nil_of_le (by omega)
      have g1:(!qPG t c qCP)=true->goT t (ar.drop i) c=0:=fun h=>by rw[hd,goT,if_neg (by simpa using h)]
      have g2:(!qPG t c qCP)=false->goT t (ar.drop i) c=c:=fun h=>by rw[hd,goT,if_pos (by simpa using h)]
      repeat'((conv=>whnf);first|exact qR|intro _|refine WA ?_ ?_|refine WF ?_|refine X1 (W1 rfl ?_ ?_))
      all_goals(try(conv=>whnf))
      all_goals(try first|exact obA|refine Ob.mk ?_)
      all_goals(try(exact absurd (of_decide_eq_true (by assumption)) (fun h=>hl (yAH.mp h))))
      all_goals(first|exact(g1 (by assumption)).symm|exact(g2 (by assumption)).symm|trace_state)
end Go.Vc

namespace Go.Vc
open Go.Proofs
open Go.Vc.W
set_option maxRecDepth 10000
set_option maxHeartbeats 4000000
section
attribute [-instance] oList
instance oListO (l:List qAD):FnM BB 64 [.agg [.rd qAB l]] [] (l.length<=280) (.own 0) [(0,.own qAL (qCJ (fin l).L))]:=by
 refine FnM.intro (N:=17) [0,1,2,3,4,6,7,10] [] 0 Tryz.call64 Tryz.func64 rfl rfl (by kernel_rfl) (fun hpre=>?_)
 repeat'((conv=>whnf);first|refine X1 (W2 rfl ?_ ?_))
 all_goals(try(conv=>whnf))
 all_goals(try first|exact obA|refine Ob.mk ?_)
 have hEl:(evs l).length<=560:=by
  have:=qPX (qAC l) l.length;show(qOK (qAC l) l.length).length<=560;omega
 have hlen:∀ i,(stA l i).L.length<=280:=fun i=>by
  have g:=qPV l i;have:=qCX g.nod g.lt;omega
 refine RangeStop.mk (α:=Nat) ⟨hpre⟩ rfl (fun i=>[(1,.box [.own 20]),(20,.own qAL (qCJ (stA l i).L))]) 30 (fun i k=>k=i) 0 rfl ?_ (fun i k hC hi=>?_) (fun k hC=>?_)
 ·all_goals exact vcA
 ·subst hC;have hs:=qRN l k hi;have hl:=hlen k;generalize he:(evs l).getD k (0,0,0,false)=e at *;obtain⟨v,up,c,lf⟩:=e;cases lf
  ·repeat'((conv=>whnf);first|intro _|refine And.intro ?_ ?_)
   all_goals(try(conv=>whnf))
   all_goals(try first|exact obA|refine Ob.mk ?_)
   all_goals(try(exfalso;have h:=‹(!false)=false›;cases h;done))
   ·simp only[cast_eq];unfold qCJ;simp;omega
   ·refine Rnd.mk ⟨k+1,rfl,?_⟩
    repeat'((conv=>whnf);first|exact qR|refine And.intro ?_ ?_)
    all_goals(try(conv=>whnf))
    rw[hs,qYS,if_neg (by simp),qJU]
    try simp only[cast_eq]
  ·repeat'((conv=>whnf);first|intro _|refine And.intro ?_ ?_)
   all_goals(try(conv=>whnf))
   all_goals(try first|exact obA|refine Ob.mk ?_)
   all_goals(try(exfalso;have h:=‹(!true)=true›;cases h;done))
   refine Rnd.mk ⟨k+1,rfl,?_⟩
   repeat'((conv=>whnf);first|exact qR|refine And.intro ?_ ?_)
   all_goals(try(conv=>whnf))
   rw[hs,qYS,if_pos rfl]
 ·subst hC;rw[qV2]
  all_goals exact vcA
def qMW (M:List (Int×Int)) (i k:Int):Bool := !(decide (0<=(M.getD k.toNat Ty.cpx.dflt).1)&&decide (0<=(M.getD i.toNat Ty.cpx.dflt).1)&&(decide ((M.getD i.toNat Ty.cpx.dflt).1<(M.getD k.toNat Ty.cpx.dflt).1)&&decide ((M.getD k.toNat Ty.cpx.dflt).2<(M.getD i.toNat Ty.cpx.dflt).2)))
def zDS (M:List (Int×Int)):Prop:=∀ q:Nat, -1<=(M.getD q Ty.cpx.dflt).1/\(M.getD q Ty.cpx.dflt).1<=590 /\ -1<=(M.getD q Ty.cpx.dflt).2/\(M.getD q Ty.cpx.dflt).2<=590
def qjP (M:List (Int×Int)) (l:List Int) (i:Int):Prop:=zDS M/\(0<=i/\i<M.length)/\∀ q:Nat,q<l.length->0<=l.getD q qAL.dflt/\l.getD q qAL.dflt<M.length
instance dBel1 (M:List (Int×Int)) (i k:Int):FnM BB 65 [.int .i64 k,.loc 0 0,.loc 1 0] [(0,.box [.rd .cpx M]),(1,.box [.int .i64 i])] (zDS M/\(0<=i/\i<M.length)/\(0<=k/\k<M.length)) (.bool (qMW M i k)) [(0,.box [.rd .cpx M]),(1,.box [.int .i64 i])]:=by
 refine FnM.intro (N:=15) [0,1,2,4] [(1,[1,0,1,1,1,1,1,1,3,3,3])] 2 Tryz.call65 Tryz.func65 rfl rfl (by kernel_rfl) (fun hpre=>?_)
 obtain⟨h1,h2,h3⟩:=hpre;have a1:=h1 i.toNat;have a2:=h1 k.toNat
 repeat'((conv=>whnf);first|exact qR|refine WA ?_ ?_|refine WF ?_|refine X1 (W1 rfl ?_ ?_))
 all_goals(try(conv=>whnf))
 all_goals(try first|exact obA|refine Ob.mk ?_)
 all_goals(try(first|exact h2|exact h3|exact⟨a2.1,a2.2.1,a2.2.2.1,a2.2.2.2,a1.1,a1.2.1,a1.2.2.1,a1.2.2.2⟩|rfl|trace_state))
theorem qG7 {α:Type}(p:α->Bool) (l:List α) (i:Nat) (d:α) (h:i<l.length):(l.take (i+1)).filter p=(l.take i).filter p++bif p (l.getD i d) then[l.getD i d] else[]:=by
 rw[take_snoc l i d h,List.filter_append];congr 1
def qjI (p:Int->Bool) (l:List Int):Int:=if l.any p then(l.findIdx p:Int) else -1
theorem qfN {p:Int->Bool}{l:List Int}(h:l.all (fun x => !p x)=true):qjI p l = -1:=by
 rw[qjI,if_neg];simp only[yAL,yAD,yAN,not_exists,not_and] at h ⊢;intro x hx;rw[h x hx];simp
theorem qlW {p:Int->Bool}{l:List Int}{k:Nat}(hk:k<l.length) (h:(l.take k).all (fun x => !p x)=true) (hp:p (l.getD k 0)=true):qjI p l=k:=by
 have hg:l.getD k 0=l[k]:=by simp[List.getD,yAU hk]
 rw[hg] at hp;rw[qjI,if_pos (yAN.2 ⟨_,yAW hk,hp⟩)];congr 1;rw[List.findIdx_eq hk];refine⟨hp,fun j hj=>?_⟩
 simp only[yAL,yAD] at h;exact h _ (yA5.2 ⟨j,by simp;omega,by simp⟩)
instance d74 (M:List (Int×Int)) (l:List Int) (i:Int):FnM BB 119 [.own 0,.fn 65 [.loc 1 0,.loc 2 0]] [(0,.ro qAL l),(1,.box [.rd .cpx M]),(2,.box [.int .i64 i])] (qjP M l i) (.int .i64 (qjI (qMW M i) l)) [(0,.ro qAL l),(1,.box [.rd .cpx M]),(2,.box [.int .i64 i])]:=by
 refine FnM.intro (N:=19) [0,1,4,5,7,8,9,16] [] 3 Tryz.call119 Tryz.func119 rfl rfl (by kernel_rfl) (fun hpre=>?_)
 obtain⟨b1,b2,b3⟩:=hpre
 repeat'((conv=>whnf);first|intro _)
 all_goals(try(conv=>whnf))
 refine LoopStop.mk (α:=Nat) (fun k=>[(8,.int .i64 k)]) (fun _=>[]) 20 (fun k=>k<=l.length/\(l.take k).all (fun x => !qMW M i x)=true) (fun k=>l.length-k) 0 (by simp) ?_ (fun k hk=>?_)
 ·all_goals exact vcA
 ·obtain⟨hk,ha⟩:=hk
  repeat'((conv=>whnf);first|exact qR|intro _|refine WA ?_ ?_|refine WF ?_|refine X2 (W7 rfl ?_ ?_))
  all_goals(try(conv=>whnf))
  all_goals(try first|exact obA|refine Ob.mk ?_)
  all_goals(try simp only[yAI] at *)
  all_goals(try(exact⟨b1,b2,b3 k (by have:=of_decide_eq_true ‹decide ((k:Int)<(l.length:Int))=true›;omega)⟩))
  all_goals(try rfl)
  ·rename_i hp h;have hp:k<l.length:=by have:=of_decide_eq_true hp;omega
   exact(qlW hp ha h).symm
  ·rename_i hp h;have hp:k<l.length:=by have:=of_decide_eq_true hp;omega
   refine Rnd.mk ⟨k+1,?_,?_,?_⟩
   ·refine⟨hp,?_⟩;rw[qJO _ l k qAL.dflt hp,ha];have h:qMW M i (l.getD k 0)=false:=h;show(true && !qMW M i (l.getD k 0))=true;rw[h];rfl
   ·omega
   ·all_goals exact vcA
  ·rename_i hp;have hp:¬k<l.length:=by have:=of_decide_eq_false hp;omega
   rw[yA7 (by omega)] at ha
   exact(qfN ha).symm
theorem qZ1 (p:Int->Bool) (l:List Int):(qjI p l = -1/\l.filter (fun x => !p x)=l)\/∃ k:Nat,k<l.length/\qjI p l=k/\p (l.getD k 0)=true/\(l.take k).filter (fun x => !p x)=l.take k:=by
 unfold qjI;split
 ·rename_i h
  right
  have hx:∃ x∈l,p x=true:=by simpa using h
  have hlt:=List.findIdx_lt_length_of_exists hx;refine⟨l.findIdx p,hlt,rfl,?_,?_⟩
  ·rw[List.getD,yAU hlt];exact List.findIdx_getElem
  ·rw[yAQ];intro a ha;obtain⟨j,hj,rfl⟩:=yA5.1 ha;simp only[yA4] at hj;simp only[List.getElem_take,yAD];have:=List.not_of_lt_findIdx (p:=p) (xs:=l) (show j<l.findIdx p by omega)
   simpa using this
 ·rename_i h
  left
  refine⟨rfl,?_⟩;rw[yAQ];intro a ha;simp only[yAN,not_exists,not_and,Bool.not_eq_true] at h;rw[h a ha];rfl
def qF0 (p:Int->Bool) (l r:List Int) (j:Nat):Prop:=r.length=l.length/\j<=l.length/\r.take ((l.take j).filter fun x => !p x).length=(l.take j).filter (fun x => !p x)/\r.drop j=l.drop j
theorem qcT (p:Int->Bool) (l:List Int) (j:Nat):((l.take j).filter fun x => !p x).length<=j:=by
 have:=List.length_filter_le (fun x => !p x) (l.take j)
 simp at this ⊢;omega
theorem qG4 {p:Int->Bool}{l r:List Int}{j:Nat}(h:qF0 p l r j) (hj:j<l.length):r.getD j 0=l.getD j 0:=by
 obtain⟨h1,h2,h3,h4⟩:=h;have:=congrArg (fun x=>x.getD 0 0) h4
 simpa[List.getD] using this
theorem qQ5 {p:Int->Bool}{l r:List Int}{j:Nat}(h:qF0 p l r j) (hj:j<l.length) (hp:p (l.getD j 0)=true):(l.take (j+1)).filter (fun x => !p x)=(l.take j).filter (fun x => !p x)/\qF0 p l r (j+1):=by
 obtain⟨h1,h2,h3,h4⟩:=h;have e:(l.take (j+1)).filter (fun x => !p x)=(l.take j).filter (fun x => !p x):=by
  rw[qG7 _ l j 0 hj,hp];simp
 refine⟨e,h1,hj,by rw[e];exact h3,?_⟩
 have:=congrArg (List.drop 1) h4;simpa[yAP,yA8] using this
theorem qP1 {p:Int->Bool}{l r:List Int}{j:Nat}(h:qF0 p l r j) (hj:j<l.length) (hp:p (l.getD j 0)=false) (hlt:((l.take j).filter fun x => !p x).length<=j):
  ((l.take (j+1)).filter fun x => !p x).length=((l.take j).filter fun x => !p x).length+1/\qF0 p l (r.set ((l.take j).filter fun x => !p x).length (l.getD j 0)) (j+1):=by
 obtain⟨h1,h2,h3,h4⟩:=h;have e:(l.take (j+1)).filter (fun x => !p x)=(l.take j).filter (fun x => !p x)++[l.getD j 0]:=by
  rw[qG7 _ l j 0 hj,hp];simp
 have el:((l.take (j+1)).filter fun x => !p x).length=((l.take j).filter fun x => !p x).length+1:=by rw[e];simp
 refine⟨el,by simpa using h1,hj,?_,?_⟩
 ·rw[el,e];rw[List.take_succ_eq_append_getElem (by simp;omega)]
  rw[List.take_set_of_le (yA9 _),h3];simp
 ·rw[List.drop_set_of_lt (by omega)]
  have:=congrArg (List.drop 1) h4;simpa[yAP,yA8] using this
instance d47 (M:List (Int×Int)) (l:List Int) (i:Int):FnM BB 63 [.own 0,.fn 65 [.loc 1 0,.loc 2 0]] [(0,.own qAL l),(1,.box [.rd .cpx M]),(2,.box [.int .i64 i])] (l.length<=100000/\qjP M l i) (.own 0) [(0,.own qAL (l.filter fun x => !qMW M i x)),(1,.box [.rd .cpx M]),(2,.box [.int .i64 i])]:=by
  refine FnM.intro (N:=42) [0,1,4,5,6,7,12,19,29] [] 3 Tryz.call63 Tryz.func63 rfl rfl (by kernel_rfl) (fun hpre=>?_)
  obtain⟨hpl,hb⟩:=hpre;obtain⟨b1,b2,b3⟩:=hb;rcases qZ1 (qMW M i) l with⟨h1,h2⟩|⟨k,hk,h1,h2,h3⟩
  · rw[h2]
    repeat'((conv=>whnf);first|exact qR|intro _|refine WA ?_ ?_|refine WF ?_|refine X4 (W7 rfl ?_ ?_))
    all_goals(try(conv=>whnf))
    all_goals(try rw[h1] at *)
    all_goals(try first|exact obA|refine Ob.mk ?_)
    all_goals(try(exact⟨b1,b2,b3⟩))
    all_goals(try rfl)
    rename_i h;exact absurd h (by decide)
  · have hst:qF0 (qMW M i) l l (k+1)/\((l.take (k+1)).filter fun x => !qMW M i x).length=k:=by
      have e:(l.take (k+1)).filter (fun x => !qMW M i x)=l.take k:=by
        rw[qG7 _ l k 0 hk,h2,h3];simp
      refine⟨⟨rfl,hk,?_,rfl⟩,by rw[e];simp;omega⟩
      rw[e];simp
    repeat'((conv=>whnf);first|exact qR|intro _|refine WA ?_ ?_|refine WF ?_|refine X4 (W7 rfl ?_ ?_))
    all_goals(try(conv=>whnf))
    all_goals(try rw[h1] at *)
    all_goals(try first|exact obA|refine Ob.mk ?_)
    all_goals(try(exact⟨b1,b2,b3⟩))
    all_goals(try rfl)
    · exfalso;rename_i h;simp at h
    · refine LoopStop.mk (α:=Nat×List Int) (fun a=>[(6,.int .i64 a.1),(5,.int .i64 ((l.take a.1).filter fun x => !qMW M i x).length)]) (fun a=>[(0,.own qAL a.2)]) 60 (fun a=>qF0 (qMW M i) l a.2 a.1/\((l.take a.1).filter fun x => !qMW M i x).length<a.1) (fun a=>l.length-a.1) (k+1,l) ⟨hst.1,by rw[hst.2];omega⟩ ?_ (fun a ha=>?_)
      · repeat'((conv=>whnf);first|exact qR|refine And.intro ?_ ?_)
        all_goals(try(conv=>whnf))
        all_goals(try first|exact obA|refine Ob.mk ?_)
        all_goals(try rfl)
        all_goals(try(rw[hst.2]))
      · obtain⟨j,r⟩:=a
        obtain⟨hr,hlt⟩:=ha;have hrl:=hr.1;have hj:=hr.2.1;simp only at hrl hj hlt hr;have hle:=qcT (qMW M i) l j;generalize hm:((l.take j).filter fun x => !qMW M i x).length=m at *
        repeat'((conv=>whnf);first|exact qR|intro _|refine WA ?_ ?_|refine WF ?_|refine X2 (W7 rfl ?_ ?_))
        all_goals(try(conv=>whnf))
        all_goals(try first|exact obA|refine Ob.mk ?_)
        all_goals(try rw[hrl] at *)
        all_goals(try simp only[yAI] at *)
        all_goals(try(have hp:j<l.length:=(by have:=of_decide_eq_true ‹decide ((j:Int)<(l.length:Int))=true›;omega);have hg:=qG4 hr hp;exact⟨b1,b2,by rw[show List.getD r j qAL.dflt=List.getD l j qAL.dflt from hg];exact b3 j hp⟩))
        · rename_i hp h
          have hp:j<l.length:=by have:=of_decide_eq_true hp;omega
          have hg:=qG4 hr hp;have h:qMW M i (l.getD j 0)=false:=by
            rw[<-hg];have:(!qMW M i (r.getD j 0))=true:=h;simpa using this
          obtain⟨e1,e2⟩:=qP1 hr hp h (by rw[hm];exact hle)
          rw[hm] at e1 e2;refine Rnd.mk ⟨(j+1,r.set m (l.getD j 0)),⟨e2,by rw[e1];omega⟩,by(show l.length-(j+1)<l.length-j;omega),?_,?_,?_⟩
          repeat'((conv=>whnf);first|exact qR|refine And.intro ?_ ?_)
          all_goals(try(conv=>whnf))
          all_goals(try first|exact obA|refine Ob.mk ?_)
          all_goals(try rfl)
          all_goals(try(rw[e1];rfl))
          · show Chunk.own qAL (r.set m (r.getD j 0))=Chunk.own qAL (r.set m (l.getD j 0))
            rw[hg]
        · rename_i hp h
          have hp:j<l.length:=by have:=of_decide_eq_true hp;omega
          have hg:=qG4 hr hp;have h:qMW M i (l.getD j 0)=true:=by
            rw[<-hg];have:(!qMW M i (r.getD j 0))=false:=h;simpa using this
          obtain⟨e1,e2⟩:=qQ5 hr hp h;refine Rnd.mk ⟨(j+1,r),⟨e2,by rw[e1,hm];omega⟩,by(show l.length-(j+1)<l.length-j;omega),?_,?_,?_⟩
          repeat'((conv=>whnf);first|exact qR|refine And.intro ?_ ?_)
          all_goals(try(conv=>whnf))
          all_goals(try first|exact obA|refine Ob.mk ?_)
          all_goals(try rfl)
          all_goals(try(rw[e1,hm];done))
        all_goals(rename_i hp;have hp:j=l.length:=by(have:=of_decide_eq_false hp;omega))
        · have h5:r.length=l.length:=hr.1
          simp;omega
        · have h3:=hr.2.2.1
          rw[hm] at h3;have h4:(r.take m).length=m:=by rw[h3,hm]
          show Chunk.own qAL ((r.take (m:Int).toNat++List.replicate (l.length-(m:Int).toNat) 0).take (m:Int).toNat)=Chunk.own qAL (l.filter fun x => !qMW M i x)
          rw[yAI,List.take_append_of_le_length (by omega),yA7 (by omega),h3,hp,yA7 (yA9 _)]
theorem qU3 (l:List Nat):(qCJ l).length=l.length:=by unfold qCJ;simp
theorem qiI {n:Nat}{y:St}(d:Done n y) (hn:n<=280) (u:Nat) : -1<=y.I.getD u (-1)/\y.I.getD u (-1)<=590 /\ -1<=y.O.getD u (-1)/\y.O.getD u (-1)<=590:=by
 have hm:=d.cnt;have hl:=qCX d.nod d.lt;rw[d.P0] at hm;simp at hm;by_cases h:u∈y.L
 ·have h1:=d.rI u h;have h2:=d.rO u h;have h3:=d.o h;omega
 ·have:=d.out u h;omega
theorem qWV {y:St}{n:Nat}(d:Done n y) (q:Nat) (h:q<n):(flat y).getD q Ty.cpx.dflt=(y.I.getD q (-1),y.O.getD q (-1)):=flat_get y q (by have:=d.lI;omega) _
theorem qmC {t:List qAD}(h:t.length<=280):zDS (flat (fin t)):=by
  intro q;have d:=qDI t;rcases yBC q t.length with hq|hq
  · rw[qWV d q hq]
    exact qiI d h q
  · have e:(flat (fin t)).getD q Ty.cpx.dflt=((0:Int),(0:Int)):=by
      rw[yAR,yAV (by rw[qCW,d.lI];exact hq)];rfl
    rw[e];exact⟨by decide,by decide,by decide,by decide⟩
theorem qa1 {t:List qAD}{i:Int}(hi:0<=i/\i<t.length):((qCJ (fin t).L).filter fun x => !qMW (flat (fin t)) i x)=qE2 t i:=by
 have d:=qDI t;unfold qE2;rw[if_pos hi];unfold qCJ;rw[List.filter_map];congr 1;refine List.filter_congr fun v hv=>?_
 have hvn:=d.lt v hv;show(!qMW (flat (fin t)) i (v:Int))=_;unfold qMW qhR;rw[yAI,qWV d v hvn,qWV d i.toNat (by omega),Bool.not_not]
instance dBelow (t:List qAD) (i:Int):Fn BB 15 [.agg [.rd qAB t],.int .i64 i] (t.length<=280) (.rd qAL (qE2 t i)):=by
 refine Fn.intro (N:=20) [0,1,2,3,4,5,15] [] Tryz.call15 Tryz.func15 rfl rfl (by kernel_rfl) (fun hpre=>?_)
 have d:=qDI t;have hlen:(flat (fin t)).length=t.length:=by rw[qCW,d.lI]
 have hnl:=qU3 (fin t).L;have hLn:=qCX d.nod d.lt;have f1:(decide (i<0)||decide (i>=(((flat (fin t)).length:Nat):Int)))=true->qE2 t i=[]:=fun h=>by
  rw[hlen,yAF,decide_eq_true_eq,decide_eq_true_eq] at h;unfold qE2;rw[if_neg (by omega)]
 have f2:(decide (i<0)||decide (i>=(((flat (fin t)).length:Nat):Int)))=false->0<=i/\i<t.length:=fun h=>by
  rw[hlen,yAE,decide_eq_false_iff_not,decide_eq_false_iff_not] at h;omega
 have f3:∀ q:Nat,q<(qCJ (fin t).L).length->0<=(qCJ (fin t).L).getD q qAL.dflt/\(qCJ (fin t).L).getD q qAL.dflt<((flat (fin t)).length:Int):=fun q hq=>by
  rw[hnl] at hq;have e:(qCJ (fin t).L).getD q qAL.dflt=(((fin t).L[q]:Nat):Int):=by unfold qCJ;rw[yAR,List.getElem?_map,yAU hq];rfl
  have:=d.lt _ (yAW hq);rw[e,hlen];omega
 repeat'((conv=>whnf);first|exact qR|intro _|refine WA ?_ ?_|refine WF ?_|refine X1 (W2 rfl ?_ ?_)|refine X2 (W7 rfl ?_ ?_)|refine X3 (W7 rfl ?_ ?_))
 all_goals(try(conv=>whnf))
 all_goals(try first|exact obA|refine Ob.mk ?_)
 all_goals(try(exact(f1 (by assumption)).symm))
 all_goals(try(exact f1 (by assumption)))
 all_goals(try(have q:=f2 (by assumption);exact⟨by rw[hnl];omega,qmC hpre,by rw[hlen];exact q,f3⟩))
 all_goals(try(have q:=f2 (by assumption);rw[qa1 q];done))
 all_goals trace_state
end
end Go.Vc

namespace Go.Vc
open Go.Proofs
set_option maxRecDepth 10000
set_option maxHeartbeats 8000000
def zD2 (t out:List qAD) (s:List Bool) (k:Int) (p:Nat):Prop:=qA4 t=true/\s.length=t.length/\(0<=k/\k<t.length)/\out.length+unseen (s.set k.toNat true)+1<=5000/\p<out.length/\(out.getD p qAB.dflt).kids.length<=1000
theorem qd2 (out:List qAD) (p:Nat) (h:p<out.length) (x:qAD) (k:Int):qBA (out++[x]) p k=qBA out p k++[x]:=by
 unfold qBA;rw[List.set_append,if_pos h,yAR,yAS h, <-yAR]
theorem qPP {q:List Bool}{n:Nat}(hq:q.length=n) (k:Int):(decide (0<=k)&&decide (k<(n:Int)) && !q.getD k.toNat false)=okK q k:=qW1 hq k
theorem zDC (N:Nat):∀ (t out:List qAD) (s:List Bool) (k:Int) (p:Nat),
  FnM BN 158 [.int .i64 k,.int .i64 (p:Int),.loc 0 0,.loc 2 0,.loc 4 0,.loc 5 0]
   [(0,.box [.own 1]),(1,.ow .bool s),(2,.box [.own 3]),(3,.nst qAB 6 out none),(4,.box [.rd qAB t]),(5,.box [.fn 158 [.loc 0 0,.loc 2 0,.loc 4 0,.loc 5 0]])]
   (zD2 t out s k p/\unseen (s.set k.toNat true)<N) (.tup [])
   [(0,.box [.own 1]),(1,.ow .bool (qPA (qAC t) s k.toNat)),(2,.box [.own 3]),(3,.nst qAB 6 (qH7 t (qAC t) (qBA out p out.length) s k.toNat p) none),(4,.box [.rd qAB t]),(5,.box [.fn 158 [.loc 0 0,.loc 2 0,.loc 4 0,.loc 5 0]])]:=by
 induction N with
 | zero=>intro t out s k p;exact⟨Tryz.call158,fun h=>absurd h.2 (yBE _)⟩
 | succ N ih=>
  intro t out s k p;refine FnM.intro (N:=84) [0,1,2,3,4,5,8,9,11,37,57,58,59,60,78] [(6,[0,7,0,0,7,0,4,4,4,0,4,4,4,4,4]),(3000006,[454,519,712,714,844,907,909])] 6 Tryz.call158 Tryz.func158 rfl rfl (by kernel_rfl) (fun hpre=>?_)
  obtain⟨⟨hsm,hsl,hk,hlen,hp,hpk⟩,hN⟩:=hpre
  repeat'((conv=>whnf);first|intro _|refine And.intro ?_ ?_|refine X2 (W7 rfl ?_ ?_))
  all_goals(try(conv=>whnf))
  all_goals(try first|exact obA|refine Ob.mk ?_)
  all_goals(try simp only[qQ4,qMB,qQN,qMQ,yA3] at *)
  ·exact yBB (qCY hsm k (qBH.2 hk)).1 (by decide)
  ·have hl1:(out++[mkN (t.getD k.toNat qAB.dflt) (p:Int)]).length=out.length+1:=by rw[yAY];rfl
   have hpl:p<(out++[mkN (t.getD k.toNat qAB.dflt) (p:Int)]).length:=by omega
   have hgp:(out++[mkN (t.getD k.toNat qAB.dflt) (p:Int)]).getD p qAB.dflt=out.getD p qAB.dflt:=by
    rw[yAR,yAS hp, <-yAR]
   refine ZStop.mk [] [(3,.nst qAB 6 (qBA (out++[mkN (t.getD k.toNat qAB.dflt) (p:Int)]) p out.length) none)] 60 ?_;have o1:Ob (0<=(p:Int)/\(p:Int)<((out++[mkN (t.getD k.toNat qAB.dflt) (p:Int)]).length:Int)):=Ob.mk ⟨by omega,by omega⟩
   have o2:Ob ((p:Int).toNat<(out++[mkN (t.getD k.toNat qAB.dflt) (p:Int)]).length):=Ob.mk (by omega)
   have o3:Ob ((p:Int).toNat<(out++[mkN (t.getD k.toNat qAB.dflt) (p:Int)]).length/\(((out++[mkN (t.getD k.toNat qAB.dflt) (p:Int)]).getD (p:Int).toNat qAB.dflt).kids.length+1)*8<=70368744177664/\((out++[mkN (t.getD k.toNat qAB.dflt) (p:Int)]).getD (p:Int).toNat qAB.dflt).kids.length+1<=70368744177664):=Ob.mk (by rw[yAI,hgp];exact⟨by omega,by omega,by omega⟩)
   repeat'((conv=>whnf);first|exact qR|intro _|refine And.intro ?_ ?_)
   all_goals(try(conv=>whnf))
   all_goals(first|exact o1|exact o2|exact o3|exact Ob.mk rfl|(refine Ob.mk ?_;rw[yA2];first|exact o1.h|exact o2.h)|skip)
   any_goals (refine Rnd.mk (p:=qIU _ _ _ _ _) ?_)
   repeat'((conv=>whnf);first|exact qR|refine And.intro ?_ ?_)
   all_goals(try(conv=>whnf))
   all_goals(try exact congrArg (fun l=>Chunk.nst qAB 6 l none) (qNW (out++[mkN (t.getD k.toNat qAB.dflt) (p:Int)]) p out.length hpl))
   ·exact Ob.mk hk
   have hoa:=qd2 out p hp (mkN (t.getD k.toNat qAB.dflt) (p:Int)) out.length;have hpO:qH7 t (qAC t) (qBA out p out.length) s k.toNat p=pS t (qAC t) (qBA out p out.length++[mkN (t.getD k.toNat qAB.dflt) (p:Int)]) (s.set k.toNat true) out.length k.toNat 0:=by unfold qH7;rw[qA0]
   have hpS:qPA (qAC t) s k.toNat=sS (qAC t) (s.set k.toNat true) k.toNat 0:=rfl;rw[hpO,hpS];refine LoopStop.mk (α:=List qAD×List Bool×Nat) (fun a=>[(59,.int .i64 a.2.2)]) (fun a=>[(3,.nst qAB 6 a.1 none),(1,.ow .bool a.2.1)]) 20
    (fun a=>pS t (qAC t) a.1 a.2.1 out.length k.toNat a.2.2=pS t (qAC t) (qBA out p out.length++[mkN (t.getD k.toNat qAB.dflt) (p:Int)]) (s.set k.toNat true) out.length k.toNat 0/\sS (qAC t) a.2.1 k.toNat a.2.2=sS (qAC t) (s.set k.toNat true) k.toNat 0/\a.2.1.length=t.length/\a.1.length+unseen a.2.1<=5000/\
     out.length<a.1.length/\(a.1.getD out.length qAB.dflt).kids.length<=a.2.2/\a.2.2<=(qAC t k.toNat).length/\unseen a.2.1<=N)
    (fun a=>(qAC t k.toNat).length-a.2.2) (qBA (out++[mkN (t.getD k.toNat qAB.dflt) (p:Int)]) p out.length,s.set k.toNat true,0)
    ⟨by rw[hoa],rfl,by simpa using hsl,by show(qBA _ p _).length+unseen (s.set k.toNat true)<=5000;rw[qA0];omega,by rw[qA0];omega,by
     rw[hoa,yAR,yAT (by rw[qA0];omega),qA0,yBF]
     simp[mkN,qAD.kids],yBH _,by show unseen (s.set k.toNat true)<=N;omega⟩ ?_ (fun a ha=>?_)
   ·all_goals exact vcA
   ·obtain⟨o,q,j⟩:=a;dsimp only at ha ⊢;obtain⟨h1,h2,h3,h4,h5,h6,h7,h8⟩:=ha;have hkl:(qAC t k.toNat).length<=1000:=(qCY hsm k (qBH.2 hk)).2
    repeat'((conv=>whnf);first|exact qR|intro _|refine WA ?_ ?_|refine WF ?_|refine X2 (W7 rfl ?_ ?_))
    all_goals(try(conv=>whnf))
    all_goals(try first|exact obA|refine Ob.mk ?_)
    all_goals(try simp only[yAI] at *)
    ·rename_i c1 c2 c3;have hj:j<(qAC t k.toNat).length:=by have h:=of_decide_eq_true c2;exact yAH.mp h
     have hc:okK q ((qAC t k.toNat).getD j 0)=true:=by rw[<-qPP h3];exact c3
     have hok:=qBF hc;have hu:=qBC hok.2.2;exact⟨⟨hsm,h3,⟨hok.1,by have h:=hok.2.1;rw[h3] at h;exact(by omega:(qAC t k.toNat).getD j 0<(t.length:Int))⟩,by change o.length+unseen (q.set ((qAC t k.toNat).getD j 0).toNat true)+1<=_;omega,h5,by omega⟩,by change unseen (q.set ((qAC t k.toNat).getD j 0).toNat true)<N;omega⟩
    ·rename_i c1 c2 c3;have hj:j<(qAC t k.toNat).length:=by have h:=of_decide_eq_true c2;exact yAH.mp h
     have hc:okK q ((qAC t k.toNat).getD j 0)=true:=by rw[<-qPP h3];exact c3
     have hok:=qBF hc;have hu:=qBC hok.2.2;obtain⟨e1,e2⟩:=qZ9 (t:=t) (out:=o) (p:=out.length) hj hc;rw[e1] at h1;rw[e2] at h2;obtain⟨l1,l2,l3,l4⟩:=qJG (t:=t) (K:=qAC t) (qBA o out.length o.length) q ((qAC t k.toNat).getD j 0).toNat out.length;rw[qA0] at l1 l2 l3;refine Rnd.mk ⟨(qH7 t (qAC t) (qBA o out.length o.length) q ((qAC t k.toNat).getD j 0).toNat out.length,qPA (qAC t) q ((qAC t k.toNat).getD j 0).toNat,j+1),⟨h1,h2,l4.trans h3,by dsimp only;omega,by dsimp only;omega,?_,by show j+1<=_;omega,by dsimp only;omega⟩,by show _-(j+1)<_;omega,?_⟩
     ·dsimp only;rw[l3 _ h5,qHP _ _ _ h5,yAY,yA3];exact yBG h6
     ·all_goals exact vcA
    ·rename_i c1 c2 c3;have hj:j<(qAC t k.toNat).length:=by have h:=of_decide_eq_true c2;exact yAH.mp h
     have hc:okK q ((qAC t k.toNat).getD j 0)=false:=by rw[<-qPP h3];exact c3
     obtain⟨e1,e2⟩:=qPD (t:=t) (out:=o) (p:=out.length) hj hc;rw[e1] at h1;rw[e2] at h2;refine Rnd.mk ⟨(o,q,j+1),⟨h1,h2,h3,h4,h5,yBA h6,by show j+1<=_;omega,h8⟩,by show _-(j+1)<_;omega,?_⟩
     all_goals exact vcA
    all_goals(rename_i c1 c2)
    all_goals(have hj:¬j<(qAC t k.toNat).length:=by have h:=of_decide_eq_false c2;exact fun q=>h (yAH.mpr q))
    all_goals(obtain⟨e1,e2⟩:=qOW (t:=t) (out:=o) (p:=out.length) (s:=q) hj;rw[e1] at h1;rw[e2] at h2)
    ·rw[h2]
    ·rw[h1]
  ·exact absurd (by omega:(p:Int)>=0) (of_decide_eq_false ‹decide ((p:Int)>=0)=false›)
end Go.Vc

namespace Go.Vc
open Go.Proofs
set_option maxRecDepth 10000
set_option maxHeartbeats 8000000
instance hCop (t out:List qAD) (s:List Bool) (k:Int) (p:Nat):
  FnM BN 158 [.int .i64 k,.int .i64 (p:Int),.loc 0 0,.loc 2 0,.loc 4 0,.loc 5 0]
   [(0,.box [.own 1]),(1,.ow .bool s),(2,.box [.own 3]),(3,.nst qAB 6 out none),(4,.box [.rd qAB t]),(5,.box [.fn 158 [.loc 0 0,.loc 2 0,.loc 4 0,.loc 5 0]])]
   (zD2 t out s k p) (.tup [])
   [(0,.box [.own 1]),(1,.ow .bool (qPA (qAC t) s k.toNat)),(2,.box [.own 3]),(3,.nst qAB 6 (qH7 t (qAC t) (qBA out p out.length) s k.toNat p) none),(4,.box [.rd qAB t]),(5,.box [.fn 158 [.loc 0 0,.loc 2 0,.loc 4 0,.loc 5 0]])]:=
 have h:=zDC (unseen (s.set k.toNat true)+1) t out s k p
 ⟨h.call,fun hp=>h.ok ⟨hp,yBD _⟩⟩
instance hCopZ (t out:List qAD) (s:List Bool) (k:Int):
  FnM BN 158 [.int .i64 k,.int .i64 0,.loc 0 0,.loc 2 0,.loc 4 0,.loc 5 0]
   [(0,.box [.own 1]),(1,.ow .bool s),(2,.box [.own 3]),(3,.nst qAB 6 out none),(4,.box [.rd qAB t]),(5,.box [.fn 158 [.loc 0 0,.loc 2 0,.loc 4 0,.loc 5 0]])]
   (zD2 t out s k 0) (.tup [])
   [(0,.box [.own 1]),(1,.ow .bool (qPA (qAC t) s k.toNat)),(2,.box [.own 3]),(3,.nst qAB 6 (qH7 t (qAC t) (qBA out 0 out.length) s k.toNat 0) none),(4,.box [.rd qAB t]),(5,.box [.fn 158 [.loc 0 0,.loc 2 0,.loc 4 0,.loc 5 0]])]:=
 have h:=hCop t out s k 0
 ⟨h.call,fun hp=>h.ok hp⟩
instance hCop0 (t:List qAD) (s:List Bool) (k:Int):
  FnM BN 158 [.int .i64 k,.int .i64 (-1),.loc 0 0,.loc 2 0,.loc 3 0,.loc 4 0]
   [(0,.box [.own 1]),(1,.own .bool s),(2,.box [.nils]),(3,.box [.rd qAB t]),(4,.box [.fn 158 [.loc 0 0,.loc 2 0,.loc 3 0,.loc 4 0]])]
   (qm7 t [] s k) (.tup [])
   [(0,.box [.own 1]),(1,.ow .bool (qPA (qAC t) s k.toNat)),(2,.box [.own 5]),(5,.nst qAB 6 (qH7 t (qAC t) [] s k.toNat (-1)) none),(3,.box [.rd qAB t]),(4,.box [.fn 158 [.loc 0 0,.loc 2 0,.loc 3 0,.loc 4 0]])]:=by
 refine FnM.intro (N:=84) [0,1,2,3,4,5,8,9,11,37,57,58,59,60,78] [(6,[0,7,0,0,7,0,4,4,4,0,4,4,4,4,4]),(3000006,[454,519,712,714,844,907,909]),(2000000,[1])] 5 Tryz.call158 Tryz.func158 rfl rfl (by kernel_rfl) (fun hpre=>?_)
 obtain⟨hsm,hsl,hk,hlen⟩:=hpre;simp only[yA0,Nat.zero_add] at hlen
 repeat'((conv=>whnf);first|exact qR|intro _|refine WA ?_ ?_|refine WF ?_|refine W1 rfl ?_ ?_|refine W2 rfl ?_ ?_|refine W3 rfl ?_ ?_|refine W4 ?_ ?_|refine W5 rfl ?_ ?_|refine W6 ?_ ?_|refine AppN.ns ?_|refine X1 (W1 rfl ?_ ?_)|refine X1 (W2 rfl ?_ ?_)|refine X2 (W7 rfl ?_ ?_)|refine X3 (W7 rfl ?_ ?_)|refine X4 (W7 rfl ?_ ?_)|refine X5 (W7 rfl ?_ ?_))
 all_goals(try(conv=>whnf))
 all_goals(try first|exact obA|refine Ob.mk ?_)
 all_goals(try simp only[qQ4,qMB,qQN,qMQ,yA3] at *)
 ·exact yBB (qCY hsm k (qBH.2 hk)).1 (by decide)
 ·exact absurd ‹decide ((-1:Int)>=0)=true› (by decide)
 have hpO:qH7 t (qAC t) [] s k.toNat (-1)=pS t (qAC t) ([]++[mkN (t.getD k.toNat qAB.dflt) (-1)]) (s.set k.toNat true) 0 k.toNat 0:=rfl;have hpS:qPA (qAC t) s k.toNat=sS (qAC t) (s.set k.toNat true) k.toNat 0:=rfl;rw[hpO,hpS];refine LoopStop.mk (α:=List qAD×List Bool×Nat) (fun a=>[(59,.int .i64 a.2.2)]) (fun a=>[(7,.nst qAB 6 a.1 none),(1,.ow .bool a.2.1)]) 20
  (fun a=>pS t (qAC t) a.1 a.2.1 0 k.toNat a.2.2=pS t (qAC t) ([]++[mkN (t.getD k.toNat qAB.dflt) (-1)]) (s.set k.toNat true) 0 k.toNat 0/\sS (qAC t) a.2.1 k.toNat a.2.2=sS (qAC t) (s.set k.toNat true) k.toNat 0/\a.2.1.length=t.length/\a.1.length+unseen a.2.1<=5000/\
   0<a.1.length/\(a.1.getD 0 qAB.dflt).kids.length<=a.2.2/\a.2.2<=(qAC t k.toNat).length)
  (fun a=>(qAC t k.toNat).length-a.2.2) ([]++[mkN (t.getD k.toNat qAB.dflt) (-1)],s.set k.toNat true,0)
  ⟨rfl,rfl,by simpa using hsl,by simp only[yAY,yA3,yA0];omega,by simp,by simp[mkN,qAD.kids],yBH _⟩ ?_ (fun a ha=>?_)
 ·all_goals exact vcA
 ·obtain⟨o,q,j⟩:=a;dsimp only at ha ⊢;obtain⟨h1,h2,h3,h4,h5,h6,h7⟩:=ha;have hkl:(qAC t k.toNat).length<=1000:=(qCY hsm k (qBH.2 hk)).2
  repeat'((conv=>whnf);first|exact qR|intro _|refine WA ?_ ?_|refine WF ?_|refine X2 (W7 rfl ?_ ?_))
  all_goals(try(conv=>whnf))
  all_goals(try first|exact obA|refine Ob.mk ?_)
  all_goals(try simp only[yAI] at *)
  ·rename_i c1 c2 c3;have hj:j<(qAC t k.toNat).length:=by have h:=of_decide_eq_true c2;exact yAH.mp h
   have hc:okK q ((qAC t k.toNat).getD j 0)=true:=by rw[<-qPP h3];exact c3
   have hok:=qBF hc;have hu:=qBC hok.2.2;exact⟨hsm,h3,⟨hok.1,by have h:=hok.2.1;rw[h3] at h;exact(by omega:(qAC t k.toNat).getD j 0<(t.length:Int))⟩,by change o.length+unseen (q.set ((qAC t k.toNat).getD j 0).toNat true)+1<=_;omega,h5,by omega⟩
  ·rename_i c1 c2 c3;have hj:j<(qAC t k.toNat).length:=by have h:=of_decide_eq_true c2;exact yAH.mp h
   have hc:okK q ((qAC t k.toNat).getD j 0)=true:=by rw[<-qPP h3];exact c3
   have hok:=qBF hc;have hu:=qBC hok.2.2;obtain⟨e1,e2⟩:=qZ9 (t:=t) (out:=o) (p:=0) hj hc;rw[e1] at h1;rw[e2] at h2;obtain⟨l1,l2,l3,l4⟩:=qJG (t:=t) (K:=qAC t) (qBA o 0 o.length) q ((qAC t k.toNat).getD j 0).toNat 0;rw[qA0] at l1 l2 l3;refine Rnd.mk ⟨(qH7 t (qAC t) (qBA o 0 o.length) q ((qAC t k.toNat).getD j 0).toNat 0,qPA (qAC t) q ((qAC t k.toNat).getD j 0).toNat,j+1),⟨h1,h2,l4.trans h3,by dsimp only;omega,by dsimp only;omega,?_,by show j+1<=_;omega⟩,by show _-(j+1)<_;omega,?_⟩
   ·dsimp only;rw[l3 _ h5,qHP _ _ _ h5,yAY,yA3];exact yBG h6
   ·all_goals exact vcA
  ·rename_i c1 c2 c3;have hj:j<(qAC t k.toNat).length:=by have h:=of_decide_eq_true c2;exact yAH.mp h
   have hc:okK q ((qAC t k.toNat).getD j 0)=false:=by rw[<-qPP h3];exact c3
   obtain⟨e1,e2⟩:=qPD (t:=t) (out:=o) (p:=0) hj hc;rw[e1] at h1;rw[e2] at h2;refine Rnd.mk ⟨(o,q,j+1),⟨h1,h2,h3,h4,h5,yBA h6,by show j+1<=_;omega⟩,by show _-(j+1)<_;omega,?_⟩
   all_goals exact vcA
  all_goals(rename_i c1 c2)
  all_goals(have hj:¬j<(qAC t k.toNat).length:=by have h:=of_decide_eq_false c2;exact fun q=>h (yAH.mpr q))
  all_goals(obtain⟨e1,e2⟩:=qOW (t:=t) (out:=o) (p:=0) (s:=q) hj;rw[e1] at h1;rw[e2] at h2)
  all_goals(first|(rw[h2];done)|(rw[h1];done)|trace_state)
instance hCopied (t:List qAD) (k:Int):FnM BN 121 [.agg [.rd qAB t],.int .i64 k] [] (qA4 t=true/\0<=k/\k<t.length) (.agg [.own 0]) [(0,.nst qAB 6 (qH7 t (qAC t) [] (List.replicate t.length false) k.toNat (-1)) none)]:=by
 refine FnM.intro (N:=17) [0,1,2,4,5,6,7] [] 0 Tryz.call121 Tryz.func121 rfl rfl (by kernel_rfl) (fun hpre=>?_)
 obtain⟨hsm,hk⟩:=hpre;have hl:=qFN hsm;have hu:=qGQ ((List.replicate t.length false).set k.toNat true);rw[yA2,yA1] at hu
 repeat'((conv=>whnf);first|exact qR|intro _|refine WA ?_ ?_|refine WF ?_|refine X2 (W7 rfl ?_ ?_))
 all_goals(try(conv=>whnf))
 all_goals(try first|exact obA|refine Ob.mk ?_)
 all_goals(try(refine⟨by omega,yAG _,?_,by omega⟩;show(t.length:Int)*((1:Nat):Int)<=_;omega))
 ·rw[yAI];exact⟨hsm,yA1,hk,by show 0+unseen ((List.replicate t.length false).set k.toNat true)+1<=5000;omega⟩
 all_goals(rw[yAI])
end Go.Vc

namespace Go.Vc
open Go.Proofs
set_option maxRecDepth 10000
set_option maxHeartbeats 4000000
theorem qQF {a b:List Int}{i:Nat}(ha:i<a.length) (hb:i<b.length) (h:a.take i=b.take i) (h2:a.getD i 0=b.getD i 0):a.take (i+1)=b.take (i+1):=by
 rw[take_snoc a i 0 ha,take_snoc b i 0 hb,h,h2]
instance aEq (a b:List Int):Fn BB 24 [.rd qAL a,.rd qAL b] True (.bool (a==b)):=by
 refine Fn.intro (N:=26) [0,1,4,5,10,12,13,14,24] [(6,[0,0,1,1,0,0,1,1,3])] Tryz.call24 Tryz.func24 rfl rfl (by kernel_rfl) (fun hpre=>?_)
 repeat'((conv=>whnf);first|exact qR|intro _|refine And.intro ?_ ?_|refine Fin.mk ?_)
 all_goals(try(conv=>whnf))
 ·rename_i h;have:¬a=b:=by rintro rfl;simp at h
  simp[this]
 ·refine LoopStop.mk (α:=Nat) (fun i=>[(13,.int .i64 i)]) (fun i=>[]) 0 (fun i=>i<=a.length/\a.take i=b.take i) (fun i=>a.length-i) 0 (by simp) ?_ (fun i hi=>?_)
  ·repeat'((conv=>whnf);first|exact qR|refine And.intro ?_ ?_)
   all_goals(try(conv=>whnf))
   all_goals(try rfl)
  ·repeat'((conv=>whnf);first|exact qR|intro _|refine And.intro ?_ ?_|refine Fin.mk ?_)
   all_goals(try(conv=>whnf))
   all_goals(try first|exact obA|refine Ob.mk ?_)
   all_goals(try simp only[ZA,ZB,ZC,ZD,ZE,ZF,ZG,ZH,ZI,ZJ,ZK,ZL,ZM,ZN,ZO,yAI,yBI,cast_eq] at *)
   all_goals(try omega)
   ·rename_i h;have:¬a=b:=by rintro rfl;exact h rfl
    simp[this]
   ·have h:i<a.length:=by omega
    have h':i<b.length:=by omega
    refine Rnd.mk ⟨i+1,?_,?_,?_⟩
    ·exact⟨h,qQF h h' hi.2 ‹_›⟩
    ·omega
    ·all_goals exact vcA
   ·have e:i=a.length:=by omega
    subst e;have h2:=hi.2;have h3:b.length<=a.length:=by omega
    rw[yA7 (yA9 _),yA7 h3] at h2;rw[h2];simp
end Go.Vc

namespace Go.Vc
open Go.Proofs
set_option maxRecDepth 10000
set_option maxHeartbeats 8000000
instance sTidyN (t:List qAD):FnM BN 67 [.agg [.rd qAB t]] [] (qA4 t=true) (.agg [.rd qAB (qCL t)]) []:=by
 refine FnM.intro (N:=10) [0,1,2,6] [] 0 Tryz.call67 Tryz.func67 rfl rfl (by kernel_rfl) (fun hpre=>?_)
 repeat'((conv=>whnf);first|exact qR|intro _|refine WA ?_ ?_|refine WF ?_|refine X2 (W7 rfl ?_ ?_))
 all_goals(try(conv=>whnf))
 all_goals(try first|exact obA|refine Ob.mk ?_)
 ·rw[qYV ‹_›]
 all_goals(have h0:¬((t.length:Int)==0)=true:=by rw[show((t.length:Int)==0)=false from by assumption];decide)
 ·exact⟨hpre,yAG 0,by have:¬(t.length:Int)=0:=fun e=>h0 (beq_iff_eq.2 e);omega⟩
 ·rw[qdA h0];rfl
instance sTidy (t:List qAD):FnM BB 67 [.agg [.rd qAB t]] [] (qA4 t=true) (.agg [.rd qAB (qCL t)]) []:=
 have h:=sTidyN t
 ⟨h.call,h.ok⟩
end Go.Vc

namespace Go.Vc
open Go.Proofs
open Go.Vc.W
set_option maxRecDepth 10000
set_option maxHeartbeats 4000000
theorem qa9 {t:List qAD}(h:qA4 t=true) (i:Int):qA4 (qC9 t i)=true:=by
  unfold qC9;split
  · rename_i hi
    unfold qA4 at h ⊢;rw[yAB,decide_eq_true_eq,yAL] at h ⊢;refine⟨by rw[yA2];exact h.1,fun n hn=>?_⟩
    rcases List.mem_or_eq_of_mem_set hn with q|q
    · exact h.2 n q
    · have hm:t.getD i.toNat qAB.dflt∈t:=by
        rw[yAR,yAU (by omega)];exact yAW _
      have:=h.2 _ hm;rw[q];rw[yAB,decide_eq_true_eq,decide_eq_true_eq] at this ⊢;exact⟨this.1,yBH _⟩
  · exact h
instance dCloneN (l:List qAD):FnM BB 94 [.rd qAB l] [] (l.length<=100000) (.own 0) [(0,.own qAB l)]:=by
 refine FnM.intro (N:=8) [0,2,4] [] 1 Tryz.call94 Tryz.func94 rfl rfl (by kernel_rfl) (fun hpre=>?_)
 repeat'((conv=>whnf);first|exact qR|intro _|refine And.intro ?_ ?_|refine Fin.mk ?_)
 all_goals(try(conv=>whnf))
 all_goals(try first|exact obA|refine Ob.mk ?_)
 all_goals(try simp_all)
instance dEmpt (t:List qAD) (i:Int):Fn BB 68 [.agg [.rd qAB t],.int .i64 i] (qA4 t=true) (.agg [.rd qAB (qC9 t i)]):=by
 refine Fn.intro (N:=25) [0,1,2,4,5,18] [] Tryz.call68 Tryz.func68 rfl rfl (by kernel_rfl) (fun hpre=>?_)
 have hl:=qFN hpre;have f1:(decide (0<=i)&&decide (i<(t.length:Int)))=true->(0<=i/\i<t.length)/\qC9 t i=t.set i.toNat (qIJ (t.getD i.toNat qAB.dflt) []):=fun h=>by
  rw[yAB,decide_eq_true_eq,decide_eq_true_eq] at h;refine⟨h,?_⟩;unfold qC9;rw[if_pos h]
 have f2:(decide (0<=i)&&decide (i<(t.length:Int)))=false->qC9 t i=t:=fun h=>by
  rw[yAA,decide_eq_false_iff_not,decide_eq_false_iff_not] at h;unfold qC9;rw[if_neg (by omega)]
 repeat'((conv=>whnf);first|exact qR|intro _|refine WA ?_ ?_|refine WF ?_|refine X2 (W7 rfl ?_ ?_))
 all_goals(try(conv=>whnf))
 all_goals(try first|exact obA|refine Ob.mk ?_)
 all_goals(try omega)
 all_goals(try(exact(f1 (by assumption)).1))
 all_goals(try(rw[(f1 (by assumption)).2];rfl))
 all_goals(try(rw[f2 (by assumption)];done))
 all_goals trace_state
instance dOutside (t:List qAD) (i:Int):FnM BB 16 [.agg [.rd qAB t],.int .i64 i] [] (qA4 t=true) (.agg [.rd qAB (qCL (qC9 t i))]) []:=by
 refine FnM.intro (N:=9) [0,1,2,4] [] 0 Tryz.call16 Tryz.func16 rfl rfl (by kernel_rfl) (fun hpre=>?_)
 have h2:=qa9 hpre i
 repeat'((conv=>whnf);first|exact qR|refine WA ?_ ?_|refine WF ?_|refine X1 (W2 rfl ?_ ?_)|refine X2 (W7 rfl ?_ ?_))
 all_goals(try(conv=>whnf))
 all_goals(try first|exact obA|refine Ob.mk ?_)
 all_goals(first|exact hpre|exact h2|rfl|trace_state)
instance dWhere (t:List qAD) (i n:Int):Fn BB 60 [.agg [.rd qAB t],.int .i64 i,.int .i64 n] (qA4 t=true/\t.length<=280) (.int .i64 (qPE (qCJ (fin (qC9 t i)).L) n)):=by
 refine Fn.intro (N:=13) [0,1,2,3,6] [] Tryz.call60 Tryz.func60 rfl rfl (by kernel_rfl) (fun hpre=>?_)
 obtain⟨h1,h3⟩:=hpre;have h2:=qMO t i
 repeat'((conv=>whnf);first|exact qR|refine WA ?_ ?_|refine WF ?_|refine X1 (W1 rfl ?_ ?_)|refine X1 (W2 rfl ?_ ?_))
 all_goals(try(conv=>whnf))
 all_goals(try first|exact obA|refine Ob.mk ?_)
 all_goals(first|exact h1|(rw[h2];exact h3)|rfl|trace_state)
end Go.Vc

namespace Go.Vc
open Go.Proofs
open Go.Vc.W
set_option maxRecDepth 10000
set_option maxHeartbeats 4000000
theorem Fn.wk46 {B:Base}{f:FuncId}{args args':List SV}{pre:Prop}{res:SV}(F:Fn B f args pre res) (h:∀ r β vs,qA5 r β args' vs->qA5 r β args vs):Fn B f args' pre res:=
 ⟨F.call,fun hp r β w vs hG m hl=>F.ok hp r β w vs hG m (h r β vs hl)⟩
theorem qY2 {r:Mem}{β:qBD}{a b c:SV}{v:Value}(h:Rel r β (.agg [a,b,c,.nils]) v):Rel r β (.agg [a,b,c,.rd qCA []]) v:=by
 obtain⟨cs,rfl,hc⟩:=h.aggL_inv;refine .aggL ⟨hc.1,fun j sv u q1 q2=>?_⟩
 match j,q1 with
 | 0,q1=>cases q1;exact hc.2 0 _ u rfl q2
 | 1,q1=>cases q1;exact hc.2 1 _ u rfl q2
 | 2,q1=>cases q1;exact hc.2 2 _ u rfl q2
 | 3,q1=>cases q1;exact qMU (hc.2 3 _ u rfl q2)
theorem qiH {r:Mem}{β:qBD}{v:Value}(h:Rel r β (.agg [.nils]) v):Rel r β (.agg [.rd qAB []]) v:=by
 obtain⟨cs,rfl,hc⟩:=h.aggL_inv;refine .aggL ⟨hc.1,fun j sv u q1 q2=>?_⟩
 match j,q1 with
 | 0,q1=>cases q1;exact qMU (hc.2 0 _ u rfl q2)
instance bTree45A (ti:List UInt8) (be:List qA8) (ar:List (List UInt8)) (t:List qAD):
  Fn BB 19 [.agg [.str ti,.rd qCA be,.rd .str ar,.nils],.agg [.rd qAB t]] (qNF ti be ar []/\qA4 t=true/\t.length<=45) (.agg [.rd qAB (mkT (qDC voB ti be ar [] (qDO t)))]):=
 Fn.wk46 (bTree45 ti be ar [] t) fun r β vs h=>by
  refine⟨h.1,fun i sv v h1 h2=>?_⟩
  match i,h1 with
  | 0,h1=>cases h1;exact qY2 (h.2 0 _ v rfl h2)
  | 1,h1=>cases h1;exact h.2 1 _ v rfl h2
instance bTree45T (ti:List UInt8) (be:List qA8) (ar:List (List UInt8)) (af:List qA8):
  Fn BB 19 [.agg [.str ti,.rd qCA be,.rd .str ar,.rd qCA af],.agg [.nils]] (qNF ti be ar af/\qA4 ([]:List qAD)=true/\([]:List qAD).length<=45) (.agg [.rd qAB (mkT (qDC voB ti be ar af (qDO [])))]):=
 Fn.wk46 (bTree45 ti be ar af []) fun r β vs h=>by
  refine⟨h.1,fun i sv v h1 h2=>?_⟩
  match i,h1 with
  | 0,h1=>cases h1;exact h.2 0 _ v rfl h2
  | 1,h1=>cases h1;exact qiH (h.2 1 _ v rfl h2)
instance dFindA (t:List qAD) (ti:List UInt8) (be:List qA8) (ar:List (List UInt8)):Fn BB 20 [.agg [.rd qAB t],.agg [.str ti,.rd qCA be,.rd .str ar,.nils]] (qA4 t=true/\be.length<=24) (.int .i64 (qL7 t be.length ar)):=
 Fn.wk46 (dFind t ti be ar []) fun r β vs h=>by
  refine⟨h.1,fun i sv v h1 h2=>?_⟩
  match i,h1 with
  | 0,h1=>cases h1;exact h.2 0 _ v rfl h2
  | 1,h1=>cases h1;exact qY2 (h.2 1 _ v rfl h2)
theorem qeG:qDO []=.nil:=by unfold qDO;rw[qPF];rfl
theorem qd8 {d:FD}(h:d.at) (hl:d.size<=900):qA4 (mkT d)=true:=by
 have:=qRF.fl d (p:=0) (by decide) h
 exact TOk.small (o:=mkT d) this (by rw[qJ2];omega)
theorem qSV {S:FD}(h:S.at):∀ l:List (List UInt8),(qB5 l S).at
 | []=>⟨qCZ _ _ _ _,h,True.intro⟩
 | a::l=>⟨qCZ _ _ _ _,qSV h l,True.intro⟩
theorem qkL {ti:List UInt8}{be:List qA8}{ar:List (List UInt8)}{af:List qA8}{S:FD}(h:S.at):(qDC voB ti be ar af S).at:=
 ⟨yBH _,True.intro,⟨qCZ _ _ _ _,⟨qCZ _ _ _ _,⟨qCZ _ _ _ _,qJT _,True.intro⟩,⟨qCZ _ _ _ _,qXT (qXT (qG3 _ _) (qSV h _)) (qG3 _ _),True.intro⟩⟩,True.intro⟩⟩
theorem qj9 {t:List qAD}(h:qA4 t=true):(qDO t).at:=qZB (qII h) _
theorem qeF {t:List qAD}(h:t≠[]):(qDO t).size+1<=t.length:=by
 have e:=qPQ h;have d:=qDI t;have:=qCX d.nod d.lt;omega
end Go.Vc

namespace Go.Vc
open Go.Proofs
set_option maxRecDepth 10000
def qpW (l:List Int):Nat->Nat
 | 0=>0
 | k+1=>bif l.getD k 0 == -1 then k+1 else qpW l k
def zDO (l:List Int):Nat:=qpW l l.length
instance a43 (l:List Int):Fn BB 339 [.rd qAL l] True (.int .i64 (zDO l)):=by
 refine Fn.intro (N:=18) [0,2,3,8,15] [] Tryz.call339 Tryz.func339 rfl rfl (by kernel_rfl) (fun hpre=>?_)
 repeat'((conv=>whnf);first|intro _|refine And.intro ?_ ?_)
 all_goals(try(conv=>whnf))
 all_goals(try first|exact obA|refine Ob.mk ?_)
 refine LoopStop.mk (α:=Nat) (fun i=>[(3,.int .i64 ((l.length:Int)-1-i))]) (fun i=>[]) 20 (fun i=>i<=l.length/\zDO l=qpW l (l.length-i)) (fun i=>l.length-i) 0 (by simp[zDO]) ?_ (fun i hC=>?_)
 ·all_goals exact vcA
 ·obtain⟨hi,hC⟩:=hC
  repeat'((conv=>whnf);first|exact qR|intro _|refine And.intro ?_ ?_|refine Fin.mk ?_)
  all_goals(try(conv=>whnf))
  all_goals(try first|exact obA|refine Ob.mk ?_)
  ·rename_i hp h;have hp:(l.length:Int)-1-i>=0:=by simpa using hp
   obtain⟨k,hk⟩:∃ k,l.length-i=k+1:=⟨l.length-i-1,by omega⟩
   rw[hk,qpW] at hC;have h:(l.getD k 0 == -1)=true:=by rw[<-h,show((l.length:Int)-1-i).toNat=k by omega];rfl
   rw[h,cond_true] at hC;rw[hC];omega
  ·rename_i hp h;have hp:(l.length:Int)-1-i>=0:=by simpa using hp
   obtain⟨k,hk⟩:∃ k,l.length-i=k+1:=⟨l.length-i-1,by omega⟩
   rw[hk,qpW] at hC;have h:(l.getD k 0 == -1)=false:=by rw[<-h,show((l.length:Int)-1-i).toNat=k by omega];rfl
   rw[h,cond_false] at hC;refine Rnd.mk ⟨i+1,⟨by omega,by rw[hC];congr 1;omega⟩,by omega,?_,?_,?_⟩
   all_goals exact vcA
  ·(try simp only[ZA,ZB,ZC,ZD,ZE,ZF,ZG,ZH,ZI,ZJ,ZK,ZL,ZM,ZN,ZO,yAI,yBI,cast_eq] at *)
   rw[hC,show l.length-i=0 by omega];rfl
instance a46 (l:List qAD) (i:Int):Fn BB 341 [.agg [.rd qAB l],.int .i64 i] True (.bool (isT l i)):=by
 refine Fn.intro (N:=14) [0,1,2,4] [] Tryz.call341 Tryz.func341 rfl rfl (by kernel_rfl) (fun hpre=>?_)
 repeat'((conv=>whnf);first|exact qR|refine And.intro ?_ ?_|refine Fin.mk ?_)
 all_goals(try(conv=>whnf))
 all_goals(simp_all [isT];done)
end Go.Vc

namespace Go.Vc
open Go.Proofs
set_option maxRecDepth 10000
def qqC:qAD:=((1:Int),(0:Int),([]:List UInt8),([]:List qAY),([]:List UInt8),(0:Int),([]:List Int))
def qT2 (l:List qAD) (i:Int):qAD:=bif isT l i then l.getD i.toNat qAB.dflt else qqC
theorem qhN {l:List qAD}{i:Int}(h:isT l i=true):qT2 l i=l.getD i.toNat qAB.dflt:=by rw[qT2,h];rfl
theorem qeJ {l:List qAD}{i:Int}(h:isT l i=false):qT2 l i=qqC:=by rw[qT2,h];rfl
instance s103 (l:List qAD) (i:Int):Fn BB 314 [.agg [.rd qAB l],.int .i64 i] True (.agg (qAB.enc (qT2 l i))):=by
 cases h:isT l i with
 | true=>
  rw[qhN h];refine Fn.intro (N:=20) [0,1,2,4,13] [] Tryz.call314 Tryz.func314 rfl rfl (by kernel_rfl) (fun hpre=>?_)
  repeat'((conv=>whnf);first|exact qR|intro _|refine And.intro ?_ ?_|refine Fin.mk ?_)
  all_goals(try(conv=>whnf))
  all_goals(try first|exact obA|refine Ob.mk ?_)
  all_goals(try(first|(exact rfl)|(rename_i hx;exact qAH hx)|(rename_i hx;exact qAG hx)))
  all_goals(first|(simp_all [isT];done)|(exfalso;simp_all [isT];omega))
 | false=>
  rw[qeJ h];refine Fn.intro (N:=20) [0,1,2,4,13] [] Tryz.call314 Tryz.func314 rfl rfl (by kernel_rfl) (fun hpre=>?_)
  repeat'((conv=>whnf);first|exact qR|intro _|refine And.intro ?_ ?_|refine Fin.mk ?_)
  all_goals(try(conv=>whnf))
  all_goals(try first|exact obA|refine Ob.mk ?_)
  all_goals(try(first|(exact rfl)|(rename_i hx;exact qAH hx)|(rename_i hx;exact qAG hx)))
  all_goals(exfalso;rename_i hx;simp only[isT] at h;(try simp only[ZA,ZB,ZC,ZD,ZE,ZF,ZG,ZH,ZI,ZJ,ZK,ZL,ZM,ZN,ZO,yAA,yAE,ge_iff_le,gt_iff_lt,yAI,yBI,cast_eq] at *);omega)
def isE (l:List qAD) (i:Int) (nm:List UInt8):Bool:=isT l i&&((qT2 l i).1==1&&((qT2 l i).2.1==0&&(W.spl nm).contains (qT2 l i).2.2.1))
instance s49 (l:List qAD) (i:Int) (nm:List UInt8):Fn BB 258 [.agg [.rd qAB l],.int .i64 i,.str nm] (nm.length<=100000) (.bool (isE l i nm)):=by
 refine Fn.intro (N:=36) [0,1,2,3,6,7] [] Tryz.call258 Tryz.func258 rfl rfl (by kernel_rfl) (fun hpre=>?_)
 repeat'((conv=>whnf);first|exact qR|intro _|refine WA ?_ ?_|refine WF ?_|refine W1 rfl ?_ ?_|refine X1 (W2 rfl ?_ ?_))
 all_goals(try(conv=>whnf))
 all_goals(try first|exact obA|refine Ob.mk ?_)
 all_goals(simp only[isE,isT,ge_iff_le,Bool.and_assoc])
end Go.Vc

namespace Go.Vc
open Go.Proofs
set_option maxRecDepth 10000
def zFV (l:List Int):Int:=bif decide (l.length=0) then -1 else l.getD (l.length-1) 0
instance s47 (l:List Int):Fn BB 183 [.rd qAL l] True (.int .i64 (zFV l)):=by
  refine Fn.intro (N:=12) [0,2,5] [] Tryz.call183 Tryz.func183 rfl rfl (by kernel_rfl) (fun hpre=>?_)
  repeat'((conv=>whnf);first|exact qR|intro _|refine And.intro ?_ ?_|refine Fin.mk ?_)
  all_goals(try(conv=>whnf))
  all_goals(try first|exact obA|refine Ob.mk ?_)
  · rename_i h
    have:l.length=0:=by simpa using h
    rw[zFV,decide_eq_true this];rfl
  · have:¬l.length=0:=by
      have h:(((l.length:Nat):Int)==0)=false:=‹_›;simpa using h
    rw[zFV,decide_eq_false this,cond_false];congr 1;omega
end Go.Vc

namespace Go.Vc
open Go.Proofs
set_option maxRecDepth 10000
instance xAt16 (l:List Int) (w:Int):Fn BB 330 [.rd qAL l,.int .i64 w] True (.int .i64 (qPE l w)):=by
 refine Fn.intro (N:=19) [0,1,4,5,9,17] [] Tryz.call330 Tryz.func330 rfl rfl (by kernel_rfl) (fun hpre=>?_)
 skip
 all_goals(try(conv=>whnf))
 refine LoopStop.mk (α:=Nat) (fun i=>[(5,.int .i64 i)]) (fun i=>[]) 20 (fun i=>i<=l.length/\(l.take i).contains w=false) (fun i=>l.length-i) 0 (by simp) ?_ (fun i hi=>?_)
 ·repeat'((conv=>whnf);first|exact qR|refine And.intro ?_ ?_)
  all_goals(try(conv=>whnf))
  all_goals(try rfl)
 ·obtain⟨hi,ha⟩:=hi
  repeat'((conv=>whnf);first|exact qR|intro _|refine And.intro ?_ ?_|refine Fin.mk ?_)
  all_goals(try(conv=>whnf))
  all_goals(try first|exact obA|refine Ob.mk ?_)
  all_goals(try simp only[ZA,ZB,ZC,ZD,ZE,ZF,ZG,ZH,ZI,ZJ,ZK,ZL,ZM,ZN,ZO,yAI,yBI,cast_eq] at *)
  ·rw[qP5 (i:=i) (by omega) (by simpa using ha) (by symm;assumption)]
  ·have h:i<l.length:=by omega
   refine Rnd.mk ⟨i+1,?_,?_,?_⟩
   ·refine⟨by omega,?_⟩
    rw[qJS l i w h,yAE];refine⟨by simpa using ha,beq_eq_false_iff_ne.2 fun e=>?_⟩
    simp_all
   ·omega
   ·all_goals exact vcA
  ·have:i=l.length:=by omega
   subst this;rw[qIZ (by simpa using ha)]
instance xIn19 (l:List Int) (w:Int):Fn BB 266 [.rd qAL l,.int .i64 w] True (.int .i64 (qPE l w)):=by
 refine Fn.intro (N:=8) [0,1,4] [] Tryz.call266 Tryz.func266 rfl rfl (by kernel_rfl) (fun hpre=>?_)
 all_goals exact vcA
end Go.Vc

namespace Go.Vc
open Go.Proofs
set_option maxRecDepth 100000
set_option maxHeartbeats 40000000
noncomputable abbrev BA:Base:={ BB with al:=true }
instance (priority:=100) fnA {f:FuncId}{args:List SV}{pre:Prop}{res:SV}[h:Fn BB f args pre res]:Fn BA f args pre res:=⟨h.call,h.ok⟩
instance (priority:=100) fnmA {f:FuncId}{args:List SV}{Φ:Phi}{pre:Prop}{res:SV}{Φ':Phi}[h:FnM BB f args Φ pre res Φ']:FnM BA f args Φ pre res Φ':=⟨h.call,h.ok⟩
@[simp] theorem zF5 (t:TypeId):qAA BA.P t=qAA BB.P t:=rfl
noncomputable section
open Tryz
@[reducible] def iM {f:FuncId}{fn:Func}{c:Code}(N:Nat) (L:List Nat) (pl:List (Nat×List Nat)) (call:∀ (vs:Array Value) (w:World),(callFunc f vs).run BA.P w=.ok (.enter f vs) w) (hf:BA.P.funcs[f]?=some fn) (hb:fn.body=some c) (hN:fn.ntmps=N) (hok:codeOk N pl c=true:=by kernel_rfl):Inl BA f:=Inl.make (N:=N) L pl call hf hb hN hok
instance:Inl BA 21:=iM 32 [0,1,2,3,4,5,12,17,31] [(6,[0,1,0,1,1,0,1,0,1,1,3,3])] call21 func21 rfl rfl
instance:Inl BA 26:=iM 60 [0,1,2,4,5,6,7,8,18,36,51] [(6,[0,0,0,0,0,0,0,0,6,6])] call26 func26 rfl rfl
instance:Inl BA 27:=iM 30 [0,1,2,3,6,7,17] [] call27 func27 rfl rfl
instance:Inl BA 28:=iM 8 [0,1,2,4] [] call28 func28 rfl rfl
instance:Inl BA 33:=iM 19 [0,1,2,3,4,9] [] call33 func33 rfl rfl
instance:Inl BA 35:=iM 5 [0,1,2] [] call35 func35 rfl rfl
instance:Inl BA 40:=iM 62 [0,1,3,4,5,6,7,8,9,14,34] [(10,[0,0,0,1,0,0,1,1,3,3,3,3])] call40 func40 rfl rfl
instance:Inl BA 42:=iM 61 [0,1,2,4,5,6,7,8,9,25,28,35,41,54] [] call42 func42 rfl rfl
instance:Inl BA 44:=iM 24 [0,1,4,18] [] call44 func44 rfl rfl
instance:Inl BA 47:=iM 48 [0,1,2,4,13,31,41,47] [] call47 func47 rfl rfl
instance:Inl BA 50:=iM 35 [0,1,4,5,6,12,16,32] [] call50 func50 rfl rfl
instance:Inl BA 52:=iM 67 [0,1,2,3,4,8,9,28,30,35,65] [] call52 func52 rfl rfl
instance:Inl BA 53:=iM 26 [0,1,4,5,10,14,25] [(6,[0,0,1,1,0,0,1,1,3])] call53 func53 rfl rfl
instance:Inl BA 55:=iM 90 [0,1,2,3,4,5,6,7,8,9,15,30,51] [(6,[0,0,0,0,0,0,0,0,6,6]),(10,[1,0,1,0,1,1,1,1,0,1,0,1,1,1,3,3]),(14,[0,0,0,1,1,0,1,0,1,1,1,0,0,0,1,1,1,0,0,1,1,0,1,0,1,1,1,0,0,1,1,1,3,3,3,3])] call55 func55 rfl rfl
instance:Inl BA 59:=iM 28 [0,1,4,5,7] [(5,[0,0,0,1,0,0,0,0,1,1,1,1,1,1,3,3])] call59 func59 rfl rfl
instance:Inl BA 74:=iM 4 [0] [] call74 func74 rfl rfl
instance:Inl BA 82:=iM 71 [0,1,2,3,4,5,47,52,65] [(6,[0,1,0,1,1,0,1,0,1,1,3])] call82 func82 rfl rfl
instance:Inl BA 85:=iM 15 [0,1,2,4,5] [] call85 func85 rfl rfl
instance:Inl BA 87:=iM 65 [0,1,2,3,4,8,9,10,11,21,60] [(5,[0,0,0,0,0,0,0,0,6,6]),(6,[0,1,1,1,1,1,1,1,1,1,1,1,1,1,1,1,1,1,1,1,1,1,1,1,1,1,1,3,3])] call87 func87 rfl rfl
instance:Inl BA 92:=iM 68 [0,1,2,4,5,6,7,8,9,10,26,35,44,52,63] [(14,[0,1,0,0,1,1,3,3,3])] call92 func92 rfl rfl
instance:Inl BA 93:=iM 19 [0,1,2,4] [] call93 func93 rfl rfl
instance:Inl BA 98:=iM 22 [0,2,3,4,8,12] [] call98 func98 rfl rfl
instance:Inl BA 100:=iM 58 [0,1,2,4,5,6,7,12,16,24,42] [(9,[0,1,1,1,1,1,1,1,1,1,3,3,3])] call100 func100 rfl rfl
instance:Inl BA 101:=iM 19 [0,1,2,4] [] call101 func101 rfl rfl
instance:Inl BA 105:=iM 13 [0,2,3,10] [] call105 func105 rfl rfl
instance:Inl BA 109:=iM 8 [0,1,2,4] [] call109 func109 rfl rfl
instance:Inl BA 110:=iM 15 [0,1,2,4,5,10] [] call110 func110 rfl rfl
instance:Inl BA 114:=iM 34 [0,2,3,4,10] [] call114 func114 rfl rfl
instance:Inl BA 115:=iM 46 [0,1,4,5,6,7,35,42,44,45] [] call115 func115 rfl rfl
instance:Inl BA 130:=iM 8 [0,2] [] call130 func130 rfl rfl
instance:Inl BA 133:=iM 28 [0,1,3,4] [(3,[0,0,0,0,1,1,1,3,0,0,3]),(5000003,[3])] call133 func133 rfl rfl
instance:Inl BA 134:=iM 69 [0,1,2,3,8,34] [(3,[0,0,0,1,0,0,0,0,1,1,1,0,1,3,3,3])] call134 func134 rfl rfl
instance:Inl BA 152:=iM 63 [0,2,3,4,5,16,42,50,58] [(4,[0,0,0,0,0,0,0,0,0,0,0,0,0,0,6,6])] call152 func152 rfl rfl
instance:Inl BA 154:=iM 43 [0,1,4,5,10] [(3,[0,0,0,0,1,0,0,0,1,1,3,3,3,3]),(4,[0,0,0,0,7,0,0,0,0,4,4,4,4,4,4,4,4,4,4,4]),(3000004,[649,714,779,844,909,974,1039,1104,1169,1234])] call154 func154 rfl rfl
instance:Inl BA 155:=iM 57 [0,1,4,15,20,35,50] [] call155 func155 rfl rfl
instance:Inl BA 165:=iM 15 [0,2,3,7,14] [] call165 func165 rfl rfl
instance:Inl BA 167:=iM 64 [0,2,3,4,5,6,10,26,34,50] [] call167 func167 rfl rfl
instance:Inl BA 169:=iM 77 [0,1,4,5,6,7,14,33,38,69] [] call169 func169 rfl rfl
instance:Inl BA 182:=iM 71 [0,1,2,3,8,9,10,11,17,25,40,42,52,58,67,69,70] [] call182 func182 rfl rfl
instance:Inl BA 184:=iM 93 [0,1,2,3,8,9,10,11,12,14,16,18,27,39,49,57,71] [] call184 func184 rfl rfl
instance:Inl BA 185:=iM 38 [0,2,3,16,28] [] call185 func185 rfl rfl
instance:Inl BA 186:=iM 77 [0,1,3,4,5,23,45,63] [] call186 func186 rfl rfl
instance:Inl BA 187:=iM 132 [0,1,4,5,6,11,22,40,44,50,73,94,115] [(11,[0,0,0,0,1,0,0,0,1,1,1,1,1,3]),(13,[0,1,0,0,0,1,0,0,0,1,1,1,1,3,0,0,3]),(20,[0,1,0,0,0,1,0,0,0,1,1,1,1,3,0,0,3])] call187 func187 rfl rfl
instance:Inl BA 188:=iM 92 [0,1,4,9,22,33,41,46,72,77,85] [] call188 func188 rfl rfl
instance:Inl BA 189:=iM 55 [0,1,4,9,17,25,33,41] [] call189 func189 rfl rfl
instance:Inl BA 190:=iM 109 [0,1,4,16,42,56,65,76,87,95] [] call190 func190 rfl rfl
instance:Inl BA 191:=iM 70 [0,1,4,9,17,25,33,41,49] [] call191 func191 rfl rfl
instance:Inl BA 192:=iM 16 [0,1,2] [] call192 func192 rfl rfl
instance:Inl BA 193:=iM 48 [0,1,2,3,4,17] [] call193 func193 rfl rfl
instance:Inl BA 200:=iM 33 [0,2,3,4,10,24] [] call200 func200 rfl rfl
instance:Inl BA 201:=iM 70 [0,2,3,4,5,6,7,8,13,19,25,31,33,35,37,39,41,44,66] [] call201 func201 rfl rfl
instance:Inl BA 202:=iM 20 [0,2,16] [] call202 func202 rfl rfl
instance:Inl BA 211:=iM 23 [0,1,4,5,8,22] [(4,[0,0,0,1,0,0,0,1,0,1,1,3])] call211 func211 rfl rfl
instance:Inl BA 212:=iM 72 [0,1,2,6,7,8,9,10,15,25,42,57] [] call212 func212 rfl rfl
instance:Inl BA 213:=iM 27 [0,1,4,5,6,7,8,9,17] [] call213 func213 rfl rfl
instance:Inl BA 214:=iM 39 [0,1,4,5,6,7,8,12,22] [] call214 func214 rfl rfl
instance:Inl BA 215:=iM 73 [0,1,4,5,6,22,24,47] [(6,[0,0,0,0,0,0,0,0,0,3,3,3])] call215 func215 rfl rfl
instance:Inl BA 216:=iM 51 [0,1,2,6,18] [(4,[0,0,0,0,0,0,0,0,0,3,3,3])] call216 func216 rfl rfl
instance:Inl BA 217:=iM 51 [0,1,2,4,6,8,11,22] [] call217 func217 rfl rfl
instance:Inl BA 218:=iM 64 [0,1,4,5,6,14,35,63] [(4,[0,0,0,0,1,0,0,0,1,0,1,1,1,1,1,3]),(8,[0,0,0,0,1,0,0,0,1,0,0,1,1,3,3,3,3])] call218 func218 rfl rfl
instance:Inl BA 219:=iM 50 [0,1,2,4,6,7,8,9] [(2,[0,0,0,0,0,1,0,1,3,3,3])] call219 func219 rfl rfl
instance:Inl BA 220:=iM 43 [0,1,2,4,5,6,7,9,17,26] [] call220 func220 rfl rfl
instance:Inl BA 221:=iM 100 [0,2,3,4,32,55,64] [(2,[0,0,0,1,1,1,1,1,1,1,1,1,1,1,1,1,1,1,3,3,3]),(3,[0,0,0,1,1,1,1,1,1,1,1,1,1,1,1,1,1,1,1,1,3,3,3]),(7,[0,0,0,0,0,1,0,0,0,1,0,1,1,3,3,3,3,3]),(8,[0,0,0,0,1,0,0,0,1,0,1,1,0,3,0,0,3])] call221 func221 rfl rfl
instance:Inl BA 222:=iM 124 [0,1,4,5,14,20,23,38,43,47,50,57,67,73,78,81,86,89,99] [(32,[0,1,0,0,0,1,0,0,0,1,1,1,1,3,0,0,3])] call222 func222 rfl rfl
instance:Inl BA 223:=iM 73 [0,1,4,17,55] [(2,[0,0,0,0,1,1,1,0,0,0,1,3]),(3,[0,0,0,1,1,1,1,1,1,1,1,1,1,1,1,1,1,1,1,1,1,1,1,1,3,3]),(4,[0,0,0,0,1,1,1,0,0,0,1,3])] call223 func223 rfl rfl
instance:Inl BA 224:=iM 26 [0,1,4,9,14,22] [] call224 func224 rfl rfl
instance:Inl BA 225:=iM 78 [0,1,4,5,6,7,25,34,41,50,54,63,68,74] [] call225 func225 rfl rfl
instance:Inl BA 226:=iM 31 [0,1,4,10,15,27] [] call226 func226 rfl rfl
instance:Inl BA 227:=iM 34 [0,1,4,10,12,24] [] call227 func227 rfl rfl
instance:Inl BA 228:=iM 84 [0,1,4,5,6,11,19,48,76] [(6,[0,0,0,0,1,0,0,0,1,0,1,1,1,1,1,3]),(7,[0,0,0,1,0,0,0,1,0,1,1,0,3]),(10,[0,1,0,1,1,1,1,1,1,1,1,1,1,1,1,1,1,3,3,3])] call228 func228 rfl rfl
instance:Inl BA 230:=iM 77 [0,1,4,5,23,54] [(0,[0,0,0,1,0,0,0,1,3,3]),(10,[0,0,0,0,1,0,0,0,1,0,3,0,0,3])] call230 func230 rfl rfl
instance:Inl BA 231:=iM 122 [0,1,4,5,15,29,37,39,53,57,65,69,82,115] [] call231 func231 rfl rfl
instance:Inl BA 232:=iM 90 [0,1,4,20,29,34,40,45,49,55,57,62,71,76] [] call232 func232 rfl rfl
instance:Inl BA 233:=iM 40 [0,1,4,11,14,36] [] call233 func233 rfl rfl
instance:Inl BA 234:=iM 68 [0,1,4,5,6,11,24,31,40,45,59] [] call234 func234 rfl rfl
instance:Inl BA 235:=iM 55 [0,1,4,5,7,18,28,44,51] [] call235 func235 rfl rfl
instance:Inl BA 236:=iM 45 [0,1,4,6,17,25,29,41] [] call236 func236 rfl rfl
instance:Inl BA 237:=iM 47 [0,1,4,5,7,13,26,35,39,43] [] call237 func237 rfl rfl
instance:Inl BA 238:=iM 18 [0,1,2,6] [(1,[0,0,0,1,0,0,0,1,0,0,3,3])] call238 func238 rfl rfl
instance:Inl BA 240:=iM 63 [0,1,4,9,24,31,43,50] [] call240 func240 rfl rfl
instance:Inl BA 241:=iM 54 [0,1,4,9,35,44,51] [(2,[0,1,1,1,1,1,1,1,1,1,1,1,1,1,1,1,1,1,1,3,3])] call241 func241 rfl rfl
instance:Inl BA 242:=iM 53 [0,1,4,6,7,13,18,32] [(9,[0,0,0,0,0,0,3,3,3,3]),(10,[0,0,0,0,0,0,0,3,3,0,3])] call242 func242 rfl rfl
instance:Inl BA 243:=iM 57 [0,1,4,6,23,28,49] [] call243 func243 rfl rfl
instance:Inl BA 244:=iM 55 [0,1,4,6,7,8,18,25,41] [] call244 func244 rfl rfl
instance:Inl BA 245:=iM 64 [0,1,4,5,6,7,8,35,42,46] [] call245 func245 rfl rfl
instance:Inl BA 246:=iM 109 [0,1,4,5,6,7,8,35,42,56,101] [(8,[0,0,0,1,1,1,1,1,1,1,1,3,3]),(9,[0,1,0,0,0,1,1,0,0,0,1,1,3,0,0,3]),(11,[0,0,0,0,1,0,0,0,1,3,0,0,3])] call246 func246 rfl rfl
instance:Inl BA 247:=iM 45 [0,1,4,9,27] [] call247 func247 rfl rfl
instance:Inl BA 248:=iM 117 [0,1,4,5,6,7,19,36,54,66,74,81,86,105,110] [(2,[0,0,0,0,1,0,0,0,1,1,1,3])] call248 func248 rfl rfl
instance:Inl BA 249:=iM 10 [0,1,4] [] call249 func249 rfl rfl
instance:Inl BA 259:=iM 37 [0,1,2,6,7,9,11,20,26,33] [] call259 func259 rfl rfl
instance:Inl BA 260:=iM 151 [0,2,3,4,5,6,7,8,9,10,19,36,61,76,103,117,122,130,141] [] call260 func260 rfl rfl
instance:Inl BA 261:=iM 92 [0,1,4,5,6,7,9,28,38,42,57,64,71,85] [] call261 func261 rfl rfl
instance:Inl BA 262:=iM 77 [0,1,4,5,6,7,8,15,23,33,45,73] [] call262 func262 rfl rfl
instance:Inl BA 263:=iM 126 [0,1,4,5,6,7,8,20,31,69,114] [(2,[0,0,0,1,0,0,0,1,3,3]),(4,[0,0,0,1,1,1,0,0,0,0,1,0,0,0,1,1,1,1,1,1,1,1,3]),(5,[0,0,0,0,1,0,0,0,1,0,1,1,3,3,3,3]),(7,[0,0,0,0,1,0,0,0,1,0,1,1,3,0,3]),(9,[0,0,0,0,0,3,0,3,3,3,3,0,3]),(12,[0,0,0,0,0,3,0,3,3,3,3,0,3])] call263 func263 rfl rfl
instance:Inl BA 265:=iM 24 [0,1,4,5,9,18] [] call265 func265 rfl rfl
instance:Inl BA 267:=iM 8 [0,1,2] [] call267 func267 rfl rfl
instance:Inl BA 268:=iM 29 [0,1,2,6,7,8,15,23] [] call268 func268 rfl rfl
instance:Inl BA 269:=iM 20 [0,1,2,3,8,13] [] call269 func269 rfl rfl
instance:Inl BA 270:=iM 28 [0,2,16] [] call270 func270 rfl rfl
instance:Inl BA 271:=iM 6 [0] [] call271 func271 rfl rfl
instance:Inl BA 272:=iM 1 [0] [] call272 func272 rfl rfl
instance:Inl BA 273:=iM 206 [0,1,4,5,6,7,8,9,10,11,12,13,14,15,16,33,38,52,60,73,78,166] [(8,[0,0,0,1,0,0,0,1,0,3,3]),(22,[0,0,0,1,0,1,1,0,0,0,1,0,0,1,1,1,1,3]),(34,[0,0,0,0,1,0,0,0,1,0,1,1,0,3,0,0,3]),(5000019,[2000])] call273 func273 rfl rfl
instance:Inl BA 274:=iM 72 [0,1,4,5,6,14,30,41,71] [(9,[0,0,0,0,1,0,1,1,1,0,0,0,0,1,0,1,1,1,3])] call274 func274 rfl rfl
instance:Inl BA 275:=iM 11 [0,2] [] call275 func275 rfl rfl
instance:Inl BA 276:=iM 35 [0,1,2,6,10] [(3,[0,0,0,0,1,0,0,0,0,0,1,0,1,1,1,0,0,1,1,1,3,3,3])] call276 func276 rfl rfl
instance:Inl BA 277:=iM 11 [0,1] [] call277 func277 rfl rfl
instance:Inl BA 278:=iM 27 [0,1] [] call278 func278 rfl rfl
instance:Inl BA 279:=iM 6 [0,3] [] call279 func279 rfl rfl
instance:Inl BA 280:=iM 16 [0,1,4] [(1,[0,0,0,1,0,0,0,1,1,0,3,3])] call280 func280 rfl rfl
instance:Inl BA 283:=iM 64 [0,1,2,3,6,7,14,59] [(4,[1,0,0,1,1,1,1,1,1,1,1,1,1,1,1,1,1,1,1,1,1,1,1,1,1,1,1,1,1,1,1,1,1,1,1,1,1,1,1,1,1,3,3])] call283 func283 rfl rfl
instance:Inl BA 284:=iM 27 [0,1,4,5,6,10,18] [] call284 func284 rfl rfl
instance:Inl BA 285:=iM 31 [0,1,4,5,6,10,22] [] call285 func285 rfl rfl
instance:Inl BA 286:=iM 55 [0,1,2,3,6,7,8,9,10,11,18,27,34,43] [(5,[1,0,0,1,1,0,3])] call286 func286 rfl rfl
instance:Inl BA 287:=iM 12 [0,1,4] [] call287 func287 rfl rfl
instance:Inl BA 288:=iM 28 [0,1,4,9] [] call288 func288 rfl rfl
instance:Inl BA 289:=iM 18 [0,1,4] [] call289 func289 rfl rfl
instance:Inl BA 290:=iM 1 [0] [] call290 func290 rfl rfl
instance:Inl BA 291:=iM 50 [0,1,4,11,23,33,41] [] call291 func291 rfl rfl
instance:Inl BA 292:=iM 10 [0,2,5] [] call292 func292 rfl rfl
instance:Inl BA 293:=iM 18 [0,1,4] [] call293 func293 rfl rfl
instance:Inl BA 294:=iM 22 [0,2,3,4] [] call294 func294 rfl rfl
instance:Inl BA 295:=iM 18 [0] [(0,[0,1,0,0,0,1,0,0,0,1,1,1,1,3,0,0,3])] call295 func295 rfl rfl
instance:Inl BA 296:=iM 16 [0,1,4,5] [] call296 func296 rfl rfl
instance:Inl BA 297:=iM 23 [0,2,3,4,14] [(4,[0,0,0,0,0,0,0,0])] call297 func297 rfl rfl
instance:Inl BA 299:=iM 13 [0,1,2,4] [] call299 func299 rfl rfl
instance:Inl BA 300:=iM 22 [0,1,2,3,8,12] [] call300 func300 rfl rfl
instance:Inl BA 301:=iM 13 [0] [] call301 func301 rfl rfl
instance:Inl BA 302:=iM 20 [0,1] [] call302 func302 rfl rfl
instance:Inl BA 305:=iM 31 [0,1,14] [(1,[0,1,0,0,0,1,0,0,0,1,1,1,1,3,0,0,3])] call305 func305 rfl rfl
instance:Inl BA 306:=iM 10 [0,2,5] [] call306 func306 rfl rfl
instance:Inl BA 307:=iM 26 [0,2,3,4,5,10] [] call307 func307 rfl rfl
instance:Inl BA 308:=iM 19 [0,1,4] [] call308 func308 rfl rfl
instance:Inl BA 309:=iM 9 [0,1,4] [] call309 func309 rfl rfl
instance:Inl BA 310:=iM 44 [0,1,4,5,10,28] [] call310 func310 rfl rfl
instance:Inl BA 311:=iM 24 [0,7] [(1,[0,1,0,0,0,1,0,0,0,1,1,1,1,3,0,0,3])] call311 func311 rfl rfl
instance:Inl BA 312:=iM 1 [0] [] call312 func312 rfl rfl
instance:Inl BA 315:=iM 53 [0,1,4,5,6,7,11,21,28,36,42,48] [] call315 func315 rfl rfl
instance:Inl BA 316:=iM 51 [0,1,4,5,34] [] call316 func316 rfl rfl
instance:Inl BA 317:=iM 17 [0,2] [] call317 func317 rfl rfl
instance:Inl BA 318:=iM 18 [0,1,4,14] [] call318 func318 rfl rfl
instance:Inl BA 319:=iM 82 [0,1,4,5,6,7,8,9,10,11,42,63] [] call319 func319 rfl rfl
instance:Inl BA 321:=iM 18 [0,1,4] [] call321 func321 rfl rfl
instance:Inl BA 322:=iM 51 [0,2,3,4,5,6,7,10,13,28,44] [] call322 func322 rfl rfl
instance:Inl BA 323:=iM 46 [0,2,3,4,5,6,7,20,33] [] call323 func323 rfl rfl
instance:Inl BA 324:=iM 30 [0,1,2,6,7,15,26] [] call324 func324 rfl rfl
instance:Inl BA 325:=iM 21 [0,1,4,5,6,7] [] call325 func325 rfl rfl
instance:Inl BA 326:=iM 64 [0,2,3,4,5,6,7,8,21,26,37,48,58] [] call326 func326 rfl rfl
instance:Inl BA 327:=iM 44 [0,2,3,4,5,6,7,15,38] [] call327 func327 rfl rfl
instance:Inl BA 328:=iM 13 [0,2] [] call328 func328 rfl rfl
instance:Inl BA 331:=iM 45 [0,1,4,5,6,14,25,44] [(6,[0,0,0,0,1,0,0,0,1,0,1,1,1,1,1,3])] call331 func331 rfl rfl
instance:Inl BA 332:=iM 37 [0,1,4,5,6,15,36] [(4,[0,0,0,0,1,0,0,0,1,0,1,1,1,1,1,3])] call332 func332 rfl rfl
instance:Inl BA 333:=iM 38 [0,1,4,5,6,15,36] [(4,[0,0,0,0,1,0,0,0,1,0,1,1,1,1,1,3])] call333 func333 rfl rfl
instance:Inl BA 334:=iM 119 [0,1,2,3,8,9,10,11,12,13,14,15,36,50,62,71,106] [] call334 func334 rfl rfl
instance:Inl BA 335:=iM 25 [0,1,4,5] [(2,[0,0,0,0,1,0,1,0,1,3,3,3])] call335 func335 rfl rfl
instance:Inl BA 336:=iM 89 [0,1,2,6,7,29,41,51] [(5,[0,0,1,0,0,1,1,3]),(6,[0,0,0,1,0,0,1,1,0,3,3,3]),(7,[0,0,0,1,0,1,0,0,0,1,0,1,1,1,1,0,1,3,3,3])] call336 func336 rfl rfl
instance:Inl BA 337:=iM 22 [0,1,2] [(0,[0,0,0,0,0,0,0,0,3,0,3,3,3,3,0,3])] call337 func337 rfl rfl
instance:Inl BA 338:=iM 24 [0,1,2,6] [(2,[1,0,0,0,1,0,1,3,0,0,0,3,3])] call338 func338 rfl rfl
instance:Inl BA 339:=iM 18 [0,2,3,8,15] [] call339 func339 rfl rfl
instance:Inl BA 341:=iM 14 [0,1,2,4] [] call341 func341 rfl rfl
instance:Inl BA 342:=iM 48 [0,1,2,3,6,7,8,18] [(3,[0,1,0,1,1,0,1,0,1,1,1,1,1,3])] call342 func342 rfl rfl
instance:Inl BA 344:=iM 18 [0,1,4] [] call344 func344 rfl rfl
instance:Inl BA 345:=iM 31 [0,2] [] call345 func345 rfl rfl
instance:Inl BA 346:=iM 72 [0,1,4,5,6,7,8,12,23,29,38,64] [(7,[0,0,0,0,0,0,0])] call346 func346 rfl rfl
instance:Inl BA 347:=iM 52 [0,2,13,29,45] [] call347 func347 rfl rfl
instance:Inl BA 348:=iM 32 [0,2,8,17,27] [] call348 func348 rfl rfl
instance:Inl BA 349:=iM 29 [0,2,3,4,5,11,19,26] [] call349 func349 rfl rfl
instance:Inl BA 350:=iM 4 [0,1] [] call350 func350 rfl rfl
instance:Inl BA 352:=iM 20 [0,1,4] [] call352 func352 rfl rfl
instance:Inl BA 353:=iM 34 [0,1,4,5,6,7,11,17,33] [(8,[0,0,1,1,1,1,1,1,1,1,3,3,3])] call353 func353 rfl rfl
end
end Go.Vc

namespace Go.Vc
open Go.Proofs
set_option maxRecDepth 100000
set_option maxHeartbeats 40000000
set_option pp.deepTerms true
set_option pp.maxSteps 2000000
instance (priority:=5000) ZB_0:FnM BA 154 [.loc 0 0,.loc 3 0] [(0,.box [.own 1,.own 2,.nils,.int .i64 5,.int .i64 0,.int .i64 0,.int .i64 0,.int .i64 0,.bool false,.bool false,.str [100,105,118]]),(1,.own qAB [((0:Int),(0:Int),([]:List UInt8),([]:List qAY),([]:List UInt8),(-1:Int),([1]:List Int)),((1:Int),(0:Int),([104,116,109,108]:List UInt8),([]:List qAY),([]:List UInt8),(0:Int),([]:List Int))]),(2,.own qAL [1]),(3,.box [.str [60,98,62,60,47,98,62]])] True (.agg [.int .i64 1,.str [98],.nils,.bool false,.str []]) [(0,.box [.own 1,.own 2,.nils,.int .i64 5,.int .i64 0,.int .i64 0,.int .i64 0,.int .i64 0,.bool false,.bool false,.str [100,105,118]]),(1,.own qAB [((0:Int),(0:Int),([]:List UInt8),([]:List qAY),([]:List UInt8),(-1:Int),([1]:List Int)),((1:Int),(0:Int),([104,116,109,108]:List UInt8),([]:List qAY),([]:List UInt8),(0:Int),([]:List Int))]),(2,.own qAL [1]),(3,.box [.str [60,47,98,62]])]:=by
 refine FnM.intro (N:=43) [0,1,4,5,10] [(3,[0,0,0,0,1,0,0,0,1,1,3,3,3,3]),(4,[0,0,0,0,7,0,0,0,0,4,4,4,4,4,4,4,4,4,4,4]),(3000004,[649,714,779,844,909,974,1039,1104,1169,1234])] 4 Tryz.call154 Tryz.func154 rfl rfl (by kernel_rfl) (fun hpre=>?_)
 repeat'((conv=>whnf);first|exact qR|(intro hq;first|(exfalso;revert hq;decide +kernel)|clear hq|skip)|refine WA ?_ ?_|refine WF ?_|refine W1 rfl ?_ ?_|refine W2 rfl ?_ ?_|refine W3 rfl ?_ ?_|refine W4 ?_ ?_|refine W5 rfl ?_ ?_|refine W6 ?_ ?_|refine WN ?_|refine X1 (W1 rfl ?_ ?_)|refine X1 (W2 rfl ?_ ?_)|refine X2 (W7 rfl ?_ ?_)|refine X3 (W7 rfl ?_ ?_)|refine X4 (W7 rfl ?_ ?_)|refine X5 (W7 rfl ?_ ?_)|refine X7 (by conv=>lhs;cbv) rfl ?_|refine X8 (by conv=>lhs;cbv) ?_|refine LoopStop.ug 500 ?_|refine ZStop.dir ?_|(refine Ob.mk ?_;decide +kernel))
 all_goals(first|rfl|decide +kernel)
end Go.Vc

namespace Go.Vc
open Go.Proofs
set_option maxRecDepth 100000
set_option maxHeartbeats 40000000
set_option pp.deepTerms true
set_option pp.maxSteps 2000000
instance (priority:=5000) ZB_1:FnM BA 155 [.loc 0 0,.loc 3 0] [(0,.box [.own 1,.own 2,.nils,.int .i64 5,.int .i64 0,.int .i64 0,.int .i64 0,.int .i64 0,.bool false,.bool false,.str [100,105,118]]),(1,.own qAB [((0:Int),(0:Int),([]:List UInt8),([]:List qAY),([]:List UInt8),(-1:Int),([1]:List Int)),((1:Int),(0:Int),([104,116,109,108]:List UInt8),([]:List qAY),([]:List UInt8),(0:Int),([]:List Int))]),(2,.own qAL [1]),(3,.box [.int .i64 1,.str [98],.nils,.bool false,.str []])] True (.bool false) [(0,.box [.own 1,.own 4,.own 5,.int .i64 5,.int .i64 0,.int .i64 0,.int .i64 0,.int .i64 0,.bool false,.bool false,.str [100,105,118]]),(1,.own qAB [((0:Int),(0:Int),([]:List UInt8),([]:List qAY),([]:List UInt8),(-1:Int),([1]:List Int)),((1:Int),(0:Int),([104,116,109,108]:List UInt8),([]:List qAY),([]:List UInt8),(0:Int),([2]:List Int)),((1:Int),(0:Int),([98]:List UInt8),([]:List qAY),([]:List UInt8),(1:Int),([]:List Int))]),(4,.own qAL [1,2]),(5,.own qAL [2]),(3,.box [.int .i64 1,.str [98],.nils,.bool false,.str []])]:=by
 refine FnM.intro (N:=57) [0,1,4,15,20,35,50] [] 4 Tryz.call155 Tryz.func155 rfl rfl (by kernel_rfl) (fun hpre=>?_)
 repeat'((conv=>whnf);first|exact qR|(intro hq;first|(exfalso;revert hq;decide +kernel)|clear hq|skip)|refine WA ?_ ?_|refine WF ?_|refine W1 rfl ?_ ?_|refine W2 rfl ?_ ?_|refine W3 rfl ?_ ?_|refine W4 ?_ ?_|refine W5 rfl ?_ ?_|refine W6 ?_ ?_|refine WN ?_|refine X1 (W1 rfl ?_ ?_)|refine X1 (W2 rfl ?_ ?_)|refine X2 (W7 rfl ?_ ?_)|refine X3 (W7 rfl ?_ ?_)|refine X4 (W7 rfl ?_ ?_)|refine X5 (W7 rfl ?_ ?_)|refine X7 (by conv=>lhs;cbv) rfl ?_|refine X8 (by conv=>lhs;cbv) ?_|refine LoopStop.ug 500 ?_|refine ZStop.dir ?_|(refine Ob.mk ?_;decide +kernel))
 all_goals(first|rfl|decide +kernel)
end Go.Vc

namespace Go.Vc
open Go.Proofs
set_option maxRecDepth 100000
set_option maxHeartbeats 40000000
set_option pp.deepTerms true
set_option pp.maxSteps 2000000
instance (priority:=5000) ZB_2:FnM BA 154 [.loc 0 0,.loc 4 0] [(0,.box [.own 1,.own 2,.own 3,.int .i64 5,.int .i64 0,.int .i64 0,.int .i64 0,.int .i64 0,.bool false,.bool false,.str [100,105,118]]),(1,.own qAB [((0:Int),(0:Int),([]:List UInt8),([]:List qAY),([]:List UInt8),(-1:Int),([1]:List Int)),((1:Int),(0:Int),([104,116,109,108]:List UInt8),([]:List qAY),([]:List UInt8),(0:Int),([2]:List Int)),((1:Int),(0:Int),([98]:List UInt8),([]:List qAY),([]:List UInt8),(1:Int),([]:List Int))]),(2,.own qAL [1,2]),(3,.own qAL [2]),(4,.box [.str [60,47,98,62]])] True (.agg [.int .i64 2,.str [98],.nils,.bool false,.str []]) [(0,.box [.own 1,.own 2,.own 3,.int .i64 5,.int .i64 0,.int .i64 0,.int .i64 0,.int .i64 0,.bool false,.bool false,.str [100,105,118]]),(1,.own qAB [((0:Int),(0:Int),([]:List UInt8),([]:List qAY),([]:List UInt8),(-1:Int),([1]:List Int)),((1:Int),(0:Int),([104,116,109,108]:List UInt8),([]:List qAY),([]:List UInt8),(0:Int),([2]:List Int)),((1:Int),(0:Int),([98]:List UInt8),([]:List qAY),([]:List UInt8),(1:Int),([]:List Int))]),(2,.own qAL [1,2]),(3,.own qAL [2]),(4,.box [.str []])]:=by
 refine FnM.intro (N:=43) [0,1,4,5,10] [(3,[0,0,0,0,1,0,0,0,1,1,3,3,3,3]),(4,[0,0,0,0,7,0,0,0,0,4,4,4,4,4,4,4,4,4,4,4]),(3000004,[649,714,779,844,909,974,1039,1104,1169,1234])] 5 Tryz.call154 Tryz.func154 rfl rfl (by kernel_rfl) (fun hpre=>?_)
 repeat'((conv=>whnf);first|exact qR|(intro hq;first|(exfalso;revert hq;decide +kernel)|clear hq|skip)|refine WA ?_ ?_|refine WF ?_|refine W1 rfl ?_ ?_|refine W2 rfl ?_ ?_|refine W3 rfl ?_ ?_|refine W4 ?_ ?_|refine W5 rfl ?_ ?_|refine W6 ?_ ?_|refine WN ?_|refine X1 (W1 rfl ?_ ?_)|refine X1 (W2 rfl ?_ ?_)|refine X2 (W7 rfl ?_ ?_)|refine X3 (W7 rfl ?_ ?_)|refine X4 (W7 rfl ?_ ?_)|refine X5 (W7 rfl ?_ ?_)|refine X7 (by conv=>lhs;cbv) rfl ?_|refine X8 (by conv=>lhs;cbv) ?_|refine LoopStop.ug 500 ?_|refine ZStop.dir ?_|(refine Ob.mk ?_;decide +kernel))
 all_goals(first|rfl|decide +kernel)
end Go.Vc

namespace Go.Vc
open Go.Proofs
set_option maxRecDepth 100000
set_option maxHeartbeats 40000000
set_option pp.deepTerms true
set_option pp.maxSteps 2000000
instance (priority:=5000) ZB_3:FnM BA 155 [.loc 0 0,.loc 4 0] [(0,.box [.own 1,.own 2,.own 3,.int .i64 5,.int .i64 0,.int .i64 0,.int .i64 0,.int .i64 0,.bool false,.bool false,.str [100,105,118]]),(1,.own qAB [((0:Int),(0:Int),([]:List UInt8),([]:List qAY),([]:List UInt8),(-1:Int),([1]:List Int)),((1:Int),(0:Int),([104,116,109,108]:List UInt8),([]:List qAY),([]:List UInt8),(0:Int),([2]:List Int)),((1:Int),(0:Int),([98]:List UInt8),([]:List qAY),([]:List UInt8),(1:Int),([]:List Int))]),(2,.own qAL [1,2]),(3,.own qAL [2]),(4,.box [.int .i64 2,.str [98],.nils,.bool false,.str []])] True (.bool false) [(0,.box [.own 1,.own 5,.nils,.int .i64 5,.int .i64 0,.int .i64 0,.int .i64 0,.int .i64 0,.bool false,.bool false,.str [100,105,118]]),(1,.own qAB [((0:Int),(0:Int),([]:List UInt8),([]:List qAY),([]:List UInt8),(-1:Int),([1]:List Int)),((1:Int),(0:Int),([104,116,109,108]:List UInt8),([]:List qAY),([]:List UInt8),(0:Int),([2]:List Int)),((1:Int),(0:Int),([98]:List UInt8),([]:List qAY),([]:List UInt8),(1:Int),([]:List Int))]),(5,.own qAL [1]),(4,.box [.int .i64 2,.str [98],.nils,.bool false,.str []])]:=by
 refine FnM.intro (N:=57) [0,1,4,15,20,35,50] [] 5 Tryz.call155 Tryz.func155 rfl rfl (by kernel_rfl) (fun hpre=>?_)
 repeat'((conv=>whnf);first|exact qR|(intro hq;first|(exfalso;revert hq;decide +kernel)|clear hq|skip)|refine WA ?_ ?_|refine WF ?_|refine W1 rfl ?_ ?_|refine W2 rfl ?_ ?_|refine W3 rfl ?_ ?_|refine W4 ?_ ?_|refine W5 rfl ?_ ?_|refine W6 ?_ ?_|refine WN ?_|refine X1 (W1 rfl ?_ ?_)|refine X1 (W2 rfl ?_ ?_)|refine X2 (W7 rfl ?_ ?_)|refine X3 (W7 rfl ?_ ?_)|refine X4 (W7 rfl ?_ ?_)|refine X5 (W7 rfl ?_ ?_)|refine X7 (by conv=>lhs;cbv) rfl ?_|refine X8 (by conv=>lhs;cbv) ?_|refine LoopStop.ug 500 ?_|refine ZStop.dir ?_|(refine Ob.mk ?_;decide +kernel))
 all_goals(first|rfl|decide +kernel)
end Go.Vc

namespace Go.Vc
open Go.Proofs
set_option maxRecDepth 100000
set_option maxHeartbeats 40000000
set_option pp.deepTerms true
set_option pp.maxSteps 2000000
instance (priority:=5000) ZB_4:FnM BA 154 [.loc 0 0,.loc 3 0] [(0,.box [.own 1,.own 2,.nils,.int .i64 5,.int .i64 0,.int .i64 0,.int .i64 0,.int .i64 0,.bool false,.bool false,.str [100,105,118]]),(1,.own qAB [((0:Int),(0:Int),([]:List UInt8),([]:List qAY),([]:List UInt8),(-1:Int),([1]:List Int)),((1:Int),(0:Int),([104,116,109,108]:List UInt8),([]:List qAY),([]:List UInt8),(0:Int),([2]:List Int)),((1:Int),(0:Int),([98]:List UInt8),([]:List qAY),([]:List UInt8),(1:Int),([]:List Int))]),(2,.own qAL [1]),(3,.box [.str []])] True (.agg [.int .i64 0,.str [],.nils,.bool false,.str []]) [(0,.box [.own 1,.own 2,.nils,.int .i64 5,.int .i64 0,.int .i64 0,.int .i64 0,.int .i64 0,.bool false,.bool false,.str [100,105,118]]),(1,.own qAB [((0:Int),(0:Int),([]:List UInt8),([]:List qAY),([]:List UInt8),(-1:Int),([1]:List Int)),((1:Int),(0:Int),([104,116,109,108]:List UInt8),([]:List qAY),([]:List UInt8),(0:Int),([2]:List Int)),((1:Int),(0:Int),([98]:List UInt8),([]:List qAY),([]:List UInt8),(1:Int),([]:List Int))]),(2,.own qAL [1]),(3,.box [.str []])]:=by
 refine FnM.intro (N:=43) [0,1,4,5,10] [(3,[0,0,0,0,1,0,0,0,1,1,3,3,3,3]),(4,[0,0,0,0,7,0,0,0,0,4,4,4,4,4,4,4,4,4,4,4]),(3000004,[649,714,779,844,909,974,1039,1104,1169,1234])] 4 Tryz.call154 Tryz.func154 rfl rfl (by kernel_rfl) (fun hpre=>?_)
 repeat'((conv=>whnf);first|exact qR|(intro hq;first|(exfalso;revert hq;decide +kernel)|clear hq|skip)|refine WA ?_ ?_|refine WF ?_|refine W1 rfl ?_ ?_|refine W2 rfl ?_ ?_|refine W3 rfl ?_ ?_|refine W4 ?_ ?_|refine W5 rfl ?_ ?_|refine W6 ?_ ?_|refine WN ?_|refine X1 (W1 rfl ?_ ?_)|refine X1 (W2 rfl ?_ ?_)|refine X2 (W7 rfl ?_ ?_)|refine X3 (W7 rfl ?_ ?_)|refine X4 (W7 rfl ?_ ?_)|refine X5 (W7 rfl ?_ ?_)|refine X7 (by conv=>lhs;cbv) rfl ?_|refine X8 (by conv=>lhs;cbv) ?_|refine LoopStop.ug 500 ?_|refine ZStop.dir ?_|(refine Ob.mk ?_;decide +kernel))
 all_goals(first|rfl|decide +kernel)
end Go.Vc

namespace Go.Vc
open Go.Proofs
set_option maxRecDepth 100000
set_option maxHeartbeats 40000000
set_option pp.deepTerms true
set_option pp.maxSteps 2000000
instance (priority:=5000) ZB_5:FnM BA 155 [.loc 0 0,.loc 3 0] [(0,.box [.own 1,.own 2,.nils,.int .i64 5,.int .i64 0,.int .i64 0,.int .i64 0,.int .i64 0,.bool false,.bool false,.str [100,105,118]]),(1,.own qAB [((0:Int),(0:Int),([]:List UInt8),([]:List qAY),([]:List UInt8),(-1:Int),([1]:List Int)),((1:Int),(0:Int),([104,116,109,108]:List UInt8),([]:List qAY),([]:List UInt8),(0:Int),([2]:List Int)),((1:Int),(0:Int),([98]:List UInt8),([]:List qAY),([]:List UInt8),(1:Int),([]:List Int))]),(2,.own qAL [1]),(3,.box [.int .i64 0,.str [],.nils,.bool false,.str []])] True (.bool false) [(0,.box [.own 1,.own 2,.nils,.int .i64 5,.int .i64 0,.int .i64 0,.int .i64 0,.int .i64 0,.bool false,.bool false,.str [100,105,118]]),(1,.own qAB [((0:Int),(0:Int),([]:List UInt8),([]:List qAY),([]:List UInt8),(-1:Int),([1]:List Int)),((1:Int),(0:Int),([104,116,109,108]:List UInt8),([]:List qAY),([]:List UInt8),(0:Int),([2]:List Int)),((1:Int),(0:Int),([98]:List UInt8),([]:List qAY),([]:List UInt8),(1:Int),([]:List Int))]),(2,.own qAL [1]),(3,.box [.int .i64 0,.str [],.nils,.bool false,.str []])]:=by
 refine FnM.intro (N:=57) [0,1,4,15,20,35,50] [] 4 Tryz.call155 Tryz.func155 rfl rfl (by kernel_rfl) (fun hpre=>?_)
 repeat'((conv=>whnf);first|exact qR|(intro hq;first|(exfalso;revert hq;decide +kernel)|clear hq|skip)|refine WA ?_ ?_|refine WF ?_|refine W1 rfl ?_ ?_|refine W2 rfl ?_ ?_|refine W3 rfl ?_ ?_|refine W4 ?_ ?_|refine W5 rfl ?_ ?_|refine W6 ?_ ?_|refine WN ?_|refine X1 (W1 rfl ?_ ?_)|refine X1 (W2 rfl ?_ ?_)|refine X2 (W7 rfl ?_ ?_)|refine X3 (W7 rfl ?_ ?_)|refine X4 (W7 rfl ?_ ?_)|refine X5 (W7 rfl ?_ ?_)|refine X7 (by conv=>lhs;cbv) rfl ?_|refine X8 (by conv=>lhs;cbv) ?_|refine LoopStop.ug 500 ?_|refine ZStop.dir ?_|(refine Ob.mk ?_;decide +kernel))
 all_goals(first|rfl|decide +kernel)
end Go.Vc

namespace Go.Vc
open Go.Proofs
set_option maxRecDepth 10000
instance decN1:DecidableEq (List UInt8):=inferInstance
instance decN2:DecidableEq (List UInt8×List UInt8):=instDecidableEqProd
instance decN3:DecidableEq (Int×List Int):=instDecidableEqProd
instance decN4:DecidableEq (List (List UInt8×List UInt8)):=instDecidableEqList
instance decN5:DecidableEq (List UInt8×Int×List Int):=instDecidableEqProd
instance decNode:DecidableEq qAD:=(instDecidableEqProd:DecidableEq (Int×Int×List UInt8×List (List UInt8×List UInt8)×List UInt8×Int×List Int))
def qkK (K:Nat->List Int):Nat->List Bool->Nat->Nat->Nat->Option (List Ev×List Bool×Nat)
 | 0,_,_,_,_=>none
 | f + 1,s,i,j,c=>
  if j<(K i).length then
   if okK s ((K i).getD j 0)=true then
    match qkK K f (s.set ((K i).getD j 0).toNat true) ((K i).getD j 0).toNat 0 (c+1) with
    | none=>none
    | some r1=>
     match qkK K f r1.2.1 i (j+1) r1.2.2 with
     | none=>none
     | some r2=>some ((((K i).getD j 0).toNat,(i:Int),c,false)::(r1.1++r2.1),r2.2.1,r2.2.2)
   else qkK K f s i (j+1) c
  else some ([(i,0,c,true)],s,c+1)
theorem qeM {K:Nat->List Int}:∀ (f:Nat) (s:List Bool) (i j c:Nat) (r:List Ev×List Bool×Nat),qkK K f s i j c=some r->dfs K s i j c=r:=by
 intro f
 induction f with
 | zero=>intro s i j c r h;cases h
 | succ f ih=>
  intro s i j c r h;rw[qkK] at h;split at h
  ·rename_i hj;split at h
   ·rename_i hk;split at h
    ·cases h
    ·rename_i r1 h1;split at h
     ·cases h
     ·rename_i r2 h2;cases h;rw[qGK hj hk,ih _ _ _ _ _ h1,ih _ _ _ _ _ h2]
   ·rename_i hk;rw[qDR hj (by simpa using hk)]
    exact ih _ _ _ _ _ h
  ·rename_i hj;cases h;exact qDS hj
def qmF (t:List qAD) (f:Nat):Option St:=
 if t.length=0 then none else
 match qkK (qAC t) f ((List.replicate t.length false).set 0 true) 0 0 1 with
 | some r=>some ((st0 t.length).run ((0, -1,0,false)::r.1))
 | none=>none
theorem qXA {t:List qAD}{f:Nat}{y:St}(h:qmF t f=some y):fin t=y:=by
 unfold qmF at h;split at h
 ·cases h
 ·rename_i h0;split at h
  ·rename_i r hr;cases h;unfold fin qTP qOK;rw[if_neg h0,qK1,qK1,List.append_nil,qeM _ _ _ _ _ _ hr]
  ·cases h
def zBV (t:List qAD) (k f:Nat):Option (List qAD):=
 match qkK (qAC t) f ((List.replicate t.length false).set k true) k 0 0 with
 | some r=>some (({ out:=[mkN (t.getD k qAB.dflt) (-1)],P:=[0] }:PSt).run t r.1).out
 | none=>none
theorem qdI {t:List qAD}{k f:Nat}{x:List qAD}(h:zBV t k f=some x):qH7 t (qAC t) [] (List.replicate t.length false) k (-1)=x:=by
 unfold zBV at h;split at h
 ·rename_i r hr;cases h;unfold qH7 pS;rw[qeM _ _ _ _ _ _ hr];rfl
 ·cases h
def zGE (t:List qAD) (i:Int) (f:Nat):Option (List qAD):=
 match qmF t f,zBV t 0 f with
 | some y,some x=>
  if qA4 t&&decide (t.length<=45)&&qA4 x&&decide (y.L.length<=x.length)&&decide (x.length<=1000)&&decide (0<t.length) then
   match qaY (qCJ y.L) i with
   | none=>some [qAJ]
   | some k=>match zBV x k f with|some z=>some (qpF z)|none=>none
  else none
 | _,_=>none
theorem qj8 {t:List qAD}{i:Int}{f:Nat}{T:List qAD}(h:zGE t i f=some T):qZG t/\qjQ t i=T:=by
 unfold zGE at h;split at h
 ·rename_i y x hy hx;split at h
  ·rename_i hc;simp only[yAB,decide_eq_true_eq] at hc;have e1:=qXA hy;have e0:¬t=[]:=fun e=>by rw[e] at hc;exact absurd hc.2 (by decide)
   have e2:qCL t=x:=by unfold qCL;rw[if_neg e0];exact qdI hx
   refine⟨⟨hc.1.1.1.1.1,hc.1.1.1.1.2,by rw[e2];exact hc.1.1.1.2,by rw[e1,e2];exact hc.1.1.2,by rw[e2];exact hc.1.2⟩,?_⟩
   unfold qjQ;rw[e1,e2];split at h
   ·rename_i hk;rw[hk];exact Option.some.inj h
   ·rename_i k hk;rw[hk];split at h
    ·rename_i z hz;show qlD x k=T;unfold qlD;rw[qdI hz];exact Option.some.inj h
    ·cases h
  ·cases h
 ·cases h
end Go.Vc

namespace Go.Vc
open Go.Proofs
set_option maxRecDepth 100000
set_option maxHeartbeats 40000000
abbrev zDK:List qAD:=[((0:Int),(0:Int),([]:List UInt8),([]:List qAY),([]:List UInt8),(-1:Int),([1]:List Int)),((1:Int),(0:Int),([104,116,109,108]:List UInt8),([]:List qAY),([]:List UInt8),(0:Int),([2]:List Int)),((1:Int),(0:Int),([98]:List UInt8),([]:List qAY),([]:List UInt8),(1:Int),([]:List Int))]
abbrev qjX:List qAD:=[((0:Int),(0:Int),([]:List UInt8),([]:List qAY),([]:List UInt8),(-1:Int),([1]:List Int)),((1:Int),(0:Int),([98]:List UInt8),([]:List qAY),([]:List UInt8),(0:Int),([]:List Int))]
instance (priority:=5000) ZB_new:FnM BA 114 [.str [100,105,118]] [] True (.loc 0 0) [(0,.box [.own 1,.own 2,.nils,.int .i64 5,.int .i64 0,.int .i64 0,.int .i64 0,.int .i64 0,.bool false,.bool false,.str [100,105,118]]),(1,.own qAB [((0:Int),(0:Int),([]:List UInt8),([]:List qAY),([]:List UInt8),(-1:Int),([1]:List Int)),((1:Int),(0:Int),([104,116,109,108]:List UInt8),([]:List qAY),([]:List UInt8),(0:Int),([]:List Int))]),(2,.own qAL [1])]:=by
 refine FnM.intro (N:=34) [0,2,3,4,10] [] 0 Tryz.call114 Tryz.func114 rfl rfl (by kernel_rfl) (fun hpre=>?_)
 repeat'((conv=>whnf);first|exact qR|(intro hq;first|(exfalso;revert hq;decide +kernel)|clear hq|skip)|refine WA ?_ ?_|refine WF ?_|refine W1 rfl ?_ ?_|refine W2 rfl ?_ ?_|refine W3 rfl ?_ ?_|refine W4 ?_ ?_|refine W5 rfl ?_ ?_|refine W6 ?_ ?_|refine WN ?_|refine X1 (W1 rfl ?_ ?_)|refine X1 (W2 rfl ?_ ?_)|refine X2 (W7 rfl ?_ ?_)|refine X3 (W7 rfl ?_ ?_)|refine X4 (W7 rfl ?_ ?_)|refine X5 (W7 rfl ?_ ?_)|refine X7 (by conv=>lhs;cbv) rfl ?_|refine X8 (by conv=>lhs;cbv) ?_|refine LoopStop.ug 500 ?_|refine ZStop.dir ?_|(refine Ob.mk ?_;decide +kernel))
 all_goals(first|rfl|decide +kernel)
instance (priority:=5000) ZB_run:FnM BA 115 [.loc 0 0,.str [60,98,62,60,47,98,62]] [(0,.box [.own 1,.own 2,.nils,.int .i64 5,.int .i64 0,.int .i64 0,.int .i64 0,.int .i64 0,.bool false,.bool false,.str [100,105,118]]),(1,.own qAB [((0:Int),(0:Int),([]:List UInt8),([]:List qAY),([]:List UInt8),(-1:Int),([1]:List Int)),((1:Int),(0:Int),([104,116,109,108]:List UInt8),([]:List qAY),([]:List UInt8),(0:Int),([]:List Int))]),(2,.own qAL [1])] True (.tup []) [(0,.box [.own 1,.own 3,.nils,.int .i64 5,.int .i64 0,.int .i64 0,.int .i64 0,.int .i64 0,.bool false,.bool false,.str [100,105,118]]),(1,.own qAB zDK),(3,.own qAL [1])]:=by
 refine FnM.intro (N:=46) [0,1,4,5,6,7,35,42,44,45] [] 3 Tryz.call115 Tryz.func115 rfl rfl (by kernel_rfl) (fun hpre=>?_)
 repeat'((conv=>whnf);first|exact qR|(intro hq;first|(exfalso;revert hq;decide +kernel)|clear hq|skip)|refine WA ?_ ?_|refine WF ?_|refine W1 rfl ?_ ?_|refine W2 rfl ?_ ?_|refine W3 rfl ?_ ?_|refine W4 ?_ ?_|refine W5 rfl ?_ ?_|refine W6 ?_ ?_|refine WN ?_|refine X1 (W1 rfl ?_ ?_)|refine X1 (W2 rfl ?_ ?_)|refine X2 (W7 rfl ?_ ?_)|refine X3 (W7 rfl ?_ ?_)|refine X4 (W7 rfl ?_ ?_)|refine X5 (W7 rfl ?_ ?_)|refine X7 (by conv=>lhs;cbv) rfl ?_|refine X8 (by conv=>lhs;cbv) ?_|refine LoopStop.ug 500 ?_|refine ZStop.dir ?_|(refine Ob.mk ?_;decide +kernel))
 all_goals(first|rfl|decide +kernel)
theorem qcN:qZG zDK/\qjQ zDK 1=qjX:=qj8 (f:=100) (by decide +kernel)
instance ZB_fragA:FnM BA 59 [.str [60,98,62,60,47,98,62],.str [100,105,118]] [] True (.agg [.rd qAB qjX]) []:=by
 refine FnM.intro (N:=28) [0,1,4,5,7] [(5,[0,0,0,1,0,0,0,0,1,1,1,1,1,1,3,3]),(5000005,[5])] 0 Tryz.call59 Tryz.func59 rfl rfl (by kernel_rfl) (fun hpre=>?_)
 repeat'((conv=>whnf);first|exact qR|(intro hq;first|(exfalso;revert hq;decide +kernel)|clear hq|skip)|refine WA ?_ ?_|refine WF ?_|refine W1 rfl ?_ ?_|refine W2 rfl ?_ ?_|refine W3 rfl ?_ ?_|refine W4 ?_ ?_|refine W5 rfl ?_ ?_|refine W6 ?_ ?_|refine WN ?_|refine X1 (W1 rfl ?_ ?_)|refine X1 (W2 rfl ?_ ?_)|refine X2 (W7 rfl ?_ ?_)|refine X3 (W7 rfl ?_ ?_)|refine X4 (W7 rfl ?_ ?_)|refine X5 (W7 rfl ?_ ?_)|refine X7 (by conv=>lhs;cbv) rfl ?_|refine X8 (by conv=>lhs;cbv) ?_|refine LoopStop.ug 500 ?_|refine ZStop.dir ?_|(refine Ob.mk ?_;decide +kernel))
 all_goals(first|exact Ob.mk qcN.1|exact qcN.1|exact congrArg (fun l=>SV.rd qAB l) qcN.2|rfl|decide +kernel|trace_state)
instance ZB_frag:Fn BB 59 [.str [60,98,62,60,47,98,62],.str [100,105,118]] True (.agg [.rd qAB qjX]):=
 ⟨ZB_fragA.call,ZB_fragA.ok⟩
end Go.Vc

namespace Go.Vc
open Go.Proofs
open Go.Vc.W
set_option maxRecDepth 100000
set_option maxHeartbeats 8000000
abbrev qhW:List qA8:=[(([112]:List UInt8),([]:List UInt8),([]:List UInt8),([]:List UInt8),([]:List UInt8),([]:List qVB))]
abbrev qh7:List (List UInt8):=[[109,97,105,110]]
theorem zb_D:∃ s',D (qAC qjX) (s0 qjX.length) 0 0 (.cons 1 .nil .nil) s':=by
 refine zGG _ _ _ _ (by decide) ⟨by decide,True.intro,True.intro⟩ (by decide) (by decide)
theorem qm5:qDO qjX=.cons ((1:Int),(0:Int),([98]:List UInt8),([]:List qAY),([]:List UInt8),(0:Int),([]:List Int)) .nil .nil:=by
 obtain⟨s',d⟩:=zb_D;unfold qDO;rw[qcH (by decide) d];rfl
abbrev qcE:List qAD:=mkT (qDC voB [] qhW qh7 [] (.cons ((1:Int),(0:Int),([98]:List UInt8),([]:List qAY),([]:List UInt8),(0:Int),([]:List Int)) .nil .nil))
theorem qmB:qNF [] qhW qh7 []/\qA4 qjX=true/\qjX.length<=45:=by
 refine⟨⟨by decide,by decide,by decide,by decide,fun i=>?_,fun i=>?_⟩,by decide,by decide⟩
 ·rcases i with _|i
  ·exact⟨by decide,by decide,by decide,by decide,by decide,by decide,fun j=>⟨yBH _,yBH _,yBH _⟩⟩
  ·exact qNA
 ·exact qNA
theorem qHQ:qA4 qcE=true/\qcE.length<=280:=by decide +kernel
theorem qdT:qL7 qcE qhW.length qh7=8:=by decide +kernel
theorem qg3:qE2 qcE 8=[9]:=by
 have h:(qmF qcE 60).map (fun y=>qCJ (y.L.filter fun v=>qhR y.I y.O v 8))=some [9]:=by decide +kernel
 cases e:qmF qcE 60 with
 | none=>rw[e] at h;cases h
 | some y=>
  rw[e] at h;unfold qE2;rw[if_pos (by decide +kernel),qXA e]
  exact Option.some.inj h
theorem qgL:(qCL (qC9 qcE 8)).length=9:=by
 rw[show qcE=mkT (qDC voB [] qhW qh7 [] (.cons ((1:Int),(0:Int),([98]:List UInt8),([]:List qAY),([]:List UInt8),(0:Int),([]:List Int)) .nil .nil)) from rfl,show(8:Int)=((8:Nat):Int) from rfl,qO9 (by decide) (by decide +kernel)]
 decide +kernel
theorem qaH:qCJ (fin (qC9 qcE 8)).L=[0,1,2,3,4,5,6,7,8]:=by
 have h:(qmF (qC9 qcE 8) 60).map (fun y=>qCJ y.L)=some [0,1,2,3,4,5,6,7,8]:=by decide +kernel
 cases e:qmF (qC9 qcE 8) 60 with
 | none=>rw[e] at h;cases h
 | some y=>rw[e] at h;rw[qXA e];exact Option.some.inj h
instance dAwake:Fn BB 13 [] True (.bool true):=by
 refine Fn.intro (N:=69) [0,1,2,3] [(2,[0,6,6,6,6]),(4,[0,0,0,1,1,1,1,1,1,1,1,1,1,1,1,1,1,1,1,1,1,1,1,1,1,1,1,1,1,1,1,1,1,1,1,1,1,1,1,1,1,1,1,1,1,1,1,1,1,1,1,1,1,3,3,3]),(1000002,[0,1])] Tryz.call13 Tryz.func13 rfl rfl (by kernel_rfl) (fun hpre=>?_)
 repeat'((conv=>whnf);first|exact qR|intro _|refine WA ?_ ?_|refine WF ?_|refine W1 rfl ?_ ?_|refine W2 rfl ?_ ?_|refine W4 ?_ ?_|refine X1 (W1 rfl ?_ ?_)|refine X1 (W2 rfl ?_ ?_))
 all_goals(try(conv=>whnf))
 all_goals(try first|exact obA|refine Ob.mk ?_)
 all_goals(try(exact qmB))
 all_goals(rw[qm5])
 all_goals(try(exact⟨qHQ.1,by decide⟩))
 all_goals(try(exact qHQ.2))
 all_goals(try(exact qHQ.1))
 all_goals(try(exact qHQ))
 all_goals(try decide)
 all_goals(rw[qdT,qg3,qgL,qaH])
 all_goals(first|decide +kernel|trace_state)
end Go.Vc
