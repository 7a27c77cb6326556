/- A part of the proof: lemmas and walks that the last text of the claim joins; no condition. -/
import Derived.Test.YtjnmepijcndcpaaGreatSlotPartsVB
import Derived.OrdersIn
import Derived.Laws.RangeString
import Derived.Laws.AppendOwn
import Derived.Laws.MakeOwn
import Derived.MapKept
open Array renaming getD_eq_getD_getElem?→yAA,getElem?_append_left→yAB,getElem?_eq_getElem→yAC,getElem?_eq_none→yAD,getElem?_modify→yAE,getElem?_push→yAF,getElem?_setIfInBounds_ne→yAG,getElem?_setIfInBounds_self_of_lt→yAH,length_toList→yAI
open Bool renaming and_eq_true→yAJ,false_eq_true→yAK,not_eq_true'→yAL,not_true→yAM,true_and→yAN
open List renaming all_eq_true→yAO,append_nil→yAP,foldl_cons→yAQ,getElem?_append→yAR,getElem?_eq_getElem→yAS,getElem?_eq_none→yAT,getElem?_set→yAU,getElem_of_mem→yAV,length_append→yAW,length_cons→yAX,length_eq_zero_iff→yAY,length_set→yAZ,map_cons→yA0,map_set→yA1,mem_append→yA2,mem_map→yA3,mem_of_getElem?→yA4,set_set→yA5,size_toArray→yA6,zipIdx_cons→yA7
open Nat renaming add_assoc→yA8,add_comm→yA9,add_mul→yBA,add_sub_cancel_left→yBB,add_zero→yBC,beq_refl→yBD,ble_eq_true_of_le→yBE,le_of_ble_eq_true→yBF,le_refl→yBG,le_trans→yBH,lt_of_lt_of_le→yBI,lt_or_ge→yBJ,lt_or_gt_of_ne→yBK,mod_eq_of_lt→yBL,mul_le_mul_right→yBM,zero_add→yBN
open Option renaming getD_some→yBO,map_some→yBP
set_option linter.unusedVariables false
set_option linter.unusedSimpArgs false
set_option maxHeartbeats 8000000
namespace Go.Vc
set_option autoImplicit false
theorem qYT {a:Act}{s:Nat}{t:Bool}(h:a.eval (.tmp s)=.bool t):a.tmps[s]?=some (.bool t):=by
 simp only[Act.eval,yAA] at h;cases hq:a.tmps[s]? with
 | none=>rw[hq] at h;simp[undef] at h
 | some v=>rw[hq] at h;simp at h;rw[h]
theorem Sm.more {p r β σ t ctx g s w}(sm:Sm p r β σ t ctx g) (h:t[s]?=some (.bool w)):Sm p r β σ t ((s,w)::ctx) g:=
 ⟨sm.agree,fun s' w' hm=>by
  rcases qIG _ _ _ _ _ hm with⟨rfl,rfl⟩|hm
  ·exact h
  ·exact sm.ctx _ _ hm,sm.valid⟩
theorem qUU {σ ctx c a b}{K:SV->Prop}(h:qeP σ ctx c a b K):
    ∃ sv,K sv/\∀ p r β (ac:Act) g,Has p c->Has p a->Has p b->Sm p r β σ ac.tmps ctx g->∃ v,Rel r β sv v/\∀ (P:Program) w dst ty pos after guard,(execOp ac.eval ⟨dst,.pick c a b,ty,pos,after,guard⟩).run P w=.ok (.value v) w:=by
  unfold qeP at h;split at h
  · rename_i s
    obtain⟨svc,hk,hc⟩:=qAK h;have lit:∀ (t:Bool) (x:Operand) (hx:x=bif t then a else b),svc=.v (.bool t)->opK σ ((s,t)::ctx) x K->∃ sv,K sv/\∀ p r β (ac:Act) g,Has p (.tmp s)->Has p a->Has p b->Sm p r β σ ac.tmps ctx g->∃ v,Rel r β sv v/\∀ (P:Program) w dst ty pos after guard,(execOp ac.eval ⟨dst,.pick (.tmp s) a b,ty,pos,after,guard⟩).run P w=.ok (.value v) w:=by
      intro t x hxe hsv hk2;obtain⟨svx,hk3,hx⟩:=qAK hk2;subst hsv;refine⟨svx,hk3,fun p r β ac g pc pa pb sm=>?_⟩
      have hcv:=hc p r β ac g pc sm;generalize hq:ac.eval (.tmp s)=v at hcv;cases hcv;have ht:=qYT hq;refine⟨ac.eval x,hx p r β ac g (by rw[hxe];cases t<;>assumption) (sm.more ht),fun P w dst ty pos after guard=>?_⟩
      simp only[execOp,hq,asBool,Sem.run_bind,Sem.run_pure,Result.andThen_ok];subst hxe;cases t<;>rfl
    cases svc with
    | bool t=>
      simp only at hk;obtain⟨svx,hk,hx⟩:=qAK hk;obtain⟨svy,hk,hy⟩:=qAK hk;have ev:∀ p r β (ac:Act) g,Has p (.tmp s)->Has p a->Has p b->Sm p r β σ ac.tmps ctx g->ac.eval (.tmp s)=.bool t/\(t=true->Rel r β svx (ac.eval a))/\(t=false->Rel r β svy (ac.eval b)):=by
        intro p r β ac g pc pa pb sm;have hcv:=hc p r β ac g pc sm;generalize hq:ac.eval (.tmp s)=v at hcv;cases hcv;have ht:=qYT hq;exact⟨rfl,fun h=>by subst h;exact hx p r β ac g pa (sm.more ht),fun h=>by subst h;exact hy p r β ac g pb (sm.more ht)⟩
      have fin:∀ {sv:SV},K sv->(∀ p r β (ac:Act) g,Has p (.tmp s)->Has p a->Has p b->Sm p r β σ ac.tmps ctx g->Rel r β sv (if t then ac.eval a else ac.eval b))->
          ∃ sv,K sv/\∀ p r β (ac:Act) g,Has p (.tmp s)->Has p a->Has p b->Sm p r β σ ac.tmps ctx g->∃ v,Rel r β sv v/\∀ (P:Program) w dst ty pos after guard,(execOp ac.eval ⟨dst,.pick (.tmp s) a b,ty,pos,after,guard⟩).run P w=.ok (.value v) w:=by
        intro sv hk hr;refine⟨sv,hk,fun p r β ac g pc pa pb sm=>⟨_,hr p r β ac g pc pa pb sm,fun P w dst ty pos after guard=>?_⟩⟩
        simp only[execOp,(ev p r β ac g pc pa pb sm).1,asBool,Sem.run_bind,Sem.run_pure,Result.andThen_ok]
      split at hk
      · rename_i y
        refine fin hk fun p r β ac g pc pa pb sm=>?_
        obtain⟨_,h1,h2⟩:=ev p r β ac g pc pa pb sm;cases t with
        | true=>exact .bool
        | false=>have:=h2 rfl;simpa using this
      · rename_i x
        refine fin hk fun p r β ac g pc pa pb sm=>?_
        obtain⟨_,h1,h2⟩:=ev p r β ac g pc pa pb sm;cases t with
        | true=>have:=h1 rfl;simpa using this
        | false=>exact .bool
      · rename_i x y _ _
        refine fin hk fun p r β ac g pc pa pb sm=>?_
        obtain⟨_,h1,h2⟩:=ev p r β ac g pc pa pb sm;cases t with
        | true=>have:=h1 rfl;simpa using this
        | false=>have:=h2 rfl;simpa using this
      · cases t with
        | true=>exact fin (hk.1 rfl) fun p r β ac g pc pa pb sm=>by simpa using(ev p r β ac g pc pa pb sm).2.1 rfl
        | false=>exact fin (hk.2 rfl) fun p r β ac g pc pa pb sm=>by simpa using(ev p r β ac g pc pa pb sm).2.2 rfl
    | v x=>
      cases x with
      | bool t=>
        cases t with
        | true=>exact lit true a rfl rfl hk
        | false=>exact lit false b rfl rfl hk
      | _=>exact hk.elim
    | _=>exact hk.elim
  · exact h.elim
theorem qOO {l:List SV}(h:qG0 l=true) (i:Nat) (sv:SV) (hi:l[i]?=some sv):sv.one=true:=by
 induction l generalizing i with
 | nil=>simp at hi
 | cons x r ih=>
  simp only[qG0,yAJ] at h;cases i with
  | zero=>simp at hi;subst hi;exact h.1
  | succ i=>simp at hi;exact ih h.2 i hi
theorem cells_one {v:Value}(h:v.oneCell'=true):v.cells = #[v]:=by
 cases v<;>first|rfl|cases h
theorem qD2 {x:SV}{K:List SV->Prop}(h:qO2 x K):
  ∃ l,K l/\qG0 l=true/\(∀ p,x.okIds p=SV.okIdsL p l)/\∀ r β v,Rel r β x v->qA5 r β l v.cells.toList:=by
 unfold qO2 at h;split at h
 ·rename_i l;cases ho:qG0 l with
  | false=>rw[ho] at h;exact h.elim
  | true=>
   rw[ho] at h;refine⟨l,h,ho,fun p=>rfl,fun r β v hv=>?_⟩
   obtain⟨cs,rfl,hl⟩:=hv.agg_inv;simpa[Value.cells] using hl
 ·cases ho:x.one with
  | false=>rw[ho] at h;exact h.elim
  | true=>
   rw[ho] at h;refine⟨_,h,by simp[qG0,ho],fun p=>by simp[SV.okIdsL],fun r β v hv=>?_⟩
   rw[cells_one (hv.oneCell ho)];refine⟨rfl,fun i sv u q1 q2=>?_⟩
   cases i with
   | zero=>simp at q1 q2;subst q1;subst q2;exact hv
   | succ i=>simp at q1
theorem qCF {P:Program}{t:TypeId}{K:List SV->Prop}(h:qN5 P t K):
  ∃ l z,K l/\qG0 l=true/\SV.okIdsL (fun _=>false) l=true/\(∀ w,(zeroValue t).run P w=.ok z w)/\(∀ r β,qA5 r β l z.cells.toList):=by
 unfold qN5 at h;split at h
 ·rename_i i hi;split at h
  ·rename_i z hz;obtain⟨sv,hk,hid,hr⟩:=qF6 h;obtain⟨l,hk,ho,hids,hl⟩:=qD2 hk;exact⟨l,z,hk,ho,by rw[<-hids];exact hid,fun w=>by simp[zeroValue,typeInfo,hi,hz],fun r β=>hl r β z (hr r β)⟩
  ·exact h.elim
 ·exact h.elim
theorem qBZ {xs:List SV}{cs:List SV}:∀ {off:Nat}{K:List SV->Prop},qEF cs off xs K->
  ∃ l,K l/\l.length=cs.length/\(xs≠[]->off+xs.length<=cs.length)/\∀ j:Nat,l[j]?=if off<=j/\j<off+xs.length then xs[j-off]? else cs[j]?:=by
 induction cs generalizing xs with
 | nil=>
  intro off K h;cases xs with
  | nil=>simp only[qEF] at h;exact⟨[],h,rfl,fun h=>(h rfl).elim,fun j=>by simp⟩
  | cons x xs=>simp only[qEF] at h
 | cons c r ih=>
  intro off K h;cases xs with
  | nil=>
   have h:K (c::r):=by cases off<;>simpa only[qEF] using h
   refine⟨_,h,rfl,fun h=>(h rfl).elim,fun j=>?_⟩
   rw[if_neg (by simp)]
  | cons x xs=>
   cases off with
   | zero=>
    simp only[qEF] at h;obtain⟨l,hk,h1,h2,h3⟩:=ih h;refine⟨_,hk,by simp[h1],fun _=>?_,fun j=>?_⟩
    ·by_cases hx:xs=[]
     ·subst hx;simp
     ·have:=h2 hx;simp at this ⊢;omega
    ·cases j with
     | zero=>simp
     | succ j=>
      simp only[List.getElem?_cons_succ,h3,Nat.zero_le,true_and,yBN,yAX,Nat.sub_zero,Nat.add_lt_add_iff_right]
   | succ o=>
    simp only[qEF] at h;obtain⟨l,hk,h1,h2,h3⟩:=ih h;refine⟨_,hk,by simp[h1],fun hx=>?_,fun j=>?_⟩
    ·have:=h2 hx;simp at this ⊢;omega
    ·cases j with
     | zero=>simp
     | succ j=>
      simp only[List.getElem?_cons_succ,h3];by_cases hc:o<=j/\j<o+(x::xs).length
      ·rw[if_pos hc,if_pos (by omega)];congr 1;omega
      ·rw[if_neg hc,if_neg (by omega)]
theorem foldl_set (vs:List Value):∀ (cs:Array Value) (off k:Nat) (j:Nat),off+k+vs.length<=cs.size->
  ((vs.zipIdx k).foldl (fun(cs:Array Value) (c,j)=>cs.setIfInBounds (off+j) c) cs)[j]?=if off+k<=j/\j<off+k+vs.length then vs[j-(off+k)]? else cs[j]?:=by
 induction vs with
 | nil=>intro cs off k j _;simp;omega
 | cons v vs ih=>
  intro cs off k j hs;simp only[yA7,yAQ];rw[ih _ _ _ _ (by simp at hs ⊢;omega)]
  simp only[yAX] at hs ⊢;by_cases h1:off+(k+1)<=j/\j<off+(k+1)+vs.length
  ·rw[if_pos h1,if_pos (by omega)]
   rw[show j-(off+k)=(j-(off+(k+1)))+1 by omega,List.getElem?_cons_succ]
  ·rw[if_neg h1];by_cases h2:j=off+k
   ·subst h2;rw[if_pos (by omega)]
    rw[yAH (by omega)]
    simp
   ·rw[if_neg (by omega),yAG (by omega)]
theorem qZ3 (vs:List Value):∀ (cs:Array Value) (off k:Nat),((vs.zipIdx k).foldl (fun(cs:Array Value) (c,j)=>cs.setIfInBounds (off+j) c) cs).size=cs.size:=by
 induction vs with
 | nil=>intro cs off k;rfl
 | cons v vs ih=>intro cs off k;simp only[yA7,yAQ];rw[ih];simp
theorem qA5.fill {r β cs l xs}{vs:Array Value}{us:Array Value}{off:Nat}(h:qA5 r β cs vs.toList) (hx:qA5 r β xs us.toList) (hl:l.length=cs.length)
  (hb:xs≠[]->off+xs.length<=cs.length) (hg:∀ j:Nat,l[j]?=if off<=j/\j<off+xs.length then xs[j-off]? else cs[j]?) (hfit:off+us.size<=vs.size):
  qA5 r β l (us.zipIdx.foldl (fun(cs:Array Value) (c,j)=>cs.setIfInBounds (off+j) c) vs).toList:=by
 have hus:us.toList.length=xs.length:=hx.1;have e:us.zipIdx.foldl (fun(cs:Array Value) (c,j)=>cs.setIfInBounds (off+j) c) vs=(us.toList.zipIdx 0).foldl (fun(cs:Array Value) (c,j)=>cs.setIfInBounds (off+j) c) vs:=by
  rw[<-Array.foldl_toList];simp
 rw[e];refine⟨by simp only[yAI,qZ3];rw[hl];simpa using h.1,fun i sv v q1 q2=>?_⟩
 rw[hg] at q1;have q2':((us.toList.zipIdx 0).foldl (fun(cs:Array Value) (c,j)=>cs.setIfInBounds (off+j) c) vs)[i]?=some v:=by simpa using q2
 rw[foldl_set _ _ _ _ _ (by simpa using hfit)] at q2'
 simp only[yBC,hus] at q2';by_cases hc:off<=i/\i<off+xs.length
 ·rw[if_pos hc] at q1 q2';exact hx.2 _ _ _ q1 (by simpa using q2')
 ·rw[if_neg hc] at q1 q2';exact h.2 _ _ _ q1 (by simpa using q2')
theorem qIQ {σ ctx place}{parts:List (Nat×Operand)}:∀ {cs:List SV}{K:List SV->Prop},qaE σ ctx place parts cs K->
  ∃ l,K l/\l.length=cs.length/\∀ p r β (ac:Act) g,(∀ y∈parts,Has p y.2)->Sm p r β σ ac.tmps ctx g->∀ vs:Array Value,qA5 r β cs vs.toList->
   ∃ us:Array Value,Instr.fill place vs (parts.map fun(i,x)=>(i,ac.eval x))=some us/\qA5 r β l us.toList:=by
 induction parts with
 | nil=>intro cs K h;exact⟨cs,h,rfl,fun p r β ac g _ sm vs hv=>⟨vs,rfl,hv⟩⟩
 | cons p rest ih=>
  intro cs K h;obtain⟨i,x⟩:=p;simp only[qaE] at h;split at h
  ·rename_i off sz hp;obtain⟨sv,hk,hx⟩:=qAK h;obtain⟨xs,hk,ho,_,hxs⟩:=qD2 hk;cases hz0:Nat.beq sz 0 with
   | true=>rw[hz0] at hk;exact hk.elim
   | false=>
   rw[hz0] at hk;simp only[cond_false] at hk;cases hz:Nat.beq (len xs) sz with
   | false=>rw[hz] at hk;exact hk.elim
   | true=>
    rw[hz] at hk;have hz:=qAM hz;rw[len_eq] at hz;obtain⟨l1,hk,h1,h2,h3⟩:=qBZ hk;obtain⟨l,hk,hll,hr⟩:=ih hk;refine⟨l,hk,hll.trans h1,fun p r β ac g hP sm vs hv=>?_⟩
    have hxv:=hxs r β _ (hx p r β ac g (hP (i,x) (List.mem_cons_self ..)) sm);have hsz:(ac.eval x).cells.size=sz:=by have:=hxv.1;simp at this;omega
    have hoff:off+(ac.eval x).cells.size<=vs.size:=by
     have hx0:xs≠[]:=by
      intro hx0;rw[hx0] at hz;simp at hz;rw[<-hz] at hz0;cases hz0
     have:=h2 hx0;have hv1:=hv.1;simp at hv1;omega
    obtain⟨us,hu,hl⟩:=hr p r β ac g (fun y hy=>hP y (List.mem_cons_of_mem _ hy)) sm _ (hv.fill hxv h1 h2 h3 hoff)
    refine⟨us,?_,hl⟩;simp only[yA0,Instr.fill,hp,hsz];rw[hsz] at hoff;simp only[ne_eq,not_true_eq_false,decide_false,Bool.false_or,decide_eq_true_eq,show ¬(off+sz>vs.size) by omega,if_false]
    exact hu
  ·exact h.elim
end Go.Vc

namespace Go.Vc
set_option autoImplicit false
theorem qhH {α β:Type}(P:Program) (f:α->Sem β) (g:α->β) (l:List α) (h:∀ x∈l,∀ w,(f x).run P w=.ok (g x) w) (w:World):
  (l.mapM f).run P w=.ok (l.map g) w:=by
 induction l with
 | nil=>simp
 | cons x r ih=>
  simp only[List.mapM_cons,Sem.run_bind,h x (by simp),Result.andThen_ok,ih (fun y hy=>h y (by simp[hy])),Sem.run_pure,yA0]
theorem qWS {P:Program}{fs:List Field}(h:qM8 P fs=true) (f:Field) (hf:f∈fs):∃ i,P.info? f.type=some i:=by
 induction fs with
 | nil=>cases hf
 | cons x r ih=>
  simp only[qM8,yAJ] at h;cases hf with
  | head=>
   have:=h.1;unfold qNM at this;split at this
   ·exact⟨_,by assumption⟩
   ·cases this
  | tail _ hf=>exact ih h.2 hf
theorem qP6 {P:Program}{σ ctx t parts}{K:SV->Prop}(h:qW4 P σ ctx t parts K):
    ∃ sv,K sv/\∀ p r β (ac:Act) g,(∀ y∈parts,Has p y.2)->Sm p r β σ ac.tmps ctx g->∃ v,Rel r β sv v/\∀ w,(Instr.build t (parts.map fun(i,x)=>(i,ac.eval x)).toArray).run P w=.ok v w:=by
  unfold qW4 at h;split at h
  · rename_i fs hu
    cases ha:qM8 P fs with
    | false=>rw[ha] at h;exact h.elim
    | true =>
      rw[ha] at h;obtain⟨z,zv,hk,_,_,hz,hzr⟩:=qCF h;obtain⟨l,hk,_,hr⟩:=qIQ hk;refine⟨_,hk,fun p r β ac g hP sm=>?_⟩
      obtain⟨us,hus,hl⟩:=hr p r β ac g hP sm zv.cells (hzr r β);refine⟨.agg us,?_,fun w=>?_⟩
      · have:=Rel.agg (r:=r) (β:=β) hl.1 hl.2
        simpa using this
      · have hplaces:∀ w,(Array.mapM (fun(f:Field)=>do pure (f.offset, ←sizeOf f.type)) (⟨fs⟩:Array Field):Sem (Array (Nat×Nat))).run P w=.ok (fs.map fun f=>(f.offset,qAW P f.type)).toArray w:=by
          intro w;rw[show(⟨fs⟩:Array Field)=fs.toArray from rfl,List.mapM_toArray,Sem.run_map]
          rw[qhH P _ (fun f=>(f.offset,qAW P f.type)) fs (fun f hf w=>by
            obtain⟨i,hi⟩:=qWS ha f hf;simp only[Sem.run_bind,run_sizeOf hi,Result.andThen_ok,Sem.run_pure,qBG hi])]
          rfl
        have hpl:placeOf P fs=(fun i=>(fs.map fun f=>(f.offset,qAW P f.type)).toArray[i]?):=by
          funext i
          unfold placeOf;rw[qE5];simp only[List.getElem?_toArray,List.getElem?_map];cases fs[i]?<;>rfl
        rw[hpl] at hus;simp only[Instr.build,Sem.run_bind,hz,Result.andThen_ok,run_underlying hu,hplaces,hus,Sem.run_pure]
  · rename_i n e hu
    cases ha:qNM P e with
    | false=>rw[ha] at h;exact h.elim
    | true=>
      rw[ha] at h;obtain⟨i,hi⟩:∃ i,P.info? e=some i:=by
        unfold qNM at ha;split at ha
        · exact⟨_,by assumption⟩
        · cases ha
      obtain⟨z,zv,hk,_,_,hz,hzr⟩:=qCF h;obtain⟨l,hk,_,hr⟩:=qIQ hk;refine⟨_,hk,fun p r β ac g hP sm=>?_⟩
      obtain⟨us,hus,hl⟩:=hr p r β ac g hP sm zv.cells (hzr r β);refine⟨.agg us,?_,fun w=>?_⟩
      · have:=Rel.agg (r:=r) (β:=β) hl.1 hl.2
        simpa using this
      · rw[qBG hi] at hus
        simp only[Instr.build,Sem.run_bind,hz,Result.andThen_ok,run_underlying hu,run_sizeOf hi,hus,Sem.run_pure]
  · exact h.elim
open Classical in
noncomputable def frz (q:Nat->Bool) (r:Mem) (β:qBD) (Φ:Phi) (w:World):Mem:=fun b=>
 if ∃ id ch,q id=true/\Φ.get id=some ch/\ch.kind=0/\ch.hb (β id) b then w.heap[b]? else r b
theorem qB7 {q r β Φ w}(m:MemSat r β Φ w):Mem.le r (frz q r β Φ w):=by
 intro b o h;unfold frz;rw[if_neg]
 ·exact h
 ·rintro⟨id,ch,_,h1,_,h3⟩;rw[m.sep _ _ _ h1 h3] at h;cases h
theorem qcS {q r β Φ w id ch b}(hq:q id=true) (h1:Phi.get Φ id=some ch) (h2:ch.kind=0) (h3:ch.hb (β id) b):frz q r β Φ w b=w.heap[b]?:=by
 unfold frz;rw[if_pos ⟨id,ch,hq,h1,h2,h3⟩]
theorem qHJ {q r β Φ w b}(h:∀ id ch,q id=true->Phi.get Φ id=some ch->ch.kind=0->¬ch.hb (β id) b):frz q r β Φ w b=r b:=by
 unfold frz;rw[if_neg];rintro⟨id,ch,h0,h1,h2,h3⟩;exact h id ch h0 h1 h2 h3
theorem qQK {q r β Φ w}(m:MemSat r β Φ w) (b o) (h:frz q r β Φ w b=some o):w.heap[b]?=some o:=by
 unfold frz at h;split at h
 ·exact h
 ·exact m.vis _ _ h
theorem qP3 {q r β Φ w}(m:MemSat r β Φ w) (β':qBD):MemSat (frz q r β Φ w) β' [] w:=
 ⟨qQK m,fun id ch h=>by simp[Phi.get] at h,fun id ch b h=>by simp[Phi.get] at h,fun id id' ch ch' b h=>by simp[Phi.get] at h⟩
theorem qHF {r r':Mem}(hle:r.le r') {w x bt sz rows}(h:qAZ r w x bt sz rows) (hb:∀ b off n cap,x=.slice (some ⟨b,off,none⟩) n cap->cap≠0->r' b=w.heap[b]?) (β:qBD):
  Rel r' β (.lits sz rows) x:=by
 rcases h with⟨a,rfl,rfl⟩|⟨b,off,cap,c,T,fr,rfl,hc0,hw,_,h1,h2,h3,h4,h4',h5⟩
 ·exact .litsE
 ·refine .lits (by rw[hb b off _ cap rfl hc0];exact hw) (yBH h2 h1) h2 h4 h4' ?_ fun i row j sv v q1 q2 q3=>(h5 i row j sv v q1 q2 q3).mono hle
  have:=yBM sz h2;omega
theorem qG2 {τ:Ty}{l:List τ.T}{x:Value}{b off n cap}(h:x=.slice (some ⟨b,off,none⟩) n cap) (hc:cap≠0):(Chunk.own τ l).hb x b:=by
 subst h;simp only[Chunk.hb,Chunk.blk,qAS hc];rfl
theorem qST {τ:Ty}(l l':List τ.T) (x:Value):(Chunk.own τ l).hb x=(Chunk.own τ l').hb x:=by
 funext b
 cases x with
 | slice a n c=>cases a<;>rfl
 | _=>rfl
theorem qiP {τ:Ty}(l l':List τ.T) (x:Value):(Chunk.ow τ l).hb x=(Chunk.ow τ l').hb x:=by
 funext b
 cases x with
 | slice a n c=>cases a<;>rfl
 | _=>rfl
theorem qjK {τ:Ty}{l:List τ.T}{x:Value}{b off n cap}(h:x=.slice (some ⟨b,off,none⟩) n cap) (hc:cap≠0):(Chunk.ro τ l).hb x b:=by
 subst h;simp only[Chunk.hb,Chunk.blk,qAS hc];rfl
theorem qZJ {τ:Ty}{l:List τ.T}{x:Value}{b off n cap}(h:x=.slice (some ⟨b,off,none⟩) n cap) (hc:cap≠0):(Chunk.ow τ l).hb x b:=by
 subst h;simp only[Chunk.hb,Chunk.blk,qAS hc];rfl
theorem hbO (τ:Ty) (l:List τ.T) (x:Value) (b:Nat):(Chunk.own τ l).hb x b=((Chunk.own τ l).blk x=some b):=rfl
theorem qNV {q r β Φ w id}{τ:Ty}{l:List τ.T}(m:MemSat r β Φ w) (hq:q id=true) (hg:Phi.get Φ id=some (.own τ l)) (β':qBD):Rel (frz q r β Φ w) β' (.rd τ l) (hd (β id)):=by
 have hs:=m.rows hg;cases hs with
 | own hs=>rw[hs.hd];exact .rd (qHF (qB7 m) hs (fun b off n cap he hc=>qcS hq hg rfl (qG2 he hc)) β')
theorem qkY {q r β Φ w id}{τ:Ty}{l:List τ.T}{g:Value}(m:MemSat r β Φ w) (hq:q id=true) (hg:Phi.get Φ id=some (.owg τ l g)) (β':qBD):Rel (frz q r β Φ w) β' (.rd τ l) g:=by
 have hs:=m.rows hg;cases hs with
 | owg hx hs=>
  rw[<-hx];exact .rd (qHF (qB7 m) hs (fun b off n cap he hc=>qcS hq hg rfl (by rw[he];simp only[Chunk.hb,Chunk.blk,qAS hc];rfl)) β')
theorem qA5.cons {r β x l v vs}(h:Rel r β x v) (hl:qA5 r β l vs):qA5 r β (x::l) (v::vs):=
 ⟨by simp[hl.1],fun i sv u q1 q2=>by
  cases i with
  | zero=>simp at q1 q2;subst q1;subst q2;exact h
  | succ i=>exact hl.2 i sv u (by simpa using q1) (by simpa using q2)⟩
theorem qA5.uncons {r β x l vs}(h:qA5 r β (x::l) vs):∃ v us,vs=v::us/\Rel r β x v/\qA5 r β l us:=by
 obtain⟨h1,h2⟩:=h
 match vs,h1 with
 | v::us,h1=>exact⟨v,us,rfl,h2 0 x v rfl rfl,by simpa using h1,fun i sv v q1 q2=>h2 (i+1) sv v (by simpa using q1) (by simpa using q2)⟩
theorem qA5.nil {r β}:qA5 r β [] []:=⟨rfl,fun i sv v q=>by simp at q⟩
theorem qA5.nil_inv {r β vs}(h:qA5 r β [] vs):vs=[]:=yAY.1 (by simpa using h.1)
theorem qA5.mono {r r':Mem}(hle:r.le r') {β l vs}(h:qA5 r β l vs):qA5 r' β l vs:=⟨h.1,fun i sv v q1 q2=>(h.2 i sv v q1 q2).mono hle⟩
theorem Rel.aggL {r β l cs}(h:qA5 r β l cs):Rel r β (.agg l) (.agg cs.toArray):=.agg h.1 h.2
theorem Rel.aggL_inv {r β l v}(h:Rel r β (.agg l) v):∃ cs:List Value,v=.agg cs.toArray/\qA5 r β l cs:=by
 cases h with
 | agg hl h=>exact⟨_,rfl,hl,h⟩
theorem Rel.tupL {r β l cs}(h:qA5 r β l cs):Rel r β (.tup l) (.tuple cs.toArray):=.tup h.1 h.2
theorem Rel.tupL_inv {r β l v}(h:Rel r β (.tup l) v):∃ cs:List Value,v=.tuple cs.toArray/\qA5 r β l cs:=by
 cases h with
 | tup hl h=>exact⟨_,rfl,hl,h⟩
theorem Rel.fnL {r β f l cs}(h:qA5 r β l cs):Rel r β (.fn f l) (.func (.func f) #[] cs.toArray):=.fn h.1 h.2
theorem Rel.fnL_inv {r β f l v}(h:Rel r β (.fn f l) v):∃ cs:List Value,v=.func (.func f) #[] cs.toArray/\qA5 r β l cs:=by
 cases h with
 | fn hl h=>exact⟨_,rfl,hl,h⟩
theorem qDD {D:SV->(SV->Prop)->Prop}{DL:List SV->(List SV->Prop)->Prop}(h0:∀ K,DL [] K->K []) (h1:∀ x r K,DL (x::r) K->D x fun y=>DL r fun l=>K (y::l))
  {R:SV->SV->Prop}(hD:∀ x K,D x K->∃ y,K y/\R x y):∀ (xs:List SV) (K:List SV->Prop),DL xs K->∃ ys,K ys/\ys.length=xs.length/\∀ (i:Nat) y,ys[i]?=some y->∃ x,xs[i]?=some x/\R x y:=by
 intro xs
 induction xs with
 | nil=>intro K h;exact⟨[],h0 K h,rfl,fun i y q=>by simp at q⟩
 | cons x r ih=>
  intro K h;obtain⟨y,h,hr⟩:=hD _ _ (h1 x r K h);obtain⟨l,hk,hl,hh⟩:=ih _ h;refine⟨y::l,hk,by simp[hl],fun i z q=>?_⟩
  cases i with
  | zero=>simp at q;subst q;exact⟨x,rfl,hr⟩
  | succ i=>obtain⟨x',q1,q2⟩:=hh i z (by simpa using q);exact⟨x',by simpa using q1,q2⟩
theorem qDT {r r':Mem}{β β':qBD}{xs ys:List SV}{R:SV->SV->Prop}(hl:ys.length=xs.length) (h:∀ (i:Nat) y,ys[i]?=some y->∃ x,xs[i]?=some x/\R x y)
  (hR:∀ x y v,R x y->Rel r β x v->Rel r' β' y v) {vs}(hv:qA5 r β xs vs):qA5 r' β' ys vs:=
 ⟨by rw[hv.1,hl],fun i y v q1 q2=>by obtain⟨x,p1,p2⟩:=h i y q1;exact hR x y v p2 (hv.2 i x v p1 q2)⟩
theorem qT8 {Φ:Phi}{x:SV}{K:SV->Prop}(h:ln0 Φ x K):∃ y,K y/\∀ r β w v,MemSat r β Φ w->Rel r β x v->Rel (frz (fun _=>true) r β Φ w) β y v:=by
 by_cases hx:∃ id,x=.own id
 ·obtain⟨id,rfl⟩:=hx;simp only[ln0] at h;split at h
  ·rename_i τ l hg;refine⟨_,h,fun r β w v m hr=>?_⟩
   cases hr;exact qNV m rfl hg β
  ·exact h.elim
 ·have h':K x:=by cases x<;>first|exact h|exact(hx ⟨_,rfl⟩).elim
  exact⟨x,h',fun r β w v m hr=>hr.mono (qB7 m)⟩
theorem qZQ {Φ:Phi}{xs:List SV}{K:List SV->Prop}(h:qm6 Φ xs K):∃ ys,K ys/\∀ r β w vs,MemSat r β Φ w->qA5 r β xs vs->qA5 (frz (fun _=>true) r β Φ w) β ys vs:=by
 obtain⟨ys,hk,hl,hh⟩:=qDD (D:=ln0 Φ) (DL:=qm6 Φ) (fun _ h=>h) (fun _ _ _ h=>h) (fun _ _ h=>qT8 h) xs K h
 exact⟨ys,hk,fun r β w vs m hv=>qDT hl hh (fun x y v hR hx=>hR r β w v m hx) hv⟩
theorem qS2 {Φ:Phi}{x:SV}{K:SV->Prop}(h:ln1 Φ x K):∃ y,K y/\∀ r β w v,MemSat r β Φ w->Rel r β x v->Rel (frz (fun _=>true) r β Φ w) β y v:=by
 by_cases hx:∃ l,x=.agg l
 ·obtain⟨l,rfl⟩:=hx;obtain⟨ys,hk,hr⟩:=qZQ h;refine⟨_,hk,fun r β w v m hv=>?_⟩
  obtain⟨cs,rfl,hl⟩:=hv.aggL_inv;exact .aggL (hr r β w cs m hl)
 ·have h':ln0 Φ x K:=by cases x<;>first|exact h|exact(hx ⟨_,rfl⟩).elim
  exact qT8 h'
theorem qH9 {Φ:Phi}{xs:List SV}{K:List SV->Prop}(h:qL8 Φ xs K):∃ ys,K ys/\∀ r β w vs,MemSat r β Φ w->qA5 r β xs vs->qA5 (frz (fun _=>true) r β Φ w) β ys vs:=by
 obtain⟨ys,hk,hl,hh⟩:=qDD (D:=ln1 Φ) (DL:=qL8 Φ) (fun _ h=>h) (fun _ _ _ h=>h) (fun _ _ h=>qS2 h) xs K h
 exact⟨ys,hk,fun r β w vs m hv=>qDT hl hh (fun x y v hR hx=>hR r β w v m hx) hv⟩
theorem qfQ {Φ:Phi}{x:SV}{K:SV->Prop}(h:ln2 Φ x K):∃ y,K y/\∀ r β w v,MemSat r β Φ w->Rel r β x v->Rel (frz (fun _=>true) r β Φ w) β y v:=by
 by_cases hx:∃ l,x=.tup l
 ·obtain⟨l,rfl⟩:=hx;obtain⟨ys,hk,hr⟩:=qH9 h;refine⟨_,hk,fun r β w v m hv=>?_⟩
  obtain⟨cs,rfl,hl⟩:=hv.tupL_inv;exact .tupL (hr r β w cs m hl)
 ·have h':ln1 Φ x K:=by cases x<;>first|exact h|exact(hx ⟨_,rfl⟩).elim
  exact qS2 h'
theorem qHR {m m':Value}{hs hs':List Value}(h:qOJ m hs=qOJ m' hs'):m=m'/\hs=hs':=by
 simp only[qOJ,Value.tuple.injEq,Array.mk.injEq,List.cons.injEq,and_true] at h;exact⟨h.1,by simpa using h.2⟩
theorem Chunk.Sat.keep {r r':Mem}(hle:r.le r') {β β':qBD}{w w' x}{ch:Chunk}(h:ch.Sat r β w x) (hb:∀ b,ch.hb x b->w'.heap[b]?=w.heap[b]?)
  (hβ:∀ T cells,ch=.bx T cells->∀ (i:Nat) sv v,cells[i]?=some sv->Rel r' β sv v->Rel r' β' sv v):ch.Sat r' β' w' x:=by
 have rows:∀ {bt sz rows},qAZ r w x bt sz rows->(∀ b off n cap,x=.slice (some ⟨b,off,none⟩) n cap->cap≠0->w'.heap[b]?=w.heap[b]?)->qAZ r' w' x bt sz rows:=by
  intro bt sz rows h hb;rcases h with⟨a,h1,h2⟩|⟨b,off,cap,c,T,fr,he,hc0,hw,h0,h1,h2,h3,h4,h4',h5⟩
  ·exact .inl ⟨a,h1,h2⟩
  ·exact .inr ⟨b,off,cap,c,T,fr,he,hc0,by rw[hb b off _ cap he hc0];exact hw,h0,h1,h2,h3,h4,h4',fun i row j sv v q1 q2 q3=>(h5 i row j sv v q1 q2 q3).mono hle⟩
 cases h with
 | box hx hw hl h hT=>
  rename_i b c T To cells;exact .box hx (by rw[hb b (by rw[hx];rfl)];exact hw) hl (fun i sv v q1 q2=>hβ To cells rfl i sv v q1 ((h i sv v q1 q2).mono hle)) hT
 | own h=>exact .own (rows h fun b off n cap he hc=>hb b (qG2 he hc))
 | iter hx hw hs=>
  rename_i b s pos;exact .iter hx (by rw[hb b (by rw[hx];rfl)];exact hw) hs
 | ro h=>exact .ro (rows h fun b off n cap he hc=>hb b (qjK he hc))
 | ow h=>exact .ow (rows h fun b off n cap he hc=>hb b (qZJ he hc))
 | gh hx=>exact .gh hx
 | nst hx hl gl hm hg ho hk h0 h1=>
  subst hx;have rows':∀ {y bt sz rows},qAZ r w y bt sz rows->(∀ b,qA1 y=some b->w'.heap[b]?=w.heap[b]?)->qAZ r' w' y bt sz rows:=by
   intro y bt sz rows h hb;rcases h with⟨a,h1,h2⟩|⟨b,off,cap,c,T,fr,he,hc0,hw,h0,h1,h2,h3,h4,h4',h5⟩
   ·exact .inl ⟨a,h1,h2⟩
   ·exact .inr ⟨b,off,cap,c,T,fr,he,hc0,by rw[hb b (by rw[he];simp only[qA1,qAS hc0];rfl)];exact hw,h0,h1,h2,h3,h4,h4',fun i row j sv v q1 q2 q3=>(h5 i row j sv v q1 q2 q3).mono hle⟩
  refine .nst rfl hl gl (rows' hm fun b h=>hb b ⟨_,_,rfl,.inl h⟩) hg ho (fun i a h q1 q2=>?_) h0 h1
  obtain⟨ks,p1,p2⟩:=hk i a h q1 q2;exact⟨ks,p1,rows' p2 fun b hb'=>hb b ⟨_,_,rfl,.inr ⟨h,yA4 q2,hb'⟩⟩⟩
 | mz hx=>exact .mz hx
 | foc hi hp hg h=>exact .foc hi hp hg (rows h fun b off n cap he hc=>hb b (by subst he;simp only[Chunk.hb,Chunk.blk,qAS hc];rfl))
 | owg hx h=>exact .owg hx (rows h fun b off n cap he hc=>hb b (by subst he;simp only[Chunk.hb,Chunk.blk,qAS hc];rfl))
 | mi hx hw hr hold hn hl hk hc=>
  have ent:∀ {κ:KTy}{τ:Ty}{e:MapEntry}{y:κ.T×τ.T},qhA r κ τ e y->qhA r' κ τ e y:=fun⟨q1,sv,p1,p2,p3⟩=>⟨q1,sv,p1,p2,p3.mono hle⟩
  exact .mi hx (by rw[hb _ (by rw[hx];rfl)];exact hw) (hle _ _ hr) hold hn hl (fun i y e q1 q2=>ent (hk i y e q1 q2)) fun y hy=>by
   obtain⟨e,seen',q1,q2,q3⟩:=hc y hy;exact⟨e,seen',q1,q2,ent q3⟩
 | mp hx hw hl hk hv h1 h2=>exact .mp hx (by rw[hb _ (by rw[hx];rfl)];exact hw) hl hk (fun i k v e q1 q2=>by obtain⟨sv,p1,p2,p3⟩:=hv i k v e q1 q2;exact⟨sv,p1,p2,p3.mono hle⟩) h1 h2
theorem Chunk.Sat.alive {r β w x}{ch:Chunk}(h:ch.Sat r β w x) {b:Nat}(hb:ch.hb x b):b<w.heap.size:=by
 have lt:∀ {b:Nat}{o},w.heap[b]?=some o->b<w.heap.size:=by
  intro b o h;rcases yBJ b w.heap.size with h'|h'
  ·exact h'
  ·rw[yAD h'] at h;cases h
 cases h with
 | box hx hw hl h hT=>rw[hx] at hb;simp only[Chunk.hb,Chunk.blk,Option.some.injEq] at hb;subst hb;exact lt hw
 | iter hx hw hs=>rw[hx] at hb;simp only[Chunk.hb,Chunk.blk,Option.some.injEq] at hb;subst hb;exact lt hw
 | mz hx=>rw[hx] at hb;cases hb
 | mi hx hw hr hold hn hl hk hc=>rw[hx] at hb;simp only[Chunk.hb,Chunk.blk,Option.some.injEq] at hb;subst hb;exact lt hw
 | ro h=>
  rcases h with⟨a,h1,_⟩|⟨b',off,cap,c,T,fr,he,hc0,hw,_⟩
  ·rw[h1] at hb;cases a<;>simp[Chunk.hb,Chunk.blk] at hb
  ·obtain rfl:=Option.some.inj (Eq.symm (show _=some _ from qjK he hc0) |>.trans hb);exact lt hw
 | ow h=>
  rcases h with⟨a,h1,_⟩|⟨b',off,cap,c,T,fr,he,hc0,hw,_⟩
  ·rw[h1] at hb;cases a<;>simp[Chunk.hb,Chunk.blk] at hb
  ·obtain rfl:=Option.some.inj (Eq.symm (show _=some _ from qZJ he hc0) |>.trans hb);exact lt hw
 | foc hi hp hg h=>
  rcases h with⟨a,h1,_⟩|⟨b',off,cap,c,T,fr,he,hc0,hw,_⟩
  ·rw[h1] at hb;cases a<;>simp[Chunk.hb,Chunk.blk] at hb
  ·rw[he] at hb;simp only[Chunk.hb,Chunk.blk,qAS hc0,cond_false,Option.some.injEq] at hb;subst hb;exact lt hw
 | owg hx h=>
  rcases h with⟨a,h1,_⟩|⟨b',off,cap,c,T,fr,he,hc0,hw,_⟩
  ·rw[h1] at hb;cases a<;>simp[Chunk.hb,Chunk.blk] at hb
  ·rw[he] at hb;simp only[Chunk.hb,Chunk.blk,qAS hc0,cond_false,Option.some.injEq] at hb;subst hb;exact lt hw
 | gh hx=>cases hb
 | nst hx hl gl hm hg ho hk h0 h1=>
  obtain⟨m,hs,e,hb⟩:=hb;have e:=hx.symm.trans e;obtain⟨rfl,rfl⟩:=qHR e;have of:∀ {y bt sz rows},qAZ r w y bt sz rows->qA1 y=some b->b<w.heap.size:=by
   intro y bt sz rows h hb;rcases h with⟨a,h1,_⟩|⟨b',off,cap,c,T,fr,he,hc0,hw,_⟩
   ·rw[h1] at hb;cases a<;>simp[qA1] at hb
   ·rw[he] at hb;simp only[qA1,qAS hc0,cond_false,Option.some.injEq] at hb;subst hb;exact lt hw
  rcases hb with hb|⟨h,hm',hb⟩
  ·exact of hm hb
  ·obtain⟨i,hi,rfl⟩:=yAV hm';obtain⟨ks,_,p2⟩:=hk i _ _ (yAS (by omega)) (yAS hi)
   exact of p2 hb
 | mp hx hw hl hk hv=>rw[hx] at hb;simp only[Chunk.hb,Chunk.blk,Option.some.injEq] at hb;subst hb;exact lt hw
 | own h=>
  rcases h with⟨a,h1,_⟩|⟨b',off,cap,c,T,fr,he,hc0,hw,_⟩
  ·rw[h1] at hb;cases a<;>simp[Chunk.hb,Chunk.blk] at hb
  ·obtain rfl:=Option.some.inj (Eq.symm (show _=some _ from qG2 he hc0) |>.trans hb);exact lt hw
theorem Hid.refl (r β Φ w):Hid r β Φ w r β Φ w:=⟨rfl,rfl,rfl,yBG _,fun b _ h1 h2=>⟨rfl,h1,h2⟩,fun _ ch h _=>⟨rfl,ch,h,rfl⟩⟩
theorem Hid.trans {r1 β1 Φ1 w1 r2 β2 Φ2 w2 r3 β3 Φ3 w3}(h:Hid r1 β1 Φ1 w1 r2 β2 Φ2 w2) (k:Hid r2 β2 Φ2 w2 r3 β3 Φ3 w3):Hid r1 β1 Φ1 w1 r3 β3 Φ3 w3:=
 ⟨k.os.trans h.os,k.tape.trans h.tape,k.output.trans h.output,yBH h.size k.size,fun b hb h1 h2=>by
  obtain⟨q1,q2,q3⟩:=h.block b hb h1 h2;obtain⟨p1,p2,p3⟩:=k.block b (yBI hb h.size) q2 q3;exact⟨p1.trans q1,p2,p3⟩,fun id ch h0 hk=>by
  obtain⟨q1,ch1,q2,q3⟩:=h.keep id ch h0 hk;obtain⟨p1,ch2,p2,p3⟩:=k.keep id ch1 q2 (by rw[q3];exact hk)
  exact⟨p1.trans q1,ch2,p2,p3.trans q3⟩⟩
theorem Near.refl {r β Φ w}(m:MemSat r β Φ w):Near r β Φ w w:=⟨m,fun _ _ _ _ _=>rfl,Hid.refl ..⟩
theorem Near.trans {r β Φ w1 w2 w3}(h:Near r β Φ w1 w2) (k:Near r β Φ w2 w3):Near r β Φ w1 w3:=
 ⟨k.mem,fun id ch b h1 h2=>(k.same id ch b h1 h2).trans (h.same id ch b h1 h2),h.hid.trans k.hid⟩
theorem qD5 {w:World}{b:Nat}{o:Obj}(h:w.heap[b]?=some o):b<w.heap.size:=by
 rcases yBJ b w.heap.size with h'|h'
 ·exact h'
 ·rw[yAD h'] at h;cases h
theorem qE8 {r β Φ w}(m:MemSat r β Φ w) {id ch b}(h1:Phi.get Φ id=some ch) (h2:ch.hb (β id) b):b<w.heap.size:=(m.chs _ _ h1).alive h2
theorem back {q:Nat->Bool}{I:Nat->Prop}{r β Φ w βc Φc r' βc' Φc' w'}(m:MemSat r β Φ w)
    (hc:∀ j ch b,Phi.get Φc j=some ch->ch.hb (βc j) b->∃ id ch0,I id/\Phi.get Φ id=some ch0/\ch0.hb (β id) b)
    (hI:∀ id,I id->q id=false) (hle:(frz q r β Φ w).le r') (m':MemSat r' βc' Φc' w') (hid:Hid (frz q r β Φ w) βc Φc w r' βc' Φc' w')
    (r2:Mem) (h2:r2.le r') (h3:∀ id ch b,q id=true->Phi.get Φ id=some ch->ch.kind=0->ch.hb (β id) b->r2 b=none):
    (∀ id ch b,¬I id->Phi.get Φ id=some ch->ch.hb (β id) b->w'.heap[b]?=w.heap[b]?/\r2 b=none/\∀ j c,Phi.get Φc' j=some c->¬c.hb (βc' j) b)/\
    (∀ b o,r2 b=some o->w'.heap[b]?=some o)/\
    (∀ b,b<w.heap.size->r b=none->(∀ id ch,Phi.get Φ id=some ch->¬ch.hb (β id) b)->w'.heap[b]?=w.heap[b]?/\r2 b=none/\∀ j c,Phi.get Φc' j=some c->¬c.hb (βc' j) b):=by
  have none2:∀ b,r' b=none->r2 b=none:=by
    intro b hb;cases h:r2 b with
    | none=>rfl
    | some o=>rw[h2 b o h] at hb;cases hb
  refine⟨fun id ch b hi h1 hb=>?_,fun b o h=>m'.vis _ _ (h2 _ _ h),fun b hb hr hn=>?_⟩
  · have hlt:=qE8 m h1 hb
    by_cases hq:q id=true/\ch.kind=0
    · have hf:=qcS (r:=r) (w:=w) hq.1 h1 hq.2 hb
      have hs:w.heap[b]?=some w.heap[b]:=yAC hlt;rw[hs] at hf ⊢;refine⟨m'.vis _ _ (hle _ _ hf),h3 id ch b hq.1 h1 hq.2 hb,fun j c hj hcb=>?_⟩
      have:=m'.sep _ _ _ hj hcb;rw[hle _ _ hf] at this;cases this
    · have hf:frz q r β Φ w b=none:=by
        rw[qHJ,m.sep _ _ _ h1 hb];intro id' ch' q1 q2 q3 q4;obtain rfl:=m.nod _ _ _ _ _ h1 q2 hb q4;rw[h1] at q2;cases q2;exact hq ⟨q1,q3⟩
      obtain⟨p1,p2,p3⟩:=hid.block b hlt hf (fun j c hj hcb=>by
        obtain⟨id',ch0,g1,g2,g3⟩:=hc j c b hj hcb;obtain rfl:=m.nod _ _ _ _ _ h1 g2 hb g3;exact hi g1)
      exact⟨p1,none2 b p2,p3⟩
  · have hf:frz q r β Φ w b=none:=by
      rw[qHJ,hr];exact fun id ch _ h1 _=>hn id ch h1
    obtain⟨p1,p2,p3⟩:=hid.block b hb hf (fun j c hj hcb=>by
      obtain⟨id',ch0,g1,g2,g3⟩:=hc j c b hj hcb;exact hn _ _ g2 g3)
    exact⟨p1,none2 b p2,p3⟩
theorem qDY {r β Φ w}:frz (fun _=>false) r β Φ w=r:=by
 funext b
 unfold frz;rw[if_neg];rintro⟨_,_,h,_⟩;cases h
theorem qgG {q:Nat->Bool}{r β Φ w βc r' βc' w'}(m:MemSat r β Φ w) (hle:(frz q r β Φ w).le r') (m':MemSat r' βc' [] w') (hid:Hid (frz q r β Φ w) βc [] w r' βc' [] w')
  (r2:Mem) (h1:r.le r2) (h2:r2.le r') (h3:∀ id ch b,q id=true->Phi.get Φ id=some ch->ch.kind=0->ch.hb (β id) b->r2 b=none):
  MemSat r2 β Φ w'/\Hid r β Φ w r2 β Φ w':=by
 obtain⟨g1,g2,g3⟩:=back (I:=fun _=>False) m (fun j ch b h=>by simp[Phi.get] at h) (fun _ h=>h.elim) hle m' hid r2 h2 h3
 refine⟨⟨g2,fun id ch h=>(m.chs _ _ h).keep h1 (fun b hb=>(g1 id ch b (fun h=>h) h hb).1) (fun _ _ _ _ _ _ _ h=>h),fun id ch b a1 a2=>(g1 id ch b (fun h=>h) a1 a2).2.1,m.nod⟩,hid.os,hid.tape,hid.output,hid.size,fun b hb q1 q2=>?_,fun _ ch h _=>⟨rfl,ch,h,rfl⟩⟩
 obtain⟨p1,p2,_⟩:=g3 b hb q1 q2;exact⟨p1,p2,q2⟩
theorem qYA {q:Nat->Bool}{r β w r' βc' Φ' w'}(hle:r.le r') (m':MemSat r' βc' Φ' w') (hid:Hid r β [] w r' βc' Φ' w'):
  r.le (frz (fun _=>true) r' βc' Φ' w')/\MemSat (frz (fun _=>true) r' βc' Φ' w') βc' [] w'/\Hid r β [] w (frz (fun _=>true) r' βc' Φ' w') βc' [] w':=by
 refine⟨Mem.le_trans hle (qB7 m'),qP3 m' _,hid.os,hid.tape,hid.output,hid.size,fun b hb h1 h2=>?_,fun _ ch h _=>by simp[Phi.get] at h⟩
 obtain⟨q1,q2,q3⟩:=hid.block b hb h1 h2;refine⟨q1,?_,fun id ch h=>by simp[Phi.get] at h⟩
 rw[qHJ (fun id ch _ g1 _=>q3 id ch g1)]
 exact q2
theorem qNO {r β w r' βc' Φ' w'}(hle:r.le r') (m':MemSat r' βc' Φ' w') (hid:Hid r β [] w r' βc' Φ' w') {j ch b}(h1:Phi.get Φ' j=some ch) (h2:ch.hb (βc' j) b):w.heap.size<=b:=by
  rcases yBJ b w.heap.size with h|h
  · have hr:r b=none:=by
      cases hq:r b with
      | none=>rfl
      | some o=>have:=m'.sep _ _ _ h1 h2;rw[hle _ _ hq] at this;cases this
    exact((hid.block b h hr (fun j c h=>by simp[Phi.get] at h)).2.2 j ch h1 h2).elim
  · exact h
theorem qEL {r β sv v}(h:Rel r β sv v) (hp:sv.plain0=true) (r':Mem) (β':qBD):Rel r' β' sv v:=by
 cases h<;>first|(cases hp;done)|skip
 ·exact .int
 ·exact .bool
 ·rename_i h;exact .str h
 ·exact .flt
 ·exact .cpx
theorem qVT {l:List SV}(h:qQT l=true) (i:Nat) (sv:SV) (hi:l[i]?=some sv):sv.plain0=true:=by
 induction l generalizing i with
 | nil=>simp at hi
 | cons x r ih=>
  simp only[qQT,yAJ] at h;cases i with
  | zero=>simp at hi;subst hi;exact h.1
  | succ i=>simp at hi;exact ih h.2 i hi
theorem qKS {r β sv v}(h:Rel r β sv v) (hp:sv.plain1=true) (r':Mem) (β':qBD):Rel r' β' sv v:=by
 by_cases hx:∃ l,sv=.agg l
 ·obtain⟨l,rfl⟩:=hx;obtain⟨cs,rfl,hl⟩:=h.aggL_inv;exact .aggL ⟨hl.1,fun i sv v q1 q2=>qEL (hl.2 i sv v q1 q2) (qVT hp i sv q1) r' β'⟩
 ·have:sv.plain0=true:=by cases sv<;>first|exact hp|exact(hx ⟨_,rfl⟩).elim
  exact qEL h this r' β'
theorem qN3 {l:List SV}(h:qJ8 l=true) (i:Nat) (sv:SV) (hi:l[i]?=some sv):sv.plain1=true:=by
 induction l generalizing i with
 | nil=>simp at hi
 | cons x r ih=>
  simp only[qJ8,yAJ] at h;cases i with
  | zero=>simp at hi;subst hi;exact h.1
  | succ i=>simp at hi;exact ih h.2 i hi
theorem qfL {r β sv v}(h:Rel r β sv v) (hp:sv.plain=true) (r':Mem) (β':qBD):Rel r' β' sv v:=by
 by_cases hx:∃ l,sv=.tup l
 ·obtain⟨l,rfl⟩:=hx;obtain⟨cs,rfl,hl⟩:=h.tupL_inv;exact .tupL ⟨hl.1,fun i sv v q1 q2=>qKS (hl.2 i sv v q1 q2) (qN3 hp i sv q1) r' β'⟩
 ·have:sv.plain1=true:=by cases sv<;>first|exact hp|exact(hx ⟨_,rfl⟩).elim
  exact qKS h this r' β'
theorem qM1:∀ (τ:Ty) (x:τ.T), τ.plain=true->∀ (j:Nat) (sv:SV),(τ.enc x)[j]?=some sv->sv.plain0=true:=by
 intro τ
 induction τ with
 | int k=>intro x _ j sv h;cases j<;>simp[Ty.enc] at h;subst h;rfl
 | byte=>intro x _ j sv h;cases j<;>simp[Ty.enc] at h;subst h;rfl
 | bool=>intro x _ j sv h;cases j<;>simp[Ty.enc] at h;subst h;rfl
 | str=>intro x _ j sv h;cases j<;>simp[Ty.enc] at h;subst h;rfl
 | flt=>intro x _ j sv h;cases j<;>simp[Ty.enc] at h;subst h;rfl
 | cpx=>intro x _ j sv h;cases j<;>simp[Ty.enc] at h;subst h;rfl
 | sl e _=>intro x h;cases h
 | pr a b iha ihb=>
  intro x h j sv hj;simp only[Ty.plain,yAJ] at h;simp only[Ty.enc,yAR] at hj;split at hj
  ·exact iha _ h.1 _ _ hj
  ·exact ihb _ h.2 _ _ hj
theorem qgO {r r2:Mem}{β β2:qBD}{τ:Ty}{l:List τ.T}{v:Value}(h:Rel r β (.rd τ l) v) (hp:τ.plain=true) (hb:∀ b off n cap o,v=.slice (some ⟨b,off,none⟩) n cap->n≠0->r b=some o->r2 b=some o):Rel r2 β2 (.rd τ l) v:=by
 cases h with
 | rd h=>
  refine .rd ?_;generalize hm:l.map τ.enc=rows at h;cases h with
  | litsE=>exact .litsE
  | @lits _ _ _ b off cap c T fr hb' hn hcap hrow ho hc hr=>
   by_cases h0:rows=[]
   ·subst h0;exact .litsE
   ·refine .lits (hb b off _ cap _ rfl (by intro h;exact h0 (yAY.1 h)) hb') hn hcap hrow ho hc fun i row j sv v q1 q2 q3=>?_
    have hi:i<l.length:=by
     rcases yBJ i rows.length with h|h
     ·rw[<-hm] at h;simpa using h
     ·rw[yAT h] at q1;cases q1
    have e:row=τ.enc l[i]:=by
     rw[<-hm,List.getElem?_map,yAS hi] at q1;simpa using q1.symm
    exact qEL (hr i row j sv v q1 q2 q3) (qM1 τ _ hp j sv (by rw[<-e];exact q2)) _ _
theorem qKI {Φ:Phi}(h:qLB Φ=true) {id ch}(hg:Phi.get Φ id=some ch):∃ (τ:Ty) (l:List τ.T),ch=.own τ l/\τ.plain=true:=by
 induction Φ with
 | nil=>simp[Phi.get] at hg
 | cons x r ih=>
  obtain⟨k,c⟩:=x;have hg':(bif Nat.beq k id then some c else Phi.get r id)=some ch:=hg
  cases c with
  | own τ l=>
   simp only[qLB,yAJ] at h;cases hb:Nat.beq k id with
   | true=>rw[hb] at hg';simp at hg';subst hg';exact⟨τ,l,rfl,h.1⟩
   | false=>rw[hb] at hg';exact ih h.2 hg'
  | _=>cases h
end Go.Vc

namespace Go.Vc
set_option autoImplicit false
inductive OpTo (P:Program) (a:Act) (w:World) (o:Oper) (R:Value->World->Prop):Prop
 | val (v:Value) (w':World) (h:(execOp a.eval o).run P w=.ok (.value v) w') (hr:R v w')
 | skip (w':World) (h:(execOp a.eval o).run P w=.ok .skip w') (hr:R undef w')
 | call (f:FuncId) (args:Array Value) (h:(execOp a.eval o).run P w=.ok (.enter f args) w) (hc:Calls P f args w fun e w'=>∃ v,e=.returned v/\R v w')
 | round (l:Nat) (f:FuncId) (tmps:Array Value) (assign body:Code) (h:(execOp a.eval o).run P w=.ok (.round l f tmps assign body) w) (hc:RoundIn (fc none) 0 P l f tmps assign body w fun e w'=>∃ v,e=.returned v/\R v w')
theorem OpTo.mono {P a w o R R'}(h:OpTo P a w o R) (hR:∀ v w',R v w'->R' v w'):OpTo P a w o R':=by
 cases h with
 | val v w' h hr=>exact .val v w' h (hR _ _ hr)
 | skip w' h hr=>exact .skip w' h (hR _ _ hr)
 | call f args h hc=>exact .call f args h (hc.mono fun e w' ⟨v,h1,h2⟩=>⟨v,h1,hR _ _ h2⟩)
 | round l f tmps assign body h hc=>exact .round l f tmps assign body h (hc.mono fun e w' ⟨v,h1,h2⟩=>⟨v,h1,hR _ _ h2⟩)
theorem qRV {P:Program}{f args w}{R:Ending->World->Prop}(h:Calls P f args w R):∃ e w',R e w':=by
 obtain⟨e,w',_,hR,_⟩:=h [];exact⟨e,w',hR⟩
theorem qEN {ro:Option Nat}{n:Nat}{P:Program}{f:FuncId}{args:Array Value}{w:World}{R:Ending->World->Prop}:CallsIn (fc ro) n P f args w R↔Calls P f args w R:=by
 have:CallsIn (fc ro) n P f args w R↔CallsIn Fence.wide n P f args w R:=Iff.rfl;rw[this,callsIn_wide]
theorem qaK {ro:Option Nat}{n:Nat}{P:Program}{l:Nat}{f:FuncId}{tmps:Array Value}{assign body:Code}{w:World}{R:Ending->World->Prop}:
  RoundIn (fc ro) n P l f tmps assign body w R↔RoundIn (fc none) 0 P l f tmps assign body w R:=by
 constructor
 ·rintro⟨h1,h2⟩;exact⟨h1,fun c cs hr=>h2 c cs (fun d hd=>by cases hd)⟩
 ·rintro⟨h1,h2⟩;exact⟨h1,fun c cs hr=>h2 c cs (fun d hd=>by cases hd)⟩
theorem OpTo.wpIn {P a w o R}(h:OpTo P a w o R) (hnd:∀ c,o.op≠.defer c) {ro:Option Nat}{next:Act->World->Prop}{Q:Exit->Act->World->Prop}
  (hn:∀ v w',R v w'->next (a.put o.dst v) w'):o.wpIn (fc ro) 0 P a w next Q:=by
 refine⟨fun _ _=>trivial,?_⟩
 rw[Oper.semAt_eq _ _ _ hnd];cases h with
 | val v w' h hr=>rw[h];exact hn _ _ hr
 | skip w' h hr=>rw[h];exact hn _ _ hr
 | call f args h hc=>
  rw[h];refine⟨fun h=>by simp[fc,Fence.wide] at h,qEN.2 (hc.mono fun e w' ⟨v,h1,h2⟩=>?_)⟩
  subst h1;exact hn _ _ h2
 | round l f tmps assign body h hc=>
  rw[h];refine⟨fun h=>by simp[fc,Fence.wide] at h,qaK.2 (hc.mono fun e w' ⟨v,h1,h2⟩=>?_)⟩
  subst h1;exact hn _ _ h2
def Quiet (r:Mem) (β:qBD) (Φ:Phi) (w:World) (sv:SV) (v:Value) (w':World):Prop:=
 ∃ r',Rel r' β sv v/\r.le r'/\MemSat r' β Φ w'/\Hid r β Φ w r' β Φ w'
theorem Quiet.same {r β Φ w sv v}(m:MemSat r β Φ w) (h:Rel r β sv v):Quiet r β Φ w sv v w:=⟨r,h,Mem.le_refl r,m,Hid.refl ..⟩
theorem qKZ {l1 l2:List SV}:∀ {K:List SV->Prop},qp9 l1 l2 K->K (l1++l2):=by
 induction l1 with
 | nil=>intro K h;exact h
 | cons x r ih=>intro K h;exact ih h
theorem qA5.append {r β l1 l2 v1 v2}(h1:qA5 r β l1 v1) (h2:qA5 r β l2 v2):qA5 r β (l1++l2) (v1++v2):=by
 induction l1 generalizing v1 with
 | nil=>
  have:v1=[]:=yAY.1 (by simpa using h1.1)
  subst this;exact h2
 | cons x l ih=>
  obtain⟨v,us,rfl,hv,hus⟩:=h1.uncons;exact qA5.cons hv (ih hus)
theorem qUQ {r β w Φ}(m:MemSat r β Φ w) (β':qBD):MemSat r β' [] w:=
 ⟨m.vis,fun id ch h=>by simp[Phi.get] at h,fun id ch b h=>by simp[Phi.get] at h,fun id id' ch ch' b h=>by simp[Phi.get] at h⟩
theorem qXP {r r2 β β2 sv v}(h:Rel r β sv v) (hp:sv.plainI0=true) (hown:∀ j,sv=.own j->β2 j=β j):Rel r2 β2 sv v:=by
 by_cases hx:∃ j,sv=.own j
 ·obtain⟨j,rfl⟩:=hx;cases h with
  | own h=>rw[<-hown j rfl] at h ⊢;exact .own h
 ·have:sv.plain0=true:=by cases sv<;>first|exact hp|exact(hx ⟨_,rfl⟩).elim
  exact qEL h this _ _
structure NewIn (r:Mem) (β':qBD) (Φ':Phi) (w':World) (r2:Mem) (b0:Nat):Prop where
 mem:MemSat r β' Φ' w'
 pl:qLB Φ'=true
 new:∀ j ch b,Phi.get Φ' j=some ch->ch.hb (β' j) b->b0<=b
 has:∀ b,b0<=b->r2 b=frz (fun _=>true) r β' Φ' w' b
theorem qtM {r β' Φ' w' r2 b0 j}(hn:NewIn r β' Φ' w' r2 b0) {τ:Ty}{l:List τ.T}(hg:Phi.get Φ' j=some (.own τ l)) (β2:qBD):Rel r2 β2 (.rd τ l) (hd (β' j)):=by
 obtain⟨τ',l',e,hp⟩:=qKI hn.pl hg;cases e;refine qgO (qNV (q:=fun _=>true) hn.mem rfl hg β') hp fun b off n cap o hv h0 ho=>?_
 rw[hn.has b ?_]
 ·exact ho
 ·have hs:=hn.mem.rows hg;cases hs with
  | own hs=>
   obtain⟨a,cap',he,hc,_⟩:=hs.slice;rw[he,qB9] at hv;have hc0:cap≠0:=by
    simp only[Value.slice.injEq] at hv;omega
   exact hn.new j _ b hg (qG2 (he.trans hv) hc0)
theorem qSH {Φ':Phi}{x:SV}{K:SV->Prop}(h:ln0 Φ' x K) (hp:x.plainI0=true):
  ∃ y,K y/\∀ r β' w' r2 b0 v β2,NewIn r β' Φ' w' r2 b0->Rel r β' x v->Rel r2 β2 y v:=by
 by_cases hx:∃ id,x=.own id
 ·obtain⟨id,rfl⟩:=hx;simp only[ln0] at h;split at h
  ·rename_i τ l hg;refine⟨_,h,fun r β' w' r2 w v β2 hn hr=>?_⟩
   cases hr;exact qtM hn hg β2
  ·exact h.elim
 ·have h':K x:=by cases x<;>first|exact h|exact(hx ⟨_,rfl⟩).elim
  have hp':x.plain0=true:=by cases x<;>first|exact hp|exact(hx ⟨_,rfl⟩).elim
  exact⟨x,h',fun r β' w' r2 w v β2 _ hr=>qEL hr hp' _ _⟩
theorem qO0 {D:SV->(SV->Prop)->Prop}{DL:List SV->(List SV->Prop)->Prop}(h0:∀ K,DL [] K->K []) (h1:∀ x r K,DL (x::r) K->D x fun y=>DL r fun l=>K (y::l))
  {R:SV->SV->Prop} {p:SV->Bool}(hD:∀ x K,p x=true->D x K->∃ y,K y/\R x y):∀ (xs:List SV) (K:List SV->Prop),(∀ (i:Nat) x,xs[i]?=some x->p x=true)->DL xs K->
   ∃ ys,K ys/\ys.length=xs.length/\∀ (i:Nat) y,ys[i]?=some y->∃ x,xs[i]?=some x/\R x y:=by
 intro xs
 induction xs with
 | nil=>intro K _ h;exact⟨[],h0 K h,rfl,fun i y q=>by simp at q⟩
 | cons x r ih=>
  intro K hp h;obtain⟨y,h,hr⟩:=hD _ _ (hp 0 x rfl) (h1 x r K h);obtain⟨l,hk,hl,hh⟩:=ih _ (fun i z hz=>hp (i+1) z (by simpa using hz)) h
  refine⟨y::l,hk,by simp[hl],fun i z q=>?_⟩
  cases i with
  | zero=>simp at q;subst q;exact⟨x,rfl,hr⟩
  | succ i=>obtain⟨x',q1,q2⟩:=hh i z (by simpa using q);exact⟨x',by simpa using q1,q2⟩
theorem qLA {l:List SV}(h:qMJ l=true) (i:Nat) (sv:SV) (hi:l[i]?=some sv):sv.plainI0=true:=by
 induction l generalizing i with
 | nil=>simp at hi
 | cons x r ih=>
  simp only[qMJ,yAJ] at h;cases i with
  | zero=>simp at hi;subst hi;exact h.1
  | succ i=>simp at hi;exact ih h.2 i hi
theorem qLD {l:List SV}(h:qMF l=true) (i:Nat) (sv:SV) (hi:l[i]?=some sv):sv.plainI1=true:=by
 induction l generalizing i with
 | nil=>simp at hi
 | cons x r ih=>
  simp only[qMF,yAJ] at h;cases i with
  | zero=>simp at hi;subst hi;exact h.1
  | succ i=>simp at hi;exact ih h.2 i hi
theorem qTB {Φ':Phi}{x:SV}{K:SV->Prop}(h:ln1 Φ' x K) (hp:x.plainI1=true):
  ∃ y,K y/\∀ r β' w' r2 b0 v β2,NewIn r β' Φ' w' r2 b0->Rel r β' x v->Rel r2 β2 y v:=by
 by_cases hx:∃ l,x=.agg l
 ·obtain⟨l,rfl⟩:=hx;obtain⟨ys,hk,hl,hh⟩:=qO0 (D:=ln0 Φ') (DL:=qm6 Φ') (fun _ h=>h) (fun _ _ _ h=>h) (fun _ _ hp h=>qSH h hp) l _ (qLA hp) h
  refine⟨_,hk,fun r β' w' r2 b0 v β2 hn hv=>?_⟩
  obtain⟨cs,rfl,hcs⟩:=hv.aggL_inv;exact .aggL (qDT hl hh (fun x y v hR hx=>hR r β' w' r2 b0 v β2 hn hx) hcs)
 ·have h':ln0 Φ' x K:=by cases x<;>first|exact h|exact(hx ⟨_,rfl⟩).elim
  have hp':x.plainI0=true:=by cases x<;>first|exact hp|exact(hx ⟨_,rfl⟩).elim
  exact qSH h' hp'
theorem qdU {Φ':Phi}{x:SV}{K:SV->Prop}(h:ln2 Φ' x K) (hp:x.plainI=true):
  ∃ y,K y/\∀ r β' w' r2 b0 v β2,NewIn r β' Φ' w' r2 b0->Rel r β' x v->Rel r2 β2 y v:=by
 by_cases hx:∃ l,x=.tup l
 ·obtain⟨l,rfl⟩:=hx;obtain⟨ys,hk,hl,hh⟩:=qO0 (D:=ln1 Φ') (DL:=qL8 Φ') (fun _ h=>h) (fun _ _ _ h=>h) (fun _ _ hp h=>qTB h hp) l _ (qLD hp) h
  refine⟨_,hk,fun r β' w' r2 b0 v β2 hn hv=>?_⟩
  obtain⟨cs,rfl,hcs⟩:=hv.tupL_inv;exact .tupL (qDT hl hh (fun x y v hR hx=>hR r β' w' r2 b0 v β2 hn hx) hcs)
 ·have h':ln1 Φ' x K:=by cases x<;>first|exact h|exact(hx ⟨_,rfl⟩).elim
  have hp':x.plainI1=true:=by cases x<;>first|exact hp|exact(hx ⟨_,rfl⟩).elim
  exact qTB h' hp'
theorem qO5 {B:Base}{Φ f args g}{K:SV->Prop}(h:qj6 B Φ f args g K):
  ∃ sv,K sv/\((∀ p,g p->p)->∀ r β w0 vs a o,B.G r->MemSat r β Φ w0->qA5 r β args vs->
   (∀ w,(execOp a.eval o).run B.P w=(callFunc f vs.toArray).run B.P w)->OpTo B.P a w0 o (Quiet r β Φ w0 sv)):=by
 obtain⟨largs,hk,hl⟩:=qH9 h;cases hk with
 | plain pl hp k=>
  rename_i pre res fn;refine⟨res,k,fun hv r β w0 vs a o hG m hrel hrun=>.call f vs.toArray (by rw[hrun];exact fn.call _ _) ?_⟩
  refine(fn.ok (hv _ hp).h (frz (fun _=>true) r β Φ w0) β w0 vs (B.mono _ _ (qB7 m) hG) (qP3 m β) (hl r β w0 vs m hrel)).mono ?_
  rintro e w' ⟨v,sv,r', β', Φ',he,⟨rfl,rfl⟩,hr,m',hle,hid⟩;obtain⟨q1,q2⟩:=qgG m hle m' hid r (Mem.le_refl r) (Mem.le_trans (qB7 m) hle) (fun id ch b _ h1 _ h3=>m.sep _ _ _ h1 h3)
  exact⟨v,he,r,qfL hr pl _ _,Mem.le_refl r,q1,q2⟩
 | mk pl hp k=>
  rename_i pre res fn;refine⟨res,k,fun hv r β w0 vs a o hG m hrel hrun=>.call f vs.toArray (by rw[hrun];exact fn.call _ _) ?_⟩
  refine(fn.ok (hv _ hp).h r β w0 vs hG (qUQ m β) hrel).mono ?_;rintro e w' ⟨v,sv,r', β', Φ',he,⟨rfl,rfl⟩,hr,m',hle,hid⟩;obtain⟨q1,q2⟩:=qgG (q:=fun _=>false) m (by rw[qDY];exact hle) m' (by rw[qDY];exact hid) r' hle (Mem.le_refl _) (fun _ _ _ h=>by cases h)
  exact⟨v,he,r',hr.pure pl β,hle,q1,q2⟩
 | nwl pl hp k=>
  rename_i pre res Φ' fn;simp only[yAJ] at pl;obtain⟨sv,hk,hsv⟩:=qdU k pl.1;refine⟨sv,hk,fun hv r β w0 vs a o hG m hrel hrun=>.call f vs.toArray (by rw[hrun];exact fn.call _ _) ?_⟩
  refine(fn.ok (hv _ hp).h (frz (fun _=>true) r β Φ w0) β w0 vs (B.mono _ _ (qB7 m) hG) (qP3 m β) (hl r β w0 vs m hrel)).mono ?_
  rintro e w' ⟨v,sv1,r', β', Φ1,he,⟨rfl,rfl⟩,hr,m',hle,hid⟩;obtain⟨g1,g2,g3⟩:=qYA (q:=fun _=>true) hle m' hid
  obtain⟨r2,hr2⟩:∃ r2:Mem,r2=fun b=>if b<w0.heap.size then r b else frz (fun _=>true) r' β' Φ1 w' b:=⟨_,rfl⟩
  have h1:r.le r2:=by
   intro b o hb;rw[hr2];have:=qD5 (m.vis _ _ hb);simp only[this,if_true];exact hb
  have h2:r2.le (frz (fun _=>true) r' β' Φ1 w'):=by
   intro b o hb;rw[hr2] at hb;simp only at hb;split at hb
   ·exact g1 _ _ (qB7 m _ _ hb)
   ·exact hb
  obtain⟨q1,q2⟩:=qgG m g1 g2 g3 r2 h1 h2 (fun id ch b _ p1 _ p3=>by
   rw[hr2];simp only[qE8 m p1 p3,if_true];exact m.sep _ _ _ p1 p3)
  have hnew:NewIn r' β' Φ1 w' r2 w0.heap.size:=⟨m',pl.2,fun j ch b p1 p2=>qNO hle m' hid p1 p2,fun b hb=>by rw[hr2];simp only[show ¬b<w0.heap.size by omega,if_false]⟩
  exact⟨v,he,r2,hsv r' β' w' r2 _ v β hnew hr,h1,q1,q2⟩
 | nw hp k=>
  rename_i pre res Φ' fn;obtain⟨sv,hk,hsv⟩:=qfQ k;cases hpl:SV.okIds (fun _=>false) sv with
  | false=>rw[hpl] at hk;exact hk.elim
  | true=>
  rw[hpl] at hk;refine⟨sv,hk,fun hv r β w0 vs a o hG m hrel hrun=>.call f vs.toArray (by rw[hrun];exact fn.call _ _) ?_⟩
  refine(fn.ok (hv _ hp).h r β w0 vs hG (qUQ m β) hrel).mono ?_;rintro e w' ⟨v,sv1,r', β', Φ1,he,⟨rfl,rfl⟩,hr,m',hle,hid⟩;obtain⟨g1,g2,g3⟩:=qYA (q:=fun _=>true) hle m' hid
  obtain⟨q1,q2⟩:=qgG (q:=fun _=>false) m (by rw[qDY];exact g1) g2 (by rw[qDY];exact g3) _ g1 (Mem.le_refl _) (fun _ _ _ h=>by cases h)
  exact⟨v,he,_,(hsv r' β' w' v m' hr).pure hpl β,g1,q1,q2⟩
theorem qQ1 {a:Act}{xs:List Operand}{l:List SV}{r β}(h1:l.length=xs.length) (h2:∀ (i:Nat) sv x,l[i]?=some sv->xs[i]?=some x->Rel r β sv (a.eval x)):qA5 r β l (xs.map a.eval):=
 ⟨by simp[h1],fun i sv v q1 q2=>by
  rw[List.getElem?_map] at q2;cases hx:xs[i]? with
  | none=>rw[hx] at q2;cases q2
  | some x=>rw[hx] at q2;simp at q2;subst q2;exact h2 i sv x q1 hx⟩
end Go.Vc

namespace Go.Vc
set_option autoImplicit false
theorem qDU {a b:Ty}{l:List a.T}{K:List b.T->Prop}(h:qU0 a b l K):∃ e:a=b,K (e▸l):=by
 unfold qU0 at h;split at h
 ·rename_i k k' l K;cases hk:kEq k k' with
  | false=>rw[hk] at h;exact h.elim
  | true=>
   rw[hk] at h;obtain rfl:=qJL hk;exact⟨rfl,h⟩
 ·exact⟨rfl,h⟩
 ·exact⟨rfl,h⟩
 ·exact⟨rfl,h⟩
 ·exact⟨rfl,h⟩
 ·exact⟨rfl,h⟩
 ·split at h
  ·rename_i hb;have e:=Ty.of_beq hb;subst e;exact⟨rfl,h⟩
  ·exact h.elim
def zFK (x y:SV):Prop:=(∀ e l,x=.rd e l->y=.rd e l)/\(x=.nils->∃ e,y=.rd e [])
def qHI (xs ys:List SV):Prop:=
 ys.length=xs.length/\∀ (i:Nat) x y,xs[i]?=some x->ys[i]?=some y->(∀ r β v,Rel r β x v->Rel r β y v)/\(x.one=true->y.one=true)/\(y.okIds (fun _=>false)=true/\zFK x y)
theorem qHI.cons {x y xs ys}(h:(∀ r β v,Rel r β x v->Rel r β y v)/\(x.one=true->y.one=true)/\(y.okIds (fun _=>false)=true/\zFK x y)) (hs:qHI xs ys):qHI (x::xs) (y::ys):=
 ⟨by simp[hs.1],fun i a b q1 q2=>by
  cases i with
  | zero=>simp at q1 q2;subst q1;subst q2;exact h
  | succ i=>exact hs.2 i a b (by simpa using q1) (by simpa using q2)⟩
theorem qHI.one {x y}(h:(∀ r β v,Rel r β x v->Rel r β y v)/\(x.one=true->y.one=true)/\(y.okIds (fun _=>false)=true/\zFK x y)):qHI [x] [y]:=qHI.cons h ⟨rfl,fun i a b q=>by simp at q⟩
theorem qHI.app {xs ys xs' ys'}(h:qHI xs ys) (h':qHI xs' ys'):qHI (xs++xs') (ys++ys'):=
 ⟨by simp[h.1,h'.1],fun i a b q1 q2=>by
  rw[yAR] at q1 q2;rw[h.1] at q2;split at q1
  ·rename_i hlt;rw[if_pos hlt] at q2;exact h.2 i a b q1 q2
  ·rename_i hlt;rw[if_neg hlt] at q2;exact h'.2 _ a b q1 q2⟩
def qKF (τ:Ty) (rows:List (List SV)) (l:List τ.T):Prop:=
 l.length=rows.length/\∀ (i:Nat) row a,rows[i]?=some row->l[i]?=some a->qHI row (τ.enc a)
theorem qHI.relL {xs ys r β vs}(h:qHI xs ys) (hv:qA5 r β xs vs):qA5 r β ys vs:=
 ⟨by rw[hv.1,h.1],fun i y v q1 q2=>by
  rcases yBJ i xs.length with hi|hi
  ·exact(h.2 i xs[i] y (yAS hi) q1).1 _ _ _ (hv.2 i _ v (yAS hi) q2)
  ·have:=h.1;rw[yAT (by omega)] at q1;cases q1⟩
theorem qKF.lits {τ rows l sz}(h:qKF τ rows l) (hs:sz=τ.size) {r β v}(hv:Rel r β (.lits sz rows) v):Rel r β (.rd τ l) v:=by
 refine .rd ?_;subst hs;cases hv with
 | litsE=>rw[show l=[] from yAY.1 (by simpa using h.1)];exact .litsE
 | lits hb hn hcap hrow ho hc hr=>
  have hlen:(l.map τ.enc).length=rows.length:=by simp[h.1]
  have key:∀ (i:Nat) (row:List SV),(l.map τ.enc)[i]?=some row->∃ row0,rows[i]?=some row0/\qHI row0 row:=by
   intro i row hi;rw[List.getElem?_map] at hi;cases hq:l[i]? with
   | none=>rw[hq] at hi;cases hi
   | some a=>
    rw[hq] at hi;simp at hi;subst hi;have hlt:i<rows.length:=by
     rcases yBJ i l.length with h'|h'
     ·rw[<-h.1];exact h'
     ·rw[yAT h'] at hq;cases hq
    exact⟨rows[i],yAS hlt,h.2 i _ a (yAS hlt) hq⟩
  have:=Rel.lits (r:=r) (β:=β) (sz:=τ.size) (rows:=l.map τ.enc) hb (by rw[hlen];exact hn) (by rw[hlen];exact hcap)
   (fun i row hi=>by obtain⟨row0,g1,g2⟩:=key i row hi;rw[g2.1];exact hrow _ _ g1)
   (fun i row j sv hi hj=>by
    obtain⟨row0,g1,g2⟩:=key i row hi;have hjl:j<row0.length:=by
     rcases yBJ j row0.length with h'|h'
     ·exact h'
     ·rw[yAT (by rw[g2.1];exact h')] at hj;cases hj
    exact(g2.2 j _ sv (yAS hjl) hj).2.1 (ho _ _ _ _ g1 (yAS hjl)))
   (by rw[hlen];exact hc)
   (fun i row j sv v hi hj hcv=>by
    obtain⟨row0,g1,g2⟩:=key i row hi;have hjl:j<row0.length:=by
     rcases yBJ j row0.length with h'|h'
     ·exact h'
     ·rw[yAT (by rw[g2.1];exact h')] at hj;cases hj
    exact(g2.2 j _ sv (yAS hjl) hj).1 _ _ _ (hr _ _ _ _ _ g1 (yAS hjl) hcv))
  rw[hlen] at this;exact this
theorem qBU {τ:Ty}(hD:∀ (row:List SV) (K:τ.T->List SV->Prop),qUO τ row K->∃ a pre rest,row=pre++rest/\K a rest/\qHI pre (τ.enc a)):
  ∀ {rows:List (List SV)}{K:List τ.T->Prop},qEI (qUO τ) rows K->∃ l,K l/\qKF τ rows l:=by
 intro rows
 induction rows with
 | nil=>intro K h;exact⟨[],h,rfl,fun i row a q=>by simp at q⟩
 | cons row rs ih=>
  intro K h;obtain⟨a,pre,rest,he,h,hent⟩:=hD _ _ h;split at h
  ·obtain⟨l,hk,h1,h2⟩:=ih h;refine⟨a::l,hk,by simp[h1],fun i r0 a0 q1 q2=>?_⟩
   cases i with
   | zero=>simp at q1 q2;subst q1;subst q2;rw[he,yAP];exact hent
   | succ i=>exact h2 i r0 a0 (by simpa using q1) (by simpa using q2)
  ·exact h.elim
theorem qDV:∀ {τ:Ty}{row:List SV}{K:τ.T->List SV->Prop},qUO τ row K->∃ a pre rest,row=pre++rest/\K a rest/\qHI pre (τ.enc a):=by
 intro τ
 induction τ with
 | int k=>
  intro row K h
  match row,h with
  | .int k' n::r,h=>
   simp only[qUO] at h;cases hk:kEq k k' with
   | false=>rw[hk] at h;exact h.elim
   | true=>
    rw[hk] at h;obtain rfl:=qJL hk;exact⟨n,[_],r,rfl,h,qHI.one ⟨fun _ _ _ h=>h,fun h=>h,rfl,(fun _ _ h=>by cases h),(fun h=>by cases h)⟩⟩
 | byte=>
  intro row K h
  match row,h with
  | .int .u8 n::r,h=>
   simp only[qUO] at h;obtain⟨hb,h⟩:=h;have hb:=hb.h;refine⟨_,[_],r,rfl,h,qHI.one ⟨fun r β v hv=>?_,fun _=>rfl,rfl,(fun _ _ h=>by cases h),(fun h=>by cases h)⟩⟩
   have e:((UInt8.ofNat n.toNat).toNat:Int)=n:=by
    rw[UInt8.toNat_ofNat'];have:n.toNat<256:=by omega
    rw[yBL (by simpa using this)]
    omega
   rw[e];exact hv
 | bool=>
  intro row K h
  match row,h with
  | .bool b::r,h=>exact⟨b,[_],r,rfl,h,qHI.one ⟨fun _ _ _ h=>h,fun h=>h,rfl,(fun _ _ h=>by cases h),(fun h=>by cases h)⟩⟩
 | str=>
  intro row K h
  match row,h with
  | .str l::r,h=>exact⟨l,[_],r,rfl,h,qHI.one ⟨fun _ _ _ h=>h,fun h=>h,rfl,(fun _ _ h=>by cases h),(fun h=>by cases h)⟩⟩
 | flt=>
  intro row K h
  match row,h with
  | .flt n::r,h=>exact⟨n,[_],r,rfl,h,qHI.one ⟨fun _ _ _ h=>h,fun h=>h,rfl,(fun _ _ h=>by cases h),(fun h=>by cases h)⟩⟩
 | cpx=>
  intro row K h
  match row,h with
  | .cpx a b::r,h=>exact⟨(a,b),[_],r,rfl,h,qHI.one ⟨fun _ _ _ h=>h,fun h=>h,rfl,(fun _ _ h=>by cases h),(fun h=>by cases h)⟩⟩
 | sl e ih=>
  intro row K h
  match row,h with
  | x::r,h=>
   simp only[qUO] at h;split at h
   ·refine⟨[],[_],r,rfl,h,qHI.one ⟨fun r β v hv=>?_,fun _=>rfl,rfl,(fun _ _ h=>by cases h),(fun _=>⟨_,rfl⟩)⟩⟩
    cases hv;exact .rd .litsE
   ·rename_i e' l;obtain⟨rfl,h⟩:=qDU h;exact⟨_,[_],r,rfl,h,qHI.one ⟨fun _ _ _ h=>h,fun h=>h,rfl,(fun _ _ h=>h),(fun h=>by cases h)⟩⟩
   ·rename_i sz rows;cases hs:Nat.beq sz e.size with
    | false=>rw[hs] at h;exact h.elim
    | true=>
     rw[hs] at h;obtain⟨l,hk,hl⟩:=qBU (fun _ _ h=>ih h) h
     exact⟨l,[_],r,rfl,hk,qHI.one ⟨fun _ _ _ h=>hl.lits (qAM hs) h,fun _=>rfl,rfl,(fun _ _ h=>by cases h),(fun h=>by cases h)⟩⟩
   ·exact h.elim
 | pr a b iha ihb=>
  intro row K h;simp only[qUO] at h;obtain⟨x,pre,rest,rfl,h,h1⟩:=iha h;obtain⟨y,pre',rest',rfl,h,h2⟩:=ihb h;exact⟨(x,y),pre++pre',rest',by simp,h,qHI.app h1 h2⟩
theorem qBP {τ:Ty}{row:List SV}{K:τ.T->Prop}(h:qL2 τ row K):∃ a,K a/\qHI row (τ.enc a):=by
 obtain⟨a,pre,rest,rfl,h,he⟩:=qDV h;split at h
 ·exact⟨a,h,by rw[yAP];exact he⟩
 ·exact h.elim
theorem enc_len:∀ (τ:Ty) (x:τ.T),(τ.enc x).length=τ.size:=by
 intro τ
 induction τ with
 | pr a b iha ihb=>intro x;simp only[Ty.enc,yAW,iha,ihb];rfl
 | _=>intro x;rfl
theorem enc_one:∀ (τ:Ty) (x:τ.T) (j:Nat) (sv:SV),(τ.enc x)[j]?=some sv->sv.one=true:=by
 intro τ
 induction τ with
 | pr a b iha ihb=>
  intro x j sv h;simp only[Ty.enc,yAR] at h;split at h
  ·exact iha _ _ _ h
  ·exact ihb _ _ _ h
 | _=>intro x j sv h;cases j<;>simp[Ty.enc] at h;subst h;rfl
theorem qfG:∀ (τ:Ty) (p:Nat),qJ9 τ p=true->∀ x:τ.T,∃ ks,qGI τ p x ks:=by
 intro τ
 induction τ with
 | pr a b iha ihb=>
  intro p h x;unfold qJ9 at h;unfold qGI;simp only[Ty.enc,yAR,enc_len];cases hb:Nat.blt p a.size with
  | true=>
   rw[hb] at h;rw[if_pos (show p<a.size from yBF hb)]
   exact iha p h x.1
  | false=>
   rw[hb] at h;rw[if_neg (fun hc=>by have:Nat.blt p a.size=true:=yBE hc;rw[hb] at this;cases this)]
   exact ihb _ h x.2
 | sl e ih=>
  intro p h x;cases p with
  | succ p=>cases e<;>simp[qJ9] at h
  | zero=>
   cases e with
   | int k=>
    cases k<;>first|(exact⟨x,rfl⟩)|(simp[qJ9] at h)
   | _=>simp[qJ9] at h
 | _=>intro p h;cases p<;>simp[qJ9] at h
theorem mem_grow {r β Φ w}(m:MemSat r β Φ w) (o:Obj):
  r.le (fun b=>bif Nat.beq b w.heap.size then some o else r b)/\MemSat (fun b=>bif Nat.beq b w.heap.size then some o else r b) β Φ { w with heap:=w.heap.push o }/\
  Hid r β Φ w (fun b=>bif Nat.beq b w.heap.size then some o else r b) β Φ { w with heap:=w.heap.push o }:=by
 have hold:∀ b,b<w.heap.size->Nat.beq b w.heap.size=false:=fun b hb=>qAS (by omega)
 have hlt':∀ b,b<w.heap.size->({ w with heap:=w.heap.push o }:World).heap[b]?=w.heap[b]?:=fun b hb=>by
  show(w.heap.push o)[b]?=_;rw[yAF,if_neg (by omega)]
 have hle:r.le (fun b=>bif Nat.beq b w.heap.size then some o else r b):=by
  intro b o' h;have:=qD5 (m.vis _ _ h);show(bif Nat.beq b w.heap.size then some o else r b)=some o'
  rw[hold b this];exact h
 refine⟨hle,⟨fun b o' h=>?_,fun id ch h=>?_,fun id ch b h1 h2=>?_,m.nod⟩,rfl,rfl,rfl,?_,fun b hb h1 h2=>⟨hlt' b hb,?_,h2⟩,fun _ ch h _=>⟨rfl,ch,h,rfl⟩⟩
 ·cases hq:Nat.beq b w.heap.size with
  | true=>
   obtain rfl:=qAM hq;simp only[hq,cond_true] at h;rw[<-h];show(w.heap.push o)[w.heap.size]?=_;simp
  | false=>
   simp only[hq,cond_false] at h;have:=m.vis _ _ h;rw[hlt' b (qD5 this)];exact this
 ·exact(m.chs _ _ h).keep hle (fun b hb=>hlt' b ((m.chs _ _ h).alive hb)) (fun _ _ _ _ _ _ _ h=>h)
 ·show(bif Nat.beq b w.heap.size then some o else r b)=none
  rw[hold b ((m.chs _ _ h1).alive h2)];exact m.sep _ _ _ h1 h2
 ·show w.heap.size<=(w.heap.push o).size;simp
 ·show(bif Nat.beq b w.heap.size then some o else r b)=none
  rw[hold b hb];exact h1
end Go.Vc

namespace Go.Vc
set_option autoImplicit false
theorem qAV {α:Type _}{l:List α}{i:Nat}{x:α}(h:l[i]?=some x):i<l.length:=by
 rcases yBJ i l.length with h'|h'
 ·exact h'
 ·rw[yAT h'] at h;cases h
theorem qWJ {r β l}{vs:Array Value}(h:qA5 r β l vs.toList):vs.size=l.length:=by have:=h.1;simpa using this
theorem qJF {z:Value}{sz n:Nat}(hz:z.cells.size=sz) (i j:Nat) (hi:i<n) (hj:j<sz):(madeCells z.cells (n*sz))[i*sz+j]?=z.cells[j]?:=by
 have hb:i*sz+j<n*sz:=by
  have:(i+1)*sz<=n*sz:=yBM sz hi;rw[yBA] at this;omega
 have hm:(i*sz+j)%z.cells.size=j:=by
  rw[hz,yA9,Nat.add_mul_mod_self_right,yBL hj]
 simp only[madeCells,Array.getElem?_map,Array.getElem?_range,hb,if_true,yBP,hm];rw[yAC (by omega)]
 congr 1;exact getElem!_pos z.cells j (by omega)
theorem qbK {z:List SV}:∀ {n:Nat}{K:List SV->Prop},zFH z n K->∃ l,K l/\l.length=n*z.length/\∀ i j,i<n->j<z.length->l[i*z.length+j]?=z[j]?:=by
 intro n
 induction n with
 | zero=>intro K h;exact⟨[],h,by simp,fun i j hi=>by omega⟩
 | succ n ih=>
  intro K h;obtain⟨l,h,h1,h2⟩:=ih h;obtain⟨l',h,q1,_,q3⟩:=qBZ h;refine⟨l',h,by rw[q1,yAW,h1,yBA];omega,fun i j hi hj=>?_⟩
  rw[q3];cases i with
  | zero=>rw[if_pos (by omega)];simp
  | succ i=>
   have e:(i+1)*z.length+j=z.length+(i*z.length+j):=by rw[yBA];omega
   rw[e,if_neg (by omega),List.getElem?_append_right (by omega),yBB]
   exact h2 i j (by omega) hj
theorem qRX {sz:Nat}:∀ {n:Nat}{l:List SV}{K:List (List SV)->Prop},qWN sz n l K->∃ rows,K rows/\rows.length=n/\n*sz<=l.length/\∀ i row,rows[i]?=some row->row=(l.drop (i*sz)).take sz:=by
 intro n
 induction n with
 | zero=>intro l K h;exact⟨[],h,rfl,by simp,fun i row h=>by simp at h⟩
 | succ n ih=>
  intro l K h;obtain⟨h,hl⟩:=qOQ h;obtain⟨rows,h,h1,h2,h3⟩:=ih h;refine⟨_,h,by simp[h1],by simp at h2;rw[yBA];omega,fun i row hi=>?_⟩
  cases i with
  | zero=>simp at hi;rw[<-hi];simp
  | succ i=>
   have:=h3 i row (by simpa using hi)
   rw[this,List.drop_drop,yBA];congr 2;omega
theorem qJK {P:Program}{e:TypeId}{s:Nat}(h:qEZ P e s=true):∃ i,P.info? e=some i/\i.size=s:=by
 obtain⟨h1,h2⟩:=qCE h;obtain⟨i,hi⟩:=Option.ne_none_iff_exists'.1 h2;exact⟨i,hi,by rw[<-h1,qBG hi]⟩
theorem qF5 {P:Program}{σ ctx e ln parts}{K:List (List SV)->Prop}(h:qHG P σ ctx e ln parts K):
  ∃ rows,K rows/\rows.length=ln/\(∀ (i:Nat) row,rows[i]?=some row->row.length=qAW P e)/\qAW P e≠0/\ln*qAW P e<=16777216/\
   (∀ (i:Nat) row (j:Nat) sv,rows[i]?=some row->row[j]?=some sv->sv.one=true/\sv.okIds (fun _=>false)=true)/\
   ∀ p r β (a:Act) g,(∀ y∈parts,Has p y.2)->Sm p r β σ a.tmps ctx g->∃ us:Array Value,us.size=ln*qAW P e/\
    (∀ t w,P.underlying t=some (.slice e)->(Instr.buildSlice t ln (parts.map fun(i,x)=>(i,a.eval x)).toArray).run P w=.ok (.slice (some ⟨w.heap.size,0,none⟩) ln ln) { w with heap:=w.heap.push (.cells us e) })/\
    ∀ (i:Nat) row (j:Nat) sv v,rows[i]?=some row->row[j]?=some sv->us[i*qAW P e+j]?=some v->Rel r β0 sv v:=by
 unfold qHG at h;cases hz0:(Nat.beq (qAW P e) 0 || !Nat.ble (ln*qAW P e) 16777216) with
 | true=>rw[hz0] at h;exact h.elim
 | false=>
 rw[hz0] at h;simp only[cond_false] at h;simp only[Bool.or_eq_false_iff,Bool.not_eq_false'] at hz0;obtain⟨hz0,hble⟩:=hz0;have hble:=yBF hble;obtain⟨z,zv,h,hz1,_,hzrun,hzrel⟩:=qCF h;cases hz2:Nat.beq (len z) (qAW P e) with
 | false=>rw[hz2] at h;exact h.elim
 | true=>
 rw[hz2] at h;simp only[cond_true] at h;have hzl:=qAM hz2;rw[len_eq] at hzl;obtain⟨flat,h,hfl,hfg⟩:=qbK h;obtain⟨l,h,hll,hr⟩:=qIQ h;cases hz3:(SV.okIdsL (fun _=>false) l&&qG0 l) with
 | false=>rw[hz3] at h;exact h.elim
 | true=>
 rw[hz3] at h;simp only[yAJ] at hz3;obtain⟨hz3,hz4⟩:=hz3;obtain⟨rows,hk,h1,h2,h3⟩:=qRX h;obtain⟨i,hi⟩:∃ i,P.info? e=some i:=by
  unfold qAW at hz0;cases hq:P.info? e with
  | none=>rw[hq] at hz0;cases hz0
  | some i=>exact⟨i,rfl⟩
 rw[qBG hi] at *;have hsz:0<i.size:=by
  rcases Nat.eq_zero_or_pos i.size with h|h
  ·rw[h] at hz0;cases hz0
  ·exact h
 have rowlen:∀ (k:Nat) (row:List SV),rows[k]?=some row->row.length=i.size:=by
  intro k row hk';rw[h3 k row hk'];have hkl:=qAV hk';rw[h1] at hkl;have:(k+1)*i.size<=ln*i.size:=yBM _ hkl;rw[yBA] at this;simp;omega
 have hget:∀ (k:Nat) (row:List SV) (j:Nat) (sv:SV),rows[k]?=some row->row[j]?=some sv->l[k*i.size+j]?=some sv:=by
  intro k row j sv hk' hj;rw[h3 k row hk',List.getElem?_take] at hj;split at hj
  ·rw[List.getElem?_drop] at hj;exact hj
  ·cases hj
 refine⟨rows,hk,h1,rowlen,by omega,hble,fun k row j sv a1 a2=>⟨qOO hz4 _ _ (hget k row j sv a1 a2),SV.okIdsL_get hz3 _ _ (hget k row j sv a1 a2)⟩,fun p r β a g hP sm=>?_⟩
 have hzc:zv.cells.size=i.size:=by
  have:=(hzrel r β).1;simp at this;omega
 have hflat:qA5 r β flat (madeCells zv.cells (ln*i.size)).toList:=by
  refine⟨by rw[yAI,size_madeCells,hfl,hzl],fun k sv v q1 q2=>?_⟩
  have hk:=qAV q1;rw[hfl,hzl] at hk;have hd:k/i.size<ln:=(Nat.div_lt_iff_lt_mul hsz).2 hk;have hm:k%i.size<i.size:=Nat.mod_lt _ hsz;have e:k/i.size*i.size+k%i.size=k:=by rw[Nat.mul_comm];exact Nat.div_add_mod k i.size
  have g1:=hfg (k/i.size) (k%i.size) hd (by rw[hzl];exact hm)
  rw[hzl,e,q1] at g1;have g2:=qJF hzc (k/i.size) (k%i.size) hd hm;have q2':(madeCells zv.cells (ln*i.size))[k]?=some v:=by simpa using q2
  rw[e,q2'] at g2;exact(hzrel r β).2 _ _ _ g1.symm (by simpa using g2.symm)
 obtain⟨us,hus,hul⟩:=hr p r β a g hP sm _ hflat;have hl:l.length=ln*i.size:=by rw[hll,hfl,hzl]
 refine⟨us,by rw[qWJ hul];exact hl,fun t w ht=>?_,fun k row j sv v a1 a2 a3=>?_⟩
 ·have hbig:¬(ln*i.size>2 ^ 24):=by omega
  simp only[Instr.buildSlice,Sem.run_bind,run_underlying ht,Result.andThen_ok,run_sizeOf hi,hbig,if_false,Sem.run_pure];have hus':∀ (Z:Array Value),(ln*i.size≠0->Z=zv.cells)->Instr.fill (fun k=>some (k*i.size,i.size)) ((Array.range (ln*i.size)).map (Z[· % Z.size]!)) (parts.map fun(k,x)=>(k,a.eval x))=some us:=by
   intro Z hZ;by_cases h0:ln*i.size=0
   ·have e:(Array.range (ln*i.size)).map (Z[· % Z.size]!)=madeCells zv.cells (ln*i.size):=by rw[h0];simp[madeCells]
    rw[e];exact hus
   ·rw[hZ h0];exact hus
  by_cases h0:ln*i.size=0
  ·rw[if_pos h0];simp only[Sem.run_bind,Sem.run_pure,Result.andThen_ok,hus' #[] (fun h=>(h h0).elim),newRow,run_newObj]
  ·rw[if_neg h0];simp only[Sem.run_bind,hzrun w,Sem.run_pure,Result.andThen_ok,hus' zv.cells (fun _=>rfl),newRow,run_newObj]
 ·have hlj:=hget k row j sv a1 a2;exact(hul.2 _ _ _ hlj (by simpa using a3)).pure (SV.okIdsL_get hz3 _ _ hlj) β0
end Go.Vc

namespace Go.Vc
set_option autoImplicit false
theorem qHM {r β l vs}(h:qA5 r β l vs) {i:Nat}{sv:SV}(hi:nth l i=some sv):∃ v,vs.toArray[i]?=some v/\Rel r β sv v:=by
 rw[qE5] at hi;have hl:=qAV hi;have:i<vs.length:=by rw[h.1];exact hl
 exact⟨vs[i],by simp[this],h.2 i sv _ hi (yAS this)⟩
theorem qB1 {P:Program}{t:TypeId}{cs:Array Value}{off:Nat}{v:Value}{w:World}(ha:∀ d,P.underlying t=some d->qPL d=false) (hu:∃ d,P.underlying t=some d) (hv:cs[off]?=some v):(part t cs off).run P w=.ok v w:=by
 obtain⟨d,hu⟩:=hu;have:=ha d hu;unfold part isAgg;simp only[Sem.run_bind,run_underlying hu,Result.andThen_ok,Sem.run_pure];cases d<;>simp[qPL] at this<;>simp[hv]
theorem qG8 {P : Program} {xs ys : List SV} : ∀ {fs : List Field} {K : Bool → Prop}, qD3 P xs ys fs K → (∀ f ∈ fs, f.name ≠ "_") →
    ∃ b,K b/\∀ r β vs us,qA5 r β xs vs->qA5 r β ys us->∀ w,(Op.eqFields 9999 vs.toArray us.toArray fs).run P w=.ok b w:=by
  intro fs
  induction fs with
  | nil=>intro K h _;exact⟨true,h,fun r β vs us _ _ w=>rfl⟩
  | cons f fs ih=>
    intro K h hn;have hn1 : f.name ≠ "_" := hn f (by simp)
    have step:∀ {K:Bool->Prop}(c:Bool),qD3 P xs ys fs (fun r=>K (c&&r))->
        (∀ r β vs us,qA5 r β xs vs->qA5 r β ys us->∃ a b,(∀ w,(part f.type vs.toArray f.offset).run P w=.ok a w)/\(∀ w,(part f.type us.toArray f.offset).run P w=.ok b w)/\∀ w,(Op.equalIn 9999 f.type a b).run P w=.ok c w)->
        ∃ b,K b/\∀ r β vs us,qA5 r β xs vs->qA5 r β ys us->∀ w,(Op.eqFields 9999 vs.toArray us.toArray (f::fs)).run P w=.ok b w:=by
      intro K c hk hrun;obtain⟨b,hb,hrest⟩:=ih hk (fun g hg=>hn g (by simp[hg]))
      refine⟨_,hb,fun r β vs us h1 h2 w=>?_⟩
      obtain⟨a,b',p1,p2,p3⟩:=hrun r β vs us h1 h2;unfold Op.eqFields;rw[if_pos hn1];simp only[Sem.run_bind,p1 w,p2 w,p3 w,Result.andThen_ok];cases c with
      | true=>simp only[yAM,yAK,if_false,yAN];exact hrest r β vs us h1 h2 w
      | false=>rfl
    unfold qD3 at h;split at h
    · rename_i k0 k a k' b hu hx hy
      cases hk:kEq k k' with
      | false=>rw[hk] at h;exact h.elim
      | true=>
        rw[hk] at h;obtain rfl:=qJL hk;refine step (a==b) h fun r β vs us h1 h2=>?_
        obtain⟨v1,g1,r1⟩:=qHM h1 hx;obtain⟨v2,g2,r2⟩:=qHM h2 hy;cases r1;cases r2;exact⟨_,_,fun w=>qB1 (fun d hd=>by rw[hu] at hd;cases hd;rfl) ⟨_,hu⟩ g1,fun w=>qB1 (fun d hd=>by rw[hu] at hd;cases hd;rfl) ⟨_,hu⟩ g2,fun w=>run_equalIn_int w 9998 f.type _ k0 a b hu⟩
    · rename_i a b hu hx hy
      refine step (a==b) h fun r β vs us h1 h2=>?_
      obtain⟨v1,g1,r1⟩:=qHM h1 hx;obtain⟨v2,g2,r2⟩:=qHM h2 hy;cases r1;cases r2;refine⟨_,_,fun w=>qB1 (fun d hd=>by rw[hu] at hd;cases hd;rfl) ⟨_,hu⟩ g1,fun w=>qB1 (fun d hd=>by rw[hu] at hd;cases hd;rfl) ⟨_,hu⟩ g2,fun w=>?_⟩
      rw[run_equalIn_string w 9998 f.type _ _ hu,ByteArray.toList_eq,ByteArray.toList_eq]
    · rename_i a b hu hx hy
      refine step (a==b) h fun r β vs us h1 h2=>?_
      obtain⟨v1,g1,r1⟩:=qHM h1 hx;obtain⟨v2,g2,r2⟩:=qHM h2 hy;cases r1;cases r2;exact⟨_,_,fun w=>qB1 (fun d hd=>by rw[hu] at hd;cases hd;rfl) ⟨_,hu⟩ g1,fun w=>qB1 (fun d hd=>by rw[hu] at hd;cases hd;rfl) ⟨_,hu⟩ g2,fun w=>run_equalIn_bool' w 9998 f.type a b hu⟩
    · exact h.elim
theorem qPJ {r β x v}(h:qb5 x=true) (hx:Rel r β x v):∃ a,v=.pointer (some a):=by
 cases hx<;>first|exact⟨_,rfl⟩|cases h
theorem qEJ {P:Program}{t e:TypeId}(hu:P.underlying t=some (.pointer e)) {a b:Option Addr}{c:Bool}(w:World)
  (h:(a=none/\c=b.isNone)\/(b=none/\a≠none/\c=false)\/(a≠none/\a=b/\qAW P e≠0/\c=true)):(Op.equal t (.pointer a) (.pointer b)).run P w=.ok c w:=by
 unfold Op.equal Op.maxDepth;rw[show(10000:Nat)=9999+1 from rfl,Op.equalIn]
 simp only[Sem.run_bind,run_underlying hu,Result.andThen_ok];rcases h with⟨rfl,rfl⟩|⟨rfl,h,rfl⟩|⟨h,rfl,hs,rfl⟩
 ·cases b<;>rfl
 ·cases a with
  | none=>exact absurd rfl h
  | some a=>rfl
 ·cases a with
  | none=>exact absurd rfl h
  | some a=>
   have hi:∃ i,P.info? e=some i:=by
    unfold qAW at hs;split at hs
    ·rename_i i hi;exact⟨i,hi⟩
    ·exact absurd rfl hs
   obtain⟨i,hi⟩:=hi;rw[qBG hi] at hs;simp[run_sizeOf hi,hs,sameAddr]
theorem qTU {P:Program}{t x y}{K:Bool->Prop}(h:qTJ P t x y K):∃ b,K b/\∀ r β vx vy,Rel r β x vx->Rel r β y vy->∃ a c,vx=.pointer a/\vy=.pointer c/\∀ w,(Op.equal t vx vy).run P w=.ok b w:=by
 unfold qTJ at h;split at h
 ·rename_i e hu;split at h
  ·refine⟨true,h,fun r β vx vy hx hy=>?_⟩
   cases hx;cases hy;exact⟨_,_,rfl,rfl,fun w=>qEJ hu w (.inl ⟨rfl,rfl⟩)⟩
  ·cases hp:qb5 x with
   | false=>rw[hp] at h;exact h.elim
   | true=>
    rw[hp] at h;refine⟨false,h,fun r β vx vy hx hy=>?_⟩
    obtain⟨a,rfl⟩:=qPJ hp hx;cases hy;exact⟨_,_,rfl,rfl,fun w=>qEJ hu w (.inr (.inl ⟨rfl,by simp,rfl⟩))⟩
  ·cases hp:qb5 y with
   | false=>rw[hp] at h;exact h.elim
   | true=>
    rw[hp] at h;refine⟨false,h,fun r β vx vy hx hy=>?_⟩
    obtain⟨a,rfl⟩:=qPJ hp hy;cases hx;exact⟨_,_,rfl,rfl,fun w=>qEJ hu w (.inl ⟨rfl,rfl⟩)⟩
  ·rename_i i off j off';cases hc:(Nat.beq i j&&(Nat.beq off off' && !Nat.beq (qAW P e) 0)) with
   | false=>rw[hc] at h;exact h.elim
   | true=>
    rw[hc] at h;simp only[yAJ,yAL] at hc;obtain rfl:=qAM hc.1;obtain rfl:=qAM hc.2.1;refine⟨true,h,fun r β vx vy hx hy=>?_⟩
    cases hx with
    | loc h1=>
     cases hy with
     | loc h2=>
      rw[h1] at h2;simp only[Value.pointer.injEq,Option.some.injEq,Addr.mk.injEq,and_true] at h2;subst h2;refine⟨_,_,rfl,rfl,fun w=>qEJ hu w (.inr (.inr ⟨by simp,rfl,?_,rfl⟩))⟩
      intro hz;rw[hz] at hc;exact absurd hc.2.2 (by simp)
  ·exact h.elim
 ·exact h.elim
theorem qVA {B:Base}{op t x y g}{K:SV->Prop}(h:qdF B op t x y g K):
    ∃ sv,K sv/\((∀ p,g p->p)->∀ r β vx vy,Rel r β x vx->Rel r β y vy->(∀ ox oy w,(eqGuard op t ox oy vx vy).run B.P w=.ok () w)/\∃ v,Rel r β sv v/\∀ w,(Go.binOp op t vx vy).run B.P w=.ok v w):=by
  unfold qdF at h;split at h
  · rename_i xs ys
    cases he:B.eqs t with
    | false=>rw[he] at h;exact h.elim
    | true=>
      rw[he] at h;obtain⟨h1,h2,h3⟩:=B.eqs_ok t he;simp only[cond_true] at h;split at h
      · rename_i fs hu
        have hf:B.P.fieldsOf t=⟨fs⟩:=by unfold Program.fieldsOf;rw[hu]
        rw[hf] at h3;obtain⟨b,hk,hb⟩:=qG8 h (fun f hf=>by simpa using yAO.1 h3 f hf)
        refine⟨_,hk,fun hv r β vx vy hx hy=>?_⟩
        obtain⟨cs,rfl,hcs⟩:=hx.aggL_inv;obtain⟨ds,rfl,hds⟩:=hy.aggL_inv;refine⟨fun ox oy w=>run_eqGuard_agg w _ t ox oy _ _ h2,_,.bool,fun w=>?_⟩
        rw[run_eql_struct,run_equalIn_agg w 9999 t _ _ (by rw[hf];exact hu) h1,hf,hb r β cs ds hcs hds w]
        rfl
      · rename_i fs hu
        have hf:B.P.fieldsOf t=⟨fs⟩:=by unfold Program.fieldsOf;rw[hu]
        rw[hf] at h3;obtain⟨b,hk,hb⟩:=qG8 h (fun f hf=>by simpa using yAO.1 h3 f hf)
        refine⟨_,hk,fun hv r β vx vy hx hy=>?_⟩
        obtain⟨cs,rfl,hcs⟩:=hx.aggL_inv;obtain⟨ds,rfl,hds⟩:=hy.aggL_inv;refine⟨fun ox oy w=>run_eqGuard_agg w _ t ox oy _ _ h2,_,.bool,fun w=>?_⟩
        rw[run_neq_struct,run_equalIn_agg w 9999 t _ _ (by rw[hf];exact hu) h1,hf,hb r β cs ds hcs hds w]
        rfl
      · exact h.elim
  · cases hpv:qjF x with
    | true=>
      rw[hpv] at h;simp only[cond_true] at h;have fin:∀ {neg:Bool}{o:BinOp},(o=.eql/\neg=false)\/(o=.neq/\neg=true)->(qTJ B.P t x y fun b=>K (.bool (bif neg then !b else b)))->
          ∃ sv,K sv/\((∀ p,g p->p)->∀ r β vx vy,Rel r β x vx->Rel r β y vy->(∀ ox oy w,(eqGuard o t ox oy vx vy).run B.P w=.ok () w)/\∃ v,Rel r β sv v/\∀ w,(Go.binOp o t vx vy).run B.P w=.ok v w):=by
        intro neg o ho h;obtain⟨b,hk,hb⟩:=qTU h;refine⟨_,hk,fun hv r β vx vy hx hy=>?_⟩
        obtain⟨a,c,rfl,rfl,hrun⟩:=hb r β vx vy hx hy;refine⟨fun ox oy w=>by unfold eqGuard;split<;>rfl,_,.bool,fun w=>?_⟩
        rcases ho with⟨rfl,rfl⟩|⟨rfl,rfl⟩
        · show Sem.run B.P (do pure (Value.bool (←Op.equal t _ _))) w=_
          rw[Sem.run_bind,hrun w];rfl
        · show Sem.run B.P (do pure (Value.bool (!(←Op.equal t _ _)))) w=_
          rw[Sem.run_bind,hrun w];rfl
      split at h
      · exact fin (.inl ⟨rfl,rfl⟩) h
      · exact fin (.inr ⟨rfl,rfl⟩) h
      · exact h.elim
    | false=>
    rw[hpv] at h;simp only[cond_false] at h;obtain⟨sv,hk,hr⟩:=qXJ h;refine⟨sv,hk,fun hv r β vx vy hx hy=>⟨fun ox oy w=>?_,hr hv r β vx vy hx hy⟩⟩
    unfold qgI at h;split at h
    · cases hx;cases hy;unfold eqGuard;split<;>rfl
    · cases hx;cases hy;unfold eqGuard;split<;>rfl
    · cases hx;cases hy;unfold eqGuard;split<;>rfl
    · cases hx;cases hy;unfold eqGuard;split<;>rfl
    · cases hx;cases hy;unfold eqGuard;split<;>rfl
    · exact h.elim
end Go.Vc

namespace Go.Vc
set_option autoImplicit false
theorem qF4 {κ:KTy}{x:SV}{K:κ.T->Prop}(h:qNR κ x K):∃ k,K k/\∀ r β v,Rel r β x v->v=κ.val k:=by
 cases κ with
 | s=>
  cases x<;>try exact h.elim
  exact⟨_,h,fun r β v hv=>by cases hv;rfl⟩
 | w=>
  cases x<;>try exact h.elim
  exact⟨_,h,fun r β v hv=>by cases hv;rfl⟩
 | i k=>
  cases x<;>try exact h.elim
  rename_i k' n;simp only[qNR] at h;cases hk:kEq k k' with
  | false=>rw[hk] at h;exact h.elim
  | true=>rw[hk] at h;obtain rfl:=qJL hk;exact⟨_,h,fun r β v hv=>by cases hv;rfl⟩
 | p=>
  cases x<;>try exact h.elim
  rename_i l
  match l,h with
  | [],h=>exact h.elim
  | [x],h=>cases x<;>exact h.elim
  | x::y::z::l,h=>cases x<;>cases y<;>exact h.elim
  | [x,y],h=>
   cases x<;>cases y<;>try exact h.elim
   rename_i a b;refine⟨(a,b),h,fun r β v hv=>?_⟩
   obtain⟨cs,rfl,hcs⟩:=hv.aggL_inv;obtain⟨v1,us,rfl,h1,h2⟩:=hcs.uncons;obtain⟨v2,us2,rfl,h3,h4⟩:=h2.uncons;have:us2=[]:=yAY.1 h4.1;subst this;cases h1;cases h3;rfl
def kindOf:KTy->TypeDesc->Prop
 | .s,d=>d=.string
 | .w,d=>d=.string
 | .i k,d=>d=.int k
 | .p,_=>False
theorem qSA {B:Base}{kt:TypeId}{κ:KTy}(hp:κ≠.p) (h:qEA B kt κ=true):∃ d,B.P.underlying kt=some d/\kindOf κ d:=by
 cases κ with
 | s=>
  simp only[qEA,qGY] at h;split at h
  ·exact⟨_,by assumption,rfl⟩
  ·cases h
 | w=>
  simp only[qEA,qGY] at h;split at h
  ·exact⟨_,by assumption,rfl⟩
  ·cases h
 | i k=>
  simp only[qEA] at h;split at h
  ·exact⟨_,by assumption,by rw[qJL h];rfl⟩
  ·cases h
 | p=>exact absurd rfl hp
theorem qX3 {κ:KTy}(a b:κ.T):κ.beq a b=true↔a=b:=by
 cases κ with
 | s=>simp[KTy.beq]
 | i k=>simp[KTy.beq]
 | p=>simp[KTy.beq]
 | w=>simp[KTy.beq]
theorem qSM (a b:List UInt8):((⟨a.toArray⟩:ByteArray)==⟨b.toArray⟩)=(a==b):=by
 show(a.toArray==b.toArray)=(a==b);simp
theorem qZR {κ:KTy}{d:TypeDesc}(h:kindOf κ d) (a b:κ.T):Instr.sameNow d (κ.val a) (κ.val b)=some (κ.beq a b):=by
 cases κ with
 | s=>
  cases h;simp only[Instr.sameNow,KTy.val,KTy.beq];congr 1;rw[qSM]
 | w=>
  cases h;simp only[Instr.sameNow,KTy.val,KTy.beq];congr 1;rw[qSM]
 | i k=>cases h;simp[Instr.sameNow,KTy.val,KTy.beq]
 | p=>cases h
theorem sameBits_self {κ:KTy}{d:TypeDesc}(h:kindOf κ d) (a:κ.T):Instr.sameBits 10000 (κ.val a) (κ.val a)=true:=by
 cases κ with
 | s=>simp[Instr.sameBits,KTy.val,qSM]
 | w=>simp[Instr.sameBits,KTy.val,qSM]
 | i k=>simp[Instr.sameBits,KTy.val]
 | p=>cases h
theorem qa5 {κ:KTy}{d:TypeDesc}(hd:kindOf κ d) {α:Type}(k:κ.T):∀ (l:List (κ.T×α)) (es:List MapEntry) (i0:Nat),es.length=l.length->
  (∀ (i:Nat) k' v e,l[i]?=some (k',v)->es[i]?=some e->e.key=κ.val k')->
  (qML κ l k=none/\Instr.findNow d (κ.val k) es i0=some none/\∀ a,qYP κ l k a=l++[(k,a)])\/
  ∃ j v e,l[j]?=some (k,v)/\qML κ l k=some v/\es[j]?=some e/\Instr.findNow d (κ.val k) es i0=some (some (i0+j,e.val))/\(∀ a,qYP κ l k a=l.set j (k,a))/\qZO κ l k=l.eraseIdx j:=by
 intro l
 induction l with
 | nil=>
  intro es i0 hl _;have:es=[]:=yAY.1 hl;subst this;exact .inl ⟨rfl,rfl,fun a=>rfl⟩
 | cons x l ih=>
  intro es i0 hl hk;obtain⟨k',v⟩:=x
  match es,hl with
  | e::es,hl=>
   have h0:=hk 0 k' v e rfl rfl;simp only[Instr.findNow,h0,qZR hd];cases hb:κ.beq k k' with
   | true=>
    obtain rfl:=(qX3 k k').1 hb;exact .inr ⟨0,v,e,rfl,by simp[qML,hb],rfl,rfl,fun a=>by simp[qYP,hb],by simp[qZO,hb]⟩
   | false=>
    rcases ih es (i0+1) (by simpa using hl) (fun i k1 v1 e1 q1 q2=>hk (i+1) k1 v1 e1 (by simpa using q1) (by simpa using q2)) with⟨a1,a2,a3⟩|⟨j,v1,e1,a1,a2,a3,a4,a5,a6⟩
    ·exact .inl ⟨by simp[qML,hb,a1],a2,fun a=>by simp[qYP,hb,a3]⟩
    ·exact .inr ⟨j+1,v1,e1,by simpa using a1,by simp[qML,hb,a2],by simpa using a3,by rw[a4,yA8,yA9 1 j],fun a=>by simp[qYP,hb,a5],by simp[qZO,hb,a6]⟩
theorem run_checkKey {P:Program}{κ:KTy}{d:TypeDesc}{kt:TypeId}(hu:P.underlying kt=some d) (hd:kindOf κ d) (b:Bool) (k:κ.T) (w:World):(Instr.checkKey b 10000 kt (κ.val k)).run P w=.ok () w:=by
 rw[show(10000:Nat)=9999+1 from rfl,Instr.checkKey]
 cases κ with
 | s=>cases hd;simp[run_underlying hu,KTy.val]
 | w=>cases hd;simp[run_underlying hu,KTy.val]
 | i k=>cases hd;simp[run_underlying hu,KTy.val]
 | p=>cases hd
theorem run_findKey {P:Program}{κ:KTy}{d:TypeDesc}{kt:TypeId}(hu:P.underlying kt=some d) {k:κ.T}{es:List MapEntry}{x:Option (Nat×Value)}(h:Instr.findNow d (κ.val k) es 0=some x) (w:World):
  (Instr.findKey kt (κ.val k) es).run P w=.ok x w:=by
 simp[Instr.findKey,run_underlying hu,h]
structure KOk (P:Program) (kt:TypeId) (κ:KTy):Prop where
 check:∀ (b:Bool) (k:κ.T) (w:World),(Instr.checkKey b 10000 kt (κ.val k)).run P w=.ok () w
 bits:∀ k:κ.T,Instr.sameBits 10000 (κ.val k) (κ.val k)=true
 find:∀ {α:Type}(k:κ.T) (l:List (κ.T×α)) (es:List MapEntry),es.length=l.length->(∀ (i:Nat) k' v e,l[i]?=some (k',v)->es[i]?=some e->e.key=κ.val k')->
  (qML κ l k=none/\(∀ w,(Instr.findKey kt (κ.val k) es).run P w=.ok none w)/\(∀ a,qYP κ l k a=l++[(k,a)])/\qZO κ l k=l)\/
  ∃ j v e,l[j]?=some (k,v)/\qML κ l k=some v/\es[j]?=some e/\(∀ w,(Instr.findKey kt (κ.val k) es).run P w=.ok (some (j,e.val)) w)/\(∀ a,qYP κ l k a=l.set j (k,a))/\qZO κ l k=l.eraseIdx j
theorem qcF {κ:KTy}{α:Type}{k:κ.T}:∀ {l:List (κ.T×α)},qML κ l k=none->qZO κ l k=l:=by
 intro l
 induction l with
 | nil=>intro _;rfl
 | cons x r ih=>
  intro h;obtain⟨k',v⟩:=x;cases hb:κ.beq k k' with
  | true=>simp[qML,hb] at h
  | false=>
   have h:qML κ r k=none:=by simpa[qML,hb] using h
   simp[qZO,hb,ih h]
theorem qC5 {P:Program}{t:TypeId}{cs:Array Value}{off:Nat}{v:Value}{w:World}(hu:P.underlying t=some .string) (hv:cs[off]?=some v):(part t cs off).run P w=.ok v w:=
 qB1 (fun d hd=>by rw[hu] at hd;cases hd;rfl) ⟨_,hu⟩ hv
theorem qK9 {P:Program}{t:TypeId}(h:qGY P t=true):P.underlying t=some .string:=by
 unfold qGY at h;split at h
 ·assumption
 ·cases h
theorem qQ6 {P : Program} {f g : Field} (hf : f.name ≠ "_") (hg : g.name ≠ "_") (of : f.offset = 0) (og : g.offset = 1) (tf : P.underlying f.type = some .string) (tg : P.underlying g.type = some .string) (p q : List UInt8 × List UInt8) (w : World) :
  (Op.eqFields 9999 #[.string ⟨p.1.toArray⟩,.string ⟨p.2.toArray⟩] #[.string ⟨q.1.toArray⟩,.string ⟨q.2.toArray⟩] [f,g]).run P w=.ok (p==q) w:=by
 have e1:∀ (x y:List UInt8) (t:TypeId) w,P.underlying t=some .string->(Op.equalIn 9999 t (.string ⟨x.toArray⟩) (.string ⟨y.toArray⟩)).run P w=.ok (x==y) w:=by
  intro x y t w ht;rw[run_equalIn_string w 9998 t _ _ ht,ByteArray.toList_eq,ByteArray.toList_eq]
 have hpq:(p==q)=(p.1==q.1&&p.2==q.2):=rfl;rw[hpq];unfold Op.eqFields;rw[if_pos hf];simp only[Sem.run_bind,qC5 (cs := #[.string ⟨p.1.toArray⟩,.string ⟨p.2.toArray⟩]) (off:=f.offset) (v:=.string ⟨p.1.toArray⟩) tf (by rw[of];rfl),qC5 (cs := #[.string ⟨q.1.toArray⟩,.string ⟨q.2.toArray⟩]) (off:=f.offset) (v:=.string ⟨q.1.toArray⟩) tf (by rw[of];rfl),e1 _ _ _ _ tf,Result.andThen_ok]
 cases p.1==q.1 with
 | false=>rfl
 | true=>
  simp only[yAM,yAK,if_false,yAN];unfold Op.eqFields;rw[if_pos hg];simp only[Sem.run_bind,qC5 (cs := #[.string ⟨p.1.toArray⟩,.string ⟨p.2.toArray⟩]) (off:=g.offset) (v:=.string ⟨p.2.toArray⟩) tg (by rw[og];rfl),qC5 (cs := #[.string ⟨q.1.toArray⟩,.string ⟨q.2.toArray⟩]) (off:=g.offset) (v:=.string ⟨q.2.toArray⟩) tg (by rw[og];rfl),e1 _ _ _ _ tg,Result.andThen_ok]
  cases p.2==q.2 with
  | false=>rfl
  | true=>
   simp only[yAM,yAK,if_false];rfl
theorem qKL {B:Base}{kt:TypeId}{κ:KTy}(h:qEA B kt κ=true):KOk B.P kt κ:=by
  by_cases hp:κ=.p
  · subst hp
    simp only[qEA,yAJ] at h;obtain⟨he,h⟩:=h;obtain⟨h1,h2,h3⟩:=B.eqs_ok kt he;split at h
    · rename_i f g hu
      simp only[yAJ] at h;obtain⟨of,og,tf,tg⟩:=h;have of:=qAM of;have og:=qAM og;have tf:=qK9 tf;have tg:=qK9 tg;have hfo:B.P.fieldsOf kt = #[f,g]:=by unfold Program.fieldsOf;rw[hu]
      rw[hfo] at h3;simp only[Array.toList,List.all_cons,List.all_nil,Bool.and_true,yAJ,bne_iff_ne,ne_eq] at h3;have heq:∀ (p q:List UInt8×List UInt8) w,(Op.equal kt (KTy.val .p p) (KTy.val .p q)).run B.P w=.ok (p==q) w:=by
        intro p q w;have e:Op.equal kt (KTy.val .p p) (KTy.val .p q)=Op.equalIn (9999+1) kt (.agg #[.string ⟨p.1.toArray⟩,.string ⟨p.2.toArray⟩]) (.agg #[.string ⟨q.1.toArray⟩,.string ⟨q.2.toArray⟩]):=rfl;rw[e,run_equalIn_agg w 9999 kt _ _ (by rw[hfo];exact hu) h1,hfo]
        exact qQ6 h3.1 h3.2 of og tf tg p q w
      refine⟨fun b k w=>?_,fun k=>?_,fun {α} k l es hl hk=>?_⟩
      · rw[show(10000:Nat)=9998+1+1 from rfl,Instr.checkKey]
        have c1:∀ (t:TypeId) (x:List UInt8) w,B.P.underlying t=some .string->(Instr.checkKey b (9998+1) t (.string ⟨x.toArray⟩)).run B.P w=.ok () w:=by
          intro t x w ht;rw[Instr.checkKey];simp[run_underlying ht]
        simp[run_underlying hu,KTy.val,h3.1,h3.2,qC5 (cs := #[.string ⟨k.1.toArray⟩,.string ⟨k.2.toArray⟩]) (off:=f.offset) (v:=.string ⟨k.1.toArray⟩) tf (by rw[of];rfl),qC5 (cs := #[.string ⟨k.1.toArray⟩,.string ⟨k.2.toArray⟩]) (off:=g.offset) (v:=.string ⟨k.2.toArray⟩) tg (by rw[og];rfl),c1 _ _ _ tf,c1 _ _ _ tg]
      · simp[Instr.sameBits,KTy.val,qSM]
      · have ask:∀ (l:List (KTy.T .p×α)) (es:List MapEntry) (i0:Nat),es.length=l.length->(∀ (i:Nat) k' v e,l[i]?=some (k',v)->es[i]?=some e->e.key=KTy.val .p k')->
            (qML .p l k=none/\(∀ w,(Instr.findAsking kt (KTy.val .p k) es i0).run B.P w=.ok none w)/\(∀ a,qYP .p l k a=l++[(k,a)])/\qZO .p l k=l)\/
            ∃ j v e,l[j]?=some (k,v)/\qML .p l k=some v/\es[j]?=some e/\(∀ w,(Instr.findAsking kt (KTy.val .p k) es i0).run B.P w=.ok (some (i0+j,e.val)) w)/\(∀ a,qYP .p l k a=l.set j (k,a))/\qZO .p l k=l.eraseIdx j:=by
          intro l
          induction l with
          | nil=>
            intro es i0 hl _;have:es=[]:=yAY.1 hl;subst this;exact .inl ⟨rfl,fun w=>rfl,fun a=>rfl,rfl⟩
          | cons x l ih=>
            intro es i0 hl hk;obtain⟨k',v⟩:=x
            match es,hl with
            | e :: es,hl=>
              have h0:=hk 0 k' v e rfl rfl;have hstep:∀ w,(Instr.findAsking kt (KTy.val .p k) (e::es) i0).run B.P w=(if(KTy.beq .p k k')=true then(pure (some (i0,e.val)):Sem _) else Instr.findAsking kt (KTy.val .p k) es (i0+1)).run B.P w:=by
                intro w;rw[Instr.findAsking,h0];simp only[Sem.run_bind,heq,Result.andThen_ok];rfl
              cases hb:KTy.beq .p k k' with
              | true=>
                obtain rfl:=(qX3 (κ:=.p) k k').1 hb;exact .inr ⟨0,v,e,rfl,by simp[qML,hb],rfl,fun w=>by rw[hstep,hb,if_pos rfl];rfl,fun a=>by simp[qYP,hb],by simp[qZO,hb]⟩
              | false=>
                rcases ih es (i0+1) (by simpa using hl) (fun i k1 v1 e1 q1 q2=>hk (i+1) k1 v1 e1 (by simpa using q1) (by simpa using q2)) with⟨a1,a2,a3,a4⟩|⟨j,v1,e1,a1,a2,a3,a4,a5,a6⟩
                · exact .inl ⟨by simp[qML,hb,a1],fun w=>by rw[hstep,hb,if_neg (by simp)];exact a2 w,fun a=>by simp[qYP,hb,a3],by simp[qZO,hb,a4]⟩
                · exact .inr ⟨j+1,v1,e1,by simpa using a1,by simp[qML,hb,a2],by simpa using a3,fun w=>by rw[hstep,hb,if_neg (by simp),a4,yA8,yA9 1 j],fun a=>by simp[qYP,hb,a5],by simp[qZO,hb,a6]⟩
        have hfk:∀ w,(Instr.findKey kt (KTy.val .p k) es).run B.P w=(Instr.findAsking kt (KTy.val .p k) es 0).run B.P w:=by
          intro w;unfold Instr.findKey;simp only[Sem.run_bind,run_underlying hu,Result.andThen_ok];cases es with
          | nil=>rfl
          | cons e es=>rfl
        rcases ask l es 0 hl hk with⟨a1,a2,a3⟩|⟨j,v,e,a1,a2,a3,a4,a5⟩
        · exact .inl ⟨a1,fun w=>by rw[hfk,a2],a3⟩
        · exact .inr ⟨j,v,e,a1,a2,a3,fun w=>by rw[hfk,a4,yBN],a5⟩
    · cases h
  · obtain⟨d,hu,hd⟩:=qSA hp h
    refine⟨fun b k w=>run_checkKey hu hd b k w,fun k=>sameBits_self hd k,fun {α} k l es hl hk=>?_⟩
    rcases qa5 hd k l es 0 hl hk with⟨a1,a2,a3⟩|⟨j,v,e,a1,a2,a3,a4,a5,a6⟩
    · exact .inl ⟨a1,fun w=>run_findKey hu a2 w,a3,qcF a1⟩
    · refine .inr ⟨j,v,e,a1,a2,a3,fun w=>by rw[run_findKey hu a4 w,yBN],a5,a6⟩
theorem qS0 {P:Program}{t:TypeId}{K:SV->Prop}(h:qd9 P t K):
  ∃ sv z,K sv/\sv.okIds (fun _=>false)=true/\(∀ w,(zeroValue t).run P w=.ok z w)/\∀ r β,Rel r β sv z:=by
 unfold qd9 at h;split at h
 ·rename_i i hi;split at h
  ·rename_i z hz;obtain⟨sv,hk,hid,hr⟩:=qF6 h;exact⟨sv,z,hk,hid,fun w=>by simp[zeroValue,typeInfo,hi,hz],hr⟩
  ·exact h.elim
 ·exact h.elim
theorem qKA {l:List SV}{K:SV->Prop}(h:qoP l K):∃ sv,l=[sv]/\K sv:=by
 unfold qoP at h;split at h
 ·exact⟨_,rfl,h⟩
 ·exact h.elim
theorem qPC {κ:KTy}{v:SV}{K:SV->Prop}(h:qzP κ v K):∃ x,K x/\v=κ.wv x:=by
 unfold qzP at h;split at h
 ·exact⟨_,h,rfl⟩
 ·exact h.elim
 ·rename_i hw;refine⟨_,h,?_⟩;cases κ<;>first|rfl|(exfalso;simp_all)
theorem qTK {κ:KTy}{x y:SV}{r:Mem}{β β':qBD}(h:∀ v,Rel r β x v->Rel r β' y v) {v:Value}(hv:Rel r β (κ.wv x) v):Rel r β' (κ.wv y) v:=by
 cases κ with
 | w=>
  have hv:Rel r β (.agg [x]) v:=hv;obtain⟨cs,rfl,hcs⟩:=hv.aggL_inv;obtain⟨v1,us,rfl,h1,h2⟩:=hcs.uncons;have:us=[]:=yAY.1 h2.1;subst this;refine .agg rfl fun i sv v q1 q2=>?_
  match i with
  | 0=>simp at q1 q2;subst q1;subst q2;exact h _ h1
  | i+1=>simp at q1
 | _=>exact h v hv
theorem qOI {B:Base}{Φ t x i ok}{K:SV->Prop}(h:qRC B Φ t x i ok K):
  ∃ sv,K sv/\∀ r β vx vi,Rel r β x vx->Rel r β i vi->∀ w,MemSat r β Φ w->∃ v,Rel r β sv v/\(Instr.lookup t vx vi ok).run B.P w=.ok v w:=by
 unfold qRC at h;split at h
 ·rename_i kt e id hu;split at h
  ·rename_i κ τ l hg;cases hko:qEA B kt κ with
   | false=>rw[hko] at h;exact h.elim
   | true=>
    rw[hko] at h;have hK:=qKL hko;obtain⟨k,h,hkey⟩:=qF4 h;obtain⟨z0,zv,h,_,hzrun,hzrel⟩:=qS0 h;obtain⟨z,h2,hz0⟩:=qPC h;subst hz0;clear h;have h:=h2;clear h2;obtain⟨dv,h,hent⟩:=qBP h;obtain⟨sv,hsv,h⟩:=qKA h;have main:∀ r β vx vi,Rel r β (.mref id) vx->Rel r β i vi->∀ w,MemSat r β Φ w->∃ v,Rel r β (κ.wv sv) v/\(Instr.lookup t vx vi ok).run B.P w=.ok (bif ok then .tuple #[v,.bool (qML κ l k).isSome] else v) w:=by
     intro r β vx vi hx hi w m;obtain rfl:=hkey _ _ _ hi;cases hx with
     | mref hβ=>
     rename_i b;have hs:=m.chs _ _ hg;cases hs with
     | mp hxb hw hl hk hv hb hn=>
     rename_i b' es clock;rw[hβ] at hxb;obtain rfl:b=b':=by simpa using hxb
     rcases hK.find k l es.toList (by simpa using hl) (fun i k' v e q1 q2=>hk i k' v e q1 (by simpa using q2)) with⟨a1,a2,a3,_⟩|⟨j,v,e1,a1,a2,a3,a4,a5,_⟩
     ·rw[a1] at hsv;have hsv:τ.enc dv=[sv]:=hsv;rw[hsv] at hent;refine⟨zv,qTK (fun v hv=>(hent.2 0 z sv rfl rfl).1 _ _ _ hv) (hzrel r β),?_⟩
      simp only[Instr.lookup,Sem.run_bind,run_underlying hu,Result.andThen_ok,Go.MapKept.run_getObj_map hw,Sem.run_pure,hK.check,a2,hzrun,a1];cases ok<;>rfl
     ·rw[a2] at hsv;have hsv:τ.enc v=[sv]:=hsv;obtain⟨sv',p1,p2,p3⟩:=hv j k v e1 a1 (by simpa using a3)
      rw[hsv] at p1;obtain rfl:sv=sv':=by simpa using p1
      refine⟨e1.val,qTK (fun u hu=>hu.pure (qFY τ v 0 sv (by rw[hsv];rfl)) β) p3,?_⟩
      simp only[Instr.lookup,Sem.run_bind,run_underlying hu,Result.andThen_ok,Go.MapKept.run_getObj_map hw,Sem.run_pure,hK.check,a4,a2];cases ok<;>rfl
    cases ok with
    | false=>
     refine⟨κ.wv sv,h,fun r β vx vi hx hi w m=>?_⟩
     obtain⟨v,h1,h2⟩:=main r β vx vi hx hi w m;exact⟨v,h1,h2⟩
    | true=>
     refine⟨_,h,fun r β vx vi hx hi w m=>?_⟩
     obtain⟨v,h1,h2⟩:=main r β vx vi hx hi w m;refine⟨.tuple #[v,.bool (qML κ l k).isSome],.tup (cs:=[v,.bool (qML κ l k).isSome]) rfl (fun i sv v h3 h4=>?_),h2⟩
     match i with
     | 0=>simp at h3 h4;subst h3;subst h4;exact h1
     | 1=>simp at h3 h4;subst h3;subst h4;exact .bool
     | i+2=>simp at h3
  ·exact h.elim
 ·exact h.elim
end Go.Vc

namespace Go.Vc
set_option autoImplicit false
theorem qh9 {P:Program}{e:TypeId}{ln:Nat}{rows:List (List SV)}{us:Array Value}{r:Mem}{β:qBD}{b0:Nat}(h1:rows.length=ln) (hrow:∀ (i:Nat) row,rows[i]?=some row->row.length=qAW P e) (hsz:qAW P e≠0) (hble:ln*qAW P e<=16777216)
  (hone:∀ (i:Nat) row (j:Nat) sv,rows[i]?=some row->row[j]?=some sv->sv.one=true/\sv.okIds (fun _=>false)=true) (hus:us.size=ln*qAW P e)
  (hrel:∀ (i:Nat) row (j:Nat) sv v,rows[i]?=some row->row[j]?=some sv->us[i*qAW P e+j]?=some v->Rel r β0 sv v) (hb:r b0=some (.cells us e (0,0))):
  Rel r β (.lits (qAW P e) rows) (.slice (some ⟨b0,0,none⟩) ln ln):=by
 by_cases hl0:ln=0
 ·subst hl0;have:rows=[]:=yAY.1 h1;subst this;exact .litsE
 ·have hle:ln<=ln*qAW P e:=Nat.le_mul_of_pos_right ln (by omega)
  have:=Rel.lits (r:=r) (β:=β) (sz:=qAW P e) (rows:=rows) (b:=b0) (off:=0) (cap:=ln) hb (by rw[h1];omega) (by omega) hrow (fun i row j sv q1 q2=>(hone i row j sv q1 q2).1)
   (by rw[h1,hus];omega) (fun i row j sv v q1 q2 q3=>hrel i row j sv v q1 q2 (by rw[yBN] at q3;exact q3))
  rw[h1] at this;exact this
theorem qOF {B:Base}{σ ctx t ln parts}{K:SV->Prop}(h:qRM B σ ctx t ln parts K):
    ∃ sv,K sv/\∀ p r β (a:Act) g Φ w,(∀ y∈parts,Has p y.2)->Sm p r β σ a.tmps ctx g->MemSat r β Φ w->
      ∃ v w',(Instr.buildSlice t ln (parts.map fun(i,x)=>(i,a.eval x)).toArray).run B.P w=.ok v w'/\Quiet r β Φ w sv v w':=by
  unfold qRM at h;split at h
  · rename_i e ht
    have go:∀ {K:List (List SV)->Prop},qHG B.P σ ctx e ln parts K->∃ rows,K rows/\∀ p r β (a:Act) g Φ w,(∀ y∈parts,Has p y.2)->Sm p r β σ a.tmps ctx g->MemSat r β Φ w->
        ∃ v w',(Instr.buildSlice t ln (parts.map fun(i,x)=>(i,a.eval x)).toArray).run B.P w=.ok v w'/\Quiet r β Φ w (.lits (qAW B.P e) rows) v w':=by
      intro K h;obtain⟨rows,hk,h1,h2,h3,h4,h5,h6⟩:=qF5 h;refine⟨rows,hk,fun p r β a g Φ w hP sm m=>?_⟩
      obtain⟨us,hus,hrun,hrel⟩:=h6 p r β a g hP sm;obtain⟨hle,hm,hid⟩:=mem_grow m (.cells us e);refine⟨_,_,hrun t w ht,_,?_,hle,hm,hid⟩;exact qh9 h1 h2 h3 h4 h5 hus (fun i row j sv v q1 q2 q3=>(hrel i row j sv v q1 q2 q3).mono hle) (by simp[yBD])
    split at h
    · obtain⟨rows,hk,hq⟩:=go h
      exact⟨_,hk,hq⟩
    split at h
    · rename_i τ hty
      cases hz:qEZ B.P e τ.size with
      | false=>rw[hz] at h;exact h.elim
      | true=>
        rw[hz] at h;obtain⟨rows,h,hq⟩:=go h;obtain⟨l,hk,hl⟩:=qBU (fun _ _ h=>qDV h) h
        refine⟨_,hk,fun p r β a g Φ w hP sm m=>?_⟩
        obtain⟨v,w',g1,r',g2,g3⟩:=hq p r β a g Φ w hP sm m;exact⟨v,w',g1,r',hl.lits (qCE hz).1 g2,g3⟩
    · obtain⟨rows,hk,hq⟩:=go h
      exact⟨_,hk,hq⟩
  · exact h.elim
theorem qM7 {B:Base}{Φ σ ctx g ung op}{K:SV->Prop}(hfl:floats op=true) (h:evK B Φ σ ctx g ung op K):
  ∃ sv,K sv/\∀ p r β a,(∀ x∈op.operands.toList,Has p x)->Sm p r β σ (Act.tmps a) ctx g->∀ dst ty pos after guard,∃ v,Rel r β sv v/\∀ w,(execOp a.eval ⟨dst,op,ty,pos,after,guard⟩).run B.P w=.ok (.value v) w:=by
 unfold evK at h;split at h
 ·-- move
  obtain⟨sv,hk,hr⟩:=qAK h;exact⟨sv,hk,fun p r β a hP sm dst ty pos after guard=>⟨_,hr p r β a g (hP _ (by simp[Op.operands])) sm,fun w=>rfl⟩⟩
 ·obtain⟨sv,hk,hr⟩:=qAK h;exact⟨sv,hk,fun p r β a hP sm dst ty pos after guard=>⟨_,hr p r β a g (hP _ (by simp[Op.operands])) sm,fun w=>rfl⟩⟩
 ·-- pick
  obtain⟨sv,hk,hr⟩:=qUU h;refine⟨sv,hk,fun p r β a hP sm dst ty pos after guard=>?_⟩
  obtain⟨v,hv,hw⟩:=hr p r β a g (hP _ (by simp[Op.operands])) (hP _ (by simp[Op.operands])) (hP _ (by simp[Op.operands])) sm
  exact⟨v,hv,fun w=>hw _ _ _ _ _ _ _⟩
 ·-- binOp
  rename_i op t x y t';obtain⟨sx,h,hx⟩:=qAK h;obtain⟨sy,h,hy⟩:=qAK h;obtain⟨sv,hk,hr⟩:=qVA h;refine⟨sv,hk,fun p r β a hP sm dst ty pos after guard=>?_⟩
  have hpx:=hP x (by simp[Op.operands])
  have hpy:=hP y (by simp[Op.operands])
  obtain⟨hgd,v,hv,hw⟩:=hr sm.valid r β _ _ (hx p r β a g hpx sm) (hy p r β a g hpy sm);refine⟨v,hv,fun w=>?_⟩
  simp only[execOp,Sem.run_bind,hgd x y w,Result.andThen_ok,hw w,Sem.run_pure]
 ·-- unOp
  obtain⟨sx,h,hx⟩:=qAK h;obtain⟨sv,hk,hr⟩:=qaI (P:=B.P) h;refine⟨sv,hk,fun p r β a hP sm dst ty pos after guard=>?_⟩
  obtain⟨v,hv,hw⟩:=hr sm.valid r β _ (hx p r β a g (hP _ (by simp[Op.operands])) sm)
  exact⟨v,hv,fun w=>by simp only[execOp,Sem.run_bind,hw w,Result.andThen_ok,Sem.run_pure]⟩
 ·-- convert
  obtain⟨sx,h,hx⟩:=qAK h;obtain⟨sv,hk,hr⟩:=qLF (P:=B.P) h;refine⟨sv,hk,fun p r β a hP sm dst ty pos after guard=>?_⟩
  obtain⟨v,hv,hw⟩:=hr sm.valid r β _ (hx p r β a g (hP _ (by simp[Op.operands])) sm)
  exact⟨v,hv,fun w=>by simp only[execOp,Sem.run_bind,hw w,Result.andThen_ok,Sem.run_pure]⟩
 ·-- index
  obtain⟨sx,h,hx⟩:=qAK h;obtain⟨si,h,hi⟩:=qAK h;obtain⟨sv,hk,hr⟩:=qPY h;refine⟨sv,hk,fun p r β a hP sm dst ty pos after guard=>?_⟩
  obtain⟨v,hv,hw⟩:=hr sm.valid r β _ _ (hx p r β a g (hP _ (by simp[Op.operands])) sm) (hi p r β a g (hP _ (by simp[Op.operands])) sm)
  exact⟨v,hv,fun w=>by simp only[execOp,Sem.run_bind,hw w,Result.andThen_ok,Sem.run_pure]⟩
 ·-- slice
  rename_i t x lo hi;obtain⟨sx,h,hx⟩:=qAK h;obtain⟨slo,h,hlo⟩:=qSC h;obtain⟨shi,h,hhi⟩:=qSC h;obtain⟨sv,hk,hr⟩:=qR1 h;refine⟨sv,hk,fun p r β a hP sm dst ty pos after guard=>?_⟩
  have conv:∀ (x:Option Operand) (y:Option Int),qsD a x y->qNB y (x.map a.eval):=by
   intro x y h;cases x<;>cases y<;>first|exact h|trivial
  obtain⟨v,hv,hw⟩:=hr sm.valid r β _ _ _ (hx p r β a g (hP _ (by simp[Op.operands])) sm) (conv _ _ (hlo p r β a g (fun o ho=>hP _ (by simp[Op.operands,ho])) sm)) (conv _ _ (hhi p r β a g (fun o ho=>hP _ (by simp[Op.operands,ho])) sm))
  exact⟨v,hv,fun w=>by simp only[execOp,Option.map_none,Sem.run_bind,hw w,Result.andThen_ok,Sem.run_pure]⟩
 ·-- field
  obtain⟨sx,h,hx⟩:=qAK h;obtain⟨sv,hk,hr⟩:=qP4 h;refine⟨sv,hk,fun p r β a hP sm dst ty pos after guard=>?_⟩
  obtain⟨v,hv,hw⟩:=hr r β _ (hx p r β a g (hP _ (by simp[Op.operands])) sm)
  exact⟨v,hv,fun w=>by simp only[execOp,Sem.run_bind,hw w,Result.andThen_ok,Sem.run_pure]⟩
 ·cases hfl
 ·-- fieldAddr
  obtain⟨sx,h,hx⟩:=qAK h;obtain⟨sv,hk,hr⟩:=qKJ h;refine⟨sv,hk,fun p r β a hP sm dst ty pos after guard=>?_⟩
  obtain⟨v,hv,hw⟩:=hr r β _ (hx p r β a g (hP _ (by simp[Op.operands])) sm)
  exact⟨v,hv,fun w=>by simp only[execOp,Sem.run_bind,hw w,Result.andThen_ok,Sem.run_pure]⟩
 ·cases hfl
 ·-- extract
  rename_i x i;obtain⟨sx,h,hx⟩:=qAK h;cases sx<;>simp only at h;rename_i l;split at h
  ·rename_i sv hn;rw[qE5] at hn;refine⟨sv,h,fun p r β a hP sm dst ty pos after guard=>?_⟩
   have hv:=hx p r β a g (hP _ (by simp[Op.operands])) sm
   generalize hq:a.eval x=v at hv;cases hv with
   | tup hl hr=>
    rename_i cs;have hlt:i<cs.length:=by
     rcases yBJ i l.length with h|h
     ·omega
     ·rw[yAT h] at hn;cases hn
    have hc:cs[i]?=some cs[i]:=yAS hlt;refine⟨cs[i],hr _ _ _ hn hc,fun w=>?_⟩
    simp[execOp,hq,Instr.extract,hlt]
  ·exact h.elim
 ·cases hfl
 ·cases hfl
 ·cases hfl
 ·cases hfl
 ·-- nilCheck
  rename_i x;obtain⟨sx,h,hx⟩:=qAK h;unfold qoJ at h;split at h
  ·refine⟨_,h,fun p r β a hP sm dst ty pos after guard=>?_⟩
   have hv:=hx p r β a g (hP _ (by simp[Op.operands])) sm
   refine⟨_,hv,fun w=>?_⟩
   generalize hq:a.eval x=v at hv;cases hv;simp only[execOp,hq];rfl
  ·refine⟨_,h,fun p r β a hP sm dst ty pos after guard=>?_⟩
   have hv:=hx p r β a g (hP _ (by simp[Op.operands])) sm
   refine⟨_,hv,fun w=>?_⟩
   generalize hq:a.eval x=v at hv;cases hv;simp only[execOp,hq];rfl
  ·refine⟨_,h,fun p r β a hP sm dst ty pos after guard=>?_⟩
   have hv:=hx p r β a g (hP _ (by simp[Op.operands])) sm
   refine⟨_,hv,fun w=>?_⟩
   generalize hq:a.eval x=v at hv;cases hv;simp only[execOp,hq];rfl
  ·exact h.elim
 ·cases hfl
 ·cases hfl
 ·exact h.elim
theorem qDE {B:Base}{Φ σ ctx g ung op}{K:SV->Prop}(h:evK B Φ σ ctx g ung op K)
  (hp:ung=true->∃ p r β a w,(∀ x∈op.operands.toList,Has p x)/\Sm p r β σ (Act.tmps a) ctx g/\MemSat r β Φ w):
  ∃ sv,K sv/\(∀ c,op≠.defer c)/\∀ p r β a w0,(∀ x∈op.operands.toList,Has p x)->Sm p r β σ (Act.tmps a) ctx g->B.G r->MemSat r β Φ w0->∀ dst ty pos after guard,OpTo B.P a w0 ⟨dst,op,ty,pos,after,guard⟩ (Quiet r β Φ w0 sv):=by
 cases hfl:floats op with
 | true=>
  obtain⟨sv,hk,hr⟩:=qM7 hfl h;refine⟨sv,hk,(fun c hc=>by subst hc;cases hfl),fun p r β a w0 hP sm hG m dst ty pos after guard=>?_⟩
  obtain⟨v,hv,hw⟩:=hr p r β a hP sm dst ty pos after guard;exact .val v w0 (hw w0) (Quiet.same m hv)
 | false=>
 unfold evK at h;split at h
 ·cases hfl
 ·cases hfl
 ·cases hfl
 ·cases hfl
 ·cases hfl
 ·cases hfl
 ·cases hfl
 ·cases hfl
 ·cases hfl
 ·-- load
  obtain⟨sx,h,hx⟩:=qAK h;obtain⟨sv,hk,hr⟩:=qG5 h;refine⟨sv,hk,(fun c hc=>by cases hc),fun p r β a w0 hP sm hG m dst ty pos after guard=>?_⟩
  obtain⟨v,hv,hw⟩:=hr sm.valid r β _ (hx p r β a g (hP _ (by simp[Op.operands])) sm) w0 m
  exact .val v w0 (by simp only[execOp,Sem.run_bind,hw w0 (Near.refl m),Result.andThen_ok,Sem.run_pure]) (Quiet.same m hv)
 ·cases hfl
 ·-- indexAddr
  obtain⟨sx,h,hx⟩:=qAK h;obtain⟨si,h,hi⟩:=qAK h;obtain⟨sv,hk,hr⟩:=qFM h;refine⟨sv,hk,(fun c hc=>by cases hc),fun p r β a w0 hP sm hG m dst ty pos after guard=>?_⟩
  obtain⟨v,hv,hw⟩:=hr sm.valid r β _ _ (hx p r β a g (hP _ (by simp[Op.operands])) sm) (hi p r β a g (hP _ (by simp[Op.operands])) sm) w0 m
  exact .val v w0 (by simp only[execOp,Sem.run_bind,hw w0,Result.andThen_ok,Sem.run_pure]) (Quiet.same m hv)
 ·cases hfl
 ·-- build
  rename_i t parts;obtain⟨sv,hk,hr⟩:=qP6 h;refine⟨sv,hk,(fun c hc=>by cases hc),fun p r β a w0 hP sm hG m dst ty pos after guard=>?_⟩
  obtain⟨v,hv,hw⟩:=hr p r β a g (fun y hy=>hP _ (by simp only[Op.operands];exact yA3.2 ⟨y,hy,rfl⟩)) sm
  refine .val v w0 ?_ (Quiet.same m hv);have:(Array.map (fun(x:Nat×Operand)=>(x.1,a.eval x.2)) ⟨parts⟩)=(parts.map fun(i,x)=>(i,a.eval x)).toArray:=by simp
  simp only[execOp,Sem.run_bind];rw[this,hw w0];rfl
 ·-- makeFunc
  rename_i f caps;obtain⟨l,hk,h1,h2⟩:=qC6 h;refine⟨_,hk,(fun c hc=>by cases hc),fun p r β a w0 hP sm hG m dst ty pos after guard=>?_⟩
  have hl:=qQ1 h1 (h2 p r β a g (fun x hx=>hP _ (by simpa[Op.operands] using hx)) sm)
  refine .val (.func (.func f) #[] (caps.map a.eval).toArray) w0 ?_ (Quiet.same m (.fn hl.1 hl.2));simp[execOp,Instr.makeFunc]
 ·-- builtin
  rename_i b xs ts;have hops:∀ x,x∈xs->x∈(Op.operands (.call ⟨.builtin b,⟨xs⟩,⟨ts⟩⟩)).toList:=fun x hx=>by simp[Op.operands,Call.operands,hx]
  obtain⟨l,h,h1,h2⟩:=qC6 h;obtain⟨sv,hk,hr⟩:=qHH h (fun hu=>by
   obtain⟨p,r, β,a,w,hP,sm,m⟩:=hp hu;exact⟨r, β,xs.map a.eval,w,qQ1 h1 (h2 p r β a g (fun x hx=>hP _ (hops x hx)) sm),m⟩)
  refine⟨sv,hk,(fun c hc=>by cases hc),fun p r β a w0 hP sm hG m dst ty pos after guard=>?_⟩
  obtain⟨v,hv,hw⟩:=hr r β _ (qQ1 h1 (h2 p r β a g (fun x hx=>hP _ (hops x hx)) sm))
  refine .val v w0 ?_ (Quiet.same m hv);have:=hw w0 ty (Array.map (fun|.const _=>true|_=>false) (⟨xs⟩:Array Operand)) m
  simp only[execOp,resolve,Sem.run_bind,Sem.run_pure,Result.andThen_ok,invoke];rw[show Array.map a.eval ⟨xs⟩=(xs.map a.eval).toArray by simp]
  exact this
 ·-- a call
  rename_i f xs ts;have hops:∀ x,x∈xs->x∈(Op.operands (.call ⟨.value f,⟨xs⟩,ts⟩)).toList:=fun x hx=>by simp[Op.operands,Call.operands,hx]
  have hopf:f∈(Op.operands (.call ⟨.value f,⟨xs⟩,ts⟩)).toList:=by simp[Op.operands,Call.operands]
  obtain⟨fv,h,hf⟩:=qAK h;cases fv<;>simp only at h;rename_i fid caps;obtain⟨l,h,h1,h2⟩:=qC6 h;have h:=qKZ h;obtain⟨sv,hk,hr⟩:=qO5 h;refine⟨sv,hk,(fun c hc=>by cases hc),fun p r β a w0 hP sm hG m dst ty pos after guard=>?_⟩
  have hfv:=hf p r β a g (hP _ hopf) sm;generalize hq:a.eval f=v at hfv;cases hfv with
  | fn hl hc=>
   rename_i cs;refine hr sm.valid r β w0 (xs.map a.eval++cs) a _ hG m ((qQ1 h1 (h2 p r β a g (fun x hx=>hP _ (hops x hx)) sm)).append ⟨hl,hc⟩) fun w=>?_
   simp only[execOp,resolve,hq,Deferred.ofValue,Sem.run_bind,Sem.run_pure,Result.andThen_ok,invoke];congr 2;simp
 ·cases hfl
 ·-- lookup
  obtain⟨sx,h,hx⟩:=qAK h;obtain⟨si,h,hi⟩:=qAK h;obtain⟨sv,hk,hr⟩:=qOI h;refine⟨sv,hk,(fun c hc=>by cases hc),fun p r β a w0 hP sm hG m dst ty pos after guard=>?_⟩
  obtain⟨v,hv,hw⟩:=hr r β _ _ (hx p r β a g (hP _ (by simp[Op.operands])) sm) (hi p r β a g (hP _ (by simp[Op.operands])) sm) w0 m
  exact .val v w0 (by simp only[execOp,Sem.run_bind,hw,Result.andThen_ok,Sem.run_pure]) (Quiet.same m hv)
 ·-- a slice,written out
  rename_i t ln parts;obtain⟨sv,hk,hr⟩:=qOF h;refine⟨sv,hk,(fun c hc=>by cases hc),fun p r β a w0 hP sm hG m dst ty pos after guard=>?_⟩
  obtain⟨v,w',h1,h2⟩:=hr p r β a g Φ w0 (fun y hy=>hP _ (by simp only[Op.operands];exact yA3.2 ⟨y,hy,rfl⟩)) sm m
  refine .val v w' ?_ h2;have:(Array.map (fun(x:Nat×Operand)=>(x.1,a.eval x.2)) ⟨parts⟩)=(parts.map fun(i,x)=>(i,a.eval x)).toArray:=by simp
  simp only[execOp,Sem.run_bind];rw[this,h1];rfl
 ·exact h.elim
end Go.Vc

namespace Go.Vc
set_option autoImplicit false
def Keep (β:qBD) (Φ:Phi) (β':qBD) (Φ':Phi):Prop:=∀ id ch,Phi.get Φ id=some ch->ch.kind≠0->β' id=β id/\∃ ch',Phi.get Φ' id=some ch'/\ch'.kind=ch.kind
theorem Keep.refl (β Φ):Keep β Φ β Φ:=fun _ ch h _=>⟨rfl,ch,h,rfl⟩
theorem Keep.trans {β Φ β' Φ' β2 Φ2}(h:Keep β Φ β' Φ') (k:Keep β' Φ' β2 Φ2):Keep β Φ β2 Φ2:=fun id ch h0 hk=>by
 obtain⟨q1,ch1,q2,q3⟩:=h id ch h0 hk;obtain⟨p1,ch2,p2,p3⟩:=k id ch1 q2 (by rw[q3];exact hk)
 exact⟨p1.trans q1,ch2,p2,p3.trans q3⟩
def Marks (r:Mem) (β:qBD) (Φ:Phi) (w:World) (lo:Nat->Prop) (ds:List Deferred):Prop:=
 ∃ Ds:List Nat,ds=Ds.map (fun D=>{ target:=.collected D,args := #[] })/\Ds.Nodup/\
  ∀ D∈Ds,lo D/\w.heap[D]?=some (.deferred (some []))/\r D=none/\∀ id ch,Phi.get Φ id=some ch->¬ch.hb (β id) D
theorem Marks.step {r β Φ w lo ds r' β' Φ' w'}(h:Marks r β Φ w lo ds) (hid:Hid r β Φ w r' β' Φ' w'):Marks r' β' Φ' w' lo ds:=by
 obtain⟨Ds,h1,h2,h3⟩:=h;refine⟨Ds,h1,h2,fun D hD=>?_⟩
 obtain⟨g1,g2,g3,g4⟩:=h3 D hD;obtain⟨k1,k2,k3⟩:=hid.block D (qD5 g2) g3 g4;exact⟨g1,k1.trans g2,k2,k3⟩
structure Entry where
 r:Mem
 S:Nat->Prop
 lo:Nat->Prop
 β:qBD
 Φ:Phi
 w:World
structure Kept (e:Entry) (r:Mem) (β:qBD) (Φ:Phi) (w:World):Prop where
 le:e.r.le r
 os:w.os=e.w.os
 tape:w.tape=e.w.tape
 output:w.output=e.w.output
 size:e.w.heap.size<=w.heap.size
 block:∀ b,e.S b->w.heap[b]?=e.w.heap[b]?/\r b=none/\(∀ id ch,Phi.get Φ id=some ch->¬ch.hb (β id) b)
 keep:∀ id ch,Phi.get e.Φ id=some ch->ch.kind≠0->β id=e.β id/\∃ ch',Phi.get Φ id=some ch'/\ch'.kind=ch.kind
 slt:∀ b,e.S b->b<e.w.heap.size
theorem Kept.step {e r β Φ w r' β' Φ' w'}(h:Kept e r β Φ w) (hle:r.le r') (hid:Hid r β Φ w r' β' Φ' w'):Kept e r' β' Φ' w':=
 ⟨Mem.le_trans h.le hle,hid.os.trans h.os,hid.tape.trans h.tape,hid.output.trans h.output,yBH h.size hid.size,fun b hb=>by
  obtain⟨h1,h2,h3⟩:=h.block b hb;obtain⟨k1,k2,k3⟩:=hid.block b (yBI (h.slt b hb) h.size) h2 h3;exact⟨k1.trans h1,k2,k3⟩,fun id ch h0 hk=>by
  obtain⟨q1,ch1,q2,q3⟩:=h.keep id ch h0 hk;obtain⟨p1,ch2,p2,p3⟩:=hid.keep id ch1 q2 (by rw[q3];exact hk)
  exact⟨p1.trans q1,ch2,p2,p3.trans q3⟩,h.slt⟩
def hidS (r:Mem) (β:qBD) (Φ:Phi) (w:World) (b:Nat):Prop:=b<w.heap.size/\r b=none/\∀ id ch,Phi.get Φ id=some ch->¬ch.hb (β id) b
def Entry.of (r:Mem) (β:qBD) (Φ:Phi) (w:World):Entry:=⟨r,hidS r β Φ w,fun D=>w.heap.size<=D, β, Φ,w⟩
theorem Kept.refl (r β Φ w):Kept (Entry.of r β Φ w) r β Φ w:=
 ⟨Mem.le_refl r,rfl,rfl,rfl,yBG _,fun b hb=>⟨rfl,hb.2.1,hb.2.2⟩,fun id ch h _=>⟨rfl,ch,h,rfl⟩,fun b hb=>hb.1⟩
theorem Kept.hid {r β Φ w r' β' Φ' w'}(h:Kept (Entry.of r β Φ w) r' β' Φ' w'):Hid r β Φ w r' β' Φ' w':=
 ⟨h.os,h.tape,h.output,h.size,fun b h1 h2 h3=>h.block b ⟨h1,h2,h3⟩,h.keep⟩
structure Sat (B:Base) (e:Entry) (N:Nat) (r:Mem) (β:qBD) (σ:Env) (Φ:Phi) (a:Act) (w:World):Prop where
 agree:Agree r β σ a.tmps
 mem:MemSat r β Φ w
 G:B.G r
 kept:Kept e r β Φ w
 defers:Marks r β Φ w e.lo a.defers
 size:a.tmps.size=N
theorem Sat.step {B:Base}{e N r β σ Φ a w}(s:Sat B e N r β σ Φ a w) {r' β' σ' Φ' w'}(ha:Agree r' β' σ' a.tmps) (m:MemSat r' β' Φ' w') (hle:r.le r') (hid:Hid r β Φ w r' β' Φ' w'):Sat B e N r' β' σ' Φ' a w':=
 ⟨ha,m,B.mono _ _ hle s.G,s.kept.step hle hid,s.defers.step hid,s.size⟩
theorem qHV (a:Act) (d:Nat) (v:Value):(a.put (some d) v).tmps=a.tmps.setIfInBounds d v:=rfl
theorem put_defers (a:Act) (d:Option Nat) (v:Value):(a.put d v).defers=a.defers:=by cases d<;>rfl
theorem qBK (a:Act) (d:Option Nat) (v:Value):(a.put d v).tmps.size=a.tmps.size:=by cases d<;>simp[Act.put]
theorem qAX (k:Nat) (g sv) (σ:Env) (j:Nat):Env.get ((k,g,sv)::σ) j=bif Nat.beq k j then some (g,sv) else Env.get σ j:=rfl
def qDX (D:List Nat) (σ:Env):Prop:=∀ k s w sv,Env.get σ k=some (some (s,w),sv)->s∈D
theorem Agree.put {r β σ t D}(h:Agree r β σ t) (hgd:qDX D σ) {d:Nat}{gd:Option (Nat×Bool)}{sv:SV}{v:Value}(hd:d∉D) (hlt:d<t.size)
  (hv:match gd with|none=>Rel r β sv v|some (s,w)=>s≠d/\(t[s]?=some (.bool w)->Rel r β sv v)/\(t[s]?≠some (.bool w)->v=undef)):
  Agree r β ((d,gd,sv)::σ) (t.setIfInBounds d v):=by
 have self:(t.setIfInBounds d v)[d]?=some v:=by rw[yAH hlt]
 have other:∀ k,k≠d->(t.setIfInBounds d v)[k]?=t[k]?:=fun k hk=>yAG (Ne.symm hk)
 intro k g sv' hg;rw[qAX] at hg;cases hb:Nat.beq d k with
 | true=>
  obtain rfl:=qAM hb;rw[hb] at hg;simp only[cond_true,Option.some.injEq,Prod.mk.injEq] at hg;obtain⟨rfl,rfl⟩:=hg;cases gd with
  | none=>exact⟨v,self,hv⟩
  | some p=>
   obtain⟨s,w⟩:=p;obtain⟨h1,h2,h3⟩:=hv;refine⟨fun hs=>⟨v,self,h2 (by rw[<-other s h1];exact hs)⟩,fun hs=>?_⟩
   rw[self,h3 (by rw[<-other s h1];exact hs)]
 | false=>
  rw[hb] at hg;simp only[cond_false] at hg;have hk:k≠d:=by
   rintro rfl;have:Nat.beq k k=true:=yBD k;rw[this] at hb;cases hb
  have:=h k g sv' hg;cases g with
  | none=>obtain⟨u,h1,h2⟩:=this;exact⟨u,by rw[other k hk];exact h1,h2⟩
  | some p=>
   obtain⟨s,w⟩:=p;have hs:s≠d:=by rintro rfl;exact hd (hgd _ _ _ _ hg)
   simp only[qH8,other k hk,other s hs] at this ⊢;exact this
theorem Agree.none {r β σ t}(h:Agree r β σ t) {t':Array Value}(ht:t'=t):Agree r β σ t':=by subst ht;exact h
theorem qDX.put {D σ d gd sv}(h:qDX D σ) (hg:∀ s w,gd=some (s,w)->s∈D) (d':List Nat):qDX (D++d') ((d,gd,sv)::σ):=by
 intro k s w sv' hk;rw[qAX] at hk;cases hb:Nat.beq d k with
 | true=>
  rw[hb] at hk;simp only[cond_true,Option.some.injEq,Prod.mk.injEq] at hk;exact yA2.2 (.inl (hg _ _ hk.1))
 | false=>rw[hb] at hk;exact yA2.2 (.inl (h _ _ _ _ hk))
theorem qDX.more {D σ}(h:qDX D σ) (d:List Nat):qDX (D++d) σ:=fun k s w sv hk=>yA2.2 (.inl (h k s w sv hk))
def qL1 (l:List Oper):List Nat:=l.filterMap (·.dst)
theorem qHY {n:Nat}{σ:Env}(h:qE7 n σ=true) (k:Nat) (g sv) (hg:Env.get σ k=some (g,sv)):sv.okIds (fun i => !Nat.beq i n)=true:=by
 induction σ with
 | nil=>simp[Env.get] at hg
 | cons x r ih=>
  obtain⟨k',g',sv'⟩:=x;simp only[qE7,yAJ] at h;rw[qAX] at hg;cases hb:Nat.beq k' k with
  | true=>rw[hb] at hg;simp at hg;rw[<-hg.2];exact h.1
  | false=>rw[hb] at hg;exact ih h.2 hg
theorem qAQ (k:Nat) (c:Chunk) (Φ:Phi) (j:Nat):Phi.get ((k,c)::Φ) j=bif Nat.beq k j then some c else Phi.get Φ j:=rfl
theorem qC4 {n:Nat}{Φ:Phi}(h:qGH n Φ=true) (k:Nat) (ch) (hg:Phi.get Φ k=some ch):k≠n/\qR6 n ch=true:=by
 induction Φ with
 | nil=>simp[Phi.get] at hg
 | cons x r ih=>
  obtain⟨k',c'⟩:=x;simp only[qGH,yAJ] at h;rw[qAQ] at hg;cases hb:Nat.beq k' k with
  | true=>
   rw[hb] at hg;simp at hg;subst hg;obtain rfl:=qAM hb;refine⟨?_,h.2.1⟩;rintro rfl;rw[yBD] at h;simp at h
  | false=>rw[hb] at hg;exact ih h.2.2 hg
def setB (β:qBD) (n:Nat) (v:Value):qBD:=fun i=>bif Nat.beq i n then v else β i
theorem qBI (β n v):setB β n v n=v:=by simp[setB]
theorem qKY {β:qBD}{n:Nat}{v:Value}{i:Nat}(h:i≠n):setB β n v i=β i:=by simp[setB,qAS h]
theorem qR0 {β:qBD}{n:Nat}{v:Value}(i:Nat) (h:(!Nat.beq i n)=true):setB β n v i=β i:=by
 refine qKY ?_;rintro rfl;rw[yBD] at h;cases h
theorem qJB {w:World}{o:Obj}{b:Nat}(h:b<w.heap.size):({ w with heap:=w.heap.push o }:World).heap[b]?=w.heap[b]?:=by
 show(w.heap.push o)[b]?=_;rw[yAF,if_neg (by omega)]
theorem qBT {w:World}{o:Obj}:({ w with heap:=w.heap.push o }:World).heap[w.heap.size]?=some o:=by
 show(w.heap.push o)[w.heap.size]?=_;simp
theorem lt_of_heap {w:World}{b:Nat}{o:Obj}(h:w.heap[b]?=some o):b<w.heap.size:=qD5 h
structure Grows (w w':World):Prop where
 os:w'.os=w.os
 tape:w'.tape=w.tape
 output:w'.output=w.output
 size:w.heap.size<=w'.heap.size
 old:∀ b,b<w.heap.size->w'.heap[b]?=w.heap[b]?
theorem Grows.alloc (w:World) (o:Obj):Grows w { w with heap:=w.heap.push o }:=
 ⟨rfl,rfl,rfl,by show w.heap.size<=(w.heap.push o).size;simp,fun b hb=>qJB hb⟩
theorem Agree.of {r r' β β' σ σ' t}(h:Agree r β σ t) (hσ:∀ k g sv',Env.get σ' k=some (g,sv')->∃ sv,Env.get σ k=some (g,sv)/\∀ v,Rel r β sv v->Rel r' β' sv' v):Agree r' β' σ' t:=by
 intro k g sv' hg;obtain⟨sv,q1,q2⟩:=hσ k g sv' hg;have:=h k g sv q1;cases g with
 | none=>obtain⟨u,p1,p2⟩:=this;exact⟨u,p1,q2 u p2⟩
 | some p=>obtain⟨s',w''⟩:=p;exact⟨fun hs=>by obtain⟨u,p1,p2⟩:=this.1 hs;exact⟨u,p1,q2 u p2⟩,this.2⟩
theorem qd1 {r β Φ w}{n:Nat}{ch:Chunk}{v:Value}{w':World}(m:MemSat r β Φ w) (hΦ:qGH n Φ=true)
  (hg:Grows w w') (hblk:∀ b,ch.hb v b->w.heap.size<=b) (hch:ch.Sat r (setB β n v) w' v):MemSat r (setB β n v) ((n,ch)::Φ) w'/\Hid r β Φ w r (setB β n v) ((n,ch)::Φ) w':=by
 have old:∀ id c,Phi.get Φ id=some c->setB β n v id=β id:=fun id c h=>qKY (qC4 hΦ id c h).1
 have alive:∀ id c b,Phi.get Φ id=some c->c.hb (β id) b->b<w.heap.size:=fun id c b h1 h2=>(m.chs _ _ h1).alive h2
 have get:∀ id c,Phi.get ((n,ch)::Φ) id=some c->(id=n/\c=ch)\/(id≠n/\Phi.get Φ id=some c):=by
  intro id c h;rw[qAQ] at h;cases hb:Nat.beq n id with
  | true=>obtain rfl:=qAM hb;rw[hb] at h;simp at h;exact .inl ⟨rfl,h.symm⟩
  | false=>rw[hb] at h;exact .inr ⟨(fun he=>by(subst he;rw[yBD] at hb;cases hb)),h⟩
 refine⟨⟨fun b o' h=>?_,fun id c h=>?_,fun id c b h1 h2=>?_,fun id id' c c' b h1 h1' h2 h2'=>?_⟩,
  hg.os,hg.tape,hg.output,hg.size,fun b hb h1 h2=>⟨hg.old _ hb,h1,fun id c h hc=>?_⟩,fun id c h _=>⟨old id c h,c,?_,rfl⟩⟩
 ·have:=m.vis _ _ h;rw[hg.old _ (lt_of_heap this)];exact this
 ·rcases get id c h with⟨rfl,rfl⟩|⟨_,h⟩
  ·rw[qBI];exact hch
  ·rw[old id c h];refine(m.chs _ _ h).keep (Mem.le_refl r) (fun b hb=>hg.old _ (alive _ _ _ h hb)) (fun _ cells he i sv v hi hr=>?_)
   have:=(qC4 hΦ id c h).2;subst he;exact hr.bind (p:=fun i => !Nat.beq i n) (fun i hi=>qR0 i hi) (SV.okIdsL_get this i sv hi)
 ·rcases get id c h1 with⟨rfl,rfl⟩|⟨_,h⟩
  ·rw[qBI] at h2;have:=hblk _ h2;cases hr:r b with
   | none=>rfl
   | some o'=>exact absurd (lt_of_heap (m.vis _ _ hr)) (by omega)
  ·rw[old id c h] at h2;exact m.sep _ _ _ h h2
 ·rcases get id c h1 with⟨rfl,rfl⟩|⟨_,h⟩<;>rcases get id' c' h1' with⟨rfl,rfl⟩|⟨_,h'⟩
  ·rfl
  ·rw[qBI] at h2;rw[old id' c' h'] at h2';have:=hblk _ h2;exact absurd (alive _ _ _ h' h2') (by omega)
  ·rw[qBI] at h2';rw[old id c h] at h2;have:=hblk _ h2';exact absurd (alive _ _ _ h h2) (by omega)
  ·rw[old id c h] at h2;rw[old id' c' h'] at h2';exact m.nod _ _ _ _ _ h h' h2 h2'
 ·rcases get id c h with⟨rfl,rfl⟩|⟨_,h⟩
  ·rw[qBI] at hc;have:=hblk _ hc;omega
  ·rw[old id c h] at hc;exact h2 id c h hc
 ·rw[qAQ];cases hb:Nat.beq n id with
  | true=>obtain rfl:=qAM hb;exact absurd rfl (qC4 hΦ n _ h).1
  | false=>exact h
theorem qfP {B:Base}{e N r β σ Φ a w}{n:Nat}{ch:Chunk}{v:Value}{w':World}(s:Sat B e N r β σ Φ a w) (hσ:qE7 n σ=true) (hΦ:qGH n Φ=true)
  (hg:Grows w w') (hblk:∀ b,ch.hb v b->w.heap.size<=b) (hch:ch.Sat r (setB β n v) w' v):Sat B e N r (setB β n v) σ ((n,ch)::Φ) a w':=by
 obtain⟨h1,h2⟩:=qd1 s.mem hΦ hg hblk hch;refine s.step (s.agree.of fun k g sv hk=>⟨sv,hk,fun v hr=>hr.bind (p:=fun i => !Nat.beq i n) (fun i hi=>qR0 i hi) (qHY hσ k g sv hk)⟩) h1 (Mem.le_refl r) h2
theorem qPR {B:Base}{e N r β σ Φ a w n To cs}{K:EK}(h:qm9 n To cs σ Φ K) (s:Sat B e N r β σ Φ a w) (T:TypeId) (hT:∀ t,To=some t->T=t) (vs:Array Value) (hl:qA5 r β cs vs.toList):
  ∃ sv σ' Φ' n',K sv σ' Φ' n'/\σ'=σ/\∃ β',Rel r β' sv (.pointer (some ⟨w.heap.size,0,none⟩))/\Sat B e N r β' σ' Φ' a { w with heap:=w.heap.push (.cells vs T) }:=by
 unfold qm9 at h;cases hc:(qE7 n σ&&(qGH n Φ&&SV.okIdsL (fun i => !Nat.beq i n) cs)) with
 | false=>rw[hc] at h;exact h.elim
 | true=>
  rw[hc] at h;simp only[yAJ] at hc;obtain⟨h1,h2,h3⟩:=hc;refine⟨_,_,_,_,h,rfl,setB β n (.pointer (some ⟨w.heap.size,0,none⟩)),.loc (qBI _ _ _),?_⟩;refine qfP s h1 h2 (Grows.alloc w _) (fun b hb=>by simp[Chunk.hb,Chunk.blk] at hb;omega) ?_
  refine .box rfl qBT (by simpa using hl.1) (fun i sv v q1 q2=>?_) hT
  exact(hl.2 i sv v q1 (by simpa using q2)).bind (p:=fun i => !Nat.beq i n) (fun i hi=>qR0 i hi) (SV.okIdsL_get h3 i sv q1)
theorem qBW {B:Base}{e N r β σ Φ a w n ch sv}{K:EK}(h:qG6 n ch sv σ Φ K) (s:Sat B e N r β σ Φ a w) {v v0:Value}{w':World}(hg:Grows w w')
  (hblk:∀ b,ch.hb v b->w.heap.size<=b) (hch:ch.Sat r (setB β n v) w' v) (hr:Rel r (setB β n v) sv v0):
  ∃ sv σ' Φ' n',K sv σ' Φ' n'/\σ'=σ/\∃ β',Rel r β' sv v0/\Sat B e N r β' σ' Φ' a w':=by
 unfold qG6 at h;cases hc:(qE7 n σ&&qGH n Φ) with
 | false=>rw[hc] at h;exact h.elim
 | true=>
  rw[hc] at h;simp only[yAJ] at hc;exact⟨_,_,_,_,h,rfl,_,hr,qfP s hc.1 hc.2 hg hblk hch⟩
end Go.Vc

namespace Go.Vc
set_option autoImplicit false
theorem qA7 {Φ:Phi}{i:Nat}{c:Chunk}(h:Phi.get Φ i=some c):qOL Φ i=true:=by simp[qOL,h]
theorem qJW (T:Option Nat) (cs cs':List SV) (x:Value):(Chunk.bx T cs).hb x=(Chunk.bx T cs').hb x:=by
 cases x<;>first|rfl|(rename_i a;cases a<;>rfl)
theorem qAP {id:Nat}{ch:Chunk}{Φ:Phi}:∀ {K:Phi->Prop},qDF id ch Φ K->qOL Φ id=true->
  ∃ Φ',K Φ'/\∀ j,Phi.get Φ' j=bif Nat.beq id j then some ch else Phi.get Φ j:=by
 induction Φ with
 | nil=>intro K h hi;simp[qOL,Phi.get] at hi
 | cons x r ih=>
  obtain⟨k,c⟩:=x;intro K h hi;unfold qDF at h;cases hb:Nat.beq k id with
  | true=>
   rw[hb] at h;obtain rfl:=qAM hb;refine⟨_,h,fun j=>?_⟩
   rw[qAQ,qAQ];cases Nat.beq k j<;>rfl
  | false=>
   rw[hb] at h;have hi':qOL r id=true:=by
    unfold qOL at hi ⊢;rw[qAQ,hb] at hi;exact hi
   obtain⟨Φ',hk,hg⟩:=ih h hi';refine⟨_,hk,fun j=>?_⟩
   rw[qAQ,qAQ,hg];cases hq:Nat.beq k j with
   | false=>rfl
   | true=>
    obtain rfl:=qAM hq;have:Nat.beq id k=false:=qAS (fun he=>by subst he;rw[yBD] at hb;cases hb)
    rw[this];rfl
structure Turns (w w':World) (g:Nat):Prop where
 os:w'.os=w.os
 tape:w'.tape=w.tape
 output:w'.output=w.output
 size:w'.heap.size=w.heap.size
 old:∀ b,b≠g->w'.heap[b]?=w.heap[b]?
theorem ql4 {r β Φ w}{id g:Nat}{ch ch':Chunk}{w':World}{Φ':Phi}(m:MemSat r β Φ w) (hid:Phi.get Φ id=some ch)
    (hΦ:∀ j,Phi.get Φ' j=bif Nat.beq id j then some ch' else Phi.get Φ j) (hw:Turns w w' g) (hg:ch.hb (β id) g)
    (hb:ch'.hb (β id)=ch.hb (β id)) (hch:ch'.Sat r β w' (β id)) (hkd:ch'.kind=ch.kind):MemSat r β Φ' w'/\Hid r β Φ w r β Φ' w':=by
  have get:∀ j c,Phi.get Φ' j=some c->(j=id/\c=ch')\/(j≠id/\Phi.get Φ j=some c):=by
    intro j c h;rw[hΦ] at h;cases hq:Nat.beq id j with
    | true=>obtain rfl:=qAM hq;rw[hq] at h;simp at h;exact .inl ⟨rfl,h.symm⟩
    | false=>rw[hq] at h;exact .inr ⟨(fun he=>by(subst he;rw[yBD] at hq;cases hq)),h⟩
  have blk:∀ j c b,Phi.get Φ' j=some c->c.hb (β j) b->∃ c0,Phi.get Φ j=some c0/\c0.hb (β j) b:=by
    intro j c b h1 h2;rcases get j c h1 with⟨rfl,rfl⟩|⟨_,h⟩
    · exact⟨ch,hid,by rw[<-hb];exact h2⟩
    · exact⟨c,h,h2⟩
  refine⟨⟨fun b o h=>?_,fun j c h=>?_,fun j c b h1 h2=>?_,fun j j' c c' b h1 h1' h2 h2'=>?_⟩,
    hw.os,hw.tape,hw.output,by rw[hw.size];exact yBG _,fun b hb' p1 p2=>⟨hw.old b (fun he=>p2 _ _ hid (he▸hg)),p1,fun j c h hc=>?_⟩,fun j c h hk=>⟨rfl,?_⟩⟩
  · have hne:b≠g:=by
      rintro rfl;rw[m.sep _ _ _ hid hg] at h;cases h
    rw[hw.old b hne];exact m.vis _ _ h
  · rcases get j c h with⟨rfl,rfl⟩|⟨hne,h⟩
    · exact hch
    · refine(m.chs _ _ h).keep (Mem.le_refl r) (fun b hb'=>hw.old b ?_) (fun _ _ _ _ _ _ _ h=>h)
      rintro rfl;exact hne (m.nod _ _ _ _ _ h hid hb' hg)
  · obtain⟨c0,q1,q2⟩:=blk _ _ _ h1 h2
    exact m.sep _ _ _ q1 q2
  · obtain⟨c0,q1,q2⟩:=blk _ _ _ h1 h2
    obtain⟨c1,q1',q2'⟩:=blk _ _ _ h1' h2';exact m.nod _ _ _ _ _ q1 q1' q2 q2'
  · obtain⟨c0,q1,q2⟩:=blk _ _ _ h hc
    exact p2 _ _ q1 q2
  · rw[hΦ]
    cases hq:Nat.beq id j with
    | true=>
      obtain rfl:=qAM hq;rw[hid] at h;cases h;exact⟨ch',rfl,hkd⟩
    | false=>exact⟨c,h,rfl⟩
theorem qDJ {B:Base}{e N r β σ Φ a w}{id g:Nat}{ch ch':Chunk}{w':World}{Φ':Phi}(s:Sat B e N r β σ Φ a w) (hid:Phi.get Φ id=some ch)
  (hΦ:∀ j,Phi.get Φ' j=bif Nat.beq id j then some ch' else Phi.get Φ j) (hw:Turns w w' g) (hg:ch.hb (β id) g)
  (hb:ch'.hb (β id)=ch.hb (β id)) (hch:ch'.Sat r β w' (β id)) (hkd:ch'.kind=ch.kind):Sat B e N r β σ Φ' a w':=by
 obtain⟨h1,h2⟩:=ql4 s.mem hid hΦ hw hg hb hch hkd;exact s.step s.agree h1 (Mem.le_refl r) h2
theorem qB3 {P:Program}(g o:Nat) (t:TypeId) (fr:Nat×Nat):∀ (vs:List Value) (i:Nat) (cur:Array Value) (w:World),w.heap[g]?=some (.cells cur t fr)->
  o+i+vs.length<=cur.size->(∀ v∈vs,v.oneCell'=true)->(∀ j,j<cur.size->¬(fr.1<=j/\j<fr.2))->
  ∃ cur' w',(storeCells ⟨g,o,none⟩ vs i).run P w=.ok () w'/\w'.heap[g]?=some (.cells cur' t fr)/\Turns w w' g/\cur'.size=cur.size/\
   ∀ j:Nat,cur'[j]?=if o+i<=j/\j<o+i+vs.length then vs[j-(o+i)]? else cur[j]?:=by
 intro vs
 induction vs with
 | nil=>
  intro i cur w hg _ _ _;exact⟨cur,w,rfl,hg,⟨rfl,rfl,rfl,rfl,fun _ _=>rfl⟩,rfl,fun j=>by rw[if_neg (by simp)]⟩
 | cons v rest ih=>
  intro i cur w hg hl h1 hfr;have hi:o+i<cur.size:=by simp at hl;omega
  have hcell:w.cell? ⟨g,o+i,none⟩=some cur[o+i]:=by simp[World.cell?,hg,hi]
  have hfro:w.frozen? ⟨g,o+i,none⟩=false:=by
   simp only[World.frozen?,hg];have:=hfr _ hi;simpa using fun h=>Nat.le_of_not_lt fun h2=>this ⟨h,h2⟩
  have hst:(store ((⟨g,o,none⟩:Addr).add i) v).run P w=.ok () (w.setCell ⟨g,o+i,none⟩ v):=by
   rw[qJM,run_store P w _ v _ (h1 v (by simp)),hcell]
   simp[hfro]
  have hg':(w.setCell ⟨g,o+i,none⟩ v).heap[g]?=some (.cells (cur.setIfInBounds (o+i) v) t fr):=by
   simp only[World.setCell,yAE,hg,if_true];rfl
  have hT:Turns w (w.setCell ⟨g,o+i,none⟩ v) g:=by
   refine⟨rfl,rfl,rfl,by simp[World.setCell],fun b hb=>?_⟩
   simp only[World.setCell,yAE];rw[if_neg (fun h=>hb h.symm)]
  obtain⟨cur',w',hr,q1,q2,q3,q4⟩:=ih (i+1) (cur.setIfInBounds (o+i) v) (w.setCell ⟨g,o+i,none⟩ v) hg' (by simp at hl ⊢;omega) (fun x hx=>h1 x (by simp[hx])) (by simpa using hfr)
  refine⟨cur',w',?_,q1,⟨q2.os.trans hT.os,q2.tape.trans hT.tape,q2.output.trans hT.output,q2.size.trans hT.size,fun b hb=>(q2.old b hb).trans (hT.old b hb)⟩,by simpa using q3,fun j=>?_⟩
  ·simp only[storeCells,Sem.run_bind,hst,Result.andThen_ok,hr]
  ·rw[q4];simp only[yAX];by_cases hj:o+(i+1)<=j/\j<o+(i+1)+rest.length
   ·rw[if_pos hj,if_pos (by omega),show j-(o+i)=(j-(o+(i+1)))+1 by omega,List.getElem?_cons_succ]
   ·rw[if_neg hj];by_cases hj2:j=o+i
    ·subst hj2;rw[if_pos (by omega),yAH hi]
     simp
    ·rw[if_neg (by omega),yAG (by omega)]
theorem qA5.ones {r β l vs}(h:qA5 r β l vs) (ho:qG0 l=true):∀ v∈vs,v.oneCell'=true:=by
 intro v hv;obtain⟨i,hi,rfl⟩:=yAV hv;have hil:i<l.length:=by have:=h.1;omega
 have h1:l[i]?=some l[i]:=yAS hil;exact(h.2 i _ _ h1 (yAS hi)).oneCell (qOO ho i _ h1)
theorem qB2 {α:Type _}{l:List α}{i:Nat}{x:α}(h:l[i]?=some x):i<l.length:=by
 rcases yBJ i l.length with h'|h'
 ·exact h'
 ·rw[yAT h'] at h;cases h
theorem qHU {P:Program}{r:Mem}{w:World}{x:Value}{sz:Nat}{rows:List (List SV)}{b off0 n cap i' off:Nat}{row':List SV}{vs:List Value}(hs:qAZ r w x false sz rows)
  (hx:x=.slice (some ⟨b,off0,none⟩) n cap) (hi:i'<rows.length) (hfit:off+vs.length<=sz) (hone:∀ v∈vs,v.oneCell'=true) (hl:row'.length=sz)
  (ho:∀ (j:Nat) sv,row'[j]?=some sv->sv.one=true)
  (hin:∀ (j:Nat) sv v,off<=j->j<off+vs.length->row'[j]?=some sv->vs[j-off]?=some v->Rel r β0 sv v)
  (hout:∀ (j:Nat) sv v row,¬(off<=j/\j<off+vs.length)->rows[i']?=some row->row'[j]?=some sv->(∀ sv0,row[j]?=some sv0->Rel r β0 sv0 v)->Rel r β0 sv v):
  cap≠0/\∃ w',(storeCells ⟨b,off0+i'*sz+off,none⟩ vs 0).run P w=.ok () w'/\Turns w w' b/\qAZ r w' x false sz (rows.set i' row'):=by
 rcases hs with⟨a0,_,he⟩|⟨b',off',cap',c,T,fr,he,hcap0,hw,hfr,hm,hcap,hszc,hrow,hone',hrr⟩
 ·subst he;simp at hi
 ·rw [hx] at he;simp only[Value.slice.injEq,Option.some.injEq,Addr.mk.injEq] at he;obtain⟨⟨rfl,rfl,_⟩,rfl,rfl⟩:=he;have hbnd:off0+i'*sz+sz<=c.size:=by
   have h1:(i'+1)*sz<=cap*sz:=yBM sz (by omega)
   rw[yBA] at h1;omega
  obtain⟨cur',w',hr,q1,q2,q3,q4⟩:=qB3 (P:=P) b (off0+i'*sz+off) T fr vs 0 c w hw (by omega) hone (hfr.cell)
  refine⟨hcap0,w',hr,q2,.inr ⟨b,off0,cap,cur',T,fr,by rw[hx];simp,hcap0,q1,hfr.turn q3,hm,by simpa using hcap,by rw[q3];exact hszc,?_,?_,?_⟩⟩
  ·intro k row2 hk';rw[yAU] at hk';by_cases hki:i'=k
   ·subst hki;rw[if_pos rfl,if_pos hi] at hk';cases hk';exact hl
   ·rw[if_neg hki] at hk';exact hrow k row2 hk'
  ·intro k row2 j sv hk' hj;rw[yAU] at hk';by_cases hki:i'=k
   ·subst hki;rw[if_pos rfl,if_pos hi] at hk';cases hk';exact ho j sv hj
   ·rw[if_neg hki] at hk';exact hone' k row2 j sv hk' hj
  ·intro k row2 j sv v hk' hj hv;rw[q4] at hv;simp only[yBC] at hv;rw[yAU] at hk';by_cases hki:i'=k
   ·subst hki;rw[if_pos rfl,if_pos hi] at hk';cases hk';by_cases hjj:off<=j/\j<off+vs.length
    ·rw[if_pos (by omega)] at hv
     have e:off0+i'*sz+j-(off0+i'*sz+off)=j-off:=by omega
     rw[e] at hv;exact hin j sv v hjj.1 hjj.2 hj hv
    ·rw[if_neg (by omega)] at hv
     exact hout j sv v _ hjj (yAS hi) hj (fun sv0 h0=>hrr i' _ j sv0 v (yAS hi) h0 hv)
   ·rw[if_neg hki] at hk';have hjs:j<sz:=by
     have:=hrow k row2 hk';have:=qB2 hj;omega
    have hne:¬(off0+i'*sz+off<=off0+k*sz+j/\off0+k*sz+j<off0+i'*sz+off+vs.length):=by
     rintro⟨g1,g2⟩;rcases yBK hki with hlt|hgt
     ·have:(i'+1)*sz<=k*sz:=yBM sz hlt;rw[yBA] at this;omega
     ·have:(k+1)*sz<=i'*sz:=yBM sz hgt;rw[yBA] at this;omega
    rw[if_neg hne] at hv;exact hrr k row2 j sv v hk' hj hv
theorem qaP {id i:Nat}{x:Option SV}{K:Unit->Prop}(h:zD4 id i x K):K ()/\x=some (.nk id i):=by
 unfold zD4 at h;split at h
 ·rename_i id' i';cases hb:Nat.beq id' id with
  | false=>rw[hb] at h;exact h.elim
  | true=>
   rw[hb] at h;rw[qAM hb,h.1.h];exact⟨h.2,rfl⟩
 ·exact h.elim
theorem qWH {off n p i:Nat}{pend:Option Nat}{K:Unit->Prop}(h:qj7 off n p i pend K):K ()/\∀ j,pend=some j->j=i/\off<=p/\p<off+n:=by
 unfold qj7 at h;split at h
 ·exact⟨h,fun j hj=>by cases hj⟩
 ·rename_i j;cases hb:(Nat.ble off p&&Nat.blt p (Nat.add off n)) with
  | false=>rw[hb] at h;exact h.elim
  | true=>
   rw[hb] at h;simp only[yAJ] at hb;exact⟨h.2,fun j' hj=>by cases hj;exact⟨h.1.h,yBF hb.1,yBF hb.2⟩⟩
theorem qSN {x:Option SV}{K:SV->Prop}(h:qe3 x K):∃ ks,K (.rd (.int .i64) ks)/\x=some (.rd (.int .i64) ks):=by
 unfold qe3 at h;split at h
 ·exact⟨_,h,rfl⟩
 ·exact h.elim
theorem qNG {τ:Ty}{p:Nat}:∀ {l:List τ.T}{gs:List Value}(i:Nat) (a:τ.T) (g:Value),gs.length=l.length->(qCS τ p l gs).set i (qH1 τ p a g)=qCS τ p (l.set i a) (gs.set i g)
 | [],[],i,a,g,_=>by simp[qCS]
 | [],_::_,_,_,_,h=>by cases h
 | _::_,[],_,_,_,h=>by cases h
 | b::l,k::gs,0,a,g,_=>by simp[qCS]
 | b::l,k::gs,i+1,a,g,h=>by simp[qCS,qNG i a g (show gs.length=l.length by simpa using h)]
theorem qN9 {P:Program}{r:Mem}{β:qBD}{w:World}{id b off0 n cap i' off:Nat}{τ:Ty}{p:Nat}{l:List τ.T}{pend:Option Nat}{xs row:List SV}{ks:List Int}{a':τ.T}{vs:List Value}
  (hs:(Chunk.nst τ p l pend).Sat r β w (β id)) (hβ:hd (β id)=.slice (some ⟨b,off0,none⟩) n cap) (hil:i'<l.length) (hx0:xs≠[])
  (hvx:qA5 r β xs vs) (hone:∀ v∈vs,v.oneCell'=true)
  (h2:off+xs.length<=(qIP (τ.enc (l.getD i' τ.dflt)) p (.nk id i')).length)
  (h1:row.length=(qIP (τ.enc (l.getD i' τ.dflt)) p (.nk id i')).length)
  (h3:∀ j:Nat,row[j]?=if off<=j/\j<off+xs.length then xs[j-off]? else(qIP (τ.enc (l.getD i' τ.dflt)) p (.nk id i'))[j]?)
  (hnk:row[p]?=some (.nk id i')) (hpend:∀ j,pend=some j->j=i'/\off<=p/\p<off+xs.length)
  (hkid:(τ.enc (l.getD i' τ.dflt))[p]?=some (.rd (.int .i64) ks)) (hpure:SV.okIdsL (fun _=>false) (qIP row p (.rd (.int .i64) ks))=true)
  (hent:qHI (qIP row p (.rd (.int .i64) ks)) (τ.enc a')):
  ∃ w',(storeCells ⟨b,off0+i'*τ.size+off,none⟩ vs 0).run P w=.ok () w'/\Turns w w' b/\(Chunk.nst τ p l pend).hb (β id) b/\(Chunk.nst τ p (l.set i' a') none).Sat r β w' (β id):=by
 rw[qGS] at hpure hent h1 h2;simp only[qGS] at h3;have hg0:l.getD i' τ.dflt=l[i']:=by simp[List.getD,yAS hil]
 have hli:l[i']?=some l[i']:=yAS hil;rw[hg0] at h1 h2 h3 hkid;cases hs with
 | nst hx hl gl hm hg ho hk hd0 hd1=>
  rename_i m hs gs;rw[hx,qEQ] at hβ;have hgi:gs[i']?=some gs[i']:=yAS (by omega)
  have hhi:hs[i']?=some hs[i']:=yAS (by omega)
  have hra:=qJJ (p:=p) i' _ _ hli hgi;have hp:p<τ.size:=by have:=qB2 hkid;rwa [enc_len] at this
  simp only[yAZ,enc_len] at h1 h2;have hvl:=hvx.1;obtain⟨g',hg'⟩:∃ g',g'=if off<=p/\p<off+xs.length then vs.getD (p-off) undef else gs[i']:=⟨_,rfl⟩
  have hgv:g'=hs[i']:=by
   rw[hg'];split
   ·rename_i hin;rw[h3,if_pos hin] at hnk;have hv:vs[p-off]?=some (vs[p-off]'(by omega)):=yAS (by omega)
    have:=hvx.2 _ _ _ hnk hv;simp only[List.getD,hv,yBO];cases this with
    | nk q1 q2 _=>
     rw[hx] at q1;obtain⟨_,rfl⟩:=qHR q1;rw[hhi] at q2;exact(Option.some.inj q2).symm
   ·rename_i hin;have:gs[i']?=hs[i']?:=hg i' (fun he=>hin (hpend i' he).2)
    rw[hgi,hhi] at this;exact Option.some.inj this
  have hrowlen:row.length=τ.size:=h1;have hset:∀ j,((τ.enc a').set p (.v g'))[j]?=if p=j then(if p<τ.size then some (.v g') else none) else(τ.enc a')[j]?:=by
   intro j;rw[yAU,enc_len]
  have hgone:g'.oneCell'=true:=by
   rw[hgv];obtain⟨ks',_,q⟩:=hk i' _ _ hli hhi;obtain⟨_,_,he,_⟩:=q.slice;rw[he];rfl
  obtain⟨hc0,w',hr,hT,hm'⟩:=qHU (P:=P) (b:=b) (off0:=off0) (row':=qH1 τ p a' g') (off:=off) hm hβ (by rw[qCT gl];exact hil) (by omega) hone (by simp[qH1,enc_len])
   (fun j sv hj=>by
    unfold qH1 at hj;rw[hset] at hj;split at hj
    ·cases hj;exact hgone
    ·exact enc_one _ _ _ _ hj)
   (fun j sv v q1 q2 hj hv=>by
    unfold qH1 at hj;rw[hset] at hj;split at hj
    ·rename_i hpj;subst hpj;cases hj;rw[hg',if_pos ⟨q1,by omega⟩]
     simp only[List.getD,hv,yBO];exact .v
    ·rename_i hpj;have hjl:j<row.length:=by have:=qB2 hj;rw[enc_len] at this;omega
     have hrj:(row.set p (.rd (.int .i64) ks))[j]?=some row[j]:=by rw[yAU,if_neg hpj];exact yAS hjl
     have hj0:=h3 j;rw[yAS hjl,if_pos ⟨q1,by omega⟩] at hj0
     exact(hent.2 j _ sv hrj hj).1 _ _ _ ((hvx.2 _ _ _ hj0.symm hv).pure (SV.okIdsL_get hpure _ _ hrj) _))
   (fun j sv v row0 hnj hrow0 hj hold=>by
    rw[hra] at hrow0;cases hrow0;unfold qH1 at hj hold;rw[hset] at hj;split at hj
    ·rename_i hpj;subst hpj;cases hj;rw[hg',if_neg (by omega)]
     exact hold _ (by rw[yAU,if_pos rfl,if_pos (by rw[enc_len];exact hp)])
    ·rename_i hpj;have hjl:j<row.length:=by have:=qB2 hj;rw[enc_len] at this;omega
     have hrj:(row.set p (.rd (.int .i64) ks))[j]?=some row[j]:=by rw[yAU,if_neg hpj];exact yAS hjl
     have hj0:=h3 j;rw[yAS hjl,if_neg (by omega),yAU,if_neg hpj] at hj0
     refine(hent.2 j _ sv hrj hj).1 _ _ _ (hold _ ?_);rw[yAU,if_neg hpj];exact hj0.symm)
  rw[qNG _ _ _ gl] at hm';have hbm:qA1 m=some b:=by rw[hβ];simp only[qA1,qAS hc0];rfl
  refine⟨w',hr,hT,by rw[hx];exact⟨_,_,rfl,.inl hbm⟩,?_⟩
  refine .nst hx (by simpa using hl) (by simpa using gl) hm' (fun j _=>?_) (fun g hgm=>?_) (fun j a h q1 q2=>?_) hd0 hd1
  ·rw[yAU];split
   ·rename_i hij;subst hij
    first|rw[if_pos (by omega),hgv,hhi]|rw[hgv,hhi]
   ·rename_i hij;exact hg j (fun he=>hij (hpend j he).1.symm)
  ·rcases List.mem_or_eq_of_mem_set hgm with h|h
   ·exact ho g h
   ·rw[h];exact hgone
  ·have hother:∀ b',qA1 h=some b'->b'≠b:=fun b' hb' he=>hd0 h b' (yA4 q2) hb' (by rw[he];exact hbm)
   have move:∀ {ks:List Int},qAZ r w h false 1 (ks.map (Ty.enc (.int .i64)))->qAZ r w' h false 1 (ks.map (Ty.enc (.int .i64))):=by
    intro ks hh;rcases hh with⟨a,e1,e2⟩|⟨b2,o2,c2,cc,T2,f2,e1,e2,e3,e4⟩
    ·exact .inl ⟨a,e1,e2⟩
    ·exact .inr ⟨b2,o2,c2,cc,T2,f2,e1,e2,by rw[hT.old b2 (hother b2 (by rw[e1];simp only[qA1,qAS e2];rfl))];exact e3,e4⟩
   rw[yAU] at q1;split at q1
   ·rename_i hij;subst hij;cases q1;rw[hhi] at q2;cases q2;obtain⟨ks',p1,p2⟩:=hk i' _ _ hli hhi;unfold qGI at p1;rw[hkid] at p1;simp only[Option.some.injEq,SV.rd.injEq,heq_eq_eq,true_and] at p1;subst p1;refine⟨ks,?_,move p2⟩;have hpl:p<(τ.enc a').length:=by rw[enc_len];exact hp
    have:=(hent.2 p (.rd (.int .i64) ks) _ (by rw[yAU,if_pos rfl,if_pos (by omega)]) (yAS hpl)).2.2.2.1 _ _ rfl
    unfold qGI;rw[yAS hpl,this]
   ·obtain⟨ks',p1,p2⟩:=hk j a h q1 q2;exact⟨ks',p1,move p2⟩
theorem qXO {τ:Ty}{l:List τ.T}{i p:Nat}{g:Value}(a:τ.T) (hi:i<l.length):(qCC τ l i p g).set i (qH1 τ p a g)=qCC τ (l.set i a) i p g:=by
 unfold qCC;rw[yA5,yA1,yA5];congr 2;rw[List.getD_eq_getElem?_getD,yAU,if_pos rfl,if_pos hi];rfl
theorem qRQ {τ:Ty}{p:Nat}{a:τ.T}{g:Value}:(qH1 τ p a g).length=τ.size:=by unfold qH1;rw[yAZ,enc_len]
theorem qKE {τ:Ty}{p j:Nat}{a:τ.T}{g:Value}(h:p≠j):(qH1 τ p a g)[j]?=(τ.enc a)[j]?:=by unfold qH1;rw[yAU,if_neg h]
theorem qNN {τ:Ty}{p:Nat}{a:τ.T}{g:Value}(h:p<τ.size):(qH1 τ p a g)[p]?=some (.v g):=by unfold qH1;rw[yAU,if_pos rfl,if_pos (by rw[enc_len];exact h)]
theorem qLH {B:Base}{e N r β σ Φ a w n t}{p x:SV}{vp vx:Value}{K:EK}(h:qYD B.P t p x σ Φ n K) (s:Sat B e N r β σ Φ a w) (hp:Rel r β p vp) (hx:Rel r β x vx):
  ∃ sv Φ' w',K sv σ Φ' n/\(Instr.storeAt t vp vx).run B.P w=.ok () w'/\sv=.und/\Sat B e N r β σ Φ' a w':=by
 unfold qYD at h;obtain⟨xs,h,ho,_,hxs⟩:=qD2 h;have hvx:=hxs r β vx hx;cases hz:Nat.beq (qAW B.P t) 0 with
 | true=>rw[hz] at h;exact h.elim
 | false=>
 rw[hz] at h;cases hz2:Nat.beq (len xs) (qAW B.P t) with
 | false=>rw[hz2] at h;exact h.elim
 | true=>
 rw[hz2] at h;simp only[cond_true,cond_false] at h;have hlen:=qAM hz2;rw[len_eq] at hlen;obtain⟨i,hi⟩:∃ i,B.P.info? t=some i:=by
  unfold qAW at hz;cases hq:B.P.info? t with
  | none=>rw[hq] at hz;cases hz
  | some i=>exact⟨i,rfl⟩
 have hsz:vx.cells.size=i.size:=by
  have:=hvx.1;rw[qBG hi] at hlen;simp at this;omega
 have hone:=hvx.ones ho;have run:∀ {b o w'},(storeCells ⟨b,o,none⟩ vx.cells.toList 0).run B.P w=.ok () w'->(Instr.storeAt t (.pointer (some ⟨b,o,none⟩)) vx).run B.P w=.ok () w':=by
  intro b o w' hr;simp only[Instr.storeAt,Sem.run_bind,Instr.sureAddr,Sem.run_pure,Result.andThen_ok,storeVar,run_sizeOf hi,hsz,ne_eq,not_true_eq_false,if_false,hr]
 split at h
 ·rename_i id off _;split at h
  ·rename_i cs hg;obtain⟨l,h,h1,h2,h3⟩:=qBZ h;obtain⟨Φ',hk,hΦ⟩:=qAP h (qA7 hg);cases hp with
   | loc hβ=>
    rename_i b;have hs:=s.mem.rows hg;cases hs with
    | box hxb hw hl hc hT=>
     rename_i b' c T;rw[hβ] at hxb;obtain rfl:b=b':=by simpa using hxb
     have hx0:xs≠[]:=by intro h0;subst h0;simp at hlen;rw[<-hlen] at hz;cases hz
     have hfit:=h2 hx0;obtain⟨cur',w',hr,q1,q2,q3,q4⟩:=qB3 (P:=B.P) b off T (0,0) vx.cells.toList 0 c w hw (by have:=hvx.1;omega) hone (by intro j _;omega)
     refine⟨_, Φ',w',hk,run hr,rfl,qDJ s hg hΦ q2 (by rw[hβ];rfl) (qJW _ _ _ _) ?_ rfl⟩
     refine .box hβ q1 (by rw[q3,hl,h1]) (fun j sv v p1 p2=>?_) hT
     rw[h3] at p1;rw[q4] at p2;have hvl:=hvx.1;simp only[yBC] at p2;by_cases hj:off<=j/\j<off+xs.length
     ·rw[if_pos hj] at p1;rw[if_pos (by omega)] at p2
      exact hvx.2 _ _ _ p1 p2
     ·rw[if_neg hj] at p1;rw[if_neg (by omega)] at p2
      exact hc _ _ _ p1 p2
  ·exact h.elim
 ·rename_i id sz0 i' off _;split at h
  ·rename_i τ l hg;cases hc0:(Nat.beq sz0 τ.size&&SV.okIdsL (fun _=>false) xs) with
   | false=>rw[hc0] at h;exact h.elim
   | true =>
    rw[hc0] at h;simp only[yAJ] at hc0;obtain⟨hc1,hc2⟩:=hc0;have hsz0:=qAM hc1;obtain⟨hob,h⟩:=h;have hil:=hob.h;obtain⟨row,h,h1,h2,h3⟩:=qBZ h;obtain⟨a',h,hent⟩:=qBP h;obtain⟨Φ',hk,hΦ⟩:=qAP h (qA7 hg);cases hp with
    | oel hβ=>
     rename_i b off0 n0 cap;rw[hsz0];have hs:=s.mem.rows hg;cases hs with
     | own hs=>
      rcases hs with⟨a0,_,he⟩|⟨b',off',cap',c,T,fr,he,hcap0,hw,hfr,hm,hcap,hszc,hrow,hone',hrr⟩
      ·simp at he;subst he;simp at hil
      ·rw [he,qB9] at hβ;simp only[Value.slice.injEq,Option.some.injEq,Addr.mk.injEq] at hβ;obtain⟨⟨rfl,rfl,_⟩,_,_⟩:=hβ;have hx0:xs≠[]:=by intro h0;subst h0;simp at hlen;rw[<-hlen] at hz;cases hz
       have hfit:=h2 hx0;have hg0:l.getD i' τ.dflt=l[i']:=by simp[List.getD,yAS hil]
       have hrl:(τ.enc (l.getD i' τ.dflt)).length=τ.size:=hrow i' _ (by rw[hg0];simp[yAS hil])
       rw[hrl] at hfit;have hbnd:off'+i'*τ.size+τ.size<=c.size:=by
        have h1:(i'+1)*τ.size<=cap'*τ.size:=yBM τ.size (by simp at hcap;omega)
        rw[yBA] at h1;omega
       obtain⟨cur',w',hr,q1,q2,q3,q4⟩:=qB3 (P:=B.P) b' (off'+i'*τ.size+off) T fr vx.cells.toList 0 c w hw (by have:=hvx.1;omega) hone (hfr.cell)
       refine⟨_, Φ',w',hk,run hr,rfl,qDJ s hg hΦ q2 (qG2 he hcap0) (qST _ _ _) ?_ rfl⟩;refine .own (.inr ⟨b',off',cap',cur',T,fr,by rw[he];simp,hcap0,q1,hfr.turn q3,by simpa using hm,by simpa using hcap,by rw[q3];exact hszc,?_,?_,?_⟩)
       ·intro k row' hk';simp only[List.getElem?_map,yAU] at hk';by_cases hki:i'=k
        ·subst hki;rw[if_pos rfl,if_pos hil] at hk';simp at hk';rw[<-hk',enc_len]
        ·rw[if_neg hki] at hk';exact hrow k row' (by simpa using hk')
       ·intro k row' j sv hk' hj;simp only[List.getElem?_map,yAU] at hk';by_cases hki:i'=k
        ·subst hki;rw[if_pos rfl,if_pos hil] at hk';simp at hk';rw[<-hk'] at hj;exact enc_one τ a' j sv hj
        ·rw[if_neg hki] at hk';exact hone' k row' j sv (by simpa using hk') hj
       ·intro k row' j sv v hk' hj hv;have hvl:=hvx.1;rw[q4] at hv;simp only[yBC] at hv;simp only[List.getElem?_map,yAU] at hk';by_cases hki:i'=k
        ·subst hki;rw[if_pos rfl,if_pos hil] at hk';simp at hk';rw[<-hk'] at hj;have hjl:j<row.length:=by
          have:=hent.1;rcases yBJ j row.length with h'|h'
          ·exact h'
          ·rw[yAT (by omega)] at hj;cases hj
         refine(hent.2 j row[j] sv (yAS hjl) hj).1 _ _ _ ?_;have hj0:=h3 j;rw[yAS hjl] at hj0;by_cases hjj:off<=j/\j<off+xs.length
         ·rw[if_pos hjj] at hj0;rw[if_pos (by omega)] at hv
          have e:off'+i'*τ.size+j-(off'+i'*τ.size+off)=j-off:=by omega
          rw[e] at hv;exact(hvx.2 _ _ _ hj0.symm hv).pure (SV.okIdsL_get hc2 _ _ hj0.symm) _
         ·rw[if_neg hjj] at hj0;rw[if_neg (by omega)] at hv
          exact hrr i' _ j _ v (by rw[hg0];simp[yAS hil]) hj0.symm hv
        ·rw[if_neg hki] at hk';have hjs:j<τ.size:=by
          have:=hrow k row' (by simpa using hk')
          rcases yBJ j row'.length with h|h
          ·omega
          ·rw[yAT h] at hj;cases hj
         have hne:¬(off'+i'*τ.size+off<=off'+k*τ.size+j/\off'+k*τ.size+j<off'+i'*τ.size+off+vx.cells.toList.length):=by
          rintro⟨g1,g2⟩;rcases yBK hki with hlt|hgt
          ·have:(i'+1)*τ.size<=k*τ.size:=yBM τ.size hlt;rw[yBA] at this;omega
          ·have:(k+1)*τ.size<=i'*τ.size:=yBM τ.size hgt;rw[yBA] at this;omega
         rw[if_neg hne] at hv;exact hrr k row' j sv v (by simpa using hk') hj hv
  ·rename_i τ l hg;cases hc0:(Nat.beq sz0 τ.size&&SV.okIdsL (fun _=>false) xs) with
   | false=>rw[hc0] at h;exact h.elim
   | true =>
    rw[hc0] at h;simp only[yAJ] at hc0;obtain⟨hc1,hc2⟩:=hc0;have hsz0:=qAM hc1;obtain⟨hob,h⟩:=h;have hil:=hob.h;obtain⟨row,h,h1,h2,h3⟩:=qBZ h;obtain⟨a',h,hent⟩:=qBP h;obtain⟨Φ',hk,hΦ⟩:=qAP h (qA7 hg);cases hp with
    | oel hβ=>
     rename_i b off0 n0 cap;rw[hsz0];have hs:=s.mem.rows hg;cases hs with
     | ow hs=>
      rcases hs with⟨a0,_,he⟩|⟨b',off',cap',c,T,fr,he,hcap0,hw,hfr,hm,hcap,hszc,hrow,hone',hrr⟩
      ·simp at he;subst he;simp at hil
      ·rw [he,qB9] at hβ;simp only[Value.slice.injEq,Option.some.injEq,Addr.mk.injEq] at hβ;obtain⟨⟨rfl,rfl,_⟩,_,_⟩:=hβ;have hx0:xs≠[]:=by intro h0;subst h0;simp at hlen;rw[<-hlen] at hz;cases hz
       have hfit:=h2 hx0;have hg0:l.getD i' τ.dflt=l[i']:=by simp[List.getD,yAS hil]
       have hrl:(τ.enc (l.getD i' τ.dflt)).length=τ.size:=hrow i' _ (by rw[hg0];simp[yAS hil])
       rw[hrl] at hfit;have hbnd:off'+i'*τ.size+τ.size<=c.size:=by
        have h1:(i'+1)*τ.size<=cap'*τ.size:=yBM τ.size (by simp at hcap;omega)
        rw[yBA] at h1;omega
       obtain⟨cur',w',hr,q1,q2,q3,q4⟩:=qB3 (P:=B.P) b' (off'+i'*τ.size+off) T fr vx.cells.toList 0 c w hw (by have:=hvx.1;omega) hone (hfr.cell)
       refine⟨_, Φ',w',hk,run hr,rfl,qDJ s hg hΦ q2 (qZJ he hcap0) (qiP _ _ _) ?_ rfl⟩;refine .ow (.inr ⟨b',off',cap',cur',T,fr,by rw[he];simp,hcap0,q1,hfr.turn q3,by simpa using hm,by simpa using hcap,by rw[q3];exact hszc,?_,?_,?_⟩)
       ·intro k row' hk';simp only[List.getElem?_map,yAU] at hk';by_cases hki:i'=k
        ·subst hki;rw[if_pos rfl,if_pos hil] at hk';simp at hk';rw[<-hk',enc_len]
        ·rw[if_neg hki] at hk';exact hrow k row' (by simpa using hk')
       ·intro k row' j sv hk' hj;simp only[List.getElem?_map,yAU] at hk';by_cases hki:i'=k
        ·subst hki;rw[if_pos rfl,if_pos hil] at hk';simp at hk';rw[<-hk'] at hj;exact enc_one τ a' j sv hj
        ·rw[if_neg hki] at hk';exact hone' k row' j sv (by simpa using hk') hj
       ·intro k row' j sv v hk' hj hv;have hvl:=hvx.1;rw[q4] at hv;simp only[yBC] at hv;simp only[List.getElem?_map,yAU] at hk';by_cases hki:i'=k
        ·subst hki;rw[if_pos rfl,if_pos hil] at hk';simp at hk';rw[<-hk'] at hj;have hjl:j<row.length:=by
          have:=hent.1;rcases yBJ j row.length with h'|h'
          ·exact h'
          ·rw[yAT (by omega)] at hj;cases hj
         refine(hent.2 j row[j] sv (yAS hjl) hj).1 _ _ _ ?_;have hj0:=h3 j;rw[yAS hjl] at hj0;by_cases hjj:off<=j/\j<off+xs.length
         ·rw[if_pos hjj] at hj0;rw[if_pos (by omega)] at hv
          have e:off'+i'*τ.size+j-(off'+i'*τ.size+off)=j-off:=by omega
          rw[e] at hv;exact(hvx.2 _ _ _ hj0.symm hv).pure (SV.okIdsL_get hc2 _ _ hj0.symm) _
         ·rw[if_neg hjj] at hj0;rw[if_neg (by omega)] at hv
          exact hrr i' _ j _ v (by rw[hg0];simp[yAS hil]) hj0.symm hv
        ·rw[if_neg hki] at hk';have hjs:j<τ.size:=by
          have:=hrow k row' (by simpa using hk')
          rcases yBJ j row'.length with h|h
          ·omega
          ·rw[yAT h] at hj;cases hj
         have hne:¬(off'+i'*τ.size+off<=off'+k*τ.size+j/\off'+k*τ.size+j<off'+i'*τ.size+off+vx.cells.toList.length):=by
          rintro⟨g1,g2⟩;rcases yBK hki with hlt|hgt
          ·have:(i'+1)*τ.size<=k*τ.size:=yBM τ.size hlt;rw[yBA] at this;omega
          ·have:(k+1)*τ.size<=i'*τ.size:=yBM τ.size hgt;rw[yBA] at this;omega
         rw[if_neg hne] at hv;exact hrr k row' j sv v (by simpa using hk') hj hv
  ·rename_i τ l g hg;cases hc0:(Nat.beq sz0 τ.size&&(SV.okIdsL (fun _=>false) xs && !τ.isB)) with
   | false=>rw[hc0] at h;exact h.elim
   | true=>
    rw[hc0] at h;simp only[yAJ,yAL] at hc0;obtain⟨hc1,hc2,hc3⟩:=hc0;have hsz0:=qAM hc1;obtain⟨hob,h⟩:=h;have hil:=hob.h;obtain⟨row,h,h1,h2,h3⟩:=qBZ h;obtain⟨a',h,hent⟩:=qBP h;obtain⟨Φ',hk,hΦ⟩:=qAP h (qA7 hg);have hx0:xs≠[]:=by intro h0;subst h0;simp at hlen;rw[<-hlen] at hz;cases hz
    have hvl:=hvx.1;cases hp with
    | oel hβ=>
     rename_i b off0 n0 cap;rw[hsz0];have hs:=s.mem.rows hg;cases hs with
     | owg hxg hs=>
      rw[hs.hd] at hβ;have hg0:l.getD i' τ.dflt=l[i']:=by simp[List.getD,yAS hil]
      rw[hc3] at hs;obtain⟨hcap0,w',hr,hT,hs'⟩:=qHU (P:=B.P) (off:=off) (row':=τ.enc a') (vs:=vx.cells.toList) hs hβ (by simpa using hil) (by have:=h2 hx0;rw[enc_len] at this;omega) hone (enc_len _ _) (fun j sv hj=>enc_one τ a' j sv hj)
       (fun j sv v q1 q2 q3 q4=>by
        have hjl:j<row.length:=by have e1:=hent.1;have e2:=qB2 q3;omega
        refine(hent.2 j row[j] sv (yAS hjl) q3).1 _ _ _ ?_;have hj0:=h3 j;rw[yAS hjl,if_pos ⟨q1,by omega⟩] at hj0
        exact(hvx.2 _ _ _ hj0.symm q4).pure (SV.okIdsL_get hc2 _ _ hj0.symm) _)
       (fun j sv v row0 q1 q2 q3 q4=>by
        have hjl:j<row.length:=by have e1:=hent.1;have e2:=qB2 q3;omega
        refine(hent.2 j row[j] sv (yAS hjl) q3).1 _ _ _ ?_;have hj0:=h3 j;rw[yAS hjl,if_neg (by omega)] at hj0
        rw[List.getElem?_map,yAS hil] at q2;simp only[yBP,Option.some.injEq] at q2;rw[hg0,q2] at hj0;exact q4 _ hj0.symm)
      have hb:(Chunk.owg τ l g).hb (β id) b:=by rw[hβ];simp only[Chunk.hb,Chunk.blk,qAS hcap0];rfl
      refine⟨_, Φ',w',hk,run hr,rfl,qDJ s hg hΦ hT hb ?_ (.owg hxg (by rw[hc3,yA1];exact hs')) rfl⟩
      funext b';cases β id<;>first|rfl|(rename_i a _ _;cases a<;>rfl)
  ·rename_i τ l i0 p0 e0 g hg;cases hc0:(Nat.beq sz0 τ.size&&(SV.okIdsL (fun _=>false) xs && !(Nat.ble off p0&&Nat.blt p0 (Nat.add off (len xs))))) with
   | false=>rw[hc0] at h;exact h.elim
   | true=>
    rw[hc0] at h;simp only[yAJ,yAL] at hc0;obtain⟨hc1,hc2,hc3⟩:=hc0;have hsz0:=qAM hc1;obtain⟨hob,h⟩:=h;obtain rfl:=hob.h;obtain⟨row,h,h1,h2,h3⟩:=qBZ h;obtain⟨a',h,hent⟩:=qBP h;obtain⟨Φ',hk,hΦ⟩:=qAP h (qA7 hg);have hx0:xs≠[]:=by intro h0;subst h0;simp at hlen;rw[<-hlen] at hz;cases hz
    have hvl:=hvx.1;rw[len_eq] at hc3;have hdis:¬(off<=p0/\p0<off+xs.length):=fun⟨q1,q2⟩=>by
     rw[yBE q1,show Nat.blt p0 (Nat.add off xs.length)=true from yBE q2] at hc3
     cases hc3
    cases hp with
    | oel hβ=>
     rename_i b off0 n0 cap;rw[hsz0];have hs:=s.mem.rows hg;cases hs with
     | foc hil hpl hg1 hs=>
      rw[hs.hd] at hβ;obtain⟨hcap0,w',hr,hT,hs'⟩:=qHU (P:=B.P) (off:=off) (row':=qH1 τ p0 a' g) (vs:=vx.cells.toList) hs hβ (by rw[qIN];exact hil) (by have:=h2 hx0;rw[enc_len] at this;omega) hone qRQ
       (fun j sv hj=>by
        by_cases hj0:p0=j
        ·subst hj0;rw[qNN hpl] at hj;cases hj;exact hg1
        ·rw[qKE hj0] at hj;exact enc_one τ a' j sv hj)
       (fun j sv v q1 q2 q3 q4=>by
        have hjp:p0≠j:=fun e=>hdis ⟨by omega,by omega⟩
        rw[qKE hjp] at q3;have hjl:j<row.length:=by have e1:=hent.1;have e2:=qB2 q3;omega
        refine(hent.2 j row[j] sv (yAS hjl) q3).1 _ _ _ ?_;have hj0:=h3 j;rw[yAS hjl,if_pos ⟨q1,by omega⟩] at hj0
        exact(hvx.2 _ _ _ hj0.symm q4).pure (SV.okIdsL_get hc2 _ _ hj0.symm) _)
       (fun j sv v row0 q1 q2 q3 q4=>by
        rw[qKT hil] at q2;cases q2;by_cases hjp:p0=j
        ·subst hjp;rw[qNN hpl] at q3 q4;exact q4 _ q3
        ·rw[qKE hjp] at q3 q4;have hjl:j<row.length:=by have e1:=hent.1;have e2:=qB2 q3;omega
         refine(hent.2 j row[j] sv (yAS hjl) q3).1 _ _ _ ?_;have hj0:=h3 j;rw[yAS hjl,if_neg (by omega)] at hj0
         exact q4 _ hj0.symm)
      have hb:(Chunk.foc τ l i' p0 e0 g).hb (β id) b:=by rw[hβ];simp only[Chunk.hb,Chunk.blk,qAS hcap0];rfl
      rw[qXO a' hil] at hs';refine⟨_, Φ',w',hk,run hr,rfl,qDJ s hg hΦ hT hb ?_ (.foc (by simpa using hil) hpl hg1 hs') rfl⟩
      funext b';cases β id<;>first|rfl|(rename_i a _ _;cases a<;>rfl)
  ·rename_i τ p l pend hg;cases hc0:Nat.beq sz0 τ.size with
   | false=>rw[hc0] at h;exact h.elim
   | true=>
    rw[hc0] at h;have hsz0:=qAM hc0;obtain⟨hob,h⟩:=h;have hil:=hob.h;obtain⟨row,h,h1,h2,h3⟩:=qBZ h;obtain⟨h,hnk⟩:=qaP h;obtain⟨h,hpend⟩:=qWH h;obtain⟨ks,h,hkid⟩:=qSN h;cases hpure:SV.okIdsL (fun _=>false) (qIP row p (.rd (.int .i64) ks)) with
    | false=>rw[hpure] at h;exact h.elim
    | true=>
    rw[hpure] at h;obtain⟨a',h,hent⟩:=qBP h;obtain⟨Φ',hk,hΦ⟩:=qAP h (qA7 hg);have hx0:xs≠[]:=by intro h0;subst h0;simp at hlen;rw[<-hlen] at hz;cases hz
    rw[qE5] at hnk hkid;rw[len_eq] at hpend;cases hp with
    | oel hβ=>
     rename_i b off0 n0 cap;rw[hsz0];obtain⟨w',hr,hT,hb,hsat⟩:=qN9 (P:=B.P) (s.mem.rows hg) hβ hil hx0 hvx hone (h2 hx0) h1 h3 hnk hpend hkid hpure hent;exact⟨_, Φ',w',hk,run hr,rfl,qDJ s hg hΦ hT hb rfl hsat rfl⟩
  ·exact h.elim
 ·exact h.elim
end Go.Vc

namespace Go.Vc
set_option autoImplicit false
def qL5 (id:Nat) (sv sv':SV):Prop:=sv'=.und\/(sv'=sv/\sv.okIds (fun i => !Nat.beq i id)=true)
theorem qK8 {id sv}{K:SV->Prop}(h:qXY id sv K):∃ sv',K sv'/\qL5 id sv sv':=by
 unfold qXY at h;cases hb:sv.okIds (fun i => !Nat.beq i id) with
 | true=>rw[hb] at h;exact⟨_,h,.inr ⟨rfl,hb⟩⟩
 | false=>rw[hb] at h;exact⟨_,h,.inl rfl⟩
theorem qUE {id:Nat}{l:List SV}:∀ {K:List SV->Prop},qb9 id l K->∃ l',K l'/\l'.length=l.length/\∀ (i:Nat) (sv':SV),l'[i]?=some sv'->∃ sv,l[i]?=some sv/\qL5 id sv sv':=by
 induction l with
 | nil=>intro K h;exact⟨[],h,rfl,fun i sv' h=>by simp at h⟩
 | cons x r ih=>
  intro K h;obtain⟨y,h,hy⟩:=qK8 h;obtain⟨l',h,h1,h2⟩:=ih h;refine⟨_,h,by simp[h1],fun i sv' hi=>?_⟩
  cases i with
  | zero=>simp at hi;subst hi;exact⟨x,rfl,hy⟩
  | succ i=>obtain⟨sv,q1,q2⟩:=h2 i sv' (by simpa using hi);exact⟨sv,by simpa using q1,q2⟩
theorem qBX {id:Nat}{σ:Env}:∀ {K:Env->Prop},qH3 id σ K->∃ σ',K σ'/\∀ k g sv',Env.get σ' k=some (g,sv')->∃ sv,Env.get σ k=some (g,sv)/\qL5 id sv sv':=by
 induction σ with
 | nil=>intro K h;exact⟨[],h,fun k g sv' h=>by simp[Env.get] at h⟩
 | cons x r ih=>
  obtain⟨k0,g0,sv0⟩:=x;intro K h;obtain⟨y,h,hy⟩:=qK8 h;obtain⟨σ',h,h2⟩:=ih h;refine⟨_,h,fun k g sv' hi=>?_⟩
  rw[qAX] at hi ⊢;cases hb:Nat.beq k0 k with
  | true=>rw[hb] at hi;simp at hi;obtain⟨rfl,rfl⟩:=hi;exact⟨sv0,rfl,hy⟩
  | false=>rw[hb] at hi;exact h2 k g sv' hi
inductive StaleC (id:Nat):Chunk->Chunk->Prop
 | same {c}(h:∀ T cs,c≠.bx T cs):StaleC id c c
 | box {T cs cs'}(hl:cs'.length=cs.length) (h:∀ (i:Nat) (sv':SV),cs'[i]?=some sv'->∃ sv,cs[i]?=some sv/\qL5 id sv sv'):StaleC id (.bx T cs) (.bx T cs')
theorem qBY {id:Nat}{Φ:Phi}:∀ {K:Phi->Prop},qGE id Φ K->∃ Φ',K Φ'/\∀ j,(∀ c',Phi.get Φ' j=some c'->∃ c,Phi.get Φ j=some c/\StaleC id c c')/\(∀ c,Phi.get Φ j=some c->∃ c',Phi.get Φ' j=some c'):=by
 induction Φ with
 | nil=>intro K h;exact⟨[],h,fun j=>⟨fun c' h=>by simp[Phi.get] at h,fun c h=>by simp[Phi.get] at h⟩⟩
 | cons x r ih=>
  obtain⟨k,c⟩:=x;intro K h;have:∃ c',StaleC id c c'/\qGE id r fun l=>K ((k,c')::l):=by
   unfold qGE at h;cases c with
   | bx _ cs=>obtain⟨l',h,h1,h2⟩:=qUE h;exact⟨_,.box h1 h2,h⟩
   | own τ l=>exact⟨_,.same (by intro _ cs h;cases h),h⟩
   | ro=>exact⟨_,.same (by intro _ cs h;cases h),h⟩
   | ow=>exact⟨_,.same (by intro _ cs h;cases h),h⟩
   | iter s pos=>exact⟨_,.same (by intro _ cs h;cases h),h⟩
   | gh i=>exact⟨_,.same (by intro _ cs h;cases h),h⟩
   | nst=>exact⟨_,.same (by intro _ cs h;cases h),h⟩
   | mz=>exact⟨_,.same (by intro _ cs h;cases h),h⟩
   | mi=>exact⟨_,.same (by intro _ cs h;cases h),h⟩
   | foc=>exact⟨_,.same (by intro _ cs h;cases h),h⟩
   | owg=>exact⟨_,.same (by intro _ cs h;cases h),h⟩
   | mp κ τ l=>exact⟨_,.same (by intro _ cs h;cases h),h⟩
  obtain⟨c',hc,h⟩:=this;obtain⟨Φ',h,hg⟩:=ih h;refine⟨_,h,fun j=>?_⟩
  rw[qAQ,qAQ];cases hb:Nat.beq k j with
  | true=>exact⟨fun c1 h=>by simp at h;subst h;exact⟨c,rfl,hc⟩,fun c1 h=>⟨c',rfl⟩⟩
  | false=>exact hg j
theorem qL5.rel {id sv sv'}(h:qL5 id sv sv') {r β v}(hr:Rel r β sv v) (v':Value):Rel r (setB β id v') sv' v:=by
 rcases h with rfl|⟨rfl,ho⟩
 ·exact .und
 ·exact hr.bind (p:=fun i => !Nat.beq i id) (fun i hi=>qR0 i hi) ho
theorem StaleC.blk {id c c'}(h:StaleC id c c') (x:Value):c'.hb x=c.hb x:=by
 cases h with
 | same=>rfl
 | box=>exact qJW _ _ _ _
theorem StaleC.kind {id c c'}(h:StaleC id c c'):c'.kind=c.kind:=by
 cases h<;>rfl
theorem qcD {s:Nat}{r β Φ w}{id:Nat}{ch ch':Chunk}{v':Value}{w':World}{Φ1 Φ':Phi}(m:MemSat r β Φ w) (hid:Phi.get Φ id=some ch)
    (hΦ1:∀ j,(∀ c',Phi.get Φ1 j=some c'->∃ c,Phi.get Φ j=some c/\StaleC s c c')/\(∀ c,Phi.get Φ j=some c->∃ c',Phi.get Φ1 j=some c'))
    (hRS:∀ sv sv' v,qL5 s sv sv'->Rel r β sv v->Rel r (setB β id v') sv' v)
    (hΦ:∀ j,Phi.get Φ' j=bif Nat.beq id j then some ch' else Phi.get Φ1 j)
    (hos:w'.os=w.os) (ht:w'.tape=w.tape) (hout:w'.output=w.output) (hsz:w.heap.size<=w'.heap.size)
    (hold:∀ b,b<w.heap.size->¬ch.hb (β id) b->w'.heap[b]?=w.heap[b]?)
    (hblk:∀ b,ch'.hb v' b->ch.hb (β id) b\/w.heap.size<=b)
    (hch:ch'.Sat r (setB β id v') w' v') (hk0:ch.kind=0):MemSat r (setB β id v') Φ' w'/\Hid r β Φ w r (setB β id v') Φ' w':=by
  have get:∀ j c,Phi.get Φ' j=some c->(j=id/\c=ch')\/(j≠id/\∃ c0,Phi.get Φ j=some c0/\StaleC s c0 c):=by
    intro j c h;rw[hΦ] at h;cases hq:Nat.beq id j with
    | true=>obtain rfl:=qAM hq;rw[hq] at h;simp at h;exact .inl ⟨rfl,h.symm⟩
    | false=>rw[hq] at h;exact .inr ⟨(fun he=>by(subst he;rw[yBD] at hq;cases hq)),(hΦ1 j).1 c h⟩
  have blk:∀ j c b,Phi.get Φ' j=some c->c.hb (setB β id v' j) b->(∃ c0,Phi.get Φ j=some c0/\c0.hb (β j) b)\/(j=id/\w.heap.size<=b):=by
    intro j c b h1 h2;rcases get j c h1 with⟨rfl,rfl⟩|⟨hne,c0,h,hs⟩
    · rw[qBI] at h2
      rcases hblk b h2 with h|h
      · exact .inl ⟨ch,hid,h⟩
      · exact .inr ⟨rfl,h⟩
    · rw[qKY hne,hs.blk] at h2
      exact .inl ⟨c0,h,h2⟩
  have alive:∀ j c b,Phi.get Φ j=some c->c.hb (β j) b->b<w.heap.size:=fun j c b h1 h2=>(m.chs _ _ h1).alive h2
  refine⟨⟨fun b o h=>?_,fun j c h=>?_,fun j c b h1 h2=>?_,fun j j' c c' b h1 h1' h2 h2'=>?_⟩,
    hos,ht,hout,hsz,fun b hb' p1 p2=>⟨hold b hb' (p2 _ _ hid),p1,fun j c h hc=>?_⟩,fun j c h hk=>?_⟩
  · have hv:=m.vis _ _ h
    rw[hold b (lt_of_heap hv) (fun hc=>by rw[m.sep _ _ _ hid hc] at h;cases h)]
    exact hv
  · rcases get j c h with⟨rfl,rfl⟩|⟨hne,c0,h0,hs⟩
    · rw[qBI];exact hch
    · rw [qKY hne]
      have hkeep:∀ b,c0.hb (β j) b->w'.heap[b]?=w.heap[b]?:=fun b hb=>hold b (alive _ _ _ h0 hb) (fun hc=>hne (m.nod _ _ _ _ _ h0 hid hb hc))
      have hsat:=m.chs _ _ h0;cases hs with
      | same hnb=>exact hsat.keep (Mem.le_refl r) hkeep (fun T cells he=>(hnb T cells he).elim)
      | box hl hst=>
        cases hsat with
        | box hx hw hlc hc hT=>
          refine .box hx (by rw[hkeep _ (by rw[hx];rfl)];exact hw) (by rw[hlc,hl]) (fun i sv v p1 p2=>?_) hT
          obtain⟨sv0,q1,q2⟩:=hst i sv p1;exact hRS _ _ _ q2 (hc i sv0 v q1 p2)
  · rcases blk _ _ _ h1 h2 with⟨c0,q1,q2⟩|⟨rfl,q⟩
    · exact m.sep _ _ _ q1 q2
    · cases hr:r b with
      | none=>rfl
      | some o'=>exact absurd (lt_of_heap (m.vis _ _ hr)) (by omega)
  · rcases blk _ _ _ h1 h2 with⟨c0,q1,q2⟩|⟨rfl,q⟩<;>rcases blk _ _ _ h1' h2' with⟨c1,q1',q2'⟩|⟨rfl,q'⟩
    · exact m.nod _ _ _ _ _ q1 q1' q2 q2'
    · exact absurd (alive _ _ _ q1 q2) (by omega)
    · exact absurd (alive _ _ _ q1' q2') (by omega)
    · rfl
  · rcases blk _ _ _ h hc with⟨c0,q1,q2⟩|⟨rfl,q⟩
    · exact p2 _ _ q1 q2
    · omega
  · have hne:j≠id:=by
      rintro rfl;rw[hid] at h;cases h;exact hk hk0
    obtain⟨c1,h1⟩:=(hΦ1 j).2 c h;obtain⟨c2,h2,h3⟩:=(hΦ1 j).1 c1 h1;rw[h] at h2;cases h2;refine⟨qKY hne,c1,?_,h3.kind⟩;rw[hΦ,qAS (fun he=>hne he.symm)]
    exact h1
theorem qUL {sn:Nat}{B:Base}{e N r β σ Φ a w}{id:Nat}{ch ch':Chunk}{v':Value}{w':World}{σ':Env}{Φ1 Φ':Phi}(s:Sat B e N r β σ Φ a w) (hid:Phi.get Φ id=some ch)
  (hσ:∀ k g sv',Env.get σ' k=some (g,sv')->∃ sv,Env.get σ k=some (g,sv)/\qL5 sn sv sv')
  (hΦ1:∀ j,(∀ c',Phi.get Φ1 j=some c'->∃ c,Phi.get Φ j=some c/\StaleC sn c c')/\(∀ c,Phi.get Φ j=some c->∃ c',Phi.get Φ1 j=some c'))
  (hRS:∀ sv sv' v,qL5 sn sv sv'->Rel r β sv v->Rel r (setB β id v') sv' v)
  (hΦ:∀ j,Phi.get Φ' j=bif Nat.beq id j then some ch' else Phi.get Φ1 j)
  (hos:w'.os=w.os) (ht:w'.tape=w.tape) (hout:w'.output=w.output) (hsz:w.heap.size<=w'.heap.size)
  (hold:∀ b,b<w.heap.size->¬ch.hb (β id) b->w'.heap[b]?=w.heap[b]?)
  (hblk:∀ b,ch'.hb v' b->ch.hb (β id) b\/w.heap.size<=b)
  (hch:ch'.Sat r (setB β id v') w' v') (hk0:ch.kind=0):Sat B e N r (setB β id v') σ' Φ' a w':=by
 obtain⟨h1,h2⟩:=qcD s.mem hid hΦ1 hRS hΦ hos ht hout hsz hold hblk hch hk0;refine s.step (s.agree.of fun k g sv' hg=>?_) h1 (Mem.le_refl r) h2
 obtain⟨sv,q1,q2⟩:=hσ k g sv' hg;exact⟨sv,q1,fun v hr=>hRS _ _ _ q2 hr⟩
theorem qIX {B:Base}{e N r β σ Φ a w}{id:Nat}{ch ch':Chunk}{v':Value}{w':World}{σ':Env}{Φ1 Φ':Phi}(s:Sat B e N r β σ Φ a w) (hid:Phi.get Φ id=some ch)
  (hσ:∀ k g sv',Env.get σ' k=some (g,sv')->∃ sv,Env.get σ k=some (g,sv)/\qL5 id sv sv')
  (hΦ1:∀ j,(∀ c',Phi.get Φ1 j=some c'->∃ c,Phi.get Φ j=some c/\StaleC id c c')/\(∀ c,Phi.get Φ j=some c->∃ c',Phi.get Φ1 j=some c'))
  (hΦ:∀ j,Phi.get Φ' j=bif Nat.beq id j then some ch' else Phi.get Φ1 j)
  (hos:w'.os=w.os) (ht:w'.tape=w.tape) (hout:w'.output=w.output) (hsz:w.heap.size<=w'.heap.size)
  (hold:∀ b,b<w.heap.size->¬ch.hb (β id) b->w'.heap[b]?=w.heap[b]?)
  (hblk:∀ b,ch'.hb v' b->ch.hb (β id) b\/w.heap.size<=b)
  (hch:ch'.Sat r (setB β id v') w' v') (hk0:ch.kind=0):Sat B e N r (setB β id v') σ' Φ' a w':=
 qUL s hid hσ hΦ1 (fun _ _ _ h hr=>h.rel hr v') hΦ hos ht hout hsz hold hblk hch hk0
theorem Rel.bindN {r:Mem}{id:Nat}{m:Value}{hs hs':List Value}{β β':qBD}(hb:∀ k,k≠id->β' k=β k) (h1:β id=qOJ m hs) (h2:β' id=qOJ m hs') {sv:SV}{v:Value}(h:Rel r β sv v)
  (ho:sv.okIds (fun i => !Nat.beq i (Nat.add id NKB))=true):Rel r β' sv v:=by
 have hhd:∀ {β:qBD}, β id=qOJ m hs->(∀ k,k≠id->β' k=β k)->∀ k,hd (β' k)=hd (β k):=by
  intro β h1 hb k;by_cases hk:k=id
  ·subst hk;rw[h1,h2,qEQ,qEQ]
  ·rw[hb k hk]
 induction h with
 | int=>exact .int
 | bool=>exact .bool
 | str h=>exact .str h
 | v=>exact .v
 | @loc β k off b h=>
  exact .loc (by rw[hb k (fun he=>by subst he;rw[h1] at h;cases h)];exact h)
 | @own β k h=>rw[<-hhd h1 hb k] at h ⊢;exact .own h
 | @nk β k i m' v' hs0 h hi ho'=>
  refine .nk (by rw[hb k (fun he=>by subst he;simp only[SV.okIds,yBD,yAM,Bool.and_false] at ho;cases ho)];exact h) hi ho'
 | nils=>exact .nils
 | litsE=>exact .litsE
 | lits hb' hn hcap hrow ho' hc hr' ih=>exact .lits hb' hn hcap hrow ho' hc hr'
 | rd _ ih=>exact .rd (ih hb h1 rfl)
 | agg hl _ ih=>exact .agg hl fun i sv v q1 q2=>ih i sv v q1 q2 hb h1 (SV.okIdsL_get (by simpa[SV.okIds] using ho) i sv q1)
 | tup hl _ ih=>exact .tup hl fun i sv v q1 q2=>ih i sv v q1 q2 hb h1 (SV.okIdsL_get (by simpa[SV.okIds] using ho) i sv q1)
 | fn hl _ ih=>exact .fn hl fun i sv v q1 q2=>ih i sv v q1 q2 hb h1 (SV.okIdsL_get (by simpa[SV.okIds] using ho) i sv q1)
 | el _ hi ih=>exact .el (ih hb h1 rfl) hi
 | @oel β k sz i off b off0 n cap h=>exact .oel (by rw[hhd h1 hb k];exact h)
 | @mref β k b h=>
  exact .mref (by rw[hb k (fun he=>by subst he;rw[h1] at h;cases h)];exact h)
 | @otl β k sz i n cap a h hk hn=>exact .otl (by rw[hhd h1 hb k];exact h) hk hn
 | flt=>exact .flt
 | cpx=>exact .cpx
 | und=>exact .und
structure NewRows (r:Mem) (sz m:Nat) (rows:List (List SV)) (news:List Value):Prop where
 len:rows.length=m
 size:news.length=m*sz
 row:∀ (i:Nat) (row:List SV),rows[i]?=some row->row.length=sz
 rel:∀ (i:Nat) (row:List SV) (j:Nat) (sv:SV) (v:Value),rows[i]?=some row->row[j]?=some sv->news[i*sz+j]?=some v->Rel r β0 sv v
 one:∀ (i:Nat) (row:List SV) (j:Nat) (sv:SV),rows[i]?=some row->row[j]?=some sv->sv.one=true
 ones:∀ v∈news,v.oneCell'=true
theorem qFQ (τ:Ty) (l:List τ.T) (x:Value):(Chunk.own τ l).blk x=qA1 x:=by
 cases x<;>first|rfl|(rename_i a _ _;cases a<;>rfl)
theorem qAZ.app {r:Mem}{sz n m:Nat}{rows new:List (List SV)}{news:List Value}{c c':Array Value}{off:Nat}
  (hn:rows.length=n) (nr:NewRows r sz m new news)
  (hrow:∀ (i:Nat) (row:List SV),rows[i]?=some row->row.length=sz)
  (hrel:∀ (i:Nat) (row:List SV) (j:Nat) (sv:SV) (v:Value),rows[i]?=some row->row[j]?=some sv->c[off+i*sz+j]?=some v->Rel r β0 sv v)
  {off':Nat}(hold:∀ j,j<n*sz->c'[off'+j]?=c[off+j]?) (hnew:∀ j,j<m*sz->c'[off'+n*sz+j]?=news[j]?):
  (∀ (i:Nat) (row:List SV),(rows++new)[i]?=some row->row.length=sz)/\
  (∀ (i:Nat) (row:List SV) (j:Nat) (sv:SV) (v:Value),(rows++new)[i]?=some row->row[j]?=some sv->c'[off'+i*sz+j]?=some v->Rel r β0 sv v):=by
 have lt:∀ {l:List SV}{j:Nat}{sv},l[j]?=some sv->j<l.length:=by
  intro l j sv h;rcases yBJ j l.length with h'|h'
  ·exact h'
  ·rw[yAT h'] at h;cases h
 have ltr:∀ {l:List (List SV)}{j:Nat}{sv},l[j]?=some sv->j<l.length:=by
  intro l j sv h;rcases yBJ j l.length with h'|h'
  ·exact h'
  ·rw[yAT h'] at h;cases h
 refine⟨fun i row hi=>?_,fun i row j sv v hi hj hv=>?_⟩
 ·rw[yAR] at hi;split at hi
  ·exact hrow _ _ hi
  ·exact nr.row _ _ hi
 ·rw[yAR] at hi;split at hi
  ·rename_i hlt;have hjs:j<sz:=by have:=hrow _ _ hi;have:=lt hj;omega
   have hb:i*sz+j<n*sz:=by
    have:(i+1)*sz<=n*sz:=yBM sz (by omega)
    rw[yBA] at this;omega
   rw[yA8,hold _ hb, <-yA8] at hv;exact hrel i row j sv v hi hj hv
  ·rename_i hge;have hjs:j<sz:=by have:=nr.row _ _ hi;have:=lt hj;omega
   have him:=ltr hi;rw[nr.len] at him;have hb:(i-n)*sz+j<m*sz:=by
    have:(i-n+1)*sz<=m*sz:=yBM sz (by omega)
    rw[yBA] at this;omega
   have e:off'+i*sz+j=off'+n*sz+((i-n)*sz+j):=by
    have:i*sz=n*sz+(i-n)*sz:=by rw[<-yBA];congr 1;omega
    omega
   rw[e,hnew _ hb] at hv;rw[hn] at hi;exact nr.rel _ _ _ _ _ hi hj hv
theorem one_app {r:Mem}{sz m:Nat}{rows new:List (List SV)}{news:List Value}
  (h:∀ (i:Nat) (row:List SV) (j:Nat) (sv:SV),rows[i]?=some row->row[j]?=some sv->sv.one=true) (nr:NewRows r sz m new news):
  ∀ (i:Nat) (row:List SV) (j:Nat) (sv:SV),(rows++new)[i]?=some row->row[j]?=some sv->sv.one=true:=by
 intro i row j sv hi hj;rw[yAR] at hi;split at hi
 ·exact h _ _ _ _ hi hj
 ·exact nr.one _ _ _ _ hi hj
set_option maxHeartbeats 1000000 in
theorem qFU {P:Program}{r:Mem}{w:World}{t tx e ty:TypeId}{dx:TypeDesc}{i:TypeInfo}{z:Value}(ht:P.underlying t=some (.slice e)) (hx:P.underlying tx=some dx)
    (hni:dx=.string\/∃ e',dx=.slice e') (hi:P.info? e=some i) (hz:i.zero=some z) (hzs:z.cells.size=i.size) (hsz:i.size≠0)
    {v xv:Value}{rows new:List (List SV)}{news:List Value}{m:Nat}{bt:Bool}(h5:bt=true->e=5) (hv:qAZ r w v bt i.size rows) (nr:NewRows r i.size m new news)
    (hlen:∀ w',(Builtin.lenOf xv).run P w'=.ok m w') (hnews:∀ w',w'.heap=w.heap->(Builtin.firstCells i.size m xv).run P w'=.ok news.toArray w')
    (hb:(rows.length+m)*i.bytes<=70368744177664) (hb2:rows.length+m<=70368744177664):
    ∃ v' w',(Builtin.append_ #[t,tx] ty #[v,xv]).run P w=.ok v' w'/\qAZ r w' v' bt i.size (rows++new)/\w'.os=w.os/\w'.tape=w.tape/\w'.output=w.output/\w.heap.size<=w'.heap.size/\
      (∀ b,b<w.heap.size->qA1 v≠some b->w'.heap[b]?=w.heap[b]?)/\(∀ b,qA1 v'=some b->qA1 v=some b\/w.heap.size<=b):=by
  have hrow0:∀ (i':Nat) (row:List SV),([]:List (List SV))[i']?=some row->row.length=i.size:=by intro i' row h;simp at h
  have grow:∀ (a0:Option Addr) (cap:Nat) (olds:List Value),v=.slice a0 rows.length cap->¬(rows.length+m<=cap)->olds.length=rows.length*i.size->
      (∀ w',w'.heap=w.heap->(Builtin.firstCells i.size rows.length v).run P w'=.ok olds.toArray w')->
      (∀ (i':Nat) (row:List SV),rows[i']?=some row->row.length=i.size)->
      (∀ (i':Nat) (row:List SV) (j:Nat) (sv:SV),rows[i']?=some row->row[j]?=some sv->sv.one=true)->
      (∀ (i':Nat) (row:List SV) (j:Nat) (sv:SV) (u:Value),rows[i']?=some row->row[j]?=some sv->olds[i'*i.size+j]?=some u->Rel r β0 sv u)->
      ∃ v' w',(Builtin.append_ #[t,tx] ty #[v,xv]).run P w=.ok v' w'/\qAZ r w' v' bt i.size (rows++new)/\w'.os=w.os/\w'.tape=w.tape/\w'.output=w.output/\w.heap.size<=w'.heap.size/\
      (∀ b,b<w.heap.size->qA1 v≠some b->w'.heap[b]?=w.heap[b]?)/\(∀ b,qA1 v'=some b->qA1 v=some b\/w.heap.size<=b):=by
    intro a0 cap olds hve hn holen holds hrow hone hrel;have h63:¬((9223372036854775807:Int)<((rows.length+m:Nat):Int)):=by omega
    have hfit:Builtin.nextslicecap (rows.length+m) cap*i.bytes<=281474976710656:=growslice_fits (by omega) (by omega)
    have h48:¬(281474976710656<Builtin.nextslicecap (rows.length+m) cap*i.bytes):=by omega
    have hge:rows.length+m<=grownCap w (rows.length+m) cap e:=grownCap_ge w _ _ _;refine⟨.slice (some ⟨w.heap.size,0,none⟩) (rows.length+m) (grownCap w (rows.length+m) cap e),
      { w with heap:=w.heap.push (.cells (olds.toArray++(news.toArray++Builtin.zeroCells z.cells (grownCap w (rows.length+m) cap e-(rows.length+m)))) e),drawn:=w.drawn+1 },?_,?_,rfl,rfl,rfl,?_,?_,?_⟩
    · have hf:=hnews w.drew rfl
      have hfo:=holds w.drew rfl;rw[hve] at hfo ⊢;have hl:=hlen w;have h63':¬(9223372036854775807<(rows.length:Int)+(m:Int)):=by omega
      rcases hni with rfl|⟨e',rfl⟩
      all_goals
        simp[Builtin.append_,run_underlying ht,run_underlying hx,sizeOf,typeInfo,zeroValue,hi,hz,hl,hn,h63',h48,Question.forced,hf,hfo,newRow,grownCap];rfl
    · have hg0:grownCap w (rows.length+m) cap e≠0:=by omega
      have hzc:(Builtin.zeroCells z.cells (grownCap w (rows.length+m) cap e-(rows.length+m))).size=(grownCap w (rows.length+m) cap e-(rows.length+m))*i.size:=by rw[size_zeroCells,hzs]
      have hnl:=nr.size;have hap:=qAZ.app (c:=olds.toArray) (c':=olds.toArray++(news.toArray++Builtin.zeroCells z.cells (grownCap w (rows.length+m) cap e-(rows.length+m)))) (off:=0) (off':=0) (n:=rows.length) rfl nr hrow
        (fun i' row j sv u q1 q2 q3=>hrel i' row j sv u q1 q2 (by simpa using q3))
        (fun j hj=>by rw[yBN,yAB (by simp;omega)])
        (fun j hj=>by
          rw[yBN,Array.getElem?_append_right (by simp;omega)]
          simp only[yA6,holen,yBB];rw[yAB (by simp;omega)]
          simp)
      refine .inr ⟨w.heap.size,0,grownCap w (rows.length+m) cap e,_,e,(0,0),?_,hg0,qBT (w:={ w with drawn:=w.drawn+1 }),⟨fun h=>⟨h5 h,rfl⟩,.inl rfl⟩,?_,?_,?_,hap.1,one_app hone nr,hap.2⟩
      · rw[yAW,nr.len]
      · exact grownCap_le_maxLen w _ _ _ (by show rows.length+m<=2 ^ 63-1;omega)
      · rw[yAW,nr.len];exact hge
      · simp only[Array.size_append,yA6,hzc,holen,hnl,yBN]
        rw[<-yBA, <-yBA];exact yBM _ (by omega)
    · show w.heap.size<=(w.heap.push _).size;simp
    · intro b hb' _
      exact qJB (w:={ w with drawn:=w.drawn+1 }) hb'
    · intro b hb'
      have:grownCap w (rows.length+m) cap e≠0:=by omega
      simp only[qA1,qAS this,cond_false,Option.some.injEq] at hb'
      right;omega
  rcases hv with⟨a,hve,hr0⟩|⟨b,off,cap,c,T,fr,hve,hc0,hw,hfr,hm1,hcap,hszc,hrow,hone,hrel⟩
  · subst hr0
    by_cases hm:m=0
    · subst hm
      have hnn:new=[]:=yAY.1 nr.len;have hne:news=[]:=yAY.1 (by simpa using nr.size)
      subst hnn;subst hne;refine⟨v,w,?_,.inl ⟨a,hve,rfl⟩,rfl,rfl,rfl,yBG _,fun _ _ _=>rfl,fun b hb=>?_⟩
      · rw[hve]
        have hl:=hlen w;have hf:=hnews w rfl;rcases hni with rfl|⟨e',rfl⟩
        all_goals
          simp only[List.length_nil] at *;simp[Builtin.append_,run_underlying ht,run_underlying hx,sizeOf,typeInfo,hi,hl,hf];cases a<;>simp[storeCells]
      · rw[hve] at hb;cases a<;>simp[qA1] at hb
    · refine grow a 0 [] (by simpa using hve) (by simp;omega) (by simp) (fun w' _=>?_) hrow0 (fun i' row j sv q1=>by simp at q1) (fun i' row j sv u q1=>by simp at q1)
      rw[hve];cases a<;>simp[Builtin.firstCells,loadCells,loadCellsFrom]
  · have hbl:qA1 v=some b:=by rw[hve];simp only[qA1,qAS hc0];rfl
    by_cases hroom:rows.length+m<=cap
    · have hfit:off+rows.length*i.size+0+news.length<=c.size:=by
        rw[nr.size];have:=yBM i.size hroom;rw[yBA] at this;omega
      obtain⟨cur',w',hst,q1,q2,q3,q4⟩:=qB3 (P:=P) b (off+rows.length*i.size) T fr news 0 c w hw hfit nr.ones (hfr.cell);refine⟨.slice (some ⟨b,off,none⟩) (rows.length+m) cap,w',?_,?_,q2.os,q2.tape,q2.output,by rw[q2.size];exact yBG _,fun b' _ hb'=>q2.old b' (fun he=>hb' (he▸hbl)),fun b' hb'=>?_⟩
      · rw[hve]
        have hl:=hlen w;have hf:=hnews w rfl;rcases hni with rfl|⟨e',rfl⟩
        all_goals
          simp[Builtin.append_,run_underlying ht,run_underlying hx,sizeOf,typeInfo,hi,hl,hf,hroom,qJM,hst]
      · have hap:=qAZ.app (c:=c) (c':=cur') (off:=off) (off':=off) (n:=rows.length) rfl nr hrow hrel
          (fun j hj=>by rw[q4,if_neg (by omega)])
          (fun j hj=>by
            rw[q4,if_pos (by have:=nr.size;omega)]
            congr 1;omega)
        refine .inr ⟨b,off,cap,cur',T,fr,by rw[yAW,nr.len],hc0,q1,hfr.turn q3,hm1,by rw[yAW,nr.len];exact hroom,by rw[q3];exact hszc,hap.1,one_app hone nr,hap.2⟩
      · simp only[qA1,qAS hc0,cond_false,Option.some.injEq] at hb'
        left;rw[hbl, <-hb']
    · -- it grows
      have hbnd:∀ j,j<rows.length*i.size->off+j<c.size:=by
        intro j hj;have:=yBM i.size hcap;omega
      refine grow (some ⟨b,off,none⟩) cap ((List.range (rows.length*i.size)).map fun j=>c.getD (off+j) undef) hve hroom (by simp) (fun w' hw'=>?_) hrow hone (fun i' row j sv u q1 q2 q3=>?_)
      · rw[hve]
        have hw'':w'.heap[b]?=some (.cells c T fr):=by rw[hw'];exact hw
        have:=run_loadCells (P:=P) w' ⟨b,off,none⟩ (rows.length*i.size) (fun j=>c.getD (off+j) undef) (fun j hj=>by
          rw[qJM,cell_of_block hw''];simp[yAA,hbnd j hj])
        simp only[Builtin.firstCells,this]
      · have hlt:i'*i.size+j<rows.length*i.size:=by
          rcases yBJ (i'*i.size+j) (rows.length*i.size) with h|h
          · exact h
          · rw[yAT (by simpa using h)] at q3;cases q3
        rw[List.getElem?_map,List.getElem?_range hlt] at q3;simp only[yBP,Option.some.injEq] at q3;refine hrel i' row j sv u q1 q2 ?_;rw[yA8, <-q3,yAA,yAC (hbnd _ hlt)];rfl
end Go.Vc
