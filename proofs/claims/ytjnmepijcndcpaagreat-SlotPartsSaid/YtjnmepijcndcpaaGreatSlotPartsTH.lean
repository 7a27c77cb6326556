/- A part of the proof: lemmas and walks that the last text of the claim joins; no condition. -/
import Derived.Test.YtjnmepijcndcpaaGreatSlotPartsTG
import Derived.Shelf.Spec.SlicesGrow
import Derived.Laws.AppendOwn
open Bool renaming and_eq_true→yAA,and_true→yAB,eq_false_iff→yAC,eq_iff_iff→yAD,not_eq_false'→yAE,not_eq_true'→yAF,not_false→yAG,or_eq_false_iff→yAH,or_eq_true→yAI,or_false→yAJ,or_true→yAK,true_and→yAL
open Int renaming ofNat_lt→yAM,toNat_natCast→yAN,toNat_of_nonneg→yAO
open List renaming all_eq_false→yAP,all_eq_true→yAQ,append_assoc→yAR,append_nil→yAS,countP_cons→yAT,count_append→yAU,count_eq_zero_of_not_mem→yAV,count_le_length→yAW,count_pos_iff→yAX,drop_append_of_le_length→yAY,drop_eq_getElem_cons→yAZ,drop_eq_nil_of_le→yA0,drop_zero→yA1,filter_append→yA2,filter_congr→yA3,filter_cons→yA4,filter_eq_nil_iff→yA5,getD_eq_getElem?_getD→yA6,getElem?_append_left→yA7,getElem?_append_right→yA8,getElem?_eq_getElem→yA9,getElem?_eq_none→yBA,getElem?_replicate→yBB,getElem?_set→yBC,getElem_mem→yBD,length_append→yBE,length_cons→yBF,length_drop→yBG,length_eq_zero_iff→yBH,length_filter_le→yBI,length_nil→yBJ,length_pos_iff→yBK,length_replicate→yBL,length_set→yBM,length_singleton→yBN,length_take→yBO,map_append→yBP,mem_append→yBQ,mem_cons→yBR,mem_filter→yBS,mem_of_getLast?→yBT,mem_of_mem_drop→yBU,mem_range→yBV,nodup_append→yBW,nodup_cons→yBX,nodup_nil→yBY,range'_append_1→yBZ,range_eq_range'→yB0,replicate_zero→yB1,take_length→yB2,take_of_length_le→yB3,take_succ_eq_append_getElem→yB4,take_take→yB5
open Nat renaming add_zero→yB6,le_of_lt→yB7,le_refl→yB8,le_succ_of_le→yB9,le_trans→yCA,lt_irrefl→yCB,lt_or_ge→yCC,lt_succ_self→yCD,lt_trichotomy→yCE,min_eq_left→yCF,min_eq_right→yCG,min_self→yCH,not_lt_zero→yCI,sub_self→yCJ,succ_le_succ→yCK,zero_add→yCL,zero_le→yCM,zero_lt_one→yCN
set_option linter.unusedVariables false
set_option linter.unusedSimpArgs false
set_option maxHeartbeats 8000000
namespace Go.Vc
open Go.Proofs
set_option maxRecDepth 10000
set_option maxHeartbeats 4000000
def fin (l:List qAD):St:=qTP (qAC l) l.length
def qCJ (l:List Nat):List Int:=List.map (fun u:Nat=>(u:Int)) l
theorem qJU (l:List Nat) (v:Nat):qCJ (l++[v])=qCJ l++[(v:Int)]:=by unfold qCJ;rw[yBP];rfl
def stA (l:List qAD) (i:Nat):St:=(st0 l.length).run ((evs l).take i)
theorem zEG (l:List qAD):stA l 0=st0 l.length:=rfl
theorem qV2 (l:List qAD):stA l (evs l).length=fin l:=by unfold stA fin qTP evs;rw[yB2]
theorem qRN (l:List qAD) (i:Nat) (h:i<(evs l).length):stA l (i+1)=(stA l i).step ((evs l).getD i (0,0,0,false)):=by
 unfold stA;rw[yB4 h,qHA];have:(evs l).getD i (0,0,0,false)=(evs l)[i]:=by simp[List.getD,yA9 h]
 rw[this];rfl
theorem qZ7 {n:Nat}:∀ {l:List Ev}{x:St}(i:Nat),qKC n x l->qKC n x (l.take i):=by
 intro l
 induction l with
 | nil=>intro x i h;simp;exact h
 | cons e l ih=>
  intro x i h;cases i with
  | zero=>exact trivial
  | succ i=>exact⟨h.1,ih i h.2⟩
theorem qhQ {n:Nat}:∀ {l:List Ev}{x:St}(i:Nat) (d:Ev),qKC n x l->i<l.length->qnN n (x.run (l.take i)) (l.getD i d):=by
 intro l
 induction l with
 | nil=>intro x i d h hi;cases hi
 | cons e l ih=>
  intro x i d h hi;cases i with
  | zero=>exact h.1
  | succ i=>exact ih i d h.2 (by simpa using hi)
theorem qPV (l:List qAD) (i:Nat):Good l.length (stA l i):=(ql2 _).run (qZ7 i (qS1 (qAC l) l.length).1)
theorem qr3 (l:List qAD) (i:Nat) (h:i<(evs l).length):qnN l.length (stA l i) ((evs l).getD i (0,0,0,false)):=qhQ i _ (qS1 (qAC l) l.length).1 h
theorem zDI (l:List qAD) (i:Nat) (h:i<=(evs l).length):(stA l i).m=i:=by
 unfold stA;rw[qsM,yBO];show 0+min i _=i;omega
theorem qYS (x:St) (e:Ev):(x.step e).L=if e.2.2.2=true then x.L else x.L++[e.1]:=by unfold St.step;split<;>rfl
instance oList (l:List qAD):Fn BB 64 [.agg [.rd qAB l]] (l.length<=280) (.rd qAL (qCJ (fin l).L)):=by
 refine Fn.intro (N:=17) [0,1,2,3,4,6,7,10] [] Tryz.call64 Tryz.func64 rfl rfl (by kernel_rfl) (fun hpre=>?_)
 repeat'((conv=>whnf);first|refine X1 (W2 rfl ?_ ?_))
 all_goals(try(conv=>whnf))
 all_goals(try first|exact obA|refine Ob.mk ?_)
 have hEl:(evs l).length<=560:=by
  have:=qPX (qAC l) l.length;show(qOK (qAC l) l.length).length<=560;omega
 have hlen:∀ i,(stA l i).L.length<=280:=fun i=>by
  have g:=qPV l i;have:=qCX g.nod g.lt;omega
 refine RangeStop.mk (α:=Nat) ⟨hpre⟩ rfl (fun i=>[(1,.box [.own 20]),(20,.own qAL (qCJ (stA l i).L))]) 30 (fun i k=>k=i) 0 rfl ?_ (fun i k hC hi=>?_) (fun k hC=>?_)
 ·all_goals exact vcA
 ·subst hC;have hs:=qRN l k hi;have hl:=hlen k;generalize he:(evs l).getD k (0,0,0,false)=e at *;obtain⟨v,up,c,lf⟩:=e;cases lf
  ·repeat'((conv=>whnf);first|intro _|refine And.intro ?_ ?_)
   all_goals(try(conv=>whnf))
   all_goals(try first|exact obA|refine Ob.mk ?_)
   all_goals(try(exfalso;have h:=‹(!false)=false›;cases h;done))
   ·simp only[cast_eq];unfold qCJ;simp;omega
   ·refine Rnd.mk ⟨k+1,rfl,?_⟩
    repeat'((conv=>whnf);first|exact qR|refine And.intro ?_ ?_)
    all_goals(try(conv=>whnf))
    rw[hs,qYS,if_neg (by simp),qJU]
    try simp only[cast_eq]
  ·repeat'((conv=>whnf);first|intro _|refine And.intro ?_ ?_)
   all_goals(try(conv=>whnf))
   all_goals(try first|exact obA|refine Ob.mk ?_)
   all_goals(try(exfalso;have h:=‹(!true)=true›;cases h;done))
   refine Rnd.mk ⟨k+1,rfl,?_⟩
   repeat'((conv=>whnf);first|exact qR|refine And.intro ?_ ?_)
   all_goals(try(conv=>whnf))
   rw[hs,qYS,if_pos rfl]
 ·subst hC;rw[qV2]
  all_goals exact vcA
def flat (x:St):List (Int×Int):=(List.range x.I.length).map fun u=>(x.I.getD u (-1),x.O.getD u (-1))
theorem qCW (x:St):(flat x).length=x.I.length:=by unfold flat;simp
theorem flat_get (x:St) (u:Nat) (h:u<x.I.length) (d:Int×Int):(flat x).getD u d=(x.I.getD u (-1),x.O.getD u (-1)):=by
 unfold flat;simp[List.getD,h]
theorem qRA {a b:List (Int×Int)}(hl:a.length=b.length) (h:∀ u<a.length,∀ d,a.getD u d=b.getD u d):a=b:=by
 apply List.ext_getElem hl;intro i h1 h2;have:=h i h1 (0,0);simpa[List.getD,yA9 h1,yA9 h2] using this
theorem qb3 {n:Nat}{x:St}(g:Good n x) {v:Nat}{up:Int}{c:Nat}{lf:Bool}(h:qnN n x (v,up,c,lf)):
  flat (x.step (v,up,c,lf))=(flat x).set v (if lf=true then(((flat x).getD v (0,0)).1,(x.m:Int)) else((x.m:Int), -1)):=by
 have hI:=g.lI;have hO:=g.lO;cases lf with
 | true=>
  have h2:=h.2;rw[if_pos rfl] at h2;have hv:v∈x.P:=yBT h2;rw[g.stk,yBS] at hv;have hn:=g.lt v hv.1;have e0:x.step (v,up,c,true)={ x with P:=x.P.dropLast,O:=x.O.set v (x.m:Int),m:=x.m+1 }:=rfl
  rw[e0,if_pos rfl];refine qRA (by rw[qCW,yBM,qCW]) fun u hu d=>?_
  rw[qCW] at hu;dsimp only at hu;rw[flat_get _ _ (by exact hu),qBL (flat x),qCW,flat_get x u hu,flat_get x v (by rw[hI];exact hn)]
  dsimp only;rw[qBL x.O];by_cases q:v=u
  ·subst q;rw[if_pos ⟨rfl,by omega⟩,if_pos ⟨rfl,by omega⟩]
  ·rw[if_neg (fun z=>q z.1),if_neg (fun z=>q z.1)]
 | false=>
  have h2:=h.2;rw[if_neg (by simp)] at h2
  have e0:x.step (v,up,c,false)={ x with L:=x.L++[v],P:=x.P++[v],I:=x.I.set v (x.m:Int),m:=x.m+1 }:=rfl
  rw[e0,if_neg (by simp)]
  refine qRA (by simp[qCW]) fun u hu d=>?_
  rw[qCW] at hu;dsimp only at hu;rw[yBM] at hu;have h2:v<n/\v∉x.L:=h2;rw[flat_get _ _ (by rw[yBM];exact hu),qBL (flat x),qCW,flat_get x u hu]
  dsimp only;rw[qBL x.I];by_cases q:v=u
  ·subst q;rw[if_pos ⟨rfl,by omega⟩,if_pos ⟨rfl,by omega⟩,(g.out v h2.2).2]
  ·rw[if_neg (fun z=>q z.1),if_neg (fun z=>q z.1)]
theorem qX6 {α:Type}{a b:α}(i n:Nat) (h:i<n):(List.replicate i a++List.replicate (n-i) b).set i a=List.replicate (i+1) a++List.replicate (n-(i+1)) b:=by
 rw[List.set_append_right _ _ (by simp),yBL,yCJ]
 obtain⟨m,hm⟩:∃ m,n-i=m+1:=⟨n-i-1,by omega⟩
 rw[hm,List.replicate_succ,List.set_cons_zero,show n-(i+1)=m by omega,List.replicate_succ']
 simp
theorem qf4 (l:List qAD):flat (stA l 0)=List.replicate l.length ((-1, -1):Int×Int):=by
 rw[zEG];refine qRA (by rw[qCW];simp[st0]) fun u hu d=>?_
 rw[qCW] at hu;rw[flat_get _ _ hu];have hu:u<l.length:=by simpa[st0] using hu
 show((List.replicate l.length (-1)).getD u (-1),(List.replicate l.length (-1)).getD u (-1))=_;rw[qNL,yA6,yBB,if_pos hu];rfl
instance oMarks (l:List qAD):Fn BB 62 [.agg [.rd qAB l]] (l.length<=280) (.rd .cpx (flat (fin l))):=by
  refine Fn.intro (N:=45) [0,1,2,3,4,5,11,12,13,20,21,23] [(10,[1,0,1,1,0,1,1,1,1,0,1,1,3,3])] Tryz.call62 Tryz.func62 rfl rfl (by kernel_rfl) (fun hpre=>?_)
  repeat'((conv=>whnf);first|intro _|refine And.intro ?_ ?_)
  all_goals(try(conv=>whnf))
  all_goals(try first|exact obA|refine Ob.mk ?_)
  rw[show((l.length:Int)).toNat=l.length by omega]
  refine LoopStop.mk (α:=Nat) (fun i=>[(12,.int .i64 i)]) (fun i=>[(2,.box [.own 1]),(1,.own .cpx (List.replicate i ((-1, -1):Int×Int)++List.replicate (l.length-i) (0,0)))]) 20 (fun i=>i<=l.length) (fun i=>l.length-i) 0 (yCM _) ?_ (fun i hi=>?_)
  · all_goals exact vcA
  · repeat' ((conv=>whnf);first|intro _|refine And.intro ?_ ?_|refine X1 (W2 rfl ?_ ?_))
    all_goals(try(conv=>whnf))
    all_goals(try first|exact obA|refine Ob.mk ?_)
    all_goals(try simp only[yAN,yBL] at *)
    all_goals(try(have hlt:i<l.length:=by have h:=of_decide_eq_true ‹decide ((i:Int)<(l.length:Int))=true›;omega))
    · simp only[yBE,yBL];omega
    · simp only[yBE,yBL];omega
    · refine Rnd.mk ⟨i+1,⟨by omega,by omega,?_⟩⟩
      repeat'((conv=>whnf);first|exact qR|refine And.intro ?_ ?_)
      all_goals(try(conv=>whnf))
      all_goals(try first|exact obA|refine Ob.mk ?_)
      all_goals(try rfl)
      rw[qX6 i l.length hlt]
    · have hin:i=l.length:=by have h:=of_decide_eq_false ‹decide ((i:Int)<(l.length:Int))=false›;omega
      subst hin;have hEl:(evs l).length<=560:=by
        have:=qPX (qAC l) l.length;show(qOK (qAC l) l.length).length<=560;omega
      refine RangeStop.mk (α:=Nat) ⟨hpre⟩ rfl (fun i=>[(2,.box [.own 1]),(1,.own .cpx (flat (stA l i)))]) 40 (fun i k=>k=i) 0 rfl ?_ (fun i k hC hi=>?_) (fun k hC=>?_)
      · repeat'((conv=>whnf);first|exact qR|refine And.intro ?_ ?_)
        all_goals(try(conv=>whnf))
        all_goals(try rfl)
        · show Chunk.own Ty.cpx _=Chunk.own Ty.cpx _
          rw[yCJ,yB1,yAS,qf4]
      · subst hC
        have hs:=qRN l k hi;have hv:=qr3 l k hi;have g:=qPV l k;have hm:=zDI l k (yB7 hi);generalize he:(evs l).getD k (0,0,0,false)=e at *;obtain⟨v,up,c,lf⟩:=e;have hst:=qb3 g hv;have hcm:c=(stA l k).m:=hv.1;have hfl:(flat (stA l k)).length=l.length:=by rw[qCW];exact g.lI
        cases lf
        · have hn:v<l.length:=hv.2.1
          repeat'((conv=>whnf);first|exact qR|intro _|refine And.intro ?_ ?_)
          all_goals(try(conv=>whnf))
          all_goals(try first|exact obA|refine Ob.mk ?_)
          all_goals(try simp only[yAN] at *)
          all_goals(try(rw[hfl]))
          all_goals(try omega)
          refine Rnd.mk ⟨k+1,rfl,?_⟩
          repeat'((conv=>whnf);first|exact qR|refine And.intro ?_ ?_)
          all_goals(try(conv=>whnf))
          rw[hs,hst,if_neg (by simp),hcm]
        · have hn:v<l.length:=by
            have h2:=hv.2;rw[if_pos rfl] at h2;have h3:v∈(stA l k).P:=yBT h2;rw[g.stk,yBS] at h3;exact g.lt v h3.1
          repeat'((conv=>whnf);first|exact qR|intro _|refine And.intro ?_ ?_)
          all_goals(try(conv=>whnf))
          all_goals(try first|exact obA|refine Ob.mk ?_)
          all_goals(try simp only[yAN] at *)
          all_goals(try(rw[hfl]))
          all_goals(try omega)
          refine Rnd.mk ⟨k+1,rfl,?_⟩
          repeat'((conv=>whnf);first|exact qR|refine And.intro ?_ ?_)
          all_goals(try(conv=>whnf))
          rw[hs,hst,hcm]
          try rfl
      · subst hC
        rw[qV2]
        all_goals exact vcA
instance oInside (a b c d:Int):Fn BB 66 [.cpx a b,.cpx c d] (-1<=a/\a<=590 /\ -1<=b/\b<=590 /\ -1<=c/\c<=590 /\ -1<=d/\d<=590) (.bool (decide (0<=a)&&decide (0<=c)&&(decide (c<a)&&decide (b<d)))):=by
 refine Fn.intro (N:=25) [0,1,4,5,13] [] Tryz.call66 Tryz.func66 rfl rfl (by kernel_rfl) (fun hpre=>?_)
 repeat'((conv=>whnf);first|exact qR|intro _|refine And.intro ?_ ?_|refine Fin.mk ?_)
 all_goals(try(conv=>whnf))
 all_goals(try first|exact obA|refine Ob.mk ?_)
 all_goals(try simp only[ZA,ZB,ZC,ZD,ZE,ZF,ZG,ZH,ZI,ZJ,ZK,ZL,ZM,ZN,ZO,Bool.and_eq_false_iff,yAH,ge_iff_le,gt_iff_lt,yAN,UInt8.ofNat_toNat,cast_eq] at *)
 ·symm;rw[yAC];intro h;simp only[yAA,decide_eq_true_eq] at h;omega
 ·obtain⟨h1,h2⟩:0<=a/\0<=c:=‹_›;rw[decide_eq_true h1,decide_eq_true h2];have e1:decide (0<a-c)=decide (c<a):=by rw[yAD,decide_eq_true_eq,decide_eq_true_eq];omega
  have e2:decide (b-d<0)=decide (b<d):=by rw[yAD,decide_eq_true_eq,decide_eq_true_eq];omega
  rw[e1,e2];rfl
end Go.Vc

namespace Go.Vc
open Go.Proofs
set_option maxRecDepth 10000
set_option maxHeartbeats 4000000
def qD4 (l:List qAD) (v:Int):List Nat:=(qRY v (evs l) []).getD []
end Go.Vc

namespace Go.Vc
set_option autoImplicit false
theorem Done.two {n:Nat}{y:St}(d:Done n y) {u v:Nat}(hu:u∈y.L) (hv:v∈y.L) (h:y.I.getD u (-1)<y.I.getD v (-1)):
  y.O.getD u (-1)<y.I.getD v (-1)\/y.O.getD v (-1)<y.O.getD u (-1):=by
 rcases d.nest u hu v hv h with q|q|q
 ·exact absurd q (d.o hu)
 ·exact .inl q
 ·exact .inr q.2
theorem Good.ne {n:Nat}{y:St}(d:Good n y) {u v:Nat}(hu:u∈y.L) (hv:v∈y.L) (h:u≠v):y.I.getD u (-1)≠y.I.getD v (-1):=by
 have key:∀ l:List Nat,l.Pairwise (fun a b=>y.I.getD a (-1)<y.I.getD b (-1))->u∈l->v∈l->y.I.getD u (-1)≠y.I.getD v (-1):=by
  intro l
  induction l with
  | nil=>intro _ hu;cases hu
  | cons a l ih=>
   intro hp hu hv;rw[List.pairwise_cons] at hp;rcases yBR.1 hu with e|e
   ·rcases yBR.1 hv with e'|e'
    ·exact absurd (e.trans e'.symm) h
    ·have:=hp.1 v e';rw[<-e] at this;omega
   ·rcases yBR.1 hv with e'|e'
    ·have:=hp.1 u e;rw[<-e'] at this;omega
    ·exact ih hp.2 e e'
 exact key y.L d.srt hu hv
theorem Done.bnd {n:Nat}{y:St}(d:Done n y) (hn:n<=45) (u:Nat) : -1<=y.I.getD u (-1)/\y.I.getD u (-1)<=90 /\ -1<=y.O.getD u (-1)/\y.O.getD u (-1)<=90:=by
 have hm:=d.cnt;have hl:=qCX d.nod d.lt;rw[d.P0] at hm;simp at hm;by_cases h:u∈y.L
 ·have h1:=d.rI u h;have h2:=d.rO u h;have h3:=d.o h;omega
 ·have:=d.out u h;omega
def qN7 (y:St) (i:Nat) (s:List Bool):Prop:=∀ c:Nat,s.getD c false=true->∃ u,u<i/\u∈y.L/\(y.I.getD u (-1)=(c:Int)\/y.O.getD u (-1)=(c:Int))
theorem qN7.I {n:Nat}{y:St}(d:Done n y) {i:Nat}{s:List Bool}(h:qN7 y i s) (hi:i∈y.L):s.getD (y.I.getD i (-1)).toNat false=false:=by
 rw[yAC];intro q;obtain⟨u,h1,h2,h3⟩:=h _ q;have hr:=d.rI i hi;rw[yAO hr.1] at h3;rcases h3 with h3|h3
 ·exact d.ne h2 hi (by omega) h3
 ·exact(d.dis u h2 i hi (d.o h2)).1 h3
theorem qN7.O {n:Nat}{y:St}(d:Done n y) {i:Nat}{s:List Bool}(h:qN7 y i s) (hi:i∈y.L):(s.set (y.I.getD i (-1)).toNat true).getD (y.O.getD i (-1)).toNat false=false:=by
 have hr:=d.rI i hi;have ho:=d.rO i hi;have ho':=d.o hi;rw[qBL,if_neg (by rintro⟨q,_⟩;omega)]
 rw[yAC];intro q;obtain⟨u,h1,h2,h3⟩:=h _ q;rw[yAO (by omega)] at h3
 rcases h3 with h3|h3
 ·exact(d.dis i hi u h2 ho').1 h3.symm
 ·have:=(d.dis i hi u h2 ho').2 h3;omega
theorem qN7.next {n:Nat}{y:St}(d:Done n y) {i:Nat}{s:List Bool}(h:qN7 y i s) (hi:i∈y.L):qN7 y (i+1) ((s.set (y.I.getD i (-1)).toNat true).set (y.O.getD i (-1)).toNat true):=by
 have hr:=d.rI i hi;have ho:=d.rO i hi;have ho':=d.o hi;intro c hc;rw[qBL] at hc;split at hc
 ·rename_i q;exact⟨i,by omega,hi,.inr (by omega)⟩
 ·rw[qBL] at hc;split at hc
  ·rename_i q;exact⟨i,by omega,hi,.inl (by omega)⟩
  ·obtain⟨u,h1,h2,h3⟩:=h c hc;exact⟨u,by omega,h2,h3⟩
theorem qN7.skip {y:St}{i:Nat}{s:List Bool}(h:qN7 y i s):qN7 y (i+1) s:=fun c hc=>by
 obtain⟨u,h1,h2,h3⟩:=h c hc;exact⟨u,by omega,h2,h3⟩
theorem qDI (l:List qAD):Done l.length (fin l):=qMA _ _
theorem qh6 (l:List qAD) (i:Nat):qD4 l i=if i∈(fin l).L then qWB (fin l) i else[]:=by
 unfold qD4;have:=qhF (qAC l) l.length i;show(qRY i (qOK (qAC l) l.length) []).getD []=_;rw[this];show(if i∈(fin l).L then some (qWB (fin l) i) else none).getD []=_
 split<;>rfl
end Go.Vc

namespace Go.Vc
set_option autoImplicit false
def sI (I:List Int):List Bool:=I.map fun v=>decide (0<=v)
theorem qIW (I:List Int) (k m:Nat):sI (I.set k (m:Int))=(sI I).set k true:=by
 unfold sI;rw[List.map_set,decide_eq_true (by omega:(0:Int)<=(m:Int))]
theorem qpG (n:Nat):sI (List.replicate n (-1))=List.replicate n false:=by
 unfold sI;rw[List.map_replicate];rfl
theorem ql6 (I:List Int) (k:Nat) (h:k<I.length):(sI I).getD k true=decide (0<=I.getD k 0):=by
 unfold sI;simp[List.getD,h]
def dR (K:Nat->List Int) (x:St) (i j:Nat):St:=x.run (dfs K (sI x.I) i j x.m).1
variable {K:Nat->List Int}
theorem qQH (x:St) (e:Ev) (l:List Ev):x.run (e::l)=(x.step e).run l:=rfl
theorem qjW:∀ (s:List Bool) (i j c:Nat) (x:St),sI x.I=s->x.m=c->
  sI (x.run (dfs K s i j c).1).I=(dfs K s i j c).2.1/\(x.run (dfs K s i j c).1).m=(dfs K s i j c).2.2:=by
 refine qGV (K:=K) ?_ ?_ ?_
 ·intro s i j c h x hs hm;rw[qDS h];exact⟨hs,by show x.m+1=c+1;rw[hm]⟩
 ·intro s i j c h hk ih x hs hm;rw[qDR h hk];exact ih x hs hm
 ·intro s i j c h hk i1 i2 x hs hm;rw[qGK h hk];dsimp only;rw[qQH,qHA];have a:=i1 (x.step (((K i).getD j 0).toNat,(i:Int),c,false)) (by show sI (x.I.set _ (x.m:Int))=_;rw[qIW,hs]) (by show x.m+1=c+1;rw[hm])
  exact i2 _ a.1 a.2
theorem qcG {x:St}{i j:Nat}(h:¬j<(K i).length):dR K x i j=x.step (i,0,x.m,true):=by
 unfold dR;rw[qDS h];rfl
theorem qeA {x:St}{i j:Nat}(h:j<(K i).length) (hk:okK (sI x.I) ((K i).getD j 0)=false):dR K x i j=dR K x i (j+1):=by
 unfold dR;rw[qDR h hk]
theorem qlM {x:St}{i j:Nat}(h:j<(K i).length) (hk:okK (sI x.I) ((K i).getD j 0)=true):
    dR K x i j=dR K (dR K (x.step (((K i).getD j 0).toNat,(i:Int),x.m,false)) ((K i).getD j 0).toNat 0) i (j+1):=by
  have hI:sI (x.step (((K i).getD j 0).toNat,(i:Int),x.m,false)).I=(sI x.I).set ((K i).getD j 0).toNat true:=qIW ..;have hm:(x.step (((K i).getD j 0).toNat,(i:Int),x.m,false)).m=x.m+1:=rfl;have a:=qjW (K:=K) _ ((K i).getD j 0).toNat 0 _ _ hI hm;have e1:dR K (x.step (((K i).getD j 0).toNat,(i:Int),x.m,false)) ((K i).getD j 0).toNat 0=
      (x.step (((K i).getD j 0).toNat,(i:Int),x.m,false)).run (dfs K ((sI x.I).set ((K i).getD j 0).toNat true) ((K i).getD j 0).toNat 0 (x.m+1)).1:=by
    unfold dR;rw[hI,hm]
  rw[e1];generalize hy:(x.step (((K i).getD j 0).toNat,(i:Int),x.m,false)).run (dfs K ((sI x.I).set ((K i).getD j 0).toNat true) ((K i).getD j 0).toNat 0 (x.m+1)).1=y at *;unfold dR;rw[a.1,a.2,qGK h hk];dsimp only;rw[qQH,qHA,hy]
theorem qs6 {P:St->Nat->Nat->Prop}(he:∀ x i j,¬j<(K i).length->P x i j) (hb:∀ x i j,j<(K i).length->okK (sI x.I) ((K i).getD j 0)=false->P x i (j+1)->P x i j)
  (ho:∀ x i j,j<(K i).length->okK (sI x.I) ((K i).getD j 0)=true->P (x.step (((K i).getD j 0).toNat,(i:Int),x.m,false)) ((K i).getD j 0).toNat 0->
   P (dR K (x.step (((K i).getD j 0).toNat,(i:Int),x.m,false)) ((K i).getD j 0).toNat 0) i (j+1)->P x i j):∀ x i j,P x i j:=by
 have main:∀ (s:List Bool) (i j c:Nat) (x:St),sI x.I=s->x.m=c->P x i j:=by
  refine qGV (K:=K) ?_ ?_ ?_
  ·intro s i j c h x hs hm;exact he x i j h
  ·intro s i j c h hk ih x hs hm;subst hs;exact hb x i j h hk (ih x rfl hm)
  ·intro s i j c h hk i1 i2 x hs hm;subst hs;subst hm;have hI:sI (x.step (((K i).getD j 0).toNat,(i:Int),x.m,false)).I=(sI x.I).set ((K i).getD j 0).toNat true:=qIW ..;have a:=qjW (K:=K) _ ((K i).getD j 0).toNat 0 (x.m+1) (x.step (((K i).getD j 0).toNat,(i:Int),x.m,false)) hI rfl;refine ho x i j h hk (i1 _ hI rfl) (i2 _ ?_ ?_)
   ·unfold dR;rw[hI];exact a.1
   ·unfold dR;rw[hI];exact a.2
 exact fun x i j=>main _ i j _ x rfl rfl
theorem qi4:∀ (x:St) (i j:Nat),(dR K x i j).m+2*unseen (sI (dR K x i j).I)<=x.m+2*unseen (sI x.I)+1/\(dR K x i j).I.length=x.I.length/\(dR K x i j).O.length=x.O.length/\
  (dR K x i j).L.length+x.m<=x.L.length+(dR K x i j).m/\unseen (sI (dR K x i j).I)<=unseen (sI x.I):=by
 refine qs6 (K:=K) ?_ ?_ ?_
 ·intro x i j h;rw[qcG h];refine⟨?_,rfl,yBM ..,?_,yB8 _⟩
  ·show x.m+1+_<=_;exact Nat.le_of_eq (by show x.m+1+2*unseen (sI x.I)=_;omega)
  ·show x.L.length+x.m<=x.L.length+(x.m+1);omega
 ·intro x i j h hk ih;rw[qeA h hk];exact ih
 ·intro x i j h hk i1 i2;rw[qlM h hk];have hI:sI (x.step (((K i).getD j 0).toNat,(i:Int),x.m,false)).I=(sI x.I).set ((K i).getD j 0).toNat true:=qIW ..;have hu:=qBC (qBF hk).2.2;have hm:(x.step (((K i).getD j 0).toNat,(i:Int),x.m,false)).m=x.m+1:=rfl;have hL:(x.step (((K i).getD j 0).toNat,(i:Int),x.m,false)).L.length=x.L.length+1:=by
   show(x.L++[_]).length=_;simp
  have hIl:(x.step (((K i).getD j 0).toNat,(i:Int),x.m,false)).I.length=x.I.length:=yBM ..;have hOl:(x.step (((K i).getD j 0).toNat,(i:Int),x.m,false)).O.length=x.O.length:=rfl;rw[hI,hm,hL,hIl,hOl] at i1;exact⟨by omega,by omega,by omega,by omega,by omega⟩
def StE (x y:St):Prop:=x.L=y.L/\x.I=y.I/\x.O=y.O/\x.m=y.m
theorem StE.step {x y:St}(h:StE x y) {e e':Ev}(h1:e.1=e'.1) (h2:e.2.2.2=e'.2.2.2):StE (x.step e) (y.step e'):=by
 obtain⟨a,b,c,d⟩:=h;unfold St.step;rw[<-h2];split
 ·exact⟨a,b,by dsimp only;rw[c,d,h1],by dsimp only;rw[d]⟩
 ·exact⟨by dsimp only;rw[a,h1],by dsimp only;rw[b,d,h1],c,by dsimp only;rw[d]⟩
theorem StE.run:∀ {l:List Ev}{x y:St},StE x y->StE (x.run l) (y.run l):=by
 intro l
 induction l with
 | nil=>intro x y h;exact h
 | cons e l ih=>intro x y h;exact ih (h.step rfl rfl)
theorem StE.dR {x y:St}(h:StE x y) (i j:Nat):StE (dR K x i j) (dR K y i j):=by
 unfold Go.Vc.dR;rw[<-h.2.1, <-h.2.2.2];exact h.run
def wkS (K:Nat->List Int) (L:List Nat) (I O:List Int) (i m:Nat):St:=dR K (({ L:=L,P:=[],I:=I,O:=O,m:=m }:St).step (i,0,m,false)) i 0
theorem qrU (K:Nat->List Int) (n:Nat) (h:0<n):StE (qTP K n) (wkS K [] (List.replicate n (-1)) (List.replicate n (-1)) 0 0):=by
 have e:qTP K n=dR K ((st0 n).step (0, -1,0,false)) 0 0:=by
  unfold qTP qOK dR;rw[if_neg (by omega)]
  have e2:sI ((st0 n).step (0, -1,0,false)).I=(List.replicate n false).set 0 true:=by
   show sI ((List.replicate n (-1)).set 0 ((0:Nat):Int))=_;rw[qIW,qpG]
  have e3:((st0 n).step (0, -1,0,false)).m=1:=rfl;rw[e2,e3,qQH,qK1,qK1,yAS]
 rw[e];unfold wkS;exact(StE.step (x:=st0 n) ⟨rfl,rfl,rfl,rfl⟩ rfl rfl).dR 0 0
end Go.Vc

namespace Go.Vc
open Go.Proofs
set_option maxRecDepth 10000
set_option maxHeartbeats 4000000
def qnY (t:List qAD) (L:List Nat) (I O:List Int) (k:Int) (m:Nat):Prop:=
 t.length<=45/\I.length=t.length/\O.length=t.length/\(0<=k/\k<t.length)/\m+2*unseen (sI (I.set k.toNat (m:Int)))+2<=200/\L.length<=m
theorem qbL {I:List Int}{n:Nat}(hI:I.length=n) (k:Int):(decide (k>=0)&&decide (k<(n:Int))&&decide (I.getD k.toNat 0<0))=okK (sI I) k:=by
  unfold okK;by_cases h1:k<0
  · rw[decide_eq_false (by omega:¬k>=0)];rfl
  · rw [decide_eq_true (by omega:k>=0)]
    by_cases h2:k<(n:Int)
    · rw[decide_eq_true h2,ql6 I k.toNat (by omega)]
      by_cases h3:I.getD k.toNat 0<0
      · rw[decide_eq_true h3,decide_eq_false (by omega:¬0<=I.getD k.toNat 0)];rfl
      · rw[decide_eq_false h3,decide_eq_true (by omega:0<=I.getD k.toNat 0)];rfl
    · have:(sI I).getD k.toNat true=true:=by
        rw[yA6,yBA (by unfold sI;rw[List.length_map];omega)];rfl
      rw[decide_eq_false h2,this];rfl
theorem qo3 (N:Nat):∀ (t:List qAD) (L:List Nat) (I O:List Int) (k:Int) (m:Nat),
  FnM BB 117 [.agg [.rd qAB t],.int .i64 k,.own 0,.own 1,.own 2,.int .i64 m] [(0,.own qAL (qCJ L)),(1,.ow qAL I),(2,.ow qAL O)]
   (qnY t L I O k m/\unseen (sI (I.set k.toNat (m:Int)))<N)
   (.tup [.own 0,.int .i64 ((wkS (qAC t) L I O k.toNat m).m:Int)]) [(0,.own qAL (qCJ (wkS (qAC t) L I O k.toNat m).L)),(1,.ow qAL (wkS (qAC t) L I O k.toNat m).I),(2,.ow qAL (wkS (qAC t) L I O k.toNat m).O)]:=by
 induction N with
 | zero=>intro t L I O k m;exact⟨Tryz.call117,fun h=>absurd h.2 (yCI _)⟩
 | succ N ih=>
  intro t L I O k m;refine FnM.intro (N:=79) [0,1,2,3,4,5,6,12,13,14,15,34,61] [] 3 Tryz.call117 Tryz.func117 rfl rfl (by kernel_rfl) (fun hpre=>?_)
  repeat'((conv=>whnf);first|refine And.intro ?_ ?_)
  all_goals(try(conv=>whnf))
  all_goals(try first|exact obA|refine Ob.mk ?_)
  all_goals(obtain⟨⟨ht,hIl,hOl,hk,hm,hL⟩,hN⟩:=hpre)
  ·have:(qCJ L).length=L.length:=by unfold qCJ;simp
   rw[this,yBN];simp only[bytes3,qe0];omega
  ·omega
  ·omega
  ·constructor<;>omega
  generalize hx0:(({ L:=L,P:=[],I:=I,O:=O,m:=m }:St).step (k.toNat,0,m,false))=x0;have hxI:x0.I=I.set k.toNat (m:Int):=by rw[<-hx0];rfl
  have hxL:x0.L=L++[k.toNat]:=by rw[<-hx0];rfl
  have hxO:x0.O=O:=by rw[<-hx0];rfl
  have hxm:x0.m=m+1:=by rw[<-hx0];rfl
  have hwk:wkS (qAC t) L I O k.toNat m=dR (qAC t) x0 k.toNat 0:=by unfold wkS;rw[hx0]
  rw[hwk];refine LoopStop.mk (α:=St×Nat) (fun a=>[(5,.int .i64 a.1.m),(14,.int .i64 a.2)]) (fun a=>[(0,.own qAL (qCJ a.1.L)),(1,.ow qAL a.1.I),(2,.ow qAL a.1.O)]) 60
   (fun a=>dR (qAC t) a.1 k.toNat a.2=dR (qAC t) x0 k.toNat 0/\a.1.I.length=t.length/\a.1.O.length=t.length/\a.1.m+2*unseen (sI a.1.I)+1<=200/\a.1.L.length<=a.1.m/\unseen (sI a.1.I)<=N/\a.2<=(qAC t k.toNat).length)
   (fun a=>(qAC t k.toNat).length-a.2) (x0,0) ⟨rfl,by rw[hxI,yBM];exact hIl,by rw[hxO];exact hOl,by rw[hxI,hxm];omega,by rw[hxL,hxm,yBE,yBN];omega,by rw[hxI];omega,yCM _⟩ ?_ (fun a ha=>?_)
  ·repeat'((conv=>whnf);first|exact qR|refine And.intro ?_ ?_)
   all_goals(try(conv=>whnf))
   all_goals(try first|exact obA|refine Ob.mk ?_)
   ·show(m:Int)+1=(x0.m:Int);rw[hxm];omega
   ·show Chunk.own qAL _=Chunk.own qAL (qCJ x0.L);rw[hxL,qJU,yAO hk.1]
   ·show Chunk.ow qAL _=Chunk.ow qAL x0.I;rw[hxI]
   ·show Chunk.ow qAL _=Chunk.ow qAL x0.O;rw[hxO]
  ·obtain⟨x,j⟩:=a;dsimp only at ha ⊢;obtain⟨hD,hI2,hO2,hm2,hL2,hu2,hj2⟩:=ha
   repeat'((conv=>whnf);first|exact qR|intro _|refine WA ?_ ?_|refine WF ?_|refine X3 (W7 rfl ?_ ?_))
   all_goals(try(conv=>whnf))
   all_goals(try first|exact obA|refine Ob.mk ?_)
   all_goals(try simp only[yAN] at *)
   ·rename_i h1 h2 h3;have hc:okK (sI x.I) ((qAC t k.toNat).getD j 0)=true:=by rw[<-qbL hI2];exact h3
    have hks:=qBF hc;have hls:(sI x.I).length=t.length:=by unfold sI;rw[List.length_map];exact hI2
    have hu:=qBC hks.2.2;rw[<-qIW x.I ((qAC t k.toNat).getD j 0).toNat x.m] at hu;show qnY t x.L x.I x.O ((qAC t k.toNat).getD j 0) x.m/\unseen (sI (x.I.set ((qAC t k.toNat).getD j 0).toNat (x.m:Int)))<N;exact⟨⟨ht,hI2,hO2,⟨hks.1,by omega⟩,by omega,hL2⟩,by omega⟩
   ·rename_i h1 h2 h3;have hj:j<(qAC t k.toNat).length:=by have h:=of_decide_eq_true h2;exact yAM.mp h
    have hc:okK (sI x.I) ((qAC t k.toNat).getD j 0)=true:=by rw[<-qbL hI2];exact h3
    rw[qlM hj hc] at hD;have hks:=qBF hc;have hu:=qBC hks.2.2;rw[<-qIW x.I ((qAC t k.toNat).getD j 0).toNat x.m] at hu;have hb:=qi4 (K:=qAC t) (x.step (((qAC t k.toNat).getD j 0).toNat,(k.toNat:Int),x.m,false)) ((qAC t k.toNat).getD j 0).toNat 0;have e1:(x.step (((qAC t k.toNat).getD j 0).toNat,(k.toNat:Int),x.m,false)).m=x.m+1:=rfl;have e2:(x.step (((qAC t k.toNat).getD j 0).toNat,(k.toNat:Int),x.m,false)).I=x.I.set ((qAC t k.toNat).getD j 0).toNat (x.m:Int):=rfl;have e3:(x.step (((qAC t k.toNat).getD j 0).toNat,(k.toNat:Int),x.m,false)).O=x.O:=rfl;have e4:(x.step (((qAC t k.toNat).getD j 0).toNat,(k.toNat:Int),x.m,false)).L.length=x.L.length+1:=by show(x.L++[_]).length=_;simp
    have hE:StE (wkS (qAC t) x.L x.I x.O ((qAC t k.toNat).getD j 0).toNat x.m) (dR (qAC t) (x.step (((qAC t k.toNat).getD j 0).toNat,(k.toNat:Int),x.m,false)) ((qAC t k.toNat).getD j 0).toNat 0):=by
     unfold wkS;exact StE.dR (StE.step (x:={ L:=x.L,P:=[],I:=x.I,O:=x.O,m:=x.m }) (y:=x) ⟨rfl,rfl,rfl,rfl⟩ rfl rfl) _ _
    rw[e1,e2,e3,e4,yBM] at hb;generalize dR (qAC t) (x.step (((qAC t k.toNat).getD j 0).toNat,(k.toNat:Int),x.m,false)) ((qAC t k.toNat).getD j 0).toNat 0=y at *;refine Rnd.mk ⟨(y,j+1),⟨hD,by show y.I.length=_;omega,by show y.O.length=_;omega,by show y.m+2*unseen (sI y.I)+1<=200;omega,by show y.L.length<=y.m;omega,by show unseen (sI y.I)<=N;omega,by show j+1<=_;omega⟩,by show _-(j+1)<_;omega,?_⟩
    repeat'((conv=>whnf);first|exact qR|refine And.intro ?_ ?_)
    all_goals(try(conv=>whnf))
    all_goals(try first|exact obA|refine Ob.mk ?_)
    ·show((wkS (qAC t) x.L x.I x.O ((qAC t k.toNat).getD j 0).toNat x.m).m:Int)=(y.m:Int);rw[hE.2.2.2]
    all_goals(try rfl)
    ·show Chunk.own qAL (qCJ (wkS (qAC t) x.L x.I x.O ((qAC t k.toNat).getD j 0).toNat x.m).L)=Chunk.own qAL (qCJ y.L);rw[hE.1]
    ·show Chunk.ow qAL (wkS (qAC t) x.L x.I x.O ((qAC t k.toNat).getD j 0).toNat x.m).I=Chunk.ow qAL y.I;rw[hE.2.1]
    ·show Chunk.ow qAL (wkS (qAC t) x.L x.I x.O ((qAC t k.toNat).getD j 0).toNat x.m).O=Chunk.ow qAL y.O;rw[hE.2.2.1]
   ·rename_i h1 h2 h3;have hj:j<(qAC t k.toNat).length:=by have h:=of_decide_eq_true h2;exact yAM.mp h
    have hc:okK (sI x.I) ((qAC t k.toNat).getD j 0)=false:=by rw[<-qbL hI2];exact h3
    rw[qeA hj hc] at hD;refine Rnd.mk ⟨(x,j+1),⟨hD,hI2,hO2,hm2,hL2,hu2,by show j+1<=_;omega⟩,by show _-(j+1)<_;omega,?_⟩
    all_goals exact vcA
   all_goals(rename_i h1 h2)
   all_goals(have hj:¬j<(qAC t k.toNat).length:=by have h:=of_decide_eq_false h2;exact fun q=>h (yAM.mpr q))
   all_goals(rw[qcG hj] at hD;rw[<-hD])
   ·rfl
   ·rfl
   ·rfl
   ·rfl
instance hWalk (t:List qAD) (L:List Nat) (I O:List Int) (k:Int) (m:Nat):
  FnM BB 117 [.agg [.rd qAB t],.int .i64 k,.own 0,.own 1,.own 2,.int .i64 m] [(0,.own qAL (qCJ L)),(1,.ow qAL I),(2,.ow qAL O)]
   (qnY t L I O k m)
   (.tup [.own 0,.int .i64 ((wkS (qAC t) L I O k.toNat m).m:Int)]) [(0,.own qAL (qCJ (wkS (qAC t) L I O k.toNat m).L)),(1,.ow qAL (wkS (qAC t) L I O k.toNat m).I),(2,.ow qAL (wkS (qAC t) L I O k.toNat m).O)]:=
 have h:=qo3 (unseen (sI (I.set k.toNat (m:Int)))+1) t L I O k m
 ⟨h.call,fun hp=>h.ok ⟨hp,yCD _⟩⟩
end Go.Vc

namespace Go.Vc
open Go.Proofs
set_option maxRecDepth 10000
set_option maxHeartbeats 4000000
instance hWalk0 (t:List qAD) (I O:List Int):
  FnM BB 117 [.agg [.rd qAB t],.int .i64 0,.nils,.own 0,.own 1,.int .i64 0] [(0,.ow qAL I),(1,.ow qAL O)]
   (qnY t [] I O 0 0)
   (.tup [.own 2,.int .i64 ((wkS (qAC t) [] I O 0 0).m:Int)]) [(0,.ow qAL (wkS (qAC t) [] I O 0 0).I),(1,.ow qAL (wkS (qAC t) [] I O 0 0).O),(2,.own qAL (qCJ (wkS (qAC t) [] I O 0 0).L))]:=by
 refine FnM.intro (N:=79) [0,1,2,3,4,5,6,12,13,14,15,34,61] [] 2 Tryz.call117 Tryz.func117 rfl rfl (by kernel_rfl) (fun hpre=>?_)
 repeat'((conv=>whnf);first|refine And.intro ?_ ?_|refine AppN.mk ?_)
 all_goals(try(conv=>whnf))
 all_goals(try first|exact obA|refine Ob.mk ?_)
 all_goals(obtain⟨ht,hIl,hOl,hk,hm,hL⟩:=hpre)
 ·show 0<=(0:Int)/\(0:Int)<(I.length:Int);omega
 ·show 0<I.length;omega
 have hk0:(0:Int).toNat=0:=rfl;generalize hx0:(({ L:=[],P:=[],I:=I,O:=O,m:=0 }:St).step (0,0,0,false))=x0;have hxI:x0.I=I.set 0 0:=by rw[<-hx0];rfl
 have hxL:x0.L=[0]:=by rw[<-hx0];rfl
 have hxO:x0.O=O:=by rw[<-hx0];rfl
 have hxm:x0.m=1:=by rw[<-hx0];rfl
 have hwk:wkS (qAC t) [] I O 0 0=dR (qAC t) x0 0 0:=by unfold wkS;rw[hx0]
 rw[hwk];have hm:2*unseen (sI (I.set 0 0))+2<=200:=by have h:0+2*unseen (sI (I.set (0:Int).toNat ((0:Nat):Int)))+2<=200:=hm;have e:I.set (0:Int).toNat ((0:Nat):Int)=I.set 0 0:=rfl;rw[e] at h;omega
 refine LoopStop.mk (α:=St×Nat) (fun a=>[(5,.int .i64 a.1.m),(14,.int .i64 a.2)]) (fun a=>[(4,.own qAL (qCJ a.1.L)),(0,.ow qAL a.1.I),(1,.ow qAL a.1.O)]) 60
  (fun a=>dR (qAC t) a.1 0 a.2=dR (qAC t) x0 0 0/\a.1.I.length=t.length/\a.1.O.length=t.length/\a.1.m+2*unseen (sI a.1.I)+1<=200/\a.1.L.length<=a.1.m/\a.2<=(qAC t 0).length)
  (fun a=>(qAC t 0).length-a.2) (x0,0) ⟨rfl,by rw[hxI,yBM];exact hIl,by rw[hxO];exact hOl,by rw[hxI,hxm];omega,by rw[hxL,hxm];decide,yCM _⟩ ?_ (fun a ha=>?_)
 ·repeat'((conv=>whnf);first|exact qR|refine And.intro ?_ ?_)
  all_goals(try(conv=>whnf))
  all_goals(try first|exact obA|refine Ob.mk ?_)
  ·show _=(x0.m:Int);rw[hxm];rfl
  ·show Chunk.own qAL _=Chunk.own qAL (qCJ x0.L);rw[hxL];rfl
  ·show Chunk.ow qAL _=Chunk.ow qAL x0.I;rw[hxI];rfl
  ·show Chunk.ow qAL _=Chunk.ow qAL x0.O;rw[hxO]
 ·obtain⟨x,j⟩:=a;dsimp only at ha ⊢;obtain⟨hD,hI2,hO2,hm2,hL2,hj2⟩:=ha
  repeat'((conv=>whnf);first|exact qR|intro _|refine WA ?_ ?_|refine WF ?_|refine X3 (W7 rfl ?_ ?_))
  all_goals(try(conv=>whnf))
  all_goals(try first|exact obA|refine Ob.mk ?_)
  all_goals(try simp only[yAN] at *)
  ·rename_i h1 h2 h3;have hc:okK (sI x.I) ((qAC t 0).getD j 0)=true:=by rw[<-qbL hI2];exact h3
   have hks:=qBF hc;have hls:(sI x.I).length=t.length:=by unfold sI;rw[List.length_map];exact hI2
   have hu:=qBC hks.2.2;rw[<-qIW x.I ((qAC t 0).getD j 0).toNat x.m] at hu;show qnY t x.L x.I x.O ((qAC t 0).getD j 0) x.m;exact⟨ht,hI2,hO2,⟨hks.1,by omega⟩,by omega,hL2⟩
  ·rename_i h1 h2 h3;have hj:j<(qAC t 0).length:=by have h:=of_decide_eq_true h2;exact yAM.mp h
   have hc:okK (sI x.I) ((qAC t 0).getD j 0)=true:=by rw[<-qbL hI2];exact h3
   rw[qlM hj hc] at hD;have hks:=qBF hc;have hu:=qBC hks.2.2;rw[<-qIW x.I ((qAC t 0).getD j 0).toNat x.m] at hu;have hb:=qi4 (K:=qAC t) (x.step (((qAC t 0).getD j 0).toNat,(0:Int),x.m,false)) ((qAC t 0).getD j 0).toNat 0;have e1:(x.step (((qAC t 0).getD j 0).toNat,(0:Int),x.m,false)).m=x.m+1:=rfl;have e2:(x.step (((qAC t 0).getD j 0).toNat,(0:Int),x.m,false)).I=x.I.set ((qAC t 0).getD j 0).toNat (x.m:Int):=rfl;have e3:(x.step (((qAC t 0).getD j 0).toNat,(0:Int),x.m,false)).O=x.O:=rfl;have e4:(x.step (((qAC t 0).getD j 0).toNat,(0:Int),x.m,false)).L.length=x.L.length+1:=by show(x.L++[_]).length=_;simp
   have hE:StE (wkS (qAC t) x.L x.I x.O ((qAC t 0).getD j 0).toNat x.m) (dR (qAC t) (x.step (((qAC t 0).getD j 0).toNat,(0:Int),x.m,false)) ((qAC t 0).getD j 0).toNat 0):=by
    unfold wkS;exact StE.dR (StE.step (x:={ L:=x.L,P:=[],I:=x.I,O:=x.O,m:=x.m }) (y:=x) ⟨rfl,rfl,rfl,rfl⟩ rfl rfl) _ _
   rw[e1,e2,e3,e4,yBM] at hb;generalize dR (qAC t) (x.step (((qAC t 0).getD j 0).toNat,(0:Int),x.m,false)) ((qAC t 0).getD j 0).toNat 0=y at *;refine Rnd.mk ⟨(y,j+1),⟨hD,by show y.I.length=_;omega,by show y.O.length=_;omega,by show y.m+2*unseen (sI y.I)+1<=200;omega,by show y.L.length<=y.m;omega,by show j+1<=_;omega⟩,by show _-(j+1)<_;omega,?_⟩
   repeat'((conv=>whnf);first|exact qR|refine And.intro ?_ ?_)
   all_goals(try(conv=>whnf))
   all_goals(try first|exact obA|refine Ob.mk ?_)
   ·show((wkS (qAC t) x.L x.I x.O ((qAC t 0).getD j 0).toNat x.m).m:Int)=(y.m:Int);rw[hE.2.2.2]
   all_goals(try rfl)
   ·show Chunk.own qAL (qCJ (wkS (qAC t) x.L x.I x.O ((qAC t 0).getD j 0).toNat x.m).L)=Chunk.own qAL (qCJ y.L);rw[hE.1]
   ·show Chunk.ow qAL (wkS (qAC t) x.L x.I x.O ((qAC t 0).getD j 0).toNat x.m).I=Chunk.ow qAL y.I;rw[hE.2.1]
   ·show Chunk.ow qAL (wkS (qAC t) x.L x.I x.O ((qAC t 0).getD j 0).toNat x.m).O=Chunk.ow qAL y.O;rw[hE.2.2.1]
  ·rename_i h1 h2 h3;have hj:j<(qAC t 0).length:=by have h:=of_decide_eq_true h2;exact yAM.mp h
   have hc:okK (sI x.I) ((qAC t 0).getD j 0)=false:=by rw[<-qbL hI2];exact h3
   rw[qeA hj hc] at hD;refine Rnd.mk ⟨(x,j+1),⟨hD,hI2,hO2,hm2,hL2,by show j+1<=_;omega⟩,by show _-(j+1)<_;omega,?_⟩
   all_goals exact vcA
  all_goals(rename_i h1 h2)
  all_goals(have hj:¬j<(qAC t 0).length:=by have h:=of_decide_eq_false h2;exact fun q=>h (yAM.mpr q))
  all_goals(rw[qcG hj] at hD;rw[<-hD])
  ·rfl
  ·rfl
  ·rfl
  ·rfl
theorem qO8 (s:List Bool):unseen s<=s.length:=by unfold unseen;exact yAW
instance hAll (l:List qAD):Fn BB 61 [.agg [.rd qAB l]] (l.length<=45) (.tup [.rd qAL (qCJ (fin l).L),.rd qAL (fin l).I,.rd qAL (fin l).O]):=by
 refine Fn.intro (N:=42) [0,1,2,3,4,5,6,7,8,20,31] [(1,[0,0,0,6,0,0,0,6,6,6]),(2000007,[1,2])] Tryz.call61 Tryz.func61 rfl rfl (by kernel_rfl) (fun hpre=>?_)
 repeat'((conv=>whnf);first|exact qR|refine And.intro ?_ ?_)
 all_goals(try(conv=>whnf))
 all_goals(try first|exact obA|refine Ob.mk ?_)
 all_goals(try simp only[bytes3,qe0] at *)
 all_goals(try omega)
 all_goals(rw[show((l.length:Int)).toNat=l.length by omega])
 refine LoopStop.mk (α:=Nat) (fun i=>[(7,.int .i64 i)]) (fun i=>[(1,.own qAL (List.replicate i (-1:Int)++List.replicate (l.length-i) (0:Int))),(2,.own qAL (List.replicate i (-1:Int)++List.replicate (l.length-i) (0:Int)))]) 40 (fun i=>i<=l.length) (fun i=>l.length-i) 0 (yCM _) ?_ (fun i hi=>?_)
 ·all_goals exact vcA
 ·have hrl:(List.replicate i (-1:Int)++List.replicate (l.length-i) (0:Int)).length=l.length:=by simp;omega
  repeat'((conv=>whnf);first|exact qR|intro _|refine WA ?_ ?_|refine WF ?_|refine X3 (W7 rfl ?_ ?_))
  all_goals(try(conv=>whnf))
  all_goals(try first|exact obA|refine Ob.mk ?_)
  all_goals(try simp only[yAN] at *)
  all_goals(try rw[hrl] at *)
  all_goals(try(have hlt:i<l.length:=by have h:=of_decide_eq_true ‹decide ((i:Int)<(l.length:Int))=true›;omega))
  all_goals(try(have hin:i=l.length:=by have h:=of_decide_eq_false ‹decide ((i:Int)<(l.length:Int))=false›;omega))
  ·refine Rnd.mk ⟨i+1,by omega,by omega,?_⟩
   repeat'((conv=>whnf);first|exact qR|refine And.intro ?_ ?_)
   all_goals(try(conv=>whnf))
   all_goals(try first|exact obA|refine Ob.mk ?_)
   all_goals(try rfl)
   all_goals(rw[qX6 i l.length hlt])
  all_goals(subst hin;clear hrl)
  all_goals(try simp only[yCJ,yB1,yAS] at *)
  all_goals(try(have hpos:0<l.length:=by have h:=of_decide_eq_true ‹decide ((l.length:Int)>0)=true›;omega))
  all_goals(try(have hE:=qrU (qAC l) l.length hpos))
  ·have hu:=qO8 (sI ((List.replicate l.length (-1:Int)).set (0:Int).toNat ((0:Nat):Int)));have hul:(sI ((List.replicate l.length (-1:Int)).set (0:Int).toNat ((0:Nat):Int))).length=l.length:=by unfold sI;simp
   exact⟨hpre,by simp,by simp,⟨by omega,by omega⟩,by omega,yB8 _⟩
  ·rw[<-hE.1];rfl
  ·rw[<-hE.2.1];rfl
  ·rw[<-hE.2.2.1];rfl
  all_goals(have hz:l.length=0:=by have h:=of_decide_eq_false ‹decide ((l.length:Int)>0)=false›;omega)
  all_goals(have e:fin l=st0 l.length:=by unfold fin qTP qOK;rw[if_pos hz];rfl)
  all_goals(rw[e])
  all_goals rfl
instance hList (l:List qAD):Fn BB 14 [.agg [.rd qAB l]] (l.length<=45) (.rd qAL (qCJ (fin l).L)):=by
 refine Fn.intro (N:=13) [0,1,2,3] [] Tryz.call14 Tryz.func14 rfl rfl (by kernel_rfl) (fun hpre=>?_)
 repeat'((conv=>whnf);first|exact qR|refine WA ?_ ?_|refine WF ?_|refine X1 (W2 rfl ?_ ?_))
 all_goals(try(conv=>whnf))
 all_goals(try first|exact obA|refine Ob.mk ?_)
 all_goals(first|exact hpre|rfl)
instance hMarks (l:List qAD):Fn BB 156 [.agg [.rd qAB l]] (l.length<=45) (.tup [.rd qAL (fin l).I,.rd qAL (fin l).O]):=by
 refine Fn.intro (N:=15) [0,1,2,3,5,6] [] Tryz.call156 Tryz.func156 rfl rfl (by kernel_rfl) (fun hpre=>?_)
 repeat'((conv=>whnf);first|exact qR|refine WA ?_ ?_|refine WF ?_|refine X1 (W2 rfl ?_ ?_))
 all_goals(try(conv=>whnf))
 all_goals(try first|exact obA|refine Ob.mk ?_)
 all_goals(first|exact hpre|rfl)
end Go.Vc

namespace Go.Vc
open Go.Proofs
set_option maxRecDepth 10000
set_option maxHeartbeats 4000000
theorem qI9 (l:List Nat):(qCJ l).length=l.length:=by unfold qCJ;simp
def qVY (y:St) (i u:Nat):Bool:=decide (0<=y.I.getD i (-1))&&decide (0<=y.I.getD u (-1))&&(decide (y.I.getD u (-1)<y.I.getD i (-1))&&decide (y.O.getD i (-1)<y.O.getD u (-1)))
theorem qgS (l:List qAD) (i:Nat):qD4 l i=(fin l).L.filter (qVY (fin l) i):=by
 have d:=qDI l;rw[qh6];split
 ·rename_i h;unfold qWB qVY;refine yA3 fun u hu=>?_
  rw[decide_eq_true (d.rI i h).1,decide_eq_true (d.rI u hu).1];rfl
 ·rename_i h;symm;rw[yA5];intro u _;unfold qVY;rw[(d.out i h).1];simp
theorem qTI (L:List Nat) (j:Nat) (h:j<L.length) (d:Int):(qCJ L).getD j d=((L.getD j 0:Nat):Int):=by
 unfold qCJ;simp[List.getD,h]
theorem qL0 {p:Nat->Bool}(L:List Nat) (j:Nat) (h:j<L.length):(L.take (j+1)).filter p=(L.take j).filter p++(if p (L.getD j 0)=true then[L.getD j 0] else[]):=by
 rw[take_snoc L j 0 h,yA2,yA4];split<;>simp
theorem getD_mem (L:List Nat) (j:Nat) (h:j<L.length):L.getD j 0∈L:=by
 have:L.getD j 0=L[j]:=by simp[List.getD,yA9 h]
 rw[this];exact yBD h
theorem qMH (l:List qAD) (v:Int):qD4 l v=if 0<=v then(fin l).L.filter (qVY (fin l) v.toNat) else[]:=by
 split
 ·rename_i h;rw[<-qgS l v.toNat,yAO h]
 ·rename_i h;unfold qD4;rw[qaN (fun e _ _=>by omega)];rfl
theorem ql9 {l:List qAD}{i:Nat}(h:(fin l).I.getD i (-1)<0):(fin l).L.filter (qVY (fin l) i)=[]:=by
 rw[yA5];intro u _;unfold qVY;rw[decide_eq_false (by omega)];simp
theorem qI8 {l:List Int}{i:Nat}(h:i<l.length) (d d':Int):l.getD i d=l.getD i d':=by simp[List.getD,h]
instance hPath (l:List qAD) (v:Int):Fn BB 36 [.agg [.rd qAB l],.int .i64 v] (l.length<=45) (.rd qAL (qCJ (qD4 l v))):=by
 refine Fn.intro (N:=73) [0,1,2,4,5,6,7,8,9,36,64] [(6,[0,0,0,1,1,1,1,0,0,1,1,1,1,1,1,1,1,1,1,1,1,1,1,1,3,3])] Tryz.call36 Tryz.func36 rfl rfl (by kernel_rfl) (fun hpre=>?_)
 have hl:=hpre;have d:=qDI l;have hb:=d.bnd hl;have hn:=qCX d.nod d.lt
 repeat'((conv=>whnf);first|refine X1 (W2 rfl ?_ ?_))
 all_goals(try(conv=>whnf))
 all_goals(try first|exact obA|refine Ob.mk ?_)
 all_goals(try(exact hl))
 refine LoopStop.mk (α:=Nat) (fun k=>[(8,.own 60),(9,.int .i64 k)]) (fun k=>[(60,.own qAL (qCJ (((fin l).L.take k).filter (qVY (fin l) v.toNat))))]) 80 (fun k=>k<=(fin l).L.length/\(¬(0<=v/\v<l.length/\0<=(fin l).I.getD v.toNat (-1))->k=0)) (fun k=>(fin l).L.length-k) 0 ⟨yCM _,fun _=>rfl⟩ ?_ (fun k hk=>?_)
 ·all_goals exact vcA
 ·obtain⟨hk,hk0⟩:=hk;have hpa:=qMH l v;by_cases hok:0<=v/\v<l.length/\0<=(fin l).I.getD v.toNat (-1)
  ·rw[if_pos hok.1] at hpa;by_cases hj2:k<(fin l).L.length
   ·obtain⟨u,hu⟩:∃ u,u=(fin l).L.getD k 0:=⟨_,rfl⟩;have huL:u∈(fin l).L:=by rw[hu];exact getD_mem _ _ hj2
    have hun:=d.lt u huL;have hgu:∀ dd,(qCJ (fin l).L).getD k dd=(u:Int):=fun dd=>by rw[qTI _ _ hj2,hu]
    have hgi:∀ dd,(fin l).I.getD v.toNat dd=(fin l).I.getD v.toNat (-1):=fun dd=>qI8 (by rw[d.lI];omega) _ _
    have hgo:∀ dd,(fin l).O.getD v.toNat dd=(fin l).O.getD v.toNat (-1):=fun dd=>qI8 (by rw[d.lO];omega) _ _
    have hgiu:∀ dd,(fin l).I.getD u dd=(fin l).I.getD u (-1):=fun dd=>qI8 (by rw[d.lI];omega) _ _
    have hgou:∀ dd,(fin l).O.getD u dd=(fin l).O.getD u (-1):=fun dd=>qI8 (by rw[d.lO];omega) _ _
    have hts:=qL0 (p:=qVY (fin l) v.toNat) (fin l).L k hj2;rw[<-hu] at hts;have hru:=d.rI u huL;have hlI:=d.lI;have hlO:=d.lO;have hins:(decide ((fin l).I.getD u (-1)<(fin l).I.getD v.toNat (-1))&&decide ((fin l).O.getD v.toNat (-1)<(fin l).O.getD u (-1)))=qVY (fin l) v.toNat u:=by
     unfold qVY;rw[decide_eq_true hok.2.2,decide_eq_true hru.1];rfl
    have hfl2:(qCJ (((fin l).L.take k).filter (qVY (fin l) v.toNat))).length<=45:=by
     rw[qI9];have h1:=yBI (qVY (fin l) v.toNat) ((fin l).L.take k);rw[yBO] at h1;omega
    have q1:=hgu qAL.dflt;have q2:=hgi qAL.dflt;have q3:=hgo qAL.dflt;have q4:=hgiu qAL.dflt;have q5:=hgou qAL.dflt
    repeat'((conv=>whnf);first|exact qR|intro _|refine And.intro ?_ ?_|refine Fin.mk ?_)
    all_goals(try(conv=>whnf))
    all_goals(try first|exact obA|refine Ob.mk ?_)
    all_goals(try simp only[yAN,q1,q2,q3,q4,q5,hins] at *)
    all_goals(try rw[qI9] at *)
    all_goals(try omega)
    all_goals(try(simp only[bytes3,yBN];omega))
    all_goals(try(
     exfalso;have h:=‹(decide ((k:Int)<((fin l).L.length:Int))&&decide (v>=0)&&decide (v<((fin l).I.length:Int))&&decide ((fin l).I.getD v.toNat (-1)>=0))=false›;rw[decide_eq_true (by omega),decide_eq_true hok.1,decide_eq_true (by omega),decide_eq_true hok.2.2] at h
     cases h
     done))
    ·have hi1:qVY (fin l) v.toNat u=true:=by assumption
     rw[if_pos hi1] at hts;refine Rnd.mk ⟨k+1,⟨by omega,fun q=>absurd hok q⟩,by omega,?_⟩
     repeat'((conv=>whnf);first|exact qR|refine And.intro ?_ ?_)
     all_goals(try(conv=>whnf))
     all_goals(try first|exact obA|refine Ob.mk ?_)
     all_goals(try rfl)
     rw[hts,qJU]
    ·have hi1:qVY (fin l) v.toNat u=false:=by assumption
     rw[if_neg (by rw[hi1];decide),yAS] at hts
     refine Rnd.mk ⟨k+1,⟨by omega,fun q=>absurd hok q⟩,by omega,?_⟩
     repeat'((conv=>whnf);first|exact qR|refine And.intro ?_ ?_)
     all_goals(try(conv=>whnf))
     all_goals(try first|exact obA|refine Ob.mk ?_)
     all_goals(try rfl)
     rw[hts]
   ·have:k=(fin l).L.length:=by omega
    subst this;have hlI:=d.lI
    repeat'((conv=>whnf);first|exact qR|intro _|refine And.intro ?_ ?_|refine Fin.mk ?_)
    all_goals(try(conv=>whnf))
    all_goals(try first|exact obA|refine Ob.mk ?_)
    all_goals(try rw[qI9] at *)
    all_goals(try omega)
    all_goals(try(
     exfalso;have h:=‹(decide (((fin l).L.length:Int)<((fin l).L.length:Int))&&decide (v>=0)&&decide (v<((fin l).I.length:Int))&&decide ((fin l).I.getD v.toNat qAL.dflt>=0))=true›;rw[decide_eq_false (by omega)] at h
     simp at h
     done))
    all_goals(try(rw[yB2,hpa]))
    all_goals trace_state
  ·have:k=0:=hk0 hok;subst this;have hnil:qD4 l v=[]:=by
    rw[hpa];split
    ·rename_i h0;refine ql9 ?_;by_cases h1:v<l.length
     ·have:¬0<=(fin l).I.getD v.toNat (-1):=fun q=>hok ⟨h0,h1,q⟩
      omega
     ·rw[yA6,yBA (by rw[d.lI];omega)]
      decide
    ·rfl
   have hlI:=d.lI
   repeat'((conv=>whnf);first|exact qR|intro _|refine And.intro ?_ ?_|refine Fin.mk ?_)
   all_goals(try(conv=>whnf))
   all_goals(try first|exact obA|refine Ob.mk ?_)
   all_goals(try rw[qI9] at *)
   all_goals(try(
    exfalso;have h:=‹(decide (((0:Nat):Int)<((fin l).L.length:Int))&&decide (v>=0)&&decide (v<((fin l).I.length:Int))&&decide ((fin l).I.getD v.toNat qAL.dflt>=0))=true›;simp only[yAA,decide_eq_true_eq] at h;obtain⟨⟨⟨_,h1⟩,h2⟩,h3⟩:=h;rw[qI8 (by omega) qAL.dflt (-1)] at h3
    exact hok ⟨h1,by omega,h3⟩))
   rw[hnil];rfl
end Go.Vc

namespace Go.Vc
open Go.Proofs
set_option maxRecDepth 10000
def okI (n:Nat) (i:Int):Prop:=0<=i/\i<n
structure Ti (n:Nat) (U:Int->Int) (K:Int->List Int):Prop where
 pos:0<n
 root:U 0 = -1
 kid:∀ i,okI n i->∀ k∈K i,okI n k/\U k=i
 up:∀ i,okI n i->U i = -1\/(okI n (U i)/\(K (U i)).count i=1)
 dep:∃ d:Int->Nat,∀ i,okI n i->U i ≠ -1->d (U i)<d i
inductive Ds (U:Int->Int) (r:Int):Int->Prop
 | here:Ds U r r
 | up {x:Int}:U x ≠ -1->Ds U r (U x)->Ds U r x
theorem qR9 {l:List Int}{p q:Int->Bool}(h:∀ x∈l,p x=true->q x=true) (y:Int) (hy:y∈l) (hp:p y=false) (hq:q y=true):l.countP p<l.countP q:=by
 induction l with
 | nil=>cases hy
 | cons a l ih=>
  have hle:l.countP p<=l.countP q:=List.countP_mono_left fun x hx=>h x (List.mem_cons_of_mem _ hx)
  rw[yAT,yAT];rcases yBR.1 hy with rfl|hy
  ·rw[hp,hq];simp;omega
  ·have:=ih (fun x hx=>h x (List.mem_cons_of_mem _ hx)) hy
   have ha:=h a List.mem_cons_self;cases hpa:p a
   ·simp;omega
   ·rw[ha hpa];simp;omega
theorem Ti.rank {n:Nat}{U:Int->Int}{K:Int->List Int}(h:Ti n U K):∃ d:Int->Nat,(∀ i,okI n i->d i<n)/\∀ i,okI n i->U i ≠ -1->d (U i)<d i:=by
 obtain⟨d,hd⟩:=h.dep
 let L:List Int:=(List.range n).map fun(k:Nat)=>(k:Int)
 have hL:∀ i,okI n i->i∈L:=fun i hi=>List.mem_map.2 ⟨i.toNat,yBV.2 (by have:=hi.2;have:=hi.1;omega),by have:=hi.1;omega⟩
 refine⟨fun i=>L.countP fun y=>decide (d y<d i),fun i hi=>?_,fun i hi hu=>?_⟩
 ·have h1:L.countP (fun y=>decide (d y<d i))<L.countP (fun _=>true):=qR9 (fun _ _ _=>rfl) i (hL i hi) (decide_eq_false (yCB _)) rfl
  have h2:L.countP (fun _=>true)=n:=by simp[L]
  show L.countP (fun y=>decide (d y<d i))<n
  omega
 ·have hd:=hd i hi hu;rcases h.up i hi with q|q
  ·exact absurd q hu
  ·exact qR9 (fun x _ hx=>decide_eq_true (Nat.lt_trans (of_decide_eq_true hx) hd)) (U i) (hL _ q.1) (decide_eq_false (yCB _)) (decide_eq_true hd)
theorem Ds.le {n:Nat}{U:Int->Int}{K:Int->List Int}(h:Ti n U K) {d:Int->Nat}(hd:∀ i,okI n i->U i ≠ -1->d (U i)<d i) {r x:Int}(s:Ds U r x):okI n x->d r<=d x:=by
 induction s with
 | here=>intro _;exact yB8 _
 | @up x hu _ ih=>
  intro hx;rcases h.up x hx with q|q
  ·exact absurd q hu
  ·exact yCA (ih q.1) (yB7 (hd x hx hu))
theorem Ds.self {n:Nat}{U:Int->Int}{K:Int->List Int}(h:Ti n U K) {r:Int}(hr:okI n r) (hu:U r ≠ -1):¬Ds U r (U r):=by
 obtain⟨d,hd⟩:=h.dep;intro s;rcases h.up r hr with q|q
 ·exact hu q
 ·have h1:=s.le h hd q.1;have h2:=hd r hr hu;omega
theorem qX2 {n:Nat}{U:Int->Int}{K:Int->List Int}(h:Ti n U K) {i k:Int}(hi:okI n i):k∈K i↔okI n k/\U k=i:=by
 refine⟨h.kid i hi k,fun⟨hk,e⟩=>?_⟩
 rcases h.up k hk with q|q
 ·have:=hi.1;omega
 ·have h2:=q.2;rw[e] at h2;exact yAX.1 (by omega)
theorem qh3 {n:Nat}{U:Int->Int}{K:Int->List Int}(h:Ti n U K) {i:Int}(hi:okI n i) (k:Int):(K i).count k<=1:=by
 by_cases hk:k∈K i
 ·have hk':=(qX2 h hi).1 hk;rcases h.up k hk'.1 with q|q
  ·have:=hi.1;omega
  ·have h2:=q.2;rw[hk'.2] at h2;omega
 ·rw[yAV hk];omega
theorem qO6:∀ (n:Nat) (l:List Int),(∀ x∈l,0<=x/\x<(n:Int))->(∀ x,l.count x<=1)->l.length<=n
 | 0,l,h,_=>by
  cases l with
  | nil=>exact yB8 _
  | cons a l=>have:=h a List.mem_cons_self;omega
 | n+1,l,h,h1=>by
  have h2:=qO6 n (l.erase (n:Int)) (fun x hx=>by
   have hm:=h x (List.mem_of_mem_erase hx);have:x≠(n:Int):=fun e=>by
    subst e;have:=yAX.2 hx;rw[List.count_erase_self] at this;have:=h1 (n:Int);omega
   omega) (fun x=>yCA (List.Sublist.count_le _ List.erase_sublist) (h1 x))
  have h3:=List.length_erase (a:=(n:Int)) (l:=l);split at h3<;>omega
theorem Ti.len {n:Nat}{U:Int->Int}{K:Int->List Int}(h:Ti n U K) {i:Int}(hi:okI n i):(K i).length<=n:=
 qO6 n (K i) (fun x hx=>(h.kid i hi x hx).1) (qh3 h hi)
theorem Ti.add {n:Nat}{U U':Int->Int}{K K':Int->List Int}(h:Ti n U K) (hU:∀ i,okI n i->U' i=U i) (hK:∀ i,okI n i->K' i=K i) (hn:U' n = -1) (hk:K' n=[]):Ti (n+1) U' K':=by
 have hs:∀ i,okI (n+1) i->okI n i\/i=n:=fun i hi=>by have:=hi.1;have:=hi.2;rcases Int.lt_or_le i n with q|q;exact .inl ⟨by omega,by omega⟩;exact .inr (by omega)
 have ho:∀ i,okI n i->okI (n+1) i:=fun i hi=>⟨hi.1,by have:=hi.2;omega⟩
 have h0:okI n 0:=⟨by omega,by have:=h.pos;omega⟩
 obtain⟨d,hd⟩:=h.dep;refine⟨by omega,by rw[hU 0 h0];exact h.root,fun i hi k hk'=>?_,fun i hi=>?_,d,fun i hi hu=>?_⟩
 ·rcases hs i hi with q|rfl
  ·rw[hK i q] at hk';have:=h.kid i q k hk';exact⟨ho _ this.1,by rw[hU _ this.1];exact this.2⟩
  ·rw[hk] at hk';cases hk'
 ·rcases hs i hi with q|rfl
  ·rw[hU i q];rcases h.up i q with q'|q'
   ·exact .inl q'
   ·exact .inr ⟨ho _ q'.1,by rw[hK _ q'.1];exact q'.2⟩
  ·exact .inl hn
 ·rcases hs i hi with q|rfl
  ·rw[hU i q] at hu ⊢;exact hd i q hu
  ·exact absurd hn hu
theorem Ti.congr {n:Nat}{U U':Int->Int}{K K':Int->List Int}(h:Ti n U K) (hU:∀ i,okI n i->U' i=U i) (hK:∀ i,okI n i->K' i=K i):Ti n U' K':=by
 have h0:okI n 0:=⟨by omega,by have:=h.pos;omega⟩
 obtain⟨d,hd⟩:=h.dep;refine⟨h.pos,by rw[hU 0 h0];exact h.root,fun i hi k hk'=>?_,fun i hi=>?_,d,fun i hi hu=>?_⟩
 ·rw[hK i hi] at hk';have:=h.kid i hi k hk';exact⟨this.1,by rw[hU k this.1];exact this.2⟩
 ·rw[hU i hi];rcases h.up i hi with q|q
  ·exact .inl q
  ·exact .inr ⟨q.1,by rw[hK _ q.1];exact q.2⟩
 ·rw[hU i hi] at hu ⊢;exact hd i hi hu
theorem Ti.cut {n:Nat}{U U':Int->Int}{K K':Int->List Int}(h:Ti n U K) {kid:Int}(hk:okI n kid) (hu:U kid ≠ -1) (hU:∀ i,okI n i->U' i=if i=kid then -1 else U i) (hK:∀ i,okI n i->i≠U kid->K' i=K i)
  (hKp:∀ k,(K' (U kid)).count k+(if k=kid then 1 else 0)=(K (U kid)).count k):Ti n U' K':=by
 have h0:okI n 0:=⟨by omega,by have:=h.pos;omega⟩
 have hp:okI n (U kid)/\(K (U kid)).count kid=1:=(h.up kid hk).resolve_left hu;obtain⟨d,hd⟩:=h.dep;have hne:∀ i,okI n i->∀ k,k∈K' i->k∈K i/\k≠kid:=fun i hi k hk'=>by
  by_cases e:i=U kid
  ·subst e;have h1:=yAX.2 hk';have h2:=hKp k;by_cases e':k=kid
   ·subst e';rw[if_pos rfl,hp.2] at h2;omega
   ·rw[if_neg e'] at h2;exact⟨yAX.1 (by omega),e'⟩
  ·rw[hK i hi e] at hk';refine⟨hk',fun e'=>?_⟩
   subst e';exact e (h.kid i hi _ hk').2.symm
 refine⟨h.pos,?_,fun i hi k hk'=>?_,fun i hi=>?_,d,fun i hi hu'=>?_⟩
 ·rw[hU 0 h0];split
  ·rfl
  ·exact h.root
 ·obtain⟨a,b⟩:=hne i hi k hk';have:=h.kid i hi k a;exact⟨this.1,by rw[hU k this.1,if_neg b];exact this.2⟩
 ·rw [hU i hi];split
  ·exact .inl rfl
  ·rename_i e;rcases h.up i hi with q|q
   ·exact .inl q
   ·refine .inr ⟨q.1,?_⟩;by_cases e2:U i=U kid
    ·have h2:=hKp i;rw[if_neg e,yB6] at h2;rw[e2,h2, <-e2];exact q.2
    ·rw[hK _ q.1 e2];exact q.2
 ·rw[hU i hi] at hu' ⊢;split at hu'
  ·exact absurd rfl hu'
  ·rename_i e;rw[if_neg e];exact hd i hi hu'
open Classical in
theorem Ti.put {n:Nat}{U U':Int->Int}{K K':Int->List Int}(h:Ti n U K) {kid p:Int}(hk:okI n kid) (hk0:kid≠0) (hp:okI n p) (hu:U kid = -1) (hd':¬Ds U kid p) (hU:∀ i,okI n i->U' i=if i=kid then p else U i)
  (hK:∀ i,okI n i->i≠p->K' i=K i) (hKp:∀ k,(K' p).count k=(K p).count k+if k=kid then 1 else 0):Ti n U' K':=by
 have h0:okI n 0:=⟨by omega,by have:=h.pos;omega⟩
 obtain⟨d,hd⟩:=h.dep;have hno:kid∉K p:=fun q=>by have:=(h.kid p hp _ q).2;have:=hp.1;omega
 refine⟨h.pos,by rw[hU 0 h0,if_neg (Ne.symm hk0)];exact h.root,fun i hi k hk'=>?_,fun i hi=>?_,fun x=>if Ds U kid x then d x+d p+1 else d x,fun i hi hu'=>?_⟩
 ·by_cases e:i=p
  ·subst e;have hc:=yAX.2 hk';rw[hKp] at hc;by_cases ek:k=kid
   ·subst ek;exact⟨hk,by rw[hU k hk,if_pos rfl]⟩
   ·rw[if_neg ek] at hc;have:=h.kid i hi k (yAX.1 (by omega))
    exact⟨this.1,by rw[hU k this.1,if_neg ek];exact this.2⟩
  ·rw[hK i hi e] at hk';have:=h.kid i hi k hk';exact⟨this.1,by rw[hU k this.1,if_neg (fun ek=>by subst ek;have:=hi.1;omega)];exact this.2⟩
 ·rw[hU i hi];split
  ·rename_i e;subst e;exact .inr ⟨hp,by rw[hKp,if_pos rfl,yAV hno]⟩
  ·rename_i e;rcases h.up i hi with q|q
   ·exact .inl q
   ·refine .inr ⟨q.1,?_⟩;by_cases eq:U i=p
    ·rw[eq,hKp,if_neg e,yB6, <-eq];exact q.2
    ·rw[hK _ q.1 eq];exact q.2
 ·rw[hU i hi] at hu' ⊢;by_cases e:i=kid
  ·subst e;simp only[if_true];rw[if_neg hd',if_pos Ds.here];omega
  ·rw[if_neg e] at hu' ⊢;have hlt:=hd i hi hu';have hiff:Ds U kid i↔Ds U kid (U i):=⟨fun s=>by cases s with|here=>exact absurd rfl e|up _ s=>exact s,fun s=>.up hu' s⟩
   simp only;by_cases hs:Ds U kid i
   ·rw[if_pos hs,if_pos (hiff.1 hs)];omega
   ·rw[if_neg hs,if_neg (fun q=>hs (hiff.2 q))];exact hlt
open Classical in
theorem Ti.move {n:Nat}{U U':Int->Int}{K K':Int->List Int}(h:Ti n U K) {a b:Int}(ha:okI n a) (hb:okI n b) (hd':¬Ds U a b) (hU:∀ i,okI n i->U' i=if i∈K a then b else U i)
    (hKa:K' a=[]) (hKb:K' b=K b++K a) (hK:∀ i,okI n i->i≠a->i≠b->K' i=K i):Ti n U' K':=by
  have h0:okI n 0:=⟨by omega,by have:=h.pos;omega⟩
  have hab:b≠a:=fun e=>hd' (by rw[e];exact .here)
  obtain⟨d,hd⟩:=h.dep;have hm:∀ i,okI n i->(i∈K a↔U i=a):=fun i hi=>by rw[qX2 h ha];exact⟨fun q=>q.2,fun q=>⟨hi,q⟩⟩
  have hU2:∀ i,okI n i->U' i=if U i=a then b else U i:=fun i hi=>by
    rw[hU i hi];by_cases q:i∈K a
    · rw[if_pos q,if_pos ((hm i hi).1 q)]
    · rw[if_neg q,if_neg (fun e=>q ((hm i hi).2 e))]
  refine⟨h.pos,by rw[hU2 0 h0,h.root,if_neg (by have:=ha.1;omega)],fun i hi k hk'=>?_,fun i hi=>?_,fun x=>if Ds U a x/\x≠a then d x+d b+1 else d x,fun i hi hu'=>?_⟩
  · by_cases ea:i=a
    · subst ea;rw[hKa] at hk';cases hk'
    · by_cases eb:i=b
      · subst eb
        rw[hKb] at hk';rcases yBQ.1 hk' with q|q
        · have:=h.kid i hi k q
          exact⟨this.1,by rw[hU2 k this.1,this.2,if_neg hab]⟩
        · have:=h.kid a ha k q
          exact⟨this.1,by rw[hU2 k this.1,if_pos this.2]⟩
      · rw[hK i hi ea eb] at hk'
        have:=h.kid i hi k hk';exact⟨this.1,by rw[hU2 k this.1,this.2,if_neg ea]⟩
  · rw [hU2 i hi]
    by_cases e:U i=a
    · rw[if_pos e]
      refine .inr ⟨hb,?_⟩;rw[hKb,yAU,yAV (fun q=>hab ((h.kid b hb i q).2.symm.trans e))]
      rcases h.up i hi with q|q
      · have:=ha.1;omega
      · have h2:=q.2;rw[e] at h2;omega
    · rw [if_neg e]
      rcases h.up i hi with q|q
      · exact .inl q
      · refine .inr ⟨q.1,?_⟩
        by_cases eb:U i=b
        · rw[eb,hKb,yAU,yAV (l:=K a) (fun q'=>e ((hm i hi).1 q'))]
          have h2:=q.2;rw[eb] at h2;omega
        · rw[hK _ q.1 e eb];exact q.2
  · rw [hU2 i hi] at hu' ⊢
    by_cases e:U i=a
    · rw[if_pos e]
      have hi2:i≠a:=fun q=>by
        have hlt:=hd i hi (by rw[e];have:=ha.1;omega)
        rw[e,q] at hlt;omega
      simp only;rw[if_neg (fun q=>hd' q.1),if_pos ⟨.up (by rw[e];have:=ha.1;omega) (by rw[e];exact .here),hi2⟩]
      omega
    · rw [if_neg e] at hu' ⊢
      have hlt:=hd i hi hu';simp only;by_cases hs:Ds U a i/\i≠a
      · have hs2:Ds U a (U i):=by
          cases hs.1 with
          | here=>exact absurd rfl hs.2
          | up _ s=>exact s
        rw[if_pos hs,if_pos ⟨hs2,e⟩];omega
      · rw [if_neg hs]
        split
        · rename_i q
          by_cases hi2:i=a
          · subst hi2
            exact absurd q.1 (Ds.self h hi hu')
          · exact absurd ⟨.up hu' q.1,hi2⟩ hs
        · exact hlt
end Go.Vc

namespace Go.Vc
open Go.Proofs
set_option maxRecDepth 10000
set_option maxHeartbeats 4000000
theorem qmP {l l':List qAD}(h:l'.length=l.length) (i:Int):isT l' i=isT l i:=by unfold isT;rw[h]
end Go.Vc

namespace Go.Vc
open Go.Proofs
set_option maxRecDepth 10000
set_option maxHeartbeats 4000000
instance hNew:FnM BB 74 [] [] True (.agg [.own 0]) [(0,.own qAB [qAJ])]:=by
 refine FnM.intro (N:=4) [0] [] 0 Tryz.call74 Tryz.func74 rfl rfl (by kernel_rfl) (fun hpre=>?_)
 all_goals exact vcA
instance hIs (l:List qAD) (i:Int):Fn BB 166 [.agg [.rd qAB l],.int .i64 i] True (.bool (isT l i)):=by
 refine Fn.intro (N:=14) [0,1,2,4] [] Tryz.call166 Tryz.func166 rfl rfl (by kernel_rfl) (fun hpre=>?_)
 all_goals exact vcA
instance hAdd (l:List qAD) (k s:Int) (nm:List UInt8) (at_:List qAY) (d:List UInt8) (up:Int) (kids:List Int):
  FnM BB 133 [.loc 0 0,.agg [.int .i64 k,.int .i64 s,.str nm,.rd qA2 at_,.str d,.int .i64 up,.rd qAL kids]] [(0,.box [.own 1]),(1,.own qAB l)] (l.length<=100000/\at_.length<=100000)
   (.int .i64 l.length) [(0,.box [.own 1]),(1,.own qAB (qKR l (k,s,nm,at_,d,up,kids)))]:=by
 refine FnM.intro (N:=28) [0,1,3,4] [(3,[0,0,0,0,1,1,1,3,0,0,3]),(1000003,[3])] 2 Tryz.call133 Tryz.func133 rfl rfl (by kernel_rfl) (fun hpre=>?_)
 obtain⟨hp1,hp2⟩:=hpre
 repeat'((conv=>whnf);first|exact qR|intro _|refine And.intro ?_ ?_|refine Fin.mk ?_)
 all_goals(try(conv=>whnf))
 all_goals(try first|exact obA|refine Ob.mk ?_)
 all_goals(first|(simp;done)|rfl|trace_state)
instance hHolds (l:List qAD) (up kid:Int):Fn BB 168 [.agg [.rd qAB l],.int .i64 up,.int .i64 kid] (l.length<=100000) (.bool (qFO l up kid)):=by
  refine Fn.intro (N:=34) [0,1,2,3,6,7,22,27] [] Tryz.call168 Tryz.func168 rfl rfl (by kernel_rfl) (fun hpre=>?_)
  skip
  all_goals(try(conv=>whnf))
  refine LoopStop.mk (α:=Nat×Int) (fun a=>[(7,.int .i64 (a.1:Nat)),(2,.int .i64 a.2)]) (fun _=>[]) 30 (fun a=>a.1<=l.length+1/\(isT l up&&qGZ (l.length+1-a.1) l up a.2)=qFO l up kid) (fun a=>l.length+1-a.1) (0,kid) ⟨by simp,rfl⟩ ?_ (fun a ha=>?_)
  · all_goals exact vcA
  · obtain ⟨k,x⟩:=a
    obtain⟨h1,h2⟩:=ha;dsimp only at h1 h2;have c1:(decide ((k:Int)<=(l.length:Int))&&isT l x&&isT l up)=true->k<=l.length/\isT l x=true/\isT l up=true/\qGZ (l.length+1-k) l up x=qFO l up kid:=fun h=>by
      simp only[yAA] at h;have h3:=of_decide_eq_true h.1.1;rw[h.2,yAL] at h2;exact⟨by omega,h.1.2,h.2,h2⟩
    have c0 : (decide ((k:Int)<=(l.length:Int))&&isT l x&&isT l up)=false->false=qFO l up kid:=fun h=>by
      rw[<-h2];by_cases hu:isT l up=true
      · by_cases hx:isT l x=true
        · rw[hu,hx,yAB,yAB] at h
          have:=of_decide_eq_false h;rw[show l.length+1-k=0 by omega,hu];rfl
        · have:qGZ (l.length+1-k) l up x=false:=by
            cases l.length+1-k with
            | zero=>rfl
            | succ m=>rw[qGZ,if_neg hx]
          rw[this,Bool.and_false]
      · rw[show isT l up=false by simpa using hu];rfl
    have c2:(decide ((k:Int)<=(l.length:Int))&&isT l x&&isT l up)=true->(x==up)=true->true=qFO l up kid:=fun h h'=>by
      obtain⟨q1,q2,q3,q4⟩:=c1 h;rw[<-q4,show l.length+1-k=(l.length-k)+1 by omega,qGZ,if_pos q2,if_pos (by simpa using h')]
    have c3:(decide ((k:Int)<=(l.length:Int))&&isT l x&&isT l up)=true->(x==up)=false->k<=l.length/\(isT l up&&qGZ (l.length+1-(k+1)) l up (nd l x).up)=qFO l up kid:=fun h h'=>by
      obtain⟨q1,q2,q3,q4⟩:=c1 h;rw[<-q4,show l.length+1-k=(l.length-k)+1 by omega,qGZ,if_pos q2,if_neg (by simpa using h'),q3,yAL,show l.length+1-(k+1)=l.length-k by omega]
      exact⟨q1,rfl⟩
    repeat'((conv=>whnf);first|exact qR|intro _|refine WA ?_ ?_|refine WF ?_|refine W1 rfl ?_ ?_)
    all_goals(try(conv=>whnf))
    all_goals(try first|exact obA|refine Ob.mk ?_)
    all_goals(try dsimp only at *)
    all_goals(first|exact c2 ‹_› ‹_› | exact c0 ‹_› | exact qBH.1 (c1 ‹_›).2.1|(have:=(c1 ‹_›).1;omega)|skip)
    obtain⟨q1,q2⟩:=c3 ‹_› ‹_›;refine Rnd.mk ⟨(k+1,(nd l x).up),⟨by simp only;omega,q2⟩,by simp only;omega,?_⟩
    repeat'((conv=>whnf);first|exact qR|refine And.intro ?_ ?_)
    all_goals(try(conv=>whnf))
    all_goals(try first|exact obA|refine Ob.mk ?_)
    all_goals(first|rfl|omega|trace_state)
end Go.Vc

namespace Go.Vc
open Go.Proofs
set_option maxRecDepth 10000
set_option maxHeartbeats 4000000
theorem qI0 (l:List Int) (i:Nat) (h:i<l.length):l.take (i+1)=l.take i++[l.getD i 0]:=by
 rw[yB4 h];simp[List.getD,yA9 h]
def qbI (l:List Int) (a i:Nat):List Int:=(l.take a).take i++(l.take i).drop (a+1)
theorem qfW (l:List Int) (a i:Nat) (h:i<l.length) (ha:a<=l.length):qbI l a (i+1)=if i=a then qbI l a i else qbI l a i++[l.getD i 0]:=by
 unfold qbI;rcases yCE i a with q|q|q
 ·rw[if_neg (by omega),yB5,yB5,yCF (by omega),yCF (by omega),yA0 (by rw[yBO];omega),yA0 (by rw[yBO];omega),yAS,yAS]
  exact qI0 l i h
 ·subst q;rw[if_pos rfl,yB5,yB5,yCG (by omega),yCH,yA0 (by rw[yBO];omega),yA0 (by rw[yBO];omega)]
 ·rw[if_neg (by omega),yB5,yB5,yCG (by omega),yCG (by omega),qI0 l i h,yAY (by rw[yBO];omega),yAR]
theorem qgU (l:List Int) (a:Nat) (h:a<=l.length):qbI l a l.length=l.take a++l.drop (a+1):=by
 unfold qbI;rw[yB5,yB2,yCG h]
theorem qh2 (l:List Int) (a i:Nat):(qbI l a i).length<=i+i:=by
 unfold qbI;simp only[yBE,yBO,yBG];omega
def qfZ (l:List Int) (a:Nat) (n:Int) (i:Nat):List Int:=(l.take a).take i++((if a<i then[n] else[])++(l.take i).drop a)
theorem qdD (l:List Int) (a:Nat) (n:Int) (i:Nat) (h:i<=l.length) (ha:a<=l.length):qfZ l a n (i+1)=(if i=a then qfZ l a n i++[n] else qfZ l a n i)++(if i<l.length then[l.getD i 0] else[]):=by
 unfold qfZ;rcases yCE i a with q|q|q
 ·rw[if_neg (show ¬a<i+1 by omega),if_neg (show ¬a<i by omega),if_neg (show ¬i=a by omega),if_pos (by omega),yB5,yB5,yCF (by omega),yCF (by omega),yA0 (by rw[yBO];omega),yA0 (by rw[yBO];omega)]
  simp only[yAS];exact qI0 l i (by omega)
 ·subst q;have hdr:(l.take i).drop i=[]:=yA0 (by rw[yBO];omega)
  rw[if_pos (show i<i+1 by omega),if_neg (show ¬i<i by omega),if_pos rfl,yB5,yB5,yCG (by omega),yCH,hdr]
  simp only[yAS,yAR];congr 2;by_cases hl:i<l.length
  ·rw[if_pos hl,qI0 l i hl,yAY (by rw[yBO];omega),yA0 (by rw[yBO];omega)];rfl
  ·rw[if_neg hl,yA0 (by rw[yBO];omega)]
 ·rw[if_pos (show a<i+1 by omega),if_pos (show a<i by omega),if_neg (show ¬i=a by omega),yB5,yB5,yCG (by omega),yCG (by omega)]
  by_cases hl:i<l.length
  ·rw[if_pos hl,qI0 l i hl,yAY (by rw[yBO];omega)]
   simp only[yAR]
  ·rw[if_neg hl,yAS,yB3 (l:=l) (i:=i+1) (by omega),yB3 (l:=l) (i:=i) (by omega)]
theorem qf9 (l:List Int) (a:Nat) (n:Int) (h:a<=l.length):qfZ l a n (l.length+1)=l.take a++n::l.drop a:=by
 unfold qfZ;rw[if_pos (by omega),yB5,yB3 (l:=l) (i:=l.length+1) (by omega),yCG (by omega)]
 rfl
theorem qf5 (l:List Int) (a:Nat) (n:Int) (i:Nat):(qfZ l a n i).length<=i+1+i:=by
 unfold qfZ;simp only[yBE,yBO,yBG];split<;>simp<;>omega
instance hPlace (l:List qAD) (kid:Int):Fn BB 127 [.agg [.rd qAB l],.int .i64 kid] True (.int .i64 (qA9 l kid)):=by
 refine Fn.intro (N:=46) [0,1,2,4,5,6,21,36,44] [(1,[1,0,1,1,1,1,1,1,1,1,1,1,3,3,3]),(3,[0,1,0,1,0,1,1,1,3,3,3,3])] Tryz.call127 Tryz.func127 rfl rfl (by kernel_rfl) (fun hpre=>?_)
 have p0:(!isT l kid || !isT l (nd l kid).up)=true->(-1:Int)=qA9 l kid:=fun h=>by
  have h:=qW2 h;unfold qA9;rw[h];rfl
 have p1:(!isT l kid || !isT l (nd l kid).up)=false->(0<=kid/\kid<l.length)/\(0<=(nd l kid).up/\(nd l kid).up<l.length)/\qA9 l kid=qPE (nd l (nd l kid).up).kids kid:=fun h=>by
  obtain⟨h1,h2⟩:=qTQ h;refine⟨qBH.1 h1,qBH.1 h2,?_⟩;unfold qA9;rw[h1,h2];rfl
 repeat'((conv=>whnf);first|exact qR|intro _|refine WA ?_ ?_|refine WF ?_|refine W1 rfl ?_ ?_)
 all_goals(try(conv=>whnf))
 all_goals(try first|exact obA|refine Ob.mk ?_)
 all_goals(try(have q:=p0 ‹(!isT l kid || !isT l (nd l kid).up)=true›))
 all_goals(try(have q:=p1 ‹(!isT l kid || !isT l (nd l kid).up)=false›;obtain⟨q1,q2,q3⟩:=q))
 all_goals(first|exact q|exact q1|exact q2|(exact qBH.1 (by simp_all;done))|skip)
 generalize hks:(nd l (nd l kid).up).kids=ks at *;have hks':(l.getD (l.getD kid.toNat qAB.dflt).2.2.2.2.2.1.toNat qAB.dflt).2.2.2.2.2.2=ks:=hks
 try rw[hks']
 refine LoopStop.mk (α:=Nat) (fun i=>[(6,.int .i64 i)]) (fun _=>[]) 20 (fun i=>i<=ks.length/\(ks.take i).contains kid=false) (fun i=>ks.length-i) 0 (by simp) ?_ (fun i hi=>?_)
 ·all_goals exact vcA
 ·obtain⟨hi,ha⟩:=hi
  repeat'((conv=>whnf);first|exact qR|intro _|refine And.intro ?_ ?_|refine Fin.mk ?_)
  all_goals(try(conv=>whnf))
  all_goals(try first|exact obA|refine Ob.mk ?_)
  all_goals(try(have b1:=of_decide_eq_true ‹decide ((i:Int)<(ks.length:Int))=true›))
  all_goals(try(have b1:=of_decide_eq_false ‹decide ((i:Int)<(ks.length:Int))=false›))
  all_goals(try simp only[yAN] at *)
  ·rw[q3,qP5 (i:=i) (by omega) ha (eq_of_beq (show(ks.getD i 0==kid)=true from‹_›)).symm]
  ·have h:(ks.getD i 0==kid)=false:=‹_›;refine Rnd.mk ⟨i+1,⟨by omega,by rw[qJS ks i kid (by omega),ha,h];rfl⟩,by omega,?_⟩
   repeat'((conv=>whnf);first|exact qR|refine And.intro ?_ ?_)
   all_goals(try(conv=>whnf))
   all_goals(try first|exact obA|refine Ob.mk ?_)
   all_goals(first|rfl|omega|trace_state)
  ·obtain rfl:i=ks.length:=by omega
   rw[q3,qIZ (by rw[yB2] at ha;exact ha)]
instance hWith (l:List Int) (at_ n:Int):Fn BB 170 [.rd qAL l,.int .i64 at_,.int .i64 n] (0<=at_/\at_<=l.length/\l.length<=100000) (.rd qAL (l.take at_.toNat++n::l.drop at_.toNat)):=by
 refine Fn.intro (N:=34) [0,1,2,6,7,8,12,17,25] [] Tryz.call170 Tryz.func170 rfl rfl (by kernel_rfl) (fun hpre=>?_)
 obtain⟨p1,p2,p3⟩:=hpre;obtain⟨a,rfl⟩:=Int.eq_ofNat_of_zero_le p1;have hen:=qf9 l a n (by omega)
 rw[yAN];skip
 all_goals(try(conv=>whnf))
 refine LoopStop.mk (α:=Nat) (fun i=>[(8,.int .i64 i),(7,.own 20)]) (fun i=>[(20,.own qAL (qfZ l a n i))]) 30 (fun i=>i<=l.length+1) (fun i=>l.length+1-i) 0 (by simp) ?_ (fun i hi=>?_)
 ·repeat'((conv=>whnf);first|exact qR|refine And.intro ?_ ?_)
  all_goals(try(conv=>whnf))
  all_goals(try first|exact obA|refine Ob.mk ?_)
  all_goals(first|rfl|(simp[qfZ];done)|trace_state)
 ·have hl:=qf5 l a n i;have hst:=qdD l a n i
  repeat'((conv=>whnf);first|exact qR|intro _|refine And.intro ?_ ?_|refine Fin.mk ?_)
  all_goals(try(conv=>whnf))
  all_goals(try first|exact obA|refine Ob.mk ?_)
  all_goals(try(have b:=of_decide_eq_true ‹decide ((i:Int)<=(l.length:Int))=true›;have hs:=hst (by omega) (by omega)))
  all_goals(try(have e1:i=a:=by(have h:((i:Int)==(a:Int))=true:=‹_›;have:=eq_of_beq h;omega)))
  all_goals(try(have e1:¬i=a:=by(have h:((i:Int)==(a:Int))=false:=‹_›;rw[beq_eq_false_iff_ne] at h;omega)))
  all_goals(try(have b2:i<l.length:=by(have h:=of_decide_eq_true ‹decide ((i:Int)<(l.length:Int))=true›;omega)))
  all_goals(try(have b2:¬i<l.length:=by(have h:=of_decide_eq_false ‹decide ((i:Int)<(l.length:Int))=false›;omega)))
  all_goals(try rw[if_pos e1] at hs)
  all_goals(try rw[if_neg e1] at hs)
  all_goals(try rw[if_pos b2] at hs)
  all_goals(try rw[if_neg b2,yAS] at hs)
  all_goals(try simp only[yAN] at *)
  all_goals(try(refine Rnd.mk ⟨i+1,by omega,by omega,?_⟩))
  all_goals(first|omega|exact⟨by omega,by omega⟩|(show _*8<=_/\_<=_;exact⟨by simp only[yBE,yBF,yBJ];omega,by simp only[yBE,yBF,yBJ];omega⟩)|skip)
  all_goals(try(have b:=of_decide_eq_false ‹decide ((i:Int)<=(l.length:Int))=false›;rw[show i=l.length+1 by omega,hen]))
  repeat'((conv=>whnf);first|exact qR|refine And.intro ?_ ?_)
  all_goals(try(conv=>whnf))
  all_goals(try first|exact obA|refine Ob.mk ?_)
  all_goals(first|rfl|omega|(rw[hs];done)|(rw[hs];rfl)|trace_state)
theorem qbS {l:List qAD}{kid:Int}(h:isT l kid=true/\kid≠0):qWF l kid=(qTZ l kid).set kid.toNat (qhT (nd (qTZ l kid) kid) (-1)):=by unfold qWF;rw[if_pos ⟨h.2,h.1⟩]
theorem qRW {l:List qAD}{kid:Int}(h:¬(isT l kid=true/\kid≠0)):qWF l kid=qTZ l kid:=by unfold qWF;rw[if_neg (fun q=>h ⟨q.2,q.1⟩)]
instance hCut (l:List qAD) (kid:Int):FnM BB 169 [.loc 0 0,.int .i64 kid] [(0,.box [.own 1]),(1,.own qAB l)] (qA4 l=true)
      (.tup []) [(0,.box [.own 1]),(1,.own qAB (qWF l kid))]:=by
  refine FnM.intro (N:=77) [0,1,4,5,6,7,14,33,38,69] [] 2 Tryz.call169 Tryz.func169 rfl rfl (by kernel_rfl) (fun hpre=>?_)
  have H:qA9 l kid>=0->(0<=kid/\kid<l.length)/\(0<=(nd l kid).up/\(nd l kid).up<l.length)/\qA9 l kid<(nd l (nd l kid).up).kids.length/\(nd l (nd l kid).up).kids.length<=1000:=by
    intro h;obtain⟨h1,h2,h3⟩:=qSZ h;exact⟨qBH.1 h1,qBH.1 h2,h3,(qCY hpre _ h2).2⟩
  by_cases h0:qA9 l kid>=0
  · obtain⟨f1,f2,f3,f4⟩:=H h0
    clear H;obtain⟨a,ha⟩:∃ a:Nat,qA9 l kid=a:=⟨(qA9 l kid).toNat,by omega⟩
    obtain⟨u,hu⟩:∃ u:Int,(l.getD kid.toNat qAB.dflt).2.2.2.2.2.1=u:=⟨_,rfl⟩;obtain⟨ks,hks⟩:∃ ks:List Int,(l.getD u.toNat qAB.dflt).2.2.2.2.2.2=ks:=⟨_,rfl⟩;have hA2:qTZ l kid=l.set u.toNat (qIS (l.getD u.toNat qAB.dflt) (qbI ks a ks.length)):=by
      have f3':qA9 l kid<(ks.length:Int):=by rw[<-hks, <-hu];exact f3
      unfold qTZ;rw[if_pos h0,qgU ks a (by omega),ha,yAN,show((a:Int)+1).toNat=a+1 by omega]
      subst hu;subst hks;rfl
    have f2:0<=u/\u<l.length:=by rw[<-hu];exact f2
    have f3:qA9 l kid<(ks.length:Int):=by rw[<-hks, <-hu];exact f3
    have f4:ks.length<=1000:=by rw[<-hks, <-hu];exact f4
    have hAi:∀ i,isT (qTZ l kid) i=isT l i:=qmP qPT;have fk:isT l kid=true:=qBH.2 f1
    repeat'((conv=>whnf);first|exact qR|intro _|refine WA ?_ ?_|refine WF ?_|refine X1 (W1 rfl ?_ ?_))
    all_goals(try(conv=>whnf))
    all_goals(try first|exact obA|refine Ob.mk ?_)
    all_goals(try simp only[hu,hks])
    all_goals(try(exfalso;have h:=of_decide_eq_false ‹decide (qA9 l kid>=0)=false›;exact h h0))
    all_goals(first|exact f1|exact f2|omega|skip)
    refine LoopStop.mk (α:=Nat) (fun i=>[(7,.int .i64 i),(6,.own 20)]) (fun i=>[(20,.own qAL (qbI ks a i))]) 30 (fun i=>i<=ks.length) (fun i=>ks.length-i) 0 (by simp) ?_ (fun i hi=>?_)
    · repeat'((conv=>whnf);first|exact qR|refine And.intro ?_ ?_)
      all_goals(try(conv=>whnf))
      all_goals(try first|exact obA|refine Ob.mk ?_)
      all_goals(first|rfl|(simp[qbI];done)|trace_state)
    · have hl:=qh2 ks a i
      have hst:=qfW ks a i
      repeat'((conv=>whnf);first|exact qR|intro _|refine WA ?_ ?_|refine WF ?_|refine X1 (W1 rfl ?_ ?_))
      all_goals(try(conv=>whnf))
      all_goals(try first|exact obA|refine Ob.mk ?_)
      all_goals(try simp only[hu,hks,yAN])
      all_goals(try(have b1:(i:Int)<(ks.length:Int):=by(have h:=of_decide_eq_true (show decide ((i:Int)<(List.length (l.getD u.toNat qAB.dflt).2.2.2.2.2.2:Int))=true from‹_›);rw[hks] at h;exact h)))
      all_goals(try(have b1:¬(i:Int)<(ks.length:Int):=by(have h:=of_decide_eq_false (show decide ((i:Int)<(List.length (l.getD u.toNat qAB.dflt).2.2.2.2.2.2:Int))=false from‹_›);rw[hks] at h;exact h)))
      all_goals(try(have hs:=hst (by omega) (by omega)))
      all_goals(try(have e1:i=a:=by(have h:((i:Int) != qA9 l kid)=false:=‹_›;rw[bne_eq_false_iff_eq,ha] at h;omega)))
      all_goals(try(have e1:¬i=a:=by(have h:((i:Int) != qA9 l kid)=true:=‹_›;rw[bne_iff_ne,ha] at h;omega)))
      all_goals(try rw[if_pos e1] at hs)
      all_goals(try rw[if_neg e1] at hs)
      have f2':u.toNat<l.length:=by omega
      all_goals(first|exact f1|exact f2|exact f2'|omega|skip)
      · refine Rnd.mk ⟨i+1,by omega,by omega,?_⟩
        repeat'((conv=>whnf);first|exact qR|refine And.intro ?_ ?_)
        all_goals(try(conv=>whnf))
        all_goals(try first|exact obA|refine Ob.mk ?_)
        all_goals(first|rfl|omega|(rw[hs];done)|(rw[hs];rfl)|trace_state)
      · refine Rnd.mk ⟨i+1,by omega,by omega,?_⟩
        repeat'((conv=>whnf);first|exact qR|refine And.intro ?_ ?_)
        all_goals(try(conv=>whnf))
        all_goals(try first|exact obA|refine Ob.mk ?_)
        all_goals(first|rfl|omega|(rw[hs];done)|(rw[hs];rfl)|trace_state)
      all_goals(obtain rfl:i=ks.length:=by omega)
      all_goals(try simp only[yBM])
      all_goals(first|exact f1|(show Int.toNat _<_;omega)|skip)
      all_goals(try(have hG:(isT (l.set u.toNat (qIS (l.getD u.toNat qAB.dflt) (qbI ks a ks.length))) kid&&kid != 0)=true:=‹_›;rw[qd0,fk,yAL,bne_iff_ne] at hG;rw[qbS ⟨fk,hG⟩,hA2];rfl))
      all_goals(try(have hG:(isT (l.set u.toNat (qIS (l.getD u.toNat qAB.dflt) (qbI ks a ks.length))) kid&&kid != 0)=false:=‹_›;rw[qd0,fk,yAL,bne_eq_false_iff_eq] at hG;rw[qRW (fun q=>q.2 hG),hA2];rfl))
      all_goals trace_state
  · have hA:qTZ l kid=l:=by unfold qTZ;rw[if_neg h0]
    have g1:(isT l kid&&kid != 0)=true->isT l kid=true/\kid≠0:=fun h=>by rw[yAA,bne_iff_ne] at h;exact h
    have g0:(isT l kid&&kid != 0)=false->¬(isT l kid=true/\kid≠0):=fun h q=>by rw[q.1,yAL,bne_eq_false_iff_eq] at h;exact q.2 h
    repeat'((conv=>whnf);first|exact qR|intro _|refine WA ?_ ?_|refine WF ?_|refine X1 (W1 rfl ?_ ?_))
    all_goals(try(conv=>whnf))
    all_goals(try first|exact obA|refine Ob.mk ?_)
    all_goals(try(exfalso;exact h0 (of_decide_eq_true ‹decide (qA9 l kid>=0)=true›)))
    all_goals(try(have q:=g1 ‹_›;have q':=qBH.1 q.1))
    all_goals(try(have q:=g0 ‹_›))
    all_goals(first|exact q'|(show Int.toNat _<_;omega)|(rw[qbS q,hA];rfl)|(rw[qRW q,hA];done)|(rw[qRW q,hA];rfl)|trace_state)
end Go.Vc

namespace Go.Vc
open Go.Proofs
open Go.Vc.W
set_option maxRecDepth 10000
set_option maxHeartbeats 4000000
def qj0 (s:Int):List UInt8:=bif s==2 then[100,101,102,105,110,105,116,105,111,110,85,82,76] else bif s==1 then[118,105,101,119,66,111,120,32,112,114,101,115,101,114,118,101,65,115,112,101,99,116,82,97,116,105,111,32,103,114,97,100,105,101,110,116,85,110,105,116,115] else[]
def qx6 (c:Int) (z:Bool):Bool:=(decide (c<97)||decide (c>122))&&(z||c != 45&&c != 95&&c != 58&&(decide (c<48)||decide (c>57)))
def nmF (n:List UInt8) (i:Nat):Option Bool:=bif qx6 ((n.getD i 0).toNat:Int) ((i:Int)==0) then some false else none
def nameB (s:Int) (n:List UInt8):Bool:=
 bif qOE (qj0 s) n then true else bif n==[]||qOE (qf2 (qj0 s)) n then false else scU (nmF n) true n.length 0
theorem zCD {s:Int}(h:(s==2)=true):qj0 s=[100,101,102,105,110,105,116,105,111,110,85,82,76]:=by unfold qj0;rw[h];rfl
theorem zE5 {s:Int}(h:(s==2)=false) (h1:(s==1)=true):qj0 s=[118,105,101,119,66,111,120,32,112,114,101,115,101,114,118,101,65,115,112,101,99,116,82,97,116,105,111,32,103,114,97,100,105,101,110,116,85,110,105,116,115]:=by unfold qj0;rw[h,h1];rfl
theorem zDA {s:Int}(h:(s==2)=false) (h1:(s==1)=false):qj0 s=[]:=by unfold qj0;rw[h,h1];rfl
instance bName28 (s:Int) (n:List UInt8):Fn BB 163 [.int .i64 s,.str n] (n.length<=100000) (.bool (nameB s n)):=by
 refine Fn.intro (N:=62) [0,1,4,5,6,7,9,11,14,22,26,61] [] Tryz.call163 Tryz.func163 rfl rfl (by kernel_rfl) (fun hpre=>?_)
 repeat'((conv=>whnf);first|exact qR|intro _|refine WA ?_ ?_|refine WF ?_|refine W1 rfl ?_ ?_|refine X1 (W1 rfl ?_ ?_))
 all_goals(try(conv=>whnf))
 all_goals(try first|exact obA|refine Ob.mk ?_)
 all_goals(try decide)
 all_goals(first|have ho:=zCD ‹(s==2)=true› | have ho:=zE5 ‹(s==2)=false› ‹(s==1)=true› | have ho:=zDA ‹(s==2)=false› ‹(s==1)=false›)
 all_goals(try(unfold nameB;rw[ho];unfold qOE;rw[qDN ‹_›];done))
 all_goals(try(unfold nameB;rw[ho];unfold qOE;rw[qA3 ‹_›,qDN ‹_›];done))
 all_goals
  have red:nameB s n=scU (nmF n) true n.length 0:=by unfold nameB;rw[ho];unfold qOE;rw[qA3 ‹_›,qA3 ‹_›]
  rw[red];refine LoopStop.mk (α:=Nat) (fun i=>[(6,.int .i64 i)]) (fun _=>[]) 20 (fun i=>i<=n.length/\scU (nmF n) true (n.length-i) i=scU (nmF n) true n.length 0) (fun i=>n.length-i) 0 ⟨yCM _,rfl⟩ ?_ (fun i hi=>?_)
  ·all_goals exact vcA
  ·obtain⟨hi,hall⟩:=hi;rw[<-hall];have f1:qx6 ((n.getD i 0).toNat:Int) ((i:Int)==0)=true->nmF n i=some false:=fun h=>by unfold nmF;rw[h];rfl
   have f2:qx6 ((n.getD i 0).toNat:Int) ((i:Int)==0)=false->nmF n i=none:=fun h=>by unfold nmF;rw[h];rfl
   unfold qx6 at f1 f2
   repeat'((conv=>whnf);first|exact qR|intro _|refine And.intro ?_ ?_|refine Fin.mk ?_)
   all_goals(try(conv=>whnf))
   all_goals(try first|exact obA|refine Ob.mk ?_)
   all_goals(try simp only[yAN] at *)
   all_goals(try(have hl:i<n.length:=by have h:=of_decide_eq_true ‹decide ((i:Int)<(n.length:Int))=true›;omega))
   all_goals(try(rw[qBQ hl (f1 ‹_›)];done))
   all_goals(try(refine Rnd.mk ⟨i+1,⟨by omega,(qBV hl (f2 ‹_›)).symm⟩,by omega,?_⟩))
   repeat'((conv=>whnf);first|exact qR|refine And.intro ?_ ?_)
   all_goals(try(conv=>whnf))
   all_goals(try first|exact obA|refine Ob.mk ?_)
   all_goals(first|rfl|(rw[qCR (by have h:=of_decide_eq_false ‹decide ((i:Int)<(n.length:Int))=false›;omega)];done)|trace_state)
def anF (s:Int) (l:List qAY) (i k:Nat):Option Bool:=bif (l.getD k ([],[])).1==(l.getD i ([],[])).1 then some false else none
noncomputable def atF (s:Int) (l:List qAY) (i:Nat):Option Bool:=
 bif !nameB s (l.getD i ([],[])).1 || !qGC (l.getD i ([],[])).2 then some false else bif scU (anF s l i) true i 0 then none else some false
noncomputable def qd6 (s:Int) (l:List qAY):Bool:=scU (atF s l) true l.length 0
def atOk (l:List qAY):Prop:=l.length<=1000/\∀ i:Nat,(l.getD i ([],[])).1.length<=100000/\(l.getD i ([],[])).2.length<=100000
instance bAttrs28 (k s:Int) (nm:List UInt8) (at_:List qA2.T) (d:List UInt8) (up:Int) (kids:List Int):Fn BB 125 [.agg [.int .i64 k,.int .i64 s,.str nm,.rd qA2 at_,.str d,.int .i64 up,.rd qAL kids]] (atOk at_) (.bool (qd6 s at_)):=by
 refine Fn.intro (N:=50) [0,1,2,3,4,9,31,34,49] [(4,[0,1,0,1,0,1,1,1,1,1,1,1,1,1,3,3,3,3,3,3]),(9,[0,1,0,1,1,1,0,1,0,1,1,1,3])] Tryz.call125 Tryz.func125 rfl rfl (by kernel_rfl) (fun hpre=>?_)
 obtain⟨hp1,hp2⟩:=hpre;skip
 all_goals(try(conv=>whnf))
 refine LoopStop.mk (α:=Nat) (fun i=>[(3,.int .i64 i)]) (fun _=>[]) 20 (fun i=>i<=at_.length/\scU (atF s at_) true (at_.length-i) i=qd6 s at_) (fun i=>at_.length-i) 0 ⟨yCM _,rfl⟩ ?_ (fun i hi=>?_)
 ·all_goals exact vcA
 ·obtain⟨hi,hall⟩:=hi;rw[<-hall];have f1:(!nameB s (at_.getD i ([],[])).1 || !qGC (at_.getD i ([],[])).2)=true->atF s at_ i=some false:=fun h=>by unfold atF;rw[h];rfl
  have f2:(!nameB s (at_.getD i ([],[])).1 || !qGC (at_.getD i ([],[])).2)=false->scU (anF s at_ i) true i 0=false->atF s at_ i=some false:=fun h g=>by unfold atF;rw[h,g];rfl
  have f3:(!nameB s (at_.getD i ([],[])).1 || !qGC (at_.getD i ([],[])).2)=false->scU (anF s at_ i) true i 0=true->atF s at_ i=none:=fun h g=>by unfold atF;rw[h,g];rfl
  repeat'((conv=>whnf);first|exact qR|intro _|refine WA ?_ ?_|refine WF ?_|refine W1 rfl ?_ ?_)
  all_goals(try(conv=>whnf))
  all_goals(try first|exact obA|refine Ob.mk ?_)
  all_goals(try simp only[yAN] at *)
  all_goals(try(exact(hp2 i).1))
  all_goals(try(exact(hp2 i).2))
  all_goals(try(have hl:i<at_.length:=by have h:=of_decide_eq_true ‹decide ((i:Int)<(at_.length:Int))=true›;omega))
  all_goals(try(rw[qBQ hl (f1 ‹_›)];done))
  all_goals(try(rw[qCR (by have h:=of_decide_eq_false ‹decide ((i:Int)<(at_.length:Int))=false›;omega)];done))
  refine LoopStop.mk (α:=Nat) (fun k=>[(4,.int .i64 k)]) (fun _=>[]) 60 (fun k=>k<=i/\scU (anF s at_ i) true (i-k) k=scU (anF s at_ i) true i 0) (fun k=>i-k) 0 ⟨yCM _,rfl⟩ ?_ (fun k hk=>?_)
  ·all_goals exact vcA
  ·obtain⟨hk,hkall⟩:=hk;have g1:((at_.getD k ([],[])).1==(at_.getD i ([],[])).1)=true->anF s at_ i k=some false:=fun h=>by unfold anF;rw[h];rfl
   have g2:((at_.getD k ([],[])).1==(at_.getD i ([],[])).1)=false->anF s at_ i k=none:=fun h=>by unfold anF;rw[h];rfl
   repeat'((conv=>whnf);first|exact qR|intro _|refine And.intro ?_ ?_|refine Fin.mk ?_)
   all_goals(try(conv=>whnf))
   all_goals(try first|exact obA|refine Ob.mk ?_)
   all_goals(try simp only[yAN] at *)
   all_goals(try(have hkl:k<i:=by have h:=of_decide_eq_true ‹decide ((k:Int)<(i:Int))=true›;omega))
   all_goals(try omega)
   all_goals(try(rw[qBQ hl (f2 (by assumption) (hkall.symm.trans (qBQ hkl (g1 ‹_›))))];done))
   all_goals(try(refine Rnd.mk ⟨k+1,⟨by omega,(qBV hkl (g2 ‹_›)).symm.trans hkall⟩,by omega,?_⟩))
   all_goals(try(have hke:=qCR (f:=anF s at_ i) (d:=true) (n:=i) (i:=k) (by have h:=of_decide_eq_false ‹decide ((k:Int)<(i:Int))=false›;omega);refine Rnd.mk ⟨i+1,⟨by omega,(qBV hl (f3 (by assumption) (hkall.symm.trans hke))).symm⟩,by omega,?_⟩))
   all_goals exact vcA
def qGD (t:List qAD) (i:Int):List qAD:=((qD4 t i).drop 1).map fun k=>t.getD k qAB.dflt
instance bNodes (t:List qAD) (i:Int):Fn BB 123 [.agg [.rd qAB t],.int .i64 i] (t.length<=45) (.rd qAB (qGD t i)):=by
 refine Fn.intro (N:=29) [0,1,2,4,5,6,7,14] [(6,[0,0,1,0,0,1,1,3,3,3,3,3])] Tryz.call123 Tryz.func123 rfl rfl (by kernel_rfl) (fun hpre=>?_)
 have hd:=qDI t;have hlen:(qD4 t i).length<=45:=by
  have h1:=qCX hd.nod hd.lt;rw[qMH];split
  ·exact yCA (yBI _ _) (by omega)
  ·exact yCM _
 have hat:∀ k,k<(qD4 t i).length->(qD4 t i).getD k 0<t.length:=fun k hk=>by
  have hm:(qD4 t i).getD k 0∈qD4 t i:=getD_mem _ k hk;generalize (qD4 t i).getD k 0=x at hm ⊢;rw[qMH] at hm;split at hm
  ·exact hd.lt _ (yBS.1 hm).1
  ·cases hm
 have hnl:=qI9 (qD4 t i)
 repeat'((conv=>whnf);first|refine X1 (W2 rfl ?_ ?_))
 all_goals(try(conv=>whnf))
 all_goals(try first|exact obA|refine Ob.mk ?_)
 refine LoopStop.mk (α:=Nat) (fun k=>[(7,.int .i64 k),(6,.own 60)]) (fun k=>[(60,.own qAB ((((qD4 t i).take k).drop 1).map fun k=>t.getD k qAB.dflt))]) 80 (fun k=>1<=k/\(k<=(qD4 t i).length\/k=1)) (fun k=>(qD4 t i).length-k) 1 ⟨yB8 _,.inr rfl⟩ ?_ (fun k hk=>?_)
 ·repeat'((conv=>whnf);first|exact qR|refine And.intro ?_ ?_)
  all_goals(try(conv=>whnf))
  all_goals(try first|exact obA|refine Ob.mk ?_)
  all_goals(first|rfl|(rw[yA0 (by rw[yBO];omega)];rfl)|trace_state)
 ·obtain⟨hk1,hk2⟩:=hk;by_cases hl:k<(qD4 t i).length
  ·have hg:=qTI (qD4 t i) k hl qAL.dflt;have ha:=hat k hl;have hT:(((qD4 t i).take (k+1)).drop 1).map (fun k=>t.getD k qAB.dflt)=(((qD4 t i).take k).drop 1).map (fun k=>t.getD k qAB.dflt)++[t.getD ((qD4 t i).getD k 0) qAB.dflt]:=by
    rw[take_snoc (qD4 t i) k 0 hl,yAY (by rw[yBO];omega),yBP];rfl
   have hTl:((((qD4 t i).take k).drop 1).map (fun k=>t.getD k qAB.dflt)).length<=k:=by
    rw[List.length_map,yBG,yBO];omega
   repeat'((conv=>whnf);first|exact qR|intro _|refine And.intro ?_ ?_|refine Fin.mk ?_)
   all_goals(try(conv=>whnf))
   all_goals(try first|exact obA|refine Ob.mk ?_)
   all_goals(try simp only[yAN,hnl,hg] at *)
   all_goals(try(exact absurd (yAM.mpr hl) (of_decide_eq_false (by assumption))))
   all_goals(try omega)
   all_goals(try(refine Rnd.mk ⟨k+1,⟨by omega,.inl (by omega)⟩,by omega,?_⟩))
   repeat'((conv=>whnf);first|exact qR|refine And.intro ?_ ?_)
   all_goals(try(conv=>whnf))
   all_goals(try first|exact obA|refine Ob.mk ?_)
   all_goals(first|rfl|(rw[hT];done)|(rw[hT];rfl)|trace_state)
  ·repeat'((conv=>whnf);first|exact qR|intro _|refine And.intro ?_ ?_|refine Fin.mk ?_)
   all_goals(try(conv=>whnf))
   all_goals(try first|exact obA|refine Ob.mk ?_)
   all_goals(try simp only[hnl] at *)
   all_goals(try(exact absurd (of_decide_eq_true (by assumption)) (fun h=>hl (yAM.mp h))))
   all_goals(unfold qGD;rw[yB3 (by omega)])
end Go.Vc

namespace Go.Vc
open Go.Proofs
set_option maxRecDepth 10000
set_option maxHeartbeats 4000000
theorem qY1 (l:List Int) (k:Nat) (x:Int) (h:k<l.length):((l.take (k+1)).count x:Int)=bif l.getD k 0==x then((l.take k).count x:Int)+1 else((l.take k).count x:Int):=by
 rw[take_snoc l k 0 h,yAU,List.count_cons,List.count_nil];cases e:l.getD k 0==x<;>simp
instance rtTimes (l:List Int) (x:Int):Fn BB 112 [.rd qAL l,.int .i64 x] (l.length<=1000000) (.int .i64 (l.count x:Nat)):=by
 refine Fn.intro (N:=22) [0,1,4,5,6,10,18] [] Tryz.call112 Tryz.func112 rfl rfl (by kernel_rfl) (fun hpre=>?_)
 skip
 all_goals(try(conv=>whnf))
 refine LoopStop.mk (α:=Nat) (fun i=>[(6,.int .i64 i),(5,.int .i64 ((l.take i).count x:Nat))]) (fun _=>[]) 20 (fun i=>i<=l.length) (fun i=>l.length-i) 0 (yCM _) ?_ (fun i hi=>?_)
 ·all_goals exact vcA
 ·have hc:(l.take i).count x<=i:=yCA yAW (by rw[yBO];omega)
  repeat'((conv=>whnf);first|exact qR|intro _|refine And.intro ?_ ?_|refine Fin.mk ?_)
  all_goals(try(conv=>whnf))
  all_goals(try first|exact obA|refine Ob.mk ?_)
  all_goals(try simp only[yAN] at *)
  ·rename_i h1 h2;have hl:i<l.length:=by have:=of_decide_eq_true h1;omega
   refine Rnd.mk ⟨i+1,by omega,by omega,?_,?_,?_⟩
   repeat'((conv=>whnf);first|exact qR|refine And.intro ?_ ?_)
   all_goals(try(conv=>whnf))
   all_goals(try first|exact obA|refine Ob.mk ?_)
   all_goals(first|rfl|(rw[qY1 l i x hl,show(l.getD i 0==x)=true from h2];rfl)|trace_state)
  ·rename_i h1 h2;have hl:i<l.length:=by have:=of_decide_eq_true h1;omega
   refine Rnd.mk ⟨i+1,by omega,by omega,?_,?_,?_⟩
   repeat'((conv=>whnf);first|exact qR|refine And.intro ?_ ?_)
   all_goals(try(conv=>whnf))
   all_goals(try first|exact obA|refine Ob.mk ?_)
   all_goals(first|rfl|(rw[qY1 l i x hl,show(l.getD i 0==x)=false from h2];rfl)|trace_state)
  ·rename_i h1;have hl:i=l.length:=by have:=of_decide_eq_false h1;omega
   rw[hl,yB2]
def qJN (t:List qAD):Nat->Int->Bool
 | 0,_=>false
 | f+1,i=>bif (nd t i).up == -1 then true else qJN t f (nd t i).up
def qr1 (t:List qAD):Prop:=∀ i:Int,0<=i/\i<t.length->(nd t i).up = -1\/(0<=(nd t i).up/\(nd t i).up<t.length)
instance rtHeld (t:List qAD) (i:Int):Fn BB 113 [.agg [.rd qAB t],.int .i64 i] ((0<=i/\i<t.length)/\qr1 t/\t.length<=1000000) (.bool (qJN t (t.length+1) i)):=by
 refine Fn.intro (N:=26) [0,1,2,4,5,10,19] [] Tryz.call113 Tryz.func113 rfl rfl (by kernel_rfl) (fun hpre=>?_)
 obtain⟨h1,h2,h3⟩:=hpre;skip
 all_goals(try(conv=>whnf))
 refine LoopStop.mk (α:=Nat×Int) (fun a=>[(5,.int .i64 (a.1:Nat)),(1,.int .i64 a.2)]) (fun _=>[]) 20 (fun a=>a.1<=t.length+1/\(0<=a.2/\a.2<t.length)/\qJN t (t.length+1) i=qJN t (t.length+1-a.1) a.2) (fun a=>t.length+1-a.1) (0,i) ⟨by simp,h1,rfl⟩ ?_ (fun a ha=>?_)
 ·all_goals exact vcA
 ·obtain⟨k,j⟩:=a;obtain⟨g1,g2,g3⟩:=ha;dsimp only at g1 g2 g3;have hu:=h2 j g2;have st:k<=t.length->qJN t (t.length+1-k) j=bif (nd t j).up == -1 then true else qJN t (t.length+1-(k+1)) (nd t j).up:=fun h=>by
   rw[show t.length+1-k=(t.length-k)+1 by omega,qJN,show t.length+1-(k+1)=t.length-k by omega]
  repeat'((conv=>whnf);first|exact qR|intro _|refine And.intro ?_ ?_|refine Fin.mk ?_)
  all_goals(try(conv=>whnf))
  all_goals(try first|exact obA|refine Ob.mk ?_)
  all_goals(try dsimp only at *)
  all_goals(try(exact g2))
  all_goals(try omega)
  ·rename_i c1 c2;have hk:k<=t.length:=by have:=of_decide_eq_true c1;omega
   rw[g3,st hk,show((nd t j).up == -1)=true from c2];rfl
  ·rename_i c1 c2;have hk:k<=t.length:=by have:=of_decide_eq_true c1;omega
   have hne:(nd t j).up ≠ -1:=fun e=>by
    rw[show((nd t j).up == -1)=true from beq_iff_eq.2 e] at c2
    cases c2
   refine Rnd.mk ⟨(k+1,(nd t j).up),⟨by(simp only;omega),by(simp only;exact hu.resolve_left hne),by rw[g3,st hk,show((nd t j).up == -1)=false from c2];rfl⟩,by(simp only;omega),?_,?_,?_⟩
   all_goals exact vcA
  ·rename_i c1;have hk:k=t.length+1:=by have:=of_decide_eq_false c1;omega
   rw[g3,hk,yCJ];rfl
end Go.Vc

namespace Go.Vc
open Go.Proofs
set_option maxRecDepth 10000
set_option maxHeartbeats 8000000
def ndR (t:List qAD) (i:Nat):qAD:=t.getD i qAB.dflt
def qjS (t:List qAD) (i:Nat):Bool:=decide ((i:Int)>0)&&(decide ((ndR t i).1<1)||decide ((ndR t i).1>4)||decide ((ndR t i).up < -1)||decide ((ndR t i).up>=(t.length:Int)))
def qwJ (t:List qAD) (i:Nat):Bool:=decide ((ndR t i).up>=0)&&(decide ((nd t (ndR t i).up).1>1)||((nd t (ndR t i).up).kids.count (i:Int):Int) != 1)
def qnB (t:List qAD) (i:Nat) (k:Int):Bool:=decide (k<0)||decide (k>=(t.length:Int))||(nd t k).up != (i:Int)
def okN (t:List qAD) (i:Nat):Bool := !qjS t i && !qwJ t i&&(ndR t i).kids.all fun k => !qnB t i k
def badR (t:List qAD):Bool:=(t.length:Int)==0||(nd t 0).1 != 0||(nd t 0).up != -1
def qCH (t:List qAD):Bool := !badR t&&((List.range t.length).all (okN t)&&(List.range t.length).all fun i=>qJN t (t.length+1) i)
theorem qD1 (p:Nat->Bool) (n i:Nat) (hi:i<n) (h:p i=false):(List.range n).all p=false:=by
 rw[yAP];exact⟨i,yBV.2 hi,by rw[h];decide⟩
theorem qJI (p:Nat->Bool) (n:Nat) (h:∀ k,k<n->p k=true):(List.range n).all p=true:=by
 rw[yAQ];exact fun k hk=>h k (yBV.1 hk)
instance rtRight (t:List qAD):Fn BB 56 [.agg [.rd qAB t]] (t.length<=1000/\∀ i,(nd t i).kids.length<=1000) (.bool (qCH t)):=by
  refine Fn.intro (N:=138) [0,1,2,3,4,5,6,26,31,63,88,93,126,131,137] [(14,[0,1,0,1,1,1,1,1,1,1,1,1,1,1,1,1,1,1,1,1,1,1,1,1,1,1,1,1,1,3,3])] Tryz.call56 Tryz.func56 rfl rfl (by kernel_rfl) (fun hpre=>?_)
  obtain⟨h1,h2⟩:=hpre;have bt:badR t=true->qCH t=false:=fun h=>by unfold qCH;rw[h];rfl
  have bf:badR t=false->0<t.length:=fun h=>by
    unfold badR at h;simp only[yAH,beq_eq_false_iff_ne] at h;have:=h.1.1;omega
  repeat'((conv=>whnf);first|exact qR|intro _|refine And.intro ?_ ?_|refine Fin.mk ?_)
  all_goals(try(conv=>whnf))
  all_goals(try first|exact obA|refine Ob.mk ?_)
  all_goals(try(have hz:¬t.length=0:=fun e=>by(have h:=‹((t.length:Int)==0||_)=false›;rw[yAH] at h;have:=beq_eq_false_iff_ne.1 h.1;omega)))
  all_goals(try omega)
  · exact(bt ‹_›).symm
  have hbad:badR t=false:=‹_›;have hpos:=bf hbad;have hup0:(nd t 0).up = -1:=by
    unfold badR at hbad;simp only[yAH] at hbad;have:=hbad.2;simpa using this
  have red:qCH t=((List.range t.length).all (okN t)&&(List.range t.length).all fun i=>qJN t (t.length+1) i):=by unfold qCH;rw[hbad];rfl
  rw[red];refine LoopStop.mk (α:=Nat) (fun i=>[(3,.int .i64 i)]) (fun _=>[]) 20 (fun i=>i<=t.length/\∀ k,k<i->okN t k=true) (fun i=>t.length-i) 0 ⟨yCM _,fun k hk=>absurd hk (yCI _)⟩ ?_ (fun i hi=>?_)
  · all_goals exact vcA
  · obtain ⟨hi,hall⟩:=hi
    have fA:qjS t i=true->okN t i=false:=fun h=>by unfold okN;rw[h];rfl
    have fB:qwJ t i=true->okN t i=false:=fun h=>by unfold okN;rw[h];simp
    have fU:qjS t i=false->i<t.length->(ndR t i).up = -1\/(0<=(ndR t i).up/\(ndR t i).up<t.length):=fun h hl=>by
      by_cases e:i=0
      · left;subst e;exact hup0
      · unfold qjS at h
        rw[decide_eq_true (by omega),yAL] at h
        simp only[yAH] at h;have a1:=of_decide_eq_false h.1.2;have a2:=of_decide_eq_false h.2;omega
    repeat'((conv=>whnf);first|exact qR|intro _|refine WA ?_ ?_|refine WF ?_|refine W1 rfl ?_ ?_)
    all_goals(try(conv=>whnf))
    all_goals(try first|exact obA|refine Ob.mk ?_)
    all_goals(try simp only[yAN] at *)
    all_goals(try(have hlt:i<t.length:=by have:=of_decide_eq_true ‹decide ((i:Int)<(t.length:Int))=true›;omega))
    all_goals(try(have hA:qjS t i=false:=by assumption))
    all_goals(try(have hUp:=fU hA hlt))
    all_goals(try(have hge:=of_decide_eq_true (show decide ((ndR t i).up>=0)=true by assumption);first
      | exact hUp.resolve_left (by omega)
      | exact yCA (h2 _) (by omega)
      | (show Int.toNat (ndR t i).up<_;omega)))
    all_goals(try(rw[qD1 _ _ i hlt (fA (by assumption))];rfl))
    all_goals(try(rw[qD1 _ _ i hlt (fB (by assumption))];rfl))
    · have hB:qwJ t i=false:=by assumption
      have fK:∀ k,k∈(ndR t i).kids->qnB t i k=true->okN t i=false:=fun k hk h=>by
        unfold okN;rw[hA,hB];simp only[yAG,yAL,yAP];exact⟨k,hk,by rw[h];decide⟩
      have hkl:(ndR t i).kids.length<=1000:=by have:=h2 (i:Int);unfold nd at this;rw[yAN] at this;exact this
      refine LoopStop.mk (α:=Nat) (fun j=>[(5,.int .i64 j)]) (fun _=>[]) 60 (fun j=>j<=(ndR t i).kids.length/\∀ k,k<j->qnB t i ((ndR t i).kids.getD k 0)=false) (fun j=>(ndR t i).kids.length-j) 0 ⟨yCM _,fun k hk=>absurd hk (yCI _)⟩ ?_ (fun j hj=>?_)
      · all_goals exact vcA
      · obtain⟨hj,hjall⟩:=hj
        repeat'((conv=>whnf);first|exact qR|intro _|refine And.intro ?_ ?_|refine Fin.mk ?_)
        all_goals(try(conv=>whnf))
        all_goals(try first|exact obA|refine Ob.mk ?_)
        all_goals(try simp only[yAN] at *)
        all_goals(try(have hjl:j<(ndR t i).kids.length:=by have:=of_decide_eq_true (show decide ((j:Int)<((ndR t i).kids.length:Int))=true by assumption);omega))
        · have h:=‹(decide (_<(0:Int))||decide (_>=(t.length:Int)))=false›
          rw[yAH] at h;have a1:=of_decide_eq_false h.1;have a2:=of_decide_eq_false h.2;omega
        · have hmem:(ndR t i).kids.getD j 0∈(ndR t i).kids:=by
            have e:(ndR t i).kids.getD j 0=(ndR t i).kids[j]:=by simp[List.getD,hjl]
            rw[e];exact yBD _
          rw[qD1 _ _ i hlt (fK _ hmem (by assumption))];rfl
        · have hk:qnB t i ((ndR t i).kids.getD j 0)=false:=by assumption
          refine Rnd.mk ⟨j+1,⟨by omega,fun k hk'=>by(rcases yCC k j with q|q);exact hjall k q;(have:k=j:=by omega);subst this;exact hk⟩,by omega,?_,?_,?_⟩
          all_goals exact vcA
        · have hje:j=(ndR t i).kids.length:=by have:=of_decide_eq_false (show decide ((j:Int)<((ndR t i).kids.length:Int))=false by assumption);omega
          have hok:okN t i=true:=by
            unfold okN;rw[hA,hB];simp only[yAG,yAL,yAQ];intro k hk;obtain⟨m,hm,rfl⟩:=List.getElem_of_mem hk;have:=hjall m (by omega)
            rw[show(ndR t i).kids.getD m 0=(ndR t i).kids[m] by simp[List.getD,hm]] at this
            rw[this];rfl
          refine Rnd.mk ⟨i+1,⟨by omega,fun k hk'=>by(rcases yCC k i with q|q);exact hall k q;(have:k=i:=by omega);subst this;exact hok⟩,by omega,?_,?_,?_⟩
          all_goals exact vcA
    · have hie:i=t.length:=by have:=of_decide_eq_false ‹decide ((i:Int)<(t.length:Int))=false›;omega
      have e1:(List.range t.length).all (okN t)=true:=qJI _ _ (fun k hk=>hall k (by omega))
      have hups:qr1 t:=fun x hx=>by
        have hx2:x.toNat<t.length:=by omega
        have h:=hall x.toNat (by omega)
        have hA:qjS t x.toNat=false:=by unfold okN at h;cases e:qjS t x.toNat<;>rw[e] at h<;>simp_all
        have e3:ndR t x.toNat=nd t x:=rfl;by_cases e:x.toNat=0
        · left
          have:x=0:=by omega
          subst this;exact hup0
        · unfold qjS at hA
          rw[decide_eq_true (by omega),yAL,e3] at hA
          simp only[yAH] at hA;have a1:=of_decide_eq_false hA.1.2;have a2:=of_decide_eq_false hA.2;omega
      rw[e1,yAL];refine LoopStop.mk (α:=Nat) (fun j=>[(6,.int .i64 j)]) (fun _=>[]) 60 (fun j=>j<=t.length/\∀ k,k<j->qJN t (t.length+1) (k:Nat)=true) (fun j=>t.length-j) 0 ⟨yCM _,fun k hk=>absurd hk (yCI _)⟩ ?_ (fun j hj=>?_)
      · all_goals exact vcA
      · obtain⟨hj,hjall⟩:=hj
        repeat'((conv=>whnf);first|exact qR|intro _|refine WA ?_ ?_|refine WF ?_|refine X1 (W1 rfl ?_ ?_))
        all_goals(try(conv=>whnf))
        all_goals(try first|exact obA|refine Ob.mk ?_)
        all_goals(try simp only[yAN] at *)
        all_goals(try(have hjl:j<t.length:=by have:=of_decide_eq_true ‹decide ((j:Int)<(t.length:Int))=true›;omega))
        all_goals(try exact⟨by omega,hups,by omega⟩)
        · have h:qJN t (t.length+1) (j:Nat)=false:=by simpa using‹(!qJN t (t.length+1) _)=true›
          rw[qD1 _ _ j hjl h]
        · have h:qJN t (t.length+1) (j:Nat)=true:=by simpa using‹(!qJN t (t.length+1) _)=false›
          refine Rnd.mk ⟨j+1,⟨by omega,fun k hk'=>by(rcases yCC k j with q|q);exact hjall k q;(have:k=j:=by omega);subst this;exact h⟩,by omega,?_,?_,?_⟩
          all_goals exact vcA
        · have hje:j=t.length:=by have:=of_decide_eq_false ‹decide ((j:Int)<(t.length:Int))=false›;omega
          rw[qJI _ _ (fun k hk=>hjall k (by omega))]
end Go.Vc

namespace Go.Vc
open Go.Proofs
set_option autoImplicit false
def qH4 (n:qAD) (k:Int):qAD:=(n.1,n.2.1,n.2.2.1,n.2.2.2.1,n.2.2.2.2.1,n.2.2.2.2.2.1,n.2.2.2.2.2.2++[k])
def mkN (n:qAD) (up:Int):qAD:=(n.1,n.2.1,n.2.2.1,n.2.2.2.1,n.2.2.2.2.1,up,[])
def qBA (out:List qAD) (p:Nat) (k:Int):List qAD:=out.set p (qH4 (out.getD p qAB.dflt) k)
structure PSt where
 out:List qAD
 P:List Nat
def PSt.step (t:List qAD) (x:PSt) (e:Ev):PSt:=
 match e.2.2.2,x.P with
 | true,P=>{ out:=x.out,P:=P.tail }
 | false,[]=>{ out:=x.out++[mkN (t.getD e.1 qAB.dflt) (-1)],P:=[x.out.length] }
 | false,p::P=>{ out:=qBA x.out p x.out.length++[mkN (t.getD e.1 qAB.dflt) p],P:=x.out.length::p::P }
def PSt.run (t:List qAD):PSt->List Ev->PSt
 | x,[]=>x
 | x,e::l=>PSt.run t (x.step t e) l
theorem qHZ (t:List qAD):∀ (l l':List Ev) (x:PSt),x.run t (l++l')=(x.run t l).run t l':=by
 intro l
 induction l with
 | nil=>intro l' x;rfl
 | cons e l ih=>intro l' x;exact ih l' (x.step t e)
def pS (t:List qAD) (K:Nat->List Int) (out:List qAD) (s:List Bool) (p i j:Nat):List qAD:=(({ out:=out,P:=[p] }:PSt).run t (dfs K s i j 0).1).out
def sS (K:Nat->List Int) (s:List Bool) (i j:Nat):List Bool:=(dfs K s i j 0).2.1
variable {K:Nat->List Int}{t:List qAD}
theorem qA0 (out:List qAD) (p:Nat) (k:Int):(qBA out p k).length=out.length:=by unfold qBA;exact yBM ..
theorem qrT:∀ (s:List Bool) (i j c:Nat),∀ c',(dfs K s i j c).2.1=(dfs K s i j c').2.1/\∀ x:PSt,x.run t (dfs K s i j c).1=x.run t (dfs K s i j c').1:=by
 refine qGV (K:=K) ?_ ?_ ?_
 ·intro s i j c h c';rw[qDS h,qDS h];exact⟨rfl,fun x=>rfl⟩
 ·intro s i j c h hk ih c';rw[qDR h hk,qDR h hk];exact ih c'
 ·intro s i j c h hk i1 i2 c';rw[qGK h hk,qGK h hk];dsimp only;obtain⟨a1,a2⟩:=i1 (c'+1);rw[<-a1];obtain⟨b1,b2⟩:=i2 (dfs K (s.set ((K i).getD j 0).toNat true) ((K i).getD j 0).toNat 0 (c'+1)).2.2;refine⟨b1,fun x=>?_⟩
  show((x.step t _).run t _)=((x.step t _).run t _);rw[qHZ,qHZ];have e:x.step t (((K i).getD j 0).toNat,(i:Int),c,false)=x.step t (((K i).getD j 0).toNat,(i:Int),c',false):=rfl;rw[e,a2,b2]
theorem qYX:∀ (s:List Bool) (i j c:Nat),∀ (out:List qAD) (p:Nat) (P:List Nat),
  ({ out:=out,P:=p::P }:PSt).run t (dfs K s i j c).1={ out:=(({ out:=out,P:=[p] }:PSt).run t (dfs K s i j c).1).out,P:=P }:=by
 refine qGV (K:=K) ?_ ?_ ?_
 ·intro s i j c h out p P;rw[qDS h];rfl
 ·intro s i j c h hk ih out p P;rw[qDR h hk];exact ih out p P
 ·intro s i j c h hk i1 i2 out p P;rw[qGK h hk];dsimp only;have e:∀ Q,({ out:=out,P:=p::Q }:PSt).step t (((K i).getD j 0).toNat,(i:Int),c,false)=
   { out:=qBA out p out.length++[mkN (t.getD ((K i).getD j 0).toNat qAB.dflt) p],P:=out.length::p::Q }:=fun Q=>rfl
  show PSt.run t (PSt.step t _ _) _={ out:=(PSt.run t (PSt.step t _ _) _).out,P:=P };rw[e,e,qHZ,qHZ,i1 _ out.length (p::P),i1 _ out.length [p],i2 _ p P]
theorem qOW {out s p i j}(h:¬j<(K i).length):pS t K out s p i j=out/\sS K s i j=s:=by
 unfold pS sS;rw[qDS h];exact⟨rfl,rfl⟩
theorem qPD {out s p i j}(h:j<(K i).length) (hk:okK s ((K i).getD j 0)=false):pS t K out s p i j=pS t K out s p i (j+1)/\sS K s i j=sS K s i (j+1):=by
 unfold pS sS;rw[qDR h hk];exact⟨rfl,rfl⟩
def qH7 (t:List qAD) (K:Nat->List Int) (out:List qAD) (s:List Bool) (k:Nat) (up:Int):List qAD:=pS t K (out++[mkN (t.getD k qAB.dflt) up]) (s.set k true) out.length k 0
def qPA (K:Nat->List Int) (s:List Bool) (k:Nat):List Bool:=sS K (s.set k true) k 0
theorem qZ9 {out s p i j}(h:j<(K i).length) (hk:okK s ((K i).getD j 0)=true):
    pS t K out s p i j=pS t K (qH7 t K (qBA out p out.length) s ((K i).getD j 0).toNat p) (qPA K s ((K i).getD j 0).toNat) p i (j+1)/\sS K s i j=sS K (qPA K s ((K i).getD j 0).toNat) i (j+1):=by
  have a:=fun c=>qrT (t:=t) (K:=K) (s.set ((K i).getD j 0).toNat true) ((K i).getD j 0).toNat 0 c 0
  unfold pS sS qH7 qPA pS sS;rw[qGK h hk];dsimp only;rw[(a 1).1];have b:=fun c=>qrT (t:=t) (K:=K) (dfs K (s.set ((K i).getD j 0).toNat true) ((K i).getD j 0).toNat 0 0).2.1 i (j+1) c 0
  refine⟨?_,(b _).1⟩;show(PSt.run t (PSt.step t _ _) _).out=_;have e:({ out:=out,P:=[p] }:PSt).step t (((K i).getD j 0).toNat,(i:Int),0,false)=
      { out:=qBA out p out.length++[mkN (t.getD ((K i).getD j 0).toNat qAB.dflt) p],P:=out.length::[p] }:=rfl
  rw[e,qHZ,qYX,(b _).2,(a 1).2,qA0]
theorem qj4:∀ (s:List Bool) (i j c:Nat),∀ (out:List qAD) (p:Nat),
  out.length<=(({ out:=out,P:=[p] }:PSt).run t (dfs K s i j c).1).out.length/\(({ out:=out,P:=[p] }:PSt).run t (dfs K s i j c).1).out.length+unseen (dfs K s i j c).2.1=out.length+unseen s/\
   (∀ q,q<out.length->q≠p->(({ out:=out,P:=[p] }:PSt).run t (dfs K s i j c).1).out.getD q qAB.dflt=out.getD q qAB.dflt)/\(dfs K s i j c).2.1.length=s.length:=by
 refine qGV (K:=K) ?_ ?_ ?_
 ·intro s i j c h out p;rw[qDS h];exact⟨yB8 _,rfl,fun q _ _=>rfl,rfl⟩
 ·intro s i j c h hk ih out p;rw[qDR h hk];exact ih out p
 ·intro s i j c h hk i1 i2 out p;rw[qGK h hk];dsimp only;have e:({ out:=out,P:=[p] }:PSt).step t (((K i).getD j 0).toNat,(i:Int),c,false)=
   { out:=qBA out p out.length++[mkN (t.getD ((K i).getD j 0).toNat qAB.dflt) p],P:=out.length::[p] }:=rfl
  have er:∀ l,({ out:=out,P:=[p] }:PSt).run t ((((K i).getD j 0).toNat,(i:Int),c,false)::l)=
   ({ out:=qBA out p out.length++[mkN (t.getD ((K i).getD j 0).toNat qAB.dflt) p],P:=out.length::[p] }:PSt).run t l:=fun l=>by rw[<-e];rfl
  have er2:∀ l1 l2 c1,l1=(dfs K (s.set ((K i).getD j 0).toNat true) ((K i).getD j 0).toNat 0 c1).1->(({ out:=out,P:=[p] }:PSt).run t ((((K i).getD j 0).toNat,(i:Int),c,false)::(l1++l2))).out=
   (({ out:=(({ out:=qBA out p out.length++[mkN (t.getD ((K i).getD j 0).toNat qAB.dflt) p],P:=[out.length] }:PSt).run t l1).out,P:=[p] }:PSt).run t l2).out:=fun l1 l2 c1 hl=>by
   rw[er,qHZ,hl,qYX]
  rw[er2 _ _ _ rfl];have hl:(qBA out p out.length++[mkN (t.getD ((K i).getD j 0).toNat qAB.dflt) p]).length=out.length+1:=by rw[yBE,qA0];rfl
  have hu:=qBC (qBF hk).2.2;obtain⟨a1,a2,a3,a4⟩:=i1 (qBA out p out.length++[mkN (t.getD ((K i).getD j 0).toNat qAB.dflt) p]) out.length;rw[hl] at a1 a2 a3;generalize (({ out:=qBA out p out.length++[mkN (t.getD ((K i).getD j 0).toNat qAB.dflt) p],P:=[out.length] }:PSt).run t (dfs K (s.set ((K i).getD j 0).toNat true) ((K i).getD j 0).toNat 0 (c+1)).1).out=y at *;obtain⟨b1,b2,b3,b4⟩:=i2 y p;refine⟨by omega,by omega,fun q hq hp=>?_,?_⟩
  ·rw[b3 q (by omega) hp,a3 q (by omega) (by omega)]
   unfold qBA;rw[yA6,yA7 (by rw[yBM];exact hq),yBC,if_neg (fun h=>hp h.symm),yA6]
  ·rw[b4,a4,yBM]
theorem qJG (out:List qAD) (s:List Bool) (k:Nat) (up:Int):out.length+1<=(qH7 t K out s k up).length/\(qH7 t K out s k up).length+unseen (qPA K s k)=out.length+1+unseen (s.set k true)/\
  (∀ q,q<out.length->(qH7 t K out s k up).getD q qAB.dflt=out.getD q qAB.dflt)/\(qPA K s k).length=s.length:=by
 obtain⟨h1,h2,h3,h4⟩:=qj4 (t:=t) (K:=K) (s.set k true) k 0 0 (out++[mkN (t.getD k qAB.dflt) up]) out.length;rw[yBE,yBN] at h1 h2 h3;refine⟨h1,h2,fun q hq=>?_,by rw[yBM] at h4;exact h4⟩
 show(PSt.run t _ _).out.getD q _=_;rw[h3 q (by omega) (by omega),yA6,yA7 hq,yA6]
end Go.Vc

namespace Go.Vc
open Go.Proofs
set_option maxRecDepth 10000
set_option maxHeartbeats 4000000
noncomputable abbrev BN:Base:={ BB with np:=fun t=>bif Nat.beq t 49 then some 6 else none }
instance toN_fn {f:FuncId}{args:List SV}{pre:Prop}{res:SV}[h:Fn BB f args pre res]:Fn BN f args pre res:=⟨h.call,h.ok⟩
instance toN_fnM {f:FuncId}{args:List SV}{Φ:Phi}{pre:Prop}{res:SV}{Φ':Phi}[h:FnM BB f args Φ pre res Φ']:FnM BN f args Φ pre res Φ':=⟨h.call,h.ok⟩
def qm7 (t out:List qAD) (s:List Bool) (k:Int):Prop:=qA4 t=true/\s.length=t.length/\(0<=k/\k<t.length)/\out.length+unseen (s.set k.toNat true)+1<=5000
theorem qW1 {q:List Bool}{n:Nat}(hq:q.length=n) (k:Int):(decide (k>=0)&&decide (k<(n:Int)) && !q.getD k.toNat false)=okK q k:=by
  unfold okK;by_cases h1:k<0
  · rw[decide_eq_false (by omega:¬k>=0)];rfl
  · rw [decide_eq_true (by omega:k>=0)]
    by_cases h2:k<(n:Int)
    · rw[decide_eq_true h2]
      have hl:k.toNat<q.length:=by omega
      simp[List.getD,hl]
    · have:q.getD k.toNat true=true:=by
        rw[yA6,yBA (by omega)];rfl
      rw[decide_eq_false h2,this];rfl
theorem qHP (o:List qAD) (p:Nat) (k:Int) (h:p<o.length):((qBA o p k).getD p qAB.dflt).kids=(o.getD p qAB.dflt).kids++[k]:=by
 unfold qBA;rw[yA6,yBC,if_pos rfl,if_pos h];rfl
theorem qNW (o:List qAD) (n:Nat) (k:Int) (h:n<o.length):
  (o.set n ((o.getD n qAB.dflt).1,(o.getD n qAB.dflt).2.1,(o.getD n qAB.dflt).2.2.1,(o.getD n qAB.dflt).2.2.2.1,(o.getD n qAB.dflt).2.2.2.2.1,(o.getD n qAB.dflt).2.2.2.2.2.1,(o.getD n qAB.dflt).2.2.2.2.2.2++[k])).set n
   ((o.set n ((o.getD n qAB.dflt).1,(o.getD n qAB.dflt).2.1,(o.getD n qAB.dflt).2.2.1,(o.getD n qAB.dflt).2.2.2.1,(o.getD n qAB.dflt).2.2.2.2.1,(o.getD n qAB.dflt).2.2.2.2.2.1,(o.getD n qAB.dflt).2.2.2.2.2.2++[k])).getD n qAB.dflt)=qBA o n k:=by
 rw[List.set_set];unfold qBA;congr 1;rw[yA6,yBC,if_pos rfl,if_pos h];rfl
theorem zCE (N:Nat):∀ (t out:List qAD) (s:List Bool) (k up:Int),
  FnM BN 122 [.agg [.rd qAB t],.int .i64 k,.int .i64 up,.agg [.own 0],.own 1] [(0,.nst qAB 6 out none),(1,.ow .bool s)]
   (qm7 t out s k/\unseen (s.set k.toNat true)<N)
   (.agg [.own 0]) [(0,.nst qAB 6 (qH7 t (qAC t) out s k.toNat up) none),(1,.ow .bool (qPA (qAC t) s k.toNat))]:=by
 induction N with
 | zero=>intro t out s k up;exact⟨Tryz.call122,fun h=>absurd h.2 (yCI _)⟩
 | succ N ih=>
  intro t out s k up;refine FnM.intro (N:=99) [0,1,2,3,4,5,8,10,11,12,13,14,48,75] [(12,[0,7,0,0,7,0,4,4,4,0,7,4,4,4,4,4,4]),(3000012,[454,519,779,840,844,909,974,1039])] 2 Tryz.call122 Tryz.func122 rfl rfl (by kernel_rfl) (fun hpre=>?_)
  obtain⟨⟨hsm,hsl,hk,hlen⟩,hN⟩:=hpre
  repeat'((conv=>whnf);first|intro _|refine And.intro ?_ ?_)
  all_goals(try(conv=>whnf))
  all_goals(try first|exact obA|refine Ob.mk ?_)
  all_goals(try simp only[qQ4,qMB,qQN,qMQ,yBN] at *)
  ·have h64:=(qCY hsm k (qBH.2 hk)).1;simp only[cast_eq,yBJ,yCL];change ((nd t k).2.2.2.1.length*32<=_/\(nd t k).2.2.2.1.length<=_);omega
  refine LoopStop.mk (α:=List qAD×List Bool×Nat) (fun a=>[(13,.int .i64 a.2.2)]) (fun a=>[(0,.nst qAB 6 a.1 none),(1,.ow .bool a.2.1)]) 20
   (fun a=>pS t (qAC t) a.1 a.2.1 out.length k.toNat a.2.2=qH7 t (qAC t) out s k.toNat up/\sS (qAC t) a.2.1 k.toNat a.2.2=qPA (qAC t) s k.toNat/\a.2.1.length=t.length/\a.1.length+unseen a.2.1<=5000/\
    out.length<a.1.length/\(a.1.getD out.length qAB.dflt).kids.length<=a.2.2/\a.2.2<=(qAC t k.toNat).length/\unseen a.2.1<=N)
   (fun a=>(qAC t k.toNat).length-a.2.2) (out++[mkN (t.getD k.toNat qAB.dflt) up],s.set k.toNat true,0) ⟨rfl,rfl,by simpa using hsl,by simp only[yBE,yBN];omega,by simp,by simp[mkN,qAD.kids],yCM _,by show unseen (s.set k.toNat true)<=N;omega⟩ ?_ (fun a ha=>?_)
  ·all_goals exact vcA
  ·obtain⟨o,q,j⟩:=a;dsimp only at ha ⊢;obtain⟨h1,h2,h3,h4,h5,h6,h7,h8⟩:=ha
   repeat'((conv=>whnf);first|exact qR|intro _|refine And.intro ?_ ?_|refine Fin.mk ?_)
   all_goals(try(conv=>whnf))
   all_goals(try first|exact obA|refine Ob.mk ?_)
   all_goals(try simp only[yAN] at *)
   ·rename_i c1 c2 c3;have hj:j<(qAC t k.toNat).length:=by have h:=of_decide_eq_true c2;exact yAM.mp h
    have hc:okK q ((qAC t k.toNat).getD j 0)=true:=by rw[<-qW1 h3];exact c3
    refine ZStop.mk [] [(0,.nst qAB 6 (qBA o out.length o.length) none)] 60 ?_;have o1:Ob (0<=(out.length:Int)/\(out.length:Int)<o.length):=Ob.mk ⟨by omega,by omega⟩
    have o2:Ob ((out.length:Int).toNat<o.length):=Ob.mk (by omega)
    have hkl:(qAC t k.toNat).length<=1000:=(qCY hsm k (qBH.2 hk)).2;have o3:Ob (out.length<o.length/\((o.getD out.length qAB.dflt).kids.length+1)*8<=70368744177664/\(o.getD out.length qAB.dflt).kids.length+1<=70368744177664):=Ob.mk ⟨h5,by omega,by omega⟩
    have hok:=qBF hc;have hu:=qBC hok.2.2
    repeat'((conv=>whnf);first|exact qR|intro _|refine And.intro ?_ ?_|refine X3 (W7 rfl ?_ ?_))
    all_goals(try(conv=>whnf))
    all_goals(first|exact o1|exact o2|exact o3|exact Ob.mk rfl|(refine Ob.mk ?_;rw[yBM];first|exact o1.h|exact o2.h)|skip)
    any_goals (refine Rnd.mk (p:=qIU _ _ _ _ _) ?_)
    repeat'((conv=>whnf);first|exact qR|refine And.intro ?_ ?_)
    all_goals(try(conv=>whnf))
    all_goals(try exact congrArg (fun l=>Chunk.nst qAB 6 l none) (qNW o out.length o.length h5))
    ·refine Ob.mk ⟨⟨hsm,h3,⟨hok.1,by have h:=hok.2.1;rw[h3] at h;exact(by omega:(qAC t k.toNat).getD j 0<(t.length:Int))⟩,by rw[qA0];change o.length+unseen (q.set ((qAC t k.toNat).getD j 0).toNat true)+1<=_;omega⟩,by change unseen (q.set ((qAC t k.toNat).getD j 0).toNat true)<N;omega⟩
    ·exact Ob.mk ⟨by omega,by omega⟩
    obtain⟨e1,e2⟩:=qZ9 (t:=t) (out:=o) (p:=out.length) hj hc;rw[e1] at h1;rw[e2] at h2;obtain⟨l1,l2,l3,l4⟩:=qJG (t:=t) (K:=qAC t) (qBA o out.length o.length) q ((qAC t k.toNat).getD j 0).toNat out.length;rw[qA0] at l1 l2 l3;refine Rnd.mk ⟨(qH7 t (qAC t) (qBA o out.length o.length) q ((qAC t k.toNat).getD j 0).toNat out.length,qPA (qAC t) q ((qAC t k.toNat).getD j 0).toNat,j+1),⟨h1,h2,l4.trans h3,by dsimp only;omega,by dsimp only;omega,?_,by show j+1<=_;omega,by dsimp only;omega⟩,by show _-(j+1)<_;omega,?_⟩
    ·dsimp only;rw[l3 _ h5,qHP _ _ _ h5,yBE,yBN];exact yCK h6
    ·all_goals exact vcA
   ·rename_i c1 c2 c3;have hj:j<(qAC t k.toNat).length:=by have h:=of_decide_eq_true c2;exact yAM.mp h
    have hc:okK q ((qAC t k.toNat).getD j 0)=false:=by rw[<-qW1 h3];exact c3
    obtain⟨e1,e2⟩:=qPD (t:=t) (out:=o) (p:=out.length) hj hc;rw[e1] at h1;rw[e2] at h2;refine Rnd.mk ⟨(o,q,j+1),⟨h1,h2,h3,h4,h5,yB9 h6,by show j+1<=_;omega,h8⟩,by show _-(j+1)<_;omega,?_⟩
    all_goals exact vcA
   all_goals(rename_i c1 c2)
   all_goals(have hj:¬j<(qAC t k.toNat).length:=by have h:=of_decide_eq_false c2;exact fun q=>h (yAM.mpr q))
   all_goals(obtain⟨e1,e2⟩:=qOW (t:=t) (out:=o) (p:=out.length) (s:=q) hj;rw[e1] at h1;rw[e2] at h2)
   ·rw[h1]
   ·rw[h2]
instance hPut14 (t out:List qAD) (s:List Bool) (k up:Int):
  FnM BN 122 [.agg [.rd qAB t],.int .i64 k,.int .i64 up,.agg [.own 0],.own 1] [(0,.nst qAB 6 out none),(1,.ow .bool s)] (qm7 t out s k)
   (.agg [.own 0]) [(0,.nst qAB 6 (qH7 t (qAC t) out s k.toNat up) none),(1,.ow .bool (qPA (qAC t) s k.toNat))]:=
 have h:=zCE (unseen (s.set k.toNat true)+1) t out s k up
 ⟨h.call,fun hp=>h.ok ⟨hp,yCD _⟩⟩
end Go.Vc

namespace Go.Vc
open Go.Proofs
set_option maxRecDepth 10000
set_option maxHeartbeats 4000000
instance hPut0 (t:List qAD) (s:List Bool) (k up:Int):
  FnM BN 122 [.agg [.rd qAB t],.int .i64 k,.int .i64 up,.agg [.nils],.own 0] [(0,.own .bool s)] (qm7 t [] s k)
   (.agg [.own 1]) [(1,.nst qAB 6 (qH7 t (qAC t) [] s k.toNat up) none)]:=by
  refine FnM.intro (N:=99) [0,1,2,3,4,5,8,10,11,12,13,14,48,75] [(12,[0,7,0,0,7,0,4,4,4,0,7,4,4,4,4,4,4]),(3000012,[454,519,779,840,844,909,974,1039]),(2000000,[0])] 1 Tryz.call122 Tryz.func122 rfl rfl (by kernel_rfl) (fun hpre=>?_)
  obtain⟨hsm,hsl,hk,hlen⟩:=hpre;simp only[yBJ,yCL] at hlen
  repeat'((conv=>whnf);first|exact qR|intro _|refine WA ?_ ?_|refine WF ?_|refine W1 rfl ?_ ?_|refine W2 rfl ?_ ?_|refine W3 rfl ?_ ?_|refine W4 ?_ ?_|refine W5 rfl ?_ ?_|refine W6 ?_ ?_|refine AppN.ns ?_|refine X1 (W1 rfl ?_ ?_)|refine X1 (W2 rfl ?_ ?_)|refine X2 (W7 rfl ?_ ?_)|refine X3 (W7 rfl ?_ ?_)|refine X4 (W7 rfl ?_ ?_)|refine X5 (W7 rfl ?_ ?_))
  all_goals(try(conv=>whnf))
  all_goals(try first|exact obA|refine Ob.mk ?_)
  all_goals(try simp only[qQ4,qMB,qQN,qMQ,yBN] at *)
  ·have h64:=(qCY hsm k (qBH.2 hk)).1;simp only[cast_eq,yBJ,yCL];change ((nd t k).2.2.2.1.length*32<=_/\(nd t k).2.2.2.1.length<=_);omega
  refine LoopStop.mk (α:=List qAD×List Bool×Nat) (fun a=>[(13,.int .i64 a.2.2)]) (fun a=>[(6,.nst qAB 6 a.1 none),(0,.ow .bool a.2.1)]) 20
   (fun a=>pS t (qAC t) a.1 a.2.1 0 k.toNat a.2.2=qH7 t (qAC t) [] s k.toNat up/\sS (qAC t) a.2.1 k.toNat a.2.2=qPA (qAC t) s k.toNat/\a.2.1.length=t.length/\a.1.length+unseen a.2.1<=5000/\
    0<a.1.length/\(a.1.getD 0 qAB.dflt).kids.length<=a.2.2/\a.2.2<=(qAC t k.toNat).length)
   (fun a=>(qAC t k.toNat).length-a.2.2) ([]++[mkN (t.getD k.toNat qAB.dflt) up],s.set k.toNat true,0) ⟨rfl,rfl,by simpa using hsl,by simp only[yBE,yBN,yBJ];omega,by simp,by simp[mkN,qAD.kids],yCM _⟩ ?_ (fun a ha=>?_)
  ·all_goals exact vcA
  ·obtain⟨o,q,j⟩:=a;dsimp only at ha ⊢;obtain⟨h1,h2,h3,h4,h5,h6,h7⟩:=ha
   repeat'((conv=>whnf);first|exact qR|intro _|refine And.intro ?_ ?_|refine Fin.mk ?_)
   all_goals(try(conv=>whnf))
   all_goals(try first|exact obA|refine Ob.mk ?_)
   all_goals(try simp only[yAN] at *)
   ·rename_i c1 c2 c3;have hj:j<(qAC t k.toNat).length:=by have h:=of_decide_eq_true c2;exact yAM.mp h
    have hc:okK q ((qAC t k.toNat).getD j 0)=true:=by rw[<-qW1 h3];exact c3
    refine ZStop.mk [] [(6,.nst qAB 6 (qBA o 0 o.length) none)] 60 ?_;have o1:Ob (0<=(0:Int)/\(0:Int)<o.length):=Ob.mk ⟨by omega,by omega⟩
    have o2:Ob ((0:Int).toNat<o.length):=Ob.mk (by omega)
    have hkl:(qAC t k.toNat).length<=1000:=(qCY hsm k (qBH.2 hk)).2;have o3:Ob (0<o.length/\((o.getD 0 qAB.dflt).kids.length+1)*8<=70368744177664/\(o.getD 0 qAB.dflt).kids.length+1<=70368744177664):=Ob.mk ⟨h5,by omega,by omega⟩
    have hok:=qBF hc;have hu:=qBC hok.2.2
    repeat'((conv=>whnf);first|exact qR|intro _|refine And.intro ?_ ?_|refine X3 (W7 rfl ?_ ?_))
    all_goals(try(conv=>whnf))
    all_goals(first|exact o1|exact o2|exact o3|exact Ob.mk rfl|(refine Ob.mk ?_;rw[yBM];first|exact o1.h|exact o2.h)|skip)
    any_goals (refine Rnd.mk (p:=qIU _ _ _ _ _) ?_)
    repeat'((conv=>whnf);first|exact qR|refine And.intro ?_ ?_)
    all_goals(try(conv=>whnf))
    all_goals(try exact congrArg (fun l=>Chunk.nst qAB 6 l none) (qNW o 0 o.length h5))
    ·refine Ob.mk ⟨hsm,h3,⟨hok.1,by have h:=hok.2.1;rw[h3] at h;exact(by omega:(qAC t k.toNat).getD j 0<(t.length:Int))⟩,by rw[qA0];change o.length+unseen (q.set ((qAC t k.toNat).getD j 0).toNat true)+1<=_;omega⟩
    ·exact Ob.mk ⟨by omega,by omega⟩
    obtain⟨e1,e2⟩:=qZ9 (t:=t) (out:=o) (p:=0) hj hc;rw[e1] at h1;rw[e2] at h2;obtain⟨l1,l2,l3,l4⟩:=qJG (t:=t) (K:=qAC t) (qBA o 0 o.length) q ((qAC t k.toNat).getD j 0).toNat 0;rw[qA0] at l1 l2 l3;refine Rnd.mk ⟨(qH7 t (qAC t) (qBA o 0 o.length) q ((qAC t k.toNat).getD j 0).toNat 0,qPA (qAC t) q ((qAC t k.toNat).getD j 0).toNat,j+1),⟨h1,h2,l4.trans h3,by dsimp only;omega,by dsimp only;omega,?_,by show j+1<=_;omega⟩,by show _-(j+1)<_;omega,?_⟩
    ·dsimp only;rw[l3 _ h5,qHP _ _ _ h5,yBE,yBN];exact yCK h6
    ·all_goals exact vcA
   ·rename_i c1 c2 c3;have hj:j<(qAC t k.toNat).length:=by have h:=of_decide_eq_true c2;exact yAM.mp h
    have hc:okK q ((qAC t k.toNat).getD j 0)=false:=by rw[<-qW1 h3];exact c3
    obtain⟨e1,e2⟩:=qPD (t:=t) (out:=o) (p:=0) hj hc;rw[e1] at h1;rw[e2] at h2;refine Rnd.mk ⟨(o,q,j+1),⟨h1,h2,h3,h4,h5,yB9 h6,by show j+1<=_;omega⟩,by show _-(j+1)<_;omega,?_⟩
    all_goals exact vcA
   all_goals(rename_i c1 c2)
   all_goals(have hj:¬j<(qAC t k.toNat).length:=by have h:=of_decide_eq_false c2;exact fun q=>h (yAM.mpr q))
   all_goals(obtain⟨e1,e2⟩:=qOW (t:=t) (out:=o) (p:=0) (s:=q) hj;rw[e1] at h1;rw[e2] at h2)
   ·rw[h1]
end Go.Vc

namespace Go.Vc
open Go.Proofs
set_option maxRecDepth 10000
set_option maxHeartbeats 4000000
def qCL (t:List qAD):List qAD:=if t=[] then[qAJ] else qH7 t (qAC t) [] (List.replicate t.length false) 0 (-1)
theorem qGQ (s:List Bool):unseen s<=s.length:=yAW
theorem qd5 {t:List qAD}(h:qA4 t=true) (h0:¬((t.length:Int)==0)=true):qm7 t [] (List.replicate t.length false) 0:=by
 have h1:0<t.length:=by
  rcases Nat.eq_zero_or_pos t.length with h|h
  ·exact absurd (by rw[h];rfl) h0
  ·exact h
 have h2:=qFN h;have h3:=qGQ ((List.replicate t.length false).set 0 true);rw[yBM,yBL] at h3;refine⟨h,yBL,⟨Int.le_refl 0,by omega⟩,?_⟩
 show 0+unseen ((List.replicate t.length false).set 0 true)+1<=5000;omega
theorem qYV {t:List qAD}(h0:((t.length:Int)==0)=true):qCL t=[qAJ]:=by
 have h1:t.length=0:=by have:=eq_of_beq h0;omega
 unfold qCL;rw[if_pos (yBH.1 h1)]
theorem qdA {t:List qAD}(h0:¬((t.length:Int)==0)=true):qCL t=qH7 t (qAC t) [] (List.replicate t.length false) 0 (-1):=by
 unfold qCL;rw[if_neg (fun h=>h0 (by rw[h];rfl))]
instance hTidyN (t:List qAD):FnM BN 69 [.agg [.rd qAB t]] [] (qA4 t=true) (.agg [.rd qAB (qCL t)]) []:=by
 refine FnM.intro (N:=15) [0,1,2,6] [(3,[4,4,0,4,4,4,4,4])] 0 Tryz.call69 Tryz.func69 rfl rfl (by kernel_rfl) (fun hpre=>?_)
 repeat'((conv=>whnf);first|exact qR|intro _|refine WA ?_ ?_|refine WF ?_|refine X2 (W7 rfl ?_ ?_)|refine X3 (W7 rfl ?_ ?_))
 all_goals(try(conv=>whnf))
 all_goals(try first|exact obA|refine Ob.mk ?_)
 ·rw[qYV ‹_›]
 all_goals(have h0:¬((t.length:Int)==0)=true:=by rw[show((t.length:Int)==0)=false from by assumption];decide)
 all_goals(first|exact qd5 hpre h0|(rw[qdA h0];rfl)|(have:=qFN hpre;refine⟨by omega,by omega,?_,by omega⟩;show(t.length:Int)*((1:Nat):Int)<=_;omega))
instance hTidy14 (t:List qAD):FnM BB 69 [.agg [.rd qAB t]] [] (qA4 t=true) (.agg [.rd qAB (qCL t)]) []:=
 have h:=hTidyN t
 ⟨h.call,h.ok⟩
end Go.Vc

namespace Go.Vc
open Go.Proofs
set_option maxRecDepth 10000
instance f40 (k s:Int) (nm:List UInt8) (at_:List qAY) (d:List UInt8) (up:Int) (kids:List Int) (k' s':Int) (nm':List UInt8) (at_':List qAY) (d':List UInt8) (up':Int) (kids':List Int):
  Fn BB 82 [.agg [.int .i64 k,.int .i64 s,.str nm,.rd qA2 at_,.str d,.int .i64 up,.rd qAL kids],.agg [.int .i64 k',.int .i64 s',.str nm',.rd qA2 at_',.str d',.int .i64 up',.rd qAL kids']]
   True (.bool (eqB (α:=qAD) (k,s,nm,at_,d,up,kids) (k',s',nm',at_',d',up',kids'))):=by
 refine Fn.intro (N:=71) [0,1,2,3,4,5,47,52,65] [(6,[0,1,0,1,1,0,1,0,1,1,3])] Tryz.call82 Tryz.func82 rfl rfl (by kernel_rfl) (fun hpre=>?_)
 repeat'((conv=>whnf);first|exact qR|intro _|refine And.intro ?_ ?_|refine Fin.mk ?_)
 all_goals(try(conv=>whnf))
 ·rename_i h;refine qGN fun e=>?_
  simp only[Prod.mk.injEq] at e;obtain⟨rfl,rfl,rfl,rfl,rfl,rfl,rfl⟩:=e;simp at h
 ·rename_i h;simp only[yAH,bne_eq_false_iff_eq,yAE,beq_iff_eq] at h;obtain⟨⟨⟨⟨⟨rfl,rfl⟩,rfl⟩,rfl⟩,rfl⟩,hl⟩:=h;refine LoopStop.mk (α:=Nat) (fun i=>[(5,.int .i64 i)]) (fun _=>[]) 20 (fun i=>i<=kids.length/\kids.take i=kids'.take i) (fun i=>kids.length-i) 0 (by simp) ?_ (fun i hi=>?_)
  ·repeat'((conv=>whnf);first|exact qR|refine And.intro ?_ ?_)
   all_goals(try(conv=>whnf))
   all_goals(try rfl)
  ·obtain⟨hi,ha⟩:=hi
   repeat'((conv=>whnf);first|exact qR|intro _|refine WA ?_ ?_|refine WF ?_|refine X1 (W1 rfl ?_ ?_))
   all_goals(try(conv=>whnf))
   all_goals(try first|exact obA|refine Ob.mk ?_)
   all_goals(simp only[decide_eq_true_eq,decide_eq_false_iff_not,bne_eq_false_iff_eq,bne_iff_ne,ne_eq,yAF,yAE,yAB] at *)
   ·rename_i h;refine qGN fun e=>h ?_
    simp only[Prod.mk.injEq] at e;rw[e.2.2.2.2.2.2]
   ·rename_i h;have hil:i<kids.length:=by omega
    refine Rnd.mk ⟨i+1,?_,?_,?_⟩
    ·exact⟨by omega,qG1 (d:=qAL.dflt) hil (by omega) ha h⟩
    ·omega
    ·all_goals exact vcA
   ·have hk:i=kids.length:=by omega
    subst hk;rw[yB2,yB3 (by omega)] at ha
    subst ha;by_cases he:at_=at_'
    ·subst he;rw[decide_eq_true rfl];exact qYI rfl
    ·rw[decide_eq_false he];refine qGN fun e=>he ?_
     simp only[Prod.mk.injEq] at e;exact e.2.2.2.1
instance f16 (a b:List qAD):Fn BB 21 [.agg [.rd qAB a],.agg [.rd qAB b]] True (.bool (eqB a b)):=by
 refine Fn.intro (N:=32) [0,1,2,3,4,5,12,17,31] [(6,[0,1,0,1,1,0,1,0,1,1,3,3])] Tryz.call21 Tryz.func21 rfl rfl (by kernel_rfl) (fun hpre=>?_)
 repeat'((conv=>whnf);first|exact qR|intro _|refine And.intro ?_ ?_|refine Fin.mk ?_)
 all_goals(try(conv=>whnf))
 ·refine qGN fun e=>?_
  subst e;simp_all
 ·refine LoopStop.mk (α:=Nat) (fun i=>[(5,.int .i64 i)]) (fun _=>[]) 20 (fun i=>i<=a.length/\a.take i=b.take i) (fun i=>a.length-i) 0 (by simp) ?_ (fun i hi=>?_)
  ·repeat'((conv=>whnf);first|exact qR|refine And.intro ?_ ?_)
   all_goals(try(conv=>whnf))
   all_goals(try rfl)
  ·obtain⟨hi,ha⟩:=hi
   repeat'((conv=>whnf);first|exact qR|intro _|refine WA ?_ ?_|refine WF ?_|refine X1 (W1 rfl ?_ ?_))
   all_goals(try(conv=>whnf))
   all_goals(try first|exact obA|refine Ob.mk ?_)
   all_goals(simp only[decide_eq_true_eq,decide_eq_false_iff_not,bne_eq_false_iff_eq,bne_iff_ne,ne_eq,yAF,yAE,yAB] at *)
   ·rename_i h;have h:=qoA.1 h;refine qGN fun e=>h ?_
    rw[e]
   ·rename_i h;have h:=qdR.1 h;have hil:i<a.length:=by omega
    refine Rnd.mk ⟨i+1,?_,?_,?_⟩
    ·exact⟨by omega,qG1 (d:=qAB.dflt) hil (by omega) ha h⟩
    ·omega
    ·all_goals exact vcA
   ·have hk:i=a.length:=by omega
    subst hk;rw[yB2,yB3 (by omega)] at ha
    exact qYI ha
end Go.Vc

namespace Go.Vc
open Go.Proofs
open Go.Vc.W
set_option maxRecDepth 10000
set_option maxHeartbeats 4000000
theorem qM4 {t:List qAD}{m:Int}(h:qB8 t m=true) (i:Int) (hi:0<=i/\i<t.length):qNZ (nd t i)=true:=by
 unfold qB8 at h;rw[yAA,yAQ] at h;refine h.2 _ ?_;have e:nd t i=t[i.toNat]'(by omega):=by unfold nd;rw[yA6,yA9 (by omega)];rfl
 rw[e];exact yBD _
theorem qdX {t:List qAD}{m:Int}(h:qB8 t m=true):(t.length:Int)<=m:=by
 unfold qB8 at h;rw[yAA,decide_eq_true_eq] at h;exact h.1
theorem qD7 {n:qAD}(h:qNZ n=true):n.2.2.1.length<=40/\n.2.2.2.1.length<=14/\n.2.2.2.2.1.length<=300/\n.kids.length<=60:=by
 unfold qNZ qIB at h;simp only[yAA,decide_eq_true_eq] at h;omega
end Go.Vc

namespace Go.Vc
open Go.Proofs
set_option autoImplicit false
inductive Fo where
 | nil
 | cons (a:Nat) (c r:Fo)
def Fo.size:Fo->Nat
 | .nil=>0
 | .cons _ c r=>1+c.size+r.size
def Fo.lab:Fo->List Nat
 | .nil=>[]
 | .cons a c r=>a::(c.lab++r.lab)
theorem qEY:∀ f:Fo,f.lab.length=f.size
 | .nil=>rfl
 | .cons a c r=>by simp only[Fo.lab,Fo.size,yBF,yBE,qEY c,qEY r];omega
def qcQ:Nat->Fo->List Int
 | _,.nil=>[]
 | n,.cons _ c r=>(n:Int)::qcQ (n+1+c.size) r
def re:Nat->Fo->Fo
 | _,.nil=>.nil
 | n,.cons _ c r=>.cons n (re (n+1) c) (re (n+1+c.size) r)
inductive D (K:Nat->List Int):List Bool->Nat->Nat->Fo->List Bool->Prop
  | done {s i j}(h:¬j<(K i).length):D K s i j .nil s
  | bad {s i j f s'}(h:j<(K i).length) (hk:okK s ((K i).getD j 0)=false) (d:D K s i (j+1) f s'):D K s i j f s'
  | ok {s i j f r s1 s'}(h:j<(K i).length) (hk:okK s ((K i).getD j 0)=true) (d1:D K (s.set ((K i).getD j 0).toNat true) ((K i).getD j 0).toNat 0 f s1) (d2:D K s1 i (j+1) r s'):
      D K s i j (.cons ((K i).getD j 0).toNat f r) s'
def evF:Nat->Fo->Nat->List Ev
 | i,.nil,c=>[(i,0,c,true)]
 | i,.cons a f r,c=>(a,(i:Int),c,false)::(evF a f (c+1)++evF i r (c+2+2*f.size))
variable {K:Nat->List Int}
theorem qn2 {s i j f s'}(d:D K s i j f s'):∀ c,dfs K s i j c=(evF i f c,s',c+1+2*f.size):=by
 induction d with
 | done h=>intro c;rw[qDS h];rfl
 | bad h hk d ih=>intro c;rw[qDR h hk];exact ih c
 | @ok s i j f r s1 s' h hk d1 d2 ih1 ih2=>
  intro c;rw[qGK h hk,ih1];dsimp only;rw[ih2,show c+1+1+2*f.size=c+2+2*f.size by omega]
  simp only[evF,Fo.size];rw[show c+2+2*f.size+1+2*r.size=c+1+2*(1+f.size+r.size) by omega]
theorem zAR:∀ (s:List Bool) (i j:Nat),∃ f s',D K s i j f s':=by
 intro s i j;refine qGV (K:=K) (P:=fun s i j _=>∃ f s',D K s i j f s') ?_ ?_ ?_ s i j 0
 ·intro s i j c h;exact⟨_,_,.done h⟩
 ·rintro s i j c h hk ⟨f,s',d⟩;exact⟨_,_,.bad h hk d⟩
 ·rintro s i j c h hk ⟨f,s1,d1⟩ ⟨r,s',d2⟩;rw[qn2 d1] at d2;exact⟨_,_,.ok h hk d1 d2⟩
theorem qBM (s:List Bool) (k q:Nat):(s.set k true).getD q true=(s.getD q true||decide (q=k)):=by
 rw[yA6,yBC,yA6];by_cases h:k=q
 ·subst h;rw[if_pos rfl,decide_eq_true rfl,yAK];split<;>rfl
 ·rw[if_neg h,decide_eq_false (fun e=>h e.symm),yAJ]
theorem qOA {s i j f s'}(d:D K s i j f s'):s'.length=s.length/\f.lab.Nodup/\(∀ a∈f.lab,s.getD a true=false)/\∀ q,s'.getD q true=(s.getD q true||decide (q∈f.lab)):=by
 induction d with
 | done h=>exact⟨rfl,yBY,fun a ha=>(by cases ha),fun q=>by simp[Fo.lab]⟩
 | bad h hk d ih=>exact ih
 | @ok s i j f r s1 s' h hk d1 d2 ih1 ih2=>
  obtain⟨l1,n1,u1,q1⟩:=ih1;obtain⟨l2,n2,u2,q2⟩:=ih2;have hk2:=qBF hk;have hks:s.getD ((K i).getD j 0).toNat true=false:=by rw[yA6,hk2.2.2];rfl
  generalize ((K i).getD j 0).toNat=k at *;have a1:∀ a∈f.lab,s.getD a true=false/\a≠k:=fun a ha=>by
   have:=u1 a ha;rw[qBM,yAH,decide_eq_false_iff_not] at this;exact this
  have a2:∀ a∈r.lab,s.getD a true=false/\a≠k/\a∉f.lab:=fun a ha=>by
   have:=u2 a ha;rw[q1,qBM] at this;simp only[yAH,decide_eq_false_iff_not] at this;exact⟨this.1.1,this.1.2,this.2⟩
  refine⟨by rw[l2,l1,yBM],?_,?_,fun q=>?_⟩
  ·simp only[Fo.lab,yBX,yBQ,yBW];exact⟨fun h=>h.elim (fun h=>(a1 k h).2 rfl) (fun h=>(a2 k h).2.1 rfl),n1,n2,fun a ha b hb e=>(a2 b hb).2.2 (e▸ha)⟩
  ·intro a ha;simp only[Fo.lab,yBR,yBQ] at ha;rcases ha with rfl|ha|ha
   ·exact hks
   ·exact(a1 a ha).1
   ·exact(a2 a ha).1
  ·rw[q2,q1,qBM];simp only[Fo.lab,yBR,yBQ,Bool.decide_or,Bool.or_assoc]
def Kin (K:Nat->List Int):Nat->Fo->Prop
 | _,.nil=>True
 | i,.cons a c r=>(a:Int)∈K i/\Kin K a c/\Kin K i r
theorem qrR {s i j f s'}(d:D K s i j f s'):Kin K i f:=by
 induction d with
 | done h=>exact True.intro
 | bad h hk d ih=>exact ih
 | @ok s i j f r s1 s' h hk d1 d2 ih1 ih2=>
  refine⟨?_,ih1,ih2⟩;rw[yAO (qBF hk).1,yA6,yA9 h];exact yBD _
def qL3 (t:List qAD):Fo->List qAD->Nat->List qAD
 | .nil,out,_=>out
 | .cons a c r,out,p=>qL3 t r (qL3 t c (qBA out p out.length++[mkN (t.getD a qAB.dflt) p]) out.length) p
theorem zFX {s i j f s'}(d:D K s i j f s') (t:List qAD):∀ (out:List qAD) (p:Nat),pS t K out s p i j=qL3 t f out p/\sS K s i j=s':=by
 induction d with
 | done h=>intro out p;exact qOW h
 | bad h hk d ih=>intro out p;obtain⟨e1,e2⟩:=qPD (t:=t) (out:=out) (p:=p) h hk;rw[e1,e2];exact ih out p
 | @ok s i j f r s1 s' h hk d1 d2 ih1 ih2=>
  intro out p;obtain⟨e1,e2⟩:=qZ9 (t:=t) (out:=out) (p:=p) h hk;rw[e1,e2];have hS:qPA K s ((K i).getD j 0).toNat=s1:=(ih1 [] 0).2;have hO:qH7 t K (qBA out p out.length) s ((K i).getD j 0).toNat p=qL3 t f (qBA out p out.length++[mkN (t.getD ((K i).getD j 0).toNat qAB.dflt) p]) out.length:=by
   unfold qH7;rw[qA0];exact(ih1 _ _).1
  rw[hS,hO];exact ih2 _ _
def qIJ (n:qAD) (ks:List Int):qAD:=(n.1,n.2.1,n.2.2.1,n.2.2.2.1,n.2.2.2.2.1,n.2.2.2.2.2.1,ks)
def Lay (t u:List qAD):Fo->Nat->Nat->Prop
 | .nil,_,_=>True
 | .cons a c r,n,p=>u.getD n qAB.dflt=qIJ (mkN (t.getD a qAB.dflt) p) (qcQ (n+1) c)/\Lay t u c (n+1) n/\Lay t u r (n+1+c.size) p
theorem qSJ (t:List qAD):∀ (f:Fo) (out:List qAD) (p:Nat),(qL3 t f out p).length=out.length+f.size:=by
 intro f
 induction f with
 | nil=>intro out p;rfl
 | cons a c r ic ir=>
  intro out p;simp only[qL3,Fo.size];rw[ir,ic,yBE,qA0,yBN];omega
theorem qYU (o:List qAD) (p:Nat) (k:Int) (h:p<o.length):(qBA o p k).getD p qAB.dflt=qH4 (o.getD p qAB.dflt) k:=by
 unfold qBA;rw[yA6,yBC,if_pos rfl,if_pos h];rfl
theorem qY9 (o:List qAD) (p q:Nat) (k:Int) (h:q≠p):(qBA o p k).getD q qAB.dflt=o.getD q qAB.dflt:=by
 unfold qBA;rw[yA6,yBC,if_neg (fun e=>h e.symm),yA6]
theorem qQJ (o:List qAD) (x:qAD) (q:Nat) (h:q<o.length):(o++[x]).getD q qAB.dflt=o.getD q qAB.dflt:=by
 rw[yA6,yA7 h, <-yA6]
theorem qJA (o:List qAD) (x:qAD):(o++[x]).getD o.length qAB.dflt=x:=by
 rw[yA6,yA8 (yB8 _),yCJ];rfl
theorem zDM {t u:List qAD}:∀ (f:Fo) (n p j:Nat) (s:List Bool),Lay t u f n p->s.length=u.length->n+f.size<=u.length->((u.getD p qAB.dflt).kids).drop j=qcQ n f->(∀ q,n<=q->q<n+f.size->s.getD q true=false)->
  ∃ s',D (fun i=>(u.getD i qAB.dflt).kids) s p j (re n f) s'/\s'.length=s.length/\∀ q,(q<n\/n+f.size<=q)->s'.getD q true=s.getD q true:=by
 intro f
 induction f with
 | nil=>
  intro n p j s _ hs hn hd hu;refine⟨s,.done ?_,rfl,fun q _=>rfl⟩
  show ¬j<((u.getD p qAB.dflt).kids).length;have:=congrArg List.length hd;rw[yBG] at this;simp only[qcQ,yBJ] at this;omega
 | cons a c r ic ir=>
  intro n p j s hl hs hn hd hu;obtain⟨h1,h2,h3⟩:=hl;simp only[Fo.size] at hn hu;have hj:j<((u.getD p qAB.dflt).kids).length:=by
   have:=congrArg List.length hd;rw[yBG] at this;simp only[qcQ,yBF] at this;omega
  have hdc:=yAZ hj;rw[hd] at hdc;simp only[qcQ,List.cons.injEq] at hdc;have hg:((u.getD p qAB.dflt).kids).getD j 0=(n:Int):=by rw[yA6,yA9 hj];exact hdc.1.symm
  have hok:okK s (((u.getD p qAB.dflt).kids).getD j 0)=true:=by
   rw[hg];unfold okK;rw[decide_eq_true (by omega),yAN,hu n (yB8 _) (by omega)];rfl
  have hkn:(u.getD n qAB.dflt).kids=qcQ (n+1) c:=by rw[h1];rfl
  obtain⟨s1,d1,l1,q1⟩:=ic (n+1) n 0 (s.set n true) h2 (by rw[yBM];exact hs) (by omega) (by rw[hkn];rfl) (fun q a1 a2=>by
   rw[qBM,hu q (by omega) (by omega),decide_eq_false (by omega)];rfl)
  have hs1:∀ q,n+1+c.size<=q->s1.getD q true=s.getD q true:=fun q hq=>by
   rw[q1 q (.inr hq),qBM,decide_eq_false (by omega),yAJ]
  obtain⟨s',d2,l2,q2⟩:=ir (n+1+c.size) p (j+1) s1 h3 (by rw[l1,yBM];exact hs) (by omega) hdc.2.symm (fun q a1 a2=>by
   rw[hs1 q a1];exact hu q (by omega) (by omega))
  refine⟨s',?_,by rw[l2,l1,yBM],fun q hq=>?_⟩
  ·have d:=D.ok (K:=fun i=>(u.getD i qAB.dflt).kids) (i:=p) (j:=j) hj hok (by rw[hg,yAN];exact d1) d2
   have he:(((u.getD p qAB.dflt).kids).getD j 0).toNat=n:=by rw[hg];rfl
   have e2:re n (Fo.cons a c r)=Fo.cons ((((fun i=>(u.getD i qAB.dflt).kids) p).getD j 0).toNat) (re (n+1) c) (re (n+1+c.size) r):=by rw[show(((fun i=>(u.getD i qAB.dflt).kids) p).getD j 0).toNat=n from he];rfl
   rw[e2];exact d
  ·simp only[Fo.size] at hq;rw[q2 q (by omega)]
   rcases hq with hq|hq
   ·rw[q1 q (.inl (by omega)),qBM,decide_eq_false (by omega),yAJ]
   ·exact hs1 q (by omega)
end Go.Vc

namespace Go.Vc
open Go.Proofs
set_option autoImplicit false
structure Laid (t u:List qAD) (f:Fo):Prop where
 len:u.length=1+f.size
 kids:(u.getD 0 qAB.dflt).kids=qcQ 1 f
 up:(u.getD 0 qAB.dflt).up = -1
 lay:Lay t u f 1 0
def s0 (n:Nat):List Bool:=(List.replicate n false).set 0 true
theorem qpU {K:Nat->List Int}{s s':List Bool}{k:Nat}{f:Fo}(t:List qAD) (d:D K (s.set k true) k 0 f s') (up:Int):qH7 t K [] s k up=qL3 t f [mkN (t.getD k qAB.dflt) up] 0:=(zFX d t _ _).1
theorem qdP (n q:Nat):(List.replicate n false).getD q true=decide (n<=q):=by
 rw[yA6,yBB];by_cases h:q<n
 ·rw[if_pos h,decide_eq_false (by omega)];rfl
 ·rw[if_neg h,decide_eq_true (by omega)];rfl
theorem qTY (n q:Nat):(s0 n).getD q true=(decide (n<=q)||decide (q=0)):=by
 unfold s0;rw[qBM,qdP]
theorem qf7 {t u:List qAD}{g:Fo}{k:Nat}(hl:Lay t u g (k+1) k) (hk:(u.getD k qAB.dflt).kids=qcQ (k+1) g) (hn:k+1+g.size<=u.length):
  ∃ s',D (qAC u) ((List.replicate u.length false).set k true) k 0 (re (k+1) g) s':=by
 obtain⟨s',d,_⟩:=zDM g (k+1) k 0 ((List.replicate u.length false).set k true) hl (by simp) hn (by rw[hk];rfl) (fun q h1 h2=>by
  rw[qBM,qdP,decide_eq_false (by omega),decide_eq_false (by omega)];rfl)
 exact⟨s',d⟩
theorem qsI {t u:List qAD}{f:Fo}(h:Laid t u f):∃ s',D (qAC u) (s0 u.length) 0 0 (re 1 f) s':=qf7 (k:=0) h.lay h.kids (by rw[h.len];omega)
theorem qmR {t u:List qAD}{f:Fo}(h:Laid t u f):u≠[]:=fun e=>by have:=h.len;rw[e] at this;simp at this;omega
end Go.Vc

namespace Go.Vc
open Go.Proofs
set_option maxRecDepth 10000
set_option maxHeartbeats 4000000
def qpF (l:List qAD):List qAD:=l.set 0 (0,0,[],[],[], -1,(l.getD 0 qAB.dflt).kids)
def qlD (x:List qAD) (k:Nat):List qAD:=qpF (qH7 x (qAC x) [] (List.replicate x.length false) k (-1))
def qaY (l:List Int) (i:Int):Option Nat:=(List.range l.length).find? fun k=>l.getD k 0==i
def qjQ (t:List qAD) (i:Int):List qAD:=match qaY (qCJ (fin t).L) i with|some k=>qlD (qCL t) k|none=>[qAJ]
theorem qgV {l:List Int}{i:Int}{k:Nat}(hk:k<l.length) (h:l.getD k 0=i) (h0:∀ j,j<k->l.getD j 0≠i):qaY l i=some k:=by
 unfold qaY;rw[List.find?_eq_some_iff_append];refine⟨by rw[h];simp,List.range k,(List.range' (k+1) (l.length-(k+1))),?_,fun a ha=>?_⟩
 ·rw[yB0,yB0,show l.length=k+(1+(l.length-(k+1))) by omega, <-yBZ, <-yBZ]
  simp;omega
 ·simpa using h0 a (by simpa using ha)
theorem qOT {l:List Int}{i:Int}(h0:∀ j,j<l.length->l.getD j 0≠i):qaY l i=none:=by
 unfold qaY;rw[List.find?_eq_none];intro a ha;simpa using h0 a (by simpa using ha)
def qZG (t:List qAD):Prop:=qA4 t=true/\t.length<=45/\qA4 (qCL t)=true/\(fin t).L.length<=(qCL t).length/\(qCL t).length<=1000
instance hSubN (t:List qAD) (i:Int):FnM BN 116 [.agg [.rd qAB t],.int .i64 i] [] (qZG t) (.agg [.rd qAB (qjQ t i)]) []:=by
 refine FnM.intro (N:=67) [0,1,2,4,5,7,8,9,10,30,39,47] [(10,[0,0,6,0,0,0,6,6,6,6]),(11,[0,1,0,1,1,1,1,1,3,3])] 0 Tryz.call116 Tryz.func116 rfl rfl (by kernel_rfl) (fun hpre=>?_)
 obtain⟨h1,h2,h3,h4,h5⟩:=hpre;have d:=qMA (qAC t) t.length;have hlI:(fin t).I.length=t.length:=d.lI;have hll:(qCJ (fin t).L).length=(fin t).L.length:=by unfold qCJ;rw[List.length_map]
 have hL:(fin t).L.length<=45:=by have:=qCX d.nod d.lt;have e:(qTP (qAC t) t.length).L=(fin t).L:=rfl;rw[e] at this;omega
 have pp:∀ k:Nat,k<(fin t).L.length->qm7 (qCL t) [] (List.replicate (qCL t).length false) (k:Int):=fun k hk=>by
  have h:=qGQ ((List.replicate (qCL t).length false).set (k:Int).toNat true);rw[yBM,yBL] at h;exact⟨h3,yBL,⟨by omega,by omega⟩,by show 0+_+1<=5000;omega⟩
 have hin:∀ j,j<(qCJ (fin t).L).length->(qCJ (fin t).L).getD j 0=i->0<=i/\i<((fin t).I.length:Int)/\¬(fin t).I.getD i.toNat qAL.dflt<0:=fun j hj e=>by
  rw[hll] at hj;have hm:(fin t).L.getD j 0∈(fin t).L:=by rw[yA6,yA9 hj];exact yBD _
  have e2:(qCJ (fin t).L).getD j 0=((fin t).L.getD j 0:Nat):=by unfold qCJ;simp[List.getD,hj]
  have e3:i.toNat=(fin t).L.getD j 0:=by omega
  have hlt:=d.lt _ hm;have hr:=d.rI _ hm;have e4:(fin t).I.getD i.toNat qAL.dflt=(qTP (qAC t) t.length).I.getD ((fin t).L.getD j 0) (-1):=by
   rw[e3];show(fin t).I.getD _ _=(fin t).I.getD _ _;simp[List.getD,show(fin t).L[j]?.getD 0<(fin t).I.length by rw[hlI];exact hlt]
  rw[e4,hlI];have hlt2:(fin t).L.getD j 0<t.length:=hlt;omega
 repeat'((conv=>whnf);first|exact qR|intro _|refine WA ?_ ?_|refine WF ?_|refine X1 (W2 rfl ?_ ?_)|refine X2 (W7 rfl ?_ ?_))
 all_goals(try(conv=>whnf))
 all_goals(try first|exact obA|refine Ob.mk ?_)
 ·have h:=‹(decide (i<0)||decide (i>=((fin t).I.length:Int)))=false›
  simp only[yAH,decide_eq_false_iff_not] at h;omega
 ·have h:=‹(decide (i<0)||decide (i>=((fin t).I.length:Int))||decide ((fin t).I.getD i.toNat qAL.dflt<0))=true›
  simp only[yAI,decide_eq_true_eq] at h;unfold qjQ;rw[qOT (fun j hj e=>by have:=hin j hj e;omega)]
 refine LoopStop.mk (α:=Nat) (fun k=>[(9,.int .i64 k)]) (fun _=>[]) 20 (fun k=>k<=(qCJ (fin t).L).length/\∀ j,j<k->(qCJ (fin t).L).getD j 0≠i) (fun k=>(qCJ (fin t).L).length-k) 0 ⟨yCM _,fun j hj=>absurd hj (yCI _)⟩ ?_ (fun k hk=>?_)
 ·all_goals exact vcA
 ·obtain⟨hk,ha⟩:=hk
  repeat'((conv=>whnf);first|exact qR|intro _|refine WA ?_ ?_|refine WF ?_|refine X2 (W7 rfl ?_ ?_)|refine X3 (W7 rfl ?_ ?_))
  all_goals(try(conv=>whnf))
  all_goals(try first|exact obA|refine Ob.mk ?_)
  all_goals(try simp only[yAN] at *)
  all_goals(try(have hp:k<(qCJ (fin t).L).length:=by have h:=of_decide_eq_true ‹decide ((k:Int)<((qCJ (fin t).L).length:Int))=true›;omega))
  all_goals(try(exact pp k (by omega)))
  all_goals(try(have hlen:=qJG (t:=qCL t) (K:=qAC (qCL t)) [] (List.replicate (qCL t).length false) k (-1)))
  all_goals(try(have hl1:1<=(qH7 (qCL t) (qAC (qCL t)) [] (List.replicate (qCL t).length false) k (-1)).length:=hlen.1))
  all_goals clear hlen
  all_goals(try(first|omega|(constructor<;>omega)))
  ·unfold qjQ;rw[qgV hp (show(qCJ (fin t).L).getD k qAL.dflt=i from beq_iff_eq.1 ‹((qCJ (fin t).L).getD k qAL.dflt==i)=true›) ha]
   rfl
  ·refine Rnd.mk ⟨k+1,⟨by omega,fun j hj=>?_⟩,by omega,?_⟩
   ·rcases yCC j k with q|q
    ·exact ha j q
    ·have e:j=k:=by omega
     rw[e];exact fun(q:(qCJ (fin t).L).getD k qAL.dflt=i)=>absurd (beq_iff_eq.2 q) (by rw[‹((qCJ (fin t).L).getD k qAL.dflt==i)=false›];decide)
   ·all_goals exact vcA
  ·have e:k=(qCJ (fin t).L).length:=by have h:=of_decide_eq_false ‹decide ((k:Int)<((qCJ (fin t).L).length:Int))=false›;omega
   unfold qjQ;rw[qOT (fun j hj=>ha j (by omega))]
instance hSub14 (t:List qAD) (i:Int):Fn BB 116 [.agg [.rd qAB t],.int .i64 i] (qZG t) (.agg [.rd qAB (qjQ t i)]):=
 have h:=hSubN t i
 ⟨h.call,h.ok⟩
end Go.Vc

namespace Go.Vc
open Go.Proofs
set_option autoImplicit false
theorem qF3 {t:List qAD}(h:qCH t=true):0<t.length/\(nd t 0).1=0/\(nd t 0).up = -1/\∀ i,i<t.length->okN t i=true:=by
 unfold qCH at h;simp only[yAA,yAF,yAQ,yBV] at h;have hb:=h.1;unfold badR at hb;simp only[yAH,bne_eq_false_iff_eq,beq_eq_false_iff_ne] at hb;exact⟨by have:=hb.1.1;omega,hb.1.2,hb.2,h.2.1⟩
theorem qdQ {t:List qAD}(h:qCH t=true) {i a:Nat}(hi:i<t.length) (ha:(a:Int)∈qAC t i):a<t.length/\(t.getD a qAB.dflt).up=(i:Int):=by
 have ho:=(qF3 h).2.2.2 i hi;unfold okN at ho;simp only[yAA,yAQ] at ho;have:=ho.2 a ha;unfold qnB at this;simp only[yAF,yAH,decide_eq_false_iff_not,bne_eq_false_iff_eq] at this;exact⟨by have:=this.1.2;omega,this.2⟩
theorem qjG {t:List qAD}{f:Fo}{s':List Bool}{K:Nat->List Int}(d:D K (s0 t.length) 0 0 f s'):∀ a∈f.lab,a<t.length/\a≠0:=fun a ha=>by
 have:=(qOA d).2.2.1 a ha;rw[qTY,yAH,decide_eq_false_iff_not,decide_eq_false_iff_not] at this;omega
theorem qk4:∀ (f:Fo) (i c:Nat) (x:St),(x.run (evF i f c)).L=x.L++f.lab:=by
 intro f
 induction f with
 | nil=>intro i c x;simp[evF,St.run,St.step,Fo.lab]
 | cons a g r ig ir=>
  intro i c x;show((x.step (a,(i:Int),c,false)).run (evF a g (c+1)++evF i r (c+2+2*g.size))).L=_;rw[qHA,ir,ig];simp[St.step,Fo.lab]
theorem qcR {t:List qAD}(hne:t≠[]) {f:Fo}{s':List Bool}(d:D (qAC t) (s0 t.length) 0 0 f s'):fin t=((st0 t.length).step (0, -1,0,false)).run (evF 0 f 1):=by
 have hn:t.length≠0:=fun e=>hne (yBH.1 e)
 unfold fin qTP qOK;rw[if_neg hn];show((st0 t.length).step (0, -1,0,false)).run (qK1 (qAC t) [(0,0)] (s0 t.length) 1)=_;unfold qK1;rw[qn2 d];show((st0 t.length).step (0, -1,0,false)).run (evF 0 f 1++[])=_;rw[yAS]
theorem qQL {t:List qAD}(hne:t≠[]) {f:Fo}{s':List Bool}(d:D (qAC t) (s0 t.length) 0 0 f s'):(fin t).L=0::f.lab:=by
 rw[qcR hne d,qk4];rfl
def mks:Fo->Nat->List (Nat×Nat×Nat)
 | .nil,_=>[]
 | .cons a g r,c=>(a,c,c+1+2*g.size)::(mks g (c+1)++mks r (c+2+2*g.size))
theorem qXM:∀ (f:Fo) (c:Nat),(mks f c).map (·.1)=f.lab:=by
 intro f
 induction f with
 | nil=>intro c;rfl
 | cons a g r ig ir=>intro c;simp[mks,Fo.lab,ig,ir]
theorem qlA (f:Fo) (c:Nat):(mks f c).length=f.size:=by rw[<-qEY, <-qXM f c,List.length_map]
theorem qcK:∀ (f:Fo) (c:Nat),∀ z∈mks f c,c<=z.2.1/\z.2.1<z.2.2/\z.2.2<c+2*f.size:=by
 intro f
 induction f with
 | nil=>intro c z hz;cases hz
 | cons a g r ig ir=>
  intro c z hz;simp only[mks,yBR,yBQ] at hz;simp only[Fo.size];rcases hz with rfl|hz|hz
  ·dsimp only;omega
  ·have:=ig _ z hz;omega
  ·have:=ir _ z hz;omega
theorem qI3 (l:List Int) (k q:Nat) (v:Int) (hk:k<l.length):(l.set k v).getD q (-1)=if q=k then v else l.getD q (-1):=by
 rw[yA6,yBC,yA6];by_cases h:k=q
 ·rw[if_pos h,if_pos h.symm,if_pos hk];rfl
 ·rw[if_neg h,if_neg (fun e=>h e.symm)]
theorem qk2:∀ (f:Fo) (i c:Nat) (x:St),x.m=c->(∀ a∈f.lab,a<x.I.length/\a<x.O.length)->i<x.O.length->f.lab.Nodup->i∉f.lab->
  (x.run (evF i f c)).m=c+1+2*f.size/\(x.run (evF i f c)).I.length=x.I.length/\(x.run (evF i f c)).O.length=x.O.length/\
  (∀ q,q∉f.lab->(x.run (evF i f c)).I.getD q (-1)=x.I.getD q (-1))/\(∀ q,q∉f.lab->q≠i->(x.run (evF i f c)).O.getD q (-1)=x.O.getD q (-1))/\
  (x.run (evF i f c)).O.getD i (-1)=((c+2*f.size:Nat):Int)/\∀ z∈mks f c,(x.run (evF i f c)).I.getD z.1 (-1)=(z.2.1:Int)/\(x.run (evF i f c)).O.getD z.1 (-1)=(z.2.2:Int):=by
 intro f
 induction f with
 | nil=>
  intro i c x hm _ hi _ _;have e:x.run (evF i .nil c)={ x with P:=x.P.dropLast,O:=x.O.set i (x.m:Int),m:=x.m+1 }:=by simp[evF,St.run,St.step]
  rw[e];refine⟨by rw[hm];rfl,rfl,yBM ..,fun q _=>rfl,fun q _ hq=>?_,?_,fun z hz=>(by cases hz)⟩
  ·show(x.O.set i (x.m:Int)).getD q (-1)=_;rw[qI3 _ _ _ _ hi,if_neg hq]
  ·show(x.O.set i (x.m:Int)).getD i (-1)=_;rw[qI3 _ _ _ _ hi,if_pos rfl,hm];rfl
 | cons a g r ig ir=>
  intro i c x hm hl hi hnd hni;simp only[Fo.lab,yBX,yBQ,yBW,yBR,not_or] at hnd hni;obtain⟨⟨ag,ar⟩,ng,nr,dj⟩:=hnd;obtain⟨ia,ig',ir'⟩:=hni;have la:=hl a (by simp[Fo.lab])
  have e:x.run (evF i (.cons a g r) c)=((x.step (a,(i:Int),c,false)).run (evF a g (c+1))).run (evF i r (c+2+2*g.size)):=by
   show(x.step (a,(i:Int),c,false)).run (evF a g (c+1)++evF i r (c+2+2*g.size))=_;rw[qHA]
  rw[e];have e1:x.step (a,(i:Int),c,false)={ x with L:=x.L++[a],P:=x.P++[a],I:=x.I.set a (x.m:Int),m:=x.m+1 }:=by simp[St.step]
  obtain⟨p1,p2,p3,p4,p5,p6,p7⟩:=ig a (c+1) (x.step (a,(i:Int),c,false)) (by rw[e1,hm]) (fun b hb=>by rw[e1];exact⟨by show b<(x.I.set a _).length;rw[yBM];exact(hl b (by simp[Fo.lab,hb])).1,(hl b (by simp[Fo.lab,hb])).2⟩) (by rw[e1];exact la.2) ng ag
  have hI1:∀ q,(x.step (a,(i:Int),c,false)).I.getD q (-1)=if q=a then(c:Int) else x.I.getD q (-1):=fun q=>by
   rw[e1];show(x.I.set a (x.m:Int)).getD q (-1)=_;rw[qI3 _ _ _ _ la.1,hm]
  have hO1:(x.step (a,(i:Int),c,false)).O=x.O:=by rw[e1]
  have hIl:(x.step (a,(i:Int),c,false)).I.length=x.I.length:=by rw[e1];exact yBM ..
  rw[hO1] at p3;rw[hIl] at p2;generalize (x.step (a,(i:Int),c,false)).run (evF a g (c+1))=y at *;obtain⟨r1,r2,r3,r4,r5,r6,r7⟩:=ir i (c+2+2*g.size) y (p1.trans (by omega)) (fun b hb=>by rw[p2,p3];exact hl b (by simp[Fo.lab,hb])) (by rw[p3];exact hi) nr ir'
  refine⟨by rw[r1];simp only[Fo.size];omega,by rw[r2,p2],by rw[r3,p3],fun q hq=>?_,fun q hq hqi=>?_,?_,fun z hz=>?_⟩
  ·simp only[Fo.lab,yBR,yBQ,not_or] at hq;rw[r4 q hq.2.2,p4 q hq.2.1,hI1,if_neg hq.1]
  ·simp only[Fo.lab,yBR,yBQ,not_or] at hq;rw[r5 q hq.2.2 hqi,p5 q hq.2.1 hq.1,hO1]
  ·rw[r6];simp only[Fo.size];exact congrArg (fun n:Nat=>(n:Int)) (by omega)
  ·simp only[mks,yBR,yBQ] at hz;rcases hz with rfl|hz|hz
   ·dsimp only;rw[r4 a ar,p4 a ag,hI1,if_pos rfl,r5 a ar (fun e=>ia e.symm),p6]
    exact⟨rfl,rfl⟩
   ·have hzl:z.1∈g.lab:=by rw[<-qXM g (c+1)];exact List.mem_map_of_mem hz
    have hzr:z.1∉r.lab:=fun h=>dj _ hzl _ h rfl
    rw[r4 _ hzr,r5 _ hzr (fun e=>ig' (e▸hzl))]
    exact p7 z hz
   ·exact r7 z hz
def sub:Fo->Nat->Option (Nat×Fo)
 | .nil,_=>none
 | .cons a g r,m=>if m=0 then some (a,g) else if m-1<g.size then sub g (m-1) else sub r (m-1-g.size)
theorem qtB:∀ (f:Fo) (m:Nat),m<f.size->∃ a g,sub f m=some (a,g):=by
 intro f
 induction f with
 | nil=>intro m h;exact absurd h (yCI _)
 | cons a g r ig ir=>
  intro m h;simp only[Fo.size] at h;unfold sub;by_cases h0:m=0
  ·rw[if_pos h0];exact⟨a,g,rfl⟩
  ·rw[if_neg h0];by_cases h1:m-1<g.size
   ·rw[if_pos h1];exact ig _ h1
   ·rw[if_neg h1];exact ir _ (by omega)
theorem qeE:∀ (f:Fo) (m a:Nat) (g:Fo),sub f m=some (a,g)->f.lab[m]?=some a:=by
 intro f
 induction f with
 | nil=>intro m a g h;cases h
 | cons b c r ic ir=>
  intro m a g h;unfold sub at h;by_cases h0:m=0
  ·rw[if_pos h0] at h;cases h;rw[h0];rfl
  ·rw[if_neg h0] at h;obtain⟨m,rfl⟩:∃ k,m=k+1:=⟨m-1,by omega⟩
   simp only[Fo.lab,List.getElem?_cons_succ,Nat.add_sub_cancel] at h ⊢;by_cases h1:m<c.size
   ·rw[if_pos h1] at h;rw[yA7 (by rw[qEY];exact h1)]
    exact ic _ _ _ h
   ·rw[if_neg h1] at h;rw[yA8 (by rw[qEY];omega),qEY]
    exact ir _ _ _ h
theorem qk8:∀ (f:Fo) (m c a:Nat) (g:Fo),sub f m=some (a,g)->∃ e l,(a,e,l)∈mks f c/\((mks f c).filter fun z=>decide (e<z.2.1)&&decide (z.2.2<l))=mks g (e+1):=by
 intro f
 induction f with
 | nil=>intro m c a g h;cases h
 | cons b k r ik ir=>
  intro m c a g h;have bk:=qcK k (c+1);have br:=qcK r (c+2+2*k.size);have hsplit:∀ p:Nat×Nat×Nat->Bool,(mks (.cons b k r) c).filter p=(if p (b,c,c+1+2*k.size)=true then[(b,c,c+1+2*k.size)] else[])++((mks k (c+1)).filter p++(mks r (c+2+2*k.size)).filter p):=fun p=>by
   rw[mks,yA4,yA2];split<;>rfl
  unfold sub at h;by_cases h0:m=0
  ·rw[if_pos h0] at h;cases h;refine⟨c,c+1+2*k.size,by simp[mks],?_⟩
   rw[hsplit,if_neg (by simp)]
   rw[List.filter_eq_self.2 (fun z hz=>by have:=bk z hz;simp only[yAA,decide_eq_true_eq];omega),
    yA5.2 (fun z hz=>by have:=br z hz;simp only[yAA,decide_eq_true_eq];omega)]
   simp
  ·rw[if_neg h0] at h;by_cases h1:m-1<k.size
   ·rw[if_pos h1] at h;obtain⟨e,l,q1,q2⟩:=ik _ (c+1) a g h;have qb:=bk _ q1;dsimp only at qb;refine⟨e,l,by simp[mks,q1],?_⟩
    rw[hsplit,if_neg (by simp only[yAA,decide_eq_true_eq];omega),q2,
     yA5.2 (fun z hz=>by have:=br z hz;simp only[yAA,decide_eq_true_eq];omega)]
    simp
   ·rw[if_neg h1] at h;obtain⟨e,l,q1,q2⟩:=ir _ (c+2+2*k.size) a g h;have qb:=br _ q1;dsimp only at qb;refine⟨e,l,by simp[mks,q1],?_⟩
    rw[hsplit,if_neg (by simp only[yAA,decide_eq_true_eq];omega),q2,
     yA5.2 (fun z hz=>by have:=bk z hz;simp only[yAA,decide_eq_true_eq];omega)]
    simp
end Go.Vc

namespace Go.Vc
open Go.Proofs
set_option autoImplicit false
def F0 (f:Fo):Fo:=.cons 0 f .nil
theorem qYN (f:Fo):(F0 f).lab=0::f.lab:=by simp[F0,Fo.lab]
def qhR (I O:List Int) (v i:Nat):Bool:=decide (0<=I.getD v (-1))&&decide (0<=I.getD i (-1))&&(decide (I.getD i (-1)<I.getD v (-1))&&decide (O.getD v (-1)<O.getD i (-1)))
theorem qXX {t:List qAD}(hne:t≠[]) {f:Fo}{s':List Bool}(d:D (qAC t) (s0 t.length) 0 0 f s'):
  (∀ z∈mks (F0 f) 0,(fin t).I.getD z.1 (-1)=(z.2.1:Int)/\(fin t).O.getD z.1 (-1)=(z.2.2:Int))/\∀ v,v∉(F0 f).lab->(fin t).I.getD v (-1) = -1:=by
 have hl:=qjG d;have hnd:=(qOA d).2.1;have hn:0<t.length:=yBK.2 hne;have e1:(st0 t.length).step (0, -1,0,false)={ L:=[0],P:=[0],I:=(List.replicate t.length (-1)).set 0 0,O:=List.replicate t.length (-1),m:=1 }:=by simp[st0,St.step]
 obtain⟨r1,r2,r3,r4,r5,r6,r7⟩:=qk2 f 0 1 ((st0 t.length).step (0, -1,0,false)) (by rw[e1]) (fun a ha=>by rw[e1];simp;exact(hl a ha).1) (by rw[e1];simpa using hn) hnd (fun h=>(hl 0 h).2 rfl)
 rw[<-qcR hne d] at r4 r6 r7;have hI0:∀ q,((st0 t.length).step (0, -1,0,false)).I.getD q (-1)=if q=0 then 0 else -1:=fun q=>by
  rw[e1];show((List.replicate t.length (-1:Int)).set 0 0).getD q (-1)=_;rw[qI3 _ _ _ _ (by simpa using hn)]
  by_cases h:q=0
  ·rw[if_pos h,if_pos h]
  ·rw[if_neg h,if_neg h];rw[yA6,yBB];split<;>rfl
 constructor
 ·intro z hz;have hz2:z=(0,0,0+1+2*f.size)\/z∈mks f 1:=by simpa[F0,mks] using hz
  rcases hz2 with rfl|hz
  ·dsimp only;rw[r4 0 (fun h=>(hl 0 h).2 rfl),hI0,if_pos rfl,r6]
   exact⟨rfl,congrArg (fun n:Nat=>(n:Int)) (by omega)⟩
  ·exact r7 z hz
 ·intro v hv;rw[qYN,yBR,not_or] at hv;rw[r4 v hv.2,hI0,if_neg hv.1]
end Go.Vc

namespace Go.Vc
open Go.Proofs
set_option autoImplicit false
def qED:Fo->List Int
 | .nil=>[]
 | .cons a _ r=>(a:Int)::qED r
def Exf (K:Nat->List Int):Fo->Prop
 | .nil=>True
 | .cons a c r=>K a=qED c/\Exf K c/\Exf K r
theorem qC2 {t:List qAD}(h:qCH t=true) {i:Nat}(hi:i<t.length) {k:Int}(hk:k∈qAC t i):∃ a:Nat,k=(a:Int)/\a<t.length/\(t.getD a qAB.dflt).up=(i:Int):=by
 have h0:0<=k:=by
  have ho:=(qF3 h).2.2.2 i hi;unfold okN at ho;simp only[yAA,yAQ] at ho;have:=ho.2 k hk;unfold qnB at this;simp only[yAF,yAH,decide_eq_false_iff_not] at this;omega
 have h1:=qdQ h hi (a:=k.toNat) (by rw[yAO h0];exact hk)
 exact⟨k.toNat,by omega,h1.1,h1.2⟩
theorem qdM {t:List qAD}(h:qCH t=true) {i:Nat}(hi:i<t.length) {k:Int}(hk:k∈qAC t i):(qAC t i).count k=1:=by
 obtain⟨a,rfl,ha,hu⟩:=qC2 h hi hk;have ho:=(qF3 h).2.2.2 a ha;unfold okN at ho;simp only[yAA,yAF] at ho;have hb:=ho.1.2;unfold qwJ at hb;have e1:(ndR t a).up=(i:Int):=hu;rw[e1,decide_eq_true (by omega),yAL,yAH] at hb
 have h2:=hb.2;have e2:(nd t (i:Int)).kids=qAC t i:=by show(t.getD ((i:Int)).toNat qAB.dflt).kids=_;rw[yAN];rfl
 rw[e2] at h2;have h3:((qAC t i).count (a:Int):Int)=1:=by simpa using h2
 omega
def Cl (t:List qAD) (s:List Bool):Prop:=∀ v,v<t.length->s.getD v true=true->s.getD (t.getD v qAB.dflt).up.toNat true=true
theorem qi7 {t:List qAD}(h:qCH t=true):∀ (f:Fo) (i:Nat),i<t.length->(∀ a∈f.lab,a<t.length)->Kin (qAC t) i f->∀ a∈f.lab,(t.getD a qAB.dflt).up=(i:Int)\/∃ b∈f.lab,(t.getD a qAB.dflt).up=(b:Int):=by
 intro f
 induction f with
 | nil=>intro i _ _ _ a ha;cases ha
 | cons x c r ic ir=>
  intro i hi hl hk a ha;obtain⟨k1,k2,k3⟩:=hk;have hx:=hl x List.mem_cons_self;simp only[Fo.lab,yBR,yBQ] at ha hl ⊢;rcases ha with rfl|ha|ha
  ·obtain⟨b,e,_,hu⟩:=qC2 h hi k1;have:b=a:=by omega
   subst this;exact .inl hu
  ·rcases ic x hx (fun y hy=>hl y (.inr (.inl hy))) k2 a ha with q|⟨b,hb,q⟩
   ·exact .inr ⟨x,.inl rfl,q⟩
   ·exact .inr ⟨b,.inr (.inl hb),q⟩
  ·rcases ir i hi (fun y hy=>hl y (.inr (.inr hy))) k3 a ha with q|⟨b,hb,q⟩
   ·exact .inl q
   ·exact .inr ⟨b,.inr (.inr hb),q⟩
theorem qT0 {s:List Bool}{a:Nat}(h:s.getD a true=false):a<s.length:=by
 rcases yCC a s.length with q|q
 ·exact q
 ·rw[yA6,yBA q] at h;cases h
theorem cl_D {t:List qAD}(h:qCH t=true) {s i j f s'}(d:D (qAC t) s i j f s') (hi:i<t.length) (hs:s.length=t.length) (hsi:s.getD i true=true) (hc:Cl t s):Cl t s':=by
 obtain⟨l1,n1,u1,q1⟩:=qOA d;have hkin:=qrR d;intro v hv hq;rw[q1] at hq ⊢;rw[yAI] at hq ⊢;rcases hq with hq|hq
 ·exact .inl (hc v hv hq)
 ·have hm:=of_decide_eq_true hq;rcases qi7 h f i hi (fun a ha=>by have:=qT0 (u1 a ha);omega) hkin v hm with e|⟨b,hb,e⟩
  ·left;rw[e,yAN];exact hsi
  ·right;rw[e,yAN];exact decide_eq_true hb
theorem qoB {t:List qAD}{s:List Bool}{k i:Nat}(hc:Cl t s) (hu:(t.getD k qAB.dflt).up=(i:Int)) (hsi:s.getD i true=true):Cl t (s.set k true):=by
 intro v hv hq;rw[qBM,yAI] at hq ⊢;rcases hq with hq|hq
 ·exact .inl (hc v hv hq)
 ·have e:=of_decide_eq_true hq;subst e
  left;rw[hu,yAN];exact hsi
theorem D_Ex {t:List qAD}(h:qCH t=true) {s i j f s'}(d:D (qAC t) s i j f s'):i<t.length->s.length=t.length->s.getD i true=true->Cl t s->(∀ k∈(qAC t i).drop j,s.getD k.toNat true=false)->
  qED f=(qAC t i).drop j/\Exf (qAC t) f:=by
 induction d with
 | @done s i j hj=>
  intro hi hs hsi hc hd;rw[yA0 (by omega)]
  exact⟨rfl,True.intro⟩
 | @bad s i j f s' hj hk d ih=>
  intro hi hs hsi hc hd;exfalso;have hm:(qAC t i).getD j 0∈(qAC t i).drop j:=by
   rw[yAZ hj,yA6,yA9 hj];exact List.mem_cons_self
  obtain⟨a,e,ha,hu⟩:=qC2 h hi (yBU hm);have h1:=hd _ hm;unfold okK at hk;rw[h1,e,decide_eq_true (by omega)] at hk
  cases hk
 | @ok s i j f r s1 s' hj hk d1 d2 ih1 ih2=>
  intro hi hs hsi hc hd;have hdc:(qAC t i).drop j=(qAC t i).getD j 0::(qAC t i).drop (j+1):=by
   rw[yAZ hj,yA6,yA9 hj];rfl
  have hm:(qAC t i).getD j 0∈qAC t i:=yBU (by rw[hdc];exact List.mem_cons_self)
  obtain⟨a,e,ha,hu⟩:=qC2 h hi hm;have hone:=qdM h hi hm;rw[e] at hone hdc;rw[e] at d1 ih1 ⊢;rw[yAN] at d1 ih1 ⊢;have hau:s.getD a true=false:=by
   have:=hd (a:Int) (by rw[hdc];exact List.mem_cons_self)
   rwa [yAN] at this
  have hai:a≠i:=fun q=>by rw[q,hsi] at hau;cases hau
  have hcs:=qoB hc hu hsi;have hkids:∀ k∈(qAC t a).drop 0,(s.set a true).getD k.toNat true=false:=fun k hk'=>by
   rw[yA1] at hk';obtain⟨b,eb,hb,hbu⟩:=qC2 h ha hk';rw[eb,yAN,qBM];have h1:s.getD b true=false:=by
    cases hh:s.getD b true with
    | false=>rfl
    | true=>
     have:=hc b hb hh;rw[hbu,yAN,hau] at this;cases this
   rw[h1,Bool.false_or,decide_eq_false_iff_not];intro q;subst q;rw[hu] at hbu;exact hai (by omega)
  have hsl:(s.set a true).length=t.length:=by rw[yBM];exact hs
  have hsa:(s.set a true).getD a true=true:=by rw[qBM,decide_eq_true rfl,yAK]
  obtain⟨r1,x1⟩:=ih1 ha hsl hsa hcs hkids;obtain⟨l1,n1,u1,q1⟩:=qOA d1;have hcl1:=cl_D h d1 ha hsl hsa hcs;have hkup:=qi7 h f a ha (fun z hz=>by have:=qT0 (u1 z hz);omega) (qrR d1)
  have hrest:∀ k∈(qAC t i).drop (j+1),s1.getD k.toNat true=false:=fun k hk'=>by
   obtain⟨b,eb,hb,hbu⟩:=qC2 h hi (yBU hk');have h1:=hd k (by rw[hdc];exact List.mem_cons_of_mem _ hk')
   rw[eb,yAN] at h1 ⊢;have hba:b≠a:=fun q=>by
    subst q;have h2:(qAC t i).count (b:Int)=((qAC t i).take j).count (b:Int)+((qAC t i).drop j).count (b:Int):=by rw[<-yAU,List.take_append_drop]
    rw[hdc,List.count_cons_self] at h2;have h3:=yAX.2 (eb▸hk');omega
   have hbf:b∉f.lab:=fun q=>by
    rcases hkup b q with z|⟨c,hc',z⟩
    ·rw[hbu] at z;exact hai (by omega)
    ·rw[hbu] at z;have hci:c=i:=by omega
     subst hci;have:=u1 c hc';rw[qBM,hsi] at this;cases this
   rw[q1,qBM,h1,decide_eq_false hba,decide_eq_false hbf];rfl
  have hs1i:s1.getD i true=true:=by rw[q1,qBM,hsi];rfl
  obtain⟨r2,x2⟩:=ih2 hi (by rw[l1,hsl]) hs1i hcl1 hrest
  refine⟨?_,?_,x1,x2⟩
  ·rw[hdc];show(a:Int)::qED r=_;rw[r2]
  ·rw[r1];rfl
theorem zGG {K:Nat->List Int}:∀ (f:Fo) (s:List Bool) (p j:Nat),(K p).drop j=qED f->Exf K f->f.lab.Nodup->(∀ a∈f.lab,s.getD a true=false)->∃ s',D K s p j f s':=by
 intro f
 induction f with
 | nil=>
  intro s p j hd _ _ _;have:=congrArg List.length hd;rw[yBG] at this;exact⟨s,.done (by simp only[qED,yBJ] at this;omega)⟩
 | cons a c r ic ir=>
  intro s p j hd hx hn hu;obtain⟨x1,x2,x3⟩:=hx;simp only[Fo.lab,yBX,yBQ,yBW] at hn;obtain⟨n1,n2,n3,n4⟩:=hn;have hj:j<(K p).length:=by
   have:=congrArg List.length hd;rw[yBG] at this;simp only[qED,yBF] at this;omega
  have hdc:=yAZ hj;rw[hd] at hdc;simp only[qED,List.cons.injEq] at hdc;have hg:(K p).getD j 0=(a:Int):=by rw[yA6,yA9 hj];exact hdc.1.symm
  have hua:=hu a List.mem_cons_self;have hok:okK s ((K p).getD j 0)=true:=by
   rw[hg];unfold okK;rw[decide_eq_true (by omega),yAN,hua];rfl
  obtain⟨s1,d1⟩:=ic (s.set a true) a 0 (by rw[yA1];exact x1) x2 n2 (fun b hb=>by
   rw[qBM,hu b (by simp[Fo.lab,hb]),decide_eq_false (fun q:b=a=>n1 (.inl (q▸hb)))];rfl)
  obtain⟨l1,m1,u1,q1⟩:=qOA d1;obtain⟨s',d2⟩:=ir s1 p (j+1) hdc.2.symm x3 n3 (fun b hb=>by
   rw[q1,qBM,hu b (by simp[Fo.lab,hb]),decide_eq_false (fun q:b=a=>n1 (.inr (q▸hb))),decide_eq_false (fun q:b∈c.lab=>n4 b q b hb rfl)];rfl)
  refine⟨s',?_⟩;have d:=D.ok (K:=K) (i:=p) (j:=j) hj hok (by rw[hg,yAN];exact d1) d2
  rw[hg,yAN] at d;exact d
def prF (i:Nat):Fo->Fo
 | .nil=>.nil
 | .cons a c r=>.cons a (if a=i then .nil else prF i c) (prF i r)
theorem qNT (i:Nat):∀ f:Fo,qED (prF i f)=qED f
 | .nil=>rfl
 | .cons a c r=>by simp only[prF,qED,qNT i r]
theorem qZK (i:Nat):∀ f:Fo,i∉f.lab->prF i f=f:=by
 intro f
 induction f with
 | nil=>intro _;rfl
 | cons a c r ic ir=>
  intro h;simp only[Fo.lab,yBR,yBQ,not_or] at h;simp only[prF];rw[if_neg (fun e=>h.1 e.symm),ic h.2.1,ir h.2.2]
theorem qe4 (i:Nat):∀ f:Fo,(prF i f).lab.Sublist f.lab:=by
 intro f
 induction f with
 | nil=>exact List.Sublist.refl _
 | cons a c r ic ir=>
  simp only[prF,Fo.lab];refine List.Sublist.cons_cons a ?_;refine List.Sublist.append ?_ ir;split
  ·exact List.nil_sublist _
  ·exact ic
theorem qe5:∀ (f:Fo) (m a:Nat) (g:Fo),sub f m=some (a,g)->a∈f.lab:=fun f m a g h=>List.mem_of_getElem? (qeE f m a g h)
theorem qiG:∀ (f:Fo) (m i:Nat) (g:Fo),sub f m=some (i,g)->f.lab.Nodup->(prF i f).size+g.size=f.size:=by
 intro f
 induction f with
 | nil=>intro m i g h;cases h
 | cons a c r ic ir=>
  intro m i g h hn;simp only[Fo.lab,yBX,yBQ,yBW] at hn;obtain⟨n1,n2,n3,n4⟩:=hn;unfold sub at h;simp only[prF,Fo.size];split at h
  ·simp only[Option.some.injEq,Prod.mk.injEq] at h;obtain⟨rfl,rfl⟩:=h;rw[if_pos rfl,qZK a r (fun q=>n1 (.inr q))]
   simp only[Fo.size];omega
  ·split at h
   ·have hm:=qe5 c _ i g h;rw[if_neg (fun e:a=i=>n1 (.inl (e▸hm))),qZK i r (fun q:i∈r.lab=>n4 i hm i q rfl)]
    have:=ic _ i g h n2;omega
   ·have hm:=qe5 r _ i g h;rw[if_neg (fun e:a=i=>n1 (.inr (e▸hm))),qZK i c (fun q:i∈c.lab=>n4 i q i hm rfl)]
    have:=ir _ i g h n3;omega
def qC9 (t:List qAD) (i:Int):List qAD:=if 0<=i/\i<t.length then t.set i.toNat (qIJ (t.getD i.toNat qAB.dflt) []) else t
theorem qMO (t:List qAD) (i:Int):(qC9 t i).length=t.length:=by unfold qC9;split<;>simp
theorem qeN (t:List qAD) (i:Nat) (hi:i<t.length) (q:Nat):(qC9 t i).getD q qAB.dflt=if q=i then qIJ (t.getD i qAB.dflt) [] else t.getD q qAB.dflt:=by
 unfold qC9;rw[if_pos ⟨by omega,by omega⟩,yAN,yA6,yBC,yA6,yA6]
 by_cases h:i=q
 ·subst h;rw[if_pos rfl,if_pos hi,if_pos rfl];rfl
 ·rw[if_neg h,if_neg (fun e=>h e.symm)]
theorem qU9 (t:List qAD) (i:Nat) (hi:i<t.length) (q:Nat):qAC (qC9 t i) q=if q=i then[] else qAC t q:=by
 unfold qAC;rw[qeN t i hi];by_cases h:q=i
 ·rw[if_pos h,if_pos h];rfl
 ·rw[if_neg h,if_neg h]
theorem qdV (t:List qAD) (i:Nat) (hi:i<t.length) (q:Nat) (p:Int):mkN ((qC9 t i).getD q qAB.dflt) p=mkN (t.getD q qAB.dflt) p:=by
 rw[qeN t i hi];by_cases h:q=i
 ·rw[if_pos h,h];rfl
 ·rw[if_neg h]
theorem zFG {K K':Nat->List Int}(i:Nat) (hK:∀ q,K' q=if q=i then[] else K q):∀ f:Fo,Exf K f->Exf K' (prF i f):=by
 intro f
 induction f with
 | nil=>intro _;exact True.intro
 | cons a c r ic ir=>
  rintro⟨h1,h2,h3⟩;refine⟨?_,?_,ir h3⟩
  ·rw[hK];by_cases h:a=i
   ·rw[if_pos h,if_pos h];rfl
   ·rw[if_neg h,if_neg h,qNT,h1]
  ·split
   ·exact True.intro
   ·exact ic h2
theorem qe7 {t:List qAD}(hne:t≠[]) {f:Fo}{s':List Bool}(d:D (qAC t) (s0 t.length) 0 0 f s'):qCL t=qL3 t f [mkN (t.getD 0 qAB.dflt) (-1)] 0:=by
 unfold qCL;rw[if_neg hne];exact qpU t d (-1)
theorem qjT {t:List qAD}(i:Nat) (hi:i<t.length) {f:Fo}(h0:qAC t 0=qED f) (hx:Exf (qAC t) f) (hn:f.lab.Nodup) (hu:∀ a∈f.lab,(s0 t.length).getD a true=false):
  ∃ s',D (qAC (qC9 t i)) (s0 (qC9 t i).length) 0 0 (if i=0 then .nil else prF i f) s':=by
 rw[qMO];refine zGG _ _ _ _ ?_ ?_ ?_ ?_
 ·rw[yA1,qU9 t i hi];by_cases h:i=0
  ·rw[if_pos h.symm,if_pos h];rfl
  ·rw[if_neg (fun e=>h e.symm),if_neg h,qNT,h0]
 ·split
  ·exact True.intro
  ·exact zFG i (qU9 t i hi) f hx
 ·split
  ·exact yBY
  ·exact(qe4 i f).nodup hn
 ·split
  ·intro a ha;cases ha
  ·exact fun a ha=>hu a ((qe4 i f).subset ha)
def qE2 (t:List qAD) (i:Int):List Int:=if 0<=i/\i<t.length then qCJ ((fin t).L.filter fun v=>qhR (fin t).I (fin t).O v i.toNat) else[]
theorem qTM {t:List qAD}(hne:t≠[]) {f:Fo}{s':List Bool}(d:D (qAC t) (s0 t.length) 0 0 f s') {k i:Nat}{g:Fo}(hs:sub (F0 f) k=some (i,g)):((fin t).L.filter fun v=>qhR (fin t).I (fin t).O v i).length=g.size:=by
 obtain⟨h1,h2⟩:=qXX hne d;obtain⟨e,l,m1,m2⟩:=qk8 (F0 f) k 0 i g hs;have hi:=h1 _ m1;dsimp only at hi;have hm:(F0 f).lab.filter (fun v=>qhR (fin t).I (fin t).O v i)=(mks g (e+1)).map (·.1):=by
  rw[<-qXM (F0 f) 0,List.filter_map, <-m2];congr 1;refine yA3 fun z hz=>?_
  obtain⟨z1,z2⟩:=h1 z hz;show qhR (fin t).I (fin t).O z.1 i=_;unfold qhR;rw[z1,z2,hi.1,hi.2,decide_eq_true (by omega),decide_eq_true (by omega)]
  simp only[yAL,yAM]
 rw[qQL hne d, <-qYN,hm,List.length_map,qlA]
theorem qhK {t:List qAD}(hne:t≠[]) {f:Fo}{s':List Bool}(d:D (qAC t) (s0 t.length) 0 0 f s') {i:Nat}(hs:i∉(F0 f).lab):((fin t).L.filter fun v=>qhR (fin t).I (fin t).O v i).length=0:=by
 rw[yBH,yA5];intro v _;unfold qhR;rw[(qXX hne d).2 _ hs];simp
theorem ql3 {t:List qAD}(h:qCH t=true):∃ f s',D (qAC t) (s0 t.length) 0 0 f s'/\qAC t 0=qED f/\Exf (qAC t) f:=by
 obtain⟨h1,h2,h3,h4⟩:=qF3 h;obtain⟨f,s',d⟩:=zAR (K:=qAC t) (s0 t.length) 0 0;have hs:(s0 t.length).length=t.length:=by unfold s0;rw[yBM,yBL]
 obtain⟨r1,x1⟩:=D_Ex h d h1 hs (by rw[qTY];simp) (fun v hv hq=>by
  rw[qTY,yAI,decide_eq_true_eq,decide_eq_true_eq] at hq;have hv0:v=0:=by omega
  subst hv0;have e:(t.getD 0 qAB.dflt).up = -1:=h3;rw[e,qTY];simp) (fun k hk=>by
  rw[yA1] at hk;obtain⟨a,e,ha,hu⟩:=qC2 h h1 hk;rw[e,yAN,qTY,yAH,decide_eq_false_iff_not,decide_eq_false_iff_not];refine⟨by omega,fun q=>?_⟩
  subst q;have e2:(t.getD 0 qAB.dflt).up = -1:=h3;rw[e2] at hu;exact absurd hu (by decide))
 rw[yA1] at r1;exact⟨f,s',d,r1.symm,x1⟩
theorem parts_all {t:List qAD}(h:qCH t=true) (i:Int):(qE2 t i).length+(qCL (qC9 t i)).length=(fin t).L.length:=by
 have h0:=qF3 h;have hne:t≠[]:=fun e=>by rw[e] at h0;exact absurd h0.1 (by decide)
 obtain⟨f,s',d,k0,x0⟩:=ql3 h;by_cases hi:0<=i/\i<t.length
 ·obtain⟨n,rfl⟩:∃ n:Nat,i=(n:Int):=⟨i.toNat,by omega⟩
  have hn:n<t.length:=by omega
  have hne2:qC9 t n≠[]:=fun e=>by have:=qMO t n;rw[e] at this;simp at this;omega
  obtain⟨s2,d2⟩:=qjT n hn k0 x0 (qOA d).2.1 (qOA d).2.2.1;have hlen:(qCL (qC9 t n)).length=(prF n (F0 f)).size:=by
   rw[qe7 hne2 d2,qSJ];show 1+_=1+(if 0=n then Fo.nil else prF n f).size+0
   by_cases q:n=0
   ·rw[if_pos q,if_pos q.symm];rfl
   ·rw[if_neg q,if_neg (fun e=>q e.symm)];rfl
  have hnd:(F0 f).lab.Nodup:=by
   rw[qYN,yBX];exact⟨fun h=>(qjG d 0 h).2 rfl,(qOA d).2.1⟩
  have hL:(fin t).L.length=(F0 f).size:=by rw[qQL hne d, <-qYN,qEY]
  rw[hlen,hL];unfold qE2;rw[if_pos hi,yAN];unfold qCJ;rw[List.length_map];by_cases hm:n∈(F0 f).lab
  ·obtain⟨k,hk,e⟩:=List.mem_iff_getElem.1 hm;rw[qEY] at hk;obtain⟨a,g,hs⟩:=qtB (F0 f) k hk;have ha:=qeE (F0 f) k a g hs;have:a=n:=by rw[yA9 (by rw[qEY];exact hk),e] at ha;exact(Option.some.inj ha).symm
   subst this;rw[qTM hne d hs];have:=qiG (F0 f) k a g hs hnd;omega
  ·rw[qhK hne d hm,qZK n _ hm];omega
 ·have e:qC9 t i=t:=by unfold qC9;rw[if_neg hi]
  unfold qE2;rw[if_neg hi,e,qe7 hne d,qSJ,qQL hne d];show 0+(1+f.size)=f.lab.length+1;rw[qEY];omega
end Go.Vc

namespace Go.Vc
open Go.Proofs
open Go.Vc.W
set_option maxRecDepth 10000
set_option maxHeartbeats 8000000
theorem qX1 {t:List qAD}(h:qB8 t 45=true) (q:Nat):qQE (t.getD q qAB.dflt):=by
 rcases yCC q t.length with hq|hq
 ·have:=qD7 (qM4 h (q:Int) ⟨by omega,by omega⟩)
  have e:nd t (q:Int)=t.getD q qAB.dflt:=by show t.getD ((q:Int)).toNat qAB.dflt=_;rw[yAN]
  rw[e] at this;exact⟨by omega,by omega⟩
 ·rw[yA6,yBA hq];exact⟨by decide,by decide⟩
theorem qbM {t:List qAD}(h:qB8 t 45=true) (i:Int):qKD (qGD t i):=by
 have hd:=qDI t;have hl:=qdX h;refine⟨?_,fun k=>?_⟩
 ·unfold qGD;rw[List.length_map,yBG];have h1:=qCX hd.nod hd.lt;rw[qMH];split
  ·have:=yBI (qVY (fin t) i.toNat) (fin t).L;omega
  ·simp
 ·unfold qGD;rw[yA6,List.getElem?_map];cases((qD4 t i).drop 1)[k]? with
  | none=>show qQE qAB.dflt;exact⟨by decide,by decide⟩
  | some q=>exact qX1 h q
theorem qhB {t:List qAD}(h:qB8 t 45=true) {i:Int}(hi:0<=i/\i<t.length):atOk (nd t i).2.2.2.1/\(nd t i).2.2.2.2.1.length<=300:=by
 have hn:=qM4 h i hi;have ha:=qD7 hn;refine⟨⟨by omega,fun k=>?_⟩,ha.2.2.1⟩
 rcases yCC k (nd t i).2.2.2.1.length with hk|hk
 ·unfold qNZ at hn;rw[yAA] at hn;have h2:=hn.2;unfold qIB at h2;rw[yAA,yAQ] at h2;have:=h2.2 _ (yBD hk);rw[yA6,yA9 hk];simp only[yAA,decide_eq_true_eq] at this;exact⟨by show(nd t i).2.2.2.1[k].1.length<=_;omega,by show(nd t i).2.2.2.1[k].2.length<=_;omega⟩
 ·rw[yA6,yBA hk];exact⟨yCM _,yCM _⟩
theorem qf6 {t:List qAD}(hr:qCH t=true) {i:Int}(h:qA9 t i>0):(0<=(nd t i).up/\(nd t i).up<t.length)/\qA9 t i-1<(nd t (nd t i).up).kids.length/\
  (0<=(nd t (nd t i).up).kids.getD (qA9 t i-1).toNat qAL.dflt/\(nd t (nd t i).up).kids.getD (qA9 t i-1).toNat qAL.dflt<t.length):=by
 have e:isT t i=true/\isT t (nd t i).up=true:=by
  unfold qA9 at h;split at h
  ·rename_i q;rwa [yAA] at q
  ·exact absurd h (by decide)
 have ep:qA9 t i=qPE (nd t (nd t i).up).kids i:=by unfold qA9;rw[if_pos (by rw[e.1,e.2];rfl)]
 have hu:=qBH.1 e.2;have hlt:qA9 t i<(nd t (nd t i).up).kids.length:=by
  rw[ep] at h ⊢;have:=qo5 (l:=(nd t (nd t i).up).kids) (w:=i) (by omega)
  exact this
 refine⟨hu,by omega,?_⟩
 have hm:(nd t (nd t i).up).kids.getD (qA9 t i-1).toNat qAL.dflt∈qAC t (nd t i).up.toNat:=by
  rw[yA6,yA9 (by omega)]
  exact yBD _
 obtain⟨a,ea,ha,_⟩:=qC2 hr (by omega) hm
 omega
theorem qiO {p:List qAD}{s:List UInt8}(h:qGU p s=true):s≠[]:=by
 intro e;subst e;unfold qGU at h;cases h
def preT:List UInt8:=[112,114,101,32,116,101,120,116,97,114,101,97]
noncomputable def qjY (t:List qAD) (i:Int):Bool:=
 bif (nd t i).1==1 then(nd t i).2.2.2.2.1==[]&&qiV (qGD t i) (nd t i).1 (nd t i).2.1 (nd t i).2.2.1&&qd6 (nd t i).2.1 (nd t i).2.2.2.1 else
 bif (nd t i).1 != 2 || !(nd t i).2.2.1==[]||decide (((nd t i).2.2.2.1.length:Int)>0)||(nd t i).2.1 != 0 || !qGU (qGD t i) (nd t i).2.2.2.2.1 then false else
 bif decide (qA9 t i>0)&&(nd t ((nd t (nd t i).up).kids.getD (qA9 t i-1).toNat qAL.dflt)).1==2 then false else
 qA9 t i != 0 || !isL (qCG (qGD t i)).1 (qCG (qGD t i)).2.1 (qCG (qGD t i)).2.2.1 preT||(((nd t i).2.2.2.2.1.getD 0 0).toNat:Int) != 10
instance bOne (t:List qAD) (i:Int):Fn BB 70 [.agg [.rd qAB t],.int .i64 i] (qB8 t 45=true/\qCH t=true/\0<=i/\i<t.length) (.bool (qjY t i)):=by
 refine Fn.intro (N:=95) [0,1,2,4,5,6,7,18,56,80] [(8,[0,0,0,1,1,1,1,1,1,1,1,1,1,1,1,1,3,3,3,3,3])] Tryz.call70 Tryz.func70 rfl rfl (by kernel_rfl) (fun hpre=>?_)
 obtain⟨h1,h2,h3,h4⟩:=hpre;have q1:=qbM h1 i;have q2:=qhB h1 ⟨h3,h4⟩;have q3:=qX1 h1 i.toNat;have q4:=qdX h1;have q5:decide (qA9 t i>0)=true->_:=fun h=>qf6 h2 (of_decide_eq_true h)
 have q7:=qD7 (qM4 h1 i ⟨h3,h4⟩);have q6:∀ b:Bool,(b || !qGU (qGD t i) (t.getD i.toNat qAB.dflt).2.2.2.2.1)=false->(0:Int)<=0/\(0:Int)<((t.getD i.toNat qAB.dflt).2.2.2.2.1.length:Int):=fun b h=>by
  rw[yAH] at h;have h:=qiO (p:=qGD t i) (s:=(t.getD i.toNat qAB.dflt).2.2.2.2.1) (by simpa using h.2)
  have:=yBK.2 h;omega
 repeat'((conv=>whnf);first|exact qR|intro _|refine WA ?_ ?_|refine WF ?_|refine W1 rfl ?_ ?_|refine W2 rfl ?_ ?_|refine X1 (W1 rfl ?_ ?_)|refine X1 (W2 rfl ?_ ?_))
 all_goals(try(conv=>whnf))
 all_goals(try first|exact obA|refine Ob.mk ?_)
 all_goals(try(exact q6 _ (by assumption)))
 all_goals(try(first|omega|exact⟨q1,q3.1⟩|exact q2.1|exact⟨q1,yCA q2.2 (by decide)⟩))
 all_goals(try(have q:=q5 ‹_›;first|exact q.1|exact q.2.2|(have e:qA9 t i>0:=of_decide_eq_true ‹_›;exact⟨by omega,q.2.1⟩)))
 all_goals(try(have q:=q5 ‹_›;have e:qA9 t i>0:=of_decide_eq_true ‹_›;have e2:=qD7 (qM4 h1 _ q.1);show -9223372036854775808<=_/\_<=(9223372036854775807:Int);omega))
 all_goals(try(unfold qjY;rw[qDN ‹_›];first|done|rfl))
 all_goals(try(unfold qjY;rw[qA3 ‹_›,qDN ‹_›];first|done|rfl))
 all_goals(try(unfold qjY;rw[qA3 ‹_›,qA3 ‹_›,qDN ‹_›];first|done|rfl))
 all_goals(try(unfold qjY;rw[qA3 ‹_›,qA3 ‹_›,qA3 ‹_›];first|done|rfl))
noncomputable def qjR (t:List qAD) (i:Nat):Option Bool:=bif !qjY t i then some false else none
noncomputable def qJ6 (t:List qAD):Bool:=
 bif !qCH t || !eqB t (qCL t) then false else
 bif !(t.getD 0 qAB.dflt).2.2.1==[]||decide (((t.getD 0 qAB.dflt).2.2.2.1.length:Int)>0) || !(t.getD 0 qAB.dflt).2.2.2.2.1==[]||(t.getD 0 qAB.dflt).2.1 != 0 then false else
 scU (qjR t) true (t.length-1) 1
theorem qQI {t:List qAD}(h:qB8 t 45=true):qA4 t=true:=by
 have hl:=qdX h;unfold qA4;rw[yAA,decide_eq_true_eq,yAQ];refine⟨by omega,fun n hn=>?_⟩
 unfold qB8 at h;rw[yAA,yAQ] at h;have:=qD7 (h.2 n hn);rw[yAA,decide_eq_true_eq,decide_eq_true_eq];exact⟨by omega,by omega⟩
instance bTree28 (t:List qAD):Fn BB 17 [.agg [.rd qAB t]] (qB8 t 45=true) (.bool (qJ6 t)):=by
 refine Fn.intro (N:=49) [0,1,2,3,4,14,37,42,48] [(1,[1,1,1,1,1,1,1,3,3,3])] Tryz.call17 Tryz.func17 rfl rfl (by kernel_rfl) (fun hpre=>?_)
 have h1:=hpre;have q4:=qdX h1;have q5:=qQI h1;have qk:∀ i,(nd t i).kids.length<=1000:=fun i=>by
  rcases yCC i.toNat t.length with hi|hi
  ·have:=qD7 (qM4 h1 (i.toNat:Int) ⟨by omega,by omega⟩)
   have e:nd t (i.toNat:Int)=nd t i:=by show t.getD ((i.toNat:Int)).toNat qAB.dflt=t.getD i.toNat qAB.dflt;rw[yAN]
   rw[e] at this;omega
  ·show(t.getD i.toNat qAB.dflt).kids.length<=1000;rw[yA6,yBA hi];exact yCM _
 have qr:(!qCH t || !eqB t (qCL t))=false->qCH t=true:=fun h=>by rw[yAH] at h;simpa using h.1
 repeat'((conv=>whnf);first|exact qR|intro _|refine WA ?_ ?_|refine WF ?_|refine W1 rfl ?_ ?_|refine W4 ?_ ?_)
 all_goals(try(conv=>whnf))
 all_goals(try first|exact obA|refine Ob.mk ?_)
 all_goals(try(exact⟨by omega,qk⟩))
 all_goals(try(have q:=(qF3 (qr ‹_›)).1;exact⟨Int.le_refl 0,by omega⟩))
 all_goals(try(unfold qJ6;rw[qDN ‹_›];done))
 all_goals(try(unfold qJ6;rw[qA3 ‹_›,qDN (by assumption)];done))
 have hr:=qr ‹_›;have red:qJ6 t=scU (qjR t) true (t.length-1) 1:=by unfold qJ6;rw[qA3 ‹_›,qA3 (by assumption)]
 rw[red];refine LoopStop.mk (α:=Nat) (fun i=>[(4,.int .i64 i)]) (fun _=>[]) 40 (fun i=>1<=i/\i<=max 1 t.length/\scU (qjR t) true (t.length-i) i=scU (qjR t) true (t.length-1) 1) (fun i=>t.length-i) 1 ⟨yB8 _,by omega,rfl⟩ ?_ (fun i hi=>?_)
 ·all_goals exact vcA
 ·obtain⟨hi0,hi,hall⟩:=hi;rw[<-hall];have f1:(!qjY t (i:Int))=true->qjR t i=some false:=fun h=>by unfold qjR;rw[h];rfl
  have f2:(!qjY t (i:Int))=false->qjR t i=none:=fun h=>by unfold qjR;rw[h];rfl
  repeat'((conv=>whnf);first|exact qR|intro _|refine WA ?_ ?_|refine WF ?_|refine X1 (W1 rfl ?_ ?_))
  all_goals(try(conv=>whnf))
  all_goals(try first|exact obA|refine Ob.mk ?_)
  all_goals(try(have hl:i<t.length:=by have h:=of_decide_eq_true ‹decide ((i:Int)<(t.length:Int))=true›;omega))
  all_goals(try(exact⟨h1,hr,by omega,by omega⟩))
  all_goals(try(rw[qBQ hl (f1 ‹_›)];done))
  all_goals(try(refine Rnd.mk ⟨i+1,⟨by omega,by omega,(qBV hl (f2 ‹_›)).symm⟩,by omega,?_⟩))
  repeat'((conv=>whnf);first|exact qR|refine And.intro ?_ ?_)
  all_goals(try(conv=>whnf))
  all_goals(try first|exact obA|refine Ob.mk ?_)
  all_goals(first|rfl|(rw[qCR (by have h:=of_decide_eq_false ‹decide ((i:Int)<(t.length:Int))=false›;omega)];done)|trace_state)
end Go.Vc

namespace Go.Vc
open Go.Proofs
set_option autoImplicit false
inductive FD where
 | nil
 | cons (x:qAD) (c r:FD)
def FD.size:FD->Nat
 | .nil=>0
 | .cons _ c r=>1+c.size+r.size
def FD.app:FD->FD->FD
 | .nil,e=>e
 | .cons x c r,e=>.cons x c (r.app e)
theorem qHS (e:FD):∀ d:FD,(d.app e).size=d.size+e.size
 | .nil=>by simp[FD.app,FD.size]
 | .cons x c r=>by simp only[FD.app,FD.size,qHS e r];omega
theorem qeI:∀ d:FD,d.app .nil=d
 | .nil=>rfl
 | .cons x c r=>by simp only[FD.app,qeI r]
def qC8:Nat->FD->List Int
 | _,.nil=>[]
 | n,.cons _ c r=>(n:Int)::qC8 (n+1+c.size) r
theorem qSW (e:FD):∀ (d:FD) (n:Nat),qC8 n (d.app e)=qC8 n d++qC8 (n+d.size) e
 | .nil,n=>by simp[FD.app,FD.size,qC8]
 | .cons x c r,n=>by
  simp only[FD.app,FD.size,qC8,List.cons_append];rw[qSW e r,show n+1+c.size+r.size=n+(1+c.size+r.size) by omega]
def shp:Nat->FD->Fo
 | _,.nil=>.nil
 | n,.cons _ c r=>.cons n (shp (n+1) c) (shp (n+1+c.size) r)
theorem qDA:∀ (d:FD) (n:Nat),(shp n d).size=d.size
 | .nil,_=>rfl
 | .cons x c r,n=>by simp only[shp,FD.size,Fo.size,qDA c,qDA r]
theorem qNY:∀ (d:FD) (n:Nat),qED (shp n d)=qC8 n d
 | .nil,_=>rfl
 | .cons x c r,n=>by simp only[shp,qED,qC8,qNY r]
theorem qRL:∀ (d:FD) (n m:Nat),qcQ m (shp n d)=qC8 m d
 | .nil,_,_=>rfl
 | .cons x c r,n,m=>by simp only[shp,qcQ,qC8,qDA c,qRL r]
theorem qcU:∀ (d:FD) (n m:Nat),re m (shp n d)=shp m d
 | .nil,_,_=>rfl
 | .cons x c r,n,m=>by simp only[shp,re,qDA c,qcU c,qcU r]
def flD:FD->List qAD->Nat->List qAD
 | .nil,out,_=>out
 | .cons x c r,out,p=>flD r (flD c (qBA out p out.length++[mkN x p]) out.length) p
theorem qJ4 (e:FD):∀ (d:FD) (out:List qAD) (p:Nat),flD (d.app e) out p=flD e (flD d out p) p
 | .nil,_,_=>rfl
 | .cons x c r,out,p=>by simp only[FD.app,flD];exact qJ4 e r _ p
theorem qFE:∀ (d:FD) (out:List qAD) (p:Nat),(flD d out p).length=out.length+d.size:=by
 intro d
 induction d with
 | nil=>intro out p;rfl
 | cons x c r ic ir=>
  intro out p;simp only[flD,FD.size];rw[ir,ic,yBE,qA0,yBN];omega
def qR3 (u:List qAD):FD->Nat->Nat->Prop
 | .nil,_,_=>True
 | .cons x c r,n,p=>u.getD n qAB.dflt=qIJ (mkN x p) (qC8 (n+1) c)/\qR3 u c (n+1) n/\qR3 u r (n+1+c.size) p
theorem qa6 {u u':List qAD}:∀ (d:FD) (n p:Nat),(∀ q,n<=q->q<n+d.size->u'.getD q qAB.dflt=u.getD q qAB.dflt)->qR3 u d n p->qR3 u' d n p:=by
 intro d
 induction d with
 | nil=>intro n p _ _;exact True.intro
 | cons x c r ic ir=>
  intro n p h hl;simp only[FD.size] at h;obtain⟨h1,h2,h3⟩:=hl;refine⟨?_,ic _ _ (fun q q1 q2=>h q (by omega) (by omega)) h2,ir _ _ (fun q q1 q2=>h q (by omega) (by omega)) h3⟩
  rw[h n (yB8 _) (by omega),h1]
theorem qYC:∀ (d:FD) (out:List qAD) (p:Nat),p<out.length->
  (∀ q,q<out.length->q≠p->(flD d out p).getD q qAB.dflt=out.getD q qAB.dflt)/\
  (flD d out p).getD p qAB.dflt=qIJ (out.getD p qAB.dflt) ((out.getD p qAB.dflt).kids++qC8 out.length d)/\
  qR3 (flD d out p) d out.length p:=by
 intro d
 induction d with
 | nil=>
  intro out p hp;refine⟨fun q _ _=>rfl,?_,True.intro⟩
  show out.getD p qAB.dflt=_;rw[qC8,yAS];rfl
 | cons x c r ic ir=>
  intro out p hp;have hl1:(qBA out p out.length++[mkN x p]).length=out.length+1:=by rw[yBE,qA0];rfl
  obtain⟨b1,b2,b3⟩:=ic (qBA out p out.length++[mkN x p]) out.length (by omega)
  have hl2:=qFE c (qBA out p out.length++[mkN x p]) out.length;rw[hl1] at b1 b2 b3 hl2;have hL:(qBA out p out.length++[mkN x p]).getD out.length qAB.dflt=mkN x p:=by
   have:=qJA (qBA out p out.length) (mkN x p);rw[qA0] at this;exact this
  rw[hL] at b2;have b2':(flD c (qBA out p out.length++[mkN x p]) out.length).getD out.length qAB.dflt=qIJ (mkN x p) (qC8 (out.length+1) c):=b2;have hq:∀ q,q<out.length->(flD c (qBA out p out.length++[mkN x p]) out.length).getD q qAB.dflt=(qBA out p out.length).getD q qAB.dflt:=fun q hq=>by
   rw[b1 q (by omega) (by omega),qQJ _ _ _ (by rw[qA0];exact hq)]
  obtain⟨c1,c2,c3⟩:=ir (flD c (qBA out p out.length++[mkN x p]) out.length) p (by omega)
  rw[hl2] at c1 c2 c3;show(∀ q,_->_->(flD r (flD c (qBA out p out.length++[mkN x p]) out.length) p).getD q _=_)/\(flD r (flD c (qBA out p out.length++[mkN x p]) out.length) p).getD p _=_/\qR3 (flD r (flD c (qBA out p out.length++[mkN x p]) out.length) p) _ _ _;refine⟨fun q h1 h2=>?_,?_,?_,?_,c3⟩
  ·rw[c1 q (by omega) h2,hq q h1,qY9 _ _ _ _ h2]
  ·rw[c2,hq p hp,qYU _ _ _ hp];simp only[qC8];show qIJ _ ((_++[(out.length:Int)])++_)=qIJ _ _;rw[yAR];rfl
  ·rw[c1 _ (by omega) (by omega),b2']
  ·exact qa6 c _ _ (fun q q1 q2=>c1 q (by omega) (by omega)) b3
theorem qh4 {u:List qAD}:∀ (d:FD) (n p:Nat),qR3 u d n p->Lay u u (shp n d) n p:=by
 intro d
 induction d with
 | nil=>intro n p _;exact True.intro
 | cons x c r ic ir=>
  rintro n p ⟨h1,h2,h3⟩;refine⟨?_,ic _ _ h2,?_⟩
  ·rw[qRL,h1];rfl
  ·rw[qDA];exact ir _ _ h3
theorem qk6 {u:List qAD}:∀ (d:FD) (n p:Nat),qR3 u d n p->Exf (qAC u) (shp n d):=by
 intro d
 induction d with
 | nil=>intro n p _;exact True.intro
 | cons x c r ic ir=>
  rintro n p ⟨h1,h2,h3⟩;refine⟨?_,ic _ _ h2,ir _ _ h3⟩;rw[qNY];unfold qAC;rw[h1];rfl
def mkT (d:FD):List qAD:=flD d [qAJ] 0
theorem qJ2 (d:FD):(mkT d).length=1+d.size:=qFE d [qAJ] 0
theorem qJE (d:FD):(mkT d).getD 0 qAB.dflt=qIJ qAJ (qC8 1 d):=(qYC d [qAJ] 0 (yCN)).2.1
theorem qRP (d:FD):qR3 (mkT d) d 1 0:=(qYC d [qAJ] 0 (yCN)).2.2
theorem qYK (d:FD):Laid (mkT d) (mkT d) (shp 1 d):=
 ⟨by rw[qJ2,qDA],by rw[qJE,qRL];rfl,by rw[qJE];rfl,qh4 d 1 0 (qRP d)⟩
theorem qtK (d:FD):mkT d≠[]:=qmR (qYK d)
theorem qrM (d:FD):∃ s',D (qAC (mkT d)) (s0 (mkT d).length) 0 0 (shp 1 d) s':=by
 obtain⟨s',h⟩:=qsI (qYK d);rw[qcU] at h;exact⟨s',h⟩
inductive Loc:FD->Nat->Nat->qAD->FD->Prop
 | here {x c r n}:Loc (.cons x c r) n n x c
 | kid {y c r n k x S}:Loc c (n+1) k x S->Loc (.cons y c r) n k x S
 | next {y c r n k x S}:Loc r (n+1+c.size) k x S->Loc (.cons y c r) n k x S
theorem Loc.bnd {d n k x S}(h:Loc d n k x S):n<=k/\k+1+S.size<=n+d.size:=by
 induction h with
 | here=>simp only[FD.size];omega
 | kid _ ih=>simp only[FD.size];omega
 | next _ ih=>simp only[FD.size];omega
theorem Loc.lay {u:List qAD}{d n k x S}(h:Loc d n k x S):∀ {p:Nat},qR3 u d n p->(∃ w:Nat,u.getD k qAB.dflt=qIJ (mkN x w) (qC8 (k+1) S))/\qR3 u S (k+1) k:=by
 induction h with
 | here=>intro p hl;exact⟨⟨p,hl.1⟩,hl.2.1⟩
 | kid _ ih=>intro p hl;exact ih hl.2.1
 | next _ ih=>intro p hl;exact ih hl.2.2
theorem Loc.sub {d n k x S}(h:Loc d n k x S):Go.Vc.sub (shp n d) (k-n)=some (k,shp (k+1) S):=by
 induction h with
 | here=>simp only[shp];unfold Go.Vc.sub;rw[if_pos (by omega)]
 | @kid y c r n k x S h ih=>
  have hb:=h.bnd;simp only[shp];unfold Go.Vc.sub;rw[if_neg (by omega),if_pos (by rw[qDA];omega),show k-n-1=k-(n+1) by omega,ih]
 | @next y c r n k x S h ih=>
  have hb:=h.bnd;simp only[shp];unfold Go.Vc.sub;rw[if_neg (by omega),if_neg (by rw[qDA];omega),qDA,show k-n-1-c.size=k-(n+1+c.size) by omega,ih]
theorem Loc.sub0 {d k x S}(h:Loc d 1 k x S):Go.Vc.sub (F0 (shp 1 d)) k=some (k,shp (k+1) S):=by
 have hb:=h.bnd;have:=h.sub;unfold F0 Go.Vc.sub;rw[if_neg (by omega),if_pos (by rw[qDA];omega),this]
theorem Loc.app_l {d n k x S}(h:Loc d n k x S) (e:FD):Loc (d.app e) n k x S:=by
 induction h with
 | here=>exact .here
 | kid h _=>exact .kid h
 | next _ ih=>exact .next ih
theorem Loc.app_r {e k x S}:∀ (d:FD) (n:Nat),Loc e (n+d.size) k x S->Loc (d.app e) n k x S
 | .nil,n,h=>h
 | .cons y c r,n,h=>.next (Loc.app_r r _ (by rw[show n+1+c.size+r.size=n+(FD.cons y c r).size by simp only[FD.size];omega];exact h))
theorem qeW {d:FD}{k x S}(h:Loc d 1 k x S):(qE2 (mkT d) k).length=S.size:=by
 obtain⟨s',hd⟩:=qrM d;have hb:=h.bnd;unfold qE2;rw[if_pos ⟨by omega,by rw[qJ2];omega⟩,yAN]
 unfold qCJ;rw[List.length_map,qTM (qtK d) hd h.sub0,qDA]
def qUK (k:Nat):Nat->FD->FD
 | _,.nil=>.nil
 | n,.cons x c r=>.cons x (if n=k then .nil else qUK k (n+1) c) (qUK k (n+1+c.size) r)
theorem qW7 (k:Nat):∀ (d:FD) (n:Nat),(k<n\/n+d.size<=k)->qUK k n d=d:=by
 intro d
 induction d with
 | nil=>intro n _;rfl
 | cons x c r ic ir=>
  intro n h;simp only[FD.size] at h;simp only[qUK];rw[if_neg (by omega),ic _ (by omega),ir _ (by omega)]
theorem qPU (k:Nat) (e:FD):∀ (d:FD) (n:Nat),qUK k n (d.app e)=(qUK k n d).app (qUK k (n+d.size) e)
 | .nil,n=>rfl
 | .cons x c r,n=>by
  simp only[FD.app,qUK,FD.size];rw[qPU k e r,show n+1+c.size+r.size=n+(1+c.size+r.size) by omega]
theorem qgN {u u':List qAD}(k:Nat) (h:∀ q p,mkN (u'.getD q qAB.dflt) p=mkN (u.getD q qAB.dflt) p):∀ (d:FD) (n p0:Nat) (out:List qAD) (p:Nat),qR3 u d n p0->
  qL3 u' (prF k (shp n d)) out p=flD (qUK k n d) out p:=by
 intro d
 induction d with
 | nil=>intro n p0 out p _;rfl
 | cons x c r ic ir=>
  rintro n p0 out p ⟨h1,h2,h3⟩;have e1:mkN (u'.getD n qAB.dflt) p=mkN x p:=by rw[h,h1];rfl
  simp only[shp,prF,qUK,qL3,flD];rw[e1,ir _ p0 _ _ h3];congr 1;by_cases q:n=k
  ·rw[if_pos q,if_pos q];rfl
  ·rw[if_neg q,if_neg q,ic _ n _ _ h2]
theorem qO9 {d:FD}{k:Nat}(h1:1<=k) (h2:k<1+d.size):qCL (qC9 (mkT d) k)=mkT (qUK k 1 d):=by
 obtain⟨s',hd⟩:=qrM d;have hk:k<(mkT d).length:=by rw[qJ2];exact h2
 have hne2:qC9 (mkT d) k≠[]:=fun e=>by have:=qMO (mkT d) k;rw[e] at this;simp at this;omega
 have hK0:qAC (mkT d) 0=qED (shp 1 d):=by rw[qNY];unfold qAC;rw[qJE];rfl
 obtain⟨s2,d2⟩:=qjT k hk hK0 (qk6 d 1 0 (qRP d)) (qOA hd).2.1 (qOA hd).2.2.1;rw[qe7 hne2 d2,if_neg (by omega),qgN k (qdV (mkT d) k hk) d 1 0 _ _ (qRP d),qdV (mkT d) k hk,qJE]
 rfl
def fdO (t:List qAD):Fo->FD
 | .nil=>.nil
 | .cons a c r=>.cons (t.getD a qAB.dflt) (fdO t c) (fdO t r)
theorem qQG (t:List qAD):∀ f:Fo,(fdO t f).size=f.size
 | .nil=>rfl
 | .cons a c r=>by simp only[fdO,FD.size,Fo.size,qQG t c,qQG t r]
theorem qMM (t:List qAD):∀ (f:Fo) (out:List qAD) (p:Nat),qL3 t f out p=flD (fdO t f) out p
 | .nil,_,_=>rfl
 | .cons a c r,out,p=>by simp only[qL3,fdO,flD];rw[qMM t c,qMM t r]
end Go.Vc
