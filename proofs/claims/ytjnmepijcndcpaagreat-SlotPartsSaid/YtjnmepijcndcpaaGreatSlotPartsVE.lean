/- A part of the proof: lemmas and walks that the last text of the claim joins; no condition. -/
import Derived.Test.YtjnmepijcndcpaaGreatSlotPartsVD
import Derived.OrdersIn
import Derived.Still
open Array renaming ext_getElem?→yAA,getD_eq_getD_getElem?→yAB,getElem?_eq_getElem→yAC,getElem?_eq_none→yAD,getElem?_eq_some_iff→yAE,getElem?_replicate→yAF,getElem?_setIfInBounds→yAG,getElem?_setIfInBounds_ne→yAH
open Bool renaming and_eq_true→yAI,not_eq_true'→yAJ,or_eq_true→yAK
open List renaming append_nil→yAL,drop_eq_getElem_cons→yAM,drop_eq_nil_of_le→yAN,filterMap_cons→yAO,filter_cons→yAP,getElem?_eq_getElem→yAQ,getElem?_take→yAR,getElem?_toArray→yAS,length_cons→yAT,length_eq_zero_iff→yAU,mem_append→yAV,mem_append_right→yAW,mem_cons→yAX,mem_filterMap→yAY,mem_map→yAZ,mem_of_getElem?→yA0,nodup_cons→yA1
open Nat renaming beq_refl→yA2,le_refl→yA3,lt_or_ge→yA4,lt_trichotomy→yA5,zero_add→yA6
open Option renaming bind_some→yA7,map_none→yA8,map_some→yA9
set_option linter.unusedVariables false
set_option linter.unusedSimpArgs false
set_option maxHeartbeats 8000000
namespace Go.Vc
set_option autoImplicit false
theorem qJ3 {B:Base}{F:Entry->Prop}{e N r β σ Φ a w n op}{K:EK}(hY:YOk B F N) (hF:F e) (h:qoQ B op σ Φ n K) (s:Sat B e N r β σ Φ a w) {dst ty pos after guard}:
  (∀ c,op≠.defer c)/\OpTo B.P a w ⟨dst,op,ty,pos,after,guard⟩ (fun v w'=>∃ e',F e'/\After B e' N a σ K v w'):=by
 have ev:∀ {x:Operand}{sv:SV},(∀ p r β (a:Act) g,Has p x->Sm p r β σ a.tmps [] g->Rel r β sv (a.eval x))->Rel r β sv (a.eval x):=fun h=>h _ r β a _ (qLT _) (Sm.plain s.agree)
 unfold qoQ at h;split at h
 ·rename_i t;obtain⟨l,z,hk,ho,_,hz,hl⟩:=qCF h;have hk':∃ To:Option Nat,(∀ t',To=some t'->t=t')/\qm9 n To l σ Φ K:=by
   cases hq:B.tb t with
   | true=>rw[hq] at hk;exact⟨some t,fun t' ht=>(Option.some.inj ht),hk⟩
   | false=>rw[hq] at hk;exact⟨none,(fun t' ht=>by cases ht),hk⟩
  obtain⟨To,hTo,hk⟩:=hk';obtain⟨sv, σ', Φ',n',hk2,rfl, β',hr,s'⟩:=qPR hk s t hTo z.cells (hl r β);refine⟨(fun c hc=>by cases hc),.val (.pointer (some ⟨w.heap.size,0,none⟩)) { w with heap:=w.heap.push (.cells z.cells t) } ?_ ⟨e,hF,_,_,_,_,_,_,hk2,hr,s',fun _ h=>h⟩⟩
  simp only[execOp,Instr.alloc,Sem.run_bind,hz,Result.andThen_ok,newVar,newRow,run_newObj,Sem.run_pure]
 ·rename_i t x;obtain⟨sx,h,hx⟩:=qAK h;obtain⟨l,hk,ho,_,hl⟩:=qD2 h;obtain⟨sv, σ', Φ',n',hk2,rfl, β',hr,s'⟩:=qPR hk s t (fun t' ht=>by cases ht) (a.eval x).cells (hl r β _ (ev hx))
  refine⟨(fun c hc=>by cases hc),.val (.pointer (some ⟨w.heap.size,0,none⟩)) { w with heap:=w.heap.push (.cells (a.eval x).cells t) } ?_ ⟨e,hF,_,_,_,_,_,_,hk2,hr,s',fun _ h=>h⟩⟩
  simp only[execOp,Instr.box,Sem.run_bind,Result.andThen_ok,newVar,newRow,run_newObj,Sem.run_pure]
 ·-- store
  rename_i t p x;obtain⟨sp,h,hp⟩:=qAK h;obtain⟨sx,h,hx⟩:=qAK h;obtain⟨sv, σ', Φ',r',w',hk,hrun,rfl,s',hD⟩:=qQ2 h s (ev hp) (ev hx);refine⟨(fun c hc=>by cases hc),.skip w' ?_ ⟨e,hF,_,_,_,_,_,_,hk,.und,s',hD⟩⟩
  simp only[execOp,Sem.run_bind,hrun,Result.andThen_ok,Sem.run_pure]
 ·-- buildSlice
  rename_i t ln parts;obtain⟨xs,h,_,_⟩:=qC6 h;obtain⟨_, σ1, Φ1,r1,h,s1,_,hD⟩:=qHN h s (vs:=[]) ⟨rfl,fun i sv v h=>by simp at h⟩
  cases hnp:npT B t with
  | true=>
   rw[hnp] at h;simp only[cond_true] at h;obtain⟨sv,hk,hnd,hop⟩:=qDE h (fun _=>⟨_,r1, β,a,w,fun _ _=>qLT _,Sm.plain s1.agree,s1.mem⟩)
   refine⟨hnd,(hop _ r1 β a w (fun _ _=>qLT _) (Sm.plain s1.agree) s1.G s1.mem dst ty pos after guard).mono ?_⟩
   rintro v w' ⟨r',hr,hle,m',hid⟩;exact⟨e,hF,sv, σ1, Φ1,n,r', β,hk,hr,s1.step (s1.agree.of fun k g sv hk=>⟨sv,hk,fun v hr=>hr.mono hle⟩) m' hle hid,hD⟩
  | false=>
  rw[hnp] at h;obtain⟨sv, Φ',n',v,w', β',hk,hrun,hr,s'⟩:=qKP h s1;refine⟨(fun c hc=>by cases hc),.val v w' ?_ ⟨e,hF,_,_,_,_,_,_,hk,hr,s',hD⟩⟩
  have e:(Array.map (fun(x:Nat×Operand)=>(x.1,a.eval x.2)) ⟨parts⟩)=(parts.map fun(i,x)=>(i,a.eval x)).toArray:=by simp
  simp only[execOp,Sem.run_bind];rw[e,hrun];rfl
 ·-- makeSlice
  rename_i t l c;obtain⟨sl,h,hl⟩:=qAK h;obtain⟨sc,h,hc⟩:=qAK h;obtain⟨sv, Φ',n',v,w', β',hk,hrun,hr,s'⟩:=qL9 h s (ev hl) (ev hc);refine⟨(fun c hc=>by cases hc),.val v w' ?_ ⟨e,hF,_,_,_,_,_,_,hk,hr,s',fun _ h=>h⟩⟩
  simp only[execOp,Sem.run_bind,hrun,Result.andThen_ok,Sem.run_pure]
 ·-- makeMap
  rename_i t;obtain⟨sv, Φ',n',v,w', β',hk,hrun,hr,s'⟩:=qH6 h s;refine⟨(fun c hc=>by cases hc),.val v w' ?_ ⟨e,hF,_,_,_,_,_,_,hk,hr,s',fun _ h=>h⟩⟩
  simp only[execOp,Sem.run_bind,yA8,hrun none (.inl rfl),Result.andThen_ok,Sem.run_pure]
 ·-- makeMap
  rename_i t ro;obtain⟨sr,h,hro⟩:=qAK h;cases sr<;>simp only at h;obtain⟨sv, Φ',n',v,w', β',hk,hrun,hr,s'⟩:=qH6 h s;refine⟨(fun c hc=>by cases hc),.val v w' ?_ ⟨e,hF,_,_,_,_,_,_,hk,hr,s',fun _ h=>h⟩⟩
  have he:=ev hro;generalize hq:a.eval ro=u at he;cases he;simp only[execOp,Sem.run_bind,yA9,hq,hrun _ (.inr ⟨_,_,rfl⟩),Result.andThen_ok,Sem.run_pure]
 ·-- mapUpdate
  rename_i t m k x;obtain⟨sm,h,hm⟩:=qAK h;obtain⟨sk,h,hk⟩:=qAK h;obtain⟨sx,h,hx⟩:=qAK h;obtain⟨sv, Φ',w',hk,hrun,rfl,s'⟩:=qI5 h s (ev hm) (ev hk) (ev hx);refine⟨(fun c hc=>by cases hc),.skip w' ?_ ⟨e,hF,_,_,_,_,_,_,hk,.und,s',fun _ h=>h⟩⟩
  simp only[execOp,Sem.run_bind,hrun,Result.andThen_ok,Sem.run_pure]
 ·-- insert
  rename_i t m k x;obtain⟨sm,h,hm⟩:=qAK h;obtain⟨sk,h,hk⟩:=qAK h;obtain⟨sx,h,hx⟩:=qAK h;obtain⟨sv, Φ',w',hk,hrun,rfl,s'⟩:=qI5 h s (ev hm) (ev hk) (ev hx);refine⟨(fun c hc=>by cases hc),.skip w' ?_ ⟨e,hF,_,_,_,_,_,_,hk,.und,s',fun _ h=>h⟩⟩
  simp only[execOp,Sem.run_bind,hrun,Result.andThen_ok,Sem.run_pure]
 ·-- convert
  rename_i sT dT x;obtain⟨sx,h,hx⟩:=qAK h;obtain⟨sv, Φ',n',v,w', β',hk,hrun,hr,s'⟩:=qTF h s (ev hx);refine⟨(fun c hc=>by cases hc),.val v w' ?_ ⟨e,hF,_,_,_,_,_,_,hk,hr,s',fun _ h=>h⟩⟩
  simp only[execOp,Sem.run_bind,hrun,Result.andThen_ok,Sem.run_pure]
 ·-- range
  rename_i t x;obtain⟨sx,h,hx⟩:=qAK h;obtain⟨sv, Φ',n',v,w',r', β',hk,hrun,hr,s'⟩:=qSP h s (ev hx);refine⟨(fun c hc=>by cases hc),.val v w' ?_ ⟨e,hF,_,_,_,_,_,_,hk,hr,s',fun _ h=>h⟩⟩
  simp only[execOp,Sem.run_bind,hrun,Result.andThen_ok,Sem.run_pure]
 ·-- next
  rename_i x is;obtain⟨sx,h,hx⟩:=qAK h;obtain⟨sv, Φ',n',v,w',hk,hrun,hr,s'⟩:=qVR (ty:=ty) h s (ev hx);refine⟨(fun c hc=>by cases hc),.val v w' ?_ ⟨e,hF,_,_,_,_,_,_,hk,hr,s',fun _ h=>h⟩⟩
  simp only[execOp,Sem.run_bind,hrun,Result.andThen_ok,Sem.run_pure]
 ·-- entry
  rename_i x;obtain⟨sx,h,hx⟩:=qAK h;obtain⟨sv,v,hk,hrun,hr⟩:=qTG h s (ev hx);refine⟨(fun c hc=>by cases hc),.val v w ?_ ⟨e,hF,_,_,_,_,_,_,hk,hr,s,fun _ h=>h⟩⟩
  simp only[execOp,Sem.run_bind,hrun,Result.andThen_ok,Sem.run_pure]
 ·-- a slice and nil
  rename_i t x t2;obtain⟨sx,h,hx⟩:=qAK h;obtain⟨b,hk,hrun,av,nv,cv,hv⟩:=qPO h s.mem (ev hx);refine⟨(fun c hc=>by cases hc),.val (.bool b) w ?_ ⟨e,hF,_,_,_,_,_,_,hk,.bool,s,fun _ h=>h⟩⟩
  have he:a.eval (.const (.slice none 0 0))=.slice none 0 0:=rfl;rw[hv] at hrun;simp only[execOp,Sem.run_bind,hv,he,qN4,Result.andThen_ok];have hb:(Go.binOp .eql t (.slice av nv cv) (.slice none 0 0)).run B.P w=.ok (.bool b) w:=by
   show Sem.run B.P (do pure (Value.bool (←Op.equal t _ _))) w=_
   rw[Sem.run_bind,hrun];rfl
  rw[hb];rfl
 ·-- a slice,not nil
  rename_i t x t2;obtain⟨sx,h,hx⟩:=qAK h;obtain⟨b,hk,hrun,av,nv,cv,hv⟩:=qPO h s.mem (ev hx);refine⟨(fun c hc=>by cases hc),.val (.bool (!b)) w ?_ ⟨e,hF,_,_,_,_,_,_,hk,.bool,s,fun _ h=>h⟩⟩
  have he:a.eval (.const (.slice none 0 0))=.slice none 0 0:=rfl;rw[hv] at hrun;simp only[execOp,Sem.run_bind,hv,he,qN4,Result.andThen_ok];have hb:(Go.binOp .neq t (.slice av nv cv) (.slice none 0 0)).run B.P w=.ok (.bool (!b)) w:=by
   show Sem.run B.P (do pure (Value.bool (!(←Op.equal t _ _)))) w=_
   rw[Sem.run_bind,hrun];rfl
  rw[hb];rfl
 ·-- cut
  rename_i t x hi;obtain⟨sx,h,hx⟩:=qAK h;split at h
  ·rename_i id;obtain⟨sh,h,hh⟩:=qAK h;obtain⟨sv, σ', Φ',n',v, β',hk,hrun,hr,s',hD⟩:=qaU h s (ev hh);refine⟨(fun c hc=>by cases hc),.val v w ?_ ⟨e,hF,_,_,_,_,_,_,hk,hr,s',hD⟩⟩
   have he:a.eval x=hd (β id):=by
    have:=ev hx;generalize a.eval x=u at this;cases this;rfl
   simp only[execOp,Sem.run_bind,yA9,yA8,he,hrun,Result.andThen_ok,Sem.run_pure]
  ·obtain⟨sv,hk,hnd,hop⟩:=qDE h (fun _=>⟨_,r, β,a,w,fun _ _=>qLT _,Sm.plain s.agree,s.mem⟩)
   refine⟨hnd,(hop _ r β a w (fun _ _=>qLT _) (Sm.plain s.agree) s.G s.mem dst ty pos after guard).mono ?_⟩
   rintro v w' ⟨r',hr,hle,m',hid⟩;exact⟨e,hF,sv, σ, Φ,n,r', β,hk,hr,s.step (s.agree.of fun k g sv hk=>⟨sv,hk,fun v hr=>hr.mono hle⟩) m' hle hid,fun D hD=>hD⟩
 ·-- cut,with no room behind
  rename_i t x hi mx;obtain⟨sx,h,hx⟩:=qAK h;split at h
  ·rename_i id;obtain⟨sh,h,hh⟩:=qAK h;obtain⟨sm,h,hm⟩:=qAK h;obtain⟨sv, σ', Φ',n',v, β',hk,hrun,hr,s',hD⟩:=qVK h s (ev hh) (ev hm);refine⟨(fun c hc=>by cases hc),.val v w ?_ ⟨e,hF,_,_,_,_,_,_,hk,hr,s',hD⟩⟩
   have he:a.eval x=hd (β id):=by
    have:=ev hx;generalize a.eval x=u at this;cases this;rfl
   simp only[execOp,Sem.run_bind,yA9,yA8,he,hrun,Result.andThen_ok,Sem.run_pure]
  ·exact h.elim
 ·-- the end of it
  rename_i t x lo;obtain⟨sx,h,hx⟩:=qAK h;split at h
  ·rename_i id;obtain⟨sl,h,hl⟩:=qAK h;obtain⟨sv,v,hk,hrun,hr⟩:=qW9 h s (ev hl);refine⟨(fun c hc=>by cases hc),.val v w ?_ ⟨e,hF,_,_,_,_,_,_,hk,hr,s,fun _ h=>h⟩⟩
   have he:a.eval x=hd (β id):=by
    have:=ev hx;generalize a.eval x=u at this;cases this;rfl
   simp only[execOp,Sem.run_bind,yA9,yA8,he,hrun,Result.andThen_ok,Sem.run_pure]
  ·obtain⟨sv,hk,hnd,hop⟩:=qDE h (fun _=>⟨_,r, β,a,w,fun _ _=>qLT _,Sm.plain s.agree,s.mem⟩)
   refine⟨hnd,(hop _ r β a w (fun _ _=>qLT _) (Sm.plain s.agree) s.G s.mem dst ty pos after guard).mono ?_⟩
   rintro v w' ⟨r',hr,hle,m',hid⟩;exact⟨e,hF,sv, σ, Φ,n,r', β,hk,hr,s.step (s.agree.of fun k g sv hk=>⟨sv,hk,fun v hr=>hr.mono hle⟩) m' hle hid,fun D hD=>hD⟩
 ·-- clear
  rename_i x t;obtain⟨sx,h,hx⟩:=qAK h;split at h
  ·obtain⟨sv, Φ',v,w',hk,hrun,hr,s'⟩:=qTO (ty:=ty) h s (ev hx);refine⟨(fun c hc=>by cases hc),.val v w' ?_ ⟨e,hF,_,_,_,_,_,_,hk,hr,s',fun _ h=>h⟩⟩
   simp only[execOp,resolve,Sem.run_bind,Sem.run_pure,Result.andThen_ok,invoke,builtin];rw[show Array.map a.eval ⟨[x]⟩ = #[a.eval x] by simp]
   rw[hrun];rfl
  ·obtain⟨sv,hk,hnd,hop⟩:=qDE h (fun _=>⟨_,r, β,a,w,fun _ _=>qLT _,Sm.plain s.agree,s.mem⟩)
   refine⟨hnd,(hop _ r β a w (fun _ _=>qLT _) (Sm.plain s.agree) s.G s.mem dst ty pos after guard).mono ?_⟩
   rintro v w' ⟨r',hr,hle,m',hid⟩;exact⟨e,hF,sv, σ, Φ,n,r', β,hk,hr,s.step (s.agree.of fun k g sv hk=>⟨sv,hk,fun v hr=>hr.mono hle⟩) m' hle hid,fun D hD=>hD⟩
 ·-- append
  rename_i sl x ts tx;obtain⟨ss,h,hs⟩:=qAK h;obtain⟨sx,h,hx⟩:=qAK h;split at h
  ·have hs':=ev hs;generalize hq:a.eval sl=u at hs';cases hs';obtain⟨sv, σ', Φ',n',v,w', β',hk,hrun,hr,s',hD⟩:=qaR (ty:=ty) h s (ev hx);refine⟨(fun c hc=>by cases hc),.val v w' ?_ ⟨e,hF,_,_,_,_,_,_,hk,hr,s',hD⟩⟩
   simp only[execOp,resolve,Sem.run_bind,Sem.run_pure,Result.andThen_ok,invoke,builtin];rw[show Array.map a.eval ⟨[sl,x]⟩ = #[a.eval sl,a.eval x] by simp,hq]
   rw[hrun];rfl
  ·obtain⟨sv, σ', Φ',n',v,w', β',hk,hrun,hr,s',hD⟩:=qJR (ty:=ty) h s (ev hs) (ev hx);refine⟨(fun c hc=>by cases hc),.val v w' ?_ ⟨e,hF,_,_,_,_,_,_,hk,hr,s',hD⟩⟩
   simp only[execOp,resolve,Sem.run_bind,Sem.run_pure,Result.andThen_ok,invoke,builtin];rw[show Array.map a.eval ⟨[sl,x]⟩ = #[a.eval sl,a.eval x] by simp]
   rw[hrun];rfl
 ·-- where the first element lies
  rename_i x ts;obtain⟨sx,h,hx⟩:=qAK h;obtain⟨sv,v,hk,hrun,hr⟩:=qUV (t:=ts) (ty:=ty) h s (ev hx);refine⟨(fun c hc=>by cases hc),.val v w ?_ ⟨e,hF,_,_,_,_,_,_,hk,hr,s,fun _ h=>h⟩⟩
  simp only[execOp,resolve,Sem.run_bind,Sem.run_pure,Result.andThen_ok,invoke,builtin];rw[show Array.map a.eval ⟨[x]⟩ = #[a.eval x] by simp]
  rw[hrun];rfl
 ·-- bytes,as a text
  rename_i p i tp ti;obtain⟨sp,h,hp⟩:=qAK h;obtain⟨si,h,hi⟩:=qAK h;obtain⟨sv, σ', Φ',n',v,w', β',hk,hrun,hr,s',hD⟩:=qVO (ti:=ti) (ty:=ty) h s (ev hp) (ev hi);refine⟨(fun c hc=>by cases hc),.val v w' ?_ ⟨e,hF,_,_,_,_,_,_,hk,hr,s',hD⟩⟩
  simp only[execOp,resolve,Sem.run_bind,Sem.run_pure,Result.andThen_ok,invoke,builtin];rw[show Array.map a.eval ⟨[p,i]⟩ = #[a.eval p,a.eval i] by simp]
  rw[hrun];rfl
 ·-- delete
  rename_i m k tm tk;obtain⟨sm,h,hm⟩:=qAK h;obtain⟨sk,h,hk⟩:=qAK h;obtain⟨sv, Φ',v,w',hk,hrun,rfl,s'⟩:=qP7 h s (ev hm) (ev hk) tk ty;refine⟨(fun c hc=>by cases hc),.val v w' ?_ ⟨e,hF,_,_,_,_,_,_,hk,.und,s',fun _ h=>h⟩⟩
  simp only[execOp,resolve,Sem.run_bind,Sem.run_pure,Result.andThen_ok,invoke,builtin];rw[show Array.map a.eval ⟨[m,k]⟩ = #[a.eval m,a.eval k] by simp]
  rw[hrun];rfl
 ·-- len
  rename_i x t;obtain⟨sx,h,hx⟩:=qAK h;split at h
  ·obtain⟨sv,v,hk,hrun,hr⟩:=qPZ h s (ev hx) ty;refine⟨(fun c hc=>by cases hc),.val v w ?_ ⟨e,hF,_,_,_,_,_,_,hk,hr,s,fun _ h=>h⟩⟩
   simp only[execOp,resolve,Sem.run_bind,Sem.run_pure,Result.andThen_ok,invoke,builtin];rw[show Array.map a.eval ⟨[x]⟩ = #[a.eval x] by simp]
   rw[hrun];rfl
  ·obtain⟨sv,hk,hnd,hop⟩:=qDE h (fun _=>⟨_,r, β,a,w,fun _ _=>qLT _,Sm.plain s.agree,s.mem⟩)
   refine⟨hnd,(hop _ r β a w (fun _ _=>qLT _) (Sm.plain s.agree) s.G s.mem dst ty pos after guard).mono ?_⟩
   rintro v w' ⟨r',hr,hle,m',hid⟩;exact⟨e,hF,sv, σ, Φ,n,r', β,hk,hr,s.step (s.agree.of fun k g sv hk=>⟨sv,hk,fun v hr=>hr.mono hle⟩) m' hle hid,fun D hD=>hD⟩
 ·-- a call
  rename_i f xs ts;obtain⟨fv,h,hf⟩:=qAK h;split at h
  ·rename_i fid caps;obtain⟨l,h,h1,h2⟩:=qC6 h;have h:=qKZ h;have hfv:=ev hf;generalize hq:a.eval f=v at hfv;cases hfv with
   | fn hl hc=>
    rename_i cs;cases hne:B.ne fid with
    | true=>
     rw[hne] at h;simp only[cond_true] at h;split at h
     ·rename_i x1 hx1;have hrl:qA5 r β [x1] (xs.map a.eval++cs):=by rw[<-hx1];exact(qQ1 h1 (h2 _ r β a _ (fun _ _=>qLT _) (Sm.plain s.agree))).append ⟨hl,hc⟩
      obtain⟨u,hu⟩:∃ u,xs.map a.eval++cs=[u]:=by
       have:=hrl.1;simp only[yAT,List.length_nil] at this;exact List.length_eq_one_iff.1 this
      rw[hu] at hrl;refine⟨(fun c hc=>by cases hc),.val u w ?_ ⟨e,hF,_,_,_,_,_,_,h,hrl.2 0 _ u rfl rfl,s,fun _ h=>h⟩⟩
      have hcall:=B.ne_ok fid hne u w;have hargs:(#[]++Array.map a.eval ⟨xs⟩++cs.toArray) = #[u]:=by have:=congrArg List.toArray hu;simpa using this
      simp only[execOp,resolve,hq,Deferred.ofValue,Sem.run_bind,Sem.run_pure,Result.andThen_ok,invoke];rw[hargs,hcall]
      try rfl
     ·exact h.elim
    | false=>
    rw[hne] at h;simp only[cond_false] at h;refine⟨(fun c hc=>by cases hc),(qWI h s (vs:=xs.map a.eval++cs) ((qQ1 h1 (h2 _ r β a _ (fun _ _=>qLT _) (Sm.plain s.agree))).append ⟨hl,hc⟩) fun w=>?_).mono fun v w' h=>⟨e,hF,h⟩⟩
    simp only[execOp,resolve,hq,Deferred.ofValue,Sem.run_bind,Sem.run_pure,Result.andThen_ok,invoke];congr 2;simp
  ·rename_i l;obtain⟨ys,h,h1,h2⟩:=qC6 h;have hfv:=ev hf;generalize hq:a.eval f=v at hfv;cases hfv;obtain⟨fn,tmps,assign,body,hrun,hr⟩:=qTD hY h hF s (qQ1 h1 (h2 _ r β a _ (fun _ _=>qLT _) (Sm.plain s.agree)))
   refine⟨(fun c hc=>by cases hc),.round l fn tmps assign body ?_ hr⟩
   simp only[execOp,resolve,hq,Deferred.ofValue,Sem.run_bind,Sem.run_pure,Result.andThen_ok,invoke];have e:(Array.map a.eval ⟨xs⟩ ++ #[])=(xs.map a.eval).toArray:=by simp
   first|(rw[e];exact hrun)|(simp;simpa using hrun)
  ·exact h.elim
 ·obtain⟨sv,hk,hnd,hop⟩:=qDE h (fun _=>⟨_,r, β,a,w,fun _ _=>qLT _,Sm.plain s.agree,s.mem⟩)
  refine⟨hnd,(hop _ r β a w (fun _ _=>qLT _) (Sm.plain s.agree) s.G s.mem dst ty pos after guard).mono ?_⟩
  rintro v w' ⟨r',hr,hle,m',hid⟩;exact⟨e,hF,sv, σ, Φ,n,r', β,hk,hr,s.step (s.agree.of fun k g sv hk=>⟨sv,hk,fun v hr=>hr.mono hle⟩) m' hle hid,fun D hD=>hD⟩
theorem qCK {all:List Oper}{j s:Nat}(h:qN6 all j=some s):∃ o,all[j]?=some o/\o.dst=some s:=by
 unfold qN6 at h;rw[qE5] at h;split at h
 ·exact⟨_,by assumption,h⟩
 ·cases h
theorem qCN {all:List Oper}{j s:Nat}(h:qN6 all j=some s) (t:Array Value) (w:Bool):(yielded all.toArray t j==some w)=true↔t[s]?=some (.bool w):=by
 obtain⟨o,h1,h2⟩:=qCK h;unfold yielded;simp only[yAS,h1,yA7,h2];cases hq:t[s]? with
 | none=>simp
 | some v=>cases v<;>simp
structure RegOk (N:Nat) (all:List Oper):Prop where
 lt:∀ o∈all,∀ d,o.dst=some d->d<N
 nodup:(qL1 all).Nodup
 before:∀ (i:Nat) (o:Oper),all[i]?=some o->∀ j w,o.guard=some (j,w)->j<i
theorem qVD {d:Nat}{l:List Oper}(h:qX7 d l=true):d∉qL1 l:=by
 induction l with
 | nil=>simp[qL1]
 | cons o r ih=>
  simp only[qX7,yAI] at h;have:=ih h.2;cases hd:o.dst with
  | none=>simp only[qL1,yAO,hd];exact this
  | some d'=>
   simp only[qL1,yAO,hd,yAX,not_or];refine⟨?_,this⟩;rintro rfl;have h1:=h.1;rw[hd] at h1;simp[yA2] at h1
theorem qiZ {N:Nat}{all:List Oper}(h1:qZD N all=true) (h2:qFX all=true) (h3:qJV 0 all=true):RegOk N all:=by
 refine⟨?_,?_,?_⟩
 ·clear h2 h3
  induction all with
  | nil=>intro o ho;cases ho
  | cons x r ih=>
   simp only[qZD,yAI] at h1;intro o ho d hd;cases ho with
   | head=>
    have:=h1.1;rw[hd] at this;exact(Nat.blt_eq▸this:_<_)
   | tail _ ho=>exact ih h1.2 o ho d hd
 ·clear h1 h3
  induction all with
  | nil=>exact List.nodup_nil
  | cons x r ih=>
   simp only[qFX,yAI] at h2;have:=ih h2.2;cases hd:x.dst with
   | none=>simp only[qL1,yAO,hd];exact this
   | some d=>
    simp only[qL1,yAO,hd];have h:=h2.1;rw[hd] at h;exact yA1.2 ⟨qVD h,this⟩
 ·clear h1 h2;have gen:∀ (l:List Oper) (k:Nat),qJV k l=true->∀ (i:Nat) (o:Oper),l[i]?=some o->∀ j w,o.guard=some (j,w)->j<k+i:=by
   intro l
   induction l with
   | nil=>intro k _ i o hi;simp at hi
   | cons x r ih=>
    intro k h i o hi j w hg;simp only[qJV,yAI] at h;cases i with
    | zero=>
     simp at hi;subst hi;have:=h.1;rw[hg] at this;simpa[Nat.blt_eq] using this
    | succ i=>
     have:=ih (k+1) h.2 i o (by simpa using hi) j w hg
     omega
  intro i o hi j w hg;have:=gen all 0 h3 i o hi j w hg;omega
theorem qEH {all:List Oper}{i s:Nat}:s∈qL1 (all.take i)↔∃ j o,j<i/\all[j]?=some o/\o.dst=some s:=by
 unfold qL1;rw[yAY];constructor
 ·rintro⟨o,ho,hd⟩;obtain⟨j,hj,rfl⟩:=List.getElem_of_mem ho;rw[List.length_take] at hj;refine⟨j,_,by omega,?_,hd⟩
  rw[List.getElem_take];exact yAQ (by omega)
 ·rintro⟨j,o,hj,ho,hd⟩;refine⟨o,?_,hd⟩;have:=qAV ho;exact yA0 (i:=j) (by rw[yAR,if_pos hj];exact ho)
theorem RegOk.uniq {N all}(h:RegOk N all):∀ {i j:Nat}{oi oj:Oper}{d:Nat},all[i]?=some oi->all[j]?=some oj->oi.dst=some d->oj.dst=some d->i=j:=by
 have key:∀ (l:List Oper),(qL1 l).Nodup->∀ (i j:Nat) (oi oj:Oper) (d:Nat),l[i]?=some oi->l[j]?=some oj->oi.dst=some d->oj.dst=some d->i=j:=by
  intro l
  induction l with
  | nil=>intro _ i j oi oj d h;simp at h
  | cons x r ih=>
   intro hn i j oi oj d hi hj hdi hdj;have hmem:∀ {k:Nat}{ok:Oper},r[k]?=some ok->ok.dst=some d->d∈qL1 r:=fun hk hd=>yAY.2 ⟨_,yA0 hk,hd⟩
   have hr:(qL1 r).Nodup:=by
    cases hx:x.dst with
    | none=>simpa[qL1,hx] using hn
    | some d'=>simp only[qL1,yAO,hx] at hn;exact(yA1.1 hn).2
   cases i with
   | zero=>
    cases j with
    | zero=>rfl
    | succ j=>
     simp at hi;subst hi;simp only[qL1,yAO,hdi] at hn;exact((yA1.1 hn).1 (hmem (by simpa using hj) hdj)).elim
   | succ i=>
    cases j with
    | zero=>
     simp at hj;subst hj;simp only[qL1,yAO,hdj] at hn;exact((yA1.1 hn).1 (hmem (by simpa using hi) hdi)).elim
    | succ j=>rw[ih hr i j oi oj d (by simpa using hi) (by simpa using hj) hdi hdj]
 exact fun {i j oi oj d}=>key all h.nodup i j oi oj d
theorem RegOk.fresh {N all}(h:RegOk N all) {i:Nat}{o:Oper}{d:Nat}(ho:all[i]?=some o) (hd:o.dst=some d):d∉qL1 (all.take i):=by
 intro hm;obtain⟨j,o',hj,ho',hd'⟩:=qEH.1 hm;have:=h.uniq ho ho' hd hd';omega
theorem RegOk.guardIn {N all}(h:RegOk N all) {i:Nat}{o:Oper}{j s:Nat}{w:Bool}(ho:all[i]?=some o) (hg:o.guard=some (j,w)) (hs:qN6 all j=some s):s∈qL1 (all.take i):=by
 obtain⟨o',h1,h2⟩:=qCK hs;exact qEH.2 ⟨j,o',h.before i o ho j w hg,h1,h2⟩
theorem qDX.mono {D D':List Nat}{σ:Env}(h:qDX D σ) (hs:∀ x∈D,x∈D'):qDX D' σ:=fun k s w sv hk=>hs _ (h k s w sv hk)
theorem qND {all:List Oper}{i j:Nat}(h:i<=j):∀ x∈qL1 (all.take i),x∈qL1 (all.take j):=by
 intro x hx;obtain⟨k,o,h1,h2,h3⟩:=qEH.1 hx;exact qEH.2 ⟨k,o,by omega,h2,h3⟩
theorem Sat.put {B:Base}{e N r β σ Φ a w D}(s:Sat B e N r β σ Φ a w) (hgd:qDX D σ) {dst:Option Nat}{gd:Option (Nat×Bool)}{sv:SV}{v:Value}
  (hd:∀ d,dst=some d->d∉D/\d<N)
  (hv:match gd with|none=>Rel r β sv v|some (s,w)=>s∈D/\(a.tmps[s]?=some (.bool w)->Rel r β sv v)/\(a.tmps[s]?≠some (.bool w)->v=undef)):
  Sat B e N r β (qK7 dst gd sv σ) Φ (a.put dst v) w:=by
 cases dst with
 | none=>exact s
 | some d=>
  obtain⟨h1,h2⟩:=hd d rfl;refine⟨?_,s.mem,s.G,s.kept,s.defers,by rw[qBK];exact s.size⟩
  refine s.agree.put hgd h1 (by rw[s.size];exact h2) ?_
  cases gd with
  | none=>exact hv
  | some p=>exact⟨fun hq=>h1 (hq▸hv.1),hv.2⟩
theorem qIO {D D':List Nat}{σ:Env}{dst:Option Nat}(hgd:qDX D σ) (hs:∀ x∈D,x∈D') {gd:Option (Nat×Bool)}{sv:SV}(hg:∀ s w,gd=some (s,w)->s∈D'):qDX D' (qK7 dst gd sv σ):=by
 cases dst with
 | none=>exact hgd.mono hs
 | some d=>
  intro k s w sv' hk;have hk:Env.get ((d,gd,sv)::σ) k=some (some (s,w),sv'):=hk;rw[qAX] at hk;cases hb:Nat.beq d k with
  | true=>
   rw[hb] at hk;simp only[cond_true,Option.some.injEq,Prod.mk.injEq] at hk;exact hg _ _ hk.1
  | false=>rw[hb] at hk;exact hs _ (hgd _ _ _ _ hk)
theorem qC7 {all:List Oper}{o:Oper}{j:Nat}{w:Bool}(hg:o.guard=some (j,w)) (t:Array Value):Region.wanted o (yielded all.toArray t)=(yielded all.toArray t j==some w):=by
 unfold Region.wanted;rw[hg]
theorem qkB {a b:Bool}(h:qlP a b=true):a=b:=by cases a<;>cases b<;>simp_all [qlP]
theorem qYL {s:Nat}{w:Bool}:∀ {σ:Env}{k g sv},Env.get (qjL s w σ) k=some (g,sv)->∃ g0,Env.get σ k=some (g0,sv)/\(g=g0\/(g=none/\g0=some (s,w))):=by
 intro σ
 induction σ with
 | nil=>intro k g sv h;cases h
 | cons x r ih=>
  obtain⟨k0,g0,sv0⟩:=x;intro k g sv h;cases g0 with
  | none=>
   simp only[qjL,qAX] at h ⊢;cases hb:Nat.beq k0 k with
   | true=>rw[hb] at h;simp only[cond_true,Option.some.injEq,Prod.mk.injEq] at h ⊢;obtain⟨rfl,rfl⟩:=h;exact⟨none,⟨rfl,rfl⟩,.inl rfl⟩
   | false=>rw[hb] at h;exact ih h
  | some p=>
   obtain⟨s',w'⟩:=p;simp only[qjL,qAX] at h ⊢;cases hb:Nat.beq k0 k with
   | true=>
    rw[hb] at h;simp only[cond_true,Option.some.injEq,Prod.mk.injEq] at h ⊢;obtain⟨h1,rfl⟩:=h;refine⟨some (s',w'),⟨rfl,rfl⟩,?_⟩;cases hc:(Nat.beq s' s&&qlP w' w) with
    | true=>
     rw[hc] at h1;simp only[yAI] at hc;exact .inr ⟨h1.symm,by rw[qAM hc.1,qkB hc.2]⟩
    | false=>rw[hc] at h1;exact .inl h1.symm
   | false=>rw[hb] at h;exact ih h
theorem Sat.ung {B:Base}{e N r β σ Φ a w}(st:Sat B e N r β σ Φ a w) {s:Nat}{wv:Bool}(ht:(Act.tmps a)[s]?=some (.bool wv)):Sat B e N r β (zEO s wv σ) Φ a w:=by
 refine⟨fun k g sv hg=>?_,st.mem,st.G,st.kept,st.defers,st.size⟩
 have hg:Env.get ((s,none,.bool wv)::qjL s wv σ) k=some (g,sv):=hg;rw[qAX] at hg;cases hb:Nat.beq s k with
 | true=>
  obtain rfl:=qAM hb;rw[hb] at hg;simp only[cond_true,Option.some.injEq,Prod.mk.injEq] at hg;obtain⟨rfl,rfl⟩:=hg;exact⟨_,ht,.bool⟩
 | false=>
  rw[hb] at hg;obtain⟨g0,h1,h2⟩:=qYL hg;have:=st.agree k g0 sv h1;rcases h2 with rfl|⟨rfl,rfl⟩
  ·exact this
  ·exact this.1 ht
theorem qd4 {D:List Nat}{σ:Env}{s:Nat}{wv:Bool}(h:qDX D σ):qDX D (zEO s wv σ):=by
 intro k s' w' sv hg;have hg:Env.get ((s,none,.bool wv)::qjL s wv σ) k=some (some (s',w'),sv):=hg;rw[qAX] at hg;cases hb:Nat.beq s k with
 | true=>rw[hb] at hg;simp at hg
 | false=>
  rw[hb] at hg;obtain⟨g0,h1,h2⟩:=qYL hg;rcases h2 with rfl|⟨h2,_⟩
  ·exact h k s' w' sv h1
  ·cases h2
theorem Sat.lit {B:Base}{e N r β σ Φ a w}(st:Sat B e N r β σ Φ a w) {s:Nat}{b:Bool}(ht:(Act.tmps a)[s]?=some (.bool b)):Sat B e N r β ((s,none,.v (.bool b))::σ) Φ a w:=by
 refine⟨fun k g sv hg=>?_,st.mem,st.G,st.kept,st.defers,st.size⟩
 rw[qAX] at hg;cases hb:Nat.beq s k with
 | true=>
  obtain rfl:=qAM hb;rw[hb] at hg;simp only[cond_true,Option.some.injEq,Prod.mk.injEq] at hg;obtain⟨rfl,rfl⟩:=hg;exact⟨_,ht,.v⟩
 | false=>rw[hb] at hg;exact st.agree k g sv hg
theorem qj2 {D:List Nat}{σ:Env}{s:Nat}{b:Bool}(h:qDX D σ):qDX D ((s,none,.v (.bool b))::σ):=by
 intro k s' w' sv hg;rw[qAX] at hg;cases hb:Nat.beq s k with
 | true=>rw[hb] at hg;simp at hg
 | false=>rw[hb] at hg;exact h k s' w' sv hg
def qGF (B:Base) (F:Entry->Prop) (N:Nat) (all:List Oper) (i:Nat) (rest:List Oper) (K:Env->Phi->Nat->Prop) (a:Act) (w:World):Prop:=
 ∃ e r β σ Φ n,F e/\qF1 B all rest σ Φ n K/\Sat B e N r β σ Φ a w/\qDX (qL1 (all.take i)) σ
def qIF (B:Base) (F:Entry->Prop) (N:Nat) (all:List Oper) (D:List Nat) (rest:List Oper) (K:Env->Phi->Nat->Prop) (a:Act) (w:World):Prop:=
 ∃ e r β σ Φ n,F e/\qF1 B all rest σ Φ n K/\Sat B e N r β σ Φ a w/\qDX D σ
theorem qJX {B:Base}{F:Entry->Prop}{N all}(hY:YOk B F N) {K:Env->Phi->Nat->Prop}{o:Oper}{rest:List Oper}{D D':List Nat}(hd:∀ d,o.dst=some d->d∉D/\d<N) (hsub:∀ d∈D,d∈D')
  (hin:∀ j w s,o.guard=some (j,w)->qN6 all j=some s->s∈D) {a:Act}{w:World}
  (h:qIF B F N all D (o::rest) K a w):(∀ c,o.op≠.defer c)/\(Region.wanted o (yielded all.toArray a.tmps)=true->OpTo B.P a w o fun v w'=>qIF B F N all D' rest K (a.put o.dst v) w')/\
   (Region.wanted o (yielded all.toArray a.tmps)=false->qIF B F N all D' rest K (a.put o.dst undef) w):=by
 obtain⟨e,r, β, σ, Φ,n,hF,h,s,hgd⟩:=h;obtain⟨dst,op,ty,pos,after,guard⟩:=o;simp only[qF1] at h;split at h
 ·obtain⟨hnd,hop⟩:=qJ3 (dst:=dst) (ty:=ty) (pos:=pos) (after:=after) (guard:=none) hY hF h s;refine⟨hnd,fun _=>hop.mono ?_,fun hw=>by simp[Region.wanted] at hw⟩
  rintro v w' ⟨e',hF',sv, σ', Φ',n',r', β',hk,hr,s',hD⟩;exact⟨e',r', β',_, Φ',n',hF',hk,s'.put (hD _ hgd) hd hr,qIO (hD _ hgd) hsub (fun s w h=>by cases h)⟩
 ·rename_i j wv;split at h
  ·rename_i sl hs;split at h
   ·rename_i c hgs;have hinS:sl∈D:=hin j wv sl rfl hs;obtain⟨vb,hvb,hrb⟩:=s.agree _ _ _ hgs;cases hrb;cases hcw:qlP c wv with
    | true=>
     have hc:c=wv:=by cases c<;>cases wv<;>first|rfl|cases hcw
     rw[hcw] at h;simp only[cond_true] at h;obtain⟨hnd,hop⟩:=qJ3 (dst:=dst) (ty:=ty) (pos:=pos) (after:=after) (guard:=some (j,wv)) hY hF h s;rw[qC7 (all:=all) (j:=j) (w:=wv) rfl];refine⟨hnd,fun _=>hop.mono ?_,fun hw=>?_⟩
     ·rintro v w' ⟨e',hF',sv, σ', Φ',n',r', β',hk,hr,s',hD⟩;exact⟨e',r', β',_, Φ',n',hF',hk,s'.put (hD _ hgd) hd hr,qIO (hD _ hgd) hsub (fun s w h=>by cases h)⟩
     ·rw[(qCN hs a.tmps wv).2 (by rw[<-hc];exact hvb)] at hw;cases hw
    | false=>
     have hc:c≠wv:=fun q=>by rw[q] at hcw;cases wv<;>cases hcw
     rw[hcw] at h;simp only[cond_false] at h;cases hdf:qDZ op with
     | true=>rw[hdf] at h;exact h.elim
     | false=>
     rw[hdf] at h;simp only[cond_false] at h;rw[qC7 (all:=all) (j:=j) (w:=wv) rfl];refine⟨?_,fun hw=>?_,fun _=>⟨e,r, β,_, Φ,n,hF,h,s.put hgd hd .v,qIO hgd hsub (fun s w h=>by cases h)⟩⟩
     ·intro c' hc';subst hc';cases hdf
     ·have ht:=(qCN hs a.tmps wv).1 hw;rw[hvb] at ht;exact absurd (by simpa using ht) hc
   ·rename_i hgs;obtain⟨vb,hvb,hrb⟩:=s.agree _ _ _ hgs;cases hrb;cases hdf:qDZ op with
    | true=>rw[hdf] at h;exact h.elim
    | false=>
    rw[hdf] at h;simp only[cond_false] at h;rw[qC7 (all:=all) (j:=j) (w:=wv) rfl];refine⟨?_,fun hw=>?_,fun _=>⟨e,r, β,_, Φ,n,hF,h,s.put hgd hd .v,qIO hgd hsub (fun s w h=>by cases h)⟩⟩
    ·intro c' hc';subst hc';cases hdf
    ·have ht:=(qCN hs a.tmps wv).1 hw;rw[hvb] at ht;cases ht
   cases hyc:(qQR σ op||(spB B op && !qDZ op)) with
   | true=>
    rw[hyc] at h;simp only[cond_true] at h;split at h
    ·rename_i b hgs;have hinS:sl∈D:=hin j wv sl rfl hs;have hnd:∀ c,op≠.defer c:=fun c hc=>by subst hc;simp[qQR,qDZ] at hyc
     obtain⟨vb,hvb,hrb⟩:=s.agree _ _ _ hgs;cases hrb;rw[qC7 (all:=all) (j:=j) (w:=wv) rfl];refine⟨hnd,fun hw=>?_,fun hw=>?_⟩
     ·have ht:=(qCN hs a.tmps wv).1 hw;have hbw:b=wv:=by rw[hvb] at ht;simpa using ht
      obtain⟨_,hop⟩:=qJ3 (dst:=dst) (ty:=ty) (pos:=pos) (after:=after) (guard:=some (j,wv)) hY hF (h.1 hbw) (s.ung ht);refine hop.mono ?_;rintro v w' ⟨e',hF',sv, σ', Φ',n',r', β',hk,hr,s',hD⟩;exact⟨e',r', β',_, Φ',n',hF',hk,s'.put (hD _ (qd4 hgd)) hd hr,qIO (hD _ (qd4 hgd)) hsub (fun s w h=>by cases h)⟩
     ·have ht:a.tmps[sl]?≠some (.bool wv):=fun ht=>by rw[(qCN hs a.tmps wv).2 ht] at hw;cases hw
      have hbw:b = !wv:=by
       rw[hvb] at ht;cases b<;>cases wv<;>simp_all
      have hvb':a.tmps[sl]?=some (.bool (!wv)):=by rw[<-hbw];exact hvb
      exact⟨e,r, β,_, Φ,n,hF,h.2 hbw,(s.lit hvb').put (qj2 hgd) hd .v,qIO (qj2 hgd) hsub (fun s w h=>by cases h)⟩
    ·exact h.elim
   | false=>
   rw[hyc] at h;simp only[cond_false] at h;obtain⟨ctx,g,h,hsm⟩:=qKX h;obtain⟨sv,hk,hnd,hop⟩:=qDE h (fun hq=>by cases hq)
   have hinS:sl∈D:=hin j wv sl rfl hs;have hgd':qDX (D') (qK7 dst (some (sl,wv)) sv σ):=qIO hgd hsub (fun s w h=>by cases h;exact hsub _ hinS)
   rw[qC7 (all:=all) (j:=j) (w:=wv) rfl];refine⟨hnd,fun hw=>?_,fun hw=>?_⟩
   ·have ht:=(qCN hs a.tmps wv).1 hw;refine(hop (fun _=>True) r β a w (fun _ _=>qLT _) (hsm _ r β a.tmps (fun _ _ _ _ _ _=>trivial) trivial (s.agree.P _) ht) s.G s.mem dst ty pos after _).mono ?_
    rintro v w' ⟨r',hr,hle,m',hid⟩;refine⟨e,r', β,_, Φ,n,hF,hk,?_,hgd'⟩;have s':=s.step (s.agree.of fun k g sv hk=>⟨sv,hk,fun v hr=>hr.mono hle⟩) m' hle hid
    exact s'.put hgd hd ⟨hinS,fun _=>hr,fun h=>(h ht).elim⟩
   ·have ht:a.tmps[sl]?≠some (.bool wv):=fun ht=>by rw[(qCN hs a.tmps wv).2 ht] at hw;cases hw
    exact⟨e,r, β,_, Φ,n,hF,hk,s.put hgd hd ⟨hinS,fun h=>(ht h).elim,fun _=>rfl⟩,hgd'⟩
  ·exact h.elim
theorem qT6 {B:Base}{F:Entry->Prop}{N all}(hY:YOk B F N) (ok:RegOk N all) {K:Env->Phi->Nat->Prop}{i:Nat}{o:Oper}{rest:List Oper}(ho:all[i]?=some o) {a:Act}{w:World}
  (h:qGF B F N all i (o::rest) K a w):(∀ c,o.op≠.defer c)/\(Region.wanted o (yielded all.toArray a.tmps)=true->OpTo B.P a w o fun v w'=>qGF B F N all (i+1) rest K (a.put o.dst v) w')/\
   (Region.wanted o (yielded all.toArray a.tmps)=false->qGF B F N all (i+1) rest K (a.put o.dst undef) w):=
 qJX (D:=qL1 (all.take i)) (D':=qL1 (all.take (i+1))) hY (fun d hd=>⟨ok.fresh ho hd,ok.lt o (yA0 ho) d hd⟩) (qND (Nat.le_succ i)) (fun j w s h1 h2=>ok.guardIn ho h1 h2) h
theorem qmZ {B:Base}{F:Entry->Prop}{N all}(hY:YOk B F N) (ok:RegOk N all) {ro:Option Nat}{Q:Exit->Act->World->Prop}{K:Env->Phi->Nat->Prop}{i:Nat}{o:Oper}{rest:List Oper}(ho:all[i]?=some o) {a:Act}{w:World}
  (h:qGF B F N all i (o::rest) K a w):wpOpIn (fc ro) 0 B.P all.toArray Q i (qGF B F N all (i+1) rest K) a w:=by
 obtain⟨h1,h2,h3⟩:=qT6 hY ok ho h;unfold wpOpIn;simp only[yAS,ho];cases hw:Region.wanted o (yielded all.toArray a.tmps) with
 | true=>rw[if_pos rfl];exact(h2 hw).wpIn h1 fun _ _ h=>h
 | false=>rw[if_neg (by simp)];exact⟨fun _ _=>trivial,h3 hw⟩
theorem qXH {B:Base}{F:Entry->Prop}{N all}(hY:YOk B F N) (ok:RegOk N all) {ro:Option Nat}{K:Env->Phi->Nat->Prop}{Q:Exit->Act->World->Prop}
  (hQ:∀ e r β σ Φ n a w,F e->K σ Φ n->Sat B e N r β σ Φ a w->Q .normal a w):
  ∀ (l pre:List Oper),all=pre++l->∀ a w,qGF B F N all pre.length l K a w->wpOpsIn (fc ro) 0 B.P all.toArray Q (List.range' pre.length l.length) a w:=by
 intro l
 induction l with
 | nil=>intro pre he a w ⟨e,r, β, σ, Φ,n,hF,h,s,_⟩;exact hQ _ _ _ _ _ _ _ _ hF h s
 | cons o rest ih=>
  intro pre he a w h;have ho:all[pre.length]?=some o:=by rw[he];simp
  rw[yAT,List.range'_succ,wpOpsIn_cons];refine wpOpIn_mono (fun a' w' h'=>?_) (qmZ hY ok ho h)
  have:=ih (pre++[o]) (by rw[he];simp) a' w' (by simpa using h')
  simpa using this
theorem qZ6 {B:Base}{F:Entry->Prop}{e N all}(hY:YOk B F N) (hF:F e) (ok:RegOk N all) {ro:Option Nat}{K:Env->Phi->Nat->Prop}{Q:Exit->Act->World->Prop}{id:Nat}
  (hQ:∀ e r β σ Φ n a w,F e->K σ Φ n->Sat B e N r β σ Φ a w->Q .normal a w) {r β σ Φ n a w}(h:qF1 B all all σ Φ n K) (s:Sat B e N r β σ Φ a w) (hgd:qDX [] σ):
  (Code.region id all.toArray false).wpIn (fc ro) 0 B.P Q a w:=by
 refine wpIn_region ?_;have:=qXH hY ok (ro:=ro) hQ all [] rfl a w ⟨e,r, β, σ, Φ,n,hF,h,s,by simpa[qL1] using hgd⟩
 simpa[List.range_eq_range'] using this
end Go.Vc

namespace Go.Vc
set_option autoImplicit false
def qDG (listed:Array Bool) (i:Nat):Prop:=listed.getD i false=true
structure LexOk (md:Region.Mode) (ops:Array Oper):Prop where
 back:∀ (i:Nat) (o:Oper),ops[i]?=some o->∀ e∈o.after,Region.binds md e=true->e.on<i
 apart:∀ (k j:Nat) (ok oj:Oper),ops[k]?=some ok->ops[j]?=some oj->k<j->(∃ e∈oj.after,Region.binds md e=true/\e.on=k)\/ok.apart ops oj=true
theorem qbF {md:Region.Mode}{ops:Array Oper}:∀ (fuel k:Nat) (L:Array Bool),Region.lexFrom md ops fuel k L=true->∀ i,i<fuel->
  ∃ L':Array Bool,L'.size=L.size/\(∀ t,(k<=t/\t<k+i->t<L.size->L'[t]?=some true)/\(¬(k<=t/\t<k+i)->L'[t]?=L[t]?))/\
   (k+i)∈Region.ready md ops L'/\Region.free md ops L' (k+i)=true:=by
 intro fuel
 induction fuel with
 | zero=>intro k L h i hi;omega
 | succ fuel ih=>
  intro k L h i hi;simp only[Region.lexFrom,yAI] at h;obtain⟨⟨h1,h2⟩,h3⟩:=h;cases i with
  | zero=>exact⟨L,rfl,fun t=>⟨fun ht=>by omega,fun _=>rfl⟩,by simpa using h1,by simpa using h2⟩
  | succ i=>
   obtain⟨L',hs,ht,hr,hf⟩:=ih (k+1) _ h3 i (by omega)
   refine⟨L',by rw[hs];simp,fun t=>⟨fun hk hlt=>?_,fun hk=>?_⟩,by rw[show k+(i+1)=k+1+i by omega];exact hr,by rw[show k+(i+1)=k+1+i by omega];exact hf⟩
   ·by_cases he:t=k
    ·subst he;rw[(ht t).2 (by omega)]
     simp[hlt]
    ·exact(ht t).1 (by omega) (by simpa using hlt)
   ·rw[(ht t).2 (by omega)]
    rw[yAH (by omega)]
theorem qMP {md:Region.Mode}{ops:Array Oper}(h:Region.lexB md ops=true):LexOk md ops:=by
 simp only[Region.lexB,yAI] at h;have at':∀ i,i<ops.size->∃ L':Array Bool,L'.size=ops.size/\(∀ t,t<ops.size->L'[t]?=some (decide (t<i)))/\i∈Region.ready md ops L'/\Region.free md ops L' i=true:=by
  intro i hi;obtain⟨L',hs,ht,hr,hf⟩:=qbF ops.size 0 _ h.2 i hi;refine⟨L',by simpa using hs,fun t hlt=>?_,by simpa using hr,by simpa using hf⟩
  by_cases hti:t<i
  ·rw[(ht t).1 (by omega) (by simpa using hlt)];simp[hti]
  ·rw[(ht t).2 (by omega)];simp[hti,hlt]
 refine⟨fun i o ho e he hb=>?_,fun k j ok oj hk hj hkj=>?_⟩
 ·have hi:i<ops.size:=(yAE.1 ho).1;obtain⟨L',hs,ht,hr,_⟩:=at' i hi;obtain⟨_,o',ho',hall⟩:=mem_ready.1 hr;rw[ho] at ho';cases ho';have:=hall e he hb;rcases yA4 e.on ops.size with hlt|hge
  ·have h1:=ht e.on hlt;rw[yAB,h1] at this;simpa using this
  ·rw[yAB,yAD (by omega)] at this
   cases this
 ·have hkl:k<ops.size:=(yAE.1 hk).1;have hjl:j<ops.size:=(yAE.1 hj).1;obtain⟨L',hs,ht,_,hf⟩:=at' k hkl;by_cases hc:∃ e∈oj.after,Region.binds md e=true/\e.on=k
  ·exact .inl hc
  ·refine .inr (Region.free_spec hk hf j oj hj (by omega) ?_ fun e he hb heq=>hc ⟨e,he,hb,heq⟩)
   rw[yAB,ht j hjl];simp;omega
theorem qS5 {p p':Nat->Bool}{i:Nat}(h:∀ j,p' j=(p j && !(j==i))):∀ {l:List Nat},l.Nodup->i∈l->p i=true->(l.filter p').length+1=(l.filter p).length:=by
  intro l
  induction l with
  | nil=>intro _ hi;cases hi
  | cons x l ih=>
    intro hn hi hp;simp only[yA1] at hn;by_cases hx:x=i
    · subst hx
      have e:l.filter p'=l.filter p:=by
        apply List.filter_congr;intro y hy;rw[h];have:y≠x:=by rintro rfl;exact hn.1 hy
        simp[this]
      have hp':p' x=false:=by rw[h];simp
      rw[yAP,yAP,hp,hp'];simp[e]
    · have hi':i∈l:=by
        cases hi with
        | head=>exact absurd rfl hx
        | tail _ hi=>exact hi
      have:=ih hn.2 hi' hp;have e:p' x=p x:=by rw[h];simp[hx]
      rw[yAP,yAP,e];split
      · simp only[yAT];omega
      · exact this
theorem qWT {F:Fence}{n:Nat}{P:Program}{md:Region.Mode}{ops:Array Oper}{Q:Exit->Act->World->Prop}(ok:LexOk md ops) {I:(Nat->Prop)->Act->World->Prop}
    (hstep:∀ (S:Nat->Prop) (i:Nat) (o:Oper) (a:Act) (w:World),(∀ j,S j->j<ops.size)->(∀ (j:Nat) (oj:Oper),S j->ops[j]?=some oj->∀ e∈oj.after,Region.binds md e=true->S e.on)->ops[i]?=some o->¬S i->
      (∀ e∈o.after,Region.binds md e=true->S e.on)->I S a w->wpOpIn F n P ops Q i (I fun j=>S j\/j=i) a w)
    (hend:∀ S a w,(∀ i,i<ops.size->S i)->I S a w->Q .normal a w):
    ∀ (fuel:Nat) (listed:Array Bool) (a:Act) (w:World),listed.size=ops.size->((List.range ops.size).filter fun i => !listed.getD i false).length<=fuel->
      (∀ (j:Nat) (oj:Oper),qDG listed j->ops[j]?=some oj->∀ e∈oj.after,Region.binds md e=true->qDG listed e.on)->I (qDG listed) a w->wpAnyIn F n P md ops Q fuel listed a w:=by
  have all_of_ready:∀ (listed:Array Bool),listed.size=ops.size->Region.ready md ops listed=[]->∀ i,i<ops.size->qDG listed i:=by
    intro listed hs hr i
    induction i using Nat.strongRecOn with
    | _ i ih=>
      intro hi;by_cases hd:qDG listed i
      · exact hd
      · exfalso
        have:i∈Region.ready md ops listed:=by
          refine mem_ready.2 ⟨?_,ops[i],yAC hi,fun e he hb=>?_⟩
          · have hlt:i<listed.size:=by omega
            unfold qDG at hd;rw[yAB,yAC hlt] at hd ⊢;simpa using hd
          · have hlt:=ok.back i _ (yAC hi) e he hb
            exact ih e.on hlt (by omega)
        rw[hr] at this;cases this
  intro fuel
  induction fuel with
  | zero=>
    intro listed a w hs hl hcl hI;have hnil:(List.range ops.size).filter (fun i => !listed.getD i false)=[]:=yAU.1 (by omega)
    have hall:∀ i,i<ops.size->qDG listed i:=by
      intro i hi;rw[List.filter_eq_nil_iff] at hnil;have:=hnil i (by simpa using hi)
      unfold qDG;simpa using this
    refine⟨?_,hend _ a w hall hI⟩;cases hr:Region.ready md ops listed with
    | nil=>rfl
    | cons x xs=>
      have hx:x∈Region.ready md ops listed:=by rw[hr];simp
      obtain⟨h0,o,ho,_⟩:=mem_ready.1 hx;have hlt:=(yAE.1 ho).1;have:=hall x hlt;unfold qDG at this;rw[yAB,yAC (by omega)] at this h0
      simp at this h0;rw[this] at h0;cases h0
  | succ fuel ih=>
    intro listed a w hs hl hcl hI;refine⟨fun hr=>hend _ a w (all_of_ready listed hs hr) hI,fun i hi=>?_⟩
    obtain⟨h0,o,ho,hall⟩:=mem_ready.1 hi;have hlt:=(yAE.1 ho).1;have hnd:¬qDG listed i:=by
      unfold qDG;rw[yAB,yAC (by omega)] at h0 ⊢
      simp at h0 ⊢;exact h0
    have hset:qDG (listed.setIfInBounds i true)=fun j=>qDG listed j\/j=i:=by
      funext j
      apply propext;unfold qDG;by_cases hj:j=i
      · subst hj
        simp[yAB,show j<listed.size by omega]
      · rw[getD_set_ne false (fun h=>hj h.symm)]
        simp[hj]
    refine wpOpIn_mono (fun a' w' hI'=>?_) (hstep (qDG listed) i o a w (fun j hj=>?_) hcl ho hnd (fun e he hb=>hall e he hb) hI)
    · refine ih _ a' w' (by simpa using hs) ?_ ?_ (by rw[hset];exact hI')
      · have:=qS5 (p:=fun i => !listed.getD i false) (p':=fun j => !(listed.setIfInBounds i true).getD j false) (i:=i) (fun j=>by
          by_cases hj:j=i
          · subst hj
            simp[yAB,show j<listed.size by omega]
          · rw[getD_set_ne false (fun h=>hj h.symm)]
            simp[hj]) List.nodup_range (by simpa using hlt) (by unfold qDG at hnd;simpa using hnd)
        omega
      · rw[hset]
        intro j oj hj hoj e he hb;rcases hj with hj|rfl
        · exact .inl (hcl j oj hj hoj e he hb)
        · rw[ho] at hoj;cases hoj
          exact .inl (hall e he hb)
    · unfold qDG at hj
      rcases yA4 j ops.size with h|h
      · exact h
      · rw[yAB,yAD (by omega)] at hj;cases hj
theorem qDB {F:Fence}{n:Nat}{P:Program}{ops:Array Oper}{Q:Exit->Act->World->Prop}(ok:LexOk .any ops) {I:(Nat->Prop)->Act->World->Prop}{id:Nat}{a:Act}{w:World}(hm:P.follows .mixedOrders=true)
  (hstep:∀ (S:Nat->Prop) (i:Nat) (o:Oper) (a:Act) (w:World),(∀ j,S j->j<ops.size)->(∀ (j:Nat) (oj:Oper),S j->ops[j]?=some oj->∀ e∈oj.after,Region.binds .any e=true->S e.on)->ops[i]?=some o->¬S i->
   (∀ e∈o.after,Region.binds .any e=true->S e.on)->I S a w->wpOpIn F n P ops Q i (I fun j=>S j\/j=i) a w)
  (hend:∀ S a w,(∀ i,i<ops.size->S i)->I S a w->Q .normal a w)
  (h0:∀ S:Nat->Prop,(∀ i,¬S i)->I S a { w with drawn:=w.drawn+1 }):(Code.region id ops true).wpIn F n P Q a w:=by
 refine wpIn_region_any hm (qWT ok hstep hend _ _ _ _ (by simp) ?_ ?_ ?_)
 ·have:=List.length_filter_le (fun i => !(Array.replicate ops.size false).getD i false) (List.range ops.size)
  simpa using this
 ·intro j oj hj;unfold qDG at hj;rw[yAB,yAF] at hj;split at hj<;>simp at hj
 ·refine h0 _ fun i hi=>?_
  unfold qDG at hi;rw[yAB,yAF] at hi;split at hi<;>simp at hi
end Go.Vc

namespace Go.Vc
set_option autoImplicit false
theorem qB4 {A:Array Oper}{d:Nat}{l:List Oper}(h:qBO A d l=true):∀ o∈l,d∉o.looksAt A:=by
 induction l with
 | nil=>intro o ho;cases ho
 | cons x r ih=>
  simp only[qBO,yAI,yAJ] at h;intro o ho;cases ho with
  | head=>intro hm;rw[qB6.2 hm] at h;exact absurd h.1 (by simp)
  | tail _ ho=>exact ih h.2 o ho
theorem qCD {ts:List Nat}:∀ {ps:List Nat}{ops:List Oper},qBN ts ps ops=true->∀ (j p:Nat) (o:Oper) (d:Nat),ps[j]?=some p->ops[j]?=some o->o.dst=some d->d∈ts->p=0:=by
 intro ps
 induction ps with
 | nil=>intro ops _ j p o d h;simp at h
 | cons p0 ps ih=>
  intro ops h j p o d hp ho hd hm;cases ops with
  | nil=>simp at ho
  | cons o0 ops=>
   simp only[qBN,yAI] at h;cases j with
   | zero=>
    simp at hp ho;subst hp;subst ho;have h1:=h.1;rw[hd] at h1;simp only[yAK,yAJ] at h1;rcases h1 with h1|h1
    ·exact qAM h1
    ·rw[qB6.2 hm] at h1;cases h1
   | succ j=>exact ih h.2 j p o d (by simpa using hp) (by simpa using ho) hd hm
theorem qHK {all:List Oper}{Q:Nat->Prop}(hQ:∀ (x:Nat) (o:Oper),Q x->all[x]?=some o->∀ e∈o.after,Region.binds .any e=true->Q e.on):
  ∀ (f:Nat) (todo acc:List Nat),(∀ x∈todo,Q x)->(∀ x∈acc,Q x)->∀ x∈qJP all f todo acc,Q x:=by
 intro f
 induction f with
 | zero=>intro todo acc _ h x hx;exact h x hx
 | succ f ih=>
  intro todo acc ht ha x hx;cases todo with
  | nil=>exact ha x hx
  | cons i todo=>
   simp only[qJP] at hx;have hi:=ht i (by simp)
   cases hb:qD8 i acc with
   | true=>rw[hb] at hx;exact ih todo acc (fun y hy=>ht y (by simp[hy])) ha x hx
   | false=>
    rw[hb] at hx;refine ih _ _ (fun y hy=>?_) (fun y hy=>?_) x hx
    ·rw[yAV] at hy;rcases hy with hy|hy
     ·rw[qE5] at hy;split at hy
      ·rename_i o ho;obtain⟨e,he,heq⟩:=yAY.1 hy;cases hbe:Region.binds .any e with
       | false=>rw[hbe] at heq;cases heq
       | true=>rw[hbe] at heq;cases heq;exact hQ i o hi ho e (by simpa using he) hbe
      ·cases hy
     ·exact ht y (by simp[hy])
    ·cases hy with
     | head=>exact hi
     | tail _ hy=>exact ha y hy
theorem qUX {clo:List Nat}:∀ {ps:List Nat}{k:Nat},qM0 clo k ps=true->∀ (j p:Nat),ps[j]?=some p->p≠0->(k+j)∈clo:=by
 intro ps
 induction ps with
 | nil=>intro k _ j p h;simp at h
 | cons p0 ps ih=>
  intro k h j p hp hne;simp only[qM0,yAI,yAK] at h;cases j with
  | zero=>
   simp at hp;subst hp;rcases h.1 with h1|h1
   ·exact absurd (qAM h1) hne
   ·exact qB6.1 h1
  | succ j=>
   have:=ih h.2 j p (by simpa using hp) hne
   rw[show k+(j+1)=k+1+j by omega];exact this
theorem qUP {l:List Nat}(h:qCM.noThree l=true):∀ x∈l,x≠3:=by
 induction l with
 | nil=>intro x hx;cases hx
 | cons y r ih=>
  simp only[qCM.noThree,yAI,yAJ] at h;intro x hx;cases hx with
  | head=>rintro rfl;rw[yA2] at h;cases h.1
  | tail _ hx=>exact ih h.2 x hx
inductive PlanAt (all:List Oper) (plan:List Nat) (i:Nat) (o:Oper):Prop
  | t (d:Nat) (hp:plan[i]?=some 0) (hf:floats o.op=true) (hg:o.guard=none) (hd:o.dst=some d) (hr:∀ (j:Nat) (oj:Oper),j<=i->all[j]?=some oj->d∉oj.looksAt all.toArray)
      (hw:∀ (j:Nat) (oj:Oper) (d':Nat),j<i->plan[j]?≠some 0->all[j]?=some oj->oj.dst=some d'->.tmp d'∉o.op.operands.toList)
  | q (hp:plan[i]?=some 1) (h3:∀ (j:Nat),j<i->plan[j]?≠some 3)
  | f (d:Nat) (hp:plan[i]?=some 2) (h3:∀ (j:Nat),j<i->plan[j]?≠some 3) (hg:o.guard=none) (hd:o.dst=some d) (hr:∀ (j:Nat) (oj:Oper),all[j]?=some oj->plan[j]?≠some 3->d∉oj.looksAt all.toArray)
  | s (hp:plan[i]?=some 3) (hc:∀ Q:Nat->Prop,(∀ (x:Nat) (o:Oper),Q x->all[x]?=some o->∀ e∈o.after,Region.binds .any e=true->Q e.on)->Q i->∀ (j:Nat),j<i->plan[j]?≠some 0->Q j)
theorem qEO {t:Nat}{l:List Operand}:t∈qC0 l↔Operand.tmp t∈l:=by
 induction l with
 | nil=>simp[qC0]
 | cons x r ih=>
  cases x<;>simp[qC0,ih]
theorem qXD {all:List Oper}{plan:List Nat}(h:qbW all plan=true):plan.length=all.length/\∀ (i:Nat) (o:Oper),all[i]?=some o->PlanAt all plan i o:=by
  have key:∀ (ps:List Nat) (ops:List Oper) (k:Nat),qCM all plan k ps ops=true->ps.length=ops.length/\∀ (i:Nat) (o:Oper) (p:Nat),ops[i]?=some o->ps[i]?=some p->
      (match p with
       | 0=>floats o.op&&((match o.guard with|none=>true|some _=>false)&&((match o.dst with|some d=>qBO all.toArray d (all.take (k+i+1))|none=>false)&&qBN (qC0 o.op.operands.toList) (plan.take (k+i)) (all.take (k+i))))
       | 1=>qCM.noThree (plan.take (k+i))
       | 2=>qCM.noThree (plan.take (k+i))&&((match o.guard with|none=>true|some _=>false)&&(match o.dst with|some d=>qBO all.toArray d ((plan.zip all).filterMap fun x=>bif Nat.beq x.1 3 then none else some x.2)|none=>false))
       | 3=>qM0 (qJP all (all.length*all.length+all.length+2) [k+i] []) 0 (plan.take (k+i))
       | _=>false)=true:=by
    intro ps
    induction ps with
    | nil=>
      intro ops k h;cases ops with
      | nil=>exact⟨rfl,fun i o p h=>by simp at h⟩
      | cons=>cases h
    | cons p0 ps ih=>
      intro ops k h;cases ops with
      | nil=>cases h
      | cons o0 ops=>
        simp only[qCM,yAI] at h;obtain⟨h1,h2⟩:=h;obtain⟨g1,g2⟩:=ih ops (k+1) h2;refine⟨by simp[g1],fun i o p ho hp=>?_⟩
        cases i with
        | zero=>simp at ho hp;subst ho;subst hp;exact h1
        | succ i=>
          have:=g2 i o p (by simpa using ho) (by simpa using hp)
          rw[show k+(i+1)=k+1+i by omega];exact this
  obtain⟨hl,hk⟩:=key plan all 0 h;refine⟨hl,fun i o ho=>?_⟩
  have hi:i<plan.length:=by have:=qAV ho;omega
  have hp:plan[i]?=some plan[i]:=yAQ hi;have:=hk i o _ ho hp;simp only[yA6] at this;have take3:∀ {j:Nat},qCM.noThree (plan.take i)=true->j<i->plan[j]?≠some 3:=by
    intro j hn hj hq;exact qUP hn 3 (yA0 (i:=j) (by rw[yAR,if_pos hj];exact hq)) rfl
  split at this
  · rename_i he
    simp only[yAI] at this;obtain⟨h1,h2,h3,h4⟩:=this;cases hd:o.dst with
    | none=>rw[hd] at h3;cases h3
    | some d=>
      rw[hd] at h3;refine .t d (he▸hp) h1 ?_ hd (fun j oj hj hoj=>?_) (fun j oj d' hj hpj hoj hdj hm=>?_)
      · cases hg:o.guard with
        | none=>rfl
        | some _=>rw[hg] at h2;cases h2
      · exact qB4 h3 oj (yA0 (i:=j) (by rw[yAR,if_pos (by omega)];exact hoj))
      · have hjl:j<plan.length:=by omega
        refine hpj ?_;have:=qCD h4 j plan[j] oj d' (by rw[yAR,if_pos hj];exact yAQ hjl) (by rw[yAR,if_pos hj];exact hoj) hdj (qEO.2 hm)
        rw[yAQ hjl,this]
  · rename_i he;exact .q (he▸hp) (fun j hj=>take3 this hj)
  · rename_i he
    simp only[yAI] at this;obtain⟨h1,h2,h3⟩:=this;cases hd:o.dst with
    | none=>rw[hd] at h3;cases h3
    | some d=>
      rw[hd] at h3;refine .f d (he▸hp) (fun j hj=>take3 h1 hj) ?_ hd (fun j oj hoj hpj=>?_)
      · cases hg:o.guard with
        | none=>rfl
        | some _=>rw[hg] at h2;cases h2
      · have hjl:j<plan.length:=by have:=qAV hoj;omega
        refine qB4 h3 oj (yAY.2 ⟨(plan[j],oj),yA0 (i:=j) (by rw[List.getElem?_zip_eq_some];exact⟨yAQ hjl,hoj⟩),?_⟩)
        have:Nat.beq plan[j] 3=false:=qAS (fun h=>hpj (by rw[yAQ hjl,h]))
        simp only[this];rfl
  · rename_i he
    refine .s (he▸hp) fun Q hQ hQi j hj hpj=>?_
    have hjl:j<plan.length:=by omega
    have hm:=qUX this j plan[j] (by rw[yAR,if_pos hj];exact yAQ hjl) (fun h=>hpj (by rw[yAQ hjl,h]))
    rw[yA6] at hm;exact qHK hQ _ [i] [] (fun x hx=>by simp at hx;rw[hx];exact hQi) (fun x hx=>by cases hx) j hm
  · cases this
end Go.Vc

namespace Go.Vc
set_option autoImplicit false
def qFL (σ:Env):Prop:=∀ k g sv,Env.get σ k=some (g,sv)->g=none
theorem qFL.gdIn {σ:Env}(h:qFL σ) (D:List Nat):qDX D σ:=fun k s w sv hg=>by cases h _ _ _ hg
theorem qFL.put {σ:Env}(h:qFL σ) (d:Nat) (sv:SV):qFL ((d,none,sv)::σ):=by
 intro k g sv' hk;rw[qAX] at hk;cases hb:Nat.beq d k with
 | true=>rw[hb] at hk;simp at hk;exact hk.1.symm
 | false=>rw[hb] at hk;exact h k g sv' hk
theorem qFG {a:Act}{d t:Nat}{v:Value}(h:t≠d):(a.put (some d) v).tmps[t]?=a.tmps[t]?:=by
 rw[qHV];exact yAH (Ne.symm h)
theorem put_eq {a:Act}{d:Nat}{v:Value}(h:d<a.tmps.size):(a.put (some d) v).tmps[d]?=some v:=by
 rw[qHV];exact Array.getElem?_setIfInBounds_self_of_lt h
theorem qSB {op:Op}(h:floats op=true):∀ cs b,op≠.select cs b:=fun cs b hc=>by subst hc;cases h
theorem qGX {op:Op}(h:floats op=true):∀ c,op≠.defer c:=fun c hc=>by subst hc;cases h
def qx9 (P:Program) (all:List Oper) (plan:List Nat) (k:Nat) (b:Act):Prop:=
 ∀ (i:Nat) (o:Oper) (d:Nat),i<k->plan[i]?=some 0->all[i]?=some o->o.dst=some d->∃ v,b.tmps[d]?=some v/\∀ w,(execOp b.eval o).run P w=.ok (.value v) w
theorem qNE {B:Base}{N:Nat}{all:List Oper}{plan:List Nat}(ok:RegOk N all) (hlen:plan.length=all.length) (hpl:∀ (i:Nat) (o:Oper),all[i]?=some o->plan[i]?=some 0->PlanAt all plan i o) {r:Mem}{β:qBD}{Φ:Phi}{K:Env->Prop}:
    ∀ (l:List Oper) (k:Nat) (σ:Env) (b:Act),k+l.length=all.length->l=all.drop k->vcT B (plan.drop k) l σ Φ K->Agree r β σ b.tmps->qFL σ->b.tmps.size=N->qx9 B.P all plan k b->
      ∃ σT bT,K σT/\Agree r β σT bT.tmps/\qFL σT/\bT.tmps.size=N/\bT.defers=b.defers/\qx9 B.P all plan all.length bT/\
        ∀ t,(∀ (j:Nat) (oj:Oper),k<=j->plan[j]?=some 0->all[j]?=some oj->oj.dst≠some t)->bT.tmps[t]?=b.tmps[t]?/\Env.get σT t=Env.get σ t:=by
  intro l
  induction l with
  | nil=>
    intro k σ b hk he h ha hng hsz hT;have:vcT B (plan.drop k) [] σ Φ K=K σ:=by
      cases plan.drop k with
      | nil=>rfl
      | cons x r=>cases x<;>rfl
    rw[this] at h;exact⟨σ,b,h,ha,hng,hsz,rfl,by rw[<-hk];simpa using hT,fun t _=>⟨rfl,rfl⟩⟩
  | cons o l ih=>
    intro k σ b hk he h ha hng hsz hT;have hkl:k<all.length:=by simp at hk;omega
    have ho:all[k]?=some o:=by
      have:(all.drop k)[0]?=some o:=by rw[<-he];rfl
      simpa using this
    have hl:l=all.drop (k+1):=by
      have:=congrArg List.tail he;simpa using this
    have hkp:k<plan.length:=by omega
    have hp:plan[k]?=some plan[k]:=yAQ hkp;have hpd:plan.drop k=plan[k]::plan.drop (k+1):=yAM hkp;rw[hpd] at h;by_cases h0:plan[k]=0
    · rw [h0] at h hp
      obtain⟨dst,op,ty,pos,after,guard⟩:=o;have h:evK B Φ σ [] (fun p=>p) false op fun sv=>vcT B (plan.drop (k+1)) l (qK7 dst none sv σ) Φ K:=h
      cases hpl k _ ho hp with
      | q hq=>rw[hp] at hq;cases hq
      | f _ hq=>rw[hp] at hq;cases hq
      | s hq=>rw[hp] at hq;cases hq
      | t d _ hf hg hd hr hw=>
        have hd:dst=some d:=hd;subst hd;obtain⟨sv,h,hv⟩:=qM7 hf h;obtain⟨v,hrel,hrun⟩:=hv _ r β b (fun _ _=>qLT _) (Sm.plain ha) (some d) ty pos after guard
        have hdN:d<N:=ok.lt _ (yA0 ho) d rfl;have ha':Agree r β ((d,none,sv)::σ) (b.put (some d) v).tmps:=ha.put (hng.gdIn []) (by simp) (by rw[hsz];exact hdN) hrel
        have hT':qx9 B.P all plan (k+1) (b.put (some d) v):=by
          intro i oi di hi hpi hoi hdi;have hns:∀ cs bb,oi.op≠.select cs bb:=by
            cases hpl i oi hoi hpi with
            | t _ _ hf'=>exact qSB hf'
            | q hq=>rw[hpi] at hq;cases hq
            | f _ hq=>rw[hpi] at hq;cases hq
            | s hq=>rw[hpi] at hq;cases hq
          have hex:execOp (b.put (some d) v).eval oi=execOp b.eval oi:=execOp_put (ops:=all.toArray) oi hns b (some d) v (fun d' hd'=>by cases hd';exact hr i oi (by omega) hoi)
          by_cases hik:i=k
          · subst hik
            rw[ho] at hoi;cases hoi;cases hdi;exact⟨v,put_eq (by rw[hsz];exact hdN),fun w=>by rw[hex];exact hrun w⟩
          · obtain⟨v',q1,q2⟩:=hT i oi di (by omega) hpi hoi hdi
            have hne:di≠d:=by
              rintro rfl;exact hik (ok.uniq hoi ho hdi rfl)
            exact⟨v',by rw[qFG hne];exact q1,fun w=>by rw[hex];exact q2 w⟩
        obtain⟨σT,bT,g1,g2,g3,g4,g5,g6,g7⟩:=ih (k+1) _ _ (by simp at hk ⊢;omega) hl h ha' (hng.put d sv) (by rw[qBK];exact hsz) hT'
        refine⟨σT,bT,g1,g2,g3,g4,by rw[g5,put_defers],g6,fun t ht=>?_⟩
        obtain⟨q1,q2⟩:=g7 t (fun j oj hj=>ht j oj (by omega))
        have hne:t≠d:=by
          rintro rfl;exact ht k _ (yA3 k) hp ho rfl
        refine⟨by rw[q1,qFG hne],?_⟩
        rw[q2];show Env.get ((d,none,sv)::σ) t=_;rw[qAX,qAS (fun hh=>hne hh.symm)];rfl
    · have h:vcT B (plan.drop (k+1)) l σ Φ K:=by
        match hq:plan[k],h0,h with
        | n+1,_,h=>exact h
      obtain⟨σT,bT,g1,g2,g3,g4,g5,g6,g7⟩:=ih (k+1) _ _ (by simp at hk ⊢;omega) hl h ha hng hsz (fun i oi di hi hpi hoi hdi=>by
        by_cases hik:i=k
        · subst hik;rw[hp] at hpi;exact absurd (Option.some.inj hpi) h0
        · exact hT i oi di (by omega) hpi hoi hdi)
      exact⟨σT,bT,g1,g2,g3,g4,g5,g6,fun t ht=>g7 t (fun j oj hj=>ht j oj (by omega))⟩
structure OFact (B:Base) (all:List Oper) (Φ:Phi) (o:Oper) (σ:Env) (gd:Option (Nat×Bool)) (sv:SV):Prop where
 nd:∀ c,o.op≠.defer c
 ns:∀ cs b,o.op≠.select cs b
 run:∀ (p:Nat->Prop) r β a w,(∀ x∈o.op.operands.toList,Has p x)->GdP p σ->(∀ s w',gd=some (s,w')->p s/\(Act.tmps a)[s]?=some (.bool w'))->qLP p r β σ a.tmps->B.G r->MemSat r β Φ w->OpTo B.P a w o (Quiet r β Φ w sv)
 gd:(o.guard=none/\gd=none)\/∃ j wv s,o.guard=some (j,wv)/\qN6 all j=some s/\gd=some (s,wv)
def qmV (r:Mem) (β:qBD) (Φ:Phi) (w:World) (res:SV) (Φ':Phi) (v:Value) (w':World):Prop:=
 ∃ r2 βf,r.le r2/\MemSat r2 β Φ w'/\Hid r β Φ w r2 β Φ w'/\Rel r2 βf res v/\MemSat r2 βf Φ' w'/\∀ j ch b,Phi.get Φ' j=some ch->ch.hb (βf j) b->w.heap.size<=b
structure FFact (B:Base) (Φ:Phi) (o:Oper) (σ:Env) (res:SV) (Φ':Phi):Prop where
 nd:∀ c,o.op≠.defer c
 ns:∀ cs b,o.op≠.select cs b
 run:∀ (p:Nat->Prop) r β a w,(∀ x∈o.op.operands.toList,Has p x)->qLP p r β σ (Act.tmps a)->B.G r->MemSat r β Φ w->OpTo B.P a w o (qmV r β Φ w res Φ')
theorem qU8 {B:Base}{Φ σ ctx g ung op}{K:SV->Prop}(h:evK B Φ σ ctx g ung op K):∀ cs b,op≠.select cs b:=by
 rintro cs b rfl;exact h
theorem qNK {B:Base}{Φ f args largs}{K:SV->Phi->Prop}(h:CallF B f args largs K) (hl:∀ r β w vs,MemSat r β Φ w->qA5 r β args vs->qA5 (frz (fun _=>true) r β Φ w) β largs vs):
  ∃ res Φ',K res Φ'/\∀ r β w0 vs a o,B.G r->MemSat r β Φ w0->qA5 r β args vs->(∀ w,(execOp a.eval o).run B.P w=(callFunc f vs.toArray).run B.P w)->OpTo B.P a w0 o (qmV r β Φ w0 res Φ'):=by
 cases h with
 | nwl pl hp k=>
  rename_i pre res Φ' fn;simp only[yAI] at pl;refine⟨res, Φ',k,fun r β w0 vs a o hG m hrel hrun=>.call f vs.toArray (by rw[hrun];exact fn.call _ _) ?_⟩
  refine(fn.ok hp.h (frz (fun _=>true) r β Φ w0) β w0 vs (B.mono _ _ (qB7 m) hG) (qP3 m β) (hl r β w0 vs m hrel)).mono ?_
  rintro e w' ⟨v,sv1,r', β', Φ1,he,⟨rfl,rfl⟩,hr,m',hle,hid⟩;obtain⟨r2,hr2⟩:∃ r2:Mem,r2=fun b=>if b<w0.heap.size then r b else r' b:=⟨_,rfl⟩
  have h1:r.le r2:=by
   intro b o hb;rw[hr2];have:=qD5 (m.vis _ _ hb);simp only[this,if_true];exact hb
  have h2:r2.le r':=by
   intro b o hb;rw[hr2] at hb;simp only at hb;split at hb
   ·exact hle _ _ (qB7 m _ _ hb)
   ·exact hb
  have hnew:∀ j ch b,Phi.get Φ1 j=some ch->ch.hb (β' j) b->w0.heap.size<=b:=fun j ch b p1 p2=>qNO hle m' hid p1 p2
  obtain⟨g1,g2,g3⟩:=back (I:=fun _=>False) m (fun j ch b h=>by simp[Phi.get] at h) (fun _ h=>h.elim) hle m' hid r2 h2 (fun id ch b _ p1 _ p3=>by
   rw[hr2];simp only[qE8 m p1 p3,if_true];exact m.sep _ _ _ p1 p3)
  refine⟨v,he,r2, β',h1,⟨g2,fun id ch h=>(m.chs _ _ h).keep h1 (fun b hb=>(g1 id ch b (fun h=>h) h hb).1) (fun _ _ _ _ _ _ _ h=>h),fun id ch b a1 a2=>(g1 id ch b (fun h=>h) a1 a2).2.1,m.nod⟩,
   ⟨hid.os,hid.tape,hid.output,hid.size,fun b hb q1 q2=>⟨(g3 b hb q1 q2).1,(g3 b hb q1 q2).2.1,q2⟩,fun _ ch h _=>⟨rfl,ch,h,rfl⟩⟩,qM2 hr pl.1,⟨g2,fun j ch hj=>?_,fun j ch b hj hb=>?_,m'.nod⟩,hnew⟩
  ·obtain⟨τ,l,rfl,hτ⟩:=qKI pl.2 hj;exact qEG (m'.chs _ _ hj) hτ
  ·have:=m'.sep _ _ _ hj hb;cases hq:r2 b with
   | none=>rfl
   | some o=>rw[h2 b o hq] at this;cases this
 | nw hp k=>
  rename_i pre res Φ' fn;refine⟨res, Φ',k,fun r β w0 vs a o hG m hrel hrun=>.call f vs.toArray (by rw[hrun];exact fn.call _ _) ?_⟩
  refine(fn.ok hp.h r β w0 vs hG (qUQ m β) hrel).mono ?_;rintro e w' ⟨v,sv1,r', β', Φ1,he,⟨rfl,rfl⟩,hr,m',hle,hid⟩;have hnew:∀ j ch b,Phi.get Φ1 j=some ch->ch.hb (β' j) b->w0.heap.size<=b:=fun j ch b p1 p2=>qNO hle m' hid p1 p2
  obtain⟨g1,g2,g3⟩:=back (q:=fun _=>false) (I:=fun _=>False) (Φc:=[]) m (fun j ch b h=>by simp[Phi.get] at h) (fun _ h=>h.elim) (by rw[qDY];exact hle) m' (by rw[qDY];exact hid) r' (Mem.le_refl _) (fun _ _ _ h=>by cases h)
  exact⟨v,he,r', β',hle,⟨g2,fun id ch h=>(m.chs _ _ h).keep hle (fun b hb=>(g1 id ch b (fun h=>h) h hb).1) (fun _ _ _ _ _ _ _ h=>h),fun id ch b a1 a2=>(g1 id ch b (fun h=>h) a1 a2).2.1,m.nod⟩,
   ⟨hid.os,hid.tape,hid.output,hid.size,fun b hb q1 q2=>⟨(g3 b hb q1 q2).1,(g3 b hb q1 q2).2.1,q2⟩,fun _ ch h _=>⟨rfl,ch,h,rfl⟩⟩,hr,m',hnew⟩
theorem qaV {P:Program}{el:TypeId}{τ:Ty}{ln:Nat}{rows:List (List SV)}{l:List τ.T}{us:Array Value}{r:Mem}{w:World}(h5:τ.isB=true->el=5) (hts:qAW P el=τ.size) (h1:rows.length=ln) (h3:qAW P el≠0) (h4:ln*qAW P el<=16777216)
  (hl:l.length=rows.length/\∀ (i:Nat) row a,rows[i]?=some row->l[i]?=some a->qHI row (τ.enc a)) (hus:us.size=ln*qAW P el)
  (hrel:∀ (i:Nat) row (j:Nat) sv v,rows[i]?=some row->row[j]?=some sv->us[i*qAW P el+j]?=some v->Rel r β0 sv v):
  qAZ r { w with heap:=w.heap.push (.cells us el) } (.slice (some ⟨w.heap.size,0,none⟩) ln ln) τ.isB τ.size (l.map τ.enc):=by
 have hlen:(l.map τ.enc).length=ln:=by rw[List.length_map,hl.1,h1]
 by_cases hz:ln=0
 ·left
  exact⟨_,by rw[hz],yAU.1 (by rw[hlen,hz])⟩
 ·right
  have key:∀ (i:Nat) (row:List SV),(l.map τ.enc)[i]?=some row->∃ row0 a,rows[i]?=some row0/\qHI row0 row/\row=τ.enc a:=by
   intro i row hi;rw[List.getElem?_map] at hi;cases hq:l[i]? with
   | none=>rw[hq] at hi;cases hi
   | some a=>
    rw[hq] at hi;simp at hi;subst hi;have hlt:i<rows.length:=by have:=qAV hq;rw[<-hl.1];exact this
    exact⟨rows[i],a,yAQ hlt,hl.2 i _ a (yAQ hlt) hq,rfl⟩
  have hle:ln<=ln*qAW P el:=Nat.le_mul_of_pos_right ln (by omega)
  refine⟨w.heap.size,0,ln,us,el,(0,0),by rw[hlen],hz,qBT,⟨fun h=>⟨h5 h,rfl⟩,.inl rfl⟩,by omega,by rw[hlen];exact yA3 _,by rw[<-hts,hus];omega,?_,?_,?_⟩
  ·intro k row hk;obtain⟨_,a',_,_,rfl⟩:=key k row hk;exact enc_len _ _
  ·intro k row j sv hk hj;obtain⟨_,a',_,_,rfl⟩:=key k row hk;exact enc_one _ _ _ _ hj
  ·intro k row j sv v hk hj hv;obtain⟨row0,a',g1,g2,rfl⟩:=key k row hk;have hjl:j<row0.length:=by have:=qAV hj;rw[<-g2.1];exact this
   exact(g2.2 j _ sv (yAQ hjl) hj).1 _ _ _ (hrel k row0 j _ v g1 (yAQ hjl) (by rw[hts];rw[yA6] at hv;exact hv))
theorem qMZ {r β Φ w w'}(m:MemSat r β Φ w) (hg:Grows w w'):MemSat r β Φ w'/\Hid r β Φ w r β Φ w':=
 ⟨⟨fun b o h=>by have:=m.vis b o h;rw[hg.old b (lt_of_heap this)];exact this,fun id ch h=>(m.chs _ _ h).keep (Mem.le_refl r) (fun b hb=>hg.old b ((m.chs _ _ h).alive hb)) (fun _ _ _ _ _ _ _ h=>h),m.sep,m.nod⟩,
  hg.os,hg.tape,hg.output,hg.size,fun b hb h1 h2=>⟨hg.old b hb,h1,h2⟩,fun _ ch h _=>⟨rfl,ch,h,rfl⟩⟩
theorem qLX {B:Base}{Φ σ op}{K:SV->Phi->Prop}(h:qHT B Φ σ op K) {dst ty pos after guard}:
  ∃ res Φ',K res Φ'/\FFact B Φ ⟨dst,op,ty,pos,after,guard⟩ σ res Φ':=by
 unfold qHT at h;split at h
 ·rename_i t ln parts;split at h
  ·rename_i el ht;split at h
   ·rename_i τ hty;cases hz:qEZ B.P el τ.size with
    | false=>rw[hz] at h;exact h.elim
    | true=>
    rw[hz] at h;have hts:=(qCE hz).1;obtain⟨rows,h,h1,h2,h3,h4,h5,h6⟩:=qF5 h;obtain⟨l,h,hl⟩:=qBU (fun _ _ h=>qDV h) h
    refine⟨_,_,h,(fun c hc=>by cases hc),(fun cs b hc=>by cases hc),fun p r β a w hP ha hG m=>?_⟩
    have sm:Sm p r β σ a.tmps [] (fun p=>p):=⟨ha,fun s w hm=>by simp[qGJ] at hm,fun p hp=>hp⟩
    obtain⟨us,hus,hrun,hrel⟩:=h6 p r β a _ (fun y hy=>hP _ (by simp[Op.operands];exact⟨_,hy⟩)) sm
    have hrows:=qaV (w:=w) (qP0 hty) hts h1 h3 h4 hl hus hrel;obtain⟨g1,g2⟩:=qMZ m (Grows.alloc w (.cells us el));have hblk:∀ b,(Chunk.own τ l).hb (.slice (some ⟨w.heap.size,0,none⟩) ln ln) b->w.heap.size<=b:=fun b hb=>by
     simp only[Chunk.hb,Chunk.blk] at hb;cases hq:Nat.beq ln 0 with
     | true=>rw[hq] at hb;cases hb
     | false=>rw[hq] at hb;simp at hb;omega
    obtain⟨k1,k2⟩:=qd1 (n:=0) (ch:=.own τ l) (v:=.slice (some ⟨w.heap.size,0,none⟩) ln ln) (qUQ m β) rfl (Grows.alloc w (.cells us el)) hblk (.own hrows);refine .val (.slice (some ⟨w.heap.size,0,none⟩) ln ln) { w with heap:=w.heap.push (.cells us el) } ?_ ⟨r,_,Mem.le_refl r,g1,g2,qHC rfl,k1,fun j ch b hj hb=>?_⟩
    ·have e:(Array.map (fun(x:Nat×Operand)=>(x.1,a.eval x.2)) ⟨parts⟩)=(parts.map fun(i,x)=>(i,a.eval x)).toArray:=by simp
     simp only[execOp,Sem.run_bind];rw[e,hrun t w ht];rfl
    ·rw[qAQ] at hj;cases hq:Nat.beq 0 j with
     | true=>
      obtain rfl:=qAM hq;rw[hq] at hj;cases hj;rw[qBI] at hb;exact hblk b hb
     | false=>rw[hq] at hj;cases hj
   ·exact h.elim
  ·exact h.elim
 ·rename_i f xs ts;have hops:∀ x,x∈xs->x∈(Op.operands (.call ⟨.value f,⟨xs⟩,ts⟩)).toList:=fun x hx=>by simp[Op.operands,Call.operands,hx]
  have hopf:f∈(Op.operands (.call ⟨.value f,⟨xs⟩,ts⟩)).toList:=by simp[Op.operands,Call.operands]
  obtain⟨fv,h,hf⟩:=qAK h;cases fv<;>simp only at h;rename_i fid caps;obtain⟨l,h,h1,h2⟩:=qC6 h;have h:=qKZ h;have fin:∀ {res Φ'},(∀ r β w0 vs a o,B.G r->MemSat r β Φ w0->qA5 r β (l++caps) vs->(∀ w,(execOp a.eval o).run B.P w=(callFunc fid vs.toArray).run B.P w)->OpTo B.P a w0 o (qmV r β Φ w0 res Φ'))->FFact B Φ ⟨dst,.call ⟨.value f,⟨xs⟩,ts⟩,ty,pos,after,guard⟩ σ res Φ':=by
   intro res Φ' hr;refine⟨(fun c hc=>by cases hc),(fun cs b hc=>by cases hc),fun p r β a w hP ha hG m=>?_⟩
   have sm:Sm p r β σ a.tmps [] (fun p=>p):=⟨ha,fun s w hm=>by simp[qGJ] at hm,fun p hp=>hp⟩
   have hfv:=hf p r β a _ (hP _ hopf) sm;generalize hq:a.eval f=v at hfv;cases hfv with
   | fn hl hc=>
    rename_i cs;refine hr r β w (xs.map a.eval++cs) a _ hG m ((qQ1 h1 (h2 p r β a _ (fun x hx=>hP _ (hops x hx)) sm)).append ⟨hl,hc⟩) fun w=>?_
    simp only[execOp,resolve,hq,Deferred.ofValue,Sem.run_bind,Sem.run_pure,Result.andThen_ok,invoke];congr 2;simp
  cases ho:SV.okIdsL (fun _=>false) (l++caps) with
  | true=>
   rw[ho] at h;obtain⟨res, Φ',hk,hr⟩:=qNK h (fun r β w vs m hv=>hv.mono (qB7 m))
   exact⟨res, Φ',hk,fin hr⟩
  | false=>
   rw[ho] at h;obtain⟨ys,h,hl⟩:=qH9 h;obtain⟨res, Φ',hk,hr⟩:=qNK h hl;exact⟨res, Φ',hk,fin hr⟩
 ·exact h.elim
end Go.Vc

namespace Go.Vc
set_option autoImplicit false
structure PreFacts (B:Base) (all:List Oper) (plan:List Nat) (Φ:Phi) (k p:Nat) (sig:Nat->Env) (frl:Nat->Frs) (gd:Nat->Option (Nat×Bool)) (sv:Nat->SV) (fr:Nat->SV×Phi):Prop where
 kp:k<=p
 pl:p<=all.length
 stepT:∀ (i:Nat),k<=i->i<p->plan[i]?=some 0->sig (i+1)=sig i/\frl (i+1)=frl i
 step1:∀ (i:Nat) (o:Oper),k<=i->i<p->plan[i]?=some 1->all[i]?=some o->sig (i+1)=qK7 o.dst (gd i) (sv i) (sig i)/\frl (i+1)=frl i/\OFact B all Φ o (sig i) (gd i) (sv i)
 step2:∀ (i:Nat) (o:Oper) (d:Nat),k<=i->i<p->plan[i]?=some 2->all[i]?=some o->o.dst=some d->sig (i+1)=(d,none,.und)::sig i/\frl (i+1)=(d,(fr i).1,(fr i).2)::frl i/\FFact B Φ o (sig i) (fr i).1 (fr i).2
 no3:∀ (i:Nat),k<=i->i<p->plan[i]?≠some 3
 rest:∀ (i:Nat),p<=i->i<all.length->plan[i]?=some 0\/plan[i]?=some 3
theorem qT4:∀ {f:Nat}{σ:Env}{s:Nat}{w:Bool}{p:Nat->Prop}{r:Mem}{β:qBD}{t:Array Value},qaS f σ s w=true->qLP p r β σ t->GdP p σ->p s->t[s]?≠some (.bool w)
 | 0,_,_,_,_,_,_,_,h,_,_,_=>by cases h
 | f+1, σ,s,w,p,r, β,t,h,ha,hg,hp=>by
  have ne:∀ b:Bool,(match b with|true => !w|false=>w)=true->Value.bool b≠.bool w:=by
   intro b hb;cases b<;>cases w<;>simp_all
  unfold qaS at h;split at h
  ·rename_i b hs;obtain⟨v,hv,hr⟩:=ha _ _ _ hp hs;cases hr;rw[hv];exact fun q=>ne b h (Option.some.inj q)
  ·rename_i c hs;obtain⟨v,hv,hr⟩:=ha _ _ _ hp hs;cases hr;rw[hv];intro q;have:=Option.some.inj q;cases c<;>cases w<;>first|(cases h;done)|(cases this;done)
  ·rename_i s' w' b hs;obtain⟨h1,h2⟩:=ha _ _ _ hp hs;by_cases q:t[s']?=some (.bool w')
   ·obtain⟨v,hv,hr⟩:=h1 q;cases hr;rw[hv];exact fun q=>ne b h (Option.some.inj q)
   ·rw[h2 q];intro q;cases q
  ·rename_i s' w' x _ hs;obtain⟨h1,h2⟩:=ha _ _ _ hp hs;have:=qT4 h ha hg (hg _ _ _ _ hp hs);rw[h2 this];intro q;cases q
  ·cases h
theorem qXL {B:Base}{all:List Oper}{plan:List Nat}{Φ:Phi}(hlen:plan.length=all.length) (hpl:∀ (i:Nat) (o:Oper),all[i]?=some o->PlanAt all plan i o) {K:Env->Frs->List Nat->List Oper->Prop}:
    ∀ (l:List Oper) (k:Nat) (σ:Env) (F:Frs),k+l.length=all.length->l=all.drop k->qKO B all Φ (plan.drop k) l σ F K->
      ∃ p sig frl gd sv fr,PreFacts B all plan Φ k p sig frl gd sv fr/\sig k=σ/\frl k=F/\K (sig p) (frl p) (plan.drop p) (all.drop p):=by
  intro l
  induction l with
  | nil=>
    intro k σ F hk he h;have hkl:k=all.length:=by simpa using hk
    have hd:plan.drop k=[]:=yAN (by omega)
    rw[hd] at h;have h:K σ F [] []:=h;refine⟨k,fun _=>σ,fun _=>F,fun _=>none,fun _=>.und,fun _=>(.und,[]),⟨yA3 _,by omega,fun i h1 h2=>by omega,fun i o h1 h2=>by omega,fun i o d h1 h2=>by omega,fun i h1 h2=>by omega,fun i h1 h2=>by omega⟩,rfl,rfl,?_⟩
    rw[hd, <-he];exact h
  | cons o l ih=>
    intro k σ F hk he h;have hkl:k<all.length:=by simp at hk;omega
    have ho:all[k]?=some o:=by
      have:(all.drop k)[0]?=some o:=by rw[<-he];rfl
      simpa using this
    have hl:l=all.drop (k+1):=by
      have:=congrArg List.tail he;simpa using this
    have hkp:k<plan.length:=by omega
    have hp:plan[k]?=some plan[k]:=yAQ hkp;have hpd:plan.drop k=plan[k]::plan.drop (k+1):=yAM hkp;have hk':k+1+l.length=all.length:=by simp at hk;omega
    rw[hpd] at h;have glue:∀ {σ1:Env}{F1:Frs}{gd0:Option (Nat×Bool)}{sv0:SV}{fr0:SV×Phi},(plan[k]?=some 0->σ1=σ/\F1=F)->(plan[k]?=some 1->σ1=qK7 o.dst gd0 sv0 σ/\F1=F/\OFact B all Φ o σ gd0 sv0)->
        (∀ d,plan[k]?=some 2->o.dst=some d->σ1=(d,none,.und)::σ/\F1=(d,fr0.1,fr0.2)::F/\FFact B Φ o σ fr0.1 fr0.2)->plan[k]?≠some 3->
        (qKO B all Φ (plan.drop (k+1)) l σ1 F1 K)->
        ∃ p sig frl gd sv fr,PreFacts B all plan Φ k p sig frl gd sv fr/\sig k=σ/\frl k=F/\K (sig p) (frl p) (plan.drop p) (all.drop p):=by
      intro σ1 F1 gd0 sv0 fr0 h0 h1 h2 h3 h;obtain⟨p,sig,frl,gd,sv,fr,pf,e1,e2,hK⟩:=ih (k+1) σ1 F1 hk' hl h;have ne:∀ {i},k+1<=i->i≠k:=fun h=>by omega
      have hkp1:=pf.kp;refine⟨p,fun i=>if i=k then σ else sig i,fun i=>if i=k then F else frl i,fun i=>if i=k then gd0 else gd i,fun i=>if i=k then sv0 else sv i,fun i=>if i=k then fr0 else fr i,
        ⟨by omega,pf.pl,fun i q1 q2 q3=>?_,fun i oi q1 q2 q3 q4=>?_,fun i oi d q1 q2 q3 q4 q5=>?_,fun i q1 q2=>?_,pf.rest⟩,by simp,by simp,?_⟩
      · by_cases hi:i=k
        · subst hi
          obtain⟨a1,a2⟩:=h0 q3;simp only[show ¬i+1=i by omega,if_false,if_true,e1,e2]
          exact⟨a1,a2⟩
        · simp only[hi,show ¬i+1=k by omega,if_false]
          exact pf.stepT i (by omega) q2 q3
      · by_cases hi:i=k
        · subst hi
          rw[ho] at q4;cases q4;obtain⟨a1,a2,a3⟩:=h1 q3;simp only[show ¬i+1=i by omega,if_false,if_true,e1,e2]
          exact⟨a1,a2,a3⟩
        · simp only[hi,show ¬i+1=k by omega,if_false]
          exact pf.step1 i oi (by omega) q2 q3 q4
      · by_cases hi:i=k
        · subst hi
          rw[ho] at q4;cases q4;obtain⟨a1,a2,a3⟩:=h2 d q3 q5;simp only[show ¬i+1=i by omega,if_false,if_true,e1,e2]
          exact⟨a1,a2,a3⟩
        · simp only[hi,show ¬i+1=k by omega,if_false]
          exact pf.step2 i oi d (by omega) q2 q3 q4 q5
      · by_cases hi:i=k
        · subst hi;exact h3
        · exact pf.no3 i (by omega) q2
      · simp only[show ¬p=k by omega,if_false];exact hK
    cases hpl k o ho with
    | t d hq hf hg hd _ _=>
      rw[hp] at hq;have hq0:=Option.some.inj hq;rw[hq0] at h hp;have h:qKO B all Φ (plan.drop (k+1)) l σ F K:=h;exact glue (gd0:=none) (sv0:=.und) (fr0:=(.und,[])) (fun _=>⟨rfl,rfl⟩) (fun hh=>by rw[hp] at hh;cases hh) (fun d hh=>by rw[hp] at hh;cases hh) (fun hh=>by rw[hp] at hh;cases hh) h
    | q hq h3 =>
      rw[hp] at hq;have hq0:=Option.some.inj hq;rw[hq0] at h hp;obtain⟨dst,op,ty,pos,after,guard⟩:=o;cases guard with
      | none=>
        have h:evK B Φ σ [] (fun p=>p) false op fun sv=>qKO B all Φ (plan.drop (k+1)) l (qK7 dst none sv σ) F K:=h
        have hns:=qU8 h;obtain⟨sv,h,hnd,hop⟩:=qDE h (fun hq=>by cases hq)
        refine glue (gd0:=none) (sv0:=sv) (fr0:=(.und,[])) (fun hh=>by rw[hp] at hh;cases hh) (fun _=>⟨rfl,rfl,hnd,hns,fun p r β a w hP hgp hgd ha hG m=>?_,.inl ⟨rfl,rfl⟩⟩) (fun d hh=>by rw[hp] at hh;cases hh) (fun hh=>by rw[hp] at hh;cases hh) h
        exact hop p r β a w hP ⟨ha,fun s w hm=>by simp[qGJ] at hm,fun p hp=>hp⟩ hG m _ _ _ _ _
      | some jw=>
        obtain⟨j,wv⟩:=jw;have h:(match qN6 all j with
          | some s=>
            bif B.al&&qaS 40 σ s wv then(bif qDZ op||qe2 op then False else qKO B all Φ (plan.drop (k+1)) l (qK7 dst (some (s,wv)) .und σ) F K)
            else qnP σ 40 s wv fun ctx g=>evK B Φ σ ctx g false op fun sv=>qKO B all Φ (plan.drop (k+1)) l (qK7 dst (some (s,wv)) sv σ) F K
          | none=>False):=h
        split at h
        · rename_i sl hs
          cases hkg:(B.al&&qaS 40 σ sl wv) with
          | true=>
            rw[hkg] at h;simp only[cond_true] at h;simp only[yAI] at hkg;cases hds:(qDZ op||qe2 op) with
            | true=>rw[hds] at h;exact h.elim
            | false=>
            rw[hds] at h;simp only[cond_false] at h;simp only[Bool.or_eq_false_iff] at hds;refine glue (gd0:=some (sl,wv)) (sv0:=.und) (fr0:=(.und,[])) (fun hh=>by rw[hp] at hh;cases hh) (fun _=>⟨rfl,rfl,fun c hc=>?_,fun cs b hc=>?_,fun p r β a w hP hgp hgd ha hG m=>?_,.inr ⟨j,wv,sl,rfl,hs,rfl⟩⟩) (fun d hh=>by rw[hp] at hh;cases hh) (fun hh=>by rw[hp] at hh;cases hh) h
            · have hc:op=.defer c:=hc
              subst hc;cases hds.1
            · have hc:op=.select cs b:=hc
              subst hc;cases hds.2
            · obtain⟨g1,g2⟩:=hgd sl wv rfl
              exact absurd g2 (qT4 hkg.2 ha hgp g1)
          | false=>
          rw[hkg] at h;simp only[cond_false] at h;obtain⟨ctx,g,h,hsm⟩:=qKX h;have hns:=qU8 h;obtain⟨sv,h,hnd,hop⟩:=qDE h (fun hq=>by cases hq)
          refine glue (gd0:=some (sl,wv)) (sv0:=sv) (fr0:=(.und,[])) (fun hh=>by rw[hp] at hh;cases hh) (fun _=>⟨rfl,rfl,hnd,hns,fun p r β a w hP hgp hgd ha hG m=>?_,.inr ⟨j,wv,sl,rfl,hs,rfl⟩⟩) (fun d hh=>by rw[hp] at hh;cases hh) (fun hh=>by rw[hp] at hh;cases hh) h
          obtain⟨g1,g2⟩:=hgd sl wv rfl;exact hop p r β a w hP (hsm p r β a.tmps hgp g1 ha g2) hG m _ _ _ _ _
        · exact h.elim
    | f d hq h3 hg hd _=>
      rw[hp] at hq;have hq0:=Option.some.inj hq;rw[hq0] at h hp;obtain⟨dst,op,ty,pos,after,guard⟩:=o;have hg:guard=none:=hg;have hd:dst=some d:=hd;subst hg;subst hd;have h:qHT B Φ σ op fun res Φ'=>qKO B all Φ (plan.drop (k+1)) l ((d,none,.und)::σ) ((d,res, Φ')::F) K:=h
      obtain⟨res, Φ',h,hf⟩:=qLX (dst:=some d) (ty:=ty) (pos:=pos) (after:=after) (guard:=none) h;exact glue (gd0:=none) (sv0:=.und) (fr0:=(res, Φ')) (fun hh=>by rw[hp] at hh;cases hh) (fun hh=>by rw[hp] at hh;cases hh) (fun d' _ hd'=>by cases hd';exact⟨rfl,rfl,hf⟩) (fun hh=>by rw[hp] at hh;cases hh) h
    | s hq hc=>
      rw[hp] at hq;have hq0:=Option.some.inj hq;rw[hq0] at h hp hpd;have h:K σ F (3::plan.drop (k+1)) (o::l):=h;refine⟨k,fun _=>σ,fun _=>F,fun _=>none,fun _=>.und,fun _=>(.und,[]),⟨yA3 _,by omega,fun i h1 h2=>by omega,fun i o h1 h2=>by omega,fun i o d h1 h2=>by omega,fun i h1 h2=>by omega,fun i h1 h2=>?_⟩,rfl,rfl,?_⟩
      · by_cases hi:i=k
        · subst hi;exact .inr hp
        · cases hpl i _ (yAQ h2) with
          | t d hq=>exact .inl hq
          | q _ h3=>exact absurd hp (h3 k (by omega))
          | f _ _ h3=>exact absurd hp (h3 k (by omega))
          | s hq=>exact .inr hq
      · rw[hpd, <-he];exact h
theorem ql1 {B:Base}{all:List Oper}{plan:List Nat}{Φ:Phi}{p:Nat}{sig:Nat->Env}{frl:Nat->Frs}{gd:Nat->Option (Nat×Bool)}{sv:Nat->SV}{fr:Nat->SV×Phi}(pf:PreFacts B all plan Φ 0 p sig frl gd sv fr)
    {N:Nat}(ok:RegOk N all) (hlen:plan.length=all.length) (hpl:∀ (i:Nat) (o:Oper),all[i]?=some o->PlanAt all plan i o):∀ (i:Nat),i<=p->∀ t,
      (∀ (j:Nat) (oj:Oper),j<i->all[j]?=some oj->oj.dst=some t->(plan[j]?=some 1->Env.get (sig i) t=some (gd j,sv j))/\(plan[j]?=some 2->Env.get (sig i) t=some (none,.und)))/\
      ((∀ (j:Nat) (oj:Oper),j<i->plan[j]?≠some 0->all[j]?=some oj->oj.dst≠some t)->Env.get (sig i) t=Env.get (sig 0) t):=by
  intro i
  induction i with
  | zero=>intro _ t;exact⟨fun j oj hj=>by omega,fun _=>rfl⟩
  | succ i ih=>
    intro hi t;obtain⟨ih1,ih2⟩:=ih (by omega) t
    have hil:i<all.length:=by have:=pf.pl;omega
    have ho:all[i]?=some all[i]:=yAQ hil;have lift:∀ {x:Option (Nat×Bool)}{y:SV}{dst:Option Nat},all[i].dst=dst->(sig (i+1)=qK7 dst x y (sig i))->
        (∀ (j:Nat) (oj:Oper),j<i->all[j]?=some oj->oj.dst=some t->Env.get (sig (i+1)) t=Env.get (sig i) t)/\(dst=some t->Env.get (sig (i+1)) t=some (x,y))/\(dst≠some t->Env.get (sig (i+1)) t=Env.get (sig i) t):=by
      intro x y dst hd he;have h3:dst≠some t->Env.get (sig (i+1)) t=Env.get (sig i) t:=by
        intro hne;rw[he];cases dst with
        | none=>rfl
        | some d=>
          show Env.get ((d,x,y)::sig i) t=_;rw[qAX,qAS (fun h=>hne (by rw[h]))];rfl
      refine⟨fun j oj hj hoj hdj=>h3 fun hdt=>?_,fun hdt=>?_,h3⟩
      · have:=ok.uniq hoj ho hdj (by rw[hd,hdt])
        omega
      · rw[he,hdt]
        show Env.get ((t,x,y)::sig i) t=_;rw[qAX,yA2];rfl
    cases hpl i _ ho with
    | t d hq=>
      obtain⟨e1,_⟩:=pf.stepT i (by omega) (by omega) hq
      rw[e1];refine⟨fun j oj hj hoj hdj=>?_,fun hn=>ih2 fun j oj hj=>hn j oj (by omega)⟩
      by_cases hji:j=i
      · subst hji;exact⟨fun h=>(by rw[hq] at h;cases h),fun h=>(by rw[hq] at h;cases h)⟩
      · exact ih1 j oj (by omega) hoj hdj
    | q hq=>
      obtain⟨e1,_,_⟩:=pf.step1 i _ (by omega) (by omega) hq ho
      obtain⟨l1,l2,l3⟩:=lift rfl e1;refine⟨fun j oj hj hoj hdj=>?_,fun hn=>?_⟩
      · by_cases hji:j=i
        · subst hji
          rw[ho] at hoj;cases hoj;exact⟨fun _=>l2 hdj,fun h=>(by rw[hq] at h;cases h)⟩
        · rw[l1 j oj (by omega) hoj hdj];exact ih1 j oj (by omega) hoj hdj
      · rw[l3 (hn i _ (by omega) (by rw[hq];simp) ho)]
        exact ih2 fun j oj hj=>hn j oj (by omega)
    | f d hq _ _ hd=>
      obtain⟨e1,_,_⟩:=pf.step2 i _ d (by omega) (by omega) hq ho hd
      obtain⟨l1,l2,l3⟩:=lift hd (x:=none) (y:=.und) e1;refine⟨fun j oj hj hoj hdj=>?_,fun hn=>?_⟩
      · by_cases hji:j=i
        · subst hji
          rw[ho] at hoj;cases hoj;refine⟨fun h=>(by rw[hq] at h;cases h),fun _=>l2 ?_⟩
          rw[hd] at hdj;exact hdj
        · rw[l1 j oj (by omega) hoj hdj];exact ih1 j oj (by omega) hoj hdj
      · rw[l3 (by rw[<-hd];exact hn i _ (by omega) (by rw[hq];simp) ho)]
        exact ih2 fun j oj hj=>hn j oj (by omega)
    | s hq=>exact absurd hq (pf.no3 i (by omega) (by omega))
end Go.Vc

namespace Go.Vc
set_option autoImplicit false
theorem qLO {res:SV}{Φ':Phi}{σ:Env}{Φ:Phi}{n:Nat}{K:EK}(h:qMS [] res Φ' σ Φ n K):
  ∃ res' Φ2 n',K res' σ Φ2 n'/\∀ r β βf w v,MemSat r β Φ w->MemSat r βf Φ' w->
   (∀ id ch j ch' b,Phi.get Φ id=some ch->ch.hb (β id) b->Phi.get Φ' j=some ch'->¬ch'.hb (βf j) b)->Rel r βf res v->
   ∃ β2,Rel r β2 res' v/\MemSat r β2 Φ2 w/\Keep β Φ β2 Φ2/\(∀ k g sv,Env.get σ k=some (g,sv)->∀ u,Rel r β sv u->Rel r β2 sv u)/\
    (∀ i ch b,Phi.get Φ2 i=some ch->ch.hb (β2 i) b->(∃ id c,Phi.get Φ id=some c/\c.hb (β id) b)\/∃ j c,Phi.get Φ' j=some c/\c.hb (βf j) b):=by
 have h:qbE σ Φ Φ' [] n fun M n'=>
  bif qCU M&&qCV M then
   rn2 M res fun res=>qYZ M Φ' fun Φb=>qO4 [] Φ fun Φr=>qeS Φb Φr fun Φ2=>K res σ Φ2 n'
  else False:=h
 obtain⟨P,M,n',hM,h,hP,hall⟩:=qM6 h;rw[yAL] at hM;subst hM;cases hnd:(qCU M&&qCV M) with
 | false=>rw[hnd] at h;exact h.elim
 | true=>
 rw[hnd] at h;simp only[cond_true] at h;simp only[yAI] at hnd;obtain⟨hn1,hn2⟩:=hnd;obtain⟨res',h,hres⟩:=qTR h;obtain⟨Φb,h,hb1,hb2⟩:=qK4 hn1 hn2 h;obtain⟨Φr,h,hr1⟩:=qLQ h;rw[qY3] at h;have hr1:∀ i,Phi.get Φr i=Phi.get Φ i:=hr1;refine⟨res',_,n',h,fun r β βf w v m mf hdis hv=>?_⟩
 obtain⟨β2,hβ2⟩:∃ β2:qBD, β2=fun i=>match qIC M i with|some j=>βf j|none=>β i:=⟨_,rfl⟩
 have F1:∀ {i j},qH2 M j=some i->β2 i=βf j:=by
  intro i j hij;have:=qE4 hn2 (qEX hij);rw[hβ2];simp only[this]
 have Fo:∀ {i ch},Phi.get Φ i=some ch->β2 i=β i/\qIC M i=none:=by
  intro i ch hg;have hl:qIC M i=none:=by
   cases hl:qIC M i with
   | none=>rfl
   | some j=>exact absurd rfl (qC4 (hP j i (qGR hl)).2 i ch hg).1
  refine⟨?_,hl⟩;rw[hβ2];simp only[hl]
 have F4:∀ {sv v},(∀ j i,(j,i)∈M->sv.okIds (fun k => !Nat.beq k i)=true)->Rel r β sv v->Rel r β2 sv v:=by
  intro sv v hn hr;have hno:qUN (M.map (·.2)) sv:=by
   intro i hi;obtain⟨⟨j,i'⟩,hji,rfl⟩:=yAZ.1 hi;exact hn j i' hji
  refine hr.bind (p:=fun k => !qD8 k (M.map (·.2))) (fun k hk=>?_) hno.ok
  simp only[yAJ] at hk;cases hl:qIC M k with
  | none=>rw[hβ2];simp only[hl]
  | some j=>
   have:qD8 k (M.map (·.2))=true:=qB6.2 (yAZ.2 ⟨(j,k),qGR hl,rfl⟩)
   rw[this] at hk;cases hk
 have get:∀ i ch,Phi.get (Φb++Φr) i=some ch->(∃ j ch',qH2 M j=some i/\Phi.get Φ' j=some ch'/\RnC M ch' ch/\β2 i=βf j)\/(β2 i=β i/\Phi.get Φ i=some ch):=by
  intro i ch hi;rw[qM3] at hi;cases hq:Phi.get Φb i with
  | some c=>
   rw[hq] at hi;cases hi;obtain⟨j,ch',q1,q2,q3⟩:=hb1 i ch hq;exact .inl ⟨j,ch',q1,q2,q3,F1 q1⟩
  | none=>
   rw[hq] at hi;rw[hr1] at hi;exact .inr ⟨(Fo hi).1,hi⟩
 have hrn:Rn M βf β2:=fun j i hji=>F1 hji
 refine⟨β2,hres _ _ _ _ hrn hv,⟨m.vis,fun i ch hi=>?_,fun i ch b hi hb=>?_,fun i i' ch ch' b hi hi' hb hb'=>?_⟩,fun i ch hi hk=>?_,fun k g sv hk u hr=>F4 (fun j i hji=>qHY (hP j i hji).1 k g sv hk) hr,fun i ch b hi hb=>?_⟩
 ·rcases get i ch hi with⟨j,ch',q1,q2,q3,q4⟩|⟨q1,q2⟩
  ·rw[q4];exact q3.sat (Mem.le_refl r) hrn (mf.chs _ _ q2) (fun _ _=>rfl)
  ·rw[q1];refine(m.chs _ _ q2).keep (Mem.le_refl r) (fun _ _=>rfl) (fun _ cells he k sv u hk hr=>F4 (fun j i' hji=>?_) hr)
   have:=(qC4 (hP j i' hji).2 i ch q2).2;subst he;exact SV.okIdsL_get this k sv hk
 ·rcases get i ch hi with⟨j,ch',q1,q2,q3,q4⟩|⟨q1,q2⟩
  ·rw[q4,q3.blk] at hb;exact mf.sep _ _ _ q2 hb
  ·rw[q1] at hb;exact m.sep _ _ _ q2 hb
 ·rcases get i ch hi with⟨j,cj,q1,q2,q3,q4⟩|⟨q1,q2⟩<;>rcases get i' ch' hi' with⟨j',cj',q1',q2',q3',q4'⟩|⟨q1',q2'⟩
  ·rw[q4,q3.blk] at hb;rw[q4',q3'.blk] at hb';have:=mf.nod _ _ _ _ _ q2 q2' hb hb';subst this;rw[q1] at q1';cases q1';rfl
  ·rw[q4,q3.blk] at hb;rw[q1'] at hb';exact(hdis _ _ _ _ _ q2' hb' q2 hb).elim
  ·rw[q1] at hb;rw[q4',q3'.blk] at hb';exact(hdis _ _ _ _ _ q2 hb q2' hb').elim
  ·rw[q1] at hb;rw[q1'] at hb';exact m.nod _ _ _ _ _ q2 q2' hb hb'
 ·obtain⟨k1,k2⟩:=Fo hi;have hnb:Phi.get Φb i=none:=by
   cases hq:Phi.get Φb i with
   | none=>rfl
   | some c=>
    obtain⟨j,ch',q1,_,_⟩:=hb1 i c hq;have:=qE4 hn2 (qEX q1);rw[k2] at this;cases this
  exact⟨k1,ch,by rw[qM3,hnb];show Phi.get Φr i=some ch;rw[hr1];exact hi,rfl⟩
 ·rcases get i ch hi with⟨j,ch',q1,q2,q3,q4⟩|⟨q1,q2⟩
  ·rw[q4,q3.blk] at hb;exact .inr ⟨j,ch',q2,hb⟩
  ·rw[q1] at hb;exact .inl ⟨i,ch,q2,hb⟩
theorem qkQ {r β Φ w r' w' βf Φf}(mf:MemSat r βf Φf w) (hle:r.le r') (m':MemSat r' β Φ w') (hid:Hid r β Φ w r' β Φ w')
  (hn:∀ j ch b,Phi.get Φf j=some ch->ch.hb (βf j) b->∀ id c,Phi.get Φ id=some c->¬c.hb (β id) b):MemSat r' βf Φf w':=by
 have key:∀ j ch b,Phi.get Φf j=some ch->ch.hb (βf j) b->w'.heap[b]?=w.heap[b]?/\r' b=none:=by
  intro j ch b h1 h2;obtain⟨g1,g2,_⟩:=hid.block b ((mf.chs _ _ h1).alive h2) (mf.sep _ _ _ h1 h2) (fun id c hc=>hn j ch b h1 h2 id c hc)
  exact⟨g1,g2⟩
 exact⟨m'.vis,fun j ch hj=>(mf.chs _ _ hj).keep hle (fun b hb=>(key j ch b hj hb).1) (fun _ _ _ _ _ _ _ h=>h),fun j ch b hj hb=>(key j ch b hj hb).2,mf.nod⟩
theorem qQU {A:Array Oper}{o:Oper}{t:Nat}(h:Operand.tmp t∈o.op.operands):t∈o.looksAt A:=
 List.mem_append_left _ (yAY.2 ⟨.tmp t,by simpa using h,rfl⟩)
theorem qDW {all:List Oper}{o:Oper}{j s:Nat}{w:Bool}(hg:o.guard=some (j,w)) (hs:qN6 all j=some s):s∈o.looksAt all.toArray:=by
 obtain⟨o',h1,h2⟩:=qCK hs;refine yAW _ ?_;simp[hg,h1,h2]
theorem qDL {A:Array Oper}{o:Oper}(hs:∀ cs b,o.op≠.select cs b) {a b:Act}(h:∀ t∈o.looksAt A,a.tmps[t]?=b.tmps[t]?):execOp a.eval o=execOp b.eval o:=by
 refine execOp_congr o hs fun x hx=>?_
 cases x with
 | tmp t=>
  show a.tmps.getD t undef=b.tmps.getD t undef;rw[yAB,yAB,h t (qQU hx)]
 | _=>rfl
theorem qF9 {A:Array Oper}{o:Oper}{a b:Act}(h:∀ t∈o.looksAt A,a.tmps[t]?=b.tmps[t]?):Region.wanted o (yielded A a.tmps)=Region.wanted o (yielded A b.tmps):=by
 unfold Region.wanted;cases hg:o.guard with
 | none=>rfl
 | some gw=>
  obtain⟨g,want⟩:=gw;have hy:yielded A a.tmps g=yielded A b.tmps g:=by
   unfold yielded;cases ht:(A[g]?).bind (·.dst) with
   | none=>rfl
   | some t=>
    have:a.tmps[t]?=b.tmps[t]?:=h t (by simp[Oper.looksAt,hg,ht])
    simp only[yA7,this]
  simp only[hy]
theorem OpTo.same {P a b w o R}(he:execOp a.eval o=execOp b.eval o) (h:OpTo P b w o R):OpTo P a w o R:=by
 cases h with
 | val v w' h hr=>exact .val v w' (by rw[he];exact h) hr
 | skip w' h hr=>exact .skip w' (by rw[he];exact h) hr
 | call f args h hc=>exact .call f args (by rw[he];exact h) hc
 | round l f tmps assign body h hc=>exact .round l f tmps assign body (by rw[he];exact h) hc
end Go.Vc

namespace Go.Vc
set_option autoImplicit false
set_option maxHeartbeats 1000000
section
variable {B:Base}{F:Entry->Prop}{N:Nat}{all:List Oper}{plan:List Nat}{r:Mem}{β:qBD}{Φ:Phi}{n:Nat}{w0:World}{p:Nat}{sig:Nat->Env}{frl:Nat->Frs}{gd:Nat->Option (Nat×Bool)}{sv:Nat->SV}{fr:Nat->SV×Phi}{aT:Act}
structure TR (all:List Oper) (plan:List Nat) (S:Nat->Prop) (aT a b:Act):Prop where
 defers:a.defers=b.defers
 size:a.tmps.size=b.tmps.size
 szT:b.tmps.size=aT.tmps.size
 dfT:b.defers=aT.defers
 slotT:∀ (i:Nat) (o:Oper) (d:Nat),plan[i]?=some 0->all[i]?=some o->o.dst=some d->S i->a.tmps[d]?=b.tmps[d]?
 slotN:∀ t,(∀ (i:Nat) (o:Oper),plan[i]?=some 0->all[i]?=some o->o.dst≠some t)->a.tmps[t]?=b.tmps[t]?
 base:∀ t,(∀ (i:Nat) (o:Oper),S i->plan[i]?≠some 0->all[i]?=some o->o.dst≠some t)->b.tmps[t]?=aT.tmps[t]?
structure PI (r:Mem) (β:qBD) (Φ:Phi) (w0:World) (all:List Oper) (plan:List Nat) (p:Nat) (gd:Nat->Option (Nat×Bool)) (sv:Nat->SV) (fr:Nat->SV×Phi) (S:Nat->Prop) (b:Act) (w:World) (r':Mem) (x:Nat->Value) (βf:Nat->qBD):Prop where
 le:r.le r'
 mem:MemSat r' β Φ w
 hid:Hid r β Φ w0 r' β Φ w
 lt:∀ (i:Nat),S i->plan[i]?≠some 0->i<p
 ent:∀ (i:Nat) (o:Oper) (d:Nat),S i->plan[i]?=some 1->all[i]?=some o->o.dst=some d->qH8 r' β b.tmps d (gd i) (sv i)
 frs:∀ (i:Nat) (o:Oper) (d:Nat),S i->plan[i]?=some 2->all[i]?=some o->o.dst=some d->b.tmps[d]?=some (x i)/\Rel r' (βf i) (fr i).1 (x i)/\MemSat r' (βf i) (fr i).2 w/\
  ∀ j ch bb,Phi.get (fr i).2 j=some ch->ch.hb (βf i j) bb->w0.heap.size<=bb
 dis:∀ (i i':Nat) j ch j' ch' bb,S i->S i'->plan[i]?=some 2->plan[i']?=some 2->i≠i'->Phi.get (fr i).2 j=some ch->ch.hb (βf i j) bb->Phi.get (fr i').2 j'=some ch'->¬ch'.hb (βf i' j') bb
def DI (B:Base) (F:Entry->Prop) (N:Nat) (r:Mem) (β:qBD) (Φ:Phi) (w0:World) (all:List Oper) (plan:List Nat) (p:Nat) (gd:Nat->Option (Nat×Bool)) (sv:Nat->SV) (fr:Nat->SV×Phi) (aT:Act) (K:Env->Phi->Nat->Prop) (S:Nat->Prop) (a:Act) (w:World):Prop:=
 ∃ b,TR all plan S aT a b/\((∃ r' x βf,PI r β Φ w0 all plan p gd sv fr S b w r' x βf)\/
  ∃ m,p<=m/\(∀ (i:Nat),i<all.length->plan[i]?≠some 0->(S i↔i<m))/\qGF B F N all m (qBR (plan.drop m) (all.drop m)) K b w)
theorem qLN {all:List Oper}{plan:List Nat}(hlen:plan.length=all.length):∀ (d m:Nat),m+d<=all.length->(∀ (i:Nat),m<=i->i<m+d->plan[i]?=some 0)->qBR (plan.drop m) (all.drop m)=qBR (plan.drop (m+d)) (all.drop (m+d)):=by
 intro d
 induction d with
 | zero=>intro m _ _;rfl
 | succ d ih=>
  intro m hm h;have h1:m<plan.length:=by omega
  have h2:m<all.length:=by omega
  have h0:=h m (yA3 m) (by omega)
  rw[yAQ h1] at h0;rw[yAM h1,yAM h2,Option.some.inj h0];have:=ih (m+1) (by omega) (fun i q1 q2=>h i (by omega) (by omega))
  rw[show m+(d+1)=m+1+d by omega, <-this]
  rfl
theorem qS4 {all:List Oper}{plan:List Nat}{k:Nat}{o:Oper}(ho:all[k]?=some o) (hp:plan[k]?=some 3):qBR (plan.drop k) (all.drop k)=o::qBR (plan.drop (k+1)) (all.drop (k+1)):=by
 have h1:=qAV ho;have h2:=qAV hp;rw[yAQ h1] at ho;rw[yAQ h2] at hp;rw[yAM h1,yAM h2,Option.some.inj hp,Option.some.inj ho];rfl
theorem qV6 {all:List Oper}{plan:List Nat}{m:Nat}(hlen:plan.length=all.length) (hm:m<=all.length) (h:∀ (i:Nat),m<=i->i<all.length->plan[i]?=some 0):qBR (plan.drop m) (all.drop m)=[]:=by
 rw[qLN hlen (all.length-m) m (by omega) (fun i q1 q2=>h i q1 (by omega))]
 rw[yAN (by omega),yAN (by omega)]
 rfl
theorem qWW (pf:PreFacts B all plan Φ 0 p sig frl gd sv fr) (h0:frl 0=[]) (hpl:∀ (i:Nat) (o:Oper),all[i]?=some o->PlanAt all plan i o) (hlen:plan.length=all.length):
  ∀ (i:Nat),i<=p->∀ {K:Env->Phi->Nat->Prop}{σp:Env},qiB (frl i) σp Φ n K->∃ σ1 Φ1 n1,K σ1 Φ1 n1/\(∀ D,qDX D σp->qDX D σ1)/\
   ∀ {S:Nat->Prop}{b:Act}{w:World}{r' x βf},PI r β Φ w0 all plan p gd sv fr S b w r' x βf->(∀ (j:Nat),j<p->plan[j]?≠some 0->S j)->Agree r' β σp b.tmps->
    (∀ id ch bb,Phi.get Φ id=some ch->ch.hb (β id) bb->bb<w0.heap.size)->
    ∃ β1,Agree r' β1 σ1 b.tmps/\MemSat r' β1 Φ1 w/\Keep β Φ β1 Φ1/\
     ∀ id ch bb,Phi.get Φ1 id=some ch->ch.hb (β1 id) bb->(∃ id' c,Phi.get Φ id'=some c/\c.hb (β id') bb)\/∃ i' j c,i'<i/\plan[i']?=some 2/\Phi.get (fr i').2 j=some c/\c.hb (βf i' j) bb:=by
 intro i
 induction i with
 | zero=>
  intro _ K σp h;rw[h0] at h;exact⟨σp, Φ,n,h,fun D hD=>hD,fun {S b w r' x βf} hPI hS ha hb=>⟨β,ha,hPI.mem,Keep.refl _ _,fun id ch bb q1 q2=>.inl ⟨id,ch,q1,q2⟩⟩⟩
 | succ i ih=>
  intro hi K σp h;have hil:i<all.length:=by have:=pf.pl;omega
  have ho:all[i]?=some all[i]:=yAQ hil;have same:frl (i+1)=frl i->∃ σ1 Φ1 n1,K σ1 Φ1 n1/\(∀ D,qDX D σp->qDX D σ1)/\
   ∀ {S:Nat->Prop}{b:Act}{w:World}{r' x βf},PI r β Φ w0 all plan p gd sv fr S b w r' x βf->(∀ (j:Nat),j<p->plan[j]?≠some 0->S j)->Agree r' β σp b.tmps->
    (∀ id ch bb,Phi.get Φ id=some ch->ch.hb (β id) bb->bb<w0.heap.size)->
    ∃ β1,Agree r' β1 σ1 b.tmps/\MemSat r' β1 Φ1 w/\Keep β Φ β1 Φ1/\
     ∀ id ch bb,Phi.get Φ1 id=some ch->ch.hb (β1 id) bb->(∃ id' c,Phi.get Φ id'=some c/\c.hb (β id') bb)\/∃ i' j c,i'<i+1/\plan[i']?=some 2/\Phi.get (fr i').2 j=some c/\c.hb (βf i' j) bb:=by
   intro he;rw[he] at h;obtain⟨σ1, Φ1,n1,hk,hD,hsem⟩:=ih (by omega) h
   refine⟨σ1, Φ1,n1,hk,hD,fun {S b w r' x βf} hPI hS ha hb=>?_⟩
   obtain⟨β1,g1,g2,g3,g4⟩:=hsem hPI hS ha hb;refine⟨β1,g1,g2,g3,fun id ch bb q1 q2=>?_⟩
   rcases g4 id ch bb q1 q2 with h|⟨i',j,c,a1,a2⟩
   ·exact .inl h
   ·exact .inr ⟨i',j,c,by omega,a2⟩
  cases hpl i _ ho with
  | t d hq=>exact same (pf.stepT i (by omega) (by omega) hq).2
  | q hq=>exact same (pf.step1 i _ (by omega) (by omega) hq ho).2.1
  | s hq=>exact absurd hq (pf.no3 i (by omega) (by omega))
  | f d hq _ _ hd=>
   obtain⟨_,he,_⟩:=pf.step2 i _ d (by omega) (by omega) hq ho hd
   rw[he] at h;have h:qiB (frl i) σp Φ n fun σ Φ n=>qMS [] (fr i).1 (fr i).2 σ Φ n fun sv σ Φ n=>K ((d,none,sv)::σ) Φ n:=h
   obtain⟨σ1, Φ1,n1,h,hD,hsem⟩:=ih (by omega) h
   obtain⟨res', Φ2,n2,hk,haft⟩:=qLO h;refine⟨_, Φ2,n2,hk,fun D h0 k s wv sv' hg=>?_,fun {S b w r' x βf} hPI hS ha hb=>?_⟩
   ·rw[qAX] at hg;cases hbq:Nat.beq d k with
    | true=>rw[hbq] at hg;simp at hg
    | false=>rw[hbq] at hg;exact hD D h0 k s wv sv' hg
   ·obtain⟨β1,g1,g2,g3,g4⟩:=hsem hPI hS ha hb;have hSi:S i:=hS i (by omega) (by rw[hq];simp)
    obtain⟨f1,f2,f3,f4⟩:=hPI.frs i _ d hSi hq ho hd;obtain⟨β2,q1,q2,q3,q4,q5⟩:=haft r' β1 (βf i) w (x i) g2 f3 (fun id ch j ch' bb a1 a2 a3 a4=>by
     rcases g4 id ch bb a1 a2 with⟨id',c,c1,c2⟩|⟨i',j',c,c0,c1,c2,c3⟩
     ·have:=hb id' c bb c1 c2;have:=f4 j ch' bb a3 a4;omega
     ·exact hPI.dis i' i j' c j ch' bb (hS i' (by omega) (by rw[c1];simp)) hSi c1 hq (by omega) c2 c3 a3 a4) f2
    refine⟨β2,fun k g sv' hg=>?_,q2,g3.trans q3,fun id ch bb a1 a2=>?_⟩
    ·rw[qAX] at hg;cases hbq:Nat.beq d k with
     | true=>
      obtain rfl:=qAM hbq;rw[hbq] at hg;simp only[cond_true,Option.some.injEq,Prod.mk.injEq] at hg;obtain⟨rfl,rfl⟩:=hg;exact⟨x i,f1,q1⟩
     | false=>
      rw[hbq] at hg;have hg:Env.get σ1 k=some (g,sv'):=hg;have:=g1 k g sv' hg;cases g with
      | none=>obtain⟨u,p1,p2⟩:=this;exact⟨u,p1,q4 k none sv' hg u p2⟩
      | some pr=>obtain⟨s',w''⟩:=pr;exact⟨fun hs=>by obtain⟨u,p1,p2⟩:=this.1 hs;exact⟨u,p1,q4 k _ sv' hg u p2⟩,this.2⟩
    ·rcases q5 id ch bb a1 a2 with⟨id',c,c1,c2⟩|⟨j,c,c1,c2⟩
     ·rcases g4 id' c bb c1 c2 with hh|⟨i',j',c',z0,z1,z2⟩
      ·exact .inl hh
      ·exact .inr ⟨i',j',c',by omega,z1,z2⟩
     ·exact .inr ⟨i,j,c,by omega,hq,c1,c2⟩
end
end Go.Vc

namespace Go.Vc
set_option autoImplicit false
set_option maxHeartbeats 2000000
theorem qH8.keep {r r' β t t' k g sv}(h:qH8 r β t k g sv) (hle:r.le r') (hk:t'[k]?=t[k]?) (hs:∀ s w,g=some (s,w)->t'[s]?=t[s]?):qH8 r' β t' k g sv:=by
 cases g with
 | none=>obtain⟨u,p1,p2⟩:=h;exact⟨u,by rw[hk];exact p1,p2.mono hle⟩
 | some p=>
  obtain⟨s,w⟩:=p;have:=hs s w rfl;simp only[qH8,hk,this] at h ⊢;exact⟨fun hq=>by obtain⟨u,p1,p2⟩:=h.1 hq;exact⟨u,p1,p2.mono hle⟩,h.2⟩
theorem qWL {B:Base}{F:Entry->Prop}{e:Entry}(hF:F e) {N:Nat}{all:List Oper}{plan:List Nat}{ro:Option Nat}{K:Env->Phi->Nat->Prop}{Q:Exit->Act->World->Prop}{id:Nat}(hY:YOk B F N) (ok:RegOk N all) (hlex:Region.lexB .any all.toArray=true) (hpk:qbW all plan=true)
    (hQ:∀ e r β σ Φ n a w,F e->K σ Φ n->Sat B e N r β σ Φ a w->Q .normal a w) {r β σ Φ n a0 w00}(h:qcX B all plan σ Φ n K) (s00:Sat B e N r β σ Φ a0 w00) (hng:qFL σ):
    (Code.region id all.toArray true).wpIn (fc ro) 0 B.P Q a0 w00:=by
  obtain⟨hlen,hpl⟩:=qXD hpk;have lx:LexOk .any all.toArray:=qMP hlex;have nosel:∀ (i:Nat) (o:Oper),all[i]?=some o->∀ cs b,o.op≠.select cs b:=by
    intro i o ho cs b;simp only[Region.lexB,yAI] at hlex;exact Region.noSelect_spec hlex.1 i o cs b (by simpa using ho)
  obtain⟨w0,hw0⟩:∃ w0:World,w0={ w00 with drawn:=w00.drawn+1 }:=⟨_,rfl⟩
  have hheap:w0.heap=w00.heap:=by rw[hw0]
  have s0:Sat B e N r β σ Φ a0 w0:=by
    refine s00.step s00.agree ⟨fun b o h=>by rw[hheap];exact s00.mem.vis b o h,fun id ch h=>(s00.mem.chs _ _ h).keep (Mem.le_refl r) (fun b _=>by rw[hheap]) (fun _ _ _ _ _ _ _ h=>h),s00.mem.sep,s00.mem.nod⟩ (Mem.le_refl r) ?_
    exact⟨by rw[hw0],by rw[hw0],by rw[hw0],by rw[hheap];exact yA3 _,fun b _ h1 h2=>⟨by rw[hheap],h1,h2⟩,fun _ ch h _=>⟨rfl,ch,h,rfl⟩⟩
  unfold qcX at h;obtain⟨σT,aT,h,hagT,hngT,hszT,hdfT,hTI,hbaseT⟩:=qNE (r:=r) (β:=β) ok hlen (fun i o h _=>hpl i o h) all 0 σ a0 (by simp) (by simp) (by simpa using h) s0.agree hng s0.size (fun i o d hi=>by omega)
  obtain⟨p,sig,frl,gd,sv,fr,pf,hsig0,hfrl0,h⟩:=qXL hlen hpl all 0 σT [] (by simp) (by simp) (by simpa using h)
  have sg:=ql1 pf ok hlen hpl;obtain⟨σ1, Φ1,n1,hk1,hD1,hown⟩:=qWW (n:=n) (w0:=w0) (r:=r) (β:=β) pf hfrl0 hpl hlen p (yA3 p) h;have hblt:∀ id ch bb,Phi.get Φ id=some ch->ch.hb (β id) bb->bb<w0.heap.size:=fun id ch bb h1 h2=>qE8 s0.mem h1 h2
  have nonTlt:∀ {i:Nat}{o:Oper},all[i]?=some o->(plan[i]?=some 1\/plan[i]?=some 2)->i<p:=by
    intro i o ho hp;rcases yA4 i p with h|h
    · exact h
    · rcases pf.rest i h (qAV ho) with h0|h0<;>rcases hp with hp|hp<;>rw[hp] at h0<;>cases h0
  have getA:∀ {i:Nat}{o:Oper},all.toArray[i]?=some o->all[i]?=some o:=fun h=>by simpa using h
  have conv : ∀ {S:Nat->Prop}{b:Act}{w:World}{r' x βf},PI r β Φ w0 all plan p gd sv fr S b w r' x βf->(∀ (j:Nat),j<p->plan[j]?≠some 0->S j)->
      (∀ (t:Nat),(∀ (i:Nat) (o:Oper),S i->plan[i]?≠some 0->all[i]?=some o->o.dst≠some t)->b.tmps[t]?=aT.tmps[t]?)->b.tmps.size=N->b.defers=a0.defers->
      qGF B F N all p (qBR (plan.drop p) (all.drop p)) K b w:=by
    intro S b w r' x βf hPI hall hbase hsz hdf;have hag:Agree r' β (sig p) b.tmps:=by
      intro t g sv' hg;by_cases hex:∃ (j:Nat) (oj:Oper),j<p/\plan[j]?≠some 0/\all[j]?=some oj/\oj.dst=some t
      · obtain⟨j,oj,hj,hnT,hoj,hdj⟩:=hex
        obtain⟨g1,g2⟩:=(sg p (yA3 p) t).1 j oj hj hoj hdj;have hSj:=hall j hj hnT;cases hpl j oj hoj with
        | t _ hq=>exact absurd hq hnT
        | q hq=>rw[g1 hq] at hg;cases hg;exact hPI.ent j oj t hSj hq hoj hdj
        | f _ hq=>rw[g2 hq] at hg;cases hg;exact⟨x j,(hPI.frs j oj t hSj hq hoj hdj).1,.und⟩
        | s hq=>exact absurd hq (pf.no3 j (by omega) hj)
      · have hno:∀ (j:Nat) (oj:Oper),j<p->plan[j]?≠some 0->all[j]?=some oj->oj.dst≠some t:=fun j oj h1 h2 h3 h4=>hex ⟨j,oj,h1,h2,h3,h4⟩
        rw[(sg p (yA3 p) t).2 hno,hsig0] at hg;have hb:=hbase t (fun i o h1 h2 h3=>hno i o (hPI.lt i h1 h2) h2 h3)
        exact(hagT t g sv' hg).keep hPI.le hb (fun s w hgs=>by have:=hngT t g sv' hg;rw[this] at hgs;cases hgs)
    have hgd:qDX (qL1 (all.take p)) (sig p):=by
      intro t s wv sv' hg;by_cases hex:∃ (j:Nat) (oj:Oper),j<p/\plan[j]?≠some 0/\all[j]?=some oj/\oj.dst=some t
      · obtain⟨j,oj,hj,hnT,hoj,hdj⟩:=hex
        obtain⟨g1,g2⟩:=(sg p (yA3 p) t).1 j oj hj hoj hdj;cases hpl j oj hoj with
        | t _ hq=>exact absurd hq hnT
        | q hq=>
          rw[g1 hq] at hg;obtain⟨_,_,hf⟩:=pf.step1 j oj (by omega) hj hq hoj
          rcases hf.gd with⟨_,h2⟩|⟨jg,wv',s',h1,h2,h3⟩
          · rw[h2] at hg;cases hg
          · rw[h3] at hg;cases hg
            exact qND (by omega) _ (ok.guardIn hoj h1 h2)
        | f _ hq=>rw[g2 hq] at hg;cases hg
        | s hq=>exact absurd hq (pf.no3 j (by omega) hj)
      · have hno:∀ (j:Nat) (oj:Oper),j<p->plan[j]?≠some 0->all[j]?=some oj->oj.dst≠some t:=fun j oj h1 h2 h3 h4=>hex ⟨j,oj,h1,h2,h3,h4⟩
        rw[(sg p (yA3 p) t).2 hno,hsig0] at hg;have:=hngT t _ sv' hg;cases this
    obtain⟨β1,q1,q2,q3,q4⟩:=hown hPI hall hag hblt;refine⟨e,r', β1, σ1, Φ1,n1,hF,hk1,?_,hD1 _ hgd⟩;have hid:Hid r β Φ w0 r' β1 Φ1 w:=by
      refine⟨hPI.hid.os,hPI.hid.tape,hPI.hid.output,hPI.hid.size,fun bb hb h1 h2=>?_,q3⟩
      obtain⟨a1,a2,a3⟩:=hPI.hid.block bb hb h1 h2;refine⟨a1,a2,fun id ch hg hc=>?_⟩
      rcases q4 id ch bb hg hc with⟨id',c,c1,c2⟩|⟨i',j,c,c0,c1,c2,c3⟩
      · exact a3 id' c c1 c2
      · obtain⟨oi,hoi⟩:∃ oi,all[i']?=some oi:=⟨_,yAQ (by have:=pf.pl;omega)⟩
        cases hpl i' oi hoi with
        | f d hq _ _ hd=>
          have:=(hPI.frs i' oi d (hall i' c0 (by rw[c1];simp)) hq hoi hd).2.2.2 j c bb c2 c3
          omega
        | t _ hq=>rw[c1] at hq;cases hq
        | q hq=>rw[c1] at hq;cases hq
        | s hq=>rw[c1] at hq;cases hq
    have hmk:Marks r' β1 Φ1 w e.lo b.defers:=by
      rw[hdf];exact s0.defers.step hid
    exact⟨q1,q2,B.mono _ _ hPI.le s0.G,s0.kept.step hPI.le hid,hmk,hsz⟩
  refine qDB (I:=DI B F N r β Φ w0 all plan p gd sv fr aT K) (ops:=all.toArray) lx B.mixed ?_ ?_ ?_
  · -- one operation
    intro S i o a w hSlt hcl ho hnS hdep hI;have ho:all[i]?=some o:=getA ho;have hil:=qAV ho;obtain⟨b,tr,hph⟩:=hI;have ahead:∀ (j:Nat) (oj:Oper) (t:Nat),all[j]?=some oj->oj.dst=some t->t∈o.looksAt all.toArray->(j<i->S j)/\(i<j->¬S j):=by
      intro j oj t hoj hdj hm;refine⟨fun hji=>?_,fun hij hSj=>?_⟩
      · rcases lx.apart j i oj o (by simpa using hoj) (by simpa using ho) hji with⟨ed,he,hb,heq⟩|hap
        · have:=hdep ed he hb;rw[heq] at this;exact this
        · exact absurd hm ((Oper.apart_spec hap).1 t hdj)
      · rcases lx.apart i j o oj (by simpa using ho) (by simpa using hoj) hij with⟨ed,he,hb,heq⟩|hap
        · have:=hcl j oj hSj (by simpa using hoj) ed he hb
          rw[heq] at this;exact hnS this
        · exact(Oper.apart_spec hap).2.2 t hdj hm
    have heq:∀ t∈o.looksAt all.toArray,a.tmps[t]?=b.tmps[t]?:=by
      intro t ht;by_cases hex:∃ (j:Nat) (oj:Oper),plan[j]?=some 0/\all[j]?=some oj/\oj.dst=some t
      · obtain⟨j,oj,hpj,hoj,hdj⟩:=hex
        obtain⟨h1,h2⟩:=ahead j oj t hoj hdj ht;refine tr.slotT j oj t hpj hoj hdj ?_;rcases yA5 j i with hji|hji|hji
        · exact h1 hji
        · subst hji
          rw[ho] at hoj;cases hoj;cases hpl j o ho with
          | t d _ _ _ hd hr=>
            rw[hd] at hdj;cases hdj;exact absurd ht (hr j o (yA3 j) ho)
          | q hq=>rw[hpj] at hq;cases hq
          | f _ hq=>rw[hpj] at hq;cases hq
          | s hq=>rw[hpj] at hq;cases hq
        · cases hpl j oj hoj with
          | t d _ _ _ hd hr=>
            rw[hd] at hdj;cases hdj;exact absurd ht (hr i o (by omega) ho)
          | q hq=>rw[hpj] at hq;cases hq
          | f _ hq=>rw[hpj] at hq;cases hq
          | s hq=>rw[hpj] at hq;cases hq
      · exact tr.slotN t fun j oj h1 h2 h3=>hex ⟨j,oj,h1,h2,h3⟩
    have hexec:execOp a.eval o=execOp b.eval o:=qDL (nosel i o ho) heq;have hwant:Region.wanted o (yielded all.toArray a.tmps)=Region.wanted o (yielded all.toArray b.tmps):=qF9 heq;have hszb:b.tmps.size=N->a.tmps.size=N:=fun h=>by rw[tr.size];exact h
    have hNlt:∀ d,o.dst=some d->d<N:=fun d hd=>ok.lt o (yA0 ho) d hd
    have tr_put:∀ (v:Value),plan[i]?≠some 0->TR all plan (fun j=>S j\/j=i) aT (a.put o.dst v) (b.put o.dst v):=by
      intro v hnT;have other:∀ {x:Act}{t:Nat},o.dst≠some t->(x.put o.dst v).tmps[t]?=x.tmps[t]?:=by
        intro x t hne;cases hd:o.dst with
        | none=>rfl
        | some d=>exact qFG (fun h=>hne (by rw[hd,h]))
      refine⟨by rw[put_defers,put_defers];exact tr.defers,by rw[qBK,qBK];exact tr.size,by rw[qBK];exact tr.szT,by rw[put_defers];exact tr.dfT,fun j oj d hpj hoj hdj hSj=>?_,fun t ht=>?_,fun t ht=>?_⟩
      · have hji:j≠i:=by rintro rfl;exact hnT hpj
        have hne:o.dst≠some d:=fun h=>hji (ok.uniq hoj ho hdj h)
        rw[other hne,other hne];exact tr.slotT j oj d hpj hoj hdj (hSj.resolve_right hji)
      · by_cases hd:o.dst=some t
        · have hl:∀ {x:Act},x.tmps.size=a.tmps.size->(x.put o.dst v).tmps[t]?=if t<a.tmps.size then some v else none:=by
            intro x hx;rw[hd,qHV];rw[yAG];simp[hx]
          rw[hl rfl,hl tr.size.symm]
        · rw[other hd,other hd];exact tr.slotN t ht
      · have hne:o.dst≠some t:=ht i o (.inr rfl) hnT ho
        rw[other hne];exact tr.base t fun j oj hj=>ht j oj (.inl hj)
    have nowhere:plan[i]?=some 1\/plan[i]?=some 2->∃ r' x βf,PI r β Φ w0 all plan p gd sv fr S b w r' x βf:=by
      intro hp12;rcases hph with h|⟨m,hpm,hiff,_⟩
      · exact h
      · have hip:=nonTlt ho hp12
        have hne:plan[i]?≠some 0:=by rcases hp12 with h|h<;>rw[h]<;>simp
        exact absurd ((hiff i hil hne).2 (by omega)) hnS
    have hsz0:b.tmps.size=N:=by rw[tr.szT,hszT]
    have hdf0:b.defers=a0.defers:=by rw[tr.dfT,hdfT]
    have qIP:∀ {x:Act}{d:Nat}{v:Value},x.tmps.size=N->o.dst=some d->(x.put o.dst v).tmps[d]?=some v:=by
      intro x d v hx hd;rw[hd];exact put_eq (by rw[hx];exact hNlt d hd)
    have other:∀ {x:Act}{t:Nat}{v:Value},o.dst≠some t->(x.put o.dst v).tmps[t]?=x.tmps[t]?:=by
      intro x t v hne;cases hd:o.dst with
      | none=>rfl
      | some d=>exact qFG (fun h=>hne (by rw[hd,h]))
    unfold wpOpIn;simp only[yAS,ho];have prf:∀ {r' x βf},PI r β Φ w0 all plan p gd sv fr S b w r' x βf->i<p->
        ∃ pr:Nat->Prop,(∀ t∈o.looksAt all.toArray,pr t)/\GdP pr (sig i)/\qLP pr r' β (sig i) b.tmps:=by
      intro r' x βf hPI hip;refine⟨fun t=>∀ (j:Nat) (oj:Oper),plan[j]?≠some 0->all[j]?=some oj->oj.dst=some t->(j<i->S j)/\(i<=j->¬S j),fun t ht j oj hnT hoj hdj=>?_,fun t s wv sv' hpt hg=>?_,fun t g sv' hpt hg=>?_⟩
      · obtain⟨h1,h2⟩:=ahead j oj t hoj hdj ht
        refine⟨h1,fun hij=>?_⟩
        rcases Nat.lt_or_eq_of_le hij with h|h
        · exact h2 h
        · rw[<-h];exact hnS
      · -- the guard's own slot
        intro jg' og hnT hog hdg;by_cases hex:∃ (j:Nat) (oj:Oper),j<i/\plan[j]?≠some 0/\all[j]?=some oj/\oj.dst=some t
        · obtain⟨j,oj,hj,hnTj,hoj,hdj⟩:=hex
          obtain⟨g1,g2⟩:=(sg i (by omega) t).1 j oj hj hoj hdj
          have hSj:=(hpt j oj hnTj hoj hdj).1 hj;cases hpl j oj hoj with
          | t _ hq=>exact absurd hq hnTj
          | q hq=>
            rw[g1 hq] at hg;obtain⟨_,_,hf⟩:=pf.step1 j oj (by omega) (by omega) hq hoj
            rcases hf.gd with⟨_,h2⟩|⟨jg,wv',s',h1,h2,h3⟩
            · rw[h2] at hg;cases hg
            · rw[h3] at hg;cases hg
              obtain⟨o',k1,k2⟩:=qCK h2;have hjj:=ok.uniq hog k1 hdg k2;subst hjj;have hlt:=ok.before j oj hoj _ _ h1;refine⟨fun _=>?_,fun h=>by omega⟩
              rcases lx.apart jg' j o' oj (by simpa using k1) (by simpa using hoj) hlt with⟨ed,he,hb,heq⟩|hap
              · have:=hcl j oj hSj (by simpa using hoj) ed he hb
                rw[heq] at this;exact this
              · exact absurd (qDW h1 h2) ((Oper.apart_spec hap).1 s k2)
          | f _ hq=>rw[g2 hq] at hg;cases hg
          | s hq=>exact absurd hq (pf.no3 j (by omega) (by omega))
        · have hno:∀ (j:Nat) (oj:Oper),j<i->plan[j]?≠some 0->all[j]?=some oj->oj.dst≠some t:=fun j oj h1 h2 h3 h4=>hex ⟨j,oj,h1,h2,h3,h4⟩
          rw[(sg i (by omega) t).2 hno,hsig0] at hg
          have:=hngT t _ sv' hg;cases this
      · by_cases hex:∃ (j:Nat) (oj:Oper),j<i/\plan[j]?≠some 0/\all[j]?=some oj/\oj.dst=some t
        · obtain⟨j,oj,hj,hnTj,hoj,hdj⟩:=hex
          obtain⟨g1,g2⟩:=(sg i (by omega) t).1 j oj hj hoj hdj
          have hSj:=(hpt j oj hnTj hoj hdj).1 hj;cases hpl j oj hoj with
          | t _ hq=>exact absurd hq hnTj
          | q hq=>rw[g1 hq] at hg;cases hg;exact hPI.ent j oj t hSj hq hoj hdj
          | f _ hq=>rw[g2 hq] at hg;cases hg;exact⟨x j,(hPI.frs j oj t hSj hq hoj hdj).1,.und⟩
          | s hq=>exact absurd hq (pf.no3 j (by omega) (by omega))
        · have hno:∀ (j:Nat) (oj:Oper),j<i->plan[j]?≠some 0->all[j]?=some oj->oj.dst≠some t:=fun j oj h1 h2 h3 h4=>hex ⟨j,oj,h1,h2,h3,h4⟩
          rw[(sg i (by omega) t).2 hno,hsig0] at hg
          have hb:=tr.base t (fun j oj h1 h2 h3 h4=>by
            rcases yA4 j i with hji|hji
            · exact hno j oj hji h2 h3 h4
            · exact(hpt j oj h2 h3 h4).2 hji h1)
          exact(hagT t g sv' hg).keep hPI.le hb (fun s w hgs=>by have:=hngT t g sv' hg;rw[this] at hgs;cases hgs)
    have stay:∀ {r' x βf r2 w'}(v:Value),PI r β Φ w0 all plan p gd sv fr S b w r' x βf->r'.le r2->MemSat r2 β Φ w'->Hid r' β Φ w r2 β Φ w'->
        (∀ (j:Nat) (oj:Oper) (d:Nat),S j->plan[j]?=some 1->all[j]?=some oj->oj.dst=some d->qH8 r2 β (b.put o.dst v).tmps d (gd j) (sv j))/\
        (∀ (j:Nat) (oj:Oper) (d:Nat),S j->plan[j]?=some 2->all[j]?=some oj->oj.dst=some d->(b.put o.dst v).tmps[d]?=some (x j)/\Rel r2 (βf j) (fr j).1 (x j)/\MemSat r2 (βf j) (fr j).2 w'/\
          ∀ k ch bb,Phi.get (fr j).2 k=some ch->ch.hb (βf j k) bb->w0.heap.size<=bb):=by
      intro r' x βf r2 w' v hPI hle m' hid;refine⟨fun j oj d hSj hpj hoj hdj=>?_,fun j oj d hSj hpj hoj hdj=>?_⟩
      · have hji:j≠i:=by rintro rfl;exact hnS hSj
        have hne:o.dst≠some d:=fun h=>hji (ok.uniq hoj ho hdj h)
        have hjp:=hPI.lt j hSj (by rw[hpj];simp)
        obtain⟨_,_,hf⟩:=pf.step1 j oj (by omega) hjp hpj hoj
        refine(hPI.ent j oj d hSj hpj hoj hdj).keep hle (other hne) fun s wv hgs=>other fun hos=>?_
        rcases hf.gd with⟨_,h2⟩|⟨jg,wv',s',h1,h2,h3⟩
        · rw[h2] at hgs;cases hgs
        · rw[h3] at hgs;cases hgs
          obtain⟨o',k1,k2⟩:=qCK h2;have hjj:=ok.uniq ho k1 hos k2;subst hjj;rw[ho] at k1;cases k1;have hlt:=ok.before j oj hoj _ _ h1;rcases lx.apart i j o oj (by simpa using ho) (by simpa using hoj) hlt with⟨ed,he,hb,heq⟩|hap
          · have:=hcl j oj hSj (by simpa using hoj) ed he hb
            rw[heq] at this;exact hnS this
          · exact absurd (qDW h1 h2) ((Oper.apart_spec hap).1 s hos)
      · have hji:j≠i:=by rintro rfl;exact hnS hSj
        have hne:o.dst≠some d:=fun h=>hji (ok.uniq hoj ho hdj h)
        obtain⟨f1,f2,f3,f4⟩:=hPI.frs j oj d hSj hpj hoj hdj;exact⟨by rw[other hne];exact f1,f2.mono hle,qkQ f3 hle m' hid (fun k ch bb h1 h2 id c h3 h4=>by
          have:=f4 k ch bb h1 h2;have:=hblt id c bb h3 h4;omega),f4⟩
    cases hpl i o ho with
    | t d hq hfl hg hd hr hw=>
      have hw1:Region.wanted o (yielded all.toArray a.tmps)=true:=by simp[Region.wanted,hg]
      rw[if_pos hw1];have hbT:∀ t∈o.looksAt all.toArray,b.tmps[t]?=aT.tmps[t]?:=by
        intro t ht;refine tr.base t fun j oj hSj hnT hoj hdj=>?_
        obtain⟨_,h2⟩:=ahead j oj t hoj hdj ht;rcases yA5 j i with hji|hji|hji
        · have hop:Operand.tmp t∈o.op.operands.toList:=by
            unfold Oper.looksAt at ht;rw[hg,yAL,yAY] at ht;obtain⟨y,hy,hyt⟩:=ht;cases y<;>simp at hyt;subst hyt;exact hy
          exact hw j oj t hji hnT hoj hdj hop
        · subst hji;exact hnS hSj
        · exact h2 hji hSj
      have hexT:execOp b.eval o=execOp aT.eval o:=qDL (nosel i o ho) hbT;obtain⟨v,hv,hrun⟩:=hTI i o d hil hq ho hd;refine(OpTo.val v w (R:=fun v' w'=>v'=v/\w'=w) (by rw[hexec,hexT];exact hrun w) ⟨rfl,rfl⟩).wpIn (qGX hfl) ?_
      rintro v' w' ⟨rfl,rfl⟩;have hnTd:∀ (j:Nat) (oj:Oper),plan[j]?≠some 0->all[j]?=some oj->oj.dst≠some d:=fun j oj h1 h2 h3=>by
        have:=ok.uniq h2 ho h3 hd;subst this;exact h1 hq
      refine⟨b,⟨by rw[put_defers];exact tr.defers,by rw[qBK];exact tr.size,tr.szT,tr.dfT,fun j oj d' hpj hoj hdj hSj=>?_,fun t ht=>?_,fun t ht=>?_⟩,?_⟩
      · by_cases hji:j=i
        · subst hji
          rw[ho] at hoj;cases hoj;rw[qIP (hszb hsz0) hdj];rw[hd] at hdj;cases hdj;rw[tr.base d (fun j oj _ h1 h2=>hnTd j oj h1 h2)]
          exact hv.symm
        · have hne:o.dst≠some d':=fun h=>hji (ok.uniq hoj ho hdj h)
          rw[other hne];exact tr.slotT j oj d' hpj hoj hdj (hSj.resolve_right hji)
      · rw[other (ht i o hq ho)];exact tr.slotN t ht
      · exact tr.base t fun j oj hj=>ht j oj (.inl hj)
      · have hS':∀ {j},plan[j]?≠some 0->(S j\/j=i)->S j:=fun h1 h2=>h2.resolve_right (by rintro rfl;exact h1 hq)
        rcases hph with⟨r',x, βf,hPI⟩|⟨m,h1,h2,h3⟩
        · refine .inl ⟨r',x, βf,hPI.le,hPI.mem,hPI.hid,fun j hj hn=>hPI.lt j (hS' hn hj) hn,fun j oj d' hj hp=>hPI.ent j oj d' (hS' (by rw[hp];simp) hj) hp,fun j oj d' hj hp=>hPI.frs j oj d' (hS' (by rw[hp];simp) hj) hp,
            fun j j' k ch k' ch' bb hj hj' hp hp'=>hPI.dis j j' k ch k' ch' bb (hS' (by rw[hp];simp) hj) (hS' (by rw[hp'];simp) hj') hp hp'⟩
        · exact .inr ⟨m,h1,fun j hj hn=>⟨fun hh=>(h2 j hj hn).1 (hS' hn hh),fun hh=>.inl ((h2 j hj hn).2 hh)⟩,h3⟩
    | q hq h3=>
      have hnT:plan[i]?≠some 0:=by rw[hq];simp
      obtain⟨r',x, βf,hPI⟩:=nowhere (.inl hq);have hip:=nonTlt ho (.inl hq);obtain⟨pr,hp1,hp2,hp3⟩:=prf hPI hip;obtain⟨_,_,hf⟩:=pf.step1 i o (by omega) hip hq ho
      have next:∀ {r2 w'}(v:Value),r'.le r2->MemSat r2 β Φ w'->Hid r' β Φ w r2 β Φ w'->(∀ d,o.dst=some d->qH8 r2 β (b.put o.dst v).tmps d (gd i) (sv i))->
          DI B F N r β Φ w0 all plan p gd sv fr aT K (fun j=>S j\/j=i) (a.put o.dst v) w':=by
        intro r2 w' v hle m' hid hent;obtain⟨k1,k2⟩:=stay v hPI hle m' hid;refine⟨_,tr_put v hnT,.inl ⟨r2,x, βf,Mem.le_trans hPI.le hle,m',hPI.hid.trans hid,fun j hj hn=>?_,fun j oj d hj hpj hoj hdj=>?_,fun j oj d hj hpj hoj hdj=>?_,fun j j' k ch k' ch' bb hj hj' hpj hpj'=>?_⟩⟩
        · rcases hj with hj|rfl
          · exact hPI.lt j hj hn
          · exact hip
        · rcases hj with hj|rfl
          · exact k1 j oj d hj hpj hoj hdj
          · rw[ho] at hoj;cases hoj;exact hent d hdj
        · rcases hj with hj|rfl
          · exact k2 j oj d hj hpj hoj hdj
          · rw[hq] at hpj;cases hpj
        · rcases hj with hj|rfl
          · rcases hj' with hj'|rfl
            · exact hPI.dis j j' k ch k' ch' bb hj hj' hpj hpj'
            · rw[hq] at hpj';cases hpj'
          · rw[hq] at hpj;cases hpj
      have hG:B.G r':=B.mono _ _ hPI.le s0.G;have hops:∀ x∈o.op.operands.toList,Has pr x:=fun x hx t hxt=>hp1 t (qQU (by subst hxt;simpa using hx))
      rcases hf.gd with⟨hg1,hg2⟩|⟨jg,wv,s,hg1,hg2,hg3⟩
      · have hw1:Region.wanted o (yielded all.toArray a.tmps)=true:=by simp[Region.wanted,hg1]
        rw[if_pos hw1];refine(OpTo.same hexec (hf.run pr r' β b w hops hp2 (fun s w' h=>by rw[hg2] at h;cases h) hp3 hG hPI.mem)).wpIn hf.nd ?_
        rintro v w' ⟨r2,hr,hle,m',hid⟩;refine next v hle m' hid fun d hd=>?_
        rw[hg2];exact⟨v,qIP hsz0 hd,hr⟩
      · have hps:pr s:=hp1 s (qDW hg1 hg2)
        have hsd:∀ d,o.dst=some d->o.dst≠some s:=by
          intro d hd hds;obtain⟨o',k1,k2⟩:=qCK hg2;have:=ok.uniq ho k1 hds k2;have:=ok.before i o ho _ _ hg1;omega
        rw[hwant,qC7 hg1];by_cases ht:b.tmps[s]?=some (.bool wv)
        · rw[if_pos ((qCN hg2 b.tmps wv).2 ht)]
          refine(OpTo.same hexec (hf.run pr r' β b w hops hp2 (fun s' w' h=>by rw[hg3] at h;cases h;exact⟨hps,ht⟩) hp3 hG hPI.mem)).wpIn hf.nd ?_
          rintro v w' ⟨r2,hr,hle,m',hid⟩;refine next v hle m' hid fun d hd=>?_
          rw[hg3];refine⟨fun _=>⟨v,qIP hsz0 hd,hr⟩,fun h=>?_⟩
          rw[other (hsd d hd)] at h;exact absurd ht h
        · rw[if_neg (fun hc=>ht ((qCN hg2 b.tmps wv).1 hc))]
          refine⟨fun _ _=>trivial,next undef (Mem.le_refl r') hPI.mem (Hid.refl ..) fun d hd=>?_⟩
          rw[hg3];refine⟨fun h=>?_,fun _=>qIP hsz0 hd⟩
          rw[other (hsd d hd)] at h;exact absurd h ht
    | f d hq h3 hg hd hr=>
      have hnT:plan[i]?≠some 0:=by rw[hq];simp
      obtain⟨r',x, βf,hPI⟩:=nowhere (.inr hq);have hip:=nonTlt ho (.inr hq);obtain⟨pr,hp1,hp2,hp3⟩:=prf hPI hip;obtain⟨_,_,hf⟩:=pf.step2 i o d (by omega) hip hq ho hd
      have hG:B.G r':=B.mono _ _ hPI.le s0.G;have hops:∀ x∈o.op.operands.toList,Has pr x:=fun x hx t hxt=>hp1 t (qQU (by subst hxt;simpa using hx))
      have hw1:Region.wanted o (yielded all.toArray a.tmps)=true:=by simp[Region.wanted,hg]
      rw[if_pos hw1];refine(OpTo.same hexec (hf.run pr r' β b w hops hp3 hG hPI.mem)).wpIn hf.nd ?_;rintro v w' ⟨r2, βn,hle,m',hid,hrel,mf,hnew⟩;obtain⟨k1,k2⟩:=stay v hPI hle m' hid;have hws:w0.heap.size<=w.heap.size:=hPI.hid.size;refine⟨_,tr_put v hnT,.inl ⟨r2,fun j=>if j=i then v else x j,fun j=>if j=i then βn else βf j,Mem.le_trans hPI.le hle,m',hPI.hid.trans hid,fun j hj hn=>?_,fun j oj d' hj hpj hoj hdj=>?_,fun j oj d' hj hpj hoj hdj=>?_,fun j j' k ch k' ch' bb hj hj' hpj hpj' hne q1 q2 q3 q4=>?_⟩⟩
      · rcases hj with hj|rfl
        · exact hPI.lt j hj hn
        · exact hip
      · rcases hj with hj|rfl
        · exact k1 j oj d' hj hpj hoj hdj
        · rw[hq] at hpj;cases hpj
      · rcases hj with hj|rfl
        · have hji:j≠i:=by rintro rfl;exact hnS hj
          simp only[hji,if_false];exact k2 j oj d' hj hpj hoj hdj
        · rw[ho] at hoj;cases hoj
          simp only[if_true];exact⟨qIP hsz0 hdj,hrel,mf,fun k ch bb a1 a2=>Nat.le_trans hws (hnew k ch bb a1 a2)⟩
      · have old:∀ {j k ch bb},S j->plan[j]?=some 2->Phi.get (fr j).2 k=some ch->ch.hb (βf j k) bb->bb<w.heap.size:=by
          intro j k ch bb hSj hpj a1 a2;obtain⟨oj,hoj⟩:∃ oj,all[j]?=some oj:=⟨_,yAQ (by have:=qAV hpj;omega)⟩
          cases hpl j oj hoj with
          | f d' _ _ _ hdj=>exact((hPI.frs j oj d' hSj hpj hoj hdj).2.2.1.chs _ _ a1).alive a2
          | t _ h'=>rw[hpj] at h';cases h'
          | q h'=>rw[hpj] at h';cases h'
          | s h'=>rw[hpj] at h';cases h'
        rcases hj with hj|rfl<;>rcases hj' with hj'|rfl
        · have h1:j≠i:=by rintro rfl;exact hnS hj
          have h2:j'≠i:=by rintro rfl;exact hnS hj'
          simp only[h1,h2,if_false] at q2 q4;exact hPI.dis j j' k ch k' ch' bb hj hj' hpj hpj' hne q1 q2 q3 q4
        · have h1:j≠j':=hne
          simp only[h1,if_false,if_true] at q2 q4;have:=old hj hpj q1 q2;have:=hnew k' ch' bb q3 q4;omega
        · have h2:j'≠j:=fun h=>hne h.symm
          simp only[h2,if_false,if_true] at q2 q4;have:=old hj' hpj' q3 q4;have:=hnew k ch bb q1 q2;omega
        · exact hne rfl
    | s hq hc=>
      have hnT:plan[i]?≠some 0:=by rw[hq];simp
      have hallb:∀ (j:Nat),j<i->plan[j]?≠some 0->S j:=by
        intro j hj hn;have:=hc (fun y=>y=i\/S y) (fun y oy hy hoy ed he hb=>by
          rcases hy with rfl|hy
          · rw[ho] at hoy;cases hoy;exact .inr (hdep ed he hb)
          · exact .inr (hcl y oy hy (by simpa using hoy) ed he hb)) (.inl rfl) j hj hn
        rcases this with h|h
        · omega
        · exact h
      have hpi:p<=i:=by
        rcases yA4 i p with h|h
        · exact absurd hq (pf.no3 i (by omega) h)
        · exact h
      have hseq:∃ m,m<=i/\(∀ (j:Nat),j<all.length->plan[j]?≠some 0->(S j->j<m))/\qGF B F N all m (qBR (plan.drop m) (all.drop m)) K b w:=by
        rcases hph with⟨r',x, βf,hPI⟩|⟨m,h1,h2,h3⟩
        · exact⟨p,hpi,fun j _ hn hS=>hPI.lt j hS hn,conv hPI (fun j hj hn=>hallb j (by omega) hn) tr.base hsz0 hdf0⟩
        · refine⟨m,?_,fun j hj hn hS=>(h2 j hj hn).1 hS,h3⟩
          rcases yA4 i m with h|h
          · exact absurd ((h2 i hil hnT).2 h) hnS
          · exact h
      obtain⟨m,hmi,hSm,hseq⟩:=hseq;have hskip:qBR (plan.drop m) (all.drop m)=o::qBR (plan.drop (i+1)) (all.drop (i+1)):=by
        have:=qLN hlen (i-m) m (by omega) (fun j q1 q2=>by
          by_cases hn:plan[j]?=some 0
          · exact hn
          · have:=hSm j (by omega) hn (hallb j (by omega) hn)
            omega)
        rw[show m+(i-m)=i by omega] at this
        rw[this,qS4 ho hq]
      rw[hskip] at hseq;have hseq':qGF B F N all i (o::qBR (plan.drop (i+1)) (all.drop (i+1))) K b w:=by
        obtain⟨e1,r1, β1, σ1, Φ1,n1,g0,g1,g2,g3⟩:=hseq;exact⟨e1,r1, β1, σ1, Φ1,n1,g0,g1,g2,g3.mono (qND hmi)⟩
      obtain⟨hnd,hop1,hop2⟩:=qT6 hY ok ho hseq';have next:∀ {v w'},qGF B F N all (i+1) (qBR (plan.drop (i+1)) (all.drop (i+1))) K (b.put o.dst v) w'->DI B F N r β Φ w0 all plan p gd sv fr aT K (fun j=>S j\/j=i) (a.put o.dst v) w':=by
        intro v w' h;refine⟨_,tr_put v hnT,.inr ⟨i+1,by omega,fun j hj hn=>⟨fun hS=>?_,fun hlt=>?_⟩,h⟩⟩
        · rcases hS with hS|rfl
          · have:=hSm j hj hn hS;omega
          · omega
        · by_cases hji:j=i
          · exact .inr hji
          · exact .inl (hallb j (by omega) hn)
      cases hw:Region.wanted o (yielded all.toArray b.tmps) with
      | true=>
        rw[hwant,hw,if_pos rfl];exact(OpTo.same hexec (hop1 hw)).wpIn hnd fun v w' h=>next h
      | false=>
        rw[hwant,hw,if_neg (by simp)]
        exact⟨fun _ _=>trivial,next (hop2 hw)⟩
  · -- the end
    intro S a w hall hI;obtain⟨b,tr,hph⟩:=hI;have hall':∀ (i:Nat),i<all.length->S i:=fun i hi=>hall i (by simpa using hi)
    have hab:a=b:=by
      have ht:a.tmps=b.tmps:=by
        apply yAA;intro t;by_cases hex:∃ (j:Nat) (oj:Oper),plan[j]?=some 0/\all[j]?=some oj/\oj.dst=some t
        · obtain⟨j,oj,h1,h2,h3⟩:=hex
          exact tr.slotT j oj t h1 h2 h3 (hall' j (qAV h2))
        · exact tr.slotN t fun j oj h1 h2 h3=>hex ⟨j,oj,h1,h2,h3⟩
      cases a;cases b;have hd:=tr.defers;simp only at ht hd;subst ht;subst hd;rfl
    subst hab;have fin:∀ {m},m<=all.length->(∀ (i:Nat),m<=i->i<all.length->plan[i]?=some 0)->qGF B F N all m (qBR (plan.drop m) (all.drop m)) K a w->Q .normal a w:=by
      intro m hm h0 h;rw[qV6 hlen hm h0] at h;obtain⟨e1,r1, β1, σ1, Φ1,n1,g0,g1,g2,g3⟩:=h;exact hQ _ _ _ _ _ _ _ _ g0 g1 g2
    rcases hph with⟨r',x, βf,hPI⟩|⟨m,h1,h2,h3⟩
    · refine fin pf.pl (fun i hi hil=>?_) (conv hPI (fun j hj hn=>hall' j (by have:=pf.pl;omega)) tr.base (by rw[tr.szT,hszT]) (by rw[tr.dfT,hdfT]))
      by_cases hn:plan[i]?=some 0
      · exact hn
      · have:=hPI.lt i (hall' i hil) hn;omega
    · rcases yA4 all.length m with hm|hm
      · -- beyond the end
        have e1:qBR (plan.drop m) (all.drop m)=[]:=by
          rw[yAN (by omega),yAN (by omega)];rfl
        rw[e1] at h3;obtain⟨e1,r1, β1, σ1, Φ1,n1,g0,g1,g2,g3⟩:=h3;exact hQ _ _ _ _ _ _ _ _ g0 g1 g2
      · refine fin hm (fun i hi hil=>?_) h3
        by_cases hn:plan[i]?=some 0
        · exact hn
        · have:=(h2 i hil hn).1 (hall' i hil);omega
  · -- the beginning
    intro S hS;have hw:({ w00 with drawn:=w00.drawn+1 }:World)=w0:=hw0.symm
    rw[hw];refine⟨aT,⟨hdfT.symm,by rw[hszT,s0.size],rfl,rfl,fun i o d _ _ _ h=>absurd h (hS i),fun t ht=>?_,fun t _=>rfl⟩,.inl ⟨r,fun _=>undef,fun _=>β0,Mem.le_refl r,s0.mem,Hid.refl ..,fun i h=>absurd h (hS i),fun i o d h=>absurd h (hS i),fun i o d h=>absurd h (hS i),fun i i' j ch j' ch' bb h=>absurd h (hS i)⟩⟩
    exact((hbaseT t fun j oj _ h1 h2=>ht j oj h1 h2).1).symm
end Go.Vc

namespace Go.Vc
set_option autoImplicit false
theorem qaX {all:List Oper}{plan:List Nat}(h:qhE all plan=true):plan.length=all.length/\(∀ (i:Nat) (o:Oper),all[i]?=some o->plan[i]?=some 0->PlanAt all plan i o)/\
    ∀ (i:Nat),i<all.length->plan[i]?=some 0\/plan[i]?=some 4:=by
  have key:∀ (ps:List Nat) (ops:List Oper) (k:Nat),qJD all plan k ps ops=true->ps.length=ops.length/\∀ (i:Nat) (o:Oper) (p:Nat),ops[i]?=some o->ps[i]?=some p->
      (match p with
       | 0=>floats o.op&&((match o.guard with|none=>true|some _=>false)&&((match o.dst with|some d=>qBO all.toArray d (all.take (k+i+1))|none=>false)&&qBN (qC0 o.op.operands.toList) (plan.take (k+i)) (all.take (k+i))))
       | 4=>true
       | _=>false)=true:=by
    intro ps
    induction ps with
    | nil=>
      intro ops k h;cases ops with
      | nil=>exact⟨rfl,fun i o p h=>by simp at h⟩
      | cons=>cases h
    | cons p0 ps ih=>
      intro ops k h;cases ops with
      | nil=>cases h
      | cons o0 ops=>
        simp only[qJD,yAI] at h;obtain⟨h1,h2⟩:=h;obtain⟨g1,g2⟩:=ih ops (k+1) h2;refine⟨by simp[g1],fun i o p ho hp=>?_⟩
        cases i with
        | zero=>simp at ho hp;subst ho;subst hp;exact h1
        | succ i=>
          have:=g2 i o p (by simpa using ho) (by simpa using hp)
          rw[show k+(i+1)=k+1+i by omega];exact this
  obtain⟨hl,hk⟩:=key plan all 0 h;refine⟨hl,fun i o ho hp=>?_,fun i hi=>?_⟩
  · have:=hk i o _ ho hp
    simp only[yA6,yAI] at this;obtain⟨h1,h2,h3,h4⟩:=this;cases hd:o.dst with
    | none=>rw[hd] at h3;cases h3
    | some d=>
      rw[hd] at h3;refine .t d hp h1 ?_ hd (fun j oj hj hoj=>?_) (fun j oj d' hj hpj hoj hdj hm=>?_)
      · cases hg:o.guard with
        | none=>rfl
        | some _=>rw[hg] at h2;cases h2
      · exact qB4 h3 oj (yA0 (i:=j) (by rw[yAR,if_pos (by omega)];exact hoj))
      · have hjl:j<plan.length:=by have:=qAV hp;omega
        refine hpj ?_;have:=qCD h4 j plan[j] oj d' (by rw[yAR,if_pos hj];exact yAQ hjl) (by rw[yAR,if_pos hj];exact hoj) hdj (qEO.2 hm)
        rw[yAQ hjl,this]
  · have hi':i<plan.length:=by omega
    have hp:plan[i]?=some plan[i]:=yAQ hi';have:=hk i all[i] _ (yAQ hi) hp;split at this
    · rename_i he;rw[hp,he];exact .inl rfl
    · rename_i he;rw[hp,he];exact .inr rfl
    · cases this
theorem qRZ {i:Nat}{l:List Nat}{j:Nat}:j∈qRH i l↔j∈l/\j≠i:=by
 induction l with
 | nil=>simp[qRH]
 | cons x r ih=>
  unfold qRH;cases hb:Nat.beq x i with
  | true=>
   obtain rfl:=qAM hb;simp only[cond_true,ih,yAX];constructor
   ·rintro⟨h1,h2⟩;exact⟨.inr h1,h2⟩
   ·rintro⟨h1|h1,h2⟩
    ·exact absurd h1 h2
    ·exact⟨h1,h2⟩
  | false=>
   have hx:x≠i:=fun h=>by rw[h,yA2] at hb;cases hb
   simp only[cond_false,yAX,ih];constructor
   ·rintro(rfl|⟨h1,h2⟩)
    ·exact⟨.inl rfl,hx⟩
    ·exact⟨.inr h1,h2⟩
   ·rintro⟨rfl|h1,h2⟩
    ·exact .inl rfl
    ·exact .inr ⟨h1,h2⟩
theorem qJY {clo:List Nat}{i:Nat}:∀ {l:List Nat},(∀ j∈l,j≠i->j∉clo)->qX4 clo i l=true:=by
 intro l
 induction l with
 | nil=>intro _;rfl
 | cons x r ih=>
  intro h;simp only[qX4,yAI,yAK,yAJ];refine⟨?_,ih fun j hj=>h j (by simp[hj])⟩
  by_cases hx:x=i
  ·subst hx;exact .inl (yA2 x)
  ·refine .inr ?_;cases hm:qD8 x clo with
   | false=>rfl
   | true=>exact absurd (qB6.1 hm) (h x (by simp) hx)
theorem qQO {rem:List Nat}{rdy:Nat->Bool}{D:Nat->Prop}:∀ {l:List Nat},qg6 rem rdy D l->∀ i∈l,rdy i=true->D i:=by
 intro l
 induction l with
 | nil=>intro _ i hi;cases hi
 | cons x r ih=>
  intro h i hi hr;cases hi with
  | head=>have:=h.1;rw[hr] at this;exact this
  | tail _ hi=>exact ih h.2 i hi hr
theorem qT7 {plan:List Nat}:∀ {k i:Nat},i∈qN8 k plan↔∃ j,i=k+j/\plan[j]?=some 4:=by
 induction plan with
 | nil=>intro k i;simp[qN8]
 | cons p r ih=>
  intro k i;have step:i∈qN8 (Nat.succ k) r↔∃ j,i=k+(j+1)/\(p::r)[j+1]?=some 4:=by
   rw[ih];constructor
   ·rintro⟨j,h1,h2⟩;exact⟨j,by omega,by simpa using h2⟩
   ·rintro⟨j,h1,h2⟩;exact⟨j,by omega,by simpa using h2⟩
  unfold qN8;cases hb:Nat.beq p 4 with
  | true=>
   obtain rfl:=qAM hb;simp only[cond_true,yAX,step];constructor
   ·rintro(rfl|⟨j,h1,h2⟩)
    ·exact⟨0,by omega,by simp⟩
    ·exact⟨j+1,h1,h2⟩
   ·rintro⟨j,h1,h2⟩;cases j with
    | zero=>exact .inl (by omega)
    | succ j=>exact .inr ⟨j,h1,h2⟩
  | false=>
   simp only[cond_false,step];constructor
   ·rintro⟨j,h1,h2⟩;exact⟨j+1,h1,h2⟩
   ·rintro⟨j,h1,h2⟩;cases j with
    | zero=>simp at h2;subst h2;simp at hb
    | succ j=>exact⟨j,h1,h2⟩
theorem qbN {all:List Oper}{tab:List Nat}(h:qR5 all tab=true) {i j:Nat}(hj:j<64) (hm:qD8 (Nat.add (Nat.mul i 64) j) tab=true):qD8 j (qJP all (all.length*all.length+all.length+2) [i] [])=true:=by
 induction tab with
 | nil=>cases hm
 | cons c r ih=>
  simp only[qR5,yAI] at h;simp only[qD8,yAK] at hm;rcases hm with hm|hm
  ·have hc:=qAM hm;have e1:c%64=j:=by rw[hc];show(i*64+j)%64=j;omega
   have e2:c/64=i:=by rw[hc];show(i*64+j)/64=i;omega
   rw[<-e1, <-e2];exact h.1
  ·exact ih h.2 hm
theorem qT3 {all:List Oper}{tab rem:List Nat}{i:Nat}(ht:qR5 all tab=true) (h64:∀ j∈rem,j<64) (h:∀ j∈rem,j≠i->j∉qJP all (all.length*all.length+all.length+2) [i] []):qNC all tab rem i=true:=by
 have hT:qQA tab i rem=true:=by
  induction rem with
  | nil=>rfl
  | cons x r ih=>
   simp only[qQA,yAI,yAK,yAJ];refine⟨?_,ih (fun j hj=>h64 j (by simp[hj])) (fun j hj=>h j (by simp[hj]))⟩
   by_cases hx:x=i
   ·subst hx;exact .inl (yA2 x)
   ·refine .inr ?_;cases hm:qD8 (Nat.add (Nat.mul i 64) x) tab with
    | false=>rfl
    | true=>exact absurd (qB6.1 (qbN ht (h64 x (by simp)) hm)) (h x (by simp) hx)
 unfold qNC;split
 ·exact qJY h
 ·exact hT
def DE (B:Base) (F:Entry->Prop) (N:Nat) (all:List Oper) (plan tab:List Nat) (aT:Act) (K:Env->Phi->Nat->Prop) (S:Nat->Prop) (a:Act) (w:World):Prop:=
 ∃ b,TR all plan S aT a b/\∃ (rem:List Nat) (f:Nat) (e:Entry) (r:Mem) (β:qBD) (σ:Env) (Φ:Phi) (n:Nat) (D:List Nat),
  (∀ i,i∈rem↔plan[i]?=some 4/\¬S i)/\(∀ d∈D,∃ (j:Nat) (oj:Oper),S j/\all[j]?=some oj/\oj.dst=some d)/\(∀ (j:Nat) (oj:Oper) d,S j->all[j]?=some oj->oj.dst=some d->d∈D)/\
  F e/\vcE B all tab K f rem σ Φ n/\Sat B e N r β σ Φ b w/\qDX D σ
theorem qXC {B:Base}{F:Entry->Prop}{e:Entry}(hF:F e) {N:Nat}{all:List Oper}{plan tab:List Nat}{ro:Option Nat}{K:Env->Phi->Nat->Prop}{Q:Exit->Act->World->Prop}{id:Nat}(hY:YOk B F N) (ok:RegOk N all) (hlex:Region.lexB .any all.toArray=true) (hpk:qhE all plan=true) (htab:qR5 all tab=true) (h64:tab=[]\/all.length<=64)
    (hQ:∀ e r β σ Φ n a w,F e->K σ Φ n->Sat B e N r β σ Φ a w->Q .normal a w) {r β σ Φ n a0 w00}(h:qXN B all plan tab σ Φ n K) (s00:Sat B e N r β σ Φ a0 w00) (hng:qFL σ):
    (Code.region id all.toArray true).wpIn (fc ro) 0 B.P Q a0 w00:=by
  obtain⟨hlen,hpl,h04⟩:=qaX hpk;have lx:LexOk .any all.toArray:=qMP hlex;have nosel:∀ (i:Nat) (o:Oper),all[i]?=some o->∀ cs b,o.op≠.select cs b:=by
    intro i o ho cs b;simp only[Region.lexB,yAI] at hlex;exact Region.noSelect_spec hlex.1 i o cs b (by simpa using ho)
  obtain⟨w0,hw0⟩:∃ w0:World,w0={ w00 with drawn:=w00.drawn+1 }:=⟨_,rfl⟩
  have hheap:w0.heap=w00.heap:=by rw[hw0]
  have s0:Sat B e N r β σ Φ a0 w0:=by
    refine s00.step s00.agree ⟨fun b o h=>by rw[hheap];exact s00.mem.vis b o h,fun id ch h=>(s00.mem.chs _ _ h).keep (Mem.le_refl r) (fun b _=>by rw[hheap]) (fun _ _ _ _ _ _ _ h=>h),s00.mem.sep,s00.mem.nod⟩ (Mem.le_refl r) ?_
    exact⟨by rw[hw0],by rw[hw0],by rw[hw0],by rw[hheap];exact yA3 _,fun b _ h1 h2=>⟨by rw[hheap],h1,h2⟩,fun _ ch h _=>⟨rfl,ch,h,rfl⟩⟩
  unfold qXN at h;obtain⟨σT,aT,h,hagT,hngT,hszT,hdfT,hTI,hbaseT⟩:=qNE (r:=r) (β:=β) ok hlen hpl all 0 σ a0 (by simp) (by simp) (by simpa using h) s0.agree hng s0.size (fun i o d hi=>by omega)
  have getA:∀ {i:Nat}{o:Oper},all.toArray[i]?=some o->all[i]?=some o:=fun h=>by simpa using h
  refine qDB (I:=DE B F N all plan tab aT K) (ops:=all.toArray) lx B.mixed ?_ ?_ ?_
  · -- one operation
    intro S i o a w hSlt hcl ho hnS hdep hI;have ho:all[i]?=some o:=getA ho;have hil:=qAV ho;obtain⟨b,tr,hph⟩:=hI;have ahead:∀ (j:Nat) (oj:Oper) (t:Nat),all[j]?=some oj->oj.dst=some t->t∈o.looksAt all.toArray->(j<i->S j)/\(i<j->¬S j):=by
      intro j oj t hoj hdj hm;refine⟨fun hji=>?_,fun hij hSj=>?_⟩
      · rcases lx.apart j i oj o (by simpa using hoj) (by simpa using ho) hji with⟨ed,he,hb,heq⟩|hap
        · have:=hdep ed he hb;rw[heq] at this;exact this
        · exact absurd hm ((Oper.apart_spec hap).1 t hdj)
      · rcases lx.apart i j o oj (by simpa using ho) (by simpa using hoj) hij with⟨ed,he,hb,heq⟩|hap
        · have:=hcl j oj hSj (by simpa using hoj) ed he hb
          rw[heq] at this;exact hnS this
        · exact(Oper.apart_spec hap).2.2 t hdj hm
    have heq:∀ t∈o.looksAt all.toArray,a.tmps[t]?=b.tmps[t]?:=by
      intro t ht;by_cases hex:∃ (j:Nat) (oj:Oper),plan[j]?=some 0/\all[j]?=some oj/\oj.dst=some t
      · obtain⟨j,oj,hpj,hoj,hdj⟩:=hex
        obtain⟨h1,h2⟩:=ahead j oj t hoj hdj ht;refine tr.slotT j oj t hpj hoj hdj ?_;rcases yA5 j i with hji|hji|hji
        · exact h1 hji
        · subst hji
          rw[ho] at hoj;cases hoj;cases hpl j o ho hpj with
          | t d _ _ _ hd hr=>
            rw[hd] at hdj;cases hdj;exact absurd ht (hr j o (yA3 j) ho)
          | q hq=>rw[hpj] at hq;cases hq
          | f _ hq=>rw[hpj] at hq;cases hq
          | s hq=>rw[hpj] at hq;cases hq
        · cases hpl j oj hoj hpj with
          | t d _ _ _ hd hr=>
            rw[hd] at hdj;cases hdj;exact absurd ht (hr i o (by omega) ho)
          | q hq=>rw[hpj] at hq;cases hq
          | f _ hq=>rw[hpj] at hq;cases hq
          | s hq=>rw[hpj] at hq;cases hq
      · exact tr.slotN t fun j oj h1 h2 h3=>hex ⟨j,oj,h1,h2,h3⟩
    have hexec:execOp a.eval o=execOp b.eval o:=qDL (nosel i o ho) heq;have hwant:Region.wanted o (yielded all.toArray a.tmps)=Region.wanted o (yielded all.toArray b.tmps):=qF9 heq;have hszb:b.tmps.size=N->a.tmps.size=N:=fun h=>by rw[tr.size];exact h
    have hNlt:∀ d,o.dst=some d->d<N:=fun d hd=>ok.lt o (yA0 ho) d hd
    have tr_put:∀ (v:Value),plan[i]?≠some 0->TR all plan (fun j=>S j\/j=i) aT (a.put o.dst v) (b.put o.dst v):=by
      intro v hnT;have other:∀ {x:Act}{t:Nat},o.dst≠some t->(x.put o.dst v).tmps[t]?=x.tmps[t]?:=by
        intro x t hne;cases hd:o.dst with
        | none=>rfl
        | some d=>exact qFG (fun h=>hne (by rw[hd,h]))
      refine⟨by rw[put_defers,put_defers];exact tr.defers,by rw[qBK,qBK];exact tr.size,by rw[qBK];exact tr.szT,by rw[put_defers];exact tr.dfT,fun j oj d hpj hoj hdj hSj=>?_,fun t ht=>?_,fun t ht=>?_⟩
      · have hji:j≠i:=by rintro rfl;exact hnT hpj
        have hne:o.dst≠some d:=fun h=>hji (ok.uniq hoj ho hdj h)
        rw[other hne,other hne];exact tr.slotT j oj d hpj hoj hdj (hSj.resolve_right hji)
      · by_cases hd:o.dst=some t
        · have hl:∀ {x:Act},x.tmps.size=a.tmps.size->(x.put o.dst v).tmps[t]?=if t<a.tmps.size then some v else none:=by
            intro x hx;rw[hd,qHV];rw[yAG];simp[hx]
          rw[hl rfl,hl tr.size.symm]
        · rw[other hd,other hd];exact tr.slotN t ht
      · have hne:o.dst≠some t:=ht i o (.inr rfl) hnT ho
        rw[other hne];exact tr.base t fun j oj hj=>ht j oj (.inl hj)
    have hsz0:b.tmps.size=N:=by rw[tr.szT,hszT]
    have qIP:∀ {x:Act}{d:Nat}{v:Value},x.tmps.size=N->o.dst=some d->(x.put o.dst v).tmps[d]?=some v:=by
      intro x d v hx hd;rw[hd];exact put_eq (by rw[hx];exact hNlt d hd)
    have other:∀ {x:Act}{t:Nat}{v:Value},o.dst≠some t->(x.put o.dst v).tmps[t]?=x.tmps[t]?:=by
      intro x t v hne;cases hd:o.dst with
      | none=>rfl
      | some d=>exact qFG (fun h=>hne (by rw[hd,h]))
    unfold wpOpIn;simp only[yAS,ho];obtain⟨rem,f,e1,r1, β1, σ1, Φ1,n1,D,hrem,hDs,hDa,hF1,hv1,s1,hgd1⟩:=hph;rcases h04 i hil with hq|hq
    · -- it touches no memory
      cases hpl i o ho hq with
      | q hq'=>rw[hq] at hq';cases hq'
      | f _ hq'=>rw[hq] at hq';cases hq'
      | s hq'=>rw[hq] at hq';cases hq'
      | t d hq hfl hg hd hr hw=>
        have hw1:Region.wanted o (yielded all.toArray a.tmps)=true:=by simp[Region.wanted,hg]
        rw[if_pos hw1];have hbT:∀ t∈o.looksAt all.toArray,b.tmps[t]?=aT.tmps[t]?:=by
          intro t ht;refine tr.base t fun j oj hSj hnT hoj hdj=>?_
          obtain⟨_,h2⟩:=ahead j oj t hoj hdj ht;rcases yA5 j i with hji|hji|hji
          · have hop:Operand.tmp t∈o.op.operands.toList:=by
              unfold Oper.looksAt at ht;rw[hg,yAL,yAY] at ht;obtain⟨y,hy,hyt⟩:=ht;cases y<;>simp at hyt;subst hyt;exact hy
            exact hw j oj t hji hnT hoj hdj hop
          · subst hji;exact hnS hSj
          · exact h2 hji hSj
        have hexT:execOp b.eval o=execOp aT.eval o:=qDL (nosel i o ho) hbT;obtain⟨v,hv,hrun⟩:=hTI i o d hil hq ho hd;refine(OpTo.val v w (R:=fun v' w'=>v'=v/\w'=w) (by rw[hexec,hexT];exact hrun w) ⟨rfl,rfl⟩).wpIn (qGX hfl) ?_
        rintro v' w' ⟨rfl,rfl⟩;have hnTd:∀ (j:Nat) (oj:Oper),plan[j]?≠some 0->all[j]?=some oj->oj.dst≠some d:=fun j oj h1 h2 h3=>by
          have:=ok.uniq h2 ho h3 hd;subst this;exact h1 hq
        refine⟨b,⟨by rw[put_defers];exact tr.defers,by rw[qBK];exact tr.size,tr.szT,tr.dfT,fun j oj d' hpj hoj hdj hSj=>?_,fun t ht=>?_,fun t ht=>?_⟩,rem,f,e1,r1, β1, σ1, Φ1,n1,d::D,fun j=>?_,fun d' hd'=>?_,fun j oj d' hSj hoj hdj=>?_,hF1,hv1,s1,hgd1.mono (fun x hx=>List.mem_cons_of_mem _ hx)⟩
        · by_cases hji:j=i
          · subst hji
            rw[ho] at hoj;cases hoj;rw[qIP (hszb hsz0) hdj];rw[hd] at hdj;cases hdj;rw[tr.base d (fun j oj _ h1 h2=>hnTd j oj h1 h2)]
            exact hv.symm
          · have hne:o.dst≠some d':=fun h=>hji (ok.uniq hoj ho hdj h)
            rw[other hne];exact tr.slotT j oj d' hpj hoj hdj (hSj.resolve_right hji)
        · rw[other (ht i o hq ho)];exact tr.slotN t ht
        · exact tr.base t fun j oj hj=>ht j oj (.inl hj)
        · rw[hrem j]
          constructor
          · rintro⟨g1,g2⟩
            refine⟨g1,fun h=>?_⟩
            rcases h with h|rfl
            · exact g2 h
            · rw[hq] at g1;cases g1
          · rintro⟨g1,g2⟩;exact⟨g1,fun h=>g2 (.inl h)⟩
        · cases hd' with
          | head=>exact⟨i,o,.inr rfl,ho,hd⟩
          | tail _ hd'=>obtain⟨j,oj,g1,g2⟩:=hDs d' hd';exact⟨j,oj,.inl g1,g2⟩
        · rcases hSj with h|rfl
          · exact List.mem_cons_of_mem _ (hDa j oj d' h hoj hdj)
          · rw[ho] at hoj;cases hoj
            rw[hd] at hdj;cases hdj;simp
    · -- one of those whose order is drawn
      have hnT:plan[i]?≠some 0:=by rw[hq];simp
      have him:i∈rem:=(hrem i).2 ⟨hq,hnS⟩;have hrdy:qNC all tab rem i=true:=by
        have hn:∀ j∈rem,j≠i->j∉qJP all (all.length*all.length+all.length+2) [i] []:=?_
        · rcases h64 with h64|h64
          · rw[h64];exact qJY hn
          · refine qT3 htab (fun j hj=>?_) hn
            obtain⟨g1,_⟩:=(hrem j).1 hj;have:=qAV g1;omega
        intro j hj hji hm;have:=qHK (all:=all) (Q:=fun x=>S x\/x=i) (fun x ox hx hox ed hed hb=>by
          rcases hx with hx|rfl
          · exact .inl (hcl x ox hx (by simpa using hox) ed hed hb)
          · rw[ho] at hox;cases hox
            exact .inl (hdep ed hed hb)) _ [i] [] (fun x hx=>by simp at hx;exact .inr hx) (fun x hx=>by cases hx) j hm
        rcases this with h|h
        · exact((hrem j).1 hj).2 h
        · exact hji h
      obtain⟨f',hv⟩:∃ f',qF1 B all [o] σ1 Φ1 n1 fun σ Φ n=>vcE B all tab K f' (qRH i rem) σ Φ n:=by
        cases f with
        | zero=>exact hv1.elim
        | succ f=>
          cases rem with
          | nil=>cases him
          | cons x rr=>
            have:=qQO hv1 i him hrdy;rw[qE5,ho] at this;exact⟨f,this⟩
      obtain⟨hnd,hop1,hop2⟩:=qJX (all:=all) (N:=N) (o:=o) (rest:=[]) (D:=D) (D':=(match o.dst with|some d=>[d]|none=>[])++D) (K:=fun σ Φ n=>vcE B all tab K f' (qRH i rem) σ Φ n) hY (fun d hd=>⟨fun hm=>by
          obtain⟨j,oj,g1,g2,g3⟩:=hDs d hm;have:=ok.uniq g2 ho g3 hd;subst this;exact hnS g1,hNlt d hd⟩) (fun d hd=>yAW _ hd) (fun j wv s h1 h2=>by
          obtain⟨o',k1,k2⟩:=qCK h2;have hlt:=ok.before i o ho _ _ h1;have hSj:S j:=(ahead j o' s k1 k2 (qDW h1 h2)).1 hlt;exact hDa j o' s hSj k1 k2) ⟨e1,r1, β1, σ1, Φ1,n1,hF1,hv,s1,hgd1⟩
      have next:∀ {v w'},qIF B F N all ((match o.dst with|some d=>[d]|none=>[])++D) [] (fun σ Φ n=>vcE B all tab K f' (qRH i rem) σ Φ n) (b.put o.dst v) w'->DE B F N all plan tab aT K (fun j=>S j\/j=i) (a.put o.dst v) w':=by
        rintro v w' ⟨e2,r2, β2, σ2, Φ2,n2,q1,q2,q3,q4⟩;refine⟨_,tr_put v hnT,qRH i rem,f',e2,r2, β2, σ2, Φ2,n2,_,fun j=>?_,fun d hd=>?_,fun j oj d hSj hoj hdj=>?_,q1,q2,q3,q4⟩
        · rw[qRZ,hrem j]
          constructor
          · rintro⟨⟨g1,g2⟩,g3⟩;exact⟨g1,fun h=>h.elim g2 g3⟩
          · rintro⟨g1,g2⟩;exact⟨⟨g1,fun h=>g2 (.inl h)⟩,fun h=>g2 (.inr h)⟩
        · rcases yAV.1 hd with hd|hd
          · cases hod:o.dst with
            | none=>rw[hod] at hd;cases hd
            | some d'=>
              rw[hod] at hd;simp at hd;subst hd;exact⟨i,o,.inr rfl,ho,hod⟩
          · obtain⟨j,oj,g1,g2⟩:=hDs d hd;exact⟨j,oj,.inl g1,g2⟩
        · rcases hSj with h|rfl
          · exact yAW _ (hDa j oj d h hoj hdj)
          · rw[ho] at hoj;cases hoj
            rw[hdj];simp
      cases hw:Region.wanted o (yielded all.toArray b.tmps) with
      | true=>
        rw[hwant,hw,if_pos rfl];exact(OpTo.same hexec (hop1 hw)).wpIn hnd fun v w' h=>next h
      | false=>
        rw[hwant,hw,if_neg (by simp)]
        exact⟨fun _ _=>trivial,next (hop2 hw)⟩
  · -- the end
    intro S a w hall hI;obtain⟨b,tr,rem,f,e1,r1, β1, σ1, Φ1,n1,D,hrem,hDs,hDa,hF1,hv1,s1,hgd1⟩:=hI;have hall':∀ (i:Nat),i<all.length->S i:=fun i hi=>hall i (by simpa using hi)
    have hab:a=b:=by
      have ht:a.tmps=b.tmps:=by
        apply yAA;intro t;by_cases hex:∃ (j:Nat) (oj:Oper),plan[j]?=some 0/\all[j]?=some oj/\oj.dst=some t
        · obtain⟨j,oj,h1,h2,h3⟩:=hex
          exact tr.slotT j oj t h1 h2 h3 (hall' j (qAV h2))
        · exact tr.slotN t fun j oj h1 h2 h3=>hex ⟨j,oj,h1,h2,h3⟩
      cases a;cases b;have hd:=tr.defers;simp only at ht hd;subst ht;subst hd;rfl
    subst hab;have hr0:rem=[]:=by
      cases hr:rem with
      | nil=>rfl
      | cons x rr=>
        obtain⟨g1,g2⟩:=(hrem x).1 (by rw[hr];simp)
        exact absurd (hall' x (by have:=qAV g1;omega)) g2
    subst hr0;cases f with
    | zero=>exact hv1.elim
    | succ f=>exact hQ _ _ _ _ _ _ _ _ hF1 hv1 s1
  · -- the beginning
    intro S hS;have hw:({ w00 with drawn:=w00.drawn+1 }:World)=w0:=hw0.symm
    rw[hw];refine⟨aT,⟨hdfT.symm,by rw[hszT,s0.size],rfl,rfl,fun i o d _ _ _ h=>absurd h (hS i),fun t ht=>?_,fun t _=>rfl⟩,qN8 0 plan,_,e,r, β, σT, Φ,n,[],fun i=>?_,fun d hd=>(by cases hd),fun j oj d h=>absurd h (hS j),hF,h,?_,hngT.gdIn _⟩
    · exact((hbaseT t fun j oj _ h1 h2=>ht j oj h1 h2).1).symm
    · rw[qT7]
      constructor
      · rintro⟨j,rfl,h2⟩;exact⟨by simpa using h2,hS _⟩
      · rintro⟨h1,_⟩;exact⟨i,by omega,h1⟩
    · obtain⟨q1,q2,q3,q4,q5,q6⟩:=s0
      exact⟨hagT,q2,q3,q4,by rw[hdfT];exact q5,hszT⟩
end Go.Vc

namespace Go.Vc
set_option autoImplicit false
def unL (plan:List Nat):List Nat:=plan.map fun p=>if p=7 then 0 else p
theorem qFZ {plan:List Nat}{i:Nat}:(unL plan)[i]?=some 0↔plan[i]?=some 0\/plan[i]?=some 7:=by
 unfold unL;rw[List.getElem?_map];cases plan[i]? with
 | none=>simp
 | some p=>
  simp only[yA9,Option.some.injEq];split<;>omega
theorem qZE {plan:List Nat}{i:Nat}:(unL plan)[i]?=some 4↔plan[i]?=some 4:=by
 unfold unL;rw[List.getElem?_map];cases plan[i]? with
 | none=>simp
 | some p=>
  simp only[yA9,Option.some.injEq];split<;>omega
structure LateAt (all:List Oper) (plan:List Nat) (i:Nat) (o:Oper):Prop where
 ld:∃ t x,o.op=.load t x
 g:o.guard=none
 d:∃ d,o.dst=some d/\∀ (j:Nat) (oj:Oper),j<=i->all[j]?=some oj->d∉oj.looksAt all.toArray
 hw:∀ (j:Nat) (oj:Oper) (d':Nat),plan[j]?≠some 0->all[j]?=some oj->oj.dst=some d'->Operand.tmp d'∉o.op.operands.toList
 cl:∃ j,plan[j]?=some 4/\∀ Q:Nat->Prop,(∀ (x:Nat) (o:Oper),Q x->all[x]?=some o->∀ e∈o.after,Region.binds .any e=true->Q e.on)->Q j->Q i
theorem qU5 {all:List Oper}{k:Nat}:∀ {ps:List Nat}{j:Nat},qMX all k j ps=true->∃ m,ps[m]?=some 4/\qD8 k (qJP all (all.length*all.length+all.length+2) [j+m] [])=true:=by
 intro ps
 induction ps with
 | nil=>intro j h;cases h
 | cons p ps ih=>
  intro j h;simp only[qMX,yAK,yAI] at h;rcases h with⟨h1,h2⟩|h
  ·exact⟨0,by simp;exact qAM h1,by simpa using h2⟩
  ·obtain⟨m,h1,h2⟩:=ih h;exact⟨m+1,by simpa using h1,by rw[show j+(m+1)=j+1+m by omega];exact h2⟩
theorem qbA {all:List Oper}{plan:List Nat}(h:qf8 all plan=true):plan.length=all.length/\(∀ (i:Nat) (o:Oper),all[i]?=some o->plan[i]?=some 0->PlanAt all plan i o)/\
    (∀ (i:Nat) (o:Oper),all[i]?=some o->plan[i]?=some 7->LateAt all plan i o)/\∀ (i:Nat),i<all.length->plan[i]?=some 0\/plan[i]?=some 4\/plan[i]?=some 7:=by
  have key:∀ (ps:List Nat) (ops:List Oper) (k:Nat),qJC all plan k ps ops=true->ps.length=ops.length/\∀ (i:Nat) (o:Oper) (p:Nat),ops[i]?=some o->ps[i]?=some p->
      (match p with
       | 0=>floats o.op&&((match o.guard with|none=>true|some _=>false)&&((match o.dst with|some d=>qBO all.toArray d (all.take (k+i+1))|none=>false)&&qBN (qC0 o.op.operands.toList) (plan.take (k+i)) (all.take (k+i))))
       | 4=>true
       | 7=>isLoad o.op&&((match o.guard with|none=>true|some _=>false)&&((match o.dst with|some d=>qBO all.toArray d (all.take (k+i+1))|none=>false)&&(qBN (qC0 o.op.operands.toList) plan all&&qMX all (k+i) 0 plan)))
       | _=>false)=true:=by
    intro ps
    induction ps with
    | nil=>
      intro ops k h;cases ops with
      | nil=>exact⟨rfl,fun i o p h=>by simp at h⟩
      | cons=>cases h
    | cons p0 ps ih=>
      intro ops k h;cases ops with
      | nil=>cases h
      | cons o0 ops=>
        simp only[qJC,yAI] at h;obtain⟨h1,h2⟩:=h;obtain⟨g1,g2⟩:=ih ops (k+1) h2;refine⟨by simp[g1],fun i o p ho hp=>?_⟩
        cases i with
        | zero=>simp at ho hp;subst ho;subst hp;exact h1
        | succ i=>
          have:=g2 i o p (by simpa using ho) (by simpa using hp)
          rw[show k+(i+1)=k+1+i by omega];exact this
  obtain⟨hl,hk⟩:=key plan all 0 h;refine⟨hl,fun i o ho hp=>?_,fun i o ho hp=>?_,fun i hi=>?_⟩
  · have:=hk i o _ ho hp
    simp only[yA6,yAI] at this;obtain⟨h1,h2,h3,h4⟩:=this;cases hd:o.dst with
    | none=>rw[hd] at h3;cases h3
    | some d=>
      rw[hd] at h3;refine .t d hp h1 ?_ hd (fun j oj hj hoj=>?_) (fun j oj d' hj hpj hoj hdj hm=>?_)
      · cases hg:o.guard with
        | none=>rfl
        | some _=>rw[hg] at h2;cases h2
      · exact qB4 h3 oj (yA0 (i:=j) (by rw[yAR,if_pos (by omega)];exact hoj))
      · have hjl:j<plan.length:=by have:=qAV hp;omega
        refine hpj ?_;have:=qCD h4 j plan[j] oj d' (by rw[yAR,if_pos hj];exact yAQ hjl) (by rw[yAR,if_pos hj];exact hoj) hdj (qEO.2 hm)
        rw[yAQ hjl,this]
  · have:=hk i o _ ho hp
    simp only[yA6,yAI] at this;obtain⟨h1,h2,h3,h4,h5⟩:=this;cases hd:o.dst with
    | none=>rw[hd] at h3;cases h3
    | some d=>
      rw[hd] at h3;refine⟨?_,?_,⟨d,hd,fun j oj hj hoj=>qB4 h3 oj (yA0 (i:=j) (by rw[yAR,if_pos (by omega)];exact hoj))⟩,fun j oj d' hpj hoj hdj hm=>?_,?_⟩
      · unfold isLoad at h1
        split at h1
        · exact⟨_,_,by assumption⟩
        · cases h1
      · cases hg:o.guard with
        | none=>rfl
        | some _=>rw[hg] at h2;cases h2
      · have hjl:j<plan.length:=by have:=qAV hoj;omega
        refine hpj ?_;have:=qCD h4 j plan[j] oj d' (yAQ hjl) hoj hdj (qEO.2 hm);rw[yAQ hjl,this]
      · obtain⟨m,q1,q2⟩:=qU5 h5
        rw[yA6] at q2;exact⟨m,q1,fun Q hQ hm=>qHK hQ _ [m] [] (fun x hx=>by simp at hx;subst hx;exact hm) (fun x hx=>by cases hx) i (qB6.1 q2)⟩
  · have hi':i<plan.length:=by omega
    have hp:plan[i]?=some plan[i]:=yAQ hi';have:=hk i all[i] _ (yAQ hi) hp;split at this
    · rename_i he;rw[hp,he];exact .inl rfl
    · rename_i he;rw[hp,he];exact .inr (.inl rfl)
    · rename_i he;rw[hp,he];exact .inr (.inr rfl)
    · cases this
theorem qNU {P:Program}{Φ:Phi}{t x}{K:SV->Prop}(h:qbV P Φ t x K):
  ∃ sv,K sv/\qg2 sv=true/\∀ r β vx w,Rel r β x vx->MemSat r β Φ w->∃ v,Rel r β sv v/\(Instr.loadAt t vx).run P w=.ok v w:=by
 obtain⟨sv,hk,hr⟩:=qG5 h;cases hd:qg2 sv with
 | false=>rw[hd] at hk;exact hk.elim
 | true=>
  rw[hd] at hk;refine⟨sv,hk,hd,fun r β vx w hx m=>?_⟩
  obtain⟨v,h1,h2⟩:=hr (fun _ h=>h) r β vx hx w m
  exact⟨v,h1,h2 w (Near.refl m)⟩
theorem qfO {r β sv sv' v v'}(he:qY8 sv sv') (h:Rel r β sv v) (h':Rel r β sv' v'):v=v':=by
 unfold qY8 at he;split at he
 ·subst he;cases h;cases h';rfl
 ·obtain⟨rfl,rfl⟩:=he;cases h with
  | loc h=>
   cases h' with
   | loc h'=>rw[h] at h';cases h';rfl
 ·obtain⟨rfl,rfl⟩:=he;cases h;cases h';rfl
 ·subst he;cases h;cases h';rfl
 ·subst he;cases h;cases h';rfl
 ·cases h;cases h';rfl
 ·exact he.elim
theorem qcV {r β}:∀ {l l':List SV}{vs vs':List Value},qc8 l l'->qA5 r β l vs->qA5 r β l' vs'->vs=vs'
 | [],[],vs,vs',_,h,h'=>by rw[h.nil_inv,h'.nil_inv]
 | x::l,y::l',vs,vs',he,h,h'=>by
  obtain⟨v,us,rfl,hv,hus⟩:=h.uncons;obtain⟨v',us',rfl,hv',hus'⟩:=h'.uncons;rw[qfO he.1 hv hv',qcV he.2 hus hus']
 | [],_::_,_,_,he,_,_=>he.elim
 | _::_,[],_,_,he,_,_=>he.elim
theorem qsN {r β sv sv' v v'}(hd:qg2 sv=true) (he:qhD sv sv') (h:Rel r β sv v) (h':Rel r β sv' v'):v=v':=by
 unfold qhD at he;split at he
 ·obtain⟨cs,rfl,hc⟩:=h.aggL_inv;obtain⟨cs',rfl,hc'⟩:=h'.aggL_inv;rw[qcV he hc hc']
 ·exact qfO he h h'
theorem qfM {P:Program}{a:Act}{dst t x ty pos after guard}{v:Value}{w:World}(h:(Instr.loadAt t (a.eval x)).run P w=.ok v w):
  (execOp a.eval ⟨dst,.load t x,ty,pos,after,guard⟩).run P w=.ok (.value v) w:=by
 simp only[execOp,Sem.run_bind,h,Result.andThen_ok,Sem.run_pure]
theorem qbD {P:Program}:∀ {plan:List Nat}{ops:List Oper}{σ:Env}{Φ:Phi},qKM P plan ops σ Φ->∀ (i:Nat) (o:Oper) (d:Nat) t x,plan[i]?=some 7->ops[i]?=some o->o.dst=some d->o.op=.load t x->
  opK σ [] x fun x=>qbV P Φ t x fun sv=>match σ.get d with|some (none,sv')=>qhD sv sv'|_=>False:=by
 intro plan
 induction plan with
 | nil=>intro ops σ Φ _ i o d t x h;simp at h
 | cons p ps ih=>
  intro ops σ Φ h i o d t x hp ho hd hop;cases ops with
  | nil=>simp at ho
  | cons o0 ops=>
   have hrest:qKM P ps ops σ Φ:=by
    by_cases h7:p=7
    ·subst h7;obtain⟨dst,op,ty,pos,after,guard⟩:=o0;cases dst with
     | none=>exact h.elim
     | some d0=>cases op<;>first|exact h.2|exact h.elim
    ·match p,h7,h with
     | 0,_,h=>exact h
     | 1,_,h=>exact h
     | 2,_,h=>exact h
     | 3,_,h=>exact h
     | 4,_,h=>exact h
     | 5,_,h=>exact h
     | 6,_,h=>exact h
     | 7,h7,_=>exact absurd rfl h7
     | n+8,_,h=>exact h
   cases i with
   | succ i=>exact ih hrest i o d t x (by simpa using hp) (by simpa using ho) hd hop
   | zero=>
    simp at hp ho;subst hp;subst ho;obtain⟨dst,op,ty,pos,after,guard⟩:=o0;have hd:dst=some d:=hd;have hop:op=.load t x:=hop;subst hd;subst hop;exact h.1
theorem qZS {B:Base}{ps:List Nat}{σ:Env}{Φ:Phi}{K:Env->Prop}:qNP B ps [] σ Φ K=K σ:=by
 cases ps with
 | nil=>rfl
 | cons p ps=>
  match p with
  | 0=>rfl
  | 1=>rfl
  | 2=>rfl
  | 3=>rfl
  | 4=>rfl
  | 5=>rfl
  | 6=>rfl
  | 7=>rfl
  | n+8=>rfl
theorem qU1 {B:Base}{N:Nat}{all:List Oper}{plan:List Nat}(ok:RegOk N all) {r:Mem}{β:qBD}{Φ:Phi}{w:World}(m:MemSat r β Φ w) {K:Env->Prop}:
    ∀ (l:List Oper) (k:Nat) (σ:Env) (b:Act),k+l.length=all.length->plan.length=all.length->l=all.drop k->qNP B (plan.drop k) l σ Φ K->Agree r β σ b.tmps->qFL σ->b.tmps.size=N->
      ∃ (σL:Env) (bL:Act),K σL/\Agree r β σL bL.tmps/\qFL σL/\bL.tmps.size=N/\bL.defers=b.defers/\
        ∀ t,(∀ (j:Nat) (oj:Oper),k<=j->plan[j]?=some 7->all[j]?=some oj->oj.dst≠some t)->bL.tmps[t]?=b.tmps[t]?:=by
  intro l
  induction l with
  | nil=>
    intro k σ b hk hlen he h ha hng hsz;rw[qZS] at h;exact⟨σ,b,h,ha,hng,hsz,rfl,fun t _=>rfl⟩
  | cons o l ih=>
    intro k σ b hk hlen he h ha hng hsz;have hkl:k<all.length:=by simp at hk;omega
    have ho:all[k]?=some o:=by
      have:(all.drop k)[0]?=some o:=by rw[<-he];rfl
      simpa using this
    have hl:l=all.drop (k+1):=by
      have:=congrArg List.tail he;simpa using this
    have hkp:k<plan.length:=by omega
    have hp:plan[k]?=some plan[k]:=yAQ hkp;have hpd:plan.drop k=plan[k]::plan.drop (k+1):=yAM hkp;rw[hpd] at h;by_cases h7:plan[k]=7
    · rw[h7] at h hp
      obtain⟨dst,op,ty,pos,after,guard⟩:=o;have h':∃ t x,op=.load t x/\opK σ [] x fun x=>qbV B.P Φ t x fun sv=>qNP B (plan.drop (k+1)) l (qK7 dst none sv σ) Φ K:=by
        cases op<;>first|exact h.elim|exact⟨_,_,rfl,h⟩
      obtain⟨t,x,rfl,h⟩:=h';obtain⟨sx,h,hx⟩:=qAK h;obtain⟨sv,h,hd,hr⟩:=qNU h;obtain⟨v,hv,_⟩:=hr r β _ w (hx _ r β b _ (qLT _) (Sm.plain ha)) m;have ha':Agree r β (qK7 dst none sv σ) (b.put dst v).tmps:=by
        cases dst with
        | none=>exact ha
        | some d=>exact ha.put (hng.gdIn []) (by simp) (by rw[hsz];exact ok.lt _ (yA0 ho) d rfl) hv
      have hng':qFL (qK7 dst none sv σ):=by
        cases dst with
        | none=>exact hng
        | some d=>exact hng.put d sv
      obtain⟨σL,bL,g1,g2,g3,g4,g5,g6⟩:=ih (k+1) _ _ (by simp at hk ⊢;omega) hlen hl h ha' hng' (by rw[qBK];exact hsz)
      refine⟨σL,bL,g1,g2,g3,g4,by rw[g5,put_defers],fun t ht=>?_⟩
      rw[g6 t (fun j oj hj=>ht j oj (by omega))]
      cases dst with
      | none=>rfl
      | some d=>exact qFG (fun he=>ht k _ (yA3 k) hp ho (by rw[he]))
    · have h:qNP B (plan.drop (k+1)) l σ Φ K:=by
        generalize plan[k]=p at h h7
        match p,h7,h with
        | 0,_,h=>exact h
        | 1,_,h=>exact h
        | 2,_,h=>exact h
        | 3,_,h=>exact h
        | 4,_,h=>exact h
        | 5,_,h=>exact h
        | 6,_,h=>exact h
        | 7,h7,_=>exact absurd rfl h7
        | n+8,_,h=>exact h
      obtain⟨σL,bL,g1,g2,g3,g4,g5,g6⟩:=ih (k+1) _ _ (by simp at hk ⊢;omega) hlen hl h ha hng hsz
      exact⟨σL,bL,g1,g2,g3,g4,g5,fun t ht=>g6 t (fun j oj hj=>ht j oj (by omega))⟩
def DL (B:Base) (F:Entry->Prop) (N:Nat) (all:List Oper) (plan tab:List Nat) (aT:Act) (K:Env->Phi->Nat->Prop) (S:Nat->Prop) (a:Act) (w:World):Prop:=
 ∃ b,TR all (unL plan) S aT a b/\∃ (rem:List Nat) (f:Nat) (e:Entry) (r:Mem) (β:qBD) (σ:Env) (Φ:Phi) (n:Nat) (D:List Nat),
  (∀ i,i∈rem↔plan[i]?=some 4/\¬S i)/\(∀ d∈D,∃ (j:Nat) (oj:Oper),S j/\all[j]?=some oj/\oj.dst=some d)/\(∀ (j:Nat) (oj:Oper) d,S j->all[j]?=some oj->oj.dst=some d->d∈D)/\
  F e/\qnE B all plan tab K f rem σ Φ n/\Sat B e N r β σ Φ b w/\qDX D σ
theorem qN1 {B:Base}{F:Entry->Prop}{e:Entry}(hF:F e) {N:Nat}{all:List Oper}{plan tab:List Nat}{ro:Option Nat}{K:Env->Phi->Nat->Prop}{Q:Exit->Act->World->Prop}{id:Nat}(hY:YOk B F N) (ok:RegOk N all) (hlex:Region.lexB .any all.toArray=true) (hpk:qf8 all plan=true) (htab:qR5 all tab=true) (h64:tab=[]\/all.length<=64)
    (hQ:∀ e r β σ Φ n a w,F e->K σ Φ n->Sat B e N r β σ Φ a w->Q .normal a w) {r β σ Φ n a0 w00}(h:qVZ B all plan tab σ Φ n K) (s00:Sat B e N r β σ Φ a0 w00) (hng:qFL σ):
    (Code.region id all.toArray true).wpIn (fc ro) 0 B.P Q a0 w00:=by
  obtain⟨hlen,hpl,hlt,h047⟩:=qbA hpk;have lx:LexOk .any all.toArray:=qMP hlex;have nosel:∀ (i:Nat) (o:Oper),all[i]?=some o->∀ cs b,o.op≠.select cs b:=by
    intro i o ho cs b;simp only[Region.lexB,yAI] at hlex;exact Region.noSelect_spec hlex.1 i o cs b (by simpa using ho)
  obtain⟨w0,hw0⟩:∃ w0:World,w0={ w00 with drawn:=w00.drawn+1 }:=⟨_,rfl⟩
  have hheap:w0.heap=w00.heap:=by rw[hw0]
  have s0:Sat B e N r β σ Φ a0 w0:=by
    refine s00.step s00.agree ⟨fun b o h=>by rw[hheap];exact s00.mem.vis b o h,fun id ch h=>(s00.mem.chs _ _ h).keep (Mem.le_refl r) (fun b _=>by rw[hheap]) (fun _ _ _ _ _ _ _ h=>h),s00.mem.sep,s00.mem.nod⟩ (Mem.le_refl r) ?_
    exact⟨by rw[hw0],by rw[hw0],by rw[hw0],by rw[hheap];exact yA3 _,fun b _ h1 h2=>⟨by rw[hheap],h1,h2⟩,fun _ ch h _=>⟨rfl,ch,h,rfl⟩⟩
  unfold qVZ at h;obtain⟨σT,aT,h,hagT,hngT,hszT,hdfT,hTI,hbaseT⟩:=qNE (r:=r) (β:=β) ok hlen hpl all 0 σ a0 (by simp) (by simp) (by simpa using h) s0.agree hng s0.size (fun i o d hi=>by omega)
  have getA:∀ {i:Nat}{o:Oper},all.toArray[i]?=some o->all[i]?=some o:=fun h=>by simpa using h
  obtain⟨σL,aL,h,hagL,hngL,hszL,hdfL,hbaseL⟩:=qU1 (B:=B) ok (plan:=plan) s0.mem all 0 σT aT (by simp) hlen (by simp) (by simpa using h) hagT hngT hszT
  have tAt:∀ {i:Nat}{o:Oper},all[i]?=some o->(unL plan)[i]?=some 0->o.guard=none/\∃ d,o.dst=some d/\∀ (j:Nat) (oj:Oper),j<=i->all[j]?=some oj->d∉oj.looksAt all.toArray:=by
    intro i o ho hp;rcases qFZ.1 hp with hp|hp
    · cases hpl i o ho hp with
      | t d _ _ hg hd hr=>exact⟨hg,d,hd,hr⟩
      | q hq=>rw[hp] at hq;cases hq
      | f _ hq=>rw[hp] at hq;cases hq
      | s hq=>rw[hp] at hq;cases hq
    · have:=hlt i o ho hp
      exact⟨this.g,this.d⟩
  have hTL:qx9 B.P all plan all.length aL:=by
    intro i o d hi hp ho hd;obtain⟨v,hv,hrun⟩:=hTI i o d hi hp ho hd;have hne:∀ (j:Nat) (oj:Oper),plan[j]?=some 7->all[j]?=some oj->oj.dst≠some d:=fun j oj h1 h2 h3=>by
      have:=ok.uniq h2 ho h3 hd;subst this;rw[hp] at h1;cases h1
    refine⟨v,by rw[hbaseL d fun j oj _=>hne j oj];exact hv,fun w=>?_⟩
    have hex:execOp aL.eval o=execOp aT.eval o:=by
      refine qDL (A:=all.toArray) (nosel i o ho) fun t ht=>hbaseL t fun j oj _ hpj hoj hdj=>?_
      rcases yA4 j i with hji|hji
      · cases hpl i o ho hp with
        | t d' _ _ hg _ _ hw=>
          have hop:Operand.tmp t∈o.op.operands.toList:=by
            unfold Oper.looksAt at ht;rw[hg,yAL,yAY] at ht;obtain⟨y,hy,hyt⟩:=ht;cases y<;>simp at hyt;subst hyt;exact hy
          exact hw j oj t hji (by rw[hpj];simp) hoj hdj hop
        | q hq=>rw[hp] at hq;cases hq
        | f _ hq=>rw[hp] at hq;cases hq
        | s hq=>rw[hp] at hq;cases hq
      · obtain⟨d2,hd2,hr2⟩:=(hlt j oj hoj hpj).d
        rw[hd2] at hdj;cases hdj;exact hr2 i o hji ho ht
    rw[hex];exact hrun w
  refine qDB (I:=DL B F N all plan tab aL K) (ops:=all.toArray) lx B.mixed ?_ ?_ ?_
  · -- one operation
    intro S i o a w hSlt hcl ho hnS hdep hI;have ho:all[i]?=some o:=getA ho;have hil:=qAV ho;obtain⟨b,tr,hph⟩:=hI;have ahead:∀ (j:Nat) (oj:Oper) (t:Nat),all[j]?=some oj->oj.dst=some t->t∈o.looksAt all.toArray->(j<i->S j)/\(i<j->¬S j):=by
      intro j oj t hoj hdj hm;refine⟨fun hji=>?_,fun hij hSj=>?_⟩
      · rcases lx.apart j i oj o (by simpa using hoj) (by simpa using ho) hji with⟨ed,he,hb,heq⟩|hap
        · have:=hdep ed he hb;rw[heq] at this;exact this
        · exact absurd hm ((Oper.apart_spec hap).1 t hdj)
      · rcases lx.apart i j o oj (by simpa using ho) (by simpa using hoj) hij with⟨ed,he,hb,heq⟩|hap
        · have:=hcl j oj hSj (by simpa using hoj) ed he hb
          rw[heq] at this;exact hnS this
        · exact(Oper.apart_spec hap).2.2 t hdj hm
    have heq:∀ t∈o.looksAt all.toArray,a.tmps[t]?=b.tmps[t]?:=by
      intro t ht;by_cases hex:∃ (j:Nat) (oj:Oper),(unL plan)[j]?=some 0/\all[j]?=some oj/\oj.dst=some t
      · obtain⟨j,oj,hpj,hoj,hdj⟩:=hex
        obtain⟨h1,h2⟩:=ahead j oj t hoj hdj ht;refine tr.slotT j oj t hpj hoj hdj ?_;obtain⟨_,d,hd,hr⟩:=tAt hoj hpj;rw[hd] at hdj;cases hdj;rcases yA5 j i with hji|hji|hji
        · exact h1 hji
        · subst hji
          rw[ho] at hoj;cases hoj;exact absurd ht (hr j o (yA3 j) ho)
        · exact absurd ht (hr i o (by omega) ho)
      · exact tr.slotN t fun j oj h1 h2 h3=>hex ⟨j,oj,h1,h2,h3⟩
    have hexec:execOp a.eval o=execOp b.eval o:=qDL (nosel i o ho) heq;have hwant:Region.wanted o (yielded all.toArray a.tmps)=Region.wanted o (yielded all.toArray b.tmps):=qF9 heq;have hszb:b.tmps.size=N->a.tmps.size=N:=fun h=>by rw[tr.size];exact h
    have hNlt:∀ d,o.dst=some d->d<N:=fun d hd=>ok.lt o (yA0 ho) d hd
    have tr_put:∀ (v:Value),(unL plan)[i]?≠some 0->TR all (unL plan) (fun j=>S j\/j=i) aL (a.put o.dst v) (b.put o.dst v):=by
      intro v hnT;have other:∀ {x:Act}{t:Nat},o.dst≠some t->(x.put o.dst v).tmps[t]?=x.tmps[t]?:=by
        intro x t hne;cases hd:o.dst with
        | none=>rfl
        | some d=>exact qFG (fun h=>hne (by rw[hd,h]))
      refine⟨by rw[put_defers,put_defers];exact tr.defers,by rw[qBK,qBK];exact tr.size,by rw[qBK];exact tr.szT,by rw[put_defers];exact tr.dfT,fun j oj d hpj hoj hdj hSj=>?_,fun t ht=>?_,fun t ht=>?_⟩
      · have hji:j≠i:=by rintro rfl;exact hnT hpj
        have hne:o.dst≠some d:=fun h=>hji (ok.uniq hoj ho hdj h)
        rw[other hne,other hne];exact tr.slotT j oj d hpj hoj hdj (hSj.resolve_right hji)
      · by_cases hd:o.dst=some t
        · have hl:∀ {x:Act},x.tmps.size=a.tmps.size->(x.put o.dst v).tmps[t]?=if t<a.tmps.size then some v else none:=by
            intro x hx;rw[hd,qHV];rw[yAG];simp[hx]
          rw[hl rfl,hl tr.size.symm]
        · rw[other hd,other hd];exact tr.slotN t ht
      · have hne:o.dst≠some t:=ht i o (.inr rfl) hnT ho
        rw[other hne];exact tr.base t fun j oj hj=>ht j oj (.inl hj)
    have hsz0:b.tmps.size=N:=by rw[tr.szT,hszL]
    have qIP:∀ {x:Act}{d:Nat}{v:Value},x.tmps.size=N->o.dst=some d->(x.put o.dst v).tmps[d]?=some v:=by
      intro x d v hx hd;rw[hd];exact put_eq (by rw[hx];exact hNlt d hd)
    have other:∀ {x:Act}{t:Nat}{v:Value},o.dst≠some t->(x.put o.dst v).tmps[t]?=x.tmps[t]?:=by
      intro x t v hne;cases hd:o.dst with
      | none=>rfl
      | some d=>exact qFG (fun h=>hne (by rw[hd,h]))
    unfold wpOpIn;simp only[yAS,ho];obtain⟨rem,f,e1,r1, β1, σ1, Φ1,n1,D,hrem,hDs,hDa,hF1,hv1,s1,hgd1⟩:=hph;have h04:(unL plan)[i]?=some 0\/plan[i]?=some 4:=by
      rcases h047 i hil with h|h|h
      · exact .inl (qFZ.2 (.inl h))
      · exact .inr h
      · exact .inl (qFZ.2 (.inr h))
    rcases h04 with hq|hq
    · -- its slot is filled
      obtain⟨hg,d,hd,hr⟩:=tAt ho hq;have hw1:Region.wanted o (yielded all.toArray a.tmps)=true:=by simp[Region.wanted,hg]
      rw[if_pos hw1];have hnTd:∀ (j:Nat) (oj:Oper),(unL plan)[j]?≠some 0->all[j]?=some oj->oj.dst≠some d:=fun j oj h1 h2 h3=>by
        have:=ok.uniq h2 ho h3 hd;subst this;exact h1 hq
      have hrunv:(∀ c,o.op≠.defer c)/\∃ v,b.tmps[d]?=some v/\(execOp a.eval o).run B.P w=.ok (.value v) w:=by
        rcases qFZ.1 hq with hq0|hq7
        · cases hpl i o ho hq0 with
          | q hq'=>rw[hq0] at hq';cases hq'
          | f _ hq'=>rw[hq0] at hq';cases hq'
          | s hq'=>rw[hq0] at hq';cases hq'
          | t d' _ hfl _ hd' _ hw=>
            refine⟨qGX hfl,?_⟩;have hbT:∀ t∈o.looksAt all.toArray,b.tmps[t]?=aL.tmps[t]?:=by
              intro t ht;refine tr.base t fun j oj hSj hnT hoj hdj=>?_
              obtain⟨_,h2⟩:=ahead j oj t hoj hdj ht;rcases yA5 j i with hji|hji|hji
              · have hop:Operand.tmp t∈o.op.operands.toList:=by
                  unfold Oper.looksAt at ht;rw[hg,yAL,yAY] at ht;obtain⟨y,hy,hyt⟩:=ht;cases y<;>simp at hyt;subst hyt;exact hy
                exact hw j oj t hji (fun h=>hnT (qFZ.2 (.inl h))) hoj hdj hop
              · subst hji;exact hnS hSj
              · exact h2 hji hSj
            have hexT:execOp b.eval o=execOp aL.eval o:=qDL (nosel i o ho) hbT;obtain⟨v,hv,hrun⟩:=hTL i o d hil hq0 ho hd;exact⟨v,by rw[tr.base d (fun j oj _ h1 h2=>hnTd j oj h1 h2)];exact hv,by rw[hexec,hexT];exact hrun w⟩
        · have la:=hlt i o ho hq7
          obtain⟨t,x,hop⟩:=la.ld;refine⟨(fun c hc=>by rw[hop] at hc;cases hc),?_⟩
          obtain⟨j4,hj4,hcj⟩:=la.cl;have hnj:¬S j4:=fun hSj=>hnS (hcj S (fun y oy hy hoy ed hed hb=>hcl y oy hy (by simpa using hoy) ed hed hb) hSj)
          have hjr:j4∈rem:=(hrem j4).2 ⟨hj4,hnj⟩;have hchk:qKM B.P plan all σ1 Φ1:=by
            cases f with
            | zero=>exact hv1.elim
            | succ f=>
              cases rem with
              | nil=>cases hjr
              | cons y rr=>exact hv1.1
          have hc:=qbD hchk i o d t x hq7 ho hd hop;obtain⟨sx,hc,hx⟩:=qAK hc;obtain⟨sv,hc,hdet,hl⟩:=qNU hc;obtain⟨v,hv,hrun⟩:=hl r1 β1 _ w (hx _ r1 β1 b _ (qLT _) (Sm.plain s1.agree)) s1.mem;split at hc
          · rename_i sv' hgd
            obtain⟨u,hu,hru⟩:=s1.agree d none sv' hgd;have huv:=qsN hdet hc hv hru;subst huv;refine⟨v,hu,?_⟩;rw[hexec];obtain⟨dst,op,ty,pos,after,guard⟩:=o;have hop:op=.load t x:=hop;subst hop;exact qfM hrun
          · exact hc.elim
      obtain⟨hndf,v,hv,hrun⟩:=hrunv;refine(OpTo.val v w (R:=fun v' w'=>v'=v/\w'=w) hrun ⟨rfl,rfl⟩).wpIn hndf ?_
      rintro v' w' ⟨rfl,rfl⟩;refine⟨b,⟨by rw[put_defers];exact tr.defers,by rw[qBK];exact tr.size,tr.szT,tr.dfT,fun j oj d' hpj hoj hdj hSj=>?_,fun t ht=>?_,fun t ht=>?_⟩,rem,f,e1,r1, β1, σ1, Φ1,n1,d::D,fun j=>?_,fun d' hd'=>?_,fun j oj d' hSj hoj hdj=>?_,hF1,hv1,s1,hgd1.mono (fun x hx=>List.mem_cons_of_mem _ hx)⟩
      · by_cases hji:j=i
        · subst hji
          rw[ho] at hoj;cases hoj;rw[qIP (hszb hsz0) hdj];rw[hd] at hdj;cases hdj;exact hv.symm
        · have hne:o.dst≠some d':=fun h=>hji (ok.uniq hoj ho hdj h)
          rw[other hne];exact tr.slotT j oj d' hpj hoj hdj (hSj.resolve_right hji)
      · rw[other (ht i o hq ho)];exact tr.slotN t ht
      · exact tr.base t fun j oj hj=>ht j oj (.inl hj)
      · rw[hrem j]
        constructor
        · rintro⟨g1,g2⟩
          refine⟨g1,fun h=>?_⟩
          rcases h with h|rfl
          · exact g2 h
          · rw[qZE.2 g1] at hq;cases hq
        · rintro⟨g1,g2⟩;exact⟨g1,fun h=>g2 (.inl h)⟩
      · cases hd' with
        | head=>exact⟨i,o,.inr rfl,ho,hd⟩
        | tail _ hd'=>obtain⟨j,oj,g1,g2⟩:=hDs d' hd';exact⟨j,oj,.inl g1,g2⟩
      · rcases hSj with h|rfl
        · exact List.mem_cons_of_mem _ (hDa j oj d' h hoj hdj)
        · rw[ho] at hoj;cases hoj
          rw[hd] at hdj;cases hdj;simp
    · -- one of those whose order is drawn
      have hnT:(unL plan)[i]?≠some 0:=by rw[qZE.2 hq];simp
      have him:i∈rem:=(hrem i).2 ⟨hq,hnS⟩;have hrdy:qNC all tab rem i=true:=by
        have hn:∀ j∈rem,j≠i->j∉qJP all (all.length*all.length+all.length+2) [i] []:=?_
        · rcases h64 with h64|h64
          · rw[h64];exact qJY hn
          · refine qT3 htab (fun j hj=>?_) hn
            obtain⟨g1,_⟩:=(hrem j).1 hj;have:=qAV g1;omega
        intro j hj hji hm;have:=qHK (all:=all) (Q:=fun x=>S x\/x=i) (fun x ox hx hox ed hed hb=>by
          rcases hx with hx|rfl
          · exact .inl (hcl x ox hx (by simpa using hox) ed hed hb)
          · rw[ho] at hox;cases hox
            exact .inl (hdep ed hed hb)) _ [i] [] (fun x hx=>by simp at hx;exact .inr hx) (fun x hx=>by cases hx) j hm
        rcases this with h|h
        · exact((hrem j).1 hj).2 h
        · exact hji h
      obtain⟨f',hv⟩:∃ f',qF1 B all [o] σ1 Φ1 n1 fun σ Φ n=>qnE B all plan tab K f' (qRH i rem) σ Φ n:=by
        cases f with
        | zero=>exact hv1.elim
        | succ f=>
          cases rem with
          | nil=>cases him
          | cons x rr=>
            have:=qQO hv1.2 i him hrdy;rw[qE5,ho] at this;exact⟨f,this⟩
      obtain⟨hnd,hop1,hop2⟩:=qJX (all:=all) (N:=N) (o:=o) (rest:=[]) (D:=D) (D':=(match o.dst with|some d=>[d]|none=>[])++D) (K:=fun σ Φ n=>qnE B all plan tab K f' (qRH i rem) σ Φ n) hY (fun d hd=>⟨fun hm=>by
          obtain⟨j,oj,g1,g2,g3⟩:=hDs d hm;have:=ok.uniq g2 ho g3 hd;subst this;exact hnS g1,hNlt d hd⟩) (fun d hd=>yAW _ hd) (fun j wv s h1 h2=>by
          obtain⟨o',k1,k2⟩:=qCK h2;have hlt:=ok.before i o ho _ _ h1;have hSj:S j:=(ahead j o' s k1 k2 (qDW h1 h2)).1 hlt;exact hDa j o' s hSj k1 k2) ⟨e1,r1, β1, σ1, Φ1,n1,hF1,hv,s1,hgd1⟩
      have next:∀ {v w'},qIF B F N all ((match o.dst with|some d=>[d]|none=>[])++D) [] (fun σ Φ n=>qnE B all plan tab K f' (qRH i rem) σ Φ n) (b.put o.dst v) w'->DL B F N all plan tab aL K (fun j=>S j\/j=i) (a.put o.dst v) w':=by
        rintro v w' ⟨e2,r2, β2, σ2, Φ2,n2,q1,q2,q3,q4⟩;refine⟨_,tr_put v hnT,qRH i rem,f',e2,r2, β2, σ2, Φ2,n2,_,fun j=>?_,fun d hd=>?_,fun j oj d hSj hoj hdj=>?_,q1,q2,q3,q4⟩
        · rw[qRZ,hrem j]
          constructor
          · rintro⟨⟨g1,g2⟩,g3⟩;exact⟨g1,fun h=>h.elim g2 g3⟩
          · rintro⟨g1,g2⟩;exact⟨⟨g1,fun h=>g2 (.inl h)⟩,fun h=>g2 (.inr h)⟩
        · rcases yAV.1 hd with hd|hd
          · cases hod:o.dst with
            | none=>rw[hod] at hd;cases hd
            | some d'=>
              rw[hod] at hd;simp at hd;subst hd;exact⟨i,o,.inr rfl,ho,hod⟩
          · obtain⟨j,oj,g1,g2⟩:=hDs d hd;exact⟨j,oj,.inl g1,g2⟩
        · rcases hSj with h|rfl
          · exact yAW _ (hDa j oj d h hoj hdj)
          · rw[ho] at hoj;cases hoj
            rw[hdj];simp
      cases hw:Region.wanted o (yielded all.toArray b.tmps) with
      | true=>
        rw[hwant,hw,if_pos rfl];exact(OpTo.same hexec (hop1 hw)).wpIn hnd fun v w' h=>next h
      | false=>
        rw[hwant,hw,if_neg (by simp)]
        exact⟨fun _ _=>trivial,next (hop2 hw)⟩
  · -- the end
    intro S a w hall hI;obtain⟨b,tr,rem,f,e1,r1, β1, σ1, Φ1,n1,D,hrem,hDs,hDa,hF1,hv1,s1,hgd1⟩:=hI;have hall':∀ (i:Nat),i<all.length->S i:=fun i hi=>hall i (by simpa using hi)
    have hab:a=b:=by
      have ht:a.tmps=b.tmps:=by
        apply yAA;intro t;by_cases hex:∃ (j:Nat) (oj:Oper),(unL plan)[j]?=some 0/\all[j]?=some oj/\oj.dst=some t
        · obtain⟨j,oj,h1,h2,h3⟩:=hex
          exact tr.slotT j oj t h1 h2 h3 (hall' j (qAV h2))
        · exact tr.slotN t fun j oj h1 h2 h3=>hex ⟨j,oj,h1,h2,h3⟩
      cases a;cases b;have hd:=tr.defers;simp only at ht hd;subst ht;subst hd;rfl
    subst hab;have hr0:rem=[]:=by
      cases hr:rem with
      | nil=>rfl
      | cons x rr=>
        obtain⟨g1,g2⟩:=(hrem x).1 (by rw[hr];simp)
        exact absurd (hall' x (by have:=qAV g1;omega)) g2
    subst hr0;cases f with
    | zero=>exact hv1.elim
    | succ f=>exact hQ _ _ _ _ _ _ _ _ hF1 hv1 s1
  · -- the beginning
    intro S hS;have hw:({ w00 with drawn:=w00.drawn+1 }:World)=w0:=hw0.symm
    rw[hw];refine⟨aL,⟨by rw[hdfL];exact hdfT.symm,by rw[hszL,s0.size],rfl,rfl,fun i o d _ _ _ h=>absurd h (hS i),fun t ht=>?_,fun t _=>rfl⟩,qN8 0 plan,_,e,r, β, σL, Φ,n,[],fun i=>?_,fun d hd=>(by cases hd),fun j oj d h=>absurd h (hS j),hF,h,?_,hngL.gdIn _⟩
    · rw[hbaseL t fun j oj _ h1 h2=>ht j oj (qFZ.2 (.inr h1)) h2]
      exact((hbaseT t fun j oj _ h1 h2=>ht j oj (qFZ.2 (.inl h1)) h2).1).symm
    · rw[qT7]
      constructor
      · rintro⟨j,rfl,h2⟩;exact⟨by simpa using h2,hS _⟩
      · rintro⟨h1,_⟩;exact⟨i,by omega,h1⟩
    · obtain⟨q1,q2,q3,q4,q5,q6⟩:=s0
      exact⟨hagL,q2,q3,q4,by rw[hdfL,hdfT];exact q5,hszL⟩
end Go.Vc
