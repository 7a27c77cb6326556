/- A part of the proof: lemmas and walks that the last text of the claim joins; no condition. -/
import Derived.Test.YtjnmepijcndcpaaGreatSlotPartsVF
import Derived.ChangeSame
import Derived.WalkKit
import Derived.ProofKit
import Derived.OpenShut
import Derived.HandedShaped
import Derived.JoinedOf
import Derived.JoinedCond
import Derived.ChangeMaps5
open Bool renaming and_eq_true→yAA
open List renaming getElem?_append→yAB,getElem?_eq_getElem→yAC
open Nat renaming eq_zero_or_pos→yAD
set_option linter.unusedVariables false
set_option linter.unusedSimpArgs false
set_option maxHeartbeats 8000000
namespace Go.Vc
open Go.ChangeShapes Go.WideShapes Go.ChangeAt Go.RowKit
set_option autoImplicit false
structure Left0 (W w':World):Prop where
 os:w'.os=W.os
 output:w'.output=W.output
 block:∀ b,b<W.heap.size->w'.heap[b]?=W.heap[b]?
theorem Left0.frame {W w':World}(h:Left0 W w') (may:MemPlace->Prop):W.keptBut w' may:=by
 refine⟨h.os,h.output,fun i hi=>?_⟩
 rw[h.block i hi];split<;>simp_all
theorem qUI {H:Type}{enc:TypeId×Value->H}{P:Program}{f:Func}{s:ChangeSpec}{apart fresh handsOn again:Bool}{W W':World}{args:Array Value}{v:Value}{ds gs:List (DataW H)}{before pa pv:List MemPlace}
  (hW:DataW.Whole enc P f.params.toList s.vars apart W args.toList ds gs before)
  (hres:∀ (b:Nat) (sp:Nat->Bool) (hd:Bool),DataW.TrodAll enc P W' b sp hd f.resultTypes.toList (v.resultList f.resultTypes.size) (s.fn H (ds++gs)).results [])
  (hargs:∀ sp:Nat->Bool,(∀ p∈before,sp p.block=true)->DataW.TrodAll enc P W' 0 sp true f.params.toList args.toList (s.fn H (ds++gs)).args pa)
  (hvars:∀ sp:Nat->Bool,(∀ p∈before,sp p.block=true)->DataW.TrodVars enc P W' sp s.vars (s.fn H (ds++gs)).vars pv)
  (hps:before=pa++pv) (hk:Left0 W W')
  (hok:∀ (j:Nat) (t:TypeId) (r:Value),f.resultTypes[j]?=some t->(v.resultList f.resultTypes.size)[j]?=some r->Value.okWide P W' .any 0 t r):
  s.post enc P f apart fresh handsOn again W args v W':=by
 have hlt:=hW.lt;have hold:∀ p∈before,(fun b=>decide (b<W.heap.size)) p.block=true:=fun p hp=>by simpa using hlt p hp
 refine⟨ds,gs,before,[],pa,pv,hW,hres _ _ _,hargs _ hold,hvars _ hold,World.keptBut_mono (fun p hp=>⟨hp,?_⟩) (hk.frame _),fun _=>?_⟩
 ·rw[hps,List.mem_append] at hp;exact Or.inr hp
 ·obtain⟨_,_,_,_,_,hz,hn⟩:=hW;refine⟨hok,_,_,([]++pa)++pv,⟨[]++pa,pv,trodAll_append (hargs _ (fun _ _=>rfl)) (hres _ _ _),hvars _ (fun _ _=>rfl),rfl,?_,?_⟩,?_⟩
  ·intro b off hp;have hb:MemPlace.cell b off∈before:=by rw[hps];simpa using hp
   have h0:=hz b off hb;have h1:=hlt _ hb;have e:W'.heap[b]?=W.heap[b]?:=hk.block b h1;simp only[World.frozen?] at h0 ⊢;rw[e];exact h0
  ·intro ha;have:=hn ha;rw[hps] at this;simpa using this
  ·intro p hp _;rw[hps];simpa using hp
theorem Ct.run {B:Base}{f:FuncId}{args:List SV}{vs:List Value}{W:World}(hc:Ct B f args [] fun sv Φ=>sv=.bool true/\Φ=[])
  (hG:B.G fun b=>W.heap[b]?) (hl:qA5 (fun b=>W.heap[b]?) β0 args vs):
  Calls B.P f vs.toArray W fun e w'=>e=.returned (.bool true)/\Left0 W w':=by
 refine(hc (fun b=>W.heap[b]?) β0 W vs hG ⟨fun _ _ h=>h,fun _ _ h=>(by cases h),fun _ _ _ h=>(by cases h),fun _ _ _ _ _ h=>(by cases h)⟩ hl).mono fun e w' hh=>?_
 obtain⟨v,sv,r', β', Φ',he,⟨rfl,rfl⟩,hr,m,hle,hid⟩:=hh;cases hr;refine⟨he,hid.os,hid.output,fun b hb=>?_⟩
 have e:W.heap[b]?=some W.heap[b]:=by simp[hb]
 rw[e];exact m.vis b _ (hle b _ e)
end Go.Vc

namespace Go.Vc
open Go.ChangeShapes Go.WideShapes Go.ChangeAt Go.RowKit
set_option autoImplicit false
theorem Ty.size_pos (τ:Ty):0<τ.size:=by
 induction τ with
 | pr a b iha ihb=>show 0<Nat.add a.size b.size;have:Nat.add a.size b.size=a.size+b.size:=rfl;omega
 | _=>exact Nat.one_pos
theorem Ty.enc_len:∀ (τ:Ty) (x:τ.T),(τ.enc x).length=τ.size:=by
 intro τ
 induction τ with
 | pr a b iha ihb=>intro x;show(a.enc x.1++b.enc x.2).length=Nat.add a.size b.size;rw[List.length_append,iha,ihb];rfl
 | _=>intro x;rfl
theorem Ty.enc_one:∀ (τ:Ty) (x:τ.T) (j:Nat) (sv:SV),(τ.enc x)[j]?=some sv->sv.one=true:=by
 intro τ
 induction τ with
 | pr a b iha ihb=>
  intro x j sv h;have h:(a.enc x.1++b.enc x.2)[j]?=some sv:=h;rw[yAB] at h;split at h
  ·exact iha _ _ _ h
  ·exact ihb _ _ _ h
 | _=>
  intro x j sv h;cases j with
  | zero=>cases h;rfl
  | succ j=>simp[Ty.enc] at h
def Ty.wf:(τ:Ty)->τ.T->Prop
 | .int k,n=>k.min<=n/\n<=k.max
 | .byte,_=>True
 | .bool,_=>True
 | .str,l=>l.length<=9223372036854775807
 | .flt,_=>True
 | .cpx,_=>True
 | .sl e,l=>l.length<=9223372036854775807/\∀ (i:Nat) (a:e.T),l[i]?=some a->e.wf a
 | .pr a b,p=>a.wf p.1/\b.wf p.2
mutual
def tyM (P:Program):Nat->Ty->TypeId->Bool
 | 0,_,_=>false
 | n+1, τ,t=>
  match P.underlying t with
  | some (.int k)=>(match τ with|.int k'=>kEq k k'|.byte=>kEq k .u8|_=>false)
  | some .bool=>(match τ with|.bool=>true|_=>false)
  | some .string=>(match τ with|.str=>true|_=>false)
  | some (.slice e)=>(match τ with|.sl τe=>qEZ P e τe.size&&tyM P n τe e|_=>false)
  | some (.struct ⟨fs⟩)=>Nat.beq (qAW P t) τ.size&&tyF P n τ 0 fs
  | _=>false
def tyF (P:Program):Nat->Ty->Nat->List Field->Bool
 | 0,_,_,_=>false
 | n+1, τ,off,[f]=>Nat.beq f.offset off&&(qEZ P f.type τ.size&&tyM P n τ f.type)
 | n+1,.pr a b,off,f::r=>Nat.beq f.offset off&&(qEZ P f.type a.size&&(tyM P n a f.type&&tyF P n b (off+a.size) r))
 | _,_,_,_=>false
end
theorem qmX (P:Program) (n:Nat) (τ:Ty) (off:Nat) (f:Field):tyF P (n+1) τ off [f]=(Nat.beq f.offset off&&(qEZ P f.type τ.size&&tyM P n τ f.type)):=by cases τ<;>rfl
theorem qiJ (P:Program) (n:Nat) (a b:Ty) (off:Nat) (f g:Field) (r:List Field):tyF P (n+1) (.pr a b) off (f::g::r)=(Nat.beq f.offset off&&(qEZ P f.type a.size&&(tyM P n a f.type&&tyF P n b (off+a.size) (g::r)))):=rfl
theorem qHB {P:Program}{e:TypeId}{n:Nat}(h:qEZ P e n=true):P.cellsOf e=n:=by
 unfold qEZ at h;unfold Program.cellsOf;split at h
 ·rename_i i hi;rw[hi];exact qAM h
 ·cases h
theorem qRS {P:Program}{t:TypeId}{n:Nat}(h:Nat.beq (qAW P t) n=true):P.cellsOf t=n:=by
 have:=qAM h;unfold qAW at this;unfold Program.cellsOf;cases hi:P.info? t with
 | none=>rw[hi] at this;simpa using this
 | some i=>rw[hi] at this;simpa using this
theorem qWA {r β}{l1 l2:List SV}{v:List Value}{n:Nat}(h1:qA5 r β l1 (v.take n)) (h2:qA5 r β l2 (v.drop n)):qA5 r β (l1++l2) v:=by
 have:=h1.append h2
 rwa [List.take_append_drop] at this
theorem qHX {r β}{sv:SV}{v:Value}(h:Rel r β sv v):qA5 r β [sv] [v]:=
 ⟨rfl,fun i x y h1 h2=>by
  cases i with
  | zero=>cases h1;cases h2;exact h
  | succ i=>simp at h1⟩
theorem cells?_get {w:World}{base:Nat}{a:Addr}{n:Nat}{cs:List Value}(h:w.cells? base a n=some cs):cs.length=n/\∀ j,j<n->w.cell? (a.add j)=cs[j]?:=by
 unfold World.cells? at h;split at h
 ·refine⟨by simpa using mapM_some_length h,fun j hj=>mapM_some_get h j j (by simp[hj])⟩
 ·cases h
theorem qW0 {α:Type}{p:Nat->α->Prop}:∀ {n:Nat},(∀ i,i<n->∃ a,p i a)->∃ l:List α,l.length=n/\∀ i a,l[i]?=some a->p i a:=by
 intro n
 induction n with
 | zero=>intro _;exact⟨[],rfl,fun i a h=>by simp at h⟩
 | succ n ih=>
  intro h;obtain⟨l,h1,h2⟩:=ih fun i hi=>h i (by omega)
  obtain⟨a,ha⟩:=h n (by omega)
  refine⟨l++[a],by simp[h1],fun i b hb=>?_⟩
  rw[yAB] at hb;split at hb
  ·exact h2 i b hb
  ·rename_i hi;have:i-l.length=0:=by
    rcases yAD (i-l.length) with h|h
    ·exact h
    ·rw[List.getElem?_eq_none (by simp;omega)] at hb;cases hb
   rw[this] at hb;simp at hb;subst hb;have:i=n:=by omega
   subst this;exact ha
section
variable {H:Type}{enc:TypeId×Value->H}{P:Program}{w:World}{base:Nat}{spare:Nat->Bool}{held:Bool}
theorem qhS : ∀ (n:Nat),(∀ (τ:Ty) (t:TypeId) (fuel:Nat) (cs:List Value) (x:DataW H×List MemPlace),tyM P n τ t=true->DataW.trod enc P w base spare held fuel t cs=some x->
      ∃ a:τ.T, τ.wf a/\qA5 (fun b=>w.heap[b]?) β0 (τ.enc a) cs)/\
    (∀ (τ:Ty) (off:Nat) (fs:List Field) (fuel:Nat) (cs:List Value),tyF P n τ off fs=true->cs.length=off+τ.size->
      (∀ f∈fs,∃ fuel x,DataW.trod enc P w base spare held fuel f.type ((cs.drop f.offset).take (P.cellsOf f.type))=some (x:DataW H×List MemPlace))->
      ∃ a:τ.T, τ.wf a/\qA5 (fun b=>w.heap[b]?) β0 (τ.enc a) (cs.drop off)):=by
  intro n
  induction n with
  | zero=>exact⟨fun _ _ _ _ _ h=>by simp[tyM] at h,fun _ _ _ _ _ h=>by simp[tyF] at h⟩
  | succ n ih =>
    obtain⟨ihM,ihF⟩:=ih;refine⟨fun τ t fuel cs x h hd=>?_,fun τ off fs fuel cs h hl hf=>?_⟩
    · unfold tyM at h
      split at h
      · rename_i k hu
        obtain⟨m,hcs,hwf,_⟩:∃ m,cs=[.int k m]/\(Lit.int k m).wf=true/\True:=by
          cases fuel with
          | zero=>simp[DataW.trod] at hd
          | succ fuel=>
            unfold DataW.trod at hd;rw[hu] at hd;split at hd<;>simp_all
        have hb:k.min<=m/\m<=k.max:=by simpa[Lit.wf] using hwf
        subst hcs;split at h
        · obtain rfl:=qJL h
          exact⟨m,hb,qHX .int⟩
        · obtain rfl:=qJL h
          have h0:(0:Int)<=m/\m<=255:=by simpa[IntKind.min,IntKind.max,IntKind.signed,IntKind.bits] using hb
          refine⟨UInt8.ofNat m.toNat,trivial,qHX ?_⟩;have:((UInt8.ofNat m.toNat).toNat:Int)=m:=by
            rw[UInt8.toNat_ofNat'];omega
          rw[this];exact .int
        · cases h
      · rename_i hu
        split at h
        · obtain⟨m,hcs⟩:∃ m,cs=[.bool m]:=by
            cases fuel with
            | zero=>simp[DataW.trod] at hd
            | succ fuel=>
              unfold DataW.trod at hd;rw[hu] at hd;split at hd<;>simp_all
          subst hcs;exact⟨m,trivial,qHX .bool⟩
        · cases h
      · rename_i hu
        split at h
        · obtain⟨m,hcs,hm⟩:∃ m:ByteArray,cs=[.string m]/\m.size<=maxLen:=by
            cases fuel with
            | zero=>simp[DataW.trod] at hd
            | succ fuel=>
              unfold DataW.trod at hd;rw[hu] at hd;split at hd<;>simp_all
          subst hcs;have hlen:m.data.toList.length<=9223372036854775807:=by
            have e:m.data.toList.length=m.size:=by rw[Array.length_toList];rfl
            rw[e];exact hm
          refine⟨m.data.toList,hlen,qHX ?_⟩;exact .str hlen
        · cases h
      · rename_i e hu
        split at h
        · rename_i τe
          simp only[yAA] at h;obtain⟨hsz,hM⟩:=h;have hc:=qHB hsz;have hpos:=τe.size_pos;rcases DataW.trod_slice hu hd with⟨rfl,_⟩|⟨a,len,cap,elems,rest,m,_,rfl,_,hbase,hle,hcap,hlen,hel,_,_⟩
          · exact⟨[],⟨Nat.zero_le _,fun i a h=>by simp at h⟩,qHX (.rd .litsE)⟩
          · have hmax:cap<=9223372036854775807:=hcap
            have one:∀ i,i<len->∃ x:τe.T, τe.wf x/\∃ cs',w.cells? base (a.add (i*P.cellsOf e)) (P.cellsOf e)=some cs'/\qA5 (fun b=>w.heap[b]?) β0 (τe.enc x) cs':=by
              intro i hi;have h1:=hel i hi;rw[yAC (by omega)] at h1
              obtain⟨cs',hcs',hy⟩:=Option.bind_eq_some_iff.1 h1;obtain⟨x,hx,hr⟩:=ihM _ _ _ _ _ hM hy;exact⟨x,hx,cs',hcs',hr⟩
            obtain⟨l,hl1,hl2⟩:=qW0 one;refine⟨l,⟨by omega,fun i x hx=>(hl2 i x hx).1⟩,qHX (.rd ?_)⟩
            rcases yAD len with h0|h0
            · have:l=[]:=List.length_eq_zero_iff.1 (by omega)
              subst this;rw[h0];exact .litsE
            · obtain⟨x0,_,cs0,hcs0,_⟩:=one 0 h0
              obtain⟨g1,g2⟩:=cells?_get hcs0;have g3:=g2 0 (by omega)
              have:∃ v,cs0[0]?=some v:=⟨cs0[0]'(by omega),yAC (by omega)⟩
              obtain⟨v0,hv0⟩:=this;rw[hv0] at g3;have hspot:a.spot=none:=by simpa[Addr.add] using World.cell?_spot g3
              obtain⟨b,off,sp⟩:=a;simp only at hspot;subst hspot;have cell:∀ o i,(⟨b,o,none⟩:Addr).add i=⟨b,o+i,none⟩:=by
                intro o i;unfold Addr.add;split
                · rename_i h;rw[h];rfl
                · rfl
              have blk:∃ c T fr,w.heap[b]?=some (.cells c T fr):=by
                rw[cell,cell] at g3;unfold World.cell? at g3;split at g3
                · exact⟨_,_,_,by assumption⟩
                · cases g3
              obtain⟨c,T,fr,hb⟩:=blk;have get:∀ k,w.cell? ⟨b,k,none⟩=c[k]?:=by
                intro k;unfold World.cell?;simp[hb]
              have row:∀ i,i<len->∃ cs',cs'.length=τe.size/\(∀ j,j<τe.size->c[off+i*τe.size+j]?=cs'[j]?)/\∀ x,l[i]?=some x->qA5 (fun b=>w.heap[b]?) β0 (τe.enc x) cs':=by
                intro i hi;have hx:l[i]?=some l[i]:=yAC (by omega)
                obtain⟨_,cs',hcs',hr⟩:=hl2 i _ hx;obtain⟨k1,k2⟩:=cells?_get hcs';rw[hc] at k1 k2;refine⟨cs',k1,fun j hj=>?_,fun x hx'=>?_⟩
                · have:=k2 j hj
                  rw[cell] at this;rw[cell,get] at this;exact this
                · rw[hx] at hx';cases hx';exact hr
              have hmap:∀ (i:Nat) rw',(l.map τe.enc)[i]?=some rw'->∃ x,l[i]?=some x/\rw'=τe.enc x:=by
                intro i rw' h;rw[List.getElem?_map] at h;cases hx:l[i]? with
                | none=>rw[hx] at h;cases h
                | some x=>rw[hx] at h;exact⟨x,rfl,(Option.some.inj h).symm⟩
              have hlm:(l.map τe.enc).length=len:=by simp[hl1]
              rw[<-hlm];refine .lits hb (by omega) (by omega) (fun i rw' h=>?_) (fun i rw' j sv h h'=>?_) ?_ (fun i rw' j sv v h h' hv=>?_)
              · obtain⟨x,_,rfl⟩:=hmap i rw' h;exact τe.enc_len x
              · obtain⟨x,_,rfl⟩:=hmap i rw' h;exact τe.enc_one x j sv h'
              · rw[hlm]
                obtain⟨cs',k1,k2,_⟩:=row (len-1) (by omega)
                have:=k2 (τe.size-1) (by omega)
                rw[yAC (by omega:τe.size-1<cs'.length)] at this
                have hlt:=(Array.getElem?_eq_some_iff.1 this).1;have e1:(len-1)*τe.size+τe.size=len*τe.size:=by
                  have:len=(len-1)+1:=by omega
                  conv=>rhs;rw[this]
                  rw[Nat.add_mul,Nat.one_mul]
                omega
              · obtain⟨x,hx,rfl⟩:=hmap i rw' h
                have hi:i<len:=by have:=qAV hx;omega
                have hj:j<τe.size:=by have:=qAV h';rw[τe.enc_len] at this;exact this
                obtain⟨cs',k1,k2,k3⟩:=row i hi;rw[k2 j hj] at hv;exact(k3 x hx).2 j sv v h' hv
        · cases h
      · rename_i fs hu
        simp only[yAA] at h;obtain⟨hsz,hF⟩:=h;have hc:=qRS hsz;obtain⟨xs,m,_,_,hcl,hxl,hxs⟩:=DataW.trod_struct hu hd;have:=ihF τ 0 fs 0 cs hF (by omega) (fun f hf=>by
          obtain⟨i,hi,rfl⟩:=List.getElem_of_mem hf;have h1:=hxs i fs[i] (by simp[hi])
          have hi':i<xs.length:=by rw[hxl];simpa using hi
          rw[yAC hi'] at h1;exact⟨m,_,h1⟩)
        simpa using this
      · cases h
    · match fs,h with
      | [],h=>cases τ<;>simp[tyF] at h
      | [f],h=>
        rw[qmX] at h;simp only[yAA] at h;obtain⟨h1,h2,h3⟩:=h;have h1:=qAM h1;obtain⟨fu,x,hx⟩:=hf f (by simp)
        rw[h1,qHB h2,List.take_of_length_le (by simp;omega)] at hx
        exact ihM _ _ _ _ _ h3 hx
      | f :: g::r,h=>
        cases τ with
        | pr a b=>
          rw[qiJ] at h;simp only[yAA] at h;obtain⟨h1,h2,h3,h4⟩:=h;have h1:=qAM h1;obtain⟨fu,x,hx⟩:=hf f (by simp)
          rw[h1,qHB h2] at hx;have hs:Ty.size (.pr a b)=a.size+b.size:=rfl;obtain⟨y,hy,hry⟩:=ihM _ _ _ _ _ h3 hx;obtain⟨z,hz,hrz⟩:=ihF b (off+a.size) (g::r) 0 cs h4 (by omega) (fun g' hg=>hf g' (by simp at hg ⊢;exact .inr hg))
          refine⟨(y,z),⟨hy,hz⟩,?_⟩;exact qWA hry (by rw[List.drop_drop];exact hrz)
        | _=>simp[tyF] at h
end
def qi2:List SV->SV
 | [sv]=>sv
 | _=>.und
def zF8 (g:Bool) (τ:Ty) (x:τ.T):SV:=bif g then .agg (τ.enc x) else qi2 (τ.enc x)
abbrev Par:=TypeId×Bool×Ty
inductive ArgsSV:List Par->List SV->Prop
 | nil:ArgsSV [] []
 | cons {t:TypeId}{g:Bool}{τ:Ty}{r:List Par}{l:List SV}(x:τ.T) (hw:τ.wf x) (h:ArgsSV r l):ArgsSV ((t,g, τ)::r) (zF8 g τ x::l)
def isStruct (P:Program) (t:TypeId):Bool:=match P.underlying t with|some (.struct _)=>true|_=>false
def qsQ (P:Program) (t:TypeId):Bool:=match P.underlying t with|some (.array _ _)=>true|_=>false
def qUM (P:Program) (p:Par):Bool:=
 tyM P 40 p.2.2 p.1&&((bif p.2.1 then isStruct P p.1 else !isStruct P p.1&&(!qsQ P p.1&&Nat.beq p.2.2.size 1))&&(P.readableRec p.1&&decide (p.1<P.types.size)))
section
variable {H:Type}{enc:TypeId×Value->H}{P:Program}{W:World}
theorem qgE {base b0:Nat}{spare:Nat->Bool}{held:Bool}{t:TypeId}{g:Bool}{τ:Ty}(hok:qUM P (t,g, τ)=true) {v:Value}{d:DataW H}{ps:List MemPlace}(hd:DataW.Trod enc P W base spare held t v d ps)
  (hv:Value.okWide P W .any b0 t v):∃ x:τ.T, τ.wf x/\Rel (fun b=>W.heap[b]?) β0 (zF8 g τ x) v:=by
 simp only[qUM,yAA] at hok;obtain⟨h1,h2,_⟩:=hok;obtain⟨n,hn⟩:=hd;obtain⟨x,hx,hr⟩:=(qhS 40).1 τ t n _ _ h1 hn;refine⟨x,hx,?_⟩;cases g with
 | true=>
  simp only[cond_true,isStruct] at h2;unfold Value.okWide at hv;split at hv
  ·obtain⟨cs,rfl,_⟩:=hv;exact .aggL hr
  ·rename_i hu;rw[hu] at h2;cases h2
  ·split at h2
   ·rename_i hu;simp_all
   ·cases h2
 | false=>
  simp only[cond_false,isStruct,qsQ,yAA] at h2;obtain⟨h3,h4,h5⟩:=h2;have hsz:=qAM h5;have hc:v.cells.toList=[v]:=by
   unfold Value.okWide at hv;split at hv
   ·rename_i hu;rw[hu] at h3;cases h3
   ·rename_i hu;rw[hu] at h4;cases h4
   ·cases v<;>first|rfl|(exfalso;unfold Cell.okWide Cell.ok at hv;split at hv<;>simp_all)
  have hl:=τ.enc_len x;rw[hsz] at hl;rw[hc] at hr;show Rel _ _ (qi2 (τ.enc x)) v;generalize τ.enc x=l at hl hr
  match l,hl with
  | [sv],_=>exact hr.2 0 sv v rfl rfl
theorem qbT {base b0:Nat}{spare:Nat->Bool}{held:Bool}:∀ {tts:List Par}{vs:List Value}{ds:List (DataW H)}{ps:List MemPlace},(∀ p∈tts,qUM P p=true)->DataW.TrodAll enc P W base spare held (tts.map (·.1)) vs ds ps->
  (∀ (j:Nat) t v,(tts.map (·.1))[j]?=some t->vs[j]?=some v->Value.okWide P W .any b0 t v)->∃ svs,ArgsSV tts svs/\qA5 (fun b=>W.heap[b]?) β0 svs vs:=by
 intro tts
 induction tts with
 | nil=>
  intro vs ds ps _ h _;obtain⟨rfl,_,_⟩:=trodAll_nil h;exact⟨[],.nil,rfl,fun i sv v h=>by simp at h⟩
 | cons p r ih=>
  obtain⟨t,g, τ⟩:=p;intro vs ds ps hok h hv;obtain⟨v,vs',d,ds',p1,q,rfl,rfl,rfl,h1,h2⟩:=trodAll_cons h;obtain⟨x,hx,hr⟩:=qgE (hok (t,g, τ) (by simp)) h1 (hv 0 t v rfl rfl)
  obtain⟨svs,hs,hl⟩:=ih (fun p hp=>hok p (by simp[hp])) h2 (fun j t v h1 h2=>hv (j+1) t v (by simpa using h1) (by simpa using h2))
  exact⟨_,.cons x hx hs,qA5.cons hr hl⟩
theorem qcA (hl:laidOutB P=true) {W':World}{sp:Nat->Bool}:∀ {tts:List Par}{vs:List Value}{ds:List (DataW H)}{ps:List MemPlace},(∀ p∈tts,qUM P p=true)->DataW.TrodAll enc P W 0 (fun _=>true) true (tts.map (·.1)) vs ds ps->
  (∀ p∈ps,W.sameAt W' p)->(∀ p∈ps,sp p.block=true)->DataW.TrodAll enc P W' 0 sp true (tts.map (·.1)) vs ds ps:=by
 intro tts
 induction tts with
 | nil=>
  intro vs ds ps _ h _ _;obtain⟨rfl,rfl,rfl⟩:=trodAll_nil h;exact trodAll_mk0
 | cons p r ih=>
  obtain⟨t,g, τ⟩:=p;intro vs ds ps hok h hs hsp;obtain⟨v,vs',d,ds',p1,q,rfl,rfl,rfl,h1,h2⟩:=trodAll_cons h;have hp:=hok _ (List.mem_cons_self ..);simp only[qUM,yAA,decide_eq_true_eq] at hp;exact⟨p1,q,WideElems.Trod_stays hl hp.2.2.1 hp.2.2.2 h1 (fun p hp=>hs p (by simp[hp])) (fun p hp=>hsp p (by simp[hp])),
   ih (fun p hp=>hok p (by simp[hp])) h2 (fun p hp=>hs p (by simp[hp])) (fun p hp=>hsp p (by simp[hp])),rfl⟩
theorem qRU {B:Base}{f:FuncId}{fn:Func}{s:ChangeSpec}{again:Bool}{fresh:Bool}(tts:List Par) {tb:TypeId}(hP:B.P=P) (hl:laidOutB P=true) (hok:(tts.all (qUM P))=true) (hpar:fn.params.toList=tts.map (·.1))
  (hvars:s.vars=[]) (hspec:∀ ds:List (DataW H),ds.length=tts.length->(s.fn H ds).results=[.lit (.bool true)]/\(s.fn H ds).args=ds/\(s.fn H ds).vars=[]) (hres:fn.resultTypes = #[tb]) (hb:P.underlying tb=some .bool)
  (ct:∀ svs,ArgsSV tts svs->Ct B f svs [] fun sv Φ=>sv=.bool true/\Φ=[])
  (W:World) (hG:B.G fun b=>W.heap[b]?) (base:Nat) (args:Array Value) (ds gs:List (DataW H)) (before:List MemPlace)
  (hval:∀ (j:Nat) t v,fn.params[j]?=some t->args[j]?=some v->Value.okWide P W .any base t v)
  (hW:DataW.Whole enc P fn.params.toList s.vars false W args.toList ds gs before):
  Calls P f args W fun e W'=>∃ v,e=.returned v/\s.post enc P fn false fresh false again W args v W':=by
 subst hP;have hok:∀ p∈tts,qUM B.P p=true:=fun p hp=>List.all_eq_true.1 hok p hp
 have hlt:=hW.lt;have hW':=hW;obtain⟨p,q,hA,hV,rfl,hfz,hnd⟩:=hW;rw[hvars] at hV;obtain⟨rfl,rfl⟩:=trodVars_none hV;rw[hpar] at hA;have hval':∀ (j:Nat) t v,(tts.map (·.1))[j]?=some t->args.toList[j]?=some v->Value.okWide B.P W .any base t v:=by
  intro j t v h1 h2;rw[<-hpar] at h1;exact hval j t v (by simpa using h1) (by simpa using h2)
 obtain⟨svs,hs,hrel⟩:=qbT hok hA hval';have hlen:ds.length=tts.length:=by
  have:∀ {ts:List TypeId}{vs:List Value}{ds:List (DataW H)}{ps:List MemPlace},DataW.TrodAll enc B.P W 0 (fun _=>true) true ts vs ds ps->ds.length=ts.length:=by
   intro ts
   induction ts with
   | nil=>intro vs ds ps h;obtain⟨_,rfl,_⟩:=trodAll_nil h;rfl
   | cons t ts ih=>intro vs ds ps h;obtain⟨v,vs',d,ds',p1,q,rfl,rfl,rfl,h1,h2⟩:=trodAll_cons h;simp[ih h2]
  simpa using this hA
 obtain⟨hs1,hs2,hs3⟩:=hspec ds hlen;have harr:args=args.toList.toArray:=by simp
 rw[harr];refine((ct svs hs).run hG hrel).mono fun e W' ⟨he,hg⟩=>?_
 subst he;refine⟨_,rfl,?_⟩;rw[<-harr];have hsame:∀ p'∈p,W.sameAt W' p':=fun p' hp'=>by
  have hb:=hg.block _ (hlt p' (by simpa using hp'))
  cases p' with
  | cell b off=>
   have hb:W'.heap[b]?=W.heap[b]?:=hb;show _=_;simp only[World.cell?,World.frozen?,hb]
  | map b=>
   have hb:W'.heap[b]?=W.heap[b]?:=hb;exact hb
 refine qUI (pa:=p) (pv:=[]) hW' ?_ ?_ ?_ (by simp) hg ?_
 ·intro b sp hd;have e:ds++([]:List (DataW H))=ds:=by simp
  rw[e,hs1,hres];exact(trodAll_cons_mk (shut_bool hb _) trodAll_mk0)
 ·intro sp hsp;have e:ds++([]:List (DataW H))=ds:=by simp
  rw[e,hs2,hpar];exact qcA hl hok hA hsame (fun p' hp'=>hsp p' (by simpa using hp'))
 ·intro sp _;have e:ds++([]:List (DataW H))=ds:=by simp
  rw[e,hs3,hvars];rfl
 ·exact ok_one hres rfl (okWide_bool_mk hb _)
theorem qSO {B:Base}{f:FuncId}{fn:Func}{s:ChangeSpec}{again:Bool}{fresh:Bool}(tts:List Par) {tb:TypeId}(hP:B.P=P) (hl:laidOutB P=true) (hok:(tts.all (qUM P))=true) (hpar:fn.params.toList=tts.map (·.1))
  (hvars:s.vars=[]) (hspec:∀ ds:List (DataW H),ds.length=tts.length->(s.fn H ds).results=[.lit (.bool true)]/\(s.fn H ds).args=ds/\(s.fn H ds).vars=[]) (hres:fn.resultTypes = #[tb]) (hb:P.underlying tb=some .bool)
  (hG:∀ W:World,W.ShapedOpen P->B.G fun b=>W.heap[b]?) (ct:∀ svs,ArgsSV tts svs->Ct B f svs [] fun sv Φ=>sv=.bool true/\Φ=[])
  (W:World) (base:Nat) (args:Array Value) (ds gs:List (DataW H)) (before:List MemPlace)
  (hval:∀ (j:Nat) t v,fn.params[j]?=some t->args[j]?=some v->Value.okWide P W .any base t v)
  (hW:DataW.Whole enc P fn.params.toList s.vars false W args.toList ds gs before) (hsh:W.ShapedOpen P):
  Calls P f args W fun e W'=>∃ v,e=.returned v/\s.post enc P fn false fresh false again W args v W':=
 qRU tts hP hl hok hpar hvars hspec hres hb ct W (hG W hsh) base args ds gs before hval hW
end
end Go.Vc
