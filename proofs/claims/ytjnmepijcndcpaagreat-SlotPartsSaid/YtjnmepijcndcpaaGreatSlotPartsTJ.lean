/- A part of the proof: lemmas and walks that the last text of the claim joins; no condition. -/
import Derived.Test.YtjnmepijcndcpaaGreatSlotPartsTH
import Derived.Test.YtjnmepijcndcpaaGreatSlotPartsTI
import Derived.Test.YtjnmepijcndcpaaGreatSlotPartsTG
import Derived.Shelf.Spec.SlicesInsert
import Derived.Shelf.Spec.SlicesInsertGrow
import Derived.Shelf.Strings.Builder1
import Derived.Shelf.Strings.Builder2
import Derived.Shelf.Strings.OnBuilder
import Derived.Shelf.Strings.BuilderF
import Derived.Shelf.Strings.BuilderK
import Derived.Shelf.Strings.Builder2Cap
import Derived.Shelf.Strings.Search1
import Derived.Shelf.Strings.Search2
import Derived.Shelf.Strings.Search3
import Derived.Shelf.LaysM
import Derived.Shelf.Strings.Shaped
import Derived.Shelf.Strings.Prefix
import Derived.Shelf.Strings.FieldsFuncAny
import Derived.Shelf.Slices.Turned
import Derived.Shelf.Slices.Equal
import Derived.Ground.Names2Prog
import Derived.Shelf.Slices.Clone
import Derived.Shelf.Slices.Empties2
import Derived.Ground.SlgnProg
import Derived.Shelf.SlicesE.Clone
import Derived.Test.YtjnmepijcndcpaaGreatProg
import Derived.Shelf.Vars
import Derived.Test.YtjnmepijcndcpaaGreatRows
set_option linter.unusedVariables false
set_option linter.unusedSimpArgs false
set_option maxHeartbeats 8000000
namespace Go.Vc
open Go.Proofs
open Go.Vc.W
set_option maxRecDepth 10000
set_option maxHeartbeats 4000000
theorem qs2 {t:List qAD}{m:Int}(h:qB8 t m=true) (i:Int):(nd t i).kids.length<=60:=by
 by_cases hi:0<=i/\i<t.length
 ·exact(qD7 (qM4 h i hi)).2.2.2
 ·by_cases h2:i.toNat<t.length
  ·have e:nd t i=nd t (i.toNat:Int):=rfl;rw[e];exact(qD7 (qM4 h (i.toNat:Int) ⟨by omega,by omega⟩)).2.2.2
  ·have:nd t i=qAB.dflt:=by unfold nd;rw[List.getD_eq_getElem?_getD,List.getElem?_eq_none (by omega)];rfl
   rw[this];decide
instance iRight (t:List qAD) (m:Int):Fn BB 11 [.agg [.rd qAB t],.int .i64 m] (m<=45) (.bool (qB8 t m&&qCH t)):=by
 refine Fn.intro (N:=12) [0,1,2,4] [] Tryz.call11 Tryz.func11 rfl rfl (by kernel_rfl) (fun hpre=>?_)
 repeat'((conv=>whnf);first|exact qR|intro _|refine WA ?_ ?_|refine WF ?_|refine W1 rfl ?_ ?_|refine X1 (W1 rfl ?_ ?_))
 all_goals(try(conv=>whnf))
 all_goals(try first|exact obA|refine Ob.mk ?_)
 all_goals(have h1:=qdX ‹qB8 t m=true›;exact⟨by omega,fun i=>Nat.le_trans (qs2 ‹qB8 t m=true› i) (by decide)⟩)
end Go.Vc

namespace Go.Vc
open Go.Proofs
open Go.Vc.W
set_option maxRecDepth 100000
set_option maxHeartbeats 8000000
theorem zGF {t:List qAD}(h:qB8 t 30=true):qB8 t 45=true/\t.length<=30:=by
 unfold qB8 at h ⊢;rw[Bool.and_eq_true,decide_eq_true_eq] at h ⊢;exact⟨⟨by omega,h.2⟩,by omega⟩
theorem qm4 {a b c:Bool}(h:(!(a&&b) || !c)=false):a=true/\b=true/\c=true:=by
 cases a<;>cases b<;>cases c<;>simp_all
theorem zC9 {a b:Bool}(h:(!a || !b)=false):a=true/\b=true:=by
 cases a<;>cases b<;>simp_all
theorem zFU {t:List qAD}{ti:List UInt8}{be:List qA8}{ar:List (List UInt8)}{af:List qA8}{px:List UInt8}(h1:qB8 t 30=true) (h2:qCH t=true) (h3:qNF ti be ar af) (h4:qIR ti be ar af px=true):
  qA4 (mkT (qDC voB ti be ar af (qDO t)))=true/\(mkT (qDC voB ti be ar af (qDO t))).length<=280/\
  qL7 (mkT (qDC voB ti be ar af (qDO t))) be.length ar=(qJ1 voB ti be ar:Int)/\0<qJ1 voB ti be ar/\
  ((qE2 (mkT (qDC voB ti be ar af (qDO t))) (qJ1 voB ti be ar)).length:Int)=(fin t).L.length-1/\
  qCL (qC9 (mkT (qDC voB ti be ar af (qDO t))) (qJ1 voB ti be ar))=mkT (qDC voB ti be ar af (qDO [])):=by
 obtain⟨k1,k2⟩:=zGF h1;have hs:=qQI k1;have hne:t≠[]:=fun e=>by have:=qF3 h2;rw[e] at this;exact absurd this.1 (by decide)
 have hz:=qeF hne;obtain⟨f1,f2⟩:=qdN h4;have hp:=qdH voB ti be ar af (qDO t) (fun p hp=>(qI4 h3.2.2.2.2.1 p hp).2.2.2.2.2.1) (fun p hp=>(qI4 h3.2.2.2.2.2 p hp).2.2.2.2.2.1)
 obtain⟨a1,a2,a3⟩:=qg8 voB ti be ar af hne;exact⟨qd8 (qkL (qj9 hs)) (by omega),by rw[qJ2];omega,qdG voB ti be ar af (qDO t),a1,a2,by rw[a3,qeG]⟩
instance dSlotParts (t:List qAD) (ti:List UInt8) (be:List qA8) (ar:List (List UInt8)) (af:List qA8) (i:Int):
  Fn BB 3 [.agg [.rd qAB t],.agg [.str ti,.rd qCA be,.rd .str ar,.rd qCA af],.int .i64 i] True (.bool true):=by
 refine Fn.intro (N:=73) [0,1,2,3,4,6,7,8,9,17,33,41] [(4,[1,0,1,1,1,0,1,1,1,1,0,1,3]),(10,[0,0,0,1,1,1,1,1,1,1,1,1,1,1,1,1,1,1,3,3,3,3,3,3,3])] Tryz.call3 Tryz.func3 rfl rfl (by kernel_rfl) (fun hpre=>?_)
 repeat'((conv=>whnf);first|exact qR|intro _|refine WA ?_ ?_|refine WF ?_|refine W1 rfl ?_ ?_|refine W2 rfl ?_ ?_|refine W4 ?_ ?_|refine X1 (W1 rfl ?_ ?_)|refine X1 (W2 rfl ?_ ?_))
 all_goals(try(conv=>whnf))
 all_goals(try first|exact obA|refine Ob.mk ?_)
 all_goals(try rfl)
 all_goals(have hh:=qm4 ‹(!(qB8 t 30&&qCH t) || !qOR ti be ar af)=false›;obtain⟨h1,h2,h3⟩:=hh)
 all_goals(have hpg:=(qkU h3).1;obtain⟨k1,k2⟩:=zGF h1;have hs:=qQI k1;have hpa:=parts_all h2 i;have hnl:=qU3 (fin t).L)
 all_goals(try(first|omega|exact k1|exact hs|exact hpg|exact⟨hpg,hs,by omega⟩))
 all_goals(have hLl:(fin t).L.length<=30:=by(have d:=qDI t;have:=qCX d.nod d.lt;omega))
 all_goals(try((show -9223372036854775808<=_/\_<=(9223372036854775807:Int));omega))
 all_goals(try(exfalso;have h:=‹((_:Int) != _)=true›;rw[bne_iff_ne] at h;omega))
 all_goals(have hw:=zC9 ‹(!qJ6 t || !qIR ti be ar af [117,99])=false›;obtain⟨w1,w2,w3,w4,w5,w6⟩:=zFU h1 h2 hpg hw.2)
 all_goals(try(first|exact w1|exact w2|exact⟨w1,hpg.2.1⟩|exact⟨hpg,by decide,by decide⟩))
 ·rw[w3,w5,w6,hnl,qdR.2 rfl,decide_eq_true (by omega),beq_self_eq_true];rfl
end Go.Vc

namespace Go.Vc
open Go.Proofs
set_option maxRecDepth 100000
theorem qmM (W:World) (hsh:W.ShapedOpen Tryz.prog):BB.G fun b=>W.heap[b]?:=by
 obtain⟨m,hm⟩:=Go.Proofs.cell_of_shapedOpen_int (g:=0) (zero := #[.int .i64 0]) (t:=3) hsh (of_decide_eq_true (by kernel_rfl)) (by kernel_rfl) rfl (by kernel_rfl) (by kernel_rfl) Tryz.underlying3
 have hm':W.cell? ⟨0,0,none⟩=some (.int .i64 m):=hm;unfold World.cell? at hm';show ∃ c T fr m,W.heap[0]?=some (.cells c T fr)/\c[0]?=some (.int .i64 m);cases h:W.heap[0]? with
 | none=>simp[h] at hm'
 | some o=>
  cases o with
  | cells c T fr=>exact⟨c,T,fr,m,rfl,by simpa[h] using hm'⟩
  | _=>simp[h] at hm'
end Go.Vc
