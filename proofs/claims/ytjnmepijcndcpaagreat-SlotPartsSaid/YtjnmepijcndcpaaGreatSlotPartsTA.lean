/- A part of the proof: lemmas and walks that the last text of the claim joins; no condition. -/
import GoSem.Core.Utf8
import Derived.Lib.DecodeN
import Derived.Lib.TrimU
open List renaming length_pos_iff→yAA
set_option linter.unusedVariables false
set_option linter.unusedSimpArgs false
set_option maxHeartbeats 8000000
namespace Go.Vc
set_option autoImplicit false
def qnH (n:Int):List UInt8:=(Utf8.encode (if n<0\/n>1114111\/(55296<=n/\n<=57343) then 65533 else n)).data.toList
theorem qiN (n:Int):(qnH n).length<=4:=by
 unfold qnH;generalize (if n<0\/n>1114111\/(55296<=n/\n<=57343) then(65533:Int) else n)=c
 unfold Utf8.encode;generalize (if Utf8.valid c then c.toNat else Utf8.runeError)=c
 dsimp only;split
 ·simp
 ·split
  ·simp
  ·split<;>simp
end Go.Vc

namespace Go.Vc
set_option autoImplicit false
def mU (c:Nat):Nat:=if c<194\/c>244 then 0 else if c<224 then 1 else if c<240 then 2 else 3
def loU (c:Nat):Nat:=if c<194\/c>244 then 0 else if c=224 then 160 else if c=240 then 144 else 128
def hiU (c:Nat):Nat:=if c<194\/c>244 then 0 else if c=237 then 159 else if c=244 then 143 else 191
def qf1 (n b0 b1 b2 b3:Nat):Nat:=
 if 1<=mU b0/\1<n/\loU b0<=b1/\b1<=hiU b0 then
  if 2<=mU b0/\2<n/\128<=b2/\b2<=191 then
   if 3<=mU b0/\3<n/\128<=b3/\b3<=191 then 4 else 3
  else 2
 else 1
def zCB (n b0 b1 b2 b3:Nat):Prop:=b0<128\/(1<=mU b0/\qf1 n b0 b1 b2 b3=mU b0+1)
instance (n b0 b1 b2 b3:Nat):Decidable (zCB n b0 b1 b2 b3):=by unfold zCB;infer_instance
set_option maxHeartbeats 4000000
theorem qhP (n b0 b1 b2 b3:Nat) (h:1<=n):1<=qf1 n b0 b1 b2 b3/\qf1 n b0 b1 b2 b3<=n/\qf1 n b0 b1 b2 b3<=4/\qf1 n b0 b1 b2 b3<=mU b0+1:=by
 unfold qf1;repeat' split
 all_goals omega
def qLJ (l:List UInt8):Nat:=qf1 l.length (l.getD 0 0).toNat (l.getD 1 0).toNat (l.getD 2 0).toNat (l.getD 3 0).toNat
def okU (l:List UInt8):Bool:=decide (zCB l.length (l.getD 0 0).toNat (l.getD 1 0).toNat (l.getD 2 0).toNat (l.getD 3 0).toNat)
theorem qPS (l:List UInt8) (h:l≠[]):1<=qLJ l/\qLJ l<=l.length/\qLJ l<=4:=by
 have:1<=l.length:=yAA.mpr h;have:=qhP l.length (l.getD 0 0).toNat (l.getD 1 0).toNat (l.getD 2 0).toNat (l.getD 3 0).toNat this;exact⟨this.1,this.2.1,this.2.2.1⟩
def qk3:List UInt8:=[239,191,189]
def qGL (l:List UInt8):Nat:=
 if okU l=true/\l.getD 0 0=13/\1<l.length/\l.getD 1 0=10 then 2 else qLJ l
def qV4 (l:List UInt8):List UInt8:=
 if okU l=false\/l.getD 0 0=0 then qk3 else if l.getD 0 0=13 then[10] else l.take (qLJ l)
theorem qN2 (l:List UInt8) (h:l≠[]):1<=qGL l/\qGL l<=l.length:=by
 have:=qPS l h;unfold qGL;split<;>omega
def qf3 (l:List UInt8):List UInt8:=
 if h:l=[] then[] else qV4 l++qf3 (l.drop (qGL l))
termination_by l.length
decreasing_by
 have:=qN2 l h;have:0<l.length:=yAA.mpr h;rw[List.length_drop];omega
theorem qhV:qf3 []=[]:=by rw[qf3];rfl
theorem qlR (l:List UInt8) (h:l≠[]):qf3 l=qV4 l++qf3 (l.drop (qGL l)):=by rw[qf3,dif_neg h]
theorem qg0 (l:List UInt8) (h:l≠[]):1<=(qV4 l).length/\(qV4 l).length<=3*qGL l:=by
 have h1:=qPS l h;have h2:=qN2 l h;unfold qV4;split
 ·simp only[qk3,List.length_cons,List.length_nil];omega
 ·split
  ·simp;omega
  ·rename_i h3 h4;have:qGL l=qLJ l:=by unfold qGL;rw[if_neg (fun h=>h4 h.2.1)]
   rw[List.length_take];omega
end Go.Vc
