/- A part of the proof: lemmas and walks that the last text of the claim joins; no condition. -/
import Derived.Test.YtjnmepijcndcpaaGreatSlotPartsVF
import Derived.Laws.Externs
import Derived.Test.YtjnmepijcndcpaaGreatProg
import Derived.Test.YtjnmepijcndcpaaGreatSlotPartsTA
import Derived.Shelf.Spec.SlicesInsert
import Derived.Shelf.Spec.SlicesInsertGrow
import Derived.Shelf.Strings.Builder1
import Derived.Shelf.Strings.Builder2
import Derived.Shelf.Strings.OnBuilder
import Derived.Shelf.Strings.BuilderF
import Derived.Shelf.Strings.BuilderK
import Derived.Shelf.Strings.Builder2Cap
import Derived.Shelf.Strings.Search1
import Derived.Shelf.Strings.Search2
import Derived.Shelf.Strings.Search3
import Derived.Shelf.LaysM
import Derived.Shelf.Strings.Shaped
import Derived.Shelf.Strings.Prefix
import Derived.Shelf.Strings.FieldsFuncAny
import Derived.Shelf.Slices.Turned
import Derived.Shelf.Slices.Equal
import Derived.Ground.Names2Prog
import Derived.Shelf.Slices.Clone
import Derived.Shelf.Slices.Empties2
import Derived.Ground.SlgnProg
import Derived.Shelf.SlicesE.Clone
import Derived.Shelf.Slices.Delete
import Derived.Shelf.Slices.Cells
import Derived.Shelf.Slices.Empties
open Bool renaming and_eq_false_iff→yAA,and_eq_true→yAB,beq_comm→yAC,eq_false_iff→yAD,false_or→yAE,not_eq_true'→yAF,or_eq_false_iff→yAG,or_false→yAH,true_and→yAI
open Int renaming ofNat_lt→yAJ,toNat_natCast→yAK
open List renaming all_cons→yAL,any_append→yAM,any_cons→yAN,any_nil→yAO,append_assoc→yAP,append_nil→yAQ,concat_eq_append→yAR,contains_eq_any_beq→yAS,drop_eq_getElem_cons→yAT,drop_eq_nil_of_le→yAU,eq_nil_or_concat→yAV,filter_append→yAW,filter_congr→yAX,filter_cons→yAY,filter_nil→yAZ,find?_cons→yA0,foldl_append→yA1,getD_cons_zero→yA2,getD_eq_getElem?_getD→yA3,getElem?_append_right→yA4,getElem?_eq_getElem→yA5,getElem?_eq_none→yA6,getElem?_replicate→yA7,getElem?_set→yA8,idxOf_append→yA9,idxOf_cons_self→yBA,length_append→yBB,length_cons→yBC,length_drop→yBD,length_pos_iff→yBE,length_replicate→yBF,length_set→yBG,length_take→yBH,map_append→yBI,mem_append→yBJ,mem_append_left→yBK,mem_cons→yBL,mem_filter→yBM,mem_of_getLast?→yBN,mem_singleton→yBO,pairwise_append→yBP,set_append_right→yBQ,take_append_drop→yBR,take_length→yBS,take_of_length_le→yBT,take_succ_cons→yBU,take_succ_eq_append_getElem→yBV
open Nat renaming le_refl→yBW,le_trans→yBX,lt_or_ge→yBY,min_eq_left→yBZ,zero_le→yB0
open UInt8 renaming ofNat_toNat→yB1
set_option linter.unusedVariables false
set_option linter.unusedSimpArgs false
set_option maxHeartbeats 8000000
namespace Go.Vc
open Go.Proofs
theorem mixed:Tryz.prog.follows .mixedOrders=true:=by kernel_rfl
abbrev qAL:Ty:=.int .i64
abbrev qnJ:Ty:=.pr qAL qAL
abbrev qA2:Ty:=.pr .str .str
abbrev zCS:Ty:=.pr qAL (.pr .str (.pr (.sl qA2) (.pr .bool .str)))
abbrev qAB:Ty:=.pr qAL (.pr qAL (.pr .str (.pr (.sl qA2) (.pr .str (.pr qAL (.sl qAL))))))
abbrev zDX:Ty:=.pr qAL (.pr .str (.pr qAL (.pr .str qAL)))
abbrev qWM:Ty:=.pr .str (.pr .str .str)
abbrev qCA:Ty:=.pr .str (.pr .str (.pr .str (.pr .str (.pr .str (.sl qWM)))))
def tyB (t:TypeId):Option Ty:=
 bif Nat.beq t 3 then some qAL else bif Nat.beq t 4 then some .bool else bif Nat.beq t 5 then some .byte else bif Nat.beq t 9 then some .str else bif Nat.beq t 54 then some qA2 else bif Nat.beq t 49 then some qAB else bif Nat.beq t 200 then some qnJ else bif Nat.beq t 164 then some zCS else bif Nat.beq t 26 then some (.sl .str) else bif Nat.beq t 172 then some qnJ else bif Nat.beq t 83 then some .cpx else bif Nat.beq t 130 then some .flt else bif Nat.beq t 69 then some zDX else bif Nat.beq t 150 then some .str else bif Nat.beq t 119 then some qWM else bif Nat.beq t 73 then some qCA else none
def zF6 (t:TypeId):Bool:=Nat.beq t 54||Nat.beq t 69
theorem qmE : ∀ t, zF6 t = true → Tryz.prog.stoodInHeld t = false ∧ Tryz.prog.eqGuardType Tryz.prog.depth t = false ∧ ((Tryz.prog.fieldsOf t).toList.all fun f => f.name != "_") = true := by
 intro t h;rcases Bool.or_eq_true_iff.1 h with h|h
 all_goals(obtain rfl:=qAM h;exact⟨by kernel_rfl,by kernel_rfl,by kernel_rfl⟩)
def neB (f:FuncId):Bool:=Nat.beq f 255
theorem qqN:∀ f,neB f=true->∀ (x:Value) (w:World),(callFunc f #[x]).run Tryz.prog w=.ok (.value x) w:=by
 intro f h x w;obtain rfl:=qAM h;rw[run_callFunc_extern Tryz.func255 (by kernel_rfl) (by kernel_rfl) (by kernel_rfl) (e:=Extern.AbiNoEscape.same) (by kernel_rfl)]
 rfl
def tbB (t:TypeId):Bool:=Nat.beq t 191
noncomputable abbrev BB:Base:={ P:=Tryz.prog,mixed:=mixed,G:=fun r=>∃ c T fr m,r 0=some (.cells c T fr)/\c[0]?=some (.int .i64 m),mono:=fun r r' h ⟨c,T,fr,m,h1,h2⟩=>⟨c,T,fr,m,h 0 _ h1,h2⟩,ty0:=tyB,eqs:=zF6,eqs_ok:=qmE,ne:=neB,ne_ok:=qqN,tb:=tbB }
set_option maxRecDepth 10000
@[simp] theorem zF3:qAA Tryz.prog 1=8:=rfl
@[simp] theorem zDL:qAA BB.P 1=8:=rfl
@[simp] theorem zF2:qAA Tryz.prog 2=8:=rfl
@[simp] theorem zEZ:qAA BB.P 2=8:=rfl
@[simp] theorem bytes3:qAA Tryz.prog 3=8:=rfl
@[simp] theorem qe0:qAA BB.P 3=8:=rfl
@[simp] theorem bytes4:qAA Tryz.prog 4=1:=rfl
@[simp] theorem zFQ:qAA BB.P 4=1:=rfl
@[simp] theorem bytes5:qAA Tryz.prog 5=1:=rfl
@[simp] theorem zEJ:qAA BB.P 5=1:=rfl
@[simp] theorem zGD:qAA Tryz.prog 6=1:=rfl
@[simp] theorem zET:qAA BB.P 6=1:=rfl
@[simp] theorem zF4:qAA Tryz.prog 7=24:=rfl
@[simp] theorem zEC:qAA BB.P 7=24:=rfl
@[simp] theorem zGA:qAA Tryz.prog 8=24:=rfl
@[simp] theorem zFI:qAA BB.P 8=24:=rfl
@[simp] theorem bytes9:qAA Tryz.prog 9=16:=rfl
@[simp] theorem zF0:qAA BB.P 9=16:=rfl
@[simp] theorem zED:qAA Tryz.prog 10=16:=rfl
@[simp] theorem zBE:qAA BB.P 10=16:=rfl
@[simp] theorem zDY:qAA Tryz.prog 11=16:=rfl
@[simp] theorem qvA:qAA BB.P 11=16:=rfl
@[simp] theorem zFZ:qAA Tryz.prog 12=8:=rfl
@[simp] theorem qv4:qAA BB.P 12=8:=rfl
@[simp] theorem zC6:qAA Tryz.prog 13=24:=rfl
@[simp] theorem qwP:qAA BB.P 13=24:=rfl
@[simp] theorem zEY:qAA Tryz.prog 14=24:=rfl
@[simp] theorem zAO:qAA BB.P 14=24:=rfl
@[simp] theorem zE0:qAA Tryz.prog 15=8:=rfl
@[simp] theorem qyQ:qAA BB.P 15=8:=rfl
@[simp] theorem zDR:qAA Tryz.prog 16=8:=rfl
@[simp] theorem qwL:qAA BB.P 16=8:=rfl
@[simp] theorem zE8:qAA Tryz.prog 17=8:=rfl
@[simp] theorem zBL:qAA BB.P 17=8:=rfl
@[simp] theorem zEA:qAA Tryz.prog 18=8:=rfl
@[simp] theorem qz2:qAA BB.P 18=8:=rfl
@[simp] theorem zDF:qAA Tryz.prog 19=8:=rfl
@[simp] theorem qzS:qAA BB.P 19=8:=rfl
@[simp] theorem zDB:qAA Tryz.prog 20=16:=rfl
@[simp] theorem zAX:qAA BB.P 20=16:=rfl
@[simp] theorem bytes21:qAA Tryz.prog 21=4:=rfl
@[simp] theorem quR:qAA BB.P 21=4:=rfl
@[simp] theorem zCN:qAA Tryz.prog 22=24:=rfl
@[simp] theorem zBI:qAA BB.P 22=24:=rfl
@[simp] theorem bytes23:qAA Tryz.prog 23=24:=rfl
@[simp] theorem qyN:qAA BB.P 23=24:=rfl
@[simp] theorem zC2:qAA Tryz.prog 24=24:=rfl
@[simp] theorem qxB:qAA BB.P 24=24:=rfl
@[simp] theorem bytes25:qAA Tryz.prog 25=24:=rfl
@[simp] theorem zB2:qAA BB.P 25=24:=rfl
@[simp] theorem bytes26:qAA Tryz.prog 26=24:=rfl
@[simp] theorem qv0:qAA BB.P 26=24:=rfl
@[simp] theorem bytes27:qAA Tryz.prog 27=88:=rfl
@[simp] theorem qz9:qAA BB.P 27=88:=rfl
@[simp] theorem bytes28:qAA Tryz.prog 28=88:=rfl
@[simp] theorem zBY:qAA BB.P 28=88:=rfl
@[simp] theorem zC1:qAA Tryz.prog 29=8:=rfl
@[simp] theorem qvX:qAA BB.P 29=8:=rfl
@[simp] theorem bytes30:qAA Tryz.prog 30=8:=rfl
@[simp] theorem qz0:qAA BB.P 30=8:=rfl
@[simp] theorem zCO:qAA Tryz.prog 31=8:=rfl
@[simp] theorem qyM:qAA BB.P 31=8:=rfl
@[simp] theorem zFS:qAA Tryz.prog 32=24:=rfl
@[simp] theorem qvM:qAA BB.P 32=24:=rfl
@[simp] theorem zFY:qAA Tryz.prog 33=8:=rfl
@[simp] theorem qz6:qAA BB.P 33=8:=rfl
@[simp] theorem zCZ:qAA Tryz.prog 34=8:=rfl
@[simp] theorem qu4:qAA BB.P 34=8:=rfl
@[simp] theorem zE6:qAA Tryz.prog 35=8:=rfl
@[simp] theorem qz4:qAA BB.P 35=8:=rfl
@[simp] theorem zE3:qAA Tryz.prog 36=8:=rfl
@[simp] theorem qyA:qAA BB.P 36=8:=rfl
@[simp] theorem zD5:qAA Tryz.prog 37=8:=rfl
@[simp] theorem qwI:qAA BB.P 37=8:=rfl
@[simp] theorem zEI:qAA Tryz.prog 38=8:=rfl
@[simp] theorem qwF:qAA BB.P 38=8:=rfl
@[simp] theorem zFD:qAA Tryz.prog 39=8:=rfl
@[simp] theorem qu2:qAA BB.P 39=8:=rfl
@[simp] theorem zC8:qAA Tryz.prog 40=8:=rfl
@[simp] theorem qvJ:qAA BB.P 40=8:=rfl
@[simp] theorem zC5:qAA Tryz.prog 41=8:=rfl
@[simp] theorem qzO:qAA BB.P 41=8:=rfl
@[simp] theorem zB9:qAA Tryz.prog 42=8:=rfl
@[simp] theorem zAL:qAA BB.P 42=8:=rfl
@[simp] theorem zCW:qAA Tryz.prog 43=8:=rfl
@[simp] theorem qvK:qAA BB.P 43=8:=rfl
@[simp] theorem zC4:qAA Tryz.prog 44=8:=rfl
@[simp] theorem zBR:qAA BB.P 44=8:=rfl
@[simp] theorem zE4:qAA Tryz.prog 45=8:=rfl
@[simp] theorem qyR:qAA BB.P 45=8:=rfl
@[simp] theorem zES:qAA Tryz.prog 46=8:=rfl
@[simp] theorem zAU:qAA BB.P 46=8:=rfl
@[simp] theorem zD6:qAA Tryz.prog 47=24:=rfl
@[simp] theorem qzY:qAA BB.P 47=24:=rfl
@[simp] theorem zFO:qAA Tryz.prog 48=104:=rfl
@[simp] theorem qwB:qAA BB.P 48=104:=rfl
@[simp] theorem qQ4:qAA Tryz.prog 49=104:=rfl
@[simp] theorem qMB:qAA BB.P 49=104:=rfl
@[simp] theorem zDJ:qAA Tryz.prog 50=8:=rfl
@[simp] theorem zBP:qAA BB.P 50=8:=rfl
@[simp] theorem zCA:qAA Tryz.prog 51=8:=rfl
@[simp] theorem qu3:qAA BB.P 51=8:=rfl
@[simp] theorem zC7:qAA Tryz.prog 52=8:=rfl
@[simp] theorem quY:qAA BB.P 52=8:=rfl
@[simp] theorem zD0:qAA Tryz.prog 53=32:=rfl
@[simp] theorem qvW:qAA BB.P 53=32:=rfl
@[simp] theorem qQN:qAA Tryz.prog 54=32:=rfl
@[simp] theorem qMQ:qAA BB.P 54=32:=rfl
@[simp] theorem zEU:qAA Tryz.prog 55=8:=rfl
@[simp] theorem qxW:qAA BB.P 55=8:=rfl
@[simp] theorem zCU:qAA Tryz.prog 56=8:=rfl
@[simp] theorem qv9:qAA BB.P 56=8:=rfl
@[simp] theorem zDZ:qAA Tryz.prog 57=8:=rfl
@[simp] theorem zBA:qAA BB.P 57=8:=rfl
@[simp] theorem zCT:qAA Tryz.prog 58=8:=rfl
@[simp] theorem qv5:qAA BB.P 58=8:=rfl
@[simp] theorem zEV:qAA Tryz.prog 59=8:=rfl
@[simp] theorem qvE:qAA BB.P 59=8:=rfl
@[simp] theorem zE1:qAA Tryz.prog 60=8:=rfl
@[simp] theorem qz1:qAA BB.P 60=8:=rfl
@[simp] theorem zE2:qAA Tryz.prog 61=8:=rfl
@[simp] theorem zBB:qAA BB.P 61=8:=rfl
@[simp] theorem zCF:qAA Tryz.prog 62=8:=rfl
@[simp] theorem qwW:qAA BB.P 62=8:=rfl
@[simp] theorem zDH:qAA Tryz.prog 63=8:=rfl
@[simp] theorem qy7:qAA BB.P 63=8:=rfl
@[simp] theorem zDG:qAA Tryz.prog 64=8:=rfl
@[simp] theorem zAS:qAA BB.P 64=8:=rfl
@[simp] theorem zEX:qAA Tryz.prog 65=24:=rfl
@[simp] theorem qu1:qAA BB.P 65=24:=rfl
@[simp] theorem zC0:qAA Tryz.prog 66=8:=rfl
@[simp] theorem qz3:qAA BB.P 66=8:=rfl
@[simp] theorem zDT:qAA Tryz.prog 67=8:=rfl
@[simp] theorem zA5:qAA BB.P 67=8:=rfl
@[simp] theorem zFJ:qAA Tryz.prog 68=56:=rfl
@[simp] theorem qzW:qAA BB.P 68=56:=rfl
@[simp] theorem zCI:qAA Tryz.prog 69=56:=rfl
@[simp] theorem qy6:qAA BB.P 69=56:=rfl
@[simp] theorem zCP:qAA Tryz.prog 70=8:=rfl
@[simp] theorem qxM:qAA BB.P 70=8:=rfl
@[simp] theorem zFC:qAA Tryz.prog 71=24:=rfl
@[simp] theorem qzE:qAA BB.P 71=24:=rfl
@[simp] theorem zFF:qAA Tryz.prog 72=104:=rfl
@[simp] theorem qwX:qAA BB.P 72=104:=rfl
@[simp] theorem zFR:qAA Tryz.prog 73=104:=rfl
@[simp] theorem qvO:qAA BB.P 73=104:=rfl
@[simp] theorem zEL:qAA Tryz.prog 74=8:=rfl
@[simp] theorem zAA:qAA BB.P 74=8:=rfl
@[simp] theorem zCC:qAA Tryz.prog 75=8:=rfl
@[simp] theorem qxS:qAA BB.P 75=8:=rfl
@[simp] theorem zCY:qAA Tryz.prog 76=8:=rfl
@[simp] theorem qx1:qAA BB.P 76=8:=rfl
@[simp] theorem zDV:qAA Tryz.prog 78=8:=rfl
@[simp] theorem zA8:qAA BB.P 78=8:=rfl
@[simp] theorem zCQ:qAA Tryz.prog 79=24:=rfl
@[simp] theorem zBJ:qAA BB.P 79=24:=rfl
@[simp] theorem zCH:qAA Tryz.prog 80=8:=rfl
@[simp] theorem qyS:qAA BB.P 80=8:=rfl
@[simp] theorem zFA:qAA Tryz.prog 81=8:=rfl
@[simp] theorem qxH:qAA BB.P 81=8:=rfl
@[simp] theorem zFL:qAA Tryz.prog 82=8:=rfl
@[simp] theorem zA2:qAA BB.P 82=8:=rfl
@[simp] theorem zDD:qAA Tryz.prog 83=16:=rfl
@[simp] theorem qwQ:qAA BB.P 83=16:=rfl
@[simp] theorem zEE:qAA Tryz.prog 84=8:=rfl
@[simp] theorem zAI:qAA BB.P 84=8:=rfl
@[simp] theorem zCL:qAA Tryz.prog 85=8:=rfl
@[simp] theorem qxQ:qAA BB.P 85=8:=rfl
@[simp] theorem zEW:qAA Tryz.prog 86=8:=rfl
@[simp] theorem qzV:qAA BB.P 86=8:=rfl
@[simp] theorem zEH:qAA Tryz.prog 87=8:=rfl
@[simp] theorem quX:qAA BB.P 87=8:=rfl
@[simp] theorem zDQ:qAA Tryz.prog 88=8:=rfl
@[simp] theorem quT:qAA BB.P 88=8:=rfl
@[simp] theorem zD8:qAA Tryz.prog 89=8:=rfl
@[simp] theorem qwC:qAA BB.P 89=8:=rfl
@[simp] theorem zDE:qAA Tryz.prog 90=8:=rfl
@[simp] theorem zBZ:qAA BB.P 90=8:=rfl
@[simp] theorem zEN:qAA Tryz.prog 91=8:=rfl
@[simp] theorem qwV:qAA BB.P 91=8:=rfl
@[simp] theorem zD3:qAA Tryz.prog 92=8:=rfl
@[simp] theorem qxF:qAA BB.P 92=8:=rfl
@[simp] theorem zFM:qAA Tryz.prog 93=8:=rfl
@[simp] theorem zB5:qAA BB.P 93=8:=rfl
@[simp] theorem zCX:qAA Tryz.prog 94=8:=rfl
@[simp] theorem qvR:qAA BB.P 94=8:=rfl
@[simp] theorem zEK:qAA Tryz.prog 95=24:=rfl
@[simp] theorem qxD:qAA BB.P 95=24:=rfl
@[simp] theorem zEQ:qAA Tryz.prog 96=8:=rfl
@[simp] theorem zB4:qAA BB.P 96=8:=rfl
@[simp] theorem zER:qAA Tryz.prog 97=8:=rfl
@[simp] theorem qxN:qAA BB.P 97=8:=rfl
@[simp] theorem zE7:qAA Tryz.prog 98=8:=rfl
@[simp] theorem qx2:qAA BB.P 98=8:=rfl
@[simp] theorem zFE:qAA Tryz.prog 99=8:=rfl
@[simp] theorem zAT:qAA BB.P 99=8:=rfl
@[simp] theorem qw4:qAA Tryz.prog 100=8:=rfl
@[simp] theorem qoZ:qAA BB.P 100=8:=rfl
@[simp] theorem qw5:qAA Tryz.prog 102=8:=rfl
@[simp] theorem qn5:qAA BB.P 102=8:=rfl
@[simp] theorem qx4:qAA Tryz.prog 103=8:=rfl
@[simp] theorem qo7:qAA BB.P 103=8:=rfl
@[simp] theorem qvC:qAA Tryz.prog 104=8:=rfl
@[simp] theorem qtQ:qAA BB.P 104=8:=rfl
@[simp] theorem qzR:qAA Tryz.prog 105=8:=rfl
@[simp] theorem qn4:qAA BB.P 105=8:=rfl
@[simp] theorem zAH:qAA Tryz.prog 106=8:=rfl
@[simp] theorem qq7:qAA BB.P 106=8:=rfl
@[simp] theorem qyP:qAA Tryz.prog 107=8:=rfl
@[simp] theorem qrO:qAA BB.P 107=8:=rfl
@[simp] theorem zAD:qAA Tryz.prog 108=8:=rfl
@[simp] theorem qrI:qAA BB.P 108=8:=rfl
@[simp] theorem qvP:qAA Tryz.prog 109=8:=rfl
@[simp] theorem qoX:qAA BB.P 109=8:=rfl
@[simp] theorem zB8:qAA Tryz.prog 110=8:=rfl
@[simp] theorem qoN:qAA BB.P 110=8:=rfl
@[simp] theorem qxL:qAA Tryz.prog 111=8:=rfl
@[simp] theorem qt8:qAA BB.P 111=8:=rfl
@[simp] theorem quP:qAA Tryz.prog 112=8:=rfl
@[simp] theorem qpM:qAA BB.P 112=8:=rfl
@[simp] theorem zBW:qAA Tryz.prog 113=8:=rfl
@[simp] theorem qsJ:qAA BB.P 113=8:=rfl
@[simp] theorem zA7:qAA Tryz.prog 114=8:=rfl
@[simp] theorem qrY:qAA BB.P 114=8:=rfl
@[simp] theorem qxG:qAA Tryz.prog 115=8:=rfl
@[simp] theorem qsK:qAA BB.P 115=8:=rfl
@[simp] theorem qxV:qAA Tryz.prog 116=8:=rfl
@[simp] theorem qqX:qAA BB.P 116=8:=rfl
@[simp] theorem qyD:qAA Tryz.prog 117=8:=rfl
@[simp] theorem qpA:qAA BB.P 117=8:=rfl
@[simp] theorem qwR:qAA Tryz.prog 118=48:=rfl
@[simp] theorem qqH:qAA BB.P 118=48:=rfl
@[simp] theorem qw0:qAA Tryz.prog 119=48:=rfl
@[simp] theorem qqZ:qAA BB.P 119=48:=rfl
@[simp] theorem qx7:qAA Tryz.prog 120=8:=rfl
@[simp] theorem qpI:qAA BB.P 120=8:=rfl
@[simp] theorem qyF:qAA Tryz.prog 121=8:=rfl
@[simp] theorem quF:qAA BB.P 121=8:=rfl
@[simp] theorem qw8:qAA Tryz.prog 122=8:=rfl
@[simp] theorem qrB:qAA BB.P 122=8:=rfl
@[simp] theorem qyT:qAA Tryz.prog 123=136:=rfl
@[simp] theorem qpL:qAA BB.P 123=136:=rfl
@[simp] theorem zBQ:qAA Tryz.prog 124=136:=rfl
@[simp] theorem qsP:qAA BB.P 124=136:=rfl
@[simp] theorem zB1:qAA Tryz.prog 126=8:=rfl
@[simp] theorem qpX:qAA BB.P 126=8:=rfl
@[simp] theorem qvB:qAA Tryz.prog 127=8:=rfl
@[simp] theorem quC:qAA BB.P 127=8:=rfl
@[simp] theorem qyW:qAA Tryz.prog 128=8:=rfl
@[simp] theorem qpK:qAA BB.P 128=8:=rfl
@[simp] theorem zAG:qAA Tryz.prog 129=8:=rfl
@[simp] theorem qoS:qAA BB.P 129=8:=rfl
@[simp] theorem qzT:qAA Tryz.prog 130=8:=rfl
@[simp] theorem qpC:qAA BB.P 130=8:=rfl
@[simp] theorem qx0:qAA Tryz.prog 131=32:=rfl
@[simp] theorem qs5:qAA BB.P 131=32:=rfl
@[simp] theorem zAF:qAA Tryz.prog 132=32:=rfl
@[simp] theorem qt0:qAA BB.P 132=32:=rfl
@[simp] theorem zAW:qAA Tryz.prog 133=8:=rfl
@[simp] theorem qrD:qAA BB.P 133=8:=rfl
@[simp] theorem zBM:qAA Tryz.prog 134=8:=rfl
@[simp] theorem quO:qAA BB.P 134=8:=rfl
@[simp] theorem qvQ:qAA Tryz.prog 135=8:=rfl
@[simp] theorem qqI:qAA BB.P 135=8:=rfl
@[simp] theorem qvS:qAA Tryz.prog 136=8:=rfl
@[simp] theorem qnV:qAA BB.P 136=8:=rfl
@[simp] theorem qvD:qAA Tryz.prog 137=8:=rfl
@[simp] theorem qqG:qAA BB.P 137=8:=rfl
@[simp] theorem qzI:qAA Tryz.prog 138=8:=rfl
@[simp] theorem qtG:qAA BB.P 138=8:=rfl
@[simp] theorem zAZ:qAA Tryz.prog 139=8:=rfl
@[simp] theorem qp1:qAA BB.P 139=8:=rfl
@[simp] theorem qyG:qAA Tryz.prog 140=8:=rfl
@[simp] theorem qsS:qAA BB.P 140=8:=rfl
@[simp] theorem zBD:qAA Tryz.prog 141=8:=rfl
@[simp] theorem qtO:qAA BB.P 141=8:=rfl
@[simp] theorem qwG:qAA Tryz.prog 142=8:=rfl
@[simp] theorem qtX:qAA BB.P 142=8:=rfl
@[simp] theorem qy8:qAA Tryz.prog 143=8:=rfl
@[simp] theorem qoT:qAA BB.P 143=8:=rfl
@[simp] theorem qvI:qAA Tryz.prog 144=8:=rfl
@[simp] theorem qsL:qAA BB.P 144=8:=rfl
@[simp] theorem qu9:qAA Tryz.prog 145=8:=rfl
@[simp] theorem qs1:qAA BB.P 145=8:=rfl
@[simp] theorem qyZ:qAA Tryz.prog 146=8:=rfl
@[simp] theorem qo1:qAA BB.P 146=8:=rfl
@[simp] theorem zAE:qAA Tryz.prog 147=8:=rfl
@[simp] theorem qnX:qAA BB.P 147=8:=rfl
@[simp] theorem qyL:qAA Tryz.prog 148=8:=rfl
@[simp] theorem qr4:qAA BB.P 148=8:=rfl
@[simp] theorem qvG:qAA Tryz.prog 149=16:=rfl
@[simp] theorem qoD:qAA BB.P 149=16:=rfl
@[simp] theorem qv7:qAA Tryz.prog 150=16:=rfl
@[simp] theorem qqU:qAA BB.P 150=16:=rfl
@[simp] theorem qwT:qAA Tryz.prog 152=8:=rfl
@[simp] theorem qsY:qAA BB.P 152=8:=rfl
@[simp] theorem qxX:qAA Tryz.prog 153=8:=rfl
@[simp] theorem qoL:qAA BB.P 153=8:=rfl
@[simp] theorem qzA:qAA Tryz.prog 154=8:=rfl
@[simp] theorem qoE:qAA BB.P 154=8:=rfl
@[simp] theorem zBS:qAA Tryz.prog 155=8:=rfl
@[simp] theorem qtD:qAA BB.P 155=8:=rfl
@[simp] theorem qzJ:qAA Tryz.prog 156=8:=rfl
@[simp] theorem qpJ:qAA BB.P 156=8:=rfl
@[simp] theorem qxT:qAA Tryz.prog 157=8:=rfl
@[simp] theorem qrJ:qAA BB.P 157=8:=rfl
@[simp] theorem qwN:qAA Tryz.prog 158=8:=rfl
@[simp] theorem qoI:qAA BB.P 158=8:=rfl
@[simp] theorem qz5:qAA Tryz.prog 159=8:=rfl
@[simp] theorem qtP:qAA BB.P 159=8:=rfl
@[simp] theorem qvN:qAA Tryz.prog 160=8:=rfl
@[simp] theorem qqS:qAA BB.P 160=8:=rfl
@[simp] theorem zAV:qAA Tryz.prog 161=16:=rfl
@[simp] theorem qpZ:qAA BB.P 161=16:=rfl
@[simp] theorem qwS:qAA Tryz.prog 162=16:=rfl
@[simp] theorem qsU:qAA BB.P 162=16:=rfl
@[simp] theorem quS:qAA Tryz.prog 163=72:=rfl
@[simp] theorem qrG:qAA BB.P 163=72:=rfl
@[simp] theorem qxR:qAA Tryz.prog 164=72:=rfl
@[simp] theorem qqV:qAA BB.P 164=72:=rfl
@[simp] theorem qv8:qAA Tryz.prog 165=8:=rfl
@[simp] theorem qnR:qAA BB.P 165=8:=rfl
@[simp] theorem qxZ:qAA Tryz.prog 166=8:=rfl
@[simp] theorem qsE:qAA BB.P 166=8:=rfl
@[simp] theorem qv1:qAA Tryz.prog 167=8:=rfl
@[simp] theorem quD:qAA BB.P 167=8:=rfl
@[simp] theorem qzM:qAA Tryz.prog 169=8:=rfl
@[simp] theorem qnT:qAA BB.P 169=8:=rfl
@[simp] theorem zA9:qAA Tryz.prog 170=8:=rfl
@[simp] theorem qtZ:qAA BB.P 170=8:=rfl
@[simp] theorem qxO:qAA Tryz.prog 171=16:=rfl
@[simp] theorem qq4:qAA BB.P 171=16:=rfl
@[simp] theorem zB0:qAA Tryz.prog 172=16:=rfl
@[simp] theorem qoR:qAA BB.P 172=16:=rfl
@[simp] theorem qw2:qAA Tryz.prog 173=24:=rfl
@[simp] theorem qsC:qAA BB.P 173=24:=rfl
@[simp] theorem qu0:qAA Tryz.prog 174=8:=rfl
@[simp] theorem qtJ:qAA BB.P 174=8:=rfl
@[simp] theorem zA4:qAA Tryz.prog 175=8:=rfl
@[simp] theorem qqW:qAA BB.P 175=8:=rfl
@[simp] theorem zAK:qAA Tryz.prog 176=8:=rfl
@[simp] theorem qt7:qAA BB.P 176=8:=rfl
@[simp] theorem qvL:qAA Tryz.prog 177=8:=rfl
@[simp] theorem quK:qAA BB.P 177=8:=rfl
@[simp] theorem qyO:qAA Tryz.prog 178=24:=rfl
@[simp] theorem qqT:qAA BB.P 178=24:=rfl
@[simp] theorem zAB:qAA Tryz.prog 179=8:=rfl
@[simp] theorem qtY:qAA BB.P 179=8:=rfl
@[simp] theorem qy3:qAA Tryz.prog 180=8:=rfl
@[simp] theorem qrF:qAA BB.P 180=8:=rfl
@[simp] theorem quU:qAA Tryz.prog 181=8:=rfl
@[simp] theorem qsW:qAA BB.P 181=8:=rfl
@[simp] theorem qw6:qAA Tryz.prog 182=8:=rfl
@[simp] theorem qoC:qAA BB.P 182=8:=rfl
@[simp] theorem qvZ:qAA Tryz.prog 183=8:=rfl
@[simp] theorem qs4:qAA BB.P 183=8:=rfl
@[simp] theorem qzU:qAA Tryz.prog 184=8:=rfl
@[simp] theorem qrV:qAA BB.P 184=8:=rfl
@[simp] theorem qw3:qAA Tryz.prog 185=8:=rfl
@[simp] theorem qrS:qAA BB.P 185=8:=rfl
@[simp] theorem qyJ:qAA Tryz.prog 186=8:=rfl
@[simp] theorem qt3:qAA BB.P 186=8:=rfl
@[simp] theorem quQ:qAA Tryz.prog 187=8:=rfl
@[simp] theorem qsR:qAA BB.P 187=8:=rfl
@[simp] theorem qy5:qAA Tryz.prog 188=8:=rfl
@[simp] theorem qpY:qAA BB.P 188=8:=rfl
@[simp] theorem qzL:qAA Tryz.prog 189=8:=rfl
@[simp] theorem qpE:qAA BB.P 189=8:=rfl
@[simp] theorem qvF:qAA Tryz.prog 190=32:=rfl
@[simp] theorem quI:qAA BB.P 190=32:=rfl
@[simp] theorem qwZ:qAA Tryz.prog 191=32:=rfl
@[simp] theorem qr6:qAA BB.P 191=32:=rfl
@[simp] theorem zAY:qAA Tryz.prog 192=8:=rfl
@[simp] theorem qoF:qAA BB.P 192=8:=rfl
@[simp] theorem qy4:qAA Tryz.prog 193=16:=rfl
@[simp] theorem qo8:qAA BB.P 193=16:=rfl
@[simp] theorem zA6:qAA Tryz.prog 194=16:=rfl
@[simp] theorem qn0:qAA BB.P 194=16:=rfl
@[simp] theorem qzN:qAA Tryz.prog 196=8:=rfl
@[simp] theorem qsG:qAA BB.P 196=8:=rfl
@[simp] theorem qxY:qAA Tryz.prog 197=8:=rfl
@[simp] theorem qoU:qAA BB.P 197=8:=rfl
@[simp] theorem qy1:qAA Tryz.prog 198=24:=rfl
@[simp] theorem qs0:qAA BB.P 198=24:=rfl
@[simp] theorem qyH:qAA Tryz.prog 199=16:=rfl
@[simp] theorem qq5:qAA BB.P 199=16:=rfl
@[simp] theorem qzF:qAA Tryz.prog 200=16:=rfl
@[simp] theorem qoK:qAA BB.P 200=16:=rfl
@[simp] theorem zBG:qAA Tryz.prog 201=8:=rfl
@[simp] theorem quL:qAA BB.P 201=8:=rfl
@[simp] theorem qz8:qAA Tryz.prog 202=8:=rfl
@[simp] theorem qr9:qAA BB.P 202=8:=rfl
@[simp] theorem zBU:qAA Tryz.prog 203=8:=rfl
@[simp] theorem qtV:qAA BB.P 203=8:=rfl
@[simp] theorem zAC:qAA Tryz.prog 204=8:=rfl
@[simp] theorem qp0:qAA BB.P 204=8:=rfl
@[simp] theorem qyI:qAA Tryz.prog 205=8:=rfl
@[simp] theorem qqM:qAA BB.P 205=8:=rfl
@[simp] theorem zB6:qAA Tryz.prog 206=8:=rfl
@[simp] theorem qsO:qAA BB.P 206=8:=rfl
@[simp] theorem qyK:qAA Tryz.prog 207=8:=rfl
@[simp] theorem quA:qAA BB.P 207=8:=rfl
@[simp] theorem qyX:qAA Tryz.prog 208=8:=rfl
@[simp] theorem qt4:qAA BB.P 208=8:=rfl
@[simp] theorem qvT:qAA Tryz.prog 210=8:=rfl
@[simp] theorem qoG:qAA BB.P 210=8:=rfl
@[simp] theorem qzX:qAA Tryz.prog 211=8:=rfl
@[simp] theorem qtE:qAA BB.P 211=8:=rfl
@[simp] theorem qyY:qAA Tryz.prog 212=8:=rfl
@[simp] theorem qtC:qAA BB.P 212=8:=rfl
@[simp] theorem zBX:qAA Tryz.prog 213=8:=rfl
@[simp] theorem qq0:qAA BB.P 213=8:=rfl
@[simp] theorem qy2:qAA Tryz.prog 214=8:=rfl
@[simp] theorem quM:qAA BB.P 214=8:=rfl
@[simp] theorem qz7:qAA Tryz.prog 215=8:=rfl
@[simp] theorem qoH:qAA BB.P 215=8:=rfl
@[simp] theorem qxU:qAA Tryz.prog 216=8:=rfl
@[simp] theorem qqR:qAA BB.P 216=8:=rfl
@[simp] theorem quV:qAA Tryz.prog 217=8:=rfl
@[simp] theorem qqJ:qAA BB.P 217=8:=rfl
@[simp] theorem zBH:qAA Tryz.prog 219=8:=rfl
@[simp] theorem qnS:qAA BB.P 219=8:=rfl
@[simp] theorem qxC:qAA Tryz.prog 220=8:=rfl
@[simp] theorem qnZ:qAA BB.P 220=8:=rfl
@[simp] theorem qzD:qAA Tryz.prog 221=8:=rfl
@[simp] theorem qrA:qAA BB.P 221=8:=rfl
@[simp] theorem qwA:qAA Tryz.prog 222=8:=rfl
@[simp] theorem qqE:qAA BB.P 222=8:=rfl
@[simp] theorem zAJ:qAA Tryz.prog 223=8:=rfl
@[simp] theorem qs9:qAA BB.P 223=8:=rfl
@[simp] theorem zAM:qAA Tryz.prog 224=8:=rfl
@[simp] theorem qsT:qAA BB.P 224=8:=rfl
@[simp] theorem zAQ:qAA Tryz.prog 225=8:=rfl
@[simp] theorem qsH:qAA BB.P 225=8:=rfl
@[simp] theorem qzG:qAA Tryz.prog 226=8:=rfl
@[simp] theorem qrP:qAA BB.P 226=8:=rfl
@[simp] theorem qxJ:qAA Tryz.prog 227=8:=rfl
@[simp] theorem quN:qAA BB.P 227=8:=rfl
@[simp] theorem qyV:qAA Tryz.prog 228=8:=rfl
@[simp] theorem qqF:qAA BB.P 228=8:=rfl
@[simp] theorem qwH:qAA Tryz.prog 229=8:=rfl
@[simp] theorem qt9:qAA BB.P 229=8:=rfl
@[simp] theorem qyC:qAA Tryz.prog 230=8:=rfl
@[simp] theorem qoV:qAA BB.P 230=8:=rfl
@[simp] theorem qzK:qAA Tryz.prog 231=4:=rfl
@[simp] theorem qtF:qAA BB.P 231=4:=rfl
@[simp] theorem quZ:qAA Tryz.prog 233=8:=rfl
@[simp] theorem qrL:qAA BB.P 233=8:=rfl
@[simp] theorem qvU:qAA Tryz.prog 234=8:=rfl
@[simp] theorem qs7:qAA BB.P 234=8:=rfl
@[simp] theorem qxP:qAA Tryz.prog 235=8:=rfl
@[simp] theorem qqD:qAA BB.P 235=8:=rfl
@[simp] theorem zBO:qAA Tryz.prog 236=8:=rfl
@[simp] theorem qtI:qAA BB.P 236=8:=rfl
@[simp] theorem qxI:qAA Tryz.prog 237=8:=rfl
@[simp] theorem qsB:qAA BB.P 237=8:=rfl
@[simp] theorem qzH:qAA Tryz.prog 238=8:=rfl
@[simp] theorem qpH:qAA BB.P 238=8:=rfl
@[simp] theorem qv6:qAA Tryz.prog 240=8:=rfl
@[simp] theorem qrN:qAA BB.P 240=8:=rfl
@[simp] theorem zAN:qAA Tryz.prog 242=8:=rfl
@[simp] theorem qr2:qAA BB.P 242=8:=rfl
@[simp] theorem zBF:qAA Tryz.prog 243=8:=rfl
@[simp] theorem qnU:qAA BB.P 243=8:=rfl
@[simp] theorem zBN:qAA Tryz.prog 244=8:=rfl
@[simp] theorem qt2:qAA BB.P 244=8:=rfl
@[simp] theorem qw7:qAA Tryz.prog 245=8:=rfl
@[simp] theorem qp5:qAA BB.P 245=8:=rfl
@[simp] theorem qxE:qAA Tryz.prog 246=8:=rfl
@[simp] theorem qo0:qAA BB.P 246=8:=rfl
@[simp] theorem qu7:qAA Tryz.prog 247=8:=rfl
@[simp] theorem qrK:qAA BB.P 247=8:=rfl
@[simp] theorem zA1:qAA Tryz.prog 248=8:=rfl
@[simp] theorem quH:qAA BB.P 248=8:=rfl
@[simp] theorem qwE:qAA Tryz.prog 249=8:=rfl
@[simp] theorem qqO:qAA BB.P 249=8:=rfl
@[simp] theorem zA3:qAA Tryz.prog 250=8:=rfl
@[simp] theorem qo2:qAA BB.P 250=8:=rfl
@[simp] theorem qwK:qAA Tryz.prog 251=8:=rfl
@[simp] theorem qr7:qAA BB.P 251=8:=rfl
@[simp] theorem qw1:qAA Tryz.prog 252=8:=rfl
@[simp] theorem qrW:qAA BB.P 252=8:=rfl
@[simp] theorem qyB:qAA Tryz.prog 253=8:=rfl
@[simp] theorem quB:qAA BB.P 253=8:=rfl
@[simp] theorem zBK:qAA Tryz.prog 255=8:=rfl
@[simp] theorem qo4:qAA BB.P 255=8:=rfl
@[simp] theorem qzZ:qAA Tryz.prog 256=8:=rfl
@[simp] theorem quE:qAA BB.P 256=8:=rfl
@[simp] theorem qwY:qAA Tryz.prog 257=8:=rfl
@[simp] theorem qp6:qAA BB.P 257=8:=rfl
@[simp] theorem qyE:qAA Tryz.prog 258=8:=rfl
@[simp] theorem qq3:qAA BB.P 258=8:=rfl
@[simp] theorem qu8:qAA Tryz.prog 259=8:=rfl
@[simp] theorem qnW:qAA BB.P 259=8:=rfl
@[simp] theorem zB3:qAA Tryz.prog 260=8:=rfl
@[simp] theorem qoW:qAA BB.P 260=8:=rfl
@[simp] theorem qvH:qAA Tryz.prog 261=8:=rfl
@[simp] theorem qr0:qAA BB.P 261=8:=rfl
@[simp] theorem qu5:qAA Tryz.prog 263=8:=rfl
@[simp] theorem qsZ:qAA BB.P 263=8:=rfl
@[simp] theorem zBC:qAA Tryz.prog 264=8:=rfl
@[simp] theorem qtU:qAA BB.P 264=8:=rfl
@[simp] theorem qy9:qAA Tryz.prog 265=8:=rfl
@[simp] theorem qpD:qAA BB.P 265=8:=rfl
@[simp] theorem qyU:qAA Tryz.prog 267=8:=rfl
@[simp] theorem qrH:qAA BB.P 267=8:=rfl
@[simp] theorem qy0:qAA Tryz.prog 268=8:=rfl
@[simp] theorem quJ:qAA BB.P 268=8:=rfl
@[simp] theorem qwU:qAA Tryz.prog 269=8:=rfl
@[simp] theorem qpO:qAA BB.P 269=8:=rfl
@[simp] theorem qx8:qAA Tryz.prog 270=8:=rfl
@[simp] theorem qq1:qAA BB.P 270=8:=rfl
@[simp] theorem qv2:qAA Tryz.prog 271=8:=rfl
@[simp] theorem qpT:qAA BB.P 271=8:=rfl
@[simp] theorem zAP:qAA Tryz.prog 272=8:=rfl
@[simp] theorem qn9:qAA BB.P 272=8:=rfl
@[simp] theorem qx5:qAA Tryz.prog 273=8:=rfl
@[simp] theorem qtW:qAA BB.P 273=8:=rfl
@[simp] theorem qxA:qAA Tryz.prog 274=8:=rfl
@[simp] theorem qqQ:qAA BB.P 274=8:=rfl
@[simp] theorem qxK:qAA Tryz.prog 275=8:=rfl
@[simp] theorem qrQ:qAA BB.P 275=8:=rfl
@[simp] theorem qvY:qAA Tryz.prog 277=8:=rfl
@[simp] theorem qt6:qAA BB.P 277=8:=rfl
@[simp] theorem qx3:qAA Tryz.prog 278=8:=rfl
@[simp] theorem qsV:qAA BB.P 278=8:=rfl
@[simp] theorem zBT:qAA Tryz.prog 280=8:=rfl
@[simp] theorem qp7:qAA BB.P 280=8:=rfl
@[simp] theorem zA0:qAA Tryz.prog 281=40:=rfl
@[simp] theorem qrC:qAA BB.P 281=40:=rfl
@[simp] theorem qwM:qAA Tryz.prog 282=40:=rfl
@[simp] theorem qtR:qAA BB.P 282=40:=rfl
@[simp] theorem qu6:qAA Tryz.prog 286=8:=rfl
@[simp] theorem qtS:qAA BB.P 286=8:=rfl
@[simp] theorem qvV:qAA Tryz.prog 287=1:=rfl
@[simp] theorem qt1:qAA BB.P 287=1:=rfl
@[simp] theorem qzC:qAA Tryz.prog 288=1:=rfl
@[simp] theorem qrX:qAA BB.P 288=1:=rfl
@[simp] theorem qwO:qAA Tryz.prog 289=8:=rfl
@[simp] theorem qr8:qAA BB.P 289=8:=rfl
@[simp] theorem qwD:qAA Tryz.prog 290=4:=rfl
@[simp] theorem quG:qAA BB.P 290=4:=rfl
@[simp] theorem qv3:qAA Tryz.prog 291=4:=rfl
@[simp] theorem qqL:qAA BB.P 291=4:=rfl
@[simp] theorem qzB:qAA Tryz.prog 292=48:=rfl
@[simp] theorem qqY:qAA BB.P 292=48:=rfl
@[simp] theorem qw9:qAA Tryz.prog 293=48:=rfl
@[simp] theorem qtT:qAA BB.P 293=48:=rfl
theorem qj5 (x:UInt8):0<=(x.toNat:Int)/\(x.toNat:Int)<=255:=by have:=x.toNat_lt;omega
theorem obA {p:Prop}(h:p:=by first|exact Ob.mk (qj5 _)|(refine Ob.mk ?_;first|exact True.intro|assumption|omega|(simp only[ZA,ZB,ZC,ZD,ZE,ZF,ZG,ZH,ZI,ZJ,ZK,ZL,ZM,ZN,ZO,Int.toNat_natCast,UInt8.ofNat_toNat,cast_eq] at *;omega)|(show(_:Int)=_;omega)|(show qXK _=_;with_unfolding_all rfl)|((first|show(_:Nat)<=_|show(_:Nat)<=_/\(_:Nat)<=_|show(_:Int)<=_/\(_:Int)<=_/\(_:Int)<=_/\(_:Int)<=_);(simp<;>omega)))|(show(_:Int)=_;omega)|(show qXK _=_;with_unfolding_all rfl)|((first|show(_:Nat)<=_|show(_:Nat)<=_/\(_:Nat)<=_|show(_:Int)<=_/\(_:Int)<=_/\(_:Int)<=_/\(_:Int)<=_);(simp<;>omega))):p:=h
theorem vcA {p:Prop}(h:p:=by(repeat'((conv=>whnf);first|exact qR|intro _|refine WA ?_ ?_|refine WF ?_|refine W1 rfl ?_ ?_|refine W2 rfl ?_ ?_|refine W3 rfl ?_ ?_|refine W4 ?_ ?_|refine W5 rfl ?_ ?_|refine W6 ?_ ?_|refine WN ?_|refine X1 (W1 rfl ?_ ?_)|refine X1 (W2 rfl ?_ ?_)|refine X2 (W7 rfl ?_ ?_)|refine X3 (W7 rfl ?_ ?_)|refine X4 (W7 rfl ?_ ?_)|refine X5 (W7 rfl ?_ ?_)));(all_goals(try(conv=>whnf)));(all_goals(try first|exact obA|refine Ob.mk ?_));(all_goals(try rfl))):p:=h
end Go.Vc

namespace Go.Vc
theorem qlF (N b0 b1 b2 b3 k:Nat) (h1:1<=k) (h2:k<=mU b0+1) (h3:k<=N)
  (ha:2<=k->loU b0<=b1/\b1<=hiU b0) (hb:3<=k->128<=b2/\b2<=191) (hc:4<=k->128<=b3/\b3<=191)
  (he:k=mU b0+1\/k=N\/(k=1/\¬(loU b0<=b1/\b1<=hiU b0))\/(k=2/\¬(128<=b2/\b2<=191))\/(k=3/\¬(128<=b3/\b3<=191))):qf1 N b0 b1 b2 b3=k:=by
 have hm:mU b0<=3:=by unfold mU;(repeat' split)<;>omega
 unfold qf1
 repeat' split
 all_goals omega
def loW (l:List UInt8) (k:Nat):Nat:=if k=1 then loU (l.getD 0 0).toNat else 128
def hiW (l:List UInt8) (k:Nat):Nat:=if k=1 then hiU (l.getD 0 0).toNat else 191
def okW (l:List UInt8) (k:Nat):Prop:=loW l k<=(l.getD k 0).toNat/\(l.getD k 0).toNat<=hiW l k
theorem qlJ {l:List UInt8}{k:Nat}(h1:1<=k) (h2:k<=mU (l.getD 0 0).toNat+1) (h3:k<=l.length) (h:∀ j,1<=j->j<k->okW l j)
  (he:k=mU (l.getD 0 0).toNat+1\/k=l.length\/¬okW l k):qLJ l=k:=by
 have hm:mU (l.getD 0 0).toNat<=3:=by unfold mU;(repeat' split)<;>omega
 refine qlF _ _ _ _ _ k h1 h2 h3 (fun q=>by simpa[okW,loW,hiW] using h 1 (by omega) (by omega)) (fun q=>by simpa[okW,loW,hiW] using h 2 (by omega) (by omega)) (fun q=>by simpa[okW,loW,hiW] using h 3 (by omega) (by omega)) ?_
 rcases he with he|he|he
 ·exact .inl he
 ·exact .inr (.inl he)
 ·have hk:k=1\/k=2\/k=3\/k=4:=by omega
  rcases hk with rfl|rfl|rfl|rfl
  ·right;right;left;exact⟨rfl,by simpa[okW,loW,hiW] using he⟩
  ·right;right;right;left;exact⟨rfl,by simpa[okW,loW,hiW] using he⟩
  ·right;right;right;right;exact⟨rfl,by simpa[okW,loW,hiW] using he⟩
  ·left;omega
theorem qi3 {d:List UInt8}(h:okU d=false):qGL d=qLJ d/\qV4 d=qk3:=by
 refine⟨?_,?_⟩
 ·unfold qGL;rw[if_neg (by rw[h];simp)]
 ·unfold qV4;rw[if_pos (.inl h)]
theorem zE9 {c:UInt8}(k:Nat) (h:c.toNat=k):c=UInt8.ofNat k:=by rw[<-h,yB1]
theorem qjU {d:List UInt8}(h:okU d=true) (h0:(d.getD 0 0).toNat=0):qGL d=qLJ d/\qV4 d=qk3:=by
 have h0:d.getD 0 0=0:=zE9 0 h0;refine⟨?_,?_⟩
 ·unfold qGL;rw[if_neg (by rw[h0];rintro⟨_,h,_⟩;cases h)]
 ·unfold qV4;rw[if_pos (.inr h0)]
theorem qgQ {d:List UInt8}(h:okU d=true) (h0:(d.getD 0 0).toNat=13):qGL d=(if 1<d.length/\(d.getD 1 0).toNat=10 then 2 else qLJ d)/\qV4 d=[10]:=by
 have h0:d.getD 0 0=13:=zE9 13 h0;refine⟨?_,?_⟩
 ·unfold qGL;have:d.getD 1 0=10↔(d.getD 1 0).toNat=10:=⟨fun h=>by rw[h];rfl,fun h=>zE9 10 h⟩
  simp only[this,h,h0,true_and]
 ·unfold qV4;rw[if_neg (by rw[h,h0];simp),if_pos h0]
theorem qjZ {d:List UInt8}(h:okU d=true) (h0:(d.getD 0 0).toNat≠0) (h1:(d.getD 0 0).toNat≠13):qGL d=qLJ d/\qV4 d=d.take (qLJ d):=by
 have h0:d.getD 0 0≠0:=fun h=>h0 (by rw[h];rfl)
 have h1:d.getD 0 0≠13:=fun h=>h1 (by rw[h];rfl)
 refine⟨?_,?_⟩
 ·unfold qGL;rw[if_neg (fun h=>h1 h.2.1)]
 ·unfold qV4;rw[if_neg (fun q=>q.elim (fun q=>by rw[h] at q;cases q) h0),if_neg h1]
end Go.Vc

namespace Go.Vc
open Go.Proofs
set_option maxRecDepth 10000
set_option maxHeartbeats 8000000
theorem qo9 {p:Prop}{i:Decidable p}:(@decide p i=true)=p:=by simp
theorem qq9 {p:Prop}{i:Decidable p}:(@decide p i=false)=¬p:=by simp
theorem qmI (l:List UInt8):okU l=true↔(l.getD 0 0).toNat<128\/(1<=mU (l.getD 0 0).toNat/\qLJ l=mU (l.getD 0 0).toNat+1):=by
 unfold okU;rw[decide_eq_true_eq];rfl
theorem qhL (c:Nat):(c<194\/244<c->mU c=0)/\(194<=c/\c<=223->mU c=1)/\(224<=c/\c<=239->mU c=2)/\(240<=c/\c<=244->mU c=3)/\
  (c=224->loU c=160)/\(c=240->loU c=144)/\(194<=c/\c<=244/\c≠224/\c≠240->loU c=128)/\
  (c=237->hiU c=159)/\(c=244->hiU c=143)/\(194<=c/\c<=244/\c≠237/\c≠244->hiU c=191):=by
 unfold mU loU hiU;refine⟨?_,?_,?_,?_,?_,?_,?_,?_,?_,?_⟩<;>intro h<;>(repeat' split)<;>omega
theorem loW1 (l:List UInt8):loW l 1=loU (l.getD 0 0).toNat:=rfl
theorem hiW1 (l:List UInt8):hiW l 1=hiU (l.getD 0 0).toNat:=rfl
theorem qkR (l:List UInt8) (k:Nat) (h:1<=k):loW l (k+1)=128:=by unfold loW;rw[if_neg (by omega)]
theorem qlV (l:List UInt8) (k:Nat) (h:1<=k):hiW l (k+1)=191:=by unfold hiW;rw[if_neg (by omega)]
theorem qZT (l:List UInt8) (h:mU (l.getD 0 0).toNat=0):qLJ l=1:=by
 unfold qLJ qf1;rw[if_neg (by omega)]
theorem clsU (c:Nat):(c<128/\mU c=0)\/(128<=c/\(c<194\/244<c)/\mU c=0)\/(194<=c/\c<=223/\mU c=1/\loU c=128/\hiU c=191)\/(c=224/\mU c=2/\loU c=160/\hiU c=191)\/
  (225<=c/\c<=239/\c≠237/\mU c=2/\loU c=128/\hiU c=191)\/(c=237/\mU c=2/\loU c=128/\hiU c=159)\/(c=240/\mU c=3/\loU c=144/\hiU c=191)\/(241<=c/\c<=243/\mU c=3/\loU c=128/\hiU c=191)\/(c=244/\mU c=3/\loU c=128/\hiU c=143):=by
 obtain⟨f0,f1,f2,f3,l1,l2,l3,g1,g2,g3⟩:=qhL c;have hc:c<128\/(128<=c/\(c<194\/244<c))\/(194<=c/\c<=223)\/c=224\/(225<=c/\c<=239/\c≠237)\/c=237\/c=240\/(241<=c/\c<=243)\/c=244:=by clear f0 f1 f2 f3 l1 l2 l3 g1 g2 g3;omega
 rcases hc with h|h|h|h|h|h|h|h|h
 ·exact .inl ⟨h,f0 (.inl (by clear f0 f1 f2 f3 l1 l2 l3 g1 g2 g3;omega))⟩
 ·exact .inr (.inl ⟨h.1,h.2,f0 h.2⟩)
 ·exact .inr (.inr (.inl ⟨h.1,h.2,f1 h,l3 (by clear f0 f1 f2 f3 l1 l2 l3 g1 g2 g3;omega),g3 (by clear f0 f1 f2 f3 l1 l2 l3 g1 g2 g3;omega)⟩))
 ·exact .inr (.inr (.inr (.inl ⟨h,f2 (by clear f0 f1 f2 f3 l1 l2 l3 g1 g2 g3;omega),l1 h,g3 (by clear f0 f1 f2 f3 l1 l2 l3 g1 g2 g3;omega)⟩)))
 ·exact .inr (.inr (.inr (.inr (.inl ⟨h.1,h.2.1,h.2.2,f2 (by clear f0 f1 f2 f3 l1 l2 l3 g1 g2 g3;omega),l3 (by clear f0 f1 f2 f3 l1 l2 l3 g1 g2 g3;omega),g3 (by clear f0 f1 f2 f3 l1 l2 l3 g1 g2 g3;omega)⟩))))
 ·exact .inr (.inr (.inr (.inr (.inr (.inl ⟨h,f2 (by clear f0 f1 f2 f3 l1 l2 l3 g1 g2 g3;omega),l3 (by clear f0 f1 f2 f3 l1 l2 l3 g1 g2 g3;omega),g1 h⟩)))))
 ·exact .inr (.inr (.inr (.inr (.inr (.inr (.inl ⟨h,f3 (by clear f0 f1 f2 f3 l1 l2 l3 g1 g2 g3;omega),l2 h,g3 (by clear f0 f1 f2 f3 l1 l2 l3 g1 g2 g3;omega)⟩))))))
 ·exact .inr (.inr (.inr (.inr (.inr (.inr (.inr (.inl ⟨h.1,h.2,f3 (by clear f0 f1 f2 f3 l1 l2 l3 g1 g2 g3;omega),l3 (by clear f0 f1 f2 f3 l1 l2 l3 g1 g2 g3;omega),g3 (by clear f0 f1 f2 f3 l1 l2 l3 g1 g2 g3;omega)⟩)))))))
 ·exact .inr (.inr (.inr (.inr (.inr (.inr (.inr (.inr ⟨h,f3 (by clear f0 f1 f2 f3 l1 l2 l3 g1 g2 g3;omega),l3 (by clear f0 f1 f2 f3 l1 l2 l3 g1 g2 g3;omega),g2 h⟩)))))))
instance fOne (l:List UInt8):Fn BB 201 [.rd .byte l] (l≠[]/\l.length<=1000000) (.tup [.int .i64 (qLJ l),.bool (okU l)]):=by
  refine Fn.intro (N:=70) [0,2,3,4,5,6,7,8,13,19,25,31,33,35,37,39,41,44,66] [] Tryz.call201 Tryz.func201 rfl rfl (by kernel_rfl) (fun hpre=>?_)
  obtain⟨hp1,hp2⟩:=hpre;have hlen:1<=l.length:=yBE.mpr hp1;have hc:=(qj5 (l.getD 0 0)).2;have hok:=qmI l;have hS:=qZT l;have hC:∀ k,1<=k->k<=l.length->k<=mU (l.getD 0 0).toNat+1->(∀ j,1<=j->j<k->okW l j)->(k=mU (l.getD 0 0).toNat+1\/k=l.length\/¬okW l k)->qLJ l=k:=fun k h1 h2 h3 h4 h=>qlJ h1 h3 h2 h4 h
  have hL:=loW1 l;have hH:=hiW1 l;have hcl:=clsU (l.getD 0 0).toNat;generalize mU (l.getD 0 0).toNat=M at *;generalize loU (l.getD 0 0).toNat=LO at *;generalize hiU (l.getD 0 0).toNat=HI at *;have hce:UInt8.toNat (@List.getD (Ty.T .byte) l (Int.toNat 0) (Ty.dflt .byte))=(l.getD 0 0).toNat:=rfl;rcases hcl with hcl|hcl|hcl|hcl|hcl|hcl|hcl|hcl|hcl
  · repeat'((conv=>whnf);first|exact qR|(intro hq;(try simp only[ZA,ZB,ZC,ZD,ZE,ZF,ZG,ZH,ZI,ZJ,ZK,ZL,ZM,ZN,ZO,yAA,yAG,ge_iff_le,gt_iff_lt,yAK,yB1,cast_eq] at hq);(try(exfalso;first|omega|exact hq trivial|exact absurd hq (by decide))))|refine WA ?_ ?_|refine WF ?_|refine W1 rfl ?_ ?_|refine W2 rfl ?_ ?_|refine W3 rfl ?_ ?_|refine W4 ?_ ?_|refine W5 rfl ?_ ?_|refine W6 ?_ ?_|refine WN ?_|refine X1 (W1 rfl ?_ ?_)|refine X1 (W2 rfl ?_ ?_)|refine X2 (W7 rfl ?_ ?_)|refine X3 (W7 rfl ?_ ?_)|refine X4 (W7 rfl ?_ ?_)|refine X5 (W7 rfl ?_ ?_))
    all_goals(try(conv=>whnf))
    all_goals(try first|exact obA|refine Ob.mk ?_)
    · show true=_;symm;rw[hok];omega
  · repeat'((conv=>whnf);first|exact qR|(intro hq;(try simp only[ZA,ZB,ZC,ZD,ZE,ZF,ZG,ZH,ZI,ZJ,ZK,ZL,ZM,ZN,ZO,yAA,yAG,ge_iff_le,gt_iff_lt,yAK,yB1,cast_eq] at hq);(try(exfalso;first|omega|exact hq trivial|exact absurd hq (by decide))))|refine WA ?_ ?_|refine WF ?_|refine W1 rfl ?_ ?_|refine W2 rfl ?_ ?_|refine W3 rfl ?_ ?_|refine W4 ?_ ?_|refine W5 rfl ?_ ?_|refine W6 ?_ ?_|refine WN ?_|refine X1 (W1 rfl ?_ ?_)|refine X1 (W2 rfl ?_ ?_)|refine X2 (W7 rfl ?_ ?_)|refine X3 (W7 rfl ?_ ?_)|refine X4 (W7 rfl ?_ ?_)|refine X5 (W7 rfl ?_ ?_))
    all_goals(try(conv=>whnf))
    all_goals(try first|exact obA|refine Ob.mk ?_)
    · show false=_;symm;rw[yAD,ne_eq,hok];omega
  · repeat'((conv=>whnf);first|exact qR|(intro hq;(try simp only[ZA,ZB,ZC,ZD,ZE,ZF,ZG,ZH,ZI,ZJ,ZK,ZL,ZM,ZN,ZO,yAA,yAG,ge_iff_le,gt_iff_lt,yAK,yB1,cast_eq] at hq);(try(exfalso;first|omega|exact hq trivial|exact absurd hq (by decide))))|refine WA ?_ ?_|refine WF ?_|refine W1 rfl ?_ ?_|refine W2 rfl ?_ ?_|refine W3 rfl ?_ ?_|refine W4 ?_ ?_|refine W5 rfl ?_ ?_|refine W6 ?_ ?_|refine WN ?_|refine X1 (W1 rfl ?_ ?_)|refine X1 (W2 rfl ?_ ?_)|refine X2 (W7 rfl ?_ ?_)|refine X3 (W7 rfl ?_ ?_)|refine X4 (W7 rfl ?_ ?_)|refine X5 (W7 rfl ?_ ?_))
    all_goals(try(conv=>whnf))
    all_goals(try first|exact obA|refine Ob.mk ?_)
    refine LoopStop.mk (α:=Nat) (fun k=>[(8,.int .i64 k),(6,.int .u8 (loW l k)),(7,.int .u8 (hiW l k))]) (fun i=>[]) 40 (fun k=>1<=k/\k<=l.length/\k<=M+1/\∀ j,1<=j->j<k->okW l j) (fun k=>l.length-k) 1 ⟨by omega,by omega,by omega,fun j _ _=>by omega⟩ ?_ (fun k hk=>?_)
    · all_goals exact vcA
    · obtain⟨h1,h2,h3,h4⟩:=hk
      have hcut:=hC k h1 h2 h3 h4;unfold okW at hcut;have hs:k<l.length->loW l k<=(l.getD k 0).toNat->(l.getD k 0).toNat<=hiW l k->∀ j,1<=j->j<k+1->okW l j:=fun _ a b j hj1 hj2=>by
        rcases yBY j k with hh|hh
        · exact h4 j hj1 hh
        · obtain rfl:j=k:=by omega
          exact⟨a,b⟩
      have hck:UInt8.toNat (@List.getD (Ty.T .byte) l (Int.toNat (k:Int)) (Ty.dflt .byte))=(l.getD k 0).toNat:=rfl;have hck2:UInt8.toNat (@List.getD (Ty.T .byte) l k (Ty.dflt .byte))=(l.getD k 0).toNat:=rfl;clear hce hC h4 hS hL hH
      repeat'((conv=>whnf);first|exact qR|(intro hq;(try simp only[ZA,ZB,ZC,ZD,ZE,ZF,ZG,ZH,ZI,ZJ,ZK,ZL,ZM,ZN,ZO,yAA,yAG,ge_iff_le,gt_iff_lt,yAK,yB1,cast_eq] at hq);(try(exfalso;first|omega|exact hq trivial|exact absurd hq (by decide))))|refine WA ?_ ?_|refine WF ?_|refine W1 rfl ?_ ?_|refine W2 rfl ?_ ?_|refine W3 rfl ?_ ?_|refine W4 ?_ ?_|refine W5 rfl ?_ ?_|refine W6 ?_ ?_|refine WN ?_|refine X1 (W1 rfl ?_ ?_)|refine X1 (W2 rfl ?_ ?_)|refine X2 (W7 rfl ?_ ?_)|refine X3 (W7 rfl ?_ ?_)|refine X4 (W7 rfl ?_ ?_)|refine X5 (W7 rfl ?_ ?_))
      all_goals(try(conv=>whnf))
      all_goals(try first|exact obA|refine Ob.mk ?_)
      all_goals(first
        | (refine Rnd.mk ⟨k+1,⟨by omega,by omega,by omega,hs (by omega) (by omega) (by omega)⟩,by omega,?_⟩
           repeat'((conv=>whnf);first|exact qR|refine And.intro ?_ ?_)
           all_goals(try(conv=>whnf))
           all_goals(try first|exact obA|refine Ob.mk ?_)
           all_goals(first|(rw[qkR _ _ h1];rfl)|(rw[qlV _ _ h1];rfl)|rfl)
           done)
        | (have:=hcut (by omega);clear hcut hs;first|omega|(show true=_;symm;rw[hok];omega)|(show false=_;symm;rw[yAD,ne_eq,hok];omega)))
  · repeat'((conv=>whnf);first|exact qR|(intro hq;(try simp only[ZA,ZB,ZC,ZD,ZE,ZF,ZG,ZH,ZI,ZJ,ZK,ZL,ZM,ZN,ZO,yAA,yAG,ge_iff_le,gt_iff_lt,yAK,yB1,cast_eq] at hq);(try(exfalso;first|omega|exact hq trivial|exact absurd hq (by decide))))|refine WA ?_ ?_|refine WF ?_|refine W1 rfl ?_ ?_|refine W2 rfl ?_ ?_|refine W3 rfl ?_ ?_|refine W4 ?_ ?_|refine W5 rfl ?_ ?_|refine W6 ?_ ?_|refine WN ?_|refine X1 (W1 rfl ?_ ?_)|refine X1 (W2 rfl ?_ ?_)|refine X2 (W7 rfl ?_ ?_)|refine X3 (W7 rfl ?_ ?_)|refine X4 (W7 rfl ?_ ?_)|refine X5 (W7 rfl ?_ ?_))
    all_goals(try(conv=>whnf))
    all_goals(try first|exact obA|refine Ob.mk ?_)
    refine LoopStop.mk (α:=Nat) (fun k=>[(8,.int .i64 k),(6,.int .u8 (loW l k)),(7,.int .u8 (hiW l k))]) (fun i=>[]) 40 (fun k=>1<=k/\k<=l.length/\k<=M+1/\∀ j,1<=j->j<k->okW l j) (fun k=>l.length-k) 1 ⟨by omega,by omega,by omega,fun j _ _=>by omega⟩ ?_ (fun k hk=>?_)
    · all_goals exact vcA
    · obtain⟨h1,h2,h3,h4⟩:=hk
      have hcut:=hC k h1 h2 h3 h4;unfold okW at hcut;have hs:k<l.length->loW l k<=(l.getD k 0).toNat->(l.getD k 0).toNat<=hiW l k->∀ j,1<=j->j<k+1->okW l j:=fun _ a b j hj1 hj2=>by
        rcases yBY j k with hh|hh
        · exact h4 j hj1 hh
        · obtain rfl:j=k:=by omega
          exact⟨a,b⟩
      have hck:UInt8.toNat (@List.getD (Ty.T .byte) l (Int.toNat (k:Int)) (Ty.dflt .byte))=(l.getD k 0).toNat:=rfl;have hck2:UInt8.toNat (@List.getD (Ty.T .byte) l k (Ty.dflt .byte))=(l.getD k 0).toNat:=rfl;clear hce hC h4 hS hL hH
      repeat'((conv=>whnf);first|exact qR|(intro hq;(try simp only[ZA,ZB,ZC,ZD,ZE,ZF,ZG,ZH,ZI,ZJ,ZK,ZL,ZM,ZN,ZO,yAA,yAG,ge_iff_le,gt_iff_lt,yAK,yB1,cast_eq] at hq);(try(exfalso;first|omega|exact hq trivial|exact absurd hq (by decide))))|refine WA ?_ ?_|refine WF ?_|refine W1 rfl ?_ ?_|refine W2 rfl ?_ ?_|refine W3 rfl ?_ ?_|refine W4 ?_ ?_|refine W5 rfl ?_ ?_|refine W6 ?_ ?_|refine WN ?_|refine X1 (W1 rfl ?_ ?_)|refine X1 (W2 rfl ?_ ?_)|refine X2 (W7 rfl ?_ ?_)|refine X3 (W7 rfl ?_ ?_)|refine X4 (W7 rfl ?_ ?_)|refine X5 (W7 rfl ?_ ?_))
      all_goals(try(conv=>whnf))
      all_goals(try first|exact obA|refine Ob.mk ?_)
      all_goals(first
        | (refine Rnd.mk ⟨k+1,⟨by omega,by omega,by omega,hs (by omega) (by omega) (by omega)⟩,by omega,?_⟩
           repeat'((conv=>whnf);first|exact qR|refine And.intro ?_ ?_)
           all_goals(try(conv=>whnf))
           all_goals(try first|exact obA|refine Ob.mk ?_)
           all_goals(first|(rw[qkR _ _ h1];rfl)|(rw[qlV _ _ h1];rfl)|rfl)
           done)
        | (have:=hcut (by omega);clear hcut hs;first|omega|(show true=_;symm;rw[hok];omega)|(show false=_;symm;rw[yAD,ne_eq,hok];omega)))
  · repeat'((conv=>whnf);first|exact qR|(intro hq;(try simp only[ZA,ZB,ZC,ZD,ZE,ZF,ZG,ZH,ZI,ZJ,ZK,ZL,ZM,ZN,ZO,yAA,yAG,ge_iff_le,gt_iff_lt,yAK,yB1,cast_eq] at hq);(try(exfalso;first|omega|exact hq trivial|exact absurd hq (by decide))))|refine WA ?_ ?_|refine WF ?_|refine W1 rfl ?_ ?_|refine W2 rfl ?_ ?_|refine W3 rfl ?_ ?_|refine W4 ?_ ?_|refine W5 rfl ?_ ?_|refine W6 ?_ ?_|refine WN ?_|refine X1 (W1 rfl ?_ ?_)|refine X1 (W2 rfl ?_ ?_)|refine X2 (W7 rfl ?_ ?_)|refine X3 (W7 rfl ?_ ?_)|refine X4 (W7 rfl ?_ ?_)|refine X5 (W7 rfl ?_ ?_))
    all_goals(try(conv=>whnf))
    all_goals(try first|exact obA|refine Ob.mk ?_)
    refine LoopStop.mk (α:=Nat) (fun k=>[(8,.int .i64 k),(6,.int .u8 (loW l k)),(7,.int .u8 (hiW l k))]) (fun i=>[]) 40 (fun k=>1<=k/\k<=l.length/\k<=M+1/\∀ j,1<=j->j<k->okW l j) (fun k=>l.length-k) 1 ⟨by omega,by omega,by omega,fun j _ _=>by omega⟩ ?_ (fun k hk=>?_)
    · all_goals exact vcA
    · obtain⟨h1,h2,h3,h4⟩:=hk
      have hcut:=hC k h1 h2 h3 h4;unfold okW at hcut;have hs:k<l.length->loW l k<=(l.getD k 0).toNat->(l.getD k 0).toNat<=hiW l k->∀ j,1<=j->j<k+1->okW l j:=fun _ a b j hj1 hj2=>by
        rcases yBY j k with hh|hh
        · exact h4 j hj1 hh
        · obtain rfl:j=k:=by omega
          exact⟨a,b⟩
      have hck:UInt8.toNat (@List.getD (Ty.T .byte) l (Int.toNat (k:Int)) (Ty.dflt .byte))=(l.getD k 0).toNat:=rfl;have hck2:UInt8.toNat (@List.getD (Ty.T .byte) l k (Ty.dflt .byte))=(l.getD k 0).toNat:=rfl;clear hce hC h4 hS hL hH
      repeat'((conv=>whnf);first|exact qR|(intro hq;(try simp only[ZA,ZB,ZC,ZD,ZE,ZF,ZG,ZH,ZI,ZJ,ZK,ZL,ZM,ZN,ZO,yAA,yAG,ge_iff_le,gt_iff_lt,yAK,yB1,cast_eq] at hq);(try(exfalso;first|omega|exact hq trivial|exact absurd hq (by decide))))|refine WA ?_ ?_|refine WF ?_|refine W1 rfl ?_ ?_|refine W2 rfl ?_ ?_|refine W3 rfl ?_ ?_|refine W4 ?_ ?_|refine W5 rfl ?_ ?_|refine W6 ?_ ?_|refine WN ?_|refine X1 (W1 rfl ?_ ?_)|refine X1 (W2 rfl ?_ ?_)|refine X2 (W7 rfl ?_ ?_)|refine X3 (W7 rfl ?_ ?_)|refine X4 (W7 rfl ?_ ?_)|refine X5 (W7 rfl ?_ ?_))
      all_goals(try(conv=>whnf))
      all_goals(try first|exact obA|refine Ob.mk ?_)
      all_goals(first
        | (refine Rnd.mk ⟨k+1,⟨by omega,by omega,by omega,hs (by omega) (by omega) (by omega)⟩,by omega,?_⟩
           repeat'((conv=>whnf);first|exact qR|refine And.intro ?_ ?_)
           all_goals(try(conv=>whnf))
           all_goals(try first|exact obA|refine Ob.mk ?_)
           all_goals(first|(rw[qkR _ _ h1];rfl)|(rw[qlV _ _ h1];rfl)|rfl)
           done)
        | (have:=hcut (by omega);clear hcut hs;first|omega|(show true=_;symm;rw[hok];omega)|(show false=_;symm;rw[yAD,ne_eq,hok];omega)))
  · repeat'((conv=>whnf);first|exact qR|(intro hq;(try simp only[ZA,ZB,ZC,ZD,ZE,ZF,ZG,ZH,ZI,ZJ,ZK,ZL,ZM,ZN,ZO,yAA,yAG,ge_iff_le,gt_iff_lt,yAK,yB1,cast_eq] at hq);(try(exfalso;first|omega|exact hq trivial|exact absurd hq (by decide))))|refine WA ?_ ?_|refine WF ?_|refine W1 rfl ?_ ?_|refine W2 rfl ?_ ?_|refine W3 rfl ?_ ?_|refine W4 ?_ ?_|refine W5 rfl ?_ ?_|refine W6 ?_ ?_|refine WN ?_|refine X1 (W1 rfl ?_ ?_)|refine X1 (W2 rfl ?_ ?_)|refine X2 (W7 rfl ?_ ?_)|refine X3 (W7 rfl ?_ ?_)|refine X4 (W7 rfl ?_ ?_)|refine X5 (W7 rfl ?_ ?_))
    all_goals(try(conv=>whnf))
    all_goals(try first|exact obA|refine Ob.mk ?_)
    refine LoopStop.mk (α:=Nat) (fun k=>[(8,.int .i64 k),(6,.int .u8 (loW l k)),(7,.int .u8 (hiW l k))]) (fun i=>[]) 40 (fun k=>1<=k/\k<=l.length/\k<=M+1/\∀ j,1<=j->j<k->okW l j) (fun k=>l.length-k) 1 ⟨by omega,by omega,by omega,fun j _ _=>by omega⟩ ?_ (fun k hk=>?_)
    · all_goals exact vcA
    · obtain⟨h1,h2,h3,h4⟩:=hk
      have hcut:=hC k h1 h2 h3 h4;unfold okW at hcut;have hs:k<l.length->loW l k<=(l.getD k 0).toNat->(l.getD k 0).toNat<=hiW l k->∀ j,1<=j->j<k+1->okW l j:=fun _ a b j hj1 hj2=>by
        rcases yBY j k with hh|hh
        · exact h4 j hj1 hh
        · obtain rfl:j=k:=by omega
          exact⟨a,b⟩
      have hck:UInt8.toNat (@List.getD (Ty.T .byte) l (Int.toNat (k:Int)) (Ty.dflt .byte))=(l.getD k 0).toNat:=rfl;have hck2:UInt8.toNat (@List.getD (Ty.T .byte) l k (Ty.dflt .byte))=(l.getD k 0).toNat:=rfl;clear hce hC h4 hS hL hH
      repeat'((conv=>whnf);first|exact qR|(intro hq;(try simp only[ZA,ZB,ZC,ZD,ZE,ZF,ZG,ZH,ZI,ZJ,ZK,ZL,ZM,ZN,ZO,yAA,yAG,ge_iff_le,gt_iff_lt,yAK,yB1,cast_eq] at hq);(try(exfalso;first|omega|exact hq trivial|exact absurd hq (by decide))))|refine WA ?_ ?_|refine WF ?_|refine W1 rfl ?_ ?_|refine W2 rfl ?_ ?_|refine W3 rfl ?_ ?_|refine W4 ?_ ?_|refine W5 rfl ?_ ?_|refine W6 ?_ ?_|refine WN ?_|refine X1 (W1 rfl ?_ ?_)|refine X1 (W2 rfl ?_ ?_)|refine X2 (W7 rfl ?_ ?_)|refine X3 (W7 rfl ?_ ?_)|refine X4 (W7 rfl ?_ ?_)|refine X5 (W7 rfl ?_ ?_))
      all_goals(try(conv=>whnf))
      all_goals(try first|exact obA|refine Ob.mk ?_)
      all_goals(first
        | (refine Rnd.mk ⟨k+1,⟨by omega,by omega,by omega,hs (by omega) (by omega) (by omega)⟩,by omega,?_⟩
           repeat'((conv=>whnf);first|exact qR|refine And.intro ?_ ?_)
           all_goals(try(conv=>whnf))
           all_goals(try first|exact obA|refine Ob.mk ?_)
           all_goals(first|(rw[qkR _ _ h1];rfl)|(rw[qlV _ _ h1];rfl)|rfl)
           done)
        | (have:=hcut (by omega);clear hcut hs;first|omega|(show true=_;symm;rw[hok];omega)|(show false=_;symm;rw[yAD,ne_eq,hok];omega)))
  · repeat'((conv=>whnf);first|exact qR|(intro hq;(try simp only[ZA,ZB,ZC,ZD,ZE,ZF,ZG,ZH,ZI,ZJ,ZK,ZL,ZM,ZN,ZO,yAA,yAG,ge_iff_le,gt_iff_lt,yAK,yB1,cast_eq] at hq);(try(exfalso;first|omega|exact hq trivial|exact absurd hq (by decide))))|refine WA ?_ ?_|refine WF ?_|refine W1 rfl ?_ ?_|refine W2 rfl ?_ ?_|refine W3 rfl ?_ ?_|refine W4 ?_ ?_|refine W5 rfl ?_ ?_|refine W6 ?_ ?_|refine WN ?_|refine X1 (W1 rfl ?_ ?_)|refine X1 (W2 rfl ?_ ?_)|refine X2 (W7 rfl ?_ ?_)|refine X3 (W7 rfl ?_ ?_)|refine X4 (W7 rfl ?_ ?_)|refine X5 (W7 rfl ?_ ?_))
    all_goals(try(conv=>whnf))
    all_goals(try first|exact obA|refine Ob.mk ?_)
    refine LoopStop.mk (α:=Nat) (fun k=>[(8,.int .i64 k),(6,.int .u8 (loW l k)),(7,.int .u8 (hiW l k))]) (fun i=>[]) 40 (fun k=>1<=k/\k<=l.length/\k<=M+1/\∀ j,1<=j->j<k->okW l j) (fun k=>l.length-k) 1 ⟨by omega,by omega,by omega,fun j _ _=>by omega⟩ ?_ (fun k hk=>?_)
    · all_goals exact vcA
    · obtain⟨h1,h2,h3,h4⟩:=hk
      have hcut:=hC k h1 h2 h3 h4;unfold okW at hcut;have hs:k<l.length->loW l k<=(l.getD k 0).toNat->(l.getD k 0).toNat<=hiW l k->∀ j,1<=j->j<k+1->okW l j:=fun _ a b j hj1 hj2=>by
        rcases yBY j k with hh|hh
        · exact h4 j hj1 hh
        · obtain rfl:j=k:=by omega
          exact⟨a,b⟩
      have hck:UInt8.toNat (@List.getD (Ty.T .byte) l (Int.toNat (k:Int)) (Ty.dflt .byte))=(l.getD k 0).toNat:=rfl;have hck2:UInt8.toNat (@List.getD (Ty.T .byte) l k (Ty.dflt .byte))=(l.getD k 0).toNat:=rfl;clear hce hC h4 hS hL hH
      repeat'((conv=>whnf);first|exact qR|(intro hq;(try simp only[ZA,ZB,ZC,ZD,ZE,ZF,ZG,ZH,ZI,ZJ,ZK,ZL,ZM,ZN,ZO,yAA,yAG,ge_iff_le,gt_iff_lt,yAK,yB1,cast_eq] at hq);(try(exfalso;first|omega|exact hq trivial|exact absurd hq (by decide))))|refine WA ?_ ?_|refine WF ?_|refine W1 rfl ?_ ?_|refine W2 rfl ?_ ?_|refine W3 rfl ?_ ?_|refine W4 ?_ ?_|refine W5 rfl ?_ ?_|refine W6 ?_ ?_|refine WN ?_|refine X1 (W1 rfl ?_ ?_)|refine X1 (W2 rfl ?_ ?_)|refine X2 (W7 rfl ?_ ?_)|refine X3 (W7 rfl ?_ ?_)|refine X4 (W7 rfl ?_ ?_)|refine X5 (W7 rfl ?_ ?_))
      all_goals(try(conv=>whnf))
      all_goals(try first|exact obA|refine Ob.mk ?_)
      all_goals(first
        | (refine Rnd.mk ⟨k+1,⟨by omega,by omega,by omega,hs (by omega) (by omega) (by omega)⟩,by omega,?_⟩
           repeat'((conv=>whnf);first|exact qR|refine And.intro ?_ ?_)
           all_goals(try(conv=>whnf))
           all_goals(try first|exact obA|refine Ob.mk ?_)
           all_goals(first|(rw[qkR _ _ h1];rfl)|(rw[qlV _ _ h1];rfl)|rfl)
           done)
        | (have:=hcut (by omega);clear hcut hs;first|omega|(show true=_;symm;rw[hok];omega)|(show false=_;symm;rw[yAD,ne_eq,hok];omega)))
  · repeat'((conv=>whnf);first|exact qR|(intro hq;(try simp only[ZA,ZB,ZC,ZD,ZE,ZF,ZG,ZH,ZI,ZJ,ZK,ZL,ZM,ZN,ZO,yAA,yAG,ge_iff_le,gt_iff_lt,yAK,yB1,cast_eq] at hq);(try(exfalso;first|omega|exact hq trivial|exact absurd hq (by decide))))|refine WA ?_ ?_|refine WF ?_|refine W1 rfl ?_ ?_|refine W2 rfl ?_ ?_|refine W3 rfl ?_ ?_|refine W4 ?_ ?_|refine W5 rfl ?_ ?_|refine W6 ?_ ?_|refine WN ?_|refine X1 (W1 rfl ?_ ?_)|refine X1 (W2 rfl ?_ ?_)|refine X2 (W7 rfl ?_ ?_)|refine X3 (W7 rfl ?_ ?_)|refine X4 (W7 rfl ?_ ?_)|refine X5 (W7 rfl ?_ ?_))
    all_goals(try(conv=>whnf))
    all_goals(try first|exact obA|refine Ob.mk ?_)
    refine LoopStop.mk (α:=Nat) (fun k=>[(8,.int .i64 k),(6,.int .u8 (loW l k)),(7,.int .u8 (hiW l k))]) (fun i=>[]) 40 (fun k=>1<=k/\k<=l.length/\k<=M+1/\∀ j,1<=j->j<k->okW l j) (fun k=>l.length-k) 1 ⟨by omega,by omega,by omega,fun j _ _=>by omega⟩ ?_ (fun k hk=>?_)
    · all_goals exact vcA
    · obtain⟨h1,h2,h3,h4⟩:=hk
      have hcut:=hC k h1 h2 h3 h4;unfold okW at hcut;have hs:k<l.length->loW l k<=(l.getD k 0).toNat->(l.getD k 0).toNat<=hiW l k->∀ j,1<=j->j<k+1->okW l j:=fun _ a b j hj1 hj2=>by
        rcases yBY j k with hh|hh
        · exact h4 j hj1 hh
        · obtain rfl:j=k:=by omega
          exact⟨a,b⟩
      have hck:UInt8.toNat (@List.getD (Ty.T .byte) l (Int.toNat (k:Int)) (Ty.dflt .byte))=(l.getD k 0).toNat:=rfl;have hck2:UInt8.toNat (@List.getD (Ty.T .byte) l k (Ty.dflt .byte))=(l.getD k 0).toNat:=rfl;clear hce hC h4 hS hL hH
      repeat'((conv=>whnf);first|exact qR|(intro hq;(try simp only[ZA,ZB,ZC,ZD,ZE,ZF,ZG,ZH,ZI,ZJ,ZK,ZL,ZM,ZN,ZO,yAA,yAG,ge_iff_le,gt_iff_lt,yAK,yB1,cast_eq] at hq);(try(exfalso;first|omega|exact hq trivial|exact absurd hq (by decide))))|refine WA ?_ ?_|refine WF ?_|refine W1 rfl ?_ ?_|refine W2 rfl ?_ ?_|refine W3 rfl ?_ ?_|refine W4 ?_ ?_|refine W5 rfl ?_ ?_|refine W6 ?_ ?_|refine WN ?_|refine X1 (W1 rfl ?_ ?_)|refine X1 (W2 rfl ?_ ?_)|refine X2 (W7 rfl ?_ ?_)|refine X3 (W7 rfl ?_ ?_)|refine X4 (W7 rfl ?_ ?_)|refine X5 (W7 rfl ?_ ?_))
      all_goals(try(conv=>whnf))
      all_goals(try first|exact obA|refine Ob.mk ?_)
      all_goals(first
        | (refine Rnd.mk ⟨k+1,⟨by omega,by omega,by omega,hs (by omega) (by omega) (by omega)⟩,by omega,?_⟩
           repeat'((conv=>whnf);first|exact qR|refine And.intro ?_ ?_)
           all_goals(try(conv=>whnf))
           all_goals(try first|exact obA|refine Ob.mk ?_)
           all_goals(first|(rw[qkR _ _ h1];rfl)|(rw[qlV _ _ h1];rfl)|rfl)
           done)
        | (have:=hcut (by omega);clear hcut hs;first|omega|(show true=_;symm;rw[hok];omega)|(show false=_;symm;rw[yAD,ne_eq,hok];omega)))
  · repeat'((conv=>whnf);first|exact qR|(intro hq;(try simp only[ZA,ZB,ZC,ZD,ZE,ZF,ZG,ZH,ZI,ZJ,ZK,ZL,ZM,ZN,ZO,yAA,yAG,ge_iff_le,gt_iff_lt,yAK,yB1,cast_eq] at hq);(try(exfalso;first|omega|exact hq trivial|exact absurd hq (by decide))))|refine WA ?_ ?_|refine WF ?_|refine W1 rfl ?_ ?_|refine W2 rfl ?_ ?_|refine W3 rfl ?_ ?_|refine W4 ?_ ?_|refine W5 rfl ?_ ?_|refine W6 ?_ ?_|refine WN ?_|refine X1 (W1 rfl ?_ ?_)|refine X1 (W2 rfl ?_ ?_)|refine X2 (W7 rfl ?_ ?_)|refine X3 (W7 rfl ?_ ?_)|refine X4 (W7 rfl ?_ ?_)|refine X5 (W7 rfl ?_ ?_))
    all_goals(try(conv=>whnf))
    all_goals(try first|exact obA|refine Ob.mk ?_)
    refine LoopStop.mk (α:=Nat) (fun k=>[(8,.int .i64 k),(6,.int .u8 (loW l k)),(7,.int .u8 (hiW l k))]) (fun i=>[]) 40 (fun k=>1<=k/\k<=l.length/\k<=M+1/\∀ j,1<=j->j<k->okW l j) (fun k=>l.length-k) 1 ⟨by omega,by omega,by omega,fun j _ _=>by omega⟩ ?_ (fun k hk=>?_)
    · all_goals exact vcA
    · obtain⟨h1,h2,h3,h4⟩:=hk
      have hcut:=hC k h1 h2 h3 h4;unfold okW at hcut;have hs:k<l.length->loW l k<=(l.getD k 0).toNat->(l.getD k 0).toNat<=hiW l k->∀ j,1<=j->j<k+1->okW l j:=fun _ a b j hj1 hj2=>by
        rcases yBY j k with hh|hh
        · exact h4 j hj1 hh
        · obtain rfl:j=k:=by omega
          exact⟨a,b⟩
      have hck:UInt8.toNat (@List.getD (Ty.T .byte) l (Int.toNat (k:Int)) (Ty.dflt .byte))=(l.getD k 0).toNat:=rfl;have hck2:UInt8.toNat (@List.getD (Ty.T .byte) l k (Ty.dflt .byte))=(l.getD k 0).toNat:=rfl;clear hce hC h4 hS hL hH
      repeat'((conv=>whnf);first|exact qR|(intro hq;(try simp only[ZA,ZB,ZC,ZD,ZE,ZF,ZG,ZH,ZI,ZJ,ZK,ZL,ZM,ZN,ZO,yAA,yAG,ge_iff_le,gt_iff_lt,yAK,yB1,cast_eq] at hq);(try(exfalso;first|omega|exact hq trivial|exact absurd hq (by decide))))|refine WA ?_ ?_|refine WF ?_|refine W1 rfl ?_ ?_|refine W2 rfl ?_ ?_|refine W3 rfl ?_ ?_|refine W4 ?_ ?_|refine W5 rfl ?_ ?_|refine W6 ?_ ?_|refine WN ?_|refine X1 (W1 rfl ?_ ?_)|refine X1 (W2 rfl ?_ ?_)|refine X2 (W7 rfl ?_ ?_)|refine X3 (W7 rfl ?_ ?_)|refine X4 (W7 rfl ?_ ?_)|refine X5 (W7 rfl ?_ ?_))
      all_goals(try(conv=>whnf))
      all_goals(try first|exact obA|refine Ob.mk ?_)
      all_goals(first
        | (refine Rnd.mk ⟨k+1,⟨by omega,by omega,by omega,hs (by omega) (by omega) (by omega)⟩,by omega,?_⟩
           repeat'((conv=>whnf);first|exact qR|refine And.intro ?_ ?_)
           all_goals(try(conv=>whnf))
           all_goals(try first|exact obA|refine Ob.mk ?_)
           all_goals(first|(rw[qkR _ _ h1];rfl)|(rw[qlV _ _ h1];rfl)|rfl)
           done)
        | (have:=hcut (by omega);clear hcut hs;first|omega|(show true=_;symm;rw[hok];omega)|(show false=_;symm;rw[yAD,ne_eq,hok];omega)))
end Go.Vc

namespace Go.Vc
open Go.Proofs
set_option maxRecDepth 10000
theorem qlS (n:Int) (h : -2147483648<=n/\n<=2147483647):IntKind.i32.wrap n=n:=qY6 (k:=.i32) h
theorem qeD:(Utf8.encode (IntKind.i32.wrap 65533)).data.toList=(Utf8.encode 65533).data.toList:=by decide
instance fREnc (n:Int):Fn BB 202 [.int .i64 n] True (.str (qnH n)):=by
 refine Fn.intro (N:=20) [0,2,16] [] Tryz.call202 Tryz.func202 rfl rfl (by kernel_rfl) (fun hpre=>?_)
 repeat'((conv=>whnf);first|exact qR|intro _|refine And.intro ?_ ?_|refine Fin.mk ?_)
 all_goals(try(conv=>whnf))
 all_goals(try simp only[ZA,ZB,ZC,ZD,ZE,ZF,ZG,ZH,ZI,ZJ,ZK,ZL,ZM,ZN,ZO,yAA,yAG,ge_iff_le,gt_iff_lt,yAK,yB1,cast_eq] at *)
 ·unfold qnH;rw[if_pos (by omega),qeD]
 ·unfold qnH;rw[if_neg (by omega),qlS n (by omega)]
end Go.Vc

namespace Go.Vc
open Go.Proofs
set_option maxRecDepth 10000
set_option maxHeartbeats 8000000
theorem qSE (l:List UInt8) (i k:Nat):(l.drop i).getD k 0=l.getD (i+k) 0:=by simp[List.getD]
theorem qmA:qnH 65533=qk3:=by decide
structure RI (l:List UInt8) (i:Nat) (b:List UInt8):Prop where
 hi:i<=l.length
 eq:b++qf3 (l.drop i)=qf3 l
 bnd:b.length<=3*i
theorem RI.step {l i b}(h:RI l i b) (hl:i<l.length) {c:List UInt8}{k:Nat}(hc:qV4 (l.drop i)=c) (hk:qGL (l.drop i)=k):RI l (i+k) (b++c):=by
 subst hc;subst hk;obtain⟨hi,eq,bnd⟩:=h;have hd:l.drop i≠[]:=by intro h;have:=congrArg List.length h;rw[yBD] at this;simp at this;omega
 have hs:=qN2 _ hd;have hc:=qg0 _ hd;have hld:(l.drop i).length=l.length-i:=yBD;refine⟨by omega,?_,by rw[yBB];omega⟩
 rw[<-eq,qlR _ hd,List.drop_drop,yAP]
instance fRDecode (l:List UInt8):Fn BB 167 [.rd .byte l] (l.length<=100000) (.str (qf3 l)):=by
 refine Fn.intro (N:=64) [0,2,3,4,5,6,10,26,34,50] [] Tryz.call167 Tryz.func167 rfl rfl (by kernel_rfl) (fun hpre=>?_)
 skip
 all_goals(try(conv=>whnf))
 refine LoopStop.mk (α:=Nat×List UInt8) (fun a=>[(4,.int .i64 a.1),(3,.own 0)]) (fun a=>[(0,.own .byte a.2)]) 20 (fun a=>RI l a.1 a.2) (fun a=>l.length-a.1) (0,[]) ⟨by simp,by simp,by simp⟩ ?_ (fun a ha=>?_)
 ·all_goals exact vcA
 ·obtain⟨i,b⟩:=a;have hi:i<=l.length:=ha.hi;have hbn:b.length<=3*i:=ha.bnd
  replace ha:RI l i b:=ha
  have hld:(l.drop i).length=l.length-i:=yBD;rcases yBY i l.length with hl|hl
  ·have hd:l.drop i≠[]:=by intro h;have:=congrArg List.length h;rw[hld] at this;simp at this;omega
   have hcb:=qPS _ hd;have hel:=qiN 65533;have ei:((i:Int)+1).toNat=i+1:=by omega
   repeat'((conv=>whnf);first|exact qR|intro _|refine WA ?_ ?_|refine WF ?_|refine X1 (W1 rfl ?_ ?_))
   all_goals(try(conv=>whnf))
   all_goals(try first|exact obA|refine Ob.mk ?_)
   all_goals(try simp only[yAK] at *)
   all_goals(try(first|exact⟨hd,by omega⟩|(exfalso;have:=of_decide_eq_false ‹decide ((i:Int)<(l.length:Int))=false›;omega)))
   all_goals(try(first|omega|(constructor<;>omega)))
   all_goals(try simp only[qmA] at *)
   all_goals(have e0:(UInt8.toNat (@List.getD (Ty.T .byte) l i (Ty.dflt .byte)))=((l.drop i).getD 0 0).toNat:=by rw[qSE];rfl)
   all_goals(have e1:(UInt8.toNat (@List.getD (Ty.T .byte) l ((i:Int)+1).toNat (Ty.dflt .byte)))=((l.drop i).getD 1 0).toNat:=by rw[qSE,ei];rfl)
   ·rename_i q;have hc:qV4 (l.drop i)=qk3/\qGL (l.drop i)=qLJ (l.drop i):=by
     cases ho:okU (l.drop i) with
     | false=>exact⟨(qi3 ho).2,(qi3 ho).1⟩
     | true=>
      rw[ho] at q;have h0:((l.drop i).getD 0 0).toNat=0:=by
       have:=beq_iff_eq.1 (show(_==(0:Int))=true from q)
       omega
      exact⟨(qjU ho h0).2,(qjU ho h0).1⟩
    refine Rnd.mk ⟨(i+qLJ (l.drop i),b++qk3),ha.step hl hc.1 hc.2,by simp only[];omega,?_⟩
    repeat'((conv=>whnf);first|exact qR|refine And.intro ?_ ?_)
    all_goals(try(conv=>whnf))
    all_goals(try first|exact obA|refine Ob.mk ?_)
    all_goals(first|rfl|(congr 1;omega)|skip)
   ·rename_i q1 q2 _ q3;have ho:okU (l.drop i)=true:=by cases ho:okU (l.drop i) with|true=>rfl|false=>rw[ho] at q1;cases q1
    have h0:((l.drop i).getD 0 0).toNat=13:=by have:=beq_iff_eq.1 q2;omega
    simp only[yAB,decide_eq_true_eq,beq_iff_eq] at q3;have q4:1<(l.drop i).length/\((l.drop i).getD 1 0).toNat=10:=by omega
    refine Rnd.mk ⟨(i+2,b++[10]),ha.step hl (qgQ ho h0).2 ((qgQ ho h0).1.trans (if_pos q4)),by simp only[];omega,?_⟩
    repeat'((conv=>whnf);first|exact qR|refine And.intro ?_ ?_)
    all_goals(try(conv=>whnf))
    all_goals(try first|exact obA|refine Ob.mk ?_)
    all_goals(first|rfl|(congr 1;omega)|skip)
   ·rename_i q1 q2 _ q3;have ho:okU (l.drop i)=true:=by cases ho:okU (l.drop i) with|true=>rfl|false=>rw[ho] at q1;cases q1
    have h0:((l.drop i).getD 0 0).toNat=13:=by have:=beq_iff_eq.1 q2;omega
    simp only[yAA,decide_eq_false_iff_not,beq_eq_false_iff_ne,ne_eq] at q3;have q4:¬(1<(l.drop i).length/\((l.drop i).getD 1 0).toNat=10):=by omega
    refine Rnd.mk ⟨(i+qLJ (l.drop i),b++[10]),ha.step hl (qgQ ho h0).2 ((qgQ ho h0).1.trans (if_neg q4)),by simp only[];omega,?_⟩
    repeat'((conv=>whnf);first|exact qR|refine And.intro ?_ ?_)
    all_goals(try(conv=>whnf))
    all_goals(try first|exact obA|refine Ob.mk ?_)
    all_goals(first|rfl|(congr 1;omega)|skip)
   ·rename_i q1 q2;have ho:okU (l.drop i)=true:=by cases ho:okU (l.drop i) with|true=>rfl|false=>rw[ho] at q1;cases q1
    have h0:((l.drop i).getD 0 0).toNat≠13:=by have:=beq_eq_false_iff_ne.1 q2;omega
    have h1:((l.drop i).getD 0 0).toNat≠0:=by
     rw[ho] at q1;have:=beq_eq_false_iff_ne.1 (show(_==(0:Int))=false from q1)
     omega
    have et:List.drop i (List.take ((i:Int)+(qLJ (l.drop i):Int)).toNat l)=(l.drop i).take (qLJ (l.drop i)):=by
     rw[show((i:Int)+(qLJ (l.drop i):Int)).toNat=i+qLJ (l.drop i) by omega,List.take_drop]
    refine Rnd.mk ⟨(i+qLJ (l.drop i),b++(l.drop i).take (qLJ (l.drop i))),ha.step hl (qjZ ho h1 h0).2 (qjZ ho h1 h0).1,by simp only[];omega,?_⟩
    repeat'((conv=>whnf);first|exact qR|refine And.intro ?_ ?_)
    all_goals(try(conv=>whnf))
    all_goals(try first|exact obA|refine Ob.mk ?_)
    all_goals(first|rfl|(rw[et];done)|(congr 1;omega)|skip)
  ·repeat'((conv=>whnf);first|exact qR|intro _|refine WA ?_ ?_|refine WF ?_|refine X1 (W1 rfl ?_ ?_))
   all_goals(try(conv=>whnf))
   all_goals(try first|exact obA|refine Ob.mk ?_)
   all_goals(try(exfalso;have:=of_decide_eq_true ‹decide ((i:Int)<(l.length:Int))=true›;omega))
   all_goals(
    have hd:l.drop i=[]:=yAU (by omega)
    have heq:=ha.eq;rw[hd,qhV,yAQ] at heq)
   all_goals(try(rw[<-heq]))
end Go.Vc

namespace Go.Vc.W
open Go.Proofs
def isSp (c:Int):Bool:=c==9||c==10||c==12||c==13||c==32
set_option maxRecDepth 10000
instance f31 (c:Int):Fn BB 138 [.int .u8 c] True (.bool (isSp c)):=by
 refine Fn.intro (N:=10) [0,2,3,4] [] Tryz.call138 Tryz.func138 rfl rfl (by kernel_rfl) (fun hpre=>?_)
 repeat'((conv=>whnf);first|exact qR|intro _|refine And.intro ?_ ?_|refine Fin.mk ?_)
 all_goals(try(conv=>whnf))
 all_goals(simp_all [isSp];done)
instance f40 (c:Int):Fn BB 149 [.int .u8 c] True (.bool (isSp c)):=by
 refine Fn.intro (N:=21) [0,2] [] Tryz.call149 Tryz.func149 rfl rfl (by kernel_rfl) (fun hpre=>?_)
 repeat'((conv=>whnf);first|exact qR|refine And.intro ?_ ?_|refine Fin.mk ?_)
 all_goals(try(conv=>whnf))
 all_goals(simp_all [isSp];done)
theorem take_snoc {α:Type}(l:List α) (i:Nat) (d:α) (h:i<l.length):l.take (i+1)=l.take i++[l.getD i d]:=by
 rw[yBV h];simp[List.getD,yA5 h]
theorem qJS (l:List (List UInt8)) (i:Nat) (w:List UInt8) (h:i<l.length):(l.take (i+1)).contains w=((l.take i).contains w||(l.getD i []==w)):=by
 rw[take_snoc l i [] h];simp only[yAS,yAM,yAN,yAO,yAH];congr 1;exact yAC
instance f34 (l:List (List UInt8)) (w:List UInt8):Fn BB 131 [.rd .str l,.str w] True (.bool (l.contains w)):=by
 refine Fn.intro (N:=18) [0,1,4,5,9,17] [] Tryz.call131 Tryz.func131 rfl rfl (by kernel_rfl) (fun hpre=>?_)
 (conv=>whnf)
 refine LoopStop.mk (α:=Nat) (fun i=>[(5,.int .i64 i)]) (fun _=>[]) 0 (fun i=>i<=l.length/\(l.take i).contains w=false) (fun i=>l.length-i) 0 (by simp) ?_ (fun i hi=>?_)
 ·repeat'((conv=>whnf);first|exact qR|refine And.intro ?_ ?_)
  all_goals(try(conv=>whnf))
  all_goals(try rfl)
 ·repeat'((conv=>whnf);first|exact qR|intro _|refine And.intro ?_ ?_|refine Fin.mk ?_)
  all_goals(try(conv=>whnf))
  all_goals(try first|exact obA|refine Ob.mk ?_)
  all_goals(try simp only[ZA,ZB,ZC,ZD,ZE,ZF,ZG,ZH,ZI,ZJ,ZK,ZL,ZM,ZN,ZO,yAK,yB1,cast_eq] at *)
  ·rename_i h1 h2 h3;have h4:i<l.length:=by omega
   rw[<-h3];simp[List.getD,yA5 h4]
  ·rename_i h1 h2 h3;have h4:i<l.length:=by omega
   refine Rnd.mk ⟨i+1,?_,?_,?_⟩
   ·refine⟨by omega,?_⟩
    rw[qJS l i w h4,hi.2,yAE];exact beq_eq_false_iff_ne.mpr h3
   ·omega
   ·all_goals exact vcA
  ·rename_i h1 h2;have:i=l.length:=by omega
   subst this;simp_all
end Go.Vc.W

namespace Go.Vc
open Go.Proofs
set_option maxRecDepth 10000
set_option maxHeartbeats 2000000
def upB (c:UInt8):Bool:=decide (65<=c.toNat)&&decide (c.toNat<=90)
def qgA (c:UInt8):UInt8:=if upB c then c+32 else c
def qf2 (s:List UInt8):List UInt8:=s.map qgA
def qGM (s:List UInt8) (i:Nat):List UInt8:=(s.take i).map qgA++s.drop i
theorem qU4 (s:List UInt8) (i:Nat) (h:i<=s.length):(qGM s i).length=s.length:=by simp[qGM];omega
theorem qT5 (s:List UInt8) (i:Nat) (h:i<s.length):(qGM s i).getD i 0=s.getD i 0:=by
 unfold qGM;have hl:((s.take i).map qgA).length=i:=by simp;omega
 simp only[List.getD];rw[yA4 (by omega),hl]
 simp
theorem qSL (s:List UInt8) (i:Nat) (h:i<s.length):(qGM s i).set i (qgA (s.getD i 0))=qGM s (i+1):=by
 unfold qGM;have hl:((s.take i).map qgA).length=i:=by simp;omega
 rw[yBQ _ _ (by omega),hl,Nat.sub_self,yAT h,List.set_cons_zero,yBV h,yBI]
 simp[List.getD,yA5 h]
theorem qZX (s:List UInt8) (i:Nat) (h:i<s.length) (hu:upB (s.getD i 0)=false):qGM s (i+1)=qGM s i:=by
 rw[<-qSL s i h];have:qgA (s.getD i 0)=s.getD i 0:=by unfold qgA;rw[hu];rfl
 rw[this];have h2:=qT5 s i h;have hl:=qU4 s i (by omega)
 apply List.ext_getElem?;intro j;rw[yA8];split
 ·rename_i e;subst e;rw[if_pos (by omega), <-h2]
  simp[List.getD,yA5 (show i<(qGM s i).length by omega)]
 ·rfl
theorem qcJ (s:List UInt8):qGM s s.length=qf2 s:=by simp[qGM,qf2]
theorem qkI (c:UInt8) (h:upB c=true):UInt8.ofNat (IntKind.u8.wrap ((c.toNat:Int)+32)).toNat=qgA c:=by
 have key:∀ k:_root_.Fin 256,upB (UInt8.ofNat k.val)=true->UInt8.ofNat (IntKind.u8.wrap ((k.val:Int)+32)).toNat=qgA (UInt8.ofNat k.val):=by decide +kernel
 have:=key ⟨c.toNat,c.toNat_lt⟩;simp only[yB1] at this;exact this h
theorem qg4 (c:UInt8):0<=IntKind.u8.wrap ((c.toNat:Int)+32)/\IntKind.u8.wrap ((c.toNat:Int)+32)<=255:=by
 have key:∀ k:_root_.Fin 256,0<=IntKind.u8.wrap ((k.val:Int)+32)/\IntKind.u8.wrap ((k.val:Int)+32)<=255:=by decide +kernel
 exact key ⟨c.toNat,c.toNat_lt⟩
theorem zEP (c:UInt8):(decide ((65:Int)<=(c.toNat:Int))&&decide ((c.toNat:Int)<=90))=upB c:=by
 unfold upB;congr 1<;>(rw[Bool.eq_iff_iff];simp;try omega)
instance lRLower (s:List UInt8):Fn BB 200 [.str s] True (.str (qf2 s)):=by
 refine Fn.intro (N:=33) [0,2,3,4,10,24] [] Tryz.call200 Tryz.func200 rfl rfl (by kernel_rfl) (fun hpre=>?_)
 skip
 all_goals(try(conv=>whnf))
 refine LoopStop.mk (α:=Nat) (fun i=>[(4,.int .i64 i)]) (fun i=>[(0,.own .byte (qGM s i))]) 20 (fun i=>i<=s.length) (fun i=>s.length+1-i) 0 (by simp) ?_ (fun i hi=>?_)
 ·all_goals exact vcA
 ·have hg:=fun h=>qT5 s i h
  have hst:=fun h=>qSL s i h
  have hln:=qU4 s i hi;have ue:(decide ((((qGM s i).getD i 0).toNat:Int)>=65)&&decide ((((qGM s i).getD i 0).toNat:Int)<=90))=upB ((qGM s i).getD i 0):=zEP _
  repeat'((conv=>whnf);first|exact qR|intro _|refine And.intro ?_ ?_|refine Fin.mk ?_)
  all_goals(try(conv=>whnf))
  all_goals(try first|exact obA|refine Ob.mk ?_)
  all_goals(try simp only[yAK,Ty.dflt] at *)
  all_goals(first|exact qg4 _|skip)
  ·rename_i hl h;have hl:=of_decide_eq_true hl;have h:upB ((qGM s i).getD i 0)=true:=ue.symm.trans h;refine Rnd.mk ⟨i+1,by omega,by omega,?_⟩
   repeat'((conv=>whnf);first|exact qR|refine And.intro ?_ ?_)
   all_goals(try(conv=>whnf))
   all_goals(try first|exact obA|refine Ob.mk ?_)
   all_goals(rw[qkI _ h,hg (by omega),hst (by omega)])
  ·rename_i hl h;have hl:=of_decide_eq_true hl;have h:upB ((qGM s i).getD i 0)=false:=ue.symm.trans h;rw[hg (by omega)] at h
   refine Rnd.mk ⟨i+1,by omega,by omega,?_⟩
   repeat'((conv=>whnf);first|exact qR|refine And.intro ?_ ?_)
   all_goals(try(conv=>whnf))
   all_goals(try first|exact obA|refine Ob.mk ?_)
   all_goals(rw[qZX s i (by omega) h])
  ·rename_i hl;have hl:=of_decide_eq_false hl;have:i=s.length:=by omega
   rw[this,qcJ]
instance aRFold (s t:List UInt8):Fn BB 249 [.str s,.str t] True (.bool (qf2 s==qf2 t)):=by
 refine Fn.intro (N:=10) [0,1,4] [] Tryz.call249 Tryz.func249 rfl rfl (by kernel_rfl) (fun hpre=>?_)
 all_goals exact vcA
end Go.Vc

namespace Go.Vc
open Go.Proofs
set_option maxRecDepth 10000
set_option maxHeartbeats 4000000
def scU {β:Type}(f:Nat->Option β) (d:β):Nat->Nat->β
 | 0,_=>d
 | m+1,i=>match f i with|some b=>b|none=>scU f d m (i+1)
theorem qBQ {β:Type}{f:Nat->Option β}{d b:β}{n i:Nat}(h:i<n) (hf:f i=some b):scU f d (n-i) i=b:=by
 rw[show n-i=(n-i-1)+1 by omega,scU,hf]
theorem qBV {β:Type}{f:Nat->Option β}{d:β}{n i:Nat}(h:i<n) (hf:f i=none):scU f d (n-i) i=scU f d (n-(i+1)) (i+1):=by
 rw[show n-i=(n-i-1)+1 by omega,scU,hf,show n-i-1=n-(i+1) by omega]
theorem qCR {β:Type}{f:Nat->Option β}{d:β}{n i:Nat}(h:¬i<n):scU f d (n-i) i=d:=by
 rw[show n-i=0 by omega,scU]
def scD {β:Type}(f:Nat->Option β) (d:β):Nat->β
 | 0=>d
 | m+1=>match f m with|some b=>b|none=>scD f d m
theorem qH0 {β:Type}{f:Nat->Option β}{d b:β}{m:Nat}(hf:f m=some b):scD f d (m+1)=b:=by rw[scD,hf]
theorem qQ3 {β:Type}{f:Nat->Option β}{d:β}{m:Nat}(hf:f m=none):scD f d (m+1)=scD f d m:=by rw[scD,hf]
noncomputable def qYR (s:List UInt8):Bool:=qf3 s==s
instance fRValid (s:List UInt8):Fn BB 130 [.str s] (s.length<=100000) (.bool (qYR s)):=by
 refine Fn.intro (N:=8) [0,2] [] Tryz.call130 Tryz.func130 rfl rfl (by kernel_rfl) (fun hpre=>?_)
 all_goals exact vcA
def qfR (s:List UInt8) (i:Nat):Option Bool:=bif ((s.getD i 0).toNat:Int)==13 then some false else none
noncomputable def qGC (s:List UInt8):Bool:=scU (qfR s) (qYR s) s.length 0
instance bText (s:List UInt8):Fn BB 71 [.str s] (s.length<=100000) (.bool (qGC s)):=by
 refine Fn.intro (N:=16) [0,2,3,7,13] [] Tryz.call71 Tryz.func71 rfl rfl (by kernel_rfl) (fun hpre=>?_)
 skip
 all_goals(try(conv=>whnf))
 refine LoopStop.mk (α:=Nat) (fun i=>[(3,.int .i64 i)]) (fun _=>[]) 20 (fun i=>i<=s.length/\scU (qfR s) (qYR s) (s.length-i) i=qGC s) (fun i=>s.length-i) 0 ⟨yB0 _,rfl⟩ ?_ (fun i hi=>?_)
 ·all_goals exact vcA
 ·obtain⟨hi,hall⟩:=hi;rw[<-hall];have f1:((s.getD i 0).toNat:Int)=13->qfR s i=some false:=fun h=>by unfold qfR;rw[h];rfl
  have f2:¬((s.getD i 0).toNat:Int)=13->qfR s i=none:=fun h=>by unfold qfR;rw[show(((s.getD i 0).toNat:Int)==13)=false from beq_eq_false_iff_ne.2 h];rfl
  repeat'((conv=>whnf);first|exact qR|intro _|refine WA ?_ ?_|refine WF ?_|refine X1 (W1 rfl ?_ ?_))
  all_goals(try(conv=>whnf))
  all_goals(try first|exact obA|refine Ob.mk ?_)
  all_goals(try simp only[ZA,ZB,ZC,ZD,ZE,ZF,ZG,ZH,ZI,ZJ,ZK,ZL,ZM,ZN,ZO,yAK,yB1,cast_eq] at *)
  ·rw[qBQ (by omega) (f1 ‹_›)]
  ·refine Rnd.mk ⟨i+1,⟨by omega,(qBV (by omega) (f2 ‹_›)).symm⟩,by omega,?_⟩
   all_goals exact vcA
  ·rw[qCR (by omega)]
instance bClear (s:List UInt8):Fn BB 164 [.str s] (s.length<=100000) (.bool (qGC s)):=by
 refine Fn.intro (N:=16) [0,2,3,7,13] [] Tryz.call164 Tryz.func164 rfl rfl (by kernel_rfl) (fun hpre=>?_)
 skip
 all_goals(try(conv=>whnf))
 refine LoopStop.mk (α:=Nat) (fun i=>[(3,.int .i64 i)]) (fun _=>[]) 20 (fun i=>i<=s.length/\scU (qfR s) (qYR s) (s.length-i) i=qGC s) (fun i=>s.length-i) 0 ⟨yB0 _,rfl⟩ ?_ (fun i hi=>?_)
 ·all_goals exact vcA
 ·obtain⟨hi,hall⟩:=hi;rw[<-hall];have f1:((s.getD i 0).toNat:Int)=13->qfR s i=some false:=fun h=>by unfold qfR;rw[h];rfl
  have f2:¬((s.getD i 0).toNat:Int)=13->qfR s i=none:=fun h=>by unfold qfR;rw[show(((s.getD i 0).toNat:Int)==13)=false from beq_eq_false_iff_ne.2 h];rfl
  repeat'((conv=>whnf);first|exact qR|intro _|refine WA ?_ ?_|refine WF ?_|refine X1 (W1 rfl ?_ ?_))
  all_goals(try(conv=>whnf))
  all_goals(try first|exact obA|refine Ob.mk ?_)
  all_goals(try simp only[ZA,ZB,ZC,ZD,ZE,ZF,ZG,ZH,ZI,ZJ,ZK,ZL,ZM,ZN,ZO,yAK,yB1,cast_eq] at *)
  ·rw[qBQ (by omega) (f1 ‹_›)]
  ·refine Rnd.mk ⟨i+1,⟨by omega,(qBV (by omega) (f2 ‹_›)).symm⟩,by omega,?_⟩
   all_goals exact vcA
  ·rw[qCR (by omega)]
end Go.Vc

namespace Go.Vc
open Go.Proofs
set_option maxRecDepth 10000
abbrev qAD:=qAB.T
abbrev qAD.up (n:qAD):Int:=n.2.2.2.2.2.1
abbrev qAD.kids (n:qAD):List Int:=n.2.2.2.2.2.2
def isT (l:List qAD) (i:Int):Bool:=decide (0<=i)&&decide (i<l.length)
end Go.Vc

namespace Go.Vc
open Go.Proofs
set_option maxRecDepth 10000
theorem take_snoc {α:Type}(l:List α) (i:Nat) (d:α) (h:i<l.length):l.take (i+1)=l.take i++[l.getD i d]:=by
 rw[yBV h];simp[List.getD,yA5 h]
theorem qJO {α:Type}(p:α->Bool) (l:List α) (i:Nat) (d:α) (h:i<l.length):(l.take (i+1)).all p=((l.take i).all p&&p (l.getD i d)):=by
 rw[take_snoc l i d h];simp
theorem qLM {α:Type}{p:α->Bool}{l:List α}{i:Nat}{d:α}(h:i<l.length) (hp:p (l.getD i d)=false):l.all p=false:=by
 rw[List.all_eq_false];refine⟨l.getD i d,?_,by rw[hp];simp⟩
 simp[List.getD,yA5 h]
abbrev qAY:=qA2.T
def qIB (l:List qAY):Bool:=decide (l.length<=14)&&l.all fun a=>decide (a.1.length<=40)&&decide (a.2.length<=150)
instance f33 (l:List qAY):Fn BB 37 [.rd qA2 l] True (.bool (qIB l)):=by
 refine Fn.intro (N:=25) [0,2,4,7,8,9,10,11,23] [] Tryz.call37 Tryz.func37 rfl rfl (by kernel_rfl) (fun hpre=>?_)
 repeat'((conv=>whnf);first|exact qR|intro _|refine And.intro ?_ ?_|refine Fin.mk ?_)
 all_goals(try(conv=>whnf))
 ·simp only[qIB,decide_eq_true_eq] at *;rw[decide_eq_false (by omega)];rfl
 ·refine LoopStop.mk (α:=Nat) (fun i=>[(10,.int .i64 i)]) (fun _=>[]) 0 (fun i=>i<=l.length/\(l.take i).all (fun a=>decide (a.1.length<=40)&&decide (a.2.length<=150))=true) (fun i=>l.length-i) 0 (by simp) ?_ (fun i hi=>?_)
  ·repeat'((conv=>whnf);first|exact qR|refine And.intro ?_ ?_)
   all_goals(try(conv=>whnf))
   all_goals(try rfl)
  ·obtain⟨hi,ha⟩:=hi
   repeat'((conv=>whnf);first|exact qR|intro _|refine And.intro ?_ ?_|refine Fin.mk ?_)
   all_goals(try(conv=>whnf))
   all_goals(try first|exact obA|refine Ob.mk ?_)
   all_goals(try simp only[ZA,ZB,ZC,ZD,ZE,ZF,ZG,ZH,ZI,ZJ,ZK,ZL,ZM,ZN,ZO,yAK,yB1,cast_eq] at *)
   ·have h:i<l.length:=by omega
    rw[qIB,qLM h (d:=qA2.dflt)]
    ·simp
    ·simp_all;omega
   ·have h:i<l.length:=by omega
    refine Rnd.mk ⟨i+1,?_,?_,?_⟩
    ·refine⟨by omega,?_⟩
     rw[qJO _ l i qA2.dflt h,ha];simp_all;omega
    ·omega
    ·all_goals exact vcA
   ·have:i=l.length:=by omega
    subst this;rw[yBS] at ha;rw[qIB,ha,decide_eq_true (by omega)];rfl
def qNZ (n:qAD):Bool:=decide ((n.2.2.1.length:Int)<=40)&&decide ((n.2.2.2.2.1.length:Int)<=300)&&decide ((n.kids.length:Int)<=60)&&qIB n.2.2.2.1
instance f9 (k s:Int) (nm:List UInt8) (at_:List qAY) (d:List UInt8) (up:Int) (kids:List Int):
  Fn BB 30 [.agg [.int .i64 k,.int .i64 s,.str nm,.rd qA2 at_,.str d,.int .i64 up,.rd qAL kids]] True (.bool (qNZ (k,s,nm,at_,d,up,kids))):=by
 refine Fn.intro (N:=24) [0,1,2] [] Tryz.call30 Tryz.func30 rfl rfl (by kernel_rfl) (fun hpre=>?_)
 all_goals exact vcA
def qB8 (l:List qAD) (most:Int):Bool:=decide (l.length<=most)&&l.all qNZ
instance f8 (l:List qAD) (most:Int):Fn BB 22 [.agg [.rd qAB l],.int .i64 most] True (.bool (qB8 l most)):=by
 refine Fn.intro (N:=23) [0,1,2,4,6,11,13,14,15,16,21] [] Tryz.call22 Tryz.func22 rfl rfl (by kernel_rfl) (fun hpre=>?_)
 repeat'((conv=>whnf);first|exact qR|intro _|refine And.intro ?_ ?_|refine Fin.mk ?_)
 all_goals(try(conv=>whnf))
 ·simp only[qB8,decide_eq_true_eq] at *;rw[decide_eq_false (by omega)];rfl
 ·refine LoopStop.mk (α:=Nat) (fun i=>[(15,.int .i64 i)]) (fun _=>[]) 20 (fun i=>i<=l.length/\(l.take i).all qNZ=true) (fun i=>l.length-i) 0 (by simp) ?_ (fun i hi=>?_)
  ·repeat'((conv=>whnf);first|exact qR|refine And.intro ?_ ?_)
   all_goals(try(conv=>whnf))
   all_goals(try rfl)
  ·obtain⟨hi,ha⟩:=hi
   repeat'((conv=>whnf);first|exact qR|intro _|refine WA ?_ ?_|refine WF ?_|refine X1 (W1 rfl ?_ ?_))
   all_goals(try(conv=>whnf))
   all_goals(try first|exact obA|refine Ob.mk ?_)
   all_goals(try simp only[ZA,ZB,ZC,ZD,ZE,ZF,ZG,ZH,ZI,ZJ,ZK,ZL,ZM,ZN,ZO,yAK,yB1,cast_eq] at *)
   ·have h:i<l.length:=by omega
    rw[qB8,qLM h (d:=qAB.dflt)]
    ·simp
    ·simp_all
   ·have h:i<l.length:=by omega
    refine Rnd.mk ⟨i+1,?_,?_,?_⟩
    ·refine⟨by omega,?_⟩
     rw[qJO _ l i qAB.dflt h,ha];simp_all
    ·omega
    ·all_goals exact vcA
   ·have:i=l.length:=by omega
    subst this;rw[yBS] at ha;rw[qB8,ha,decide_eq_true (by omega)];rfl
end Go.Vc

namespace Go.Vc.W
open Go.Proofs
set_option maxRecDepth 10000
def qFJ (p:List (List UInt8)×List UInt8) (c:UInt8):List (List UInt8)×List UInt8:=
 if isSp c.toNat then(if p.2=[] then(p.1,[]) else(p.1++[p.2],[])) else(p.1,p.2++[c])
def qmW (p:List (List UInt8)×List UInt8):List (List UInt8):=if p.2=[] then p.1 else p.1++[p.2]
def spl (s:List UInt8):List (List UInt8):=qmW (s.foldl qFJ ([],[]))
def qK6 (s:List UInt8) (i:Nat):List (List UInt8)×List UInt8:=(s.take i).foldl qFJ ([],[])
theorem qEP (s:List UInt8) (i:Nat) (h:i<s.length):qK6 s (i+1)=qFJ (qK6 s i) (s.getD i 0):=by
 unfold qK6;rw[take_snoc s i 0 h,yA1];rfl
theorem qMD (s:List UInt8) (i:Nat) (h:s.length<=i):qK6 s i=s.foldl qFJ ([],[]):=by
 unfold qK6;rw[yBT h]
theorem qbB (p:List (List UInt8)×List UInt8) (c:UInt8):(qFJ p c).1.length+(qFJ p c).2.length<=p.1.length+p.2.length+1:=by
 unfold qFJ;by_cases h:isSp c.toNat=true
 ·by_cases h2:p.2=[]
  ·simp[h,h2]
  ·have:=yBE.mpr h2;simp[h,h2]
 ·simp[h];omega
theorem qZH (s:List UInt8) (i:Nat):(qK6 s i).1.length+(qK6 s i).2.length<=i:=by
 induction i with
 | zero=>simp[qK6]
 | succ i ih=>
  by_cases h:i<s.length
  ·rw[qEP s i h];have:=qbB (qK6 s i) (s.getD i 0);omega
  ·have e:qK6 s (i+1)=qK6 s i:=by rw[qMD s (i+1) (by omega),qMD s i (by omega)]
   rw[e];exact Nat.le_succ_of_le ih
theorem qRI (s:List UInt8) (i:Nat) (h:i<s.length):(s.take (i+1)).drop i=[s.getD i 0]:=by
 rw[take_snoc s i 0 h,List.drop_append,yBH,yBZ (by omega)];simp
theorem qRO (i:Nat):((i:Int)+1).toNat=i+1:=by omega
theorem qsA {s:List UInt8}{i:Nat}(h:s.length<=i) (h2:¬(qK6 s i).2=[]):spl s=(qK6 s i).1++[(qK6 s i).2]:=by
 unfold spl;rw[<-qMD s i h];simp[qmW,h2]
theorem qsX {s:List UInt8}{i:Nat}(h:s.length<=i) (h2:(qK6 s i).2=[]):spl s=(qK6 s i).1:=by
 unfold spl;rw[<-qMD s i h];simp[qmW,h2]
theorem qUC {p:List (List UInt8)×List UInt8}{c:UInt8}(h:isSp c.toNat=false):qFJ p c=(p.1,p.2++[c]):=by
 simp[qFJ,h]
theorem qUR {p:List (List UInt8)×List UInt8}{c:UInt8}(h:isSp c.toNat=true) (h2:p.2=[]):qFJ p c=(p.1,[]):=by
 simp[qFJ,h,h2]
theorem qON {p:List (List UInt8)×List UInt8}{c:UInt8}(h:isSp c.toNat=true) (h2:¬p.2=[]):qFJ p c=(p.1++[p.2],[]):=by
 simp[qFJ,h,h2]
instance f35 (s:List UInt8):Fn BB 104 [.str s] (s.length<=100000) (.rd .str (spl s)):=by
 refine Fn.intro (N:=37) [0,2,3,4,5,9,16,25,31] [] Tryz.call104 Tryz.func104 rfl rfl (by kernel_rfl) (fun hpre=>?_)
 (conv=>whnf)
 refine LoopStop.mk (α:=Nat) (fun i=>[(3,.own 0),(4,.str (qK6 s i).2),(5,.int .i64 i)]) (fun i=>[(0,.own .str (qK6 s i).1)]) 1 (fun i=>i<=s.length) (fun i=>s.length-i) 0 (by simp) ?_ (fun i hi=>?_)
 ·repeat'((conv=>whnf);first|exact qR|refine And.intro ?_ ?_)
  all_goals(try(conv=>whnf))
  all_goals(try rfl)
 ·have hl:=qZH s i
  repeat'((conv=>whnf);first|exact qR|intro _|refine WA ?_ ?_|refine WF ?_|refine X1 (W1 rfl ?_ ?_))
  all_goals(try(conv=>whnf))
  all_goals(try first|exact obA|refine Ob.mk ?_)
  all_goals(try simp only[ZA,ZB,ZC,ZD,ZE,ZF,ZG,ZH,ZI,ZJ,ZK,ZL,ZM,ZN,ZO,yAK,yB1,cast_eq] at *)
  ·have h:i<s.length:=by omega
   have e:=qEP s i h;rw[qUC ‹_›] at e;refine Rnd.mk ⟨i+1,?_,?_,?_⟩
   ·exact h
   ·omega
   ·repeat'((conv=>whnf);first|exact qR|refine And.intro ?_ ?_)
    all_goals(try(conv=>whnf))
    all_goals(try first|exact obA|refine Ob.mk ?_)
    all_goals(simp only[e,qRO,qRI s i h];done)
  ·skip;have h:i<s.length:=by omega
   have e:=qEP s i h;rw[qON ‹_› ‹_›] at e;skip
   all_goals(try(conv=>whnf))
   refine Rnd.mk ⟨i+1,?_,?_,?_⟩
   ·exact h
   ·omega
   ·repeat'((conv=>whnf);first|exact qR|refine And.intro ?_ ?_)
    all_goals(try(conv=>whnf))
    all_goals(try first|exact obA|refine Ob.mk ?_)
    all_goals(simp only[e];done)
  ·have h:i<s.length:=by omega
   have e:=qEP s i h;rw[qUR ‹_› ‹_›] at e;refine Rnd.mk ⟨i+1,?_,?_,?_⟩
   ·exact h
   ·omega
   ·repeat'((conv=>whnf);first|exact qR|refine And.intro ?_ ?_)
    all_goals(try(conv=>whnf))
    all_goals(try first|exact obA|refine Ob.mk ?_)
    all_goals(simp only[e];done)
  ·skip;skip
   all_goals(try(conv=>whnf))
   rw[qsA (i:=i) (by omega) ‹_›]
  ·rw[qsX (i:=i) (by omega) ‹_›]
end Go.Vc.W

namespace Go.Vc.W
open Go.Proofs
set_option maxRecDepth 10000
instance f29 (s w:List UInt8):Fn BB 72 [.str s,.str w] (s.length<=100000) (.bool ((spl s).contains w)):=by
 refine Fn.intro (N:=9) [0,1,4] [] Tryz.call72 Tryz.func72 rfl rfl (by kernel_rfl) (fun hpre=>?_)
 all_goals exact vcA
theorem qLY {l:List (List UInt8)}{i:Nat}(h:i<l.length):l.contains (l.getD i [])=true:=by
 simp[List.getD,yA5 h]
def qPE (l:List (List UInt8)) (w:List UInt8):Int:=if l.contains w then(l.idxOf w:Int) else -1
theorem qIZ {l:List (List UInt8)}{w:List UInt8}(h:l.contains w=false):qPE l w = -1:=by rw[qPE,h];rfl
theorem qP5 {l:List (List UInt8)}{w:List UInt8}{i:Nat}(h:i<l.length) (h1:(l.take i).contains w=false) (h2:w=l.getD i []):qPE l w=i:=by
 rw[qPE,h2,qLY h, <-h2,if_pos rfl];have e:=yBR i l;rw[<-e,yA9,if_neg (by simpa using h1),yBH,yBZ (by omega)]
 have e2:l.drop i=w::l.drop (i+1):=by rw[yAT h,h2];simp[List.getD,yA5 h]
 rw[e2,yBA];simp
end Go.Vc.W

namespace Go.Vc.W
open Go.Proofs
set_option maxRecDepth 10000
def spR (r:Int):Bool:=decide (r<128)&&isSp (IntKind.u8.wrap r)
instance f39 (r:Int):Fn BB 147 [.int .i32 r] (0<=r) (.bool (spR r)):=by
 refine Fn.intro (N:=10) [0,2] [] Tryz.call147 Tryz.func147 rfl rfl (by kernel_rfl) (fun hpre=>?_)
 all_goals exact vcA
theorem getB (s:List UInt8) (j:Nat):(ByteArray.get! ⟨s.toArray⟩ j)=s.getD j 0:=by
 by_cases h:j<s.length
 ·have:j<s.toArray.size:=by simpa using h
  simp[ByteArray.get!,List.getD,h]
 ·simp[ByteArray.get!,List.getD,h];rfl
theorem qJQ (s:List UInt8) (pos:Nat) (h:pos<s.length):1<=(qGT s pos).2/\pos+(qGT s pos).2<=s.length/\
  (if(qGT s pos).1<128 then(qGT s pos).2=1/\(qGT s pos).1=(s.getD pos 0).toNat else ∀ j,pos<=j->j<pos+(qGT s pos).2->128<=(s.getD j 0).toNat):=by
 have hsz:ByteArray.size ⟨s.toArray⟩=s.length:=by simp[ByteArray.size]
 have hb:∀ j,(s.getD j 0).toNat<256:=fun j=>UInt8.toNat_lt _
 unfold qGT Utf8.decode;simp only[getB,hsz,Nat.add_zero];generalize e0:(s.getD pos 0).toNat=b0;generalize e1:(s.getD (pos+1) 0).toNat=b1;generalize e2:(s.getD (pos+2) 0).toNat=b2;generalize e3:(s.getD (pos+3) 0).toNat=b3;have k0:=hb pos;have k1:=hb (pos+1);have k2:=hb (pos+2);have k3:=hb (pos+3);rw[e0] at k0;rw[e1] at k1;rw[e2] at k2;rw[e3] at k3;have one:∀ j,pos<=j->j<pos+1->(s.getD j 0).toNat=b0:=fun j h1 h2=>by
  have:j=pos:=by omega
  subst this;exact e0
 split
 ·simp;omega
 ·rename_i hb0;have fallb:∀ j,pos<=j->j<pos+1->128<=(s.getD j 0).toNat:=fun j h1 h2=>by rw[one j h1 h2];omega
  have err:1<=((Utf8.runeError,1):Nat×Nat).2/\pos+((Utf8.runeError,1):Nat×Nat).2<=s.length/\(if((Utf8.runeError,1):Nat×Nat).1<128 then((Utf8.runeError,1):Nat×Nat).2=1/\((Utf8.runeError,1):Nat×Nat).1=b0 else ∀ j,pos<=j->j<pos+((Utf8.runeError,1):Nat×Nat).2->128<=(s.getD j 0).toNat):=by
   refine⟨yBW _,h,?_⟩;rw[if_neg (by decide)];exact fallb
  split
  ·rename_i h2;simp only[yAB,decide_eq_true_eq,beq_iff_eq] at h2;split
   ·refine⟨by simp,by simp;omega,?_⟩
    rw[if_neg (by simp;omega)]
    intro j h3 h4;have:j=pos\/j=pos+1:=by simp at h4;omega
    rcases this with rfl|rfl
    ·rw[e0];omega
    ·rw[e1];omega
   ·exact err
  ·split
   ·rename_i h2;simp only[yAB,decide_eq_true_eq,beq_iff_eq] at h2;split
    ·rename_i h5;simp only[yAB,decide_eq_true_eq,beq_iff_eq] at h5;refine⟨by simp,by simp;omega,?_⟩
     rw[if_neg (by simp;omega)]
     intro j h3 h4;have:j=pos\/j=pos+1\/j=pos+2:=by simp at h4;omega
     rcases this with rfl|rfl|rfl
     ·rw[e0];omega
     ·rw[e1];omega
     ·rw[e2];omega
    ·exact err
   ·split
    ·rename_i h2;simp only[yAB,decide_eq_true_eq,beq_iff_eq] at h2;split
     ·rename_i h5;simp only[yAB,decide_eq_true_eq,beq_iff_eq] at h5;refine⟨by simp,by simp;omega,?_⟩
      rw[if_neg (by simp;omega)]
      intro j h3 h4;have:j=pos\/j=pos+1\/j=pos+2\/j=pos+3:=by simp at h4;omega
      rcases this with rfl|rfl|rfl|rfl
      ·rw[e0];omega
      ·rw[e1];omega
      ·rw[e2];omega
      ·rw[e3];omega
     ·exact err
    ·exact err
def cut (s:List UInt8) (p:Int×Int):List UInt8:=(s.take p.2.toNat).drop p.1.toNat
theorem qeH {c:Nat}(h:128<=c):isSp c=false:=by
 simp only[isSp,yAG,beq_eq_false_iff_ne];omega
theorem qQV (s:List UInt8) (i pos:Nat) (h:i<=pos) (h2:pos<s.length):cut s (i,(pos+1:Nat))=cut s (i,pos)++[s.getD pos 0]:=by
 unfold cut;simp only[yAK];rw[take_snoc s pos 0 h2,List.drop_append_of_le_length (by rw[yBH];omega)]
theorem qYO (s:List UInt8) (pos k:Nat) (h:pos+k<=s.length) (hh:∀ j,pos<=j->j<pos+k->isSp (s.getD j 0).toNat=false):
  qK6 s (pos+k)=((qK6 s pos).1,(qK6 s pos).2++cut s (pos,(pos+k:Nat))):=by
 induction k with
 | zero=>simp[cut]
 | succ k ih=>
  rw[<-Nat.add_assoc,qEP s _ (by omega),qUC (hh _ (by omega) (by omega)),ih (by omega) (fun j h1 h2=>hh j h1 (by omega)),qQV s pos (pos+k) (by omega) (by omega)]
  simp
theorem qkZ (s:List UInt8) (i j k:Nat) (h:i<=j) (h2:j<=k) (h3:k<=s.length):cut s (i,j)++cut s (j,k)=cut s (i,k):=by
  induction k with
  | zero => have:j=0:=by omega
            have:i=0:=by omega
            subst_vars;simp[cut]
  | succ k ih=>
    by_cases e:j=k+1
    · subst e;simp[cut]
    · rw[qQV s j k (by omega) (by omega),qQV s i k (by omega) (by omega), <-yAP,ih (by omega) (by omega)]
end Go.Vc.W

namespace Go.Vc.W
open Go.Proofs
set_option maxRecDepth 10000
structure FS where
 pos:Nat
 spans:List (Int×Int)
 start:Int
structure FSok (s:List UInt8) (a:FS):Prop where
 hp:a.pos<=s.length
 hs:a.spans.map (cut s)=(qK6 s a.pos).1
 hr:∀ p∈a.spans,0<=p.1/\p.1<=p.2/\p.2<=s.length
 hb : -(s.length:Int)-1<=a.start/\a.start<=s.length
 hw:if a.start<0 then(qK6 s a.pos).2=[] else a.start<a.pos/\(qK6 s a.pos).2=cut s (a.start,a.pos)
theorem FSok.len {s:List UInt8}{a:FS}(h:FSok s a):a.spans.length<=a.pos:=by
 have:=qZH s a.pos;rw[<-h.hs,List.length_map] at this;omega
theorem qj3 {s:List UInt8}{i:Int}{j:Nat}(h0:0<=i) (h:i<j) (h2:j<=s.length):¬cut s (i,j)=[]:=by
 intro e;have:=congrArg List.length e;simp[cut] at this;omega
theorem qYB {s:List UInt8}{pos:Nat}(h:pos<s.length):
  (spR (qGT s pos).1=true->(qGT s pos).2=1/\isSp (s.getD pos 0).toNat=true)/\
  (spR (qGT s pos).1=false->pos<pos+(qGT s pos).2/\pos+(qGT s pos).2<=s.length/\∀ j,pos<=j->j<pos+(qGT s pos).2->isSp (s.getD j 0).toNat=false):=by
 have ⟨d1,d2,d3⟩:=qJQ s pos h;have hw:(qGT s pos).1<128->IntKind.u8.wrap ((qGT s pos).1:Int)=(qGT s pos).1:=fun hh=>by
  simp[IntKind.wrap,IntKind.signed,IntKind.bits];omega
 by_cases hh:(qGT s pos).1<128
 ·rw[if_pos hh] at d3;have e:spR (qGT s pos).1=isSp (s.getD pos 0).toNat:=by
   unfold spR;rw[hw hh,decide_eq_true (by omega),yAI,d3.2]
  rw[e];refine⟨fun k=>⟨d3.1,k⟩,fun k=>⟨by omega,d2,fun j h1 h2=>?_⟩⟩
  have:j=pos:=by omega
  subst this;exact k
 ·rw[if_neg hh] at d3;have e:spR (qGT s pos).1=false:=by unfold spR;simp;intro k;omega
  rw[e];refine⟨fun k=>(nomatch k),fun _=>⟨by omega,d2,fun j h1 h2=>qeH (d3 j h1 h2)⟩⟩
theorem qr5 {s:List UInt8}{a:FS}(h:FSok s a) (h1:a.pos<s.length) (h2:spR (qGT s a.pos).1=true) (h3:0<=a.start):
  FSok s ⟨a.pos+(qGT s a.pos).2,a.spans++[(a.start,(a.pos:Int))], -a.start-1⟩:=by
 have ⟨e1,e2⟩:=(qYB h1).1 h2;have hw:=h.hw;rw[if_neg (by omega)] at hw
 have hb:=h.hb;have e:=qEP s a.pos h1;rw[qON e2 (by rw[hw.2];exact qj3 h3 hw.1 h.hp)] at e
 constructor
 ·simp only[e1];omega
 ·simp only[e1,e,yBI,h.hs,hw.2];rfl
 ·intro p hp;rcases yBJ.mp hp with hp|hp
  ·exact h.hr p hp
  ·simp at hp;subst hp;simp;omega
 ·simp;omega
 ·rw[if_pos (by simp;omega)];simp only[e1,e]
theorem qp3 {s:List UInt8}{a:FS}(h:FSok s a) (h1:a.pos<s.length) (h2:spR (qGT s a.pos).1=true) (h3:a.start<0):
  FSok s ⟨a.pos+(qGT s a.pos).2,a.spans,a.start⟩:=by
 have ⟨e1,e2⟩:=(qYB h1).1 h2;have hw:=h.hw;rw[if_pos (by omega)] at hw
 have e:=qEP s a.pos h1;rw[qUR e2 hw] at e;constructor
 ·simp only[e1];omega
 ·simp only[e1,e,h.hs]
 ·exact h.hr
 ·exact h.hb
 ·rw[if_pos (by simpa using h3)];simp only[e1,e]
theorem qrE {s:List UInt8}{a:FS}(h:FSok s a) (h1:a.pos<s.length) (h2:spR (qGT s a.pos).1=false) (h3:0<=a.start):
  FSok s ⟨a.pos+(qGT s a.pos).2,a.spans,a.start⟩:=by
 have ⟨e0,e1,e2⟩:=(qYB h1).2 h2;have hw:=h.hw;rw[if_neg (by omega)] at hw
 have e:=qYO s a.pos _ e1 e2;constructor
 ·exact e1
 ·simp only[e,h.hs]
 ·exact h.hr
 ·exact h.hb
 ·rw[if_neg (by simp;omega)];simp only[e]
  refine⟨by omega,?_⟩
  rw[hw.2];obtain⟨i,hi⟩:∃ i:Nat,a.start=i:=⟨a.start.toNat,by omega⟩
  rw[hi,qkZ s i a.pos _ (by omega) (by omega) e1]
theorem qpN {s:List UInt8}{a:FS}(h:FSok s a) (h1:a.pos<s.length) (h2:spR (qGT s a.pos).1=false) (h3:a.start<0):
  FSok s ⟨a.pos+(qGT s a.pos).2,a.spans,(a.pos:Int)⟩:=by
 have ⟨e0,e1,e2⟩:=(qYB h1).2 h2;have hw:=h.hw;rw[if_pos (by omega)] at hw
 have e:=qYO s a.pos _ e1 e2;constructor
 ·exact e1
 ·simp only[e,h.hs]
 ·exact h.hr
 ·simp;omega
 ·rw[if_neg (by simp)];simp only[e]
  refine⟨by omega,?_⟩
  rw[hw];rfl
theorem qk5 {s:List UInt8}{a:FS}(h:FSok s a) (h1:¬a.pos<s.length) (h3:0<=a.start):
  (a.spans++[(a.start,(s.length:Int))]).map (cut s)=spl s/\∀ p∈(a.spans++[(a.start,(s.length:Int))]),0<=p.1/\p.1<=p.2/\p.2<=s.length:=by
 have hp:=h.hp;have e:a.pos=s.length:=by omega
 have hw:=h.hw;rw[if_neg (by omega)] at hw
 have hb:=h.hb;refine⟨?_,?_⟩
 ·rw[qsA (i:=a.pos) (by omega) (by rw[hw.2];exact qj3 h3 hw.1 h.hp),hw.2, <-h.hs,e,yBI];rfl
 ·intro p hp;rcases yBJ.mp hp with hp|hp
  ·exact h.hr p hp
  ·simp at hp;subst hp;simp;omega
theorem qlH {s:List UInt8}{a:FS}(h:FSok s a) (h1:¬a.pos<s.length) (h3:a.start<0):
  a.spans.map (cut s)=spl s/\∀ p∈a.spans,0<=p.1/\p.1<=p.2/\p.2<=s.length:=by
 have hp:=h.hp;have e:a.pos=s.length:=by omega
 have hw:=h.hw;rw[if_pos (by omega)] at hw
 exact⟨by rw[qsX (i:=a.pos) (by omega) hw,h.hs],h.hr⟩
end Go.Vc.W

namespace Go.Vc.W
open Go.Proofs
set_option maxRecDepth 10000
theorem qh1 (x:Int) (h : -100001<=x/\x<=100000):qOH BinOp.xor IntKind.i64 (if IntKind.i64.signed=true then -1 else IntKind.i64.max) x = -x-1:=by
 have e:(if IntKind.i64.signed=true then(-1:Int) else IntKind.i64.max) = -1:=rfl
 rw[e];show IntKind.wrap .i64 ((BitVec.ofInt 64 (-1) ^^^ BitVec.ofInt 64 x).toNat:Int)=_;have e2:BitVec.ofInt 64 (-1)=BitVec.allOnes 64:=by decide
 rw[e2,BitVec.allOnes_xor,BitVec.toNat_not,BitVec.toNat_ofInt];simp[IntKind.wrap,IntKind.signed,IntKind.bits];omega
def fin2 (s:List UInt8) (sp:List (Int×Int)) (i:Nat):List (List UInt8):=(sp.take i).map (cut s)++List.replicate (sp.length-i) []
theorem qMG (s:List UInt8) (sp:List (Int×Int)) (i:Nat) (h:i<=sp.length):(fin2 s sp i).length=sp.length:=by
 simp[fin2];omega
theorem qX5 (s:List UInt8) (sp:List (Int×Int)) (i:Nat) (h:i<sp.length):(fin2 s sp i).set i (cut s (sp.getD i (0,0)))=fin2 s sp (i+1):=by
 unfold fin2;rw[take_snoc sp i (0,0) h];have e:sp.length-i=(sp.length-(i+1))+1:=by omega
 rw[e,List.replicate_succ,yBQ _ _ (by simp;omega)]
 simp;have:i-min i sp.length=0:=by omega
 rw[this];simp
theorem qX0 (s:List UInt8) (sp:List (Int×Int)) (i:Nat) (h:sp.length<=i):fin2 s sp i=sp.map (cut s):=by
 unfold fin2;rw[yBT h];simp;omega
theorem qUH {α:Type}{l:List α}{i:Nat}{d:α}(h:i<l.length):l.getD i d∈l:=by
 simp[List.getD,yA5 h]
instance f38 (s:List UInt8):Fn BB 146 [.str s,.fn 147 []] (s.length<=100000) (.rd .str (spl s)):=by
 refine Fn.intro (N:=65) [0,1,4,5,6,7,8,9,10,11,14,15,16,21,23,33,36,47,48,49,50] [] Tryz.call146 Tryz.func146 rfl rfl (by kernel_rfl) (fun hpre=>?_)
 repeat'((conv=>whnf);first|refine And.intro ?_ ?_)
 all_goals(try(conv=>whnf))
 all_goals(try first|exact obA|refine Ob.mk ?_)
 skip
 all_goals(try(conv=>whnf))
 refine LoopStop.mk (α:=FS) (fun a=>[(5,.own 0),(6,.int .i64 a.start)]) (fun a=>[(0,.own qnJ a.spans),(1,.iter s a.pos)]) 2 (FSok s) (fun a=>s.length-a.pos) ⟨0,[], -1⟩ ⟨by simp,by simp[qK6],by simp,by simp;omega,by simp[qK6]⟩ ?_ (fun a ha=>?_)
 ·repeat'((conv=>whnf);first|exact qR|refine And.intro ?_ ?_)
  all_goals(try(conv=>whnf))
  all_goals(try rfl)
  all_goals trace_state
 ·have hl:=ha.len;have h1:=ha.hp;have h2:=ha.hb
  repeat'((conv=>whnf);first|exact qR|intro _|refine And.intro ?_ ?_|refine X1 (W1 rfl ?_ ?_))
  all_goals(try(conv=>whnf))
  all_goals(try first|exact obA|refine Ob.mk ?_)
  all_goals(try simp only[ZA,ZB,ZC,ZD,ZE,ZF,ZG,ZH,ZI,ZJ,ZK,ZL,ZM,ZN,ZO,yAK,yB1,cast_eq] at *)
  ·skip;skip
   all_goals(try(conv=>whnf))
   refine Rnd.mk ⟨⟨a.pos+(qGT s a.pos).2,a.spans++[(a.start,(a.pos:Int))], -a.start-1⟩,?_,?_,?_⟩
   ·exact qr5 ha ‹_› ‹_› (by omega)
   ·have:=(qJQ s a.pos ‹_›).1;simp;omega
   ·repeat'((conv=>whnf);first|exact qR|refine And.intro ?_ ?_)
    all_goals(try(conv=>whnf))
    all_goals(first|(rw[qh1 _ (by omega)];done)|skip)
    all_goals trace_state
  ·have:=(qJQ s a.pos ‹_›).1;refine Rnd.mk ⟨⟨a.pos+(qGT s a.pos).2,a.spans,a.start⟩,?_,?_,?_⟩
   ·exact qp3 ha ‹_› ‹_› (by omega)
   ·simp;omega
   ·repeat'((conv=>whnf);first|exact qR|refine And.intro ?_ ?_)
    all_goals(try(conv=>whnf))
    all_goals trace_state
  ·have:=(qJQ s a.pos ‹_›).1;refine Rnd.mk ⟨⟨a.pos+(qGT s a.pos).2,a.spans,a.pos⟩,?_,?_,?_⟩
   ·exact qpN ha ‹_› ‹_› (by omega)
   ·simp;omega
   ·repeat'((conv=>whnf);first|exact qR|refine And.intro ?_ ?_)
    all_goals(try(conv=>whnf))
    all_goals trace_state
  ·have:=(qJQ s a.pos ‹_›).1;refine Rnd.mk ⟨⟨a.pos+(qGT s a.pos).2,a.spans,a.start⟩,?_,?_,?_⟩
   ·exact qrE ha ‹_› ‹_› (by omega)
   ·simp;omega
   ·repeat'((conv=>whnf);first|exact qR|refine And.intro ?_ ?_)
    all_goals(try(conv=>whnf))
    all_goals trace_state
  ·skip;have hh:=qk5 ha ‹_› (by omega)
   have hlen:(a.spans++[(a.start,(s.length:Int))]).length<=s.length+1:=by simp;omega
   revert hh hlen;generalize a.spans++[(a.start,(s.length:Int))]=sp;intro hh hlen;skip
   all_goals(try(conv=>whnf))
   skip
   all_goals(try(conv=>whnf))
   refine LoopStop.mk (α:=Nat) (fun i=>[(49,.int .i64 i)]) (fun i=>[(3,.own .str (fin2 s sp i))]) 20 (fun i=>i<=sp.length) (fun i=>sp.length-i) 0 (by simp) ?_ (fun i hi=>?_)
   ·repeat'((conv=>whnf);first|exact qR|refine And.intro ?_ ?_)
    all_goals(try(conv=>whnf))
    all_goals(try rfl)
    all_goals trace_state
   ·repeat'((conv=>whnf);first|exact qR|intro _|refine And.intro ?_ ?_|refine Fin.mk ?_)
    all_goals(try(conv=>whnf))
    all_goals(try first|exact obA|refine Ob.mk ?_)
    all_goals(try simp only[ZA,ZB,ZC,ZD,ZE,ZF,ZG,ZH,ZI,ZJ,ZK,ZL,ZM,ZN,ZO,yAK,yB1,cast_eq] at *)
    ·exact hh.2 _ (qUH (by omega))
    ·rw[qMG s sp i hi];omega
    ·rw[qMG s sp i hi];omega
    ·skip;have e:=qX5 s sp i (by omega)
     skip
     all_goals(try(conv=>whnf))
     refine Rnd.mk ⟨i+1,?_,?_,?_⟩
     ·omega
     ·omega
     ·repeat'((conv=>whnf);first|exact qR|refine And.intro ?_ ?_)
      all_goals(try(conv=>whnf))
      all_goals(try first|exact obA|refine Ob.mk ?_)
      all_goals(rw[<-e];rfl)
    ·rw[qX0 s sp i (by omega),hh.1]
  ·have hh:=qlH ha ‹_› (by omega)
   have hlen:a.spans.length<=s.length+1:=by omega
   revert hh hlen;generalize a.spans=sp;intro hh hlen;skip
   all_goals(try(conv=>whnf))
   refine LoopStop.mk (α:=Nat) (fun i=>[(49,.int .i64 i)]) (fun i=>[(2,.own .str (fin2 s sp i))]) 3 (fun i=>i<=sp.length) (fun i=>sp.length-i) 0 (by simp) ?_ (fun i hi=>?_)
   ·repeat'((conv=>whnf);first|exact qR|refine And.intro ?_ ?_)
    all_goals(try(conv=>whnf))
    all_goals(try rfl)
    all_goals trace_state
   ·repeat'((conv=>whnf);first|exact qR|intro _|refine And.intro ?_ ?_|refine Fin.mk ?_)
    all_goals(try(conv=>whnf))
    all_goals(try first|exact obA|refine Ob.mk ?_)
    all_goals(try simp only[ZA,ZB,ZC,ZD,ZE,ZF,ZG,ZH,ZI,ZJ,ZK,ZL,ZM,ZN,ZO,yAK,yB1,cast_eq] at *)
    ·exact hh.2 _ (qUH (by omega))
    ·rw[qMG s sp i hi];omega
    ·rw[qMG s sp i hi];omega
    ·skip;have e:=qX5 s sp i (by omega)
     skip
     all_goals(try(conv=>whnf))
     refine Rnd.mk ⟨i+1,?_,?_,?_⟩
     ·omega
     ·omega
     ·repeat'((conv=>whnf);first|exact qR|refine And.intro ?_ ?_)
      all_goals(try(conv=>whnf))
      all_goals(try first|exact obA|refine Ob.mk ?_)
      all_goals(rw[<-e];rfl)
    ·rw[qX0 s sp i (by omega),hh.1]
end Go.Vc.W

namespace Go.Vc.W
open Go.Proofs
set_option maxRecDepth 10000
instance f33 (s:List UInt8):Fn BB 102 [.str s] (s.length<=100000) (.rd .str (spl s)):=by
 refine Fn.intro (N:=5) [0,2] [] Tryz.call102 Tryz.func102 rfl rfl (by kernel_rfl) (fun hpre=>?_)
 all_goals exact vcA
end Go.Vc.W

namespace Go.Vc.W
open Go.Proofs
set_option maxRecDepth 10000
def qgX:List UInt8:=[100,101,115,99,32,102,111,114,101,105,103,110,79,98,106,101,99,116,32,116,105,116,108,101]
def zFN:List UInt8:=[97,110,110,111,116,97,116,105,111,110,45,120,109,108,32,109,105,32,109,110,32,109,111,32,109,115,32,109,116,101,120,116]
def qgZ:List UInt8:=[97,100,100,114,101,115,115,32,97,112,112,108,101,116,32,97,114,101,97,32,97,114,116,105,99,108,101,32,97,115,105,100,101,32,98,97,115,101,32,98,97,115,101,102,111,110,116,32,98,103,115,111,117,110,100,32,98,108,111,99,107,113,117,111,116,101,32,98,111,100,121,32,98,114,32,98,117,116,116,111,110,32,99,97,112,116,105,111,110,32,99,101,110,116,101,114,32,99,111,108,32,99,111,108,103,114,111,117,112,32,100,100,32,100,101,116,97,105,108,115,32,100,105,114,32,100,105,118,32,100,108,32,100,116,32,101,109,98,101,100,32,102,105,101,108,100,115,101,116,32,102,105,103,99,97,112,116,105,111,110,32,102,105,103,117,114,101,32,102,111,111,116,101,114,32,102,111,114,109,32,102,114,97,109,101,32,102,114,97,109,101,115,101,116,32,104,49,32,104,50,32,104,51,32,104,52,32,104,53,32,104,54,32,104,101,97,100,32,104,101,97,100,101,114,32,104,103,114,111,117,112,32,104,114,32,104,116,109,108,32,105,102,114,97,109,101,32,105,109,103,32,105,110,112,117,116,32,107,101,121,103,101,110,32,108,105,32,108,105,110,107,32,108,105,115,116,105,110,103,32,109,97,105,110,32,109,97,114,113,117,101,101,32,109,101,110,117,32,109,101,116,97,32,110,97,118,32,110,111,101,109,98,101,100,32,110,111,102,114,97,109,101,115,32,110,111,115,99,114,105,112,116,32,111,98,106,101,99,116,32,111,108,32,111,112,116,103,114,111,117,112,32,111,112,116,105,111,110,32,112,32,112,97,114,97,109,32,112,108,97,105,110,116,101,120,116,32,112,114,101,32,115,99,114,105,112,116,32,115,101,97,114,99,104,32,115,101,99,116,105,111,110,32,115,101,108,101,99,116,32,115,111,117,114,99,101,32,115,116,121,108,101,32,115,117,109,109,97,114,121,32,116,97,98,108,101,32,116,98,111,100,121,32,116,100,32,116,101,109,112,108,97,116,101,32,116,101,120,116,97,114,101,97,32,116,102,111,111,116,32,116,104,32,116,104,101,97,100,32,116,105,116,108,101,32,116,114,32,116,114,97,99,107,32,117,108,32,119,98,114,32,120,109,112]
def qkE:List UInt8:=[97,32,98,32,98,105,103,32,99,111,100,101,32,101,109,32,102,111,110,116,32,105,32,110,111,98,114,32,115,32,115,109,97,108,108,32,115,116,114,105,107,101,32,115,116,114,111,110,103,32,116,116,32,117]
def qbY:List UInt8:=[97,114,101,97,32,98,97,115,101,32,98,97,115,101,102,111,110,116,32,98,103,115,111,117,110,100,32,98,114,32,99,111,108,32,101,109,98,101,100,32,102,114,97,109,101,32,104,114,32,105,109,103,32,105,110,112,117,116,32,107,101,121,103,101,110,32,108,105,110,107,32,109,101,116,97,32,112,97,114,97,109,32,115,111,117,114,99,101,32,116,114,97,99,107,32,119,98,114]
def qm2:List UInt8:=[104,49,32,104,50,32,104,51,32,104,52,32,104,53,32,104,54]
def qdJ:List UInt8:=[97,112,112,108,101,116,32,99,97,112,116,105,111,110,32,109,97,114,113,117,101,101,32,111,98,106,101,99,116,32,116,100,32,116,104]
def qt5:List UInt8:=[97,112,112,108,101,116,32,99,97,112,116,105,111,110,32,104,116,109,108,32,109,97,114,113,117,101,101,32,111,98,106,101,99,116,32,116,97,98,108,101,32,116,100,32,116,101,109,112,108,97,116,101,32,116,104]
def qo6:List UInt8:=[111,108,32,117,108]
def qdK:List UInt8:=[98,117,116,116,111,110]
def qjH:List UInt8:=[104,116,109,108,32,116,97,98,108,101,32,116,101,109,112,108,97,116,101]
def zF9:List UInt8:=[111,112,116,103,114,111,117,112,32,111,112,116,105,111,110]
def qjJ:List UInt8:=[97,100,100,114,101,115,115,32,97,114,116,105,99,108,101,32,97,115,105,100,101,32,98,108,111,99,107,113,117,111,116,101,32,99,101,110,116,101,114,32,100,101,116,97,105,108,115,32,100,105,97,108,111,103,32,100,105,114,32,100,105,118,32,100,108,32,102,105,101,108,100,115,101,116,32,102,105,103,99,97,112,116,105,111,110,32,102,105,103,117,114,101,32,102,111,111,116,101,114,32,104,101,97,100,101,114,32,104,103,114,111,117,112,32,108,105,115,116,105,110,103,32,109,97,105,110,32,109,101,110,117,32,110,97,118,32,111,108,32,112,32,112,114,101,32,115,101,97,114,99,104,32,115,101,99,116,105,111,110,32,115,117,109,109,97,114,121,32,117,108]
def cRc:List UInt8:=[116,101,120,116,97,114,101,97,32,116,105,116,108,101]
def zGB:List UInt8:=[105,102,114,97,109,101,32,110,111,101,109,98,101,100,32,110,111,102,114,97,109,101,115,32,115,116,121,108,101,32,120,109,112]
def qfE:List UInt8:=[115,99,114,105,112,116]
def qjV:List UInt8:=[112,108,97,105,110,116,101,120,116]
def has (c nm:List UInt8):Bool:=(spl c).contains nm
def qQ7 (sp:Int) (nm:List UInt8):Bool:=(sp==2&&has zFN nm)||(sp==1&&has qgX nm)
def qFB (sp:Int) (nm c:List UInt8):Bool:=sp==0&&has c nm
def qMN (sp:Int) (nm:List UInt8):Bool:=qQ7 sp nm||qFB sp nm qgZ
def qSK (sc sp:Int) (nm:List UInt8):Bool:=
 let few:=qQ7 sp nm||qFB sp nm qt5
 if sc=0 then few else if sc=1 then few||qFB sp nm qo6 else if sc=2 then few||qFB sp nm qdK
 else if sc=3 then qFB sp nm qjH else !(sc==4) || !qFB sp nm zF9
def qi6 (nm:List UInt8):Int:=if has cRc nm then 1 else if has zGB nm then 2 else if nm=qfE then 3 else if nm=qjV then 4 else 0
instance f28 (sp:Int) (nm c:List UInt8):Fn BB 171 [.int .i64 sp,.str nm,.str c] (nm.length<=60/\c.length<=100000) (.bool (qFB sp nm c)):=by
 refine Fn.intro (N:=14) [0,1,2,6] [] Tryz.call171 Tryz.func171 rfl rfl (by kernel_rfl) (fun hpre=>?_)
 all_goals exact vcA
instance f27 (sp:Int) (nm:List UInt8):Fn BB 313 [.int .i64 sp,.str nm] (nm.length<=60) (.bool (qQ7 sp nm)):=by
 refine Fn.intro (N:=19) [0,1,4] [] Tryz.call313 Tryz.func313 rfl rfl (by kernel_rfl) (fun hpre=>?_)
 all_goals exact vcA
end Go.Vc.W

namespace Go.Vc.W
open Go.Proofs
set_option maxRecDepth 10000
instance f7 (sp:Int) (nm:List UInt8):Fn BB 252 [.int .i64 sp,.str nm] (nm.length<=60) (.bool (qMN sp nm)):=by
 refine Fn.intro (N:=13) [0,1,4] [] Tryz.call252 Tryz.func252 rfl rfl (by kernel_rfl) (fun hpre=>?_)
 all_goals exact vcA
instance f9 (sp:Int) (nm:List UInt8):Fn BB 229 [.int .i64 sp,.str nm] (nm.length<=60) (.bool (qFB sp nm qkE)):=by
 refine Fn.intro (N:=8) [0,1,4] [] Tryz.call229 Tryz.func229 rfl rfl (by kernel_rfl) (fun hpre=>?_)
 all_goals exact vcA
instance f11 (sp:Int) (nm:List UInt8):Fn BB 135 [.int .i64 sp,.str nm] (nm.length<=60) (.bool (qFB sp nm qbY)):=by
 refine Fn.intro (N:=8) [0,1,4] [] Tryz.call135 Tryz.func135 rfl rfl (by kernel_rfl) (fun hpre=>?_)
 all_goals exact vcA
instance f19 (sp:Int) (nm:List UInt8):Fn BB 251 [.int .i64 sp,.str nm] (nm.length<=60) (.bool (qFB sp nm qdJ)):=by
 refine Fn.intro (N:=8) [0,1,4] [] Tryz.call251 Tryz.func251 rfl rfl (by kernel_rfl) (fun hpre=>?_)
 all_goals exact vcA
instance f13 (sp:Int) (nm:List UInt8):Fn BB 195 [.int .i64 sp,.str nm] (nm.length<=60) (.bool (qFB sp nm qm2)):=by
 refine Fn.intro (N:=8) [0,1,4] [] Tryz.call195 Tryz.func195 rfl rfl (by kernel_rfl) (fun hpre=>?_)
 all_goals exact vcA
instance f17 (nm:List UInt8):Fn BB 196 [.str nm] (nm.length<=60) (.bool (has qjJ nm)):=by
 refine Fn.intro (N:=5) [0,2] [] Tryz.call196 Tryz.func196 rfl rfl (by kernel_rfl) (fun hpre=>?_)
 all_goals exact vcA
instance f25 (nm:List UInt8):Fn BB 153 [.str nm] (nm.length<=60) (.int .i64 (qi6 nm)):=by
 refine Fn.intro (N:=11) [0,2,4,6,8,10] [] Tryz.call153 Tryz.func153 rfl rfl (by kernel_rfl) (fun hpre=>?_)
 repeat'((conv=>whnf);first|exact qR|intro _|refine WA ?_ ?_|refine WF ?_|refine X1 (W1 rfl ?_ ?_))
 all_goals(try(conv=>whnf))
 all_goals(try first|exact obA|refine Ob.mk ?_)
 all_goals(unfold qi6 has cRc zGB;simp_all [qfE,qjV];done)
instance f21 (sc:Int) (sp:Int) (nm:List UInt8):Fn BB 250 [.int .i64 sc,.int .i64 sp,.str nm] (nm.length<=60) (.bool (qSK sc sp nm)):=by
 refine Fn.intro (N:=48) [0,1,2,6,7,17,20,28,36] [] Tryz.call250 Tryz.func250 rfl rfl (by kernel_rfl) (fun hpre=>?_)
 repeat'((conv=>whnf);first|exact qR|intro _|refine WA ?_ ?_|refine WF ?_|refine W1 rfl ?_ ?_|refine X1 (W1 rfl ?_ ?_))
 all_goals(try(conv=>whnf))
 all_goals(try first|exact obA|refine Ob.mk ?_)
 all_goals(unfold qSK qt5 qo6 qdK qjH zF9;simp_all [bne,Bool.beq_eq_decide_eq];done)
end Go.Vc.W

namespace Go.Vc
open Go.Proofs
set_option maxRecDepth 10000
set_option maxHeartbeats 4000000
def isL (k s:Int) (nm names:List UInt8):Bool:=k==1&&s==0&&(W.spl names).contains nm
instance bIs (k s:Int) (nm:List UInt8) (at_:List qA2.T) (d:List UInt8) (up:Int) (kids:List Int) (names:List UInt8):
  Fn BB 128 [.agg [.int .i64 k,.int .i64 s,.str nm,.rd qA2 at_,.str d,.int .i64 up,.rd qAL kids],.str names] (names.length<=100000) (.bool (isL k s nm names)):=by
 refine Fn.intro (N:=19) [0,1,2,4] [] Tryz.call128 Tryz.func128 rfl rfl (by kernel_rfl) (fun hpre=>?_)
 repeat'((conv=>whnf);first|exact qR|intro _|refine WA ?_ ?_|refine WF ?_|refine W1 rfl ?_ ?_)
 all_goals(try(conv=>whnf))
 all_goals(try first|exact obA|refine Ob.mk ?_)
 all_goals(first|rfl|exact hpre|trace_state)
abbrev divN:qAD:=((1:Int),(0:Int),([100,105,118]:List UInt8),([]:List qAY),([]:List UInt8),(0:Int),([]:List Int))
def qCG (p:List qAD):qAD:=if p.length=0 then divN else p.getD (p.length-1) qAB.dflt
instance bParent (p:List qAD):Fn BB 129 [.rd qAB p] True (.agg [.int .i64 (qCG p).1,.int .i64 (qCG p).2.1,.str (qCG p).2.2.1,.rd qA2 (qCG p).2.2.2.1,.str (qCG p).2.2.2.2.1,.int .i64 (qCG p).2.2.2.2.2.1,.rd qAL (qCG p).2.2.2.2.2.2]):=by
 refine Fn.intro (N:=13) [0,2,5] [] Tryz.call129 Tryz.func129 rfl rfl (by kernel_rfl) (fun hpre=>?_)
 have e1:((p.length:Int)==0)=true->qCG p=divN:=fun h=>by unfold qCG;rw[if_pos (by have:=beq_iff_eq.1 h;omega)]
 have e2:((p.length:Int)==0)=false->p.length≠0/\qCG p=p.getD ((p.length:Int)-1).toNat qAB.dflt:=fun h=>by
  have h:=beq_eq_false_iff_ne.1 h;refine⟨by omega,?_⟩
  unfold qCG;rw[if_neg (by omega),show((p.length:Int)-1).toNat=p.length-1 by omega]
 repeat'((conv=>whnf);first|exact qR|intro _|refine And.intro ?_ ?_|refine Fin.mk ?_)
 all_goals(try(conv=>whnf))
 all_goals(try first|exact obA|refine Ob.mk ?_)
 all_goals(try(rw[e1 ‹_›];done))
 all_goals(have q:=e2 ‹_›)
 all_goals(first|omega|(rw[q.2];done)|(rw[q.2];rfl)|trace_state)
def qZI (p:List qAD):Prop:=p.length<=1000/\∀ i:Nat,(p.getD i qAB.dflt).2.2.1.length<=60
def nP (p:List qAD) (i:Nat):qAD:=p.getD i qAB.dflt
open Go.Vc.W
def qLL (p:List qAD) (names:List UInt8) (sc:Int) (i:Nat):Option Bool:=bif isL (nP p i).1 (nP p i).2.1 (nP p i).2.2.1 names then some true else bif qSK sc (nP p i).2.1 (nP p i).2.2.1 then some false else none
def qLC (p:List qAD) (names:List UInt8) (sc:Int):Bool:=scD (qLL p names sc) false p.length
instance bscope (p:List qAD) (names:List UInt8) (sc:Int):Fn BB 194 [.rd qAB p,.str names,.int .i64 sc] (qZI p/\names.length<=100000) (.bool (qLC p names sc)):=by
 refine Fn.intro (N:=33) [0,1,2,6,7,12,20,32] [(6,[0,0,0,1,1,1,0,0,1,1,1,3])] Tryz.call194 Tryz.func194 rfl rfl (by kernel_rfl) (fun hpre=>?_)
 obtain⟨⟨h1,h2⟩,h3⟩:=hpre
 repeat'((conv=>whnf);first|intro _|refine And.intro ?_ ?_)
 all_goals(try(conv=>whnf))
 all_goals(try first|exact obA|refine Ob.mk ?_)
 refine LoopStop.mk (α:=Nat) (fun j=>[(7,.int .i64 ((j:Int)-1))]) (fun _=>[]) 20 (fun j=>j<=p.length/\scD (qLL p names sc) false j=qLC p names sc) (fun j=>j) p.length ⟨yBW _,rfl⟩ ?_ (fun j hj=>?_)
 ·all_goals exact vcA
 ·obtain⟨hj,hall⟩:=hj;rw[<-hall];by_cases hz:j=0
  ·repeat'((conv=>whnf);first|exact qR|intro _|refine WA ?_ ?_|refine WF ?_|refine X1 (W1 rfl ?_ ?_))
   all_goals(try(conv=>whnf))
   all_goals(try first|exact obA|refine Ob.mk ?_)
   all_goals(try(exfalso;have h:=of_decide_eq_true ‹decide ((j:Int)-1>=0)=true›;omega))
   all_goals(rw[hz];rfl)
  ·obtain⟨k,rfl⟩:∃ k,j=k+1:=⟨j-1,by omega⟩
   have ek:(((k+1:Nat):Int)-1).toNat=k:=by omega
   have f1:isL (nP p k).1 (nP p k).2.1 (nP p k).2.2.1 names=true->qLL p names sc k=some true:=fun h0=>by unfold qLL;simp only[h0];try rfl
   have f2:isL (nP p k).1 (nP p k).2.1 (nP p k).2.2.1 names=false->qSK sc (nP p k).2.1 (nP p k).2.2.1=true->qLL p names sc k=some false:=fun h0 h1=>by unfold qLL;simp only[h0,h1];try rfl
   have f3:isL (nP p k).1 (nP p k).2.1 (nP p k).2.2.1 names=false->qSK sc (nP p k).2.1 (nP p k).2.2.1=false->qLL p names sc k=none:=fun h0 h1=>by unfold qLL;simp only[h0,h1];try rfl
   repeat'((conv=>whnf);first|exact qR|intro _|refine WA ?_ ?_|refine WF ?_|refine X1 (W1 rfl ?_ ?_))
   all_goals(try(conv=>whnf))
   all_goals(try first|exact obA|refine Ob.mk ?_)
   all_goals(try simp only[ek] at *)
   all_goals(try(exact h2 _))
   all_goals(try(exact h3))
   all_goals(try omega)
   all_goals(try(exfalso;have h:=of_decide_eq_false ‹decide (((k+1:Nat):Int)-1>=0)=false›;omega))
   all_goals(try(rw[qH0 (f1 ‹_›)];done))
   all_goals(try(rw[qH0 (f2 ‹_› ‹_›)];done))
   all_goals(try(refine Rnd.mk ⟨k,⟨by omega,(qQ3 (f3 ‹_› ‹_›)).symm⟩,by omega,?_⟩))
   all_goals exact vcA
def qLG (p:List qAD) (names:List UInt8) (i:Nat):Option Bool:=bif isL (nP p i).1 (nP p i).2.1 (nP p i).2.2.1 names then some false else bif qMN (nP p i).2.1 (nP p i).2.2.1 && !isL (nP p i).1 (nP p i).2.1 (nP p i).2.2.1 [97,100,100,114,101,115,115,32,100,105,118,32,112] then some true else none
def qYY (p:List qAD) (names:List UInt8):Bool:=scD (qLG p names) true p.length
instance bitems (p:List qAD) (names:List UInt8):Fn BB 199 [.rd qAB p,.str names] (qZI p/\names.length<=100000) (.bool (qYY p names)):=by
 refine Fn.intro (N:=38) [0,1,4,5,10,18,37] [(6,[0,0,1,1,1,0,0,1,1,1,1,1,1,1,3,3,3,3,3])] Tryz.call199 Tryz.func199 rfl rfl (by kernel_rfl) (fun hpre=>?_)
 obtain⟨⟨h1,h2⟩,h3⟩:=hpre
 repeat'((conv=>whnf);first|intro _|refine And.intro ?_ ?_)
 all_goals(try(conv=>whnf))
 all_goals(try first|exact obA|refine Ob.mk ?_)
 refine LoopStop.mk (α:=Nat) (fun j=>[(5,.int .i64 ((j:Int)-1))]) (fun _=>[]) 20 (fun j=>j<=p.length/\scD (qLG p names) true j=qYY p names) (fun j=>j) p.length ⟨yBW _,rfl⟩ ?_ (fun j hj=>?_)
 ·all_goals exact vcA
 ·obtain⟨hj,hall⟩:=hj;rw[<-hall];by_cases hz:j=0
  ·repeat'((conv=>whnf);first|exact qR|intro _|refine WA ?_ ?_|refine WF ?_|refine W1 rfl ?_ ?_|refine X1 (W1 rfl ?_ ?_))
   all_goals(try(conv=>whnf))
   all_goals(try first|exact obA|refine Ob.mk ?_)
   all_goals(try(exfalso;have h:=of_decide_eq_true ‹decide ((j:Int)-1>=0)=true›;omega))
   all_goals(rw[hz];rfl)
  ·obtain⟨k,rfl⟩:∃ k,j=k+1:=⟨j-1,by omega⟩
   have ek:(((k+1:Nat):Int)-1).toNat=k:=by omega
   have f1:isL (nP p k).1 (nP p k).2.1 (nP p k).2.2.1 names=true->qLG p names k=some false:=fun h0=>by unfold qLG;simp only[h0];try rfl
   have f2:isL (nP p k).1 (nP p k).2.1 (nP p k).2.2.1 names=false->(qMN (nP p k).2.1 (nP p k).2.2.1 && !isL (nP p k).1 (nP p k).2.1 (nP p k).2.2.1 [97,100,100,114,101,115,115,32,100,105,118,32,112])=true->qLG p names k=some true:=fun h0 h1=>by unfold qLG;simp only[h0,h1];try rfl
   have f3:isL (nP p k).1 (nP p k).2.1 (nP p k).2.2.1 names=false->(qMN (nP p k).2.1 (nP p k).2.2.1 && !isL (nP p k).1 (nP p k).2.1 (nP p k).2.2.1 [97,100,100,114,101,115,115,32,100,105,118,32,112])=false->qLG p names k=none:=fun h0 h1=>by unfold qLG;simp only[h0,h1];try rfl
   repeat'((conv=>whnf);first|exact qR|intro _|refine WA ?_ ?_|refine WF ?_|refine W1 rfl ?_ ?_|refine X1 (W1 rfl ?_ ?_))
   all_goals(try(conv=>whnf))
   all_goals(try first|exact obA|refine Ob.mk ?_)
   all_goals(try simp only[ek] at *)
   all_goals(try(exact h2 _))
   all_goals(try(exact h3))
   all_goals(try omega)
   all_goals(try(exfalso;have h:=of_decide_eq_false ‹decide (((k+1:Nat):Int)-1>=0)=false›;omega))
   all_goals(try(rw[qH0 (f1 ‹_›)];done))
   all_goals(try(rw[qH0 (f2 ‹_› ‹_›)];done))
   all_goals(try(refine Rnd.mk ⟨k,⟨by omega,(qQ3 (f3 ‹_› ‹_›)).symm⟩,by omega,?_⟩))
   all_goals exact vcA
def qE1 (p:List qAD) (i:Nat):Option Bool:=bif qFB (nP p i).2.1 (nP p i).2.2.1 qdJ then some true else bif isL (nP p i).1 (nP p i).2.1 (nP p i).2.2.1 [97] then some false else none
def qQP (p:List qAD):Bool:=scD (qE1 p) true p.length
instance banchors (p:List qAD):Fn BB 198 [.rd qAB p] (qZI p) (.bool (qQP p)):=by
 refine Fn.intro (N:=27) [0,2,3,8,21,26] [(4,[0,0,1,1,1,0,0,1,1,1,3])] Tryz.call198 Tryz.func198 rfl rfl (by kernel_rfl) (fun hpre=>?_)
 obtain⟨h1,h2⟩:=hpre
 repeat'((conv=>whnf);first|intro _|refine And.intro ?_ ?_)
 all_goals(try(conv=>whnf))
 all_goals(try first|exact obA|refine Ob.mk ?_)
 refine LoopStop.mk (α:=Nat) (fun j=>[(3,.int .i64 ((j:Int)-1))]) (fun _=>[]) 20 (fun j=>j<=p.length/\scD (qE1 p) true j=qQP p) (fun j=>j) p.length ⟨yBW _,rfl⟩ ?_ (fun j hj=>?_)
 ·all_goals exact vcA
 ·obtain⟨hj,hall⟩:=hj;rw[<-hall];by_cases hz:j=0
  ·repeat'((conv=>whnf);first|exact qR|intro _|refine WA ?_ ?_|refine WF ?_|refine X1 (W1 rfl ?_ ?_))
   all_goals(try(conv=>whnf))
   all_goals(try first|exact obA|refine Ob.mk ?_)
   all_goals(try(exfalso;have h:=of_decide_eq_true ‹decide ((j:Int)-1>=0)=true›;omega))
   all_goals(rw[hz];rfl)
  ·obtain⟨k,rfl⟩:∃ k,j=k+1:=⟨j-1,by omega⟩
   have ek:(((k+1:Nat):Int)-1).toNat=k:=by omega
   have f1:qFB (nP p k).2.1 (nP p k).2.2.1 qdJ=true->qE1 p k=some true:=fun h0=>by unfold qE1;simp only[h0];try rfl
   have f2:qFB (nP p k).2.1 (nP p k).2.2.1 qdJ=false->isL (nP p k).1 (nP p k).2.1 (nP p k).2.2.1 [97]=true->qE1 p k=some false:=fun h0 h1=>by unfold qE1;simp only[h0,h1];try rfl
   have f3:qFB (nP p k).2.1 (nP p k).2.2.1 qdJ=false->isL (nP p k).1 (nP p k).2.1 (nP p k).2.2.1 [97]=false->qE1 p k=none:=fun h0 h1=>by unfold qE1;simp only[h0,h1];try rfl
   repeat'((conv=>whnf);first|exact qR|intro _|refine WA ?_ ?_|refine WF ?_|refine X1 (W1 rfl ?_ ?_))
   all_goals(try(conv=>whnf))
   all_goals(try first|exact obA|refine Ob.mk ?_)
   all_goals(try simp only[ek] at *)
   all_goals(try(exact h2 _))
   all_goals(try omega)
   all_goals(try(exfalso;have h:=of_decide_eq_false ‹decide (((k+1:Nat):Int)-1>=0)=false›;omega))
   all_goals(try(rw[qH0 (f1 ‹_›)];done))
   all_goals(try(rw[qH0 (f2 ‹_› ‹_›)];done))
   all_goals(try(refine Rnd.mk ⟨k,⟨by omega,(qQ3 (f3 ‹_› ‹_›)).symm⟩,by omega,?_⟩))
   all_goals exact vcA
def qOV (p:List qAD) (i:Nat):Option Bool:=bif isL (nP p i).1 (nP p i).2.1 (nP p i).2.2.1 [102,111,114,109] then some false else none
def qdE (p:List qAD):Bool:=scU (qOV p) true p.length 0
instance bforms (p:List qAD):Fn BB 197 [.rd qAB p] (p.length<=1000) (.bool (qdE p)):=by
 refine Fn.intro (N:=15) [0,2,3,7,14] [] Tryz.call197 Tryz.func197 rfl rfl (by kernel_rfl) (fun hpre=>?_)
 skip
 all_goals(try(conv=>whnf))
 refine LoopStop.mk (α:=Nat) (fun i=>[(3,.int .i64 i)]) (fun _=>[]) 20 (fun i=>i<=p.length/\scU (qOV p) true (p.length-i) i=qdE p) (fun i=>p.length-i) 0 ⟨yB0 _,rfl⟩ ?_ (fun i hi=>?_)
 ·all_goals exact vcA
 ·obtain⟨hi,hall⟩:=hi;rw[<-hall];have f1:isL (nP p i).1 (nP p i).2.1 (nP p i).2.2.1 [102,111,114,109]=true->qOV p i=some false:=fun h=>by unfold qOV;rw[h];rfl
  have f2:isL (nP p i).1 (nP p i).2.1 (nP p i).2.2.1 [102,111,114,109]=false->qOV p i=none:=fun h=>by unfold qOV;rw[h];rfl
  repeat'((conv=>whnf);first|exact qR|intro _|refine WA ?_ ?_|refine WF ?_|refine X1 (W1 rfl ?_ ?_))
  all_goals(try(conv=>whnf))
  all_goals(try first|exact obA|refine Ob.mk ?_)
  all_goals(try simp only[yAK] at *)
  all_goals(try(have hl:i<p.length:=by have h:=of_decide_eq_true ‹decide ((i:Int)<(p.length:Int))=true›;omega))
  all_goals(try(rw[qBQ hl (f1 ‹_›)];done))
  all_goals(try(refine Rnd.mk ⟨i+1,⟨by omega,(qBV hl (f2 ‹_›)).symm⟩,by omega,?_⟩))
  repeat'((conv=>whnf);first|exact qR|refine And.intro ?_ ?_)
  all_goals(try(conv=>whnf))
  all_goals(try first|exact obA|refine Ob.mk ?_)
  all_goals(first|rfl|(rw[qCR (by have h:=of_decide_eq_false ‹decide ((i:Int)<(p.length:Int))=false›;omega)];done)|(simp;done)|trace_state)
end Go.Vc

namespace Go.Vc
open Go.Proofs
set_option maxRecDepth 10000
instance f36 (l:List qAY):FnM BB 95 [.rd qA2 l] [] (l.length<=100000) (.own 0) [(0,.own qA2 l)]:=by
 refine FnM.intro (N:=8) [0,2,4] [] 1 Tryz.call95 Tryz.func95 rfl rfl (by kernel_rfl) (fun hpre=>?_)
 repeat'((conv=>whnf);first|exact qR|intro _|refine And.intro ?_ ?_|refine Fin.mk ?_)
 all_goals(try(conv=>whnf))
 all_goals(try first|exact obA|refine Ob.mk ?_)
 all_goals(try simp_all)
def qPE (l:List Int) (w:Int):Int:=if l.contains w then(l.idxOf w:Int) else -1
theorem qIZ {l:List Int}{w:Int}(h:l.contains w=false):qPE l w = -1:=by rw[qPE,h];rfl
theorem qJS (l:List Int) (i:Nat) (w:Int) (h:i<l.length):(l.take (i+1)).contains w=((l.take i).contains w||(l.getD i 0==w)):=by
 rw[take_snoc l i 0 h];simp only[yAS,yAM,yAN,yAO,yAH];congr 1;exact yAC
theorem qP5 {l:List Int}{w:Int}{i:Nat}(h:i<l.length) (h1:(l.take i).contains w=false) (h2:w=l.getD i 0):qPE l w=i:=by
 have hc:l.contains w=true:=by rw[h2];simp[List.getD,yA5 h]
 rw[qPE,hc,if_pos rfl];have e:=yBR i l;rw[<-e,yA9,if_neg (by simpa using h1),yBH,yBZ (by omega)]
 have e2:l.drop i=w::l.drop (i+1):=by rw[yAT h,h2];simp[List.getD,yA5 h]
 rw[e2,yBA];simp
instance f41 (l:List Int) (w:Int):Fn BB 88 [.rd qAL l,.int .i64 w] True (.int .i64 (qPE l w)):=by
 refine Fn.intro (N:=19) [0,1,4,5,7,8,9,16] [] Tryz.call88 Tryz.func88 rfl rfl (by kernel_rfl) (fun hpre=>?_)
 repeat'((conv=>whnf);first|intro _)
 all_goals(try(conv=>whnf))
 refine LoopStop.mk (α:=Nat) (fun i=>[(8,.int .i64 i)]) (fun i=>[]) 20 (fun i=>i<=l.length/\(l.take i).contains w=false) (fun i=>l.length-i) 0 (by simp) ?_ (fun i hi=>?_)
 ·repeat'((conv=>whnf);first|exact qR|refine And.intro ?_ ?_)
  all_goals(try(conv=>whnf))
  all_goals(try rfl)
 ·obtain⟨hi,ha⟩:=hi
  repeat'((conv=>whnf);first|exact qR|intro _|refine And.intro ?_ ?_|refine Fin.mk ?_)
  all_goals(try(conv=>whnf))
  all_goals(try first|exact obA|refine Ob.mk ?_)
  all_goals(try simp only[ZA,ZB,ZC,ZD,ZE,ZF,ZG,ZH,ZI,ZJ,ZK,ZL,ZM,ZN,ZO,yAK,yB1,cast_eq] at *)
  ·rw[qP5 (i:=i) (by omega) (by simpa using ha) (by assumption)]
  ·have h:i<l.length:=by omega
   refine Rnd.mk ⟨i+1,?_,?_,?_⟩
   ·refine⟨by omega,?_⟩
    rw[qJS l i w h,yAG];refine⟨by simpa using ha,beq_eq_false_iff_ne.2 fun e=>?_⟩
    simp_all
   ·omega
   ·all_goals exact vcA
  ·have:i=l.length:=by omega
   subst this;rw[qIZ (by simpa using ha)]
instance f17 (l:List Int) (w:Int):Fn BB 29 [.rd qAL l,.int .i64 w] True (.bool (decide (qPE l w>=0))):=by
 refine Fn.intro (N:=9) [0,1,4] [] Tryz.call29 Tryz.func29 rfl rfl (by kernel_rfl) (fun hpre=>?_)
 all_goals exact vcA
end Go.Vc

namespace Go.Vc
open Go.Proofs
set_option maxRecDepth 10000
abbrev nd (l:List qAD) (i:Int):qAD:=l.getD i.toNat qAB.dflt
def qA9 (l:List qAD) (kid:Int):Int:=if isT l kid&&isT l (nd l kid).up then qPE (nd l (nd l kid).up).kids kid else -1
theorem qBH {l:List qAD}{i:Int}:isT l i=true↔0<=i/\i<l.length:=by simp[isT]
theorem qW2 {a b:Bool}(h:(!a || !b)=true):(a&&b)=false:=by cases a<;>cases b<;>simp_all
theorem qTQ {a b:Bool}(h:(!a || !b)=false):a=true/\b=true:=by cases a<;>cases b<;>simp_all
def qGZ:Nat->List qAD->Int->Int->Bool
 | 0,_,_,_=>false
 | n+1,l,up,kid=>if isT l kid then(if kid=up then true else qGZ n l up (nd l kid).up) else false
def qFO (l:List qAD) (up kid:Int):Bool:=isT l up&&qGZ (l.length+1) l up kid
theorem qG1 {α:Type}{a b:List α}{i:Nat}{d:α}(h:i<a.length) (hl:a.length=b.length) (ht:a.take i=b.take i) (he:a.getD i d=b.getD i d):a.take (i+1)=b.take (i+1):=by
 rw[take_snoc a i d h,take_snoc b i d (by omega),ht,he]
instance f54 (a b:List qAY):Fn BB 136 [.rd qA2 a,.rd qA2 b] True (.bool (decide (a=b))):=by
 refine Fn.intro (N:=26) [0,1,4,5,10,14,25] [(6,[0,0,1,1,0,0,1,1,3])] Tryz.call136 Tryz.func136 rfl rfl (by kernel_rfl) (fun hpre=>?_)
 repeat'((conv=>whnf);first|exact qR|intro _|refine And.intro ?_ ?_|refine Fin.mk ?_)
 all_goals(try(conv=>whnf))
 ·refine(decide_eq_false fun e=>?_).symm
  subst e;simp_all
 ·refine LoopStop.mk (α:=Nat) (fun i=>[(5,.int .i64 i)]) (fun _=>[]) 20 (fun i=>i<=a.length/\a.take i=b.take i) (fun i=>a.length-i) 0 (by simp) ?_ (fun i hi=>?_)
  ·repeat'((conv=>whnf);first|exact qR|refine And.intro ?_ ?_)
   all_goals(try(conv=>whnf))
   all_goals(try rfl)
  ·obtain⟨hi,ha⟩:=hi
   repeat'((conv=>whnf);first|exact qR|intro _|refine And.intro ?_ ?_|refine Fin.mk ?_)
   all_goals(try(conv=>whnf))
   all_goals(try first|exact obA|refine Ob.mk ?_)
   all_goals(simp only[decide_eq_true_eq,decide_eq_false_iff_not,bne_eq_false_iff_eq,yAF,Bool.not_eq_false',Bool.and_true] at *)
   ·refine(decide_eq_false fun e=>?_).symm
    subst e;simp_all
   ·rename_i h;simp only[yAB,beq_iff_eq] at h;have hil:i<a.length:=by omega
    refine Rnd.mk ⟨i+1,?_,?_,?_⟩
    ·exact⟨by omega,qG1 (d:=qA2.dflt) hil (by omega) ha (Prod.ext h.1 h.2)⟩
    ·omega
    ·all_goals exact vcA
   ·have:i=a.length:=by omega
    subst this;refine(decide_eq_true ?_).symm;rw[yBS,yBT (by omega)] at ha
    exact ha
end Go.Vc

namespace Go.Vc
open Go.Proofs
set_option maxRecDepth 10000
noncomputable def eqB {α:Type}(a b:α):Bool:=@decide (a=b) (Classical.propDecidable _)
theorem qYI {α:Type}{a b:α}(h:a=b):true=eqB a b:=by unfold eqB;simp[h]
theorem qGN {α:Type}{a b:α}(h:a≠b):false=eqB a b:=by unfold eqB;simp[h]
theorem qdR {α:Type}{a b:α}:eqB a b=true↔a=b:=by unfold eqB;simp
theorem qoA {α:Type}{a b:α}:eqB a b=false↔a≠b:=by unfold eqB;simp
end Go.Vc

namespace Go.Vc
open Go.Proofs
set_option maxRecDepth 10000
set_option maxHeartbeats 4000000
def qWE (nm:List UInt8) (a:qAY):Bool:=a.1==nm
def ixP {α:Type}(p:α->Bool):List α->Int
 | [] => -1
 | x::r=>if p x=true then 0 else if ixP p r = -1 then -1 else ixP p r+1
theorem qqA {α:Type}{p:α->Bool}{l:List α}{k:Nat}{d:α}(hk:k<l.length) (ha:(l.take k).all (fun x => !p x)=true) (h:p (l.getD k d)=true):ixP p l=k:=by
 induction l generalizing k with
 | nil=>simp at hk
 | cons x r ih=>
  cases k with
  | zero=>unfold ixP;rw[if_pos (by simpa using h)];rfl
  | succ k=>
   rw[yBU,yAL,yAB,yAF] at ha;have:=ih (by simpa using hk) ha.2 (by simpa using h)
   unfold ixP;rw[if_neg (by rw[ha.1];decide),this,if_neg (by omega)]
   rfl
theorem qgR {α:Type}{p:α->Bool}{l:List α}(ha:l.all (fun x => !p x)=true):ixP p l = -1:=by
 induction l with
 | nil=>rfl
 | cons x r ih=>
  rw[yAL,yAB,yAF] at ha;unfold ixP;rw[if_neg (by rw[ha.1];decide),ih ha.2,if_pos rfl]
def qjO (l:List qAY) (nm:List UInt8):List UInt8:=match l.find? (qWE nm) with|some a=>a.2|none=>[]
theorem qlK {l:List qAY}{nm:List UInt8}{k:Nat}(hk:k<l.length) (ha:(l.take k).all (fun x => !qWE nm x)=true) (h:qWE nm (l.getD k qA2.dflt)=true):qjO l nm=(l.getD k qA2.dflt).2/\l.any (qWE nm)=true:=by
 induction l generalizing k with
 | nil=>simp at hk
 | cons x r ih=>
  cases k with
  | zero=>
   have h':qWE nm x=true:=h;unfold qjO;rw[yA0,h',yAN,h'];exact⟨rfl,rfl⟩
  | succ k=>
   rw[yBU,yAL,yAB,yAF] at ha;have:=ih (by simpa using hk) ha.2 h
   unfold qjO at *;rw[yA0,ha.1,yAN,ha.1,yAE];exact this
theorem qS6 {l:List qAY}{nm:List UInt8}(ha:l.all (fun x => !qWE nm x)=true):qjO l nm=[]/\l.any (qWE nm)=false:=by
 induction l with
 | nil=>exact⟨rfl,rfl⟩
 | cons x r ih=>
  rw[yAL,yAB,yAF] at ha;have:=ih ha.2;unfold qjO at *;rw[yA0,ha.1,yAN,ha.1,yAE];exact this
instance tPl1 (a b nm:List UInt8):FnM BB 175 [.agg [.str a,.str b],.loc 0 0] [(0,.box [.str nm])] True (.bool (a==nm)) [(0,.box [.str nm])]:=by
 refine FnM.intro (N:=8) [0,1,2,3] [] 1 Tryz.call175 Tryz.func175 rfl rfl (by kernel_rfl) (fun hpre=>?_)
 all_goals exact vcA
instance xIx (l:List qAY) (nm:List UInt8):FnM BB 174 [.rd qA2 l,.fn 175 [.loc 0 0]] [(0,.box [.str nm])] (l.length<=100000) (.int .i64 (ixP (qWE nm) l)) [(0,.box [.str nm])]:=by
 refine FnM.intro (N:=19) [0,1,4,5,7,8,9,16] [] 1 Tryz.call174 Tryz.func174 rfl rfl (by kernel_rfl) (fun hpre=>?_)
 repeat'((conv=>whnf);first|intro _)
 all_goals(try(conv=>whnf))
 refine LoopStop.mk (α:=Nat) (fun k=>[(8,.int .i64 k)]) (fun _=>[]) 20 (fun k=>k<=l.length/\(l.take k).all (fun x => !qWE nm x)=true) (fun k=>l.length-k) 0 (by simp) ?_ (fun k hk=>?_)
 ·all_goals exact vcA
 ·obtain⟨hk,ha⟩:=hk
  repeat'((conv=>whnf);first|exact qR|intro _|refine WA ?_ ?_|refine WF ?_|refine X2 (W7 rfl ?_ ?_))
  all_goals(try(conv=>whnf))
  all_goals(try first|exact obA|refine Ob.mk ?_)
  all_goals(try simp only[yAK] at *)
  ·have hp:=of_decide_eq_true ‹decide ((k:Int)<(l.length:Int))=true›;have h:((l.getD k qA2.dflt).1==nm)=true:=‹_›;exact(qqA (p:=qWE nm) (d:=qA2.dflt) (by omega) ha h).symm
  ·have hp:=of_decide_eq_true ‹decide ((k:Int)<(l.length:Int))=true›;have h:((l.getD k qA2.dflt).1==nm)=false:=‹_›;refine Rnd.mk ⟨k+1,⟨by omega,?_⟩,by omega,?_⟩
   ·rw[qJO (fun x => !qWE nm x) l k qA2.dflt (by omega),ha]
    show(true && !((l.getD k qA2.dflt).1==nm))=true;rw[h];rfl
   ·all_goals exact vcA
  ·have hp:=of_decide_eq_false ‹decide ((k:Int)<(l.length:Int))=false›;have:k=l.length:=by omega
   subst this;rw[yBS] at ha;exact(qgR ha).symm
instance xRGet (l:List qAY) (nm:List UInt8):Fn BB 86 [.rd qA2 l,.str nm] (l.length<=100000) (.tup [.str (qjO l nm),.bool (l.any (qWE nm))]):=by
 refine Fn.intro (N:=25) [0,1,4,5,6,10,19] [] Tryz.call86 Tryz.func86 rfl rfl (by kernel_rfl) (fun hpre=>?_)
 skip
 all_goals(try(conv=>whnf))
 refine LoopStop.mk (α:=Nat) (fun k=>[(6,.int .i64 k)]) (fun _=>[]) 20 (fun k=>k<=l.length/\(l.take k).all (fun x => !qWE nm x)=true) (fun k=>l.length-k) 0 (by simp) ?_ (fun k hk=>?_)
 ·all_goals exact vcA
 ·obtain⟨hk,ha⟩:=hk
  repeat'((conv=>whnf);first|exact qR|intro _|refine And.intro ?_ ?_|refine Fin.mk ?_)
  all_goals(try(conv=>whnf))
  all_goals(try first|exact obA|refine Ob.mk ?_)
  all_goals(try simp only[yAK] at *)
  all_goals(try(have hp:k<l.length:=by have h:=of_decide_eq_true ‹decide ((k:Int)<(l.length:Int))=true›;omega))
  all_goals(try(have hh:=qlK (nm:=nm) hp ha (show((l.getD k qA2.dflt).1==nm)=true from‹_›)))
  all_goals(try(have hz:k=l.length:=by have h:=of_decide_eq_false ‹decide ((k:Int)<(l.length:Int))=false›;omega))
  all_goals(first|omega|(rw[hh.1];done)|(rw[hh.2];done)|(subst hz;rw[yBS] at ha;rw[(qS6 ha).1];done)|(subst hz;rw[yBS] at ha;rw[(qS6 ha).2];done)|skip)
  have h:((l.getD k qA2.dflt).1==nm)=false:=‹_›;refine Rnd.mk ⟨k+1,⟨by omega,?_⟩,by omega,?_⟩
  ·rw[qJO (fun x => !qWE nm x) l k qA2.dflt hp,ha]
   show(true && !((l.getD k qA2.dflt).1==nm))=true;rw[h];rfl
  ·all_goals exact vcA
end Go.Vc

namespace Go.Vc
open Go.Proofs
open Go.Vc.W
set_option maxRecDepth 10000
set_option maxHeartbeats 4000000
def qOE (l nm:List UInt8):Bool:=(W.spl l).contains nm
def qfT (s:Int) (nm:List UInt8):Bool:=bif s==0 then qOE [97,32,97,98,98,114,32,97,100,100,114,101,115,115,32,97,114,101,97,32,97,114,116,105,99,108,101,32,97,115,105,100,101,32,98,32,98,100,105,32,98,100,111,32,98,105,103,32,98,108,111,99,107,113,117,111,116,101,32,98,114,32,98,117,116,116,111,110,32,99,97,112,116,105,111,110,32,99,101,110,116,101,114,32,99,105,116,101,32,99,111,100,101,32,99,111,108,32,99,111,108,103,114,111,117,112,32,100,97,116,97,32,100,97,116,97,108,105,115,116,32,100,100,32,100,101,108,32,100,101,116,97,105,108,115,32,100,102,110,32,100,105,97,108,111,103,32,100,105,118,32,100,108,32,100,116,32,101,109,32,102,105,101,108,100,115,101,116,32,102,105,103,99,97,112,116,105,111,110,32,102,105,103,117,114,101,32,102,111,110,116,32,102,111,111,116,101,114,32,102,111,114,109,32,104,49,32,104,50,32,104,51,32,104,52,32,104,53,32,104,54,32,104,101,97,100,101,114,32,104,103,114,111,117,112,32,104,114,32,105,32,105,109,103,32,105,110,112,117,116,32,105,110,115,32,107,98,100,32,108,97,98,101,108,32,108,101,103,101,110,100,32,108,105,32,109,97,105,110,32,109,97,112,32,109,97,114,107,32,109,101,110,117,32,109,101,116,101,114,32,110,97,118,32,110,111,98,114,32,111,108,32,111,112,116,103,114,111,117,112,32,111,112,116,105,111,110,32,111,117,116,112,117,116,32,112,32,112,114,101,32,112,114,111,103,114,101,115,115,32,113,32,115,32,115,97,109,112,32,115,101,97,114,99,104,32,115,101,99,116,105,111,110,32,115,101,108,101,99,116,32,115,109,97,108,108,32,115,112,97,110,32,115,116,114,105,107,101,32,115,116,114,111,110,103,32,115,117,98,32,115,117,109,109,97,114,121,32,115,117,112,32,116,97,98,108,101,32,116,98,111,100,121,32,116,100,32,116,101,120,116,97,114,101,97,32,116,102,111,111,116,32,116,104,32,116,104,101,97,100,32,116,105,109,101,32,116,114,32,116,116,32,117,32,117,108,32,118,97,114,32,119,98,114] nm else bif s==1 then qOE [99,105,114,99,108,101,32,100,101,115,99,32,102,111,114,101,105,103,110,79,98,106,101,99,116,32,103,32,112,97,116,104,32,114,101,99,116,32,115,118,103,32,116,101,120,116,32,116,105,116,108,101] nm else s==2&&qOE [97,110,110,111,116,97,116,105,111,110,45,120,109,108,32,109,97,116,104,32,109,102,114,97,99,32,109,105,32,109,110,32,109,111,32,109,114,111,119,32,109,115,32,109,116,101,120,116] nm
theorem qDN {α:Type}{c:Bool}(h:c=true) (a b:α):(bif c then a else b)=a:=by rw[h];rfl
theorem qA3 {α:Type}{c:Bool}(h:c=false) (a b:α):(bif c then a else b)=b:=by rw[h];rfl
instance bKnown (s:Int) (nm:List UInt8):Fn BB 159 [.int .i64 s,.str nm] True (.bool (qfT s nm)):=by
 refine Fn.intro (N:=19) [0,1,4,6,10] [] Tryz.call159 Tryz.func159 rfl rfl (by kernel_rfl) (fun hpre=>?_)
 repeat'((conv=>whnf);first|exact qR|intro _|refine WA ?_ ?_|refine WF ?_|refine W1 rfl ?_ ?_|refine X1 (W1 rfl ?_ ?_))
 all_goals(try(conv=>whnf))
 all_goals(try first|exact obA|refine Ob.mk ?_)
 all_goals(try decide)
 all_goals(unfold qfT)
 ·rw[qDN ‹_›];rfl
 ·rw[qA3 ‹_›,qDN ‹_›];rfl
 ·rw[qA3 ‹_›,qA3 ‹_›];rfl
def qi1 (k s:Int) (nm:List UInt8):Bool:=k==1&&s==2&&qOE [109,105,32,109,110,32,109,111,32,109,115,32,109,116,101,120,116] nm
instance bTexts (k s:Int) (nm:List UInt8) (at_:List qA2.T) (d:List UInt8) (up:Int) (kids:List Int):Fn BB 192 [.agg [.int .i64 k,.int .i64 s,.str nm,.rd qA2 at_,.str d,.int .i64 up,.rd qAL kids]] True (.bool (qi1 k s nm)):=by
 refine Fn.intro (N:=16) [0,1,2] [] Tryz.call192 Tryz.func192 rfl rfl (by kernel_rfl) (fun hpre=>?_)
 repeat'((conv=>whnf);first|exact qR|intro _|refine WA ?_ ?_|refine WF ?_|refine W1 rfl ?_ ?_)
 all_goals(try(conv=>whnf))
 all_goals(try first|exact obA|refine Ob.mk ?_)
 all_goals(first|rfl|decide|trace_state)
def qY7 (k s:Int) (nm:List UInt8) (at_:List qAY):Bool:=bif k==1&&s==1&&qOE [100,101,115,99,32,102,111,114,101,105,103,110,79,98,106,101,99,116,32,116,105,116,108,101] nm then true else
 k==1&&s==2&&nm==[97,110,110,111,116,97,116,105,111,110,45,120,109,108]&&at_.any (qWE [101,110,99,111,100,105,110,103])&&(qf2 (qjO at_ [101,110,99,111,100,105,110,103])==qf2 [116,101,120,116,47,104,116,109,108]||qf2 (qjO at_ [101,110,99,111,100,105,110,103])==qf2 [97,112,112,108,105,99,97,116,105,111,110,47,120,104,116,109,108,43,120,109,108])
instance bPoint (k s:Int) (nm:List UInt8) (at_:List qA2.T) (d:List UInt8) (up:Int) (kids:List Int):Fn BB 193 [.agg [.int .i64 k,.int .i64 s,.str nm,.rd qA2 at_,.str d,.int .i64 up,.rd qAL kids]] (at_.length<=1000) (.bool (qY7 k s nm at_)):=by
 refine Fn.intro (N:=48) [0,1,2,3,4,17] [] Tryz.call193 Tryz.func193 rfl rfl (by kernel_rfl) (fun hpre=>?_)
 repeat'((conv=>whnf);first|exact qR|intro _|refine WA ?_ ?_|refine WF ?_|refine W1 rfl ?_ ?_|refine X1 (W1 rfl ?_ ?_))
 all_goals(try(conv=>whnf))
 all_goals(try first|exact obA|refine Ob.mk ?_)
 all_goals(try decide)
 all_goals(try omega)
 ·unfold qY7;rw[qDN ‹_›]
 ·unfold qY7;rw[qA3 ‹_›];try rfl
 all_goals trace_state
def qjA (k s:Int) (nm:List UInt8) (at_:List qAY):Bool:=k==1&&s==0||qi1 k s nm||qY7 k s nm at_
instance bTakes (k s:Int) (nm:List UInt8) (at_:List qA2.T) (d:List UInt8) (up:Int) (kids:List Int):Fn BB 160 [.agg [.int .i64 k,.int .i64 s,.str nm,.rd qA2 at_,.str d,.int .i64 up,.rd qAL kids]] (at_.length<=1000) (.bool (qjA k s nm at_)):=by
 refine Fn.intro (N:=19) [0,1,2] [] Tryz.call160 Tryz.func160 rfl rfl (by kernel_rfl) (fun hpre=>?_)
 repeat'((conv=>whnf);first|exact qR|intro _|refine WA ?_ ?_|refine WF ?_|refine W1 rfl ?_ ?_)
 all_goals(try(conv=>whnf))
 all_goals(try first|exact obA|refine Ob.mk ?_)
 all_goals(first|rfl|exact hpre|trace_state)
def qQE (n:qAD):Prop:=n.2.2.1.length<=60/\n.2.2.2.1.length<=1000
def qKD (p:List qAD):Prop:=p.length<=1000/\∀ i:Nat,qQE (p.getD i qAB.dflt)
theorem qiD {p:List qAD}(h:qKD p):qZI p/\qQE (qCG p):=by
 refine⟨⟨h.1,fun i=>(h.2 i).1⟩,?_⟩
 unfold qCG;split
 ·exact⟨by decide,by decide⟩
 ·exact h.2 _
abbrev qpS:List (List UInt8):=[[115,101,108,101,99,116],[116,97,98,108,101],[99,111,108,103,114,111,117,112],[116,98,111,100,121],[116,102,111,111,116],[116,104,101,97,100],[116,114]]
abbrev zCG:List (List UInt8):=[[111,112,116,105,111,110,32,111,112,116,103,114,111,117,112],[99,97,112,116,105,111,110,32,99,111,108,103,114,111,117,112,32,116,98,111,100,121,32,116,102,111,111,116,32,116,104,101,97,100],[99,111,108],[116,114],[116,114],[116,114],[116,100,32,116,104]]
def qeX (p:List qAD) (i:Nat):Option (List UInt8×Bool):=bif isL (qCG p).1 (qCG p).2.1 (qCG p).2.2.1 (qpS.getD i []) then some (zCG.getD i [],true) else none
def qEW (p:List qAD):List UInt8×Bool:=
 bif qFB (qCG p).2.1 (qCG p).2.2.1 qbY&&(qCG p).1==1||isL (qCG p).1 (qCG p).2.1 (qCG p).2.2.1 [116,101,120,116,97,114,101,97] then([],true) else
 bif isL (qCG p).1 (qCG p).2.1 (qCG p).2.2.1 [111,112,116,105,111,110]&&qLC p [115,101,108,101,99,116] 4 then([],true) else
 bif isL (qCG p).1 (qCG p).2.1 (qCG p).2.2.1 [111,112,116,103,114,111,117,112]&&qLC p [115,101,108,101,99,116] 4 then([111,112,116,105,111,110],true) else scU (qeX p) ([],false) 7 0
instance bStrict (p:List qAD):Fn BB 161 [.rd qAB p] (qKD p) (.tup [.str (qEW p).1,.bool (qEW p).2]):=by
 refine Fn.intro (N:=55) [0,2,3,4,5,6,7,8,24,31,36,42,50] [(14,[1,0,0,1,1,3])] Tryz.call161 Tryz.func161 rfl rfl (by kernel_rfl) (fun hpre=>?_)
 obtain⟨hp1,hp2⟩:=qiD hpre
 repeat'((conv=>whnf);first|exact qR|intro _|refine WA ?_ ?_|refine WF ?_|refine W1 rfl ?_ ?_|refine X1 (W1 rfl ?_ ?_)|refine X1 (W2 rfl ?_ ?_))
 all_goals(try(conv=>whnf))
 all_goals(try first|exact obA|refine Ob.mk ?_)
 all_goals(try(exact hp2.1))
 all_goals(try(exact⟨hp1,by decide⟩))
 all_goals(try decide)
 all_goals(try(unfold qEW;rw[qDN ‹_›];done))
 all_goals(try(unfold qEW;rw[qA3 ‹_›,qDN ‹_›];done))
 all_goals(try(unfold qEW;rw[qA3 ‹_›,qA3 ‹_›,qDN ‹_›];done))
 have red:qEW p=scU (qeX p) ([],false) 7 0:=by unfold qEW;rw[qA3 ‹_›,qA3 ‹_›,qA3 ‹_›]
 rw[red];refine LoopStop.mk (α:=Nat) (fun i=>[(8,.int .i64 i)]) (fun _=>[]) 40 (fun i=>i<=7/\scU (qeX p) ([],false) (7-i) i=scU (qeX p) ([],false) 7 0) (fun i=>7-i) 0 ⟨yB0 _,rfl⟩ ?_ (fun i hi=>?_)
 ·all_goals exact vcA
 ·obtain⟨hi,hall⟩:=hi;rw[<-hall];have f1:isL (qCG p).1 (qCG p).2.1 (qCG p).2.2.1 (qpS.getD i [])=true->qeX p i=some (zCG.getD i [],true):=fun h=>by unfold qeX;rw[h];rfl
  have f2:isL (qCG p).1 (qCG p).2.1 (qCG p).2.2.1 (qpS.getD i [])=false->qeX p i=none:=fun h=>by unfold qeX;rw[h];rfl
  have hle:(qpS.getD i []).length<=100000:=by
   rcases yBY i 7 with h|h
   ·have:i=0\/i=1\/i=2\/i=3\/i=4\/i=5\/i=6:=by omega
    rcases this with rfl|rfl|rfl|rfl|rfl|rfl|rfl<;>decide
   ·rw[yA3,yA6 (by exact h)];decide
  repeat'((conv=>whnf);first|exact qR|intro _|refine WA ?_ ?_|refine WF ?_|refine X1 (W1 rfl ?_ ?_))
  all_goals(try(conv=>whnf))
  all_goals(try first|exact obA|refine Ob.mk ?_)
  all_goals(try simp only[yAK] at *)
  all_goals(try(exact hle))
  all_goals(try(have hl:i<7:=by have h:=of_decide_eq_true (by assumption);exact yAJ.mp h))
  all_goals(try(rw[qBQ hl (f1 ‹_›)];done))
  all_goals(try(have e:=qBQ (d:=([],false)) hl (f1 ‹_›);rw[e];rfl))
  all_goals(try(have hl:¬i<7:=fun q=>of_decide_eq_false (by assumption) (yAJ.mpr q);have e:=qCR (f:=qeX p) (d:=([],false)) hl;rw[e]))
  all_goals(try((show(0:Int)<=(i:Int)/\(i:Int)<(7:Int));omega))
  all_goals(try(refine Rnd.mk ⟨i+1,⟨by omega,(qBV hl (f2 ‹_›)).symm⟩,by omega,?_⟩))
  all_goals exact vcA
end Go.Vc

namespace Go.Vc
open Go.Proofs
open Go.Vc.W
set_option maxRecDepth 10000
set_option maxHeartbeats 4000000
def qOB (p:List qAD) (k s:Int) (nm:List UInt8):Bool:=
 bif isL k s nm [99,97,112,116,105,111,110,32,99,111,108,32,99,111,108,103,114,111,117,112,32,116,98,111,100,121,32,116,100,32,116,102,111,111,116,32,116,104,32,116,104,101,97,100,32,116,114] then false else
 bif (qFB 0 nm qm2||has qjJ nm||isL k s nm [104,114,32,116,97,98,108,101,32,102,111,114,109,32,108,105,32,100,100,32,100,116])&&qLC p [112] 2 then false else
 bif qFB 0 nm qm2&&isL (qCG p).1 (qCG p).2.1 (qCG p).2.2.1 [104,49,32,104,50,32,104,51,32,104,52,32,104,53,32,104,54] then false else
 bif nm==[102,111,114,109] && !qdE p||nm==[97] && !qQP p then false else
 bif (nm==[98,117,116,116,111,110]||nm==[110,111,98,114])&&qLC p nm 0 then false else
 bif nm==[108,105] && !qYY p [108,105]||isL k s nm [100,100,32,100,116] && !qYY p [100,100,32,100,116] then false else
 !isL k s nm [111,112,116,105,111,110,32,111,112,116,103,114,111,117,112] || !isL (qCG p).1 (qCG p).2.1 (qCG p).2.2.1 [111,112,116,105,111,110]
instance bFree (p:List qAD) (k s:Int) (nm:List UInt8) (at_:List qA2.T) (d:List UInt8) (up:Int) (kids:List Int):Fn BB 162 [.rd qAB p,.agg [.int .i64 k,.int .i64 s,.str nm,.rd qA2 at_,.str d,.int .i64 up,.rd qAL kids]] (qKD p/\nm.length<=60) (.bool (qOB p k s nm)):=by
 refine Fn.intro (N:=89) [0,1,3,4,5,10,24,30,48,62,79] [] Tryz.call162 Tryz.func162 rfl rfl (by kernel_rfl) (fun hpre=>?_)
 obtain⟨hp,hn⟩:=hpre;obtain⟨hp1,hp2⟩:=qiD hp;have hp3:=hp1.1
 repeat'((conv=>whnf);first|exact qR|intro _|refine WA ?_ ?_|refine WF ?_|refine W1 rfl ?_ ?_|refine W2 rfl ?_ ?_|refine X1 (W1 rfl ?_ ?_))
 all_goals(try(conv=>whnf))
 all_goals(try first|exact obA|refine Ob.mk ?_)
 all_goals(try(first|exact hp1|exact hp3|exact⟨hp1,by decide⟩|exact⟨hp1,by omega⟩|exact hn|omega|decide))
 all_goals(try(unfold qOB;rw[qDN ‹_›];done))
 all_goals(try(unfold qOB;rw[qA3 ‹_›,qDN ‹_›];done))
 all_goals(try(unfold qOB;rw[qA3 ‹_›,qA3 ‹_›,qDN ‹_›];done))
 all_goals(try(unfold qOB;rw[qA3 ‹_›,qA3 ‹_›,qA3 ‹_›,qDN ‹_›];done))
 all_goals(try(unfold qOB;rw[qA3 ‹_›,qA3 ‹_›,qA3 ‹_›,qA3 ‹_›,qDN ‹_›];done))
 all_goals(try(unfold qOB;rw[qA3 ‹_›,qA3 ‹_›,qA3 ‹_›,qA3 ‹_›,qA3 ‹_›,qDN ‹_›];done))
 all_goals(try(unfold qOB;rw[qA3 ‹_›,qA3 ‹_›,qA3 ‹_›,qA3 ‹_›,qA3 ‹_›,qA3 ‹_›];done))
 all_goals(try(unfold qOB;rw[qA3 ‹_›,qA3 ‹_›,qA3 ‹_›,qA3 ‹_›,qA3 ‹_›,qA3 ‹_›];rfl))
 all_goals trace_state
theorem qbC (p:List qAD):(qEW p).1.length<=100:=by
 have h7:∀ i,(zCG.getD i []).length<=100:=fun i=>by
  rcases yBY i 7 with h|h
  ·have:i=0\/i=1\/i=2\/i=3\/i=4\/i=5\/i=6:=by omega
   rcases this with rfl|rfl|rfl|rfl|rfl|rfl|rfl<;>decide
  ·rw[yA3,yA6 (by exact h)];decide
 have hs:∀ m i,(scU (qeX p) (([]:List UInt8),false) m i).1.length<=100:=by
  intro m
  induction m with
  | zero=>intro i;exact yB0 _
  | succ m ih=>
   intro i;rw[scU];unfold qeX;cases isL (qCG p).1 (qCG p).2.1 (qCG p).2.2.1 (qpS.getD i []) with
   | true=>exact h7 i
   | false=>exact ih (i+1)
 unfold qEW;cases qFB (qCG p).2.1 (qCG p).2.2.1 qbY&&(qCG p).1==1||isL (qCG p).1 (qCG p).2.1 (qCG p).2.2.1 [116,101,120,116,97,114,101,97] with
 | true=>exact yB0 _
 | false=>
  cases isL (qCG p).1 (qCG p).2.1 (qCG p).2.2.1 [111,112,116,105,111,110]&&qLC p [115,101,108,101,99,116] 4 with
  | true=>exact yB0 _
  | false=>
   cases isL (qCG p).1 (qCG p).2.1 (qCG p).2.2.1 [111,112,116,103,114,111,117,112]&&qLC p [115,101,108,101,99,116] 4 with
   | true=>show([111,112,116,105,111,110]:List UInt8).length<=100;decide
   | false=>exact hs 7 0
def qiV (p:List qAD) (k s:Int) (nm:List UInt8):Bool:=
 bif k != 1 || !qfT s nm then false else
 bif !qjA (qCG p).1 (qCG p).2.1 (qCG p).2.2.1 (qCG p).2.2.2.1 then(s==(qCG p).2.1||(qCG p).2.1==2&&(qCG p).2.2.1==[97,110,110,111,116,97,116,105,111,110,45,120,109,108]&&s==1&&nm==[115,118,103]) else
 bif (qEW p).2 then isL k s nm (qEW p).1 else
 bif s != 0 then(s==1&&nm==[115,118,103]||s==2&&nm==[109,97,116,104]) else qOB p k s nm
instance bMay (p:List qAD) (k s:Int) (nm:List UInt8) (at_:List qA2.T) (d:List UInt8) (up:Int) (kids:List Int):Fn BB 124 [.rd qAB p,.agg [.int .i64 k,.int .i64 s,.str nm,.rd qA2 at_,.str d,.int .i64 up,.rd qAL kids]] (qKD p/\nm.length<=60) (.bool (qiV p k s nm)):=by
 refine Fn.intro (N:=82) [0,1,3,4,5,6,7,18,23,54,60] [] Tryz.call124 Tryz.func124 rfl rfl (by kernel_rfl) (fun hpre=>?_)
 obtain⟨hp,hn⟩:=hpre;obtain⟨hp1,hp2⟩:=qiD hp;have hsl:=qbC p
 repeat'((conv=>whnf);first|exact qR|intro _|refine WA ?_ ?_|refine WF ?_|refine W1 rfl ?_ ?_|refine X1 (W1 rfl ?_ ?_)|refine X1 (W2 rfl ?_ ?_))
 all_goals(try(conv=>whnf))
 all_goals(try first|exact obA|refine Ob.mk ?_)
 all_goals(try(first|exact hp2.2|exact hp|exact⟨hp,hn⟩|exact hn|omega|decide))
 all_goals(try(unfold qiV;rw[qDN ‹_›];done))
 all_goals(try(unfold qiV;rw[qA3 ‹_›];done))
 all_goals(try(unfold qiV;rw[qA3 ‹_›];rfl))
 all_goals(try(unfold qiV;rw[qA3 ‹_›,qDN ‹_›];done))
 all_goals(try(unfold qiV;rw[qA3 ‹_›,qA3 ‹_›,qDN ‹_›];done))
 all_goals(try(unfold qiV;rw[qA3 ‹_›,qA3 ‹_›,qA3 ‹_›,qDN ‹_›];done))
 all_goals(try(unfold qiV;rw[qA3 ‹_›,qA3 ‹_›,qA3 ‹_›,qA3 ‹_›];done))
 all_goals trace_state
def blF (s:List UInt8) (i:Nat):Option Bool:=bif !isSp ((s.getD i 0).toNat:Int) then some false else none
def qc9 (s:List UInt8):Bool:=scU (blF s) true s.length 0
instance bBlank (s:List UInt8):Fn BB 165 [.str s] True (.bool (qc9 s)):=by
 refine Fn.intro (N:=15) [0,2,3,7,14] [] Tryz.call165 Tryz.func165 rfl rfl (by kernel_rfl) (fun hpre=>?_)
 skip
 all_goals(try(conv=>whnf))
 refine LoopStop.mk (α:=Nat) (fun i=>[(3,.int .i64 i)]) (fun _=>[]) 20 (fun i=>i<=s.length/\scU (blF s) true (s.length-i) i=qc9 s) (fun i=>s.length-i) 0 ⟨yB0 _,rfl⟩ ?_ (fun i hi=>?_)
 ·all_goals exact vcA
 ·obtain⟨hi,hall⟩:=hi;rw[<-hall];have f1:(!isSp ((s.getD i 0).toNat:Int))=true->blF s i=some false:=fun h=>by unfold blF;rw[h];rfl
  have f2:(!isSp ((s.getD i 0).toNat:Int))=false->blF s i=none:=fun h=>by unfold blF;rw[h];rfl
  repeat'((conv=>whnf);first|exact qR|intro _|refine WA ?_ ?_|refine WF ?_|refine X1 (W1 rfl ?_ ?_))
  all_goals(try(conv=>whnf))
  all_goals(try first|exact obA|refine Ob.mk ?_)
  all_goals(try simp only[yAK] at *)
  all_goals(try(have hl:i<s.length:=by have h:=of_decide_eq_true ‹decide ((i:Int)<(s.length:Int))=true›;omega))
  all_goals(try(rw[qBQ hl (f1 ‹_›)];done))
  all_goals(try(refine Rnd.mk ⟨i+1,⟨by omega,(qBV hl (f2 ‹_›)).symm⟩,by omega,?_⟩))
  repeat'((conv=>whnf);first|exact qR|refine And.intro ?_ ?_)
  all_goals(try(conv=>whnf))
  all_goals(try first|exact obA|refine Ob.mk ?_)
  all_goals(first|rfl|(rw[qCR (by have h:=of_decide_eq_false ‹decide ((i:Int)<(s.length:Int))=false›;omega)];done)|(simp;done)|trace_state)
noncomputable def qGU (p:List qAD) (s:List UInt8):Bool:=
 bif s==[] || !qGC s||(qCG p).1==1&&qFB (qCG p).2.1 (qCG p).2.2.1 qbY then false else !isL (qCG p).1 (qCG p).2.1 (qCG p).2.2.1 [116,97,98,108,101,32,116,98,111,100,121,32,116,102,111,111,116,32,116,104,101,97,100,32,116,114,32,99,111,108,103,114,111,117,112]||qc9 s
instance bChars28 (p:List qAD) (s:List UInt8):Fn BB 126 [.rd qAB p,.str s] (qKD p/\s.length<=100000) (.bool (qGU p s)):=by
 refine Fn.intro (N:=34) [0,1,4,5,26] [] Tryz.call126 Tryz.func126 rfl rfl (by kernel_rfl) (fun hpre=>?_)
 obtain⟨hp,hn⟩:=hpre;obtain⟨hp1,hp2⟩:=qiD hp
 repeat'((conv=>whnf);first|exact qR|intro _|refine WA ?_ ?_|refine WF ?_|refine W1 rfl ?_ ?_|refine X1 (W1 rfl ?_ ?_)|refine X1 (W2 rfl ?_ ?_))
 all_goals(try(conv=>whnf))
 all_goals(try first|exact obA|refine Ob.mk ?_)
 all_goals(try(first|exact hp2.1|exact hn|omega|decide))
 all_goals(try(unfold qGU;rw[qDN ‹_›];done))
 all_goals(try(unfold qGU;rw[qA3 ‹_›];done))
 all_goals(try(unfold qGU;rw[qA3 ‹_›];rfl))
 all_goals trace_state
end Go.Vc

namespace Go.Vc
open Go.Proofs
set_option maxRecDepth 10000
def qA4 (l:List qAD):Bool:=decide (l.length<=1000)&&l.all fun n=>decide (n.2.2.2.1.length<=1000)&&decide (n.kids.length<=1000)
end Go.Vc

namespace Go.Vc
open Go.Proofs
set_option maxRecDepth 10000
def qKR (l:List qAD) (n:qAD):List qAD:=l++[(n.1,n.2.1,n.2.2.1,n.2.2.2.1,n.2.2.2.2.1, -1,[])]
def qIS (n:qAD) (k:List Int):qAD:=(n.1,n.2.1,n.2.2.1,n.2.2.2.1,n.2.2.2.2.1,n.2.2.2.2.2.1,k)
def qhT (n:qAD) (u:Int):qAD:=(n.1,n.2.1,n.2.2.1,n.2.2.2.1,n.2.2.2.2.1,u,n.2.2.2.2.2.2)
def qTZ (l:List qAD) (kid:Int):List qAD:=
 if qA9 l kid>=0 then l.set (nd l kid).up.toNat (qIS (nd l (nd l kid).up) ((nd l (nd l kid).up).kids.take (qA9 l kid).toNat++(nd l (nd l kid).up).kids.drop (qA9 l kid+1).toNat)) else l
def qWF (l:List qAD) (kid:Int):List qAD:=
 if kid≠0/\isT l kid=true then(qTZ l kid).set kid.toNat (qhT (nd (qTZ l kid) kid) (-1)) else qTZ l kid
theorem qd0 {l:List qAD}{i:Nat}{n:qAD}{k:Int}:isT (l.set i n) k=isT l k:=by simp[isT]
theorem qo5 {l:List Int}{w:Int}(h:qPE l w>=0):qPE l w<l.length:=by
 unfold qPE at h ⊢;split at h
 ·rename_i hc;rw[if_pos hc];have:=List.idxOf_lt_length_of_mem (a:=w) (l:=l) (by simpa using hc)
  omega
 ·omega
theorem qSZ {l:List qAD}{kid:Int}(h:qA9 l kid>=0):isT l kid=true/\isT l (nd l kid).up=true/\qA9 l kid<(nd l (nd l kid).up).kids.length:=by
 unfold qA9 at h ⊢;split at h
 ·rename_i hc;rw[if_pos hc];simp only[yAB] at hc;exact⟨hc.1,hc.2,qo5 h⟩
 ·omega
theorem qCY {l:List qAD}(h:qA4 l=true) (i:Int) (hi:isT l i=true):(nd l i).2.2.2.1.length<=1000/\(nd l i).kids.length<=1000:=by
 simp only[qA4,yAB,List.all_eq_true,decide_eq_true_eq] at h;obtain⟨h1,h2⟩:=qBH.1 hi;refine h.2 (nd l i) ?_;have:i.toNat<l.length:=by omega
 simp[nd,List.getD,yA5 this]
theorem qFN {l:List qAD}(h:qA4 l=true):l.length<=1000:=by
 simp only[qA4,yAB,decide_eq_true_eq] at h;exact h.1
def qnL (l:List qAD) (up at_ kid:Int):List qAD:=
 if(!isT l up || !isT l kid||kid==0||qFO l kid up)=true then l else
 let c:=qWF l kid
 let ks:=(nd c up).kids
 let i:=min (max at_ 0) (ks.length:Int)
 let c2:=c.set up.toNat (qIS (nd c up) (ks.take i.toNat++kid::ks.drop i.toNat))
 c2.set kid.toNat (qhT (nd c2 kid) up)
theorem qhZ {l:List qAD}{k i:Nat}{n:qAD}:(l.set k n).getD i qAB.dflt=if k=i/\k<l.length then n else l.getD i qAB.dflt:=by
 simp only[List.getD,yA8];by_cases h:k=i
 ·subst h;by_cases h2:k<l.length
  ·simp[h2]
  ·simp[h2]
 ·simp[h]
def smB (m:Nat) (l:List qAD):Prop:=l.length<=m/\∀ i,i<l.length->(l.getD i qAB.dflt).2.2.2.1.length<=m/\(l.getD i qAB.dflt).kids.length<=m
theorem qpR {l:List qAD}(h:qA4 l=true):smB 1000 l:=by
 refine⟨qFN h,fun i hi=>?_⟩
 have:=qCY h i (qBH.2 ⟨by omega,by omega⟩)
 simpa[nd] using this
theorem qfJ {l:List qAD}{m:Nat}(h:smB m l) {k:Nat}{n:qAD}(hn:k<l.length->n.2.2.2.1.length<=m/\n.kids.length<=m):smB m (l.set k n):=by
 refine⟨by simpa using h.1,fun i hi=>?_⟩
 rw[qhZ];split
 ·rename_i hc;exact hn hc.2
 ·exact h.2 i (by simpa using hi)
theorem qPT {l:List qAD}{kid:Int}:(qTZ l kid).length=l.length:=by unfold qTZ;split<;>simp
theorem qY4 {l:List qAD}{kid:Int}:(qWF l kid).length=l.length:=by
 unfold qWF;split
 ·rw[yBG,qPT]
 ·exact qPT
theorem qV0 {l:List qAD}{m:Nat}{kid:Int}(h:smB m l):smB m (qTZ l kid):=by
 unfold qTZ;split
 ·refine qfJ h fun hk=>?_
  have:=h.2 _ hk;refine⟨this.1,?_⟩;have e:(qIS (nd l (nd l kid).up) ((nd l (nd l kid).up).kids.take (qA9 l kid).toNat++(nd l (nd l kid).up).kids.drop (qA9 l kid+1).toNat)).kids.length<=(nd l (nd l kid).up).kids.length:=by
   show((nd l (nd l kid).up).kids.take (qA9 l kid).toNat++(nd l (nd l kid).up).kids.drop (qA9 l kid+1).toNat).length<=_;simp only[yBB,yBH,yBD];omega
  exact yBX e this.2
 ·exact h
theorem qmJ {l:List qAD}{m:Nat}{kid:Int}(h:smB m l):smB m (qWF l kid):=by
 unfold qWF;split
 ·refine qfJ (qV0 h) fun hk=>?_
  exact(qV0 h (kid:=kid)).2 _ hk
 ·exact qV0 h
end Go.Vc

namespace Go.Vc
open Go.Proofs
set_option maxRecDepth 10000
def qAJ:qAD:=((0:Int),(0:Int),([]:List UInt8),([]:List qAY),([]:List UInt8),(-1:Int),([]:List Int))
instance f18:FnM BB 120 [] [] True (.agg [.own 0]) [(0,.own qAB [qAJ])]:=by
 refine FnM.intro (N:=4) [0] [] 1 Tryz.call120 Tryz.func120 rfl rfl (by kernel_rfl) (fun hpre=>?_)
 all_goals exact vcA
theorem FnM.wk {B:Base}{f:FuncId}{args args':List SV}{Φ:Phi}{pre:Prop}{res:SV}{Φ':Phi}(F:FnM B f args Φ pre res Φ') (h:∀ r β vs,qA5 r β args' vs->qA5 r β args vs):FnM B f args' Φ pre res Φ':=
 ⟨F.call,fun hp r β w vs hG m hl=>F.ok hp r β w vs hG m (h r β vs hl)⟩
theorem qMU {r β v}{τ:Ty}(h:Rel r β .nils v):Rel r β (.rd τ []) v:=by cases h;exact .rd .litsE
end Go.Vc

namespace Go.Vc
set_option autoImplicit false
abbrev Ev:=Nat×Int×Nat×Bool
def unseen (s:List Bool):Nat:=s.count false
def okK (s:List Bool) (k:Int):Bool:=decide (0<=k) && !(s.getD k.toNat true)
theorem qBF {s:List Bool}{k:Int}(h:okK s k=true):0<=k/\k.toNat<s.length/\s[k.toNat]?=some false:=by
 unfold okK at h;simp only[yAB,decide_eq_true_eq,yAF] at h;have hl:k.toNat<s.length:=by
  rcases yBY k.toNat s.length with q|q
  ·exact q
  ·have:=h.2;simp[List.getD,yA6 q] at this
 refine⟨h.1,hl,?_⟩;have:=h.2;rw[yA3,yA5 hl] at this;rw[yA5 hl];simpa using this
theorem qBC {s:List Bool}{k:Nat}(h:s[k]?=some false):unseen (s.set k true)+1=unseen s:=by
 unfold unseen
 induction s generalizing k with
 | nil=>cases h
 | cons x r ih=>
  cases k with
  | zero=>simp at h;subst h;simp
  | succ k=>
   have:=ih (k:=k) (by simpa using h)
   simp only[List.set_cons_succ,List.count_cons];omega
def dfs (K:Nat->List Int) (s:List Bool) (i j c:Nat):List Ev×List Bool×Nat:=
 if h:j<(K i).length then
  if hk:okK s ((K i).getD j 0)=true then
   let r1:=dfs K (s.set ((K i).getD j 0).toNat true) ((K i).getD j 0).toNat 0 (c+1)
   if hg:unseen r1.2.1<unseen s then
    let r2:=dfs K r1.2.1 i (j+1) r1.2.2
    ((((K i).getD j 0).toNat,(i:Int),c,false)::(r1.1++r2.1),r2.2.1,r2.2.2)
   else([],s,c)
  else dfs K s i (j+1) c
 else([(i,0,c,true)],s,c+1)
termination_by (unseen s,(K i).length-j)
decreasing_by
 ·have:=qBC (qBF hk).2.2;exact Prod.Lex.left _ _ (by omega)
 ·exact Prod.Lex.left _ _ hg
 ·exact Prod.Lex.right _ (by omega)
variable {K:Nat->List Int}
theorem qDS {s:List Bool}{i j c:Nat}(h:¬j<(K i).length):dfs K s i j c=([(i,0,c,true)],s,c+1):=by
 rw[dfs,dif_neg h]
theorem qDR {s:List Bool}{i j c:Nat}(h:j<(K i).length) (hk:okK s ((K i).getD j 0)=false):dfs K s i j c=dfs K s i (j+1) c:=by
 rw[dfs,dif_pos h,dif_neg (by rw[hk];decide)]
theorem qcI {s:List Bool}{i j c:Nat}(h:j<(K i).length) (hk:okK s ((K i).getD j 0)=true):dfs K s i j c=
  (let r1:=dfs K (s.set ((K i).getD j 0).toNat true) ((K i).getD j 0).toNat 0 (c+1)
   if hg:unseen r1.2.1<unseen s then
    let r2:=dfs K r1.2.1 i (j+1) r1.2.2
    ((((K i).getD j 0).toNat,(i:Int),c,false)::(r1.1++r2.1),r2.2.1,r2.2.2)
   else([],s,c)):=by
 rw[dfs,dif_pos h,dif_pos hk]
theorem qXV {P:List Bool->Nat->Nat->Nat->Prop}
  (h:∀ s i j c,(∀ s' i' j' c',(unseen s'<unseen s\/(unseen s'=unseen s/\(K i').length-j'<(K i).length-j))->P s' i' j' c')->P s i j c):∀ s i j c,P s i j c:=by
 have main:∀ a b s i j c,unseen s=a->(K i).length-j=b->P s i j c:=by
  intro a
  induction a using Nat.strongRecOn with
  | ind a iha=>
   intro b
   induction b using Nat.strongRecOn with
   | ind b ihb=>
    intro s i j c ha hb;refine h s i j c fun s' i' j' c' q=>?_
    rcases q with q|⟨q1,q2⟩
    ·exact iha (unseen s') (by omega) _ s' i' j' c' rfl rfl
    ·exact ihb _ (by omega) s' i' j' c' (by omega) rfl
 exact fun s i j c=>main _ _ s i j c rfl rfl
theorem qfD:∀ (s:List Bool) (i j c:Nat),unseen (dfs K s i j c).2.1<=unseen s:=by
 refine qXV (K:=K) fun s i j c ih=>?_
 by_cases h:j<(K i).length
 ·cases hk:okK s ((K i).getD j 0) with
  | false=>rw[qDR h hk];exact ih s i (j+1) c (.inr ⟨rfl,by omega⟩)
  | true=>
   rw[qcI h hk];dsimp only;split
   ·rename_i hg;have:=ih _ i (j+1) (dfs K (s.set ((K i).getD j 0).toNat true) ((K i).getD j 0).toNat 0 (c+1)).2.2 (.inl hg);exact yBX this (Nat.le_of_lt hg)
   ·exact yBW _
 ·rw[qDS h];exact yBW _
theorem qSU {s:List Bool}{k:Nat}(hk:s[k]?=some false) (c:Nat):unseen (dfs K (s.set k true) k 0 c).2.1<unseen s:=by
 have h1:=qfD (K:=K) (s.set k true) k 0 c;have h2:=qBC hk;omega
theorem qGK {s:List Bool}{i j c:Nat}(h:j<(K i).length) (hk:okK s ((K i).getD j 0)=true):dfs K s i j c=
    ((((K i).getD j 0).toNat,(i:Int),c,false)::((dfs K (s.set ((K i).getD j 0).toNat true) ((K i).getD j 0).toNat 0 (c+1)).1 ++
      (dfs K (dfs K (s.set ((K i).getD j 0).toNat true) ((K i).getD j 0).toNat 0 (c+1)).2.1 i (j+1) (dfs K (s.set ((K i).getD j 0).toNat true) ((K i).getD j 0).toNat 0 (c+1)).2.2).1),
     (dfs K (dfs K (s.set ((K i).getD j 0).toNat true) ((K i).getD j 0).toNat 0 (c+1)).2.1 i (j+1) (dfs K (s.set ((K i).getD j 0).toNat true) ((K i).getD j 0).toNat 0 (c+1)).2.2).2.1,
     (dfs K (dfs K (s.set ((K i).getD j 0).toNat true) ((K i).getD j 0).toNat 0 (c+1)).2.1 i (j+1) (dfs K (s.set ((K i).getD j 0).toNat true) ((K i).getD j 0).toNat 0 (c+1)).2.2).2.2):=by
  rw[qcI h hk];dsimp only;rw[dif_pos (qSU (qBF hk).2.2 (c+1))]
theorem qGV {P:List Bool->Nat->Nat->Nat->Prop}
  (he:∀ s i j c,¬j<(K i).length->P s i j c)
  (hb:∀ s i j c,j<(K i).length->okK s ((K i).getD j 0)=false->P s i (j+1) c->P s i j c)
  (ho:∀ s i j c,j<(K i).length->okK s ((K i).getD j 0)=true->P (s.set ((K i).getD j 0).toNat true) ((K i).getD j 0).toNat 0 (c+1)->
   (P (dfs K (s.set ((K i).getD j 0).toNat true) ((K i).getD j 0).toNat 0 (c+1)).2.1 i (j+1) (dfs K (s.set ((K i).getD j 0).toNat true) ((K i).getD j 0).toNat 0 (c+1)).2.2)->P s i j c):
  ∀ s i j c,P s i j c:=by
 refine qXV (K:=K) fun s i j c ih=>?_
 by_cases h:j<(K i).length
 ·cases hk:okK s ((K i).getD j 0) with
  | false=>exact hb s i j c h hk (ih s i (j+1) c (.inr ⟨rfl,by omega⟩))
  | true=>
   have h2:=qBC (qBF hk).2.2;exact ho s i j c h hk (ih _ _ _ _ (.inl (by omega))) (ih _ _ _ _ (.inl (qSU (qBF hk).2.2 (c+1))))
 ·exact he s i j c h
def qK1 (K:Nat->List Int):List (Nat×Nat)->List Bool->Nat->List Ev
 | [],_,_=>[]
 | (i,j)::rest,s,c=>(dfs K s i j c).1++qK1 K rest (dfs K s i j c).2.1 (dfs K s i j c).2.2
theorem qZF {s:List Bool}{i j c:Nat}{rest:List (Nat×Nat)}(h:¬j<(K i).length):qK1 K ((i,j)::rest) s c=(i,0,c,true)::qK1 K rest s (c+1):=by
 rw[qK1,qDS h];rfl
theorem qZC {s:List Bool}{i j c:Nat}{rest:List (Nat×Nat)}(h:j<(K i).length) (hk:okK s ((K i).getD j 0)=false):qK1 K ((i,j)::rest) s c=qK1 K ((i,j+1)::rest) s c:=by
 rw[qK1,qK1,qDR h hk]
theorem qdO {s:List Bool}{i j c:Nat}{rest:List (Nat×Nat)}(h:j<(K i).length) (hk:okK s ((K i).getD j 0)=true):
  qK1 K ((i,j)::rest) s c=(((K i).getD j 0).toNat,(i:Int),c,false)::qK1 K ((((K i).getD j 0).toNat,0)::(i,j+1)::rest) (s.set ((K i).getD j 0).toNat true) (c+1):=by
 rw[qK1,qGK h hk,qK1,qK1];simp only[List.cons_append,yAP]
def qOK (K:Nat->List Int) (n:Nat):List Ev:=if n=0 then[] else(0, -1,0,false)::qK1 K [(0,0)] ((List.replicate n false).set 0 true) 1
end Go.Vc

namespace Go.Vc
set_option autoImplicit false
structure St where
 L:List Nat
 P:List Nat
 I:List Int
 O:List Int
 m:Nat
def St.step (x:St) (e:Ev):St:=
 if e.2.2.2=true then { x with P:=x.P.dropLast,O:=x.O.set e.1 (x.m:Int),m:=x.m+1 }
 else { x with L:=x.L++[e.1],P:=x.P++[e.1],I:=x.I.set e.1 (x.m:Int),m:=x.m+1 }
structure Good (n:Nat) (x:St):Prop where
 lI:x.I.length=n
 lO:x.O.length=n
 lt:∀ u∈x.L,u<n
 nod:x.L.Nodup
 out:∀ u,u∉x.L->x.I.getD u (-1) = -1/\x.O.getD u (-1) = -1
 rI:∀ u∈x.L,0<=x.I.getD u (-1)/\x.I.getD u (-1)<x.m
 rO:∀ u∈x.L,x.O.getD u (-1) = -1\/(x.I.getD u (-1)<x.O.getD u (-1)/\x.O.getD u (-1)<x.m)
 srt:x.L.Pairwise fun a b=>x.I.getD a (-1)<x.I.getD b (-1)
 stk:x.P=x.L.filter fun u=>x.O.getD u (-1) == -1
 nest:∀ u∈x.L,∀ v∈x.L,x.I.getD u (-1)<x.I.getD v (-1)->x.O.getD u (-1) = -1\/x.O.getD u (-1)<x.I.getD v (-1)\/(x.O.getD v (-1) ≠ -1/\x.O.getD v (-1)<x.O.getD u (-1))
 dis:∀ u∈x.L,∀ v∈x.L,x.O.getD u (-1) ≠ -1->x.O.getD u (-1)≠x.I.getD v (-1)/\(x.O.getD v (-1)=x.O.getD u (-1)->u=v)
 cnt:x.m+x.P.length=2*x.L.length
def qnN (n:Nat) (x:St) (e:Ev):Prop:=
 e.2.2.1=x.m/\(if e.2.2.2=true then x.P.getLast?=some e.1 else e.1<n/\e.1∉x.L)
theorem qBL {α:Type}(l:List α) (i j:Nat) (a d:α):(l.set i a).getD j d=if i=j/\i<l.length then a else l.getD j d:=by
 rw[yA3,yA8];by_cases h:i=j
 ·subst h;by_cases hl:i<l.length
  ·simp[hl]
  ·simp[hl,yA3,yA6 (Nat.le_of_not_lt hl)]
 ·simp[h,yA3]
theorem Good.into {n:Nat}{x:St}(g:Good n x) {v:Nat}(hv:v<n) (hn:v∉x.L):
  Good n { x with L:=x.L++[v],P:=x.P++[v],I:=x.I.set v (x.m:Int),m:=x.m+1 }:=by
 have hI:∀ u,(x.I.set v (x.m:Int)).getD u (-1)=if v=u then(x.m:Int) else x.I.getD u (-1):=by
  intro u;rw[qBL];by_cases h:v=u
  ·rw[if_pos h,if_pos ⟨h,by rw[g.lI];exact hv⟩]
  ·rw[if_neg h,if_neg (fun q=>h q.1)]
 have ho:=g.out v hn;have hne:∀ u∈x.L,v≠u:=fun u hu e=>hn (e▸hu)
 refine⟨by simp[g.lI],g.lO,?_,?_,?_,?_,?_,?_,?_,?_,?_,?_⟩<;>dsimp only
 ·intro u hu;rcases yBJ.1 hu with h|h
  ·exact g.lt u h
  ·simp at h;subst h;exact hv
 ·rw[List.nodup_append];refine⟨g.nod,by simp,?_⟩
  intro a ha b hb e;simp at hb;subst hb;subst e;exact hn ha
 ·intro u hu;simp only[yBJ,yBO,not_or] at hu;rw[hI,if_neg (fun e=>hu.2 e.symm)]
  exact g.out u hu.1
 ·intro u hu;rw[hI];rcases yBJ.1 hu with h|h
  ·rw[if_neg (hne u h)];have:=g.rI u h;omega
  ·simp at h;subst h;rw[if_pos rfl];omega
 ·intro u hu;rw[hI];rcases yBJ.1 hu with h|h
  ·rw[if_neg (hne u h)];have:=g.rO u h;omega
  ·simp at h;subst h;exact .inl ho.2
 ·rw[yBP];refine⟨?_,by simp,?_⟩
  ·refine g.srt.imp_of_mem ?_;intro a b ha hb h;rw[hI,hI,if_neg (hne a ha),if_neg (hne b hb)];exact h
  ·intro a ha b hb;simp at hb;subst hb;rw[hI,hI,if_neg (hne a ha),if_pos rfl];exact(g.rI a ha).2
 ·rw[yAW, <-g.stk];simp only[yAY,yAZ,ho.2];rfl
 ·intro u hu w hw;rw[hI,hI];rcases yBJ.1 hu with h|h
  ·rw[if_neg (hne u h)];rcases yBJ.1 hw with k|k
   ·rw[if_neg (hne w k)];exact g.nest u h w k
   ·simp at k;subst k;rw[if_pos rfl];intro _;have:=g.rO u h;omega
  ·simp at h;subst h;rw[if_pos rfl];exact fun _=>.inl ho.2
 ·intro u hu w hw hq;rw[hI];rcases yBJ.1 hu with h|h
  ·rcases yBJ.1 hw with k|k
   ·rw[if_neg (hne w k)];exact g.dis u h w k hq
   ·simp at k;subst k;rw[if_pos rfl];have:=g.rO u h;refine⟨by omega,fun e=>?_⟩
    rw[ho.2] at e;exact absurd e.symm hq
  ·simp at h;subst h;exact absurd ho.2 hq
 ·have:=g.cnt;simp only[yBB,yBC,List.length_nil];omega
theorem qXG {α:Type}[BEq α] [LawfulBEq α] {l:List α}(hn:l.Nodup) {p q:α->Bool}{v:α}(hv:(l.filter p).getLast?=some v)
  (hq:∀ u,q u=(p u && !(u==v))):l.filter q=(l.filter p).dropLast:=by
 have e:l.filter q=(l.filter p).filter fun u => !(u==v):=by
  rw[List.filter_filter];exact yAX fun u _=>by rw[hq u,Bool.and_comm]
 rw[e];have hnp:=hn.filter p;generalize l.filter p=m at *;rcases yAV m with rfl|⟨r,a,rfl⟩
 ·simp at hv
 ·rw[yAR] at *;simp at hv;subst hv;rw[yBP] at hnp;simp only[yAW,yAY,yAZ,beq_self_eq_true,Bool.not_true,Bool.false_eq_true,if_false,yAQ,List.dropLast_concat];rw[List.filter_eq_self];intro u hu;have:=hnp.2.2 u hu a (by simp)
  simpa using this
theorem Good.leave {n:Nat}{x:St}(g:Good n x) {v:Nat}(hl:x.P.getLast?=some v):
  Good n { x with P:=x.P.dropLast,O:=x.O.set v (x.m:Int),m:=x.m+1 }:=by
 have hvP:v∈x.P:=yBN hl;have hvP':=hvP;rw[g.stk,yBM] at hvP';have hvL:=hvP'.1;have hvO:x.O.getD v (-1) = -1:=by simpa using hvP'.2
 have hvn:=g.lt v hvL;have hO:∀ u,(x.O.set v (x.m:Int)).getD u (-1)=if v=u then(x.m:Int) else x.O.getD u (-1):=by
  intro u;rw[qBL];by_cases h:v=u
  ·rw[if_pos h,if_pos ⟨h,by rw[g.lO];exact hvn⟩]
  ·rw[if_neg h,if_neg (fun q=>h q.1)]
 have hlast:∀ w∈x.L,x.I.getD v (-1)<x.I.getD w (-1)->x.O.getD w (-1) ≠ -1:=by
  intro w hw hlt ho;have hwP:w∈x.P:=by rw[g.stk,yBM];exact⟨hw,by simpa using ho⟩
  have hs:x.P.Pairwise fun a b=>x.I.getD a (-1)<x.I.getD b (-1):=by rw[g.stk];exact g.srt.filter _
  rcases yAV x.P with he|⟨r,a,he⟩
  ·rw[he] at hl;cases hl
  ·rw[yAR] at he;rw[he] at hl hwP hs;simp at hl;subst hl;rw[yBP] at hs;rcases yBJ.1 hwP with h|h
   ·have:=hs.2.2 w h a (by simp);omega
   ·simp at h;subst h;omega
 refine⟨g.lI,by simp[g.lO],g.lt,g.nod,?_,?_,?_,g.srt,?_,?_,?_,?_⟩<;>dsimp only
 ·intro u hu;rw[hO,if_neg (fun e:v=u=>hu (e▸hvL))]
  exact g.out u hu
 ·intro u hu;have:=g.rI u hu;omega
 ·intro u hu;rw[hO];have h1:=g.rI u hu;have h2:=g.rO u hu;split<;>omega
 ·rw[g.stk] at hl;rw[g.stk];refine(qXG g.nod hl fun u=>?_).symm
  rw[hO];by_cases h:v=u
  ·subst h;rw[if_pos rfl];have:((x.m:Int) == -1)=false:=beq_eq_false_iff_ne.mpr (by omega)
   rw[this];simp
  ·rw[if_neg h,show(u==v)=false from beq_eq_false_iff_ne.mpr (fun e=>h e.symm)];simp
 ·intro u hu w hw hlt;rw[hO,hO];have h0:=g.nest u hu w hw hlt;have hru:=g.rO u hu;by_cases h:v=u
  ·subst h;rw[if_pos rfl];have hwo:=hlast w hw hlt;have hrw:=g.rO w hw;rw[if_neg (by rintro rfl;omega)]
   omega
  ·rw[if_neg h];by_cases h':v=w
   ·subst h';rw[if_pos rfl];omega
   ·rw[if_neg h'];exact h0
 ·intro u hu w hw hq;rw[hO] at hq ⊢;rw[hO];have hru:=g.rO u hu;have hrw:=g.rO w hw;have hiw:=g.rI w hw;by_cases h:v=u
  ·subst h;rw[if_pos rfl] at hq ⊢;refine⟨by omega,fun e=>?_⟩
   by_cases h':v=w
   ·exact h'
   ·rw[if_neg h'] at e;omega
  ·rw[if_neg h] at hq ⊢;have h0:=g.dis u hu w hw hq;refine⟨h0.1,fun e=>?_⟩
   by_cases h':v=w
   ·rw[if_pos h'] at e;omega
   ·rw[if_neg h'] at e;exact h0.2 e
 ·have:=g.cnt;have hp:0<x.P.length:=List.length_pos_of_mem hvP;simp only[List.length_dropLast];omega
theorem Good.step {n:Nat}{x:St}(g:Good n x) {e:Ev}(h:qnN n x e):Good n (x.step e):=by
 obtain⟨h1,h2⟩:=h;unfold St.step;split
 ·rename_i hl;rw[if_pos hl] at h2;exact g.leave h2
 ·rename_i hl;rw[if_neg hl] at h2;exact g.into h2.1 h2.2
def qKC (n:Nat):St->List Ev->Prop
 | _,[]=>True
 | x,e::r=>qnN n x e/\qKC n (x.step e) r
def St.run (x:St) (l:List Ev):St:=l.foldl St.step x
theorem qdZ {n:Nat}:∀ {x:St}{a b:List Ev},qKC n x a->qKC n (x.run a) b->qKC n x (a++b):=by
 intro x a
 induction a generalizing x with
 | nil=>intro b _ h;exact h
 | cons e a ih=>intro b h1 h2;exact⟨h1.1,ih h1.2 h2⟩
theorem qHA (x:St) (a b:List Ev):x.run (a++b)=(x.run a).run b:=by unfold St.run;rw[yA1]
theorem Good.run {n:Nat}:∀ {l:List Ev}{x:St},Good n x->qKC n x l->Good n (x.run l):=by
 intro l
 induction l with
 | nil=>intro x g _;exact g
 | cons e l ih=>intro x g h;exact ih (g.step h.1) h.2
def Seen (s:List Bool) (x:St):Prop:=∀ u,u<s.length->(s.getD u true=true↔u∈x.L)
theorem qlO {K:Nat->List Int}:∀ (s:List Bool) (i j c:Nat),(dfs K s i j c).2.1.length=s.length:=by
 refine qGV (K:=K) ?_ ?_ ?_
 ·intro s i j c h;rw[qDS h]
 ·intro s i j c h hk ih;rw[qDR h hk];exact ih
 ·intro s i j c h hk i1 i2;rw[qGK h hk];dsimp only;rw[i2,i1,yBG]
theorem qg5 {K:Nat->List Int}(n:Nat):∀ (s:List Bool) (i j c:Nat) (x:St) (P0:List Nat),s.length=n->Seen s x->x.P=P0++[i]->x.m=c->
  qKC n x (dfs K s i j c).1/\(x.run (dfs K s i j c).1).P=P0/\(x.run (dfs K s i j c).1).m=(dfs K s i j c).2.2/\Seen (dfs K s i j c).2.1 (x.run (dfs K s i j c).1):=by
 refine qGV (K:=K) ?_ ?_ ?_
 ·intro s i j c h x P0 hs hx hP hm;rw[qDS h];have e:x.run [(i,0,c,true)]={ x with P:=x.P.dropLast,O:=x.O.set i (x.m:Int),m:=x.m+1 }:=rfl
  refine⟨⟨⟨hm.symm,?_⟩,trivial⟩,?_,?_,?_⟩
  ·rw[if_pos rfl,hP];simp
  ·rw[e];dsimp only;rw[hP];simp
  ·rw[e];dsimp only;rw[hm]
  ·rw[e];exact hx
 ·intro s i j c h hk ih;rw[qDR h hk];exact ih
 ·intro s i j c h hk i1 i2 x P0 hs hx hP hm;have hok:=qBF hk;rw[qGK h hk];dsimp only;generalize hkk:((K i).getD j 0).toNat=k at *;have hkn:k<n:=by rw[<-hs];exact hok.2.1
  have hkL:k∉x.L:=by
   intro q;have:=(hx k (by omega)).2 q
   rw[yA3,hok.2.2] at this;cases this
  have e0:x.step (k,(i:Int),c,false)={ x with L:=x.L++[k],P:=x.P++[k],I:=x.I.set k (x.m:Int),m:=x.m+1 }:=rfl
  have hx1:Seen (s.set k true) (x.step (k,(i:Int),c,false)):=by
   intro u hu;rw[yBG] at hu;rw[qBL,e0];dsimp only;rw[yBJ,yBO];by_cases q:k=u
   ·rw[if_pos ⟨q,by omega⟩];simp[q]
   ·rw[if_neg (fun z=>q z.1),hx u hu]
    constructor
    ·exact .inl
    ·rintro(z|z)
     ·exact z
     ·exact absurd z.symm q
  obtain⟨a1,a2,a3,a4⟩:=i1 (x.step (k,(i:Int),c,false)) x.P (by rw[yBG];exact hs) hx1 (by rw[e0]) (by rw[e0];dsimp only;rw[hm])
  generalize hr1:dfs K (s.set k true) k 0 (c+1)=r1 at *;have hl1:r1.2.1.length=n:=by rw[<-hr1,qlO,yBG,hs]
  obtain⟨b1,b2,b3,b4⟩:=i2 ((x.step (k,(i:Int),c,false)).run r1.1) P0 hl1 a4 (by rw[a2,hP]) a3
  refine⟨⟨⟨hm.symm,?_⟩,qdZ a1 b1⟩,?_,?_,?_⟩
  ·rw[if_neg (by simp)];exact⟨hkn,hkL⟩
  ·show((x.step _).run (r1.1++_)).P=P0;rw[qHA];exact b2
  ·show((x.step _).run (r1.1++_)).m=_;rw[qHA];exact b3
  ·show Seen _ ((x.step _).run (r1.1++_));rw[qHA];exact b4
def st0 (n:Nat):St:={ L:=[],P:=[],I:=List.replicate n (-1),O:=List.replicate n (-1),m:=0 }
theorem qNL {α:Type}(n:Nat) (a:α) (u:Nat):(List.replicate n a).getD u a=a:=by
 rw[yA3,yA7];split<;>rfl
theorem ql2 (n:Nat):Good n (st0 n):=by
 refine⟨by simp[st0],by simp[st0],by simp[st0],by simp[st0],?_,by simp[st0],by simp[st0],by simp[st0],by simp[st0],by simp[st0],by simp[st0],by simp[st0]⟩
 intro u _;exact⟨qNL n _ u,qNL n _ u⟩
theorem qS1 (K:Nat->List Int) (n:Nat):qKC n (st0 n) (qOK K n)/\((st0 n).run (qOK K n)).P=[]:=by
 unfold qOK;split
 ·exact⟨trivial,rfl⟩
 ·rename_i hn;have hn:0<n:=by omega
  have hseen:Seen ((List.replicate n false).set 0 true) ((st0 n).step (0, -1,0,false)):=by
   intro u hu;rw[yBG,yBF] at hu;rw[qBL];show _↔u∈[0];rw[yBO,yBF];by_cases q:0=u
   ·rw[if_pos ⟨q,hn⟩];simp[q]
   ·rw[if_neg (fun z=>q z.1),yA3,yA7,if_pos hu]
    constructor
    ·intro z;cases z
    ·intro z;exact absurd z.symm q
  obtain⟨a1,a2,a3,a4⟩:=qg5 (K:=K) n ((List.replicate n false).set 0 true) 0 0 1 ((st0 n).step (0, -1,0,false)) [] (by simp) hseen rfl rfl
  have e:qK1 K [(0,0)] ((List.replicate n false).set 0 true) 1=(dfs K ((List.replicate n false).set 0 true) 0 0 1).1:=by
   rw[qK1,qK1,yAQ]
  rw[e];exact⟨⟨⟨rfl,by rw[if_neg (by decide)];exact⟨hn,by simp[st0]⟩⟩,a1⟩,a2⟩
end Go.Vc

namespace Go.Vc
set_option autoImplicit false
structure Mono (x y:St):Prop where
 L:∃ l,y.L=x.L++l/\∀ u∈l,(x.m:Int)<=y.I.getD u (-1)
 I:∀ u∈x.L,y.I.getD u (-1)=x.I.getD u (-1)
 O:∀ u∈x.L,x.O.getD u (-1) ≠ -1->y.O.getD u (-1)=x.O.getD u (-1)
 O':∀ u∈x.L,x.O.getD u (-1) = -1->y.O.getD u (-1) = -1\/(x.m:Int)<=y.O.getD u (-1)
 m:x.m<=y.m
theorem Mono.refl (x:St):Mono x x:=⟨⟨[],by simp,by simp⟩,fun _ _=>rfl,fun _ _ _=>rfl,fun _ _ h=>.inl h,yBW _⟩
theorem Mono.step {n:Nat}{x:St}(g:Good n x) {e:Ev}(h:qnN n x e):Mono x (x.step e):=by
 obtain⟨h1,h2⟩:=h;unfold St.step;split
 ·rename_i hl;rw[if_pos hl] at h2;have hP:e.1∈x.P:=yBN h2;rw[g.stk,yBM] at hP;have hO:x.O.getD e.1 (-1) = -1:=by simpa using hP.2
  have hn:=g.lt _ hP.1;refine⟨⟨[],by simp,by simp⟩,fun _ _=>rfl,?_,?_,Nat.le_succ _⟩<;>dsimp only
  ·intro u hu hq;rw[qBL];by_cases q:e.1=u
   ·subst q;exact absurd hO hq
   ·rw[if_neg (fun z=>q z.1)]
  ·intro u hu hq;rw[qBL];by_cases q:e.1=u
   ·rw[if_pos ⟨q,by rw[g.lO];exact hn⟩];right;omega
   ·rw[if_neg (fun z=>q z.1)];exact .inl hq
 ·rename_i hl;rw[if_neg hl] at h2;have hI:∀ u,(x.I.set e.1 (x.m:Int)).getD u (-1)=if e.1=u then(x.m:Int) else x.I.getD u (-1):=by
   intro u;rw[qBL];by_cases q:e.1=u
   ·rw[if_pos q,if_pos ⟨q,by rw[g.lI];exact h2.1⟩]
   ·rw[if_neg q,if_neg (fun z=>q z.1)]
  refine⟨⟨[e.1],rfl,?_⟩,?_,fun _ _ _=>rfl,fun _ _ h=>.inl h,Nat.le_succ _⟩<;>dsimp only
  ·intro u hu;simp at hu;rw[hI,if_pos hu.symm];omega
  ·intro u hu;rw[hI,if_neg (fun q:e.1=u=>h2.2 (q▸hu))]
theorem Mono.trans {x y z:St}(a:Mono x y) (b:Mono y z):Mono x z:=by
 obtain⟨l,e1,h1⟩:=a.L;obtain⟨l',e2,h2⟩:=b.L;have sub:∀ u∈x.L,u∈y.L:=fun u hu=>by rw[e1];exact yBK _ hu
 have hm:=a.m;refine⟨⟨l++l',by rw[e2,e1,yAP],?_⟩,?_,?_,?_,yBX a.m b.m⟩
 ·intro u hu;rcases yBJ.1 hu with h|h
  ·rw[b.I u (by rw[e1];exact List.mem_append_right _ h)];exact h1 u h
  ·have:=h2 u h;omega
 ·intro u hu;rw[b.I u (sub u hu),a.I u hu]
 ·intro u hu h;have:=a.O u hu h;rw[b.O u (sub u hu) (by rw[this];exact h),this]
 ·intro u hu h;rcases a.O' u hu h with q|q
  ·rcases b.O' u (sub u hu) q with r|r
   ·exact .inl r
   ·right;omega
  ·by_cases r:y.O.getD u (-1) = -1
   ·omega
   ·rw[b.O u (sub u hu) r];exact .inr q
theorem Mono.run {n:Nat}:∀ {l:List Ev}{x:St},Good n x->qKC n x l->Mono x (x.run l):=by
 intro l
 induction l with
 | nil=>intro x _ _;exact Mono.refl x
 | cons e l ih=>intro x g h;exact(Mono.step g h.1).trans (ih (g.step h.1) h.2)
structure Done (n:Nat) (y:St):Prop extends Good n y where
 P0:y.P=[]
theorem Done.o {n:Nat}{y:St}(g:Done n y) {u:Nat}(hu:u∈y.L):y.O.getD u (-1) ≠ -1:=by
 intro h;have:u∈y.P:=by rw[g.stk,yBM];exact⟨hu,by simpa using h⟩
 rw[g.P0] at this;cases this
def qWB (y:St) (v:Nat):List Nat:=y.L.filter fun u=>decide (y.I.getD u (-1)<y.I.getD v (-1))&&decide (y.O.getD v (-1)<y.O.getD u (-1))
def qRY (v:Int):List Ev->List Nat->Option (List Nat)
 | [],_=>none
 | e::r,P=>if e.2.2.2=true then qRY v r P.dropLast else if(e.1:Int)=v then some P else qRY v r (P++[e.1])
theorem qkH {n:Nat}{x:St}(g:Good n x) {v:Nat}(hv:v<n) (hn:v∉x.L) {r:List Ev}{c:Nat}{up:Int}(h:qKC n (x.step (v,up,c,false)) r) (d:Done n ((x.step (v,up,c,false)).run r)):
  x.P=qWB ((x.step (v,up,c,false)).run r) v/\v∈((x.step (v,up,c,false)).run r).L:=by
 have e0:x.step (v,up,c,false)={ x with L:=x.L++[v],P:=x.P++[v],I:=x.I.set v (x.m:Int),m:=x.m+1 }:=rfl
 have g':Good n (x.step (v,up,c,false)):=by rw[e0];exact g.into hv hn
 have mo:=Mono.run g' h;generalize (x.step (v,up,c,false)).run r=y at *;have hvL:v∈(x.step (v,up,c,false)).L:=by rw[e0];simp
 obtain⟨l,el,hl⟩:=mo.L;have hIv:y.I.getD v (-1)=x.m:=by
  rw[mo.I v hvL,e0];dsimp only;rw[qBL,if_pos ⟨rfl,by rw[g.lI];exact hv⟩]
 have hvy:v∈y.L:=by rw[el];exact yBK _ hvL
 have hOv:=d.rO v hvy;have hOv':=d.o hvy;refine⟨?_,hvy⟩;unfold qWB;rw[el,e0];dsimp only;rw[yAW,yAW,g.stk];have hx:∀ u∈x.L,v≠u:=fun u hu q=>hn (q▸hu)
 have e1:List.filter (fun u=>decide (y.I.getD u (-1)<y.I.getD v (-1))&&decide (y.O.getD v (-1)<y.O.getD u (-1))) [v]=[]:=by
  simp
 have e2:List.filter (fun u=>decide (y.I.getD u (-1)<y.I.getD v (-1))&&decide (y.O.getD v (-1)<y.O.getD u (-1))) l=[]:=by
  rw[List.filter_eq_nil_iff];intro u hu;have:=hl u hu;rw[e0] at this;dsimp only at this;simp only[yAB,decide_eq_true_eq,not_and];intro q;omega
 rw[e1,e2,yAQ,yAQ];refine yAX fun u hu=>?_
 have hu':u∈(x.step (v,up,c,false)).L:=by rw[e0];exact yBK _ hu
 have huy:u∈y.L:=by rw[el];exact yBK _ hu'
 have hIu:y.I.getD u (-1)=x.I.getD u (-1):=by
  rw[mo.I u hu',e0];dsimp only;rw[qBL,if_neg (fun z=>hx u hu z.1)]
 have hrI:=g.rI u hu;have hxO:(x.step (v,up,c,false)).O.getD u (-1)=x.O.getD u (-1):=by rw[e0]
 rw[hIu,hIv,decide_eq_true hrI.2,yAI];by_cases q:x.O.getD u (-1) = -1
 ·rw[q];have hm:(x.step (v,up,c,false)).m=x.m+1:=rfl;rcases mo.O' u hu' (by rw[hxO];exact q) with z|z
  ·exact absurd z (d.o huy)
  ·rw[hm] at z;have:=d.nest u huy v hvy (by rw[hIu,hIv];exact hrI.2)
   have k:y.O.getD v (-1)<y.O.getD u (-1):=by
    rcases this with t|t|t
    ·exact absurd t (d.o huy)
    ·omega
    ·exact t.2
   rw[decide_eq_true k];rfl
 ·have z:=mo.O u hu' (by rw[hxO];exact q)
  rw[hxO] at z;have hrO:=g.rO u hu;rw[beq_eq_false_iff_ne.mpr q,z];symm;rw[decide_eq_false_iff_not];omega
theorem qgH {n:Nat}(v:Nat):∀ {r:List Ev}{x:St},Good n x->v∉x.L->qKC n x r->Done n (x.run r)->
  qRY v r x.P=if v∈(x.run r).L then some (qWB (x.run r) v) else none:=by
 intro r
 induction r with
 | nil=>intro x g hv _ _;rw[if_neg (by exact hv)];rfl
 | cons e r ih=>
  intro x g hv h d;obtain⟨ev,eu,ec,el⟩:=e;have h1:=h.1;have hr:x.run ((ev,eu,ec,el)::r)=(x.step (ev,eu,ec,el)).run r:=rfl;rw[hr] at d ⊢;unfold qRY;cases el with
  | true=>
   rw[if_pos rfl];have e0:x.step (ev,eu,ec,true)={ x with P:=x.P.dropLast,O:=x.O.set ev (x.m:Int),m:=x.m+1 }:=rfl
   have:=ih (x:=x.step (ev,eu,ec,true)) (g.step h1) (by rw[e0];exact hv) h.2 d
   rw[<-this,e0]
  | false=>
   rw[if_neg (by simp)]
   have h2:=h1.2;rw[if_neg (by simp)] at h2
   have e0:x.step (ev,eu,ec,false)={ x with L:=x.L++[ev],P:=x.P++[ev],I:=x.I.set ev (x.m:Int),m:=x.m+1 }:=rfl
   dsimp only at h2 ⊢;by_cases q:ev=v
   ·subst q;rw[if_pos rfl];have:=qkH g h2.1 h2.2 h.2 d;rw[if_pos this.2,this.1]
   ·rw[if_neg (by omega)]
    have:=ih (x:=x.step (ev,eu,ec,false)) (g.step h1) (by rw[e0];simp[hv];exact fun z=>q z.symm) h.2 d
    rw[<-this,e0]
theorem qaN {v:Int}:∀ {r:List Ev}{P:List Nat},(∀ e∈r,e.2.2.2=false->(e.1:Int)≠v)->qRY v r P=none:=by
 intro r
 induction r with
 | nil=>intro P _;rfl
 | cons e r ih=>
  intro P h;unfold qRY;split
  ·exact ih fun e he=>h e (List.mem_cons_of_mem _ he)
  ·rename_i hl;rw[if_neg (h e List.mem_cons_self (by simpa using hl))]
   exact ih fun e he=>h e (List.mem_cons_of_mem _ he)
def qkS (D:Int) (S:Nat->Prop) (f:Nat->Int):Prop:=0<=D/\(∀ v,S v->f v<=D)/\(D=0\/∃ v,S v/\D=f v)
theorem qkS.uniq {D D':Int}{S:Nat->Prop}{f:Nat->Int}(h:qkS D S f) (h':qkS D' S f) (hf:∀ v,S v->0<=f v):D=D':=by
 obtain⟨a0,a1,a2⟩:=h;obtain⟨b0,b1,b2⟩:=h';rcases a2 with rfl|⟨v,hv,rfl⟩
 ·rcases b2 with rfl|⟨w,hw,rfl⟩
  ·rfl
  ·have:=a1 w hw;omega
 ·have:=b1 v hv;rcases b2 with rfl|⟨w,hw,rfl⟩
  ·have:=hf v hv;omega
  ·have:=a1 w hw;omega
def qTP (K:Nat->List Int) (n:Nat):St:=(st0 n).run (qOK K n)
theorem qMA (K:Nat->List Int) (n:Nat):Done n (qTP K n):=⟨(ql2 n).run (qS1 K n).1,(qS1 K n).2⟩
theorem qhF (K:Nat->List Int) (n v:Nat):qRY v (qOK K n) []=if v∈(qTP K n).L then some (qWB (qTP K n) v) else none:=
 qgH v (ql2 n) (by simp[st0]) (qS1 K n).1 (qMA K n)
theorem qsM:∀ (l:List Ev) (x:St),(x.run l).m=x.m+l.length:=by
 intro l
 induction l with
 | nil=>intro x;rfl
 | cons e l ih=>
  intro x;show((x.step e).run l).m=_;rw[ih];have:(x.step e).m=x.m+1:=by unfold St.step;split<;>rfl
  rw[this,yBC];omega
theorem qfA {α:Type}(p:α->Bool) (l:List α):l.length=(l.filter p).length+(l.filter fun u => !p u).length:=by
 induction l with
 | nil=>rfl
 | cons a l ih=>
  rw[yAY,yAY];cases p a<;>simp<;>omega
theorem qCX {n:Nat}:∀ {l:List Nat},l.Nodup->(∀ u∈l,u<n)->l.length<=n:=by
 induction n with
 | zero=>
  intro l _ h;cases l with
  | nil=>exact yBW _
  | cons a l=>exact absurd (h a List.mem_cons_self) (by omega)
 | succ n ih=>
  intro l hn h;have h1:=ih (l:=l.filter fun u => !(u==n)) (hn.filter _) (fun u hu=>by
   rw[yBM] at hu;have:=h u hu.1;have h2:¬u=n:=by simpa using hu.2
   omega)
  have h2:l.length<=(l.filter fun u => !(u==n)).length+1:=by
   have e:=qfA (fun u=>u==n) l
   have h3:(l.filter fun u=>u==n).length<=1:=by
    rw[<-List.countP_eq_length_filter];exact List.nodup_iff_count.1 hn n
   omega
  omega
theorem qPX (K:Nat->List Int) (n:Nat):(qOK K n).length=2*(qTP K n).L.length/\(qTP K n).L.length<=n/\(qTP K n).m=(qOK K n).length:=by
 have g:=qMA K n;have h1:=qsM (qOK K n) (st0 n);have h1:(qTP K n).m=0+(qOK K n).length:=h1;have h2:=g.cnt;have h3:=g.P0;rw[h3] at h2;simp at h2;exact⟨by omega,qCX g.nod g.lt,by omega⟩
end Go.Vc

namespace Go.Vc
open Go.Proofs
set_option maxRecDepth 10000
set_option maxHeartbeats 4000000
def qAC (l:List qAD) (i:Nat):List Int:=(l.getD i qAB.dflt).2.2.2.2.2.2
def evs (l:List qAD):List Ev:=qOK (qAC l) l.length
def qrZ (e:Ev):SV:=.agg [.int .i64 e.1,.int .i64 e.2.1,.flt e.2.2.1,.bool e.2.2.2]
def frm (p:Nat×Nat):Int×Int:=((p.1:Int),(p.2:Int))
def qFT (p:List (Nat×Nat)):List (Int×Int):=(p.map frm).reverse
def zGI (l:List qAD):List (Nat×Nat)->Nat
 | []=>0
 | (i,j)::_=>(qAC l i).length-j
def bigT (l:List qAD):Nat:=((List.range l.length).map fun i=>(qAC l i).length).sum+2
instance oWalk (l:List qAD):Fn BB 118 [.agg [.rd qAB l]] True (.fn 157 [.el (.sl qAB) [l] 0 0]):=by
 refine Fn.intro (N:=4) [0,1,2] [] Tryz.call118 Tryz.func118 rfl rfl (by kernel_rfl) (fun hpre=>?_)
 all_goals exact vcA
structure WI (l:List qAD) (p:List (Nat×Nat)) (s:List Bool) (m:Nat):Prop where
 e:(evs l).drop m=qK1 (qAC l) p s m
 s:s.length=l.length
 pn:∀ q∈p,q.1<l.length
 mle:m<=(evs l).length
 m1:1<=m
 pl:p.length<=m
theorem ql5 {l:List qAD}(h:0<l.length):evs l=(0, -1,0,false)::qK1 (qAC l) [(0,0)] ((List.replicate l.length false).set 0 true) 1:=by
 unfold evs qOK;rw[if_neg (by omega)]
theorem qFR (q:Nat×Nat) (r:List (Nat×Nat)):qFT (q::r)=qFT r++[frm q]:=by unfold qFT;rw[List.map_cons,List.reverse_cons]
theorem qDK (p:List (Nat×Nat)):(qFT p).length=p.length:=by unfold qFT;simp
theorem qdB (q:Nat×Nat) (r:List (Nat×Nat)) (d:Int×Int):(qFT (q::r)).getD r.length d=frm q:=by
 rw[qFR,yA3,yA4 (by rw[qDK];omega)]
 simp[qDK]
theorem qiW (l:List qAD) (i:Nat):(List.getD l i qAB.dflt).2.2.2.2.2.2=qAC l i:=rfl
theorem zDU (i j:Nat) (rest:List (Nat×Nat)):(((qFT ((i,j)::rest)).length:Int)-1).toNat=rest.length:=by rw[qDK,yBC];omega
theorem topD (i j:Nat) (rest:List (Nat×Nat)) (d:Int×Int):(qFT ((i,j)::rest)).getD (((qFT ((i,j)::rest)).length:Int)-1).toNat d=((i:Int),(j:Int)):=by
 rw[zDU];exact qdB _ _ _
theorem setD (i j:Nat) (rest:List (Nat×Nat)):(qFT ((i,j)::rest)).set (((qFT ((i,j)::rest)).length:Int)-1).toNat ((i:Int),(j:Int)+1)=qFT ((i,j+1)::rest):=by
 rw[zDU,qFR,qFR,yBQ _ _ (by rw[qDK];omega),qDK]
 simp[frm]
theorem cutD (i j:Nat) (rest:List (Nat×Nat)):(qFT ((i,j)::rest)).take (((qFT ((i,j)::rest)).length:Int)-1).toNat=qFT rest:=by
 rw[zDU,qFR,List.take_append_of_le_length (by rw[qDK];omega), <-qDK,yBS]
theorem appD (k:Int) (hk:0<=k) (rest:List (Nat×Nat)):qFT rest++[(k,0)]=qFT ((k.toNat,0)::rest):=by
 rw[qFR];unfold frm;rw[show((k.toNat:Nat):Int)=k by omega];rfl
theorem drop_cons {α:Type}{l r:List α}{m:Nat}{a:α}(h:l.drop m=a::r):m<l.length/\(∀ d,l.getD m d=a)/\l.drop (m+1)=r:=by
 have hm:m<l.length:=by
  rcases yBY m l.length with q|q
  ·exact q
  ·rw[yAU q] at h;cases h
 rw[yAT hm] at h;injection h with h1 h2
 exact⟨hm,fun d=>by rw[yA3,yA5 hm,h1];rfl,h2⟩
theorem qkD:∀ (m:List Nat) (x:Nat),x∈m->x<=m.sum:=by
 intro m
 induction m with
 | nil=>intro x hx;cases hx
 | cons a m ih=>
  intro x hx;rw[List.sum_cons];rcases yBL.1 hx with e|e
  ·omega
  ·have:=ih x e;omega
theorem zEM {s:List Bool}{n:Nat}{k:Int}(hs:s.length=n) (h:(decide (k<0)||decide (k>=(n:Int))||s.getD k.toNat false)=true):okK s k=false:=by
 unfold okK;by_cases h1:k<0
 ·rw[decide_eq_false (by omega:¬0<=k)];rfl
 ·by_cases h2:k>=(n:Int)
  ·have:s.getD k.toNat true=true:=by rw[yA3,yA6 (by omega)];rfl
   rw[this];simp
  ·rw[decide_eq_false h1,decide_eq_false h2] at h;have hl:k.toNat<s.length:=by omega
   have h3:s.getD k.toNat false=true:=by simpa using h
   have:s.getD k.toNat true=true:=by
    rw[yA3,yA5 hl] at h3 ⊢;exact h3
   rw[this];simp
theorem zCV {s:List Bool}{n:Nat}{k:Int}(hs:s.length=n) (h:(decide (k<0)||decide (k>=(n:Int))||s.getD k.toNat false)=false):okK s k=true:=by
 rw[yAG,yAG] at h;have h1:=of_decide_eq_false h.1.1;have h2:=of_decide_eq_false h.1.2;have hl:k.toNat<s.length:=by omega
 unfold okK;rw[decide_eq_true (by omega:0<=k)]
 have h3:=h.2;have:s.getD k.toNat true=false:=by
  rw[yA3,yA5 hl] at h3 ⊢;exact h3
 rw[this];rfl
theorem qmS (l:List qAD) (i:Nat):(qAC l i).length+2<=bigT l:=by
 unfold bigT;rcases yBY i l.length with h|h
 ·have:=qkD ((List.range l.length).map fun i=>(qAC l i).length) (qAC l i).length (List.mem_map.2 ⟨i,List.mem_range.2 h,rfl⟩)
  omega
 ·have:qAC l i=[]:=by unfold qAC;rw[yA3,yA6 h];rfl
  rw[this];simp
theorem qcO (l:List qAD) (p:List (Nat×Nat)):zGI l p+2<=bigT l:=by
 cases p with
 | nil=>show 0+2<=_;unfold bigT;omega
 | cons q r=>obtain⟨i,j⟩:=q;have:=qmS l i;show(qAC l i).length-j+2<=_;omega
theorem qi0 {l:List qAD}{a b x y:Nat}(h:a+1<=b) (hx:x+2<=bigT l):a*bigT l+x<b*bigT l+y:=by
 have:(a+1)*bigT l<=b*bigT l:=Nat.mul_le_mul_right _ h;rw[Nat.add_mul] at this;omega
instance oIt (l:List qAD):It BB 157 [.el (.sl qAB) [l] 0 0] (l.length<=280) (evs l).length (fun i=>[qrZ ((evs l).getD i (0,0,0,false))]):=by
  refine It.intro (N:=118) [0,1,3,4,5,6,7,8,9,19,30,51,60,100,110] [(7,[0,1,0,0,0,1,3,3,3,3]),(12,[0,0,0,1,0,0,0,0,1,1,1,1,3])] 0 Tryz.call157 Tryz.func157 rfl rfl (by kernel_rfl) (fun hpre yl=>?_)
  repeat'((conv=>whnf);first|exact qR|intro _|refine And.intro ?_ ?_)
  all_goals(try(conv=>whnf))
  all_goals(try simp only[yA2] at *)
  all_goals(try first|exact obA|refine Ob.mk ?_)
  all_goals(try(have hz:l.length=0:=by have h:=‹((l.length:Int)==0)=true›;rw[beq_iff_eq] at h;omega))
  all_goals(try(have hz:0<l.length:=by have h:=‹((l.length:Int)==0)=false›;rw[beq_eq_false_iff_ne] at h;omega))
  all_goals(try(have he:=ql5 hz))
  all_goals(try(exfalso;have h:=‹(false || !true)=true›;cases h;done))
  all_goals(try(exfalso;have h:=‹(false || !false)=false›;cases h;done))
  · rw[he,yBC];omega
  · rw[he];rfl
  · rw[he];rfl
  · rw[he];rfl
  · rw[he];rfl
  · rw[yBF];constructor<;>omega
  · rw[yBF];show 0<_;omega
  have hE:(evs l).length<=560:=by
    have:=qPX (qAC l) l.length;show(qOK (qAC l) l.length).length<=560;omega
  refine LoopStop.mk (α:=List (Nat×Nat)×List Bool×Nat) (fun a=>[(3,.own 0),(4,.flt a.2.2),(5,.own 1)]) (fun a=>[(GID,.gh (some a.2.2)),(0,.own .bool a.2.1),(1,.own qnJ (qFT a.1))]) 40
    (fun a=>WI l a.1 a.2.1 a.2.2) (fun a=>(qK1 (qAC l) a.1 a.2.1 a.2.2).length*bigT l+zGI l a.1) ([(0,0)],(List.replicate l.length false).set 0 true,1) ⟨by rw[he];rfl,by simp,(fun q hq=>by simp at hq;subst hq;exact hz),(by show 1<=_;rw[he,yBC];omega),yBW _,yBW _⟩ ?_ (fun a ha=>?_)
  · repeat'((conv=>whnf);first|exact qR|refine And.intro ?_ ?_)
    all_goals(try(conv=>whnf))
    all_goals(try rfl)
    all_goals trace_state
  · obtain ⟨p,s,m⟩:=a
    dsimp only at ha ⊢;cases p with
    | nil=>
      have hm:m=(evs l).length:=by
        have h:=congrArg List.length ha.e;have h2:=ha.mle;rw[yBD] at h;simp[qK1] at h;omega
      repeat'((conv=>whnf);first|exact qR|intro _|refine And.intro ?_ ?_)
      all_goals(try(conv=>whnf))
      all_goals(try first|exact obA|refine Ob.mk ?_)
      all_goals(try(exfalso;have h:=of_decide_eq_true ‹decide (((qFT []).length:Int)>0)=true›;revert h;decide))
      all_goals(first|exact hm|skip)
    | cons q rest=>
      obtain⟨i,j⟩:=q;have hin:i<l.length:=ha.pn (i,j) List.mem_cons_self;have hml:=ha.mle;have hm1:=ha.m1;have hpl:rest.length+1<=m:=ha.pl;have hek:=ha.e;have hsl:=ha.s
      repeat'((conv=>whnf);first|exact qR|intro _|refine And.intro ?_ ?_)
      all_goals(try(conv=>whnf))
      all_goals(try first|exact obA|refine Ob.mk ?_)
      all_goals(try simp only[yA2] at *)
      all_goals(try simp only[topD] at *)
      all_goals(try simp only[yAK,qiW,setD,cutD] at *)
      all_goals(try(exfalso;have h:=of_decide_eq_false ‹decide (((qFT ((i,j)::rest)).length:Int)>0)=false›;rw[qDK,yBC] at h;omega))
      all_goals(try(exfalso;have h:=‹(!true)=true›;cases h;done))
      all_goals(try(exfalso;have h:=‹(!false)=false›;cases h;done))
      all_goals(try(have hj:¬j<(qAC l i).length:=by have h:=of_decide_eq_true ‹decide ((j:Int)>=((qAC l i).length:Int))=true›;omega))
      all_goals(try(have hj:j<(qAC l i).length:=by have h:=of_decide_eq_false ‹decide ((j:Int)>=((qAC l i).length:Int))=false›;omega))
      all_goals(try(rw[qZF hj] at hek;obtain⟨d1,d2,d3⟩:=drop_cons hek))
      · exact⟨by omega,by omega⟩
      · exact d1
      · rw[d2]
      · rw[d2]
      · rw[d2]
      · rw[d2]
      · have hr:=qcO l rest
        refine Rnd.mk ⟨(rest,s,m+1),⟨by rw[d3],hsl,fun q hq=>ha.pn q (List.mem_cons_of_mem _ hq),(by show m+1<=_;omega),(by show 1<=m+1;omega),(by show rest.length<=m+1;omega)⟩,?_,?_⟩
        · dsimp only
          rw[qZF hj,yBC];exact qi0 (yBW _) hr
        · repeat'((conv=>whnf);first|exact qR|refine And.intro ?_ ?_)
          all_goals(try(conv=>whnf))
          all_goals(try rfl)
          all_goals trace_state
      · have hj:j<(qAC l i).length:=by
          have h:=of_decide_eq_false ‹decide ((j:Int)>=((qAC l i).length:Int))=false›;omega
        exact⟨by omega,by show(j:Int)<((qAC l i).length:Int);omega⟩
      · have hk:(qAC l i).length<=9223372036854775807:=by assumption
        constructor<;>omega
      · have h:(decide ((qAC l i).getD j 0<0)||decide ((qAC l i).getD j 0>=(l.length:Int)))=false:=by assumption
        rw[yAG] at h;have h1:=of_decide_eq_false h.1;have h2:=of_decide_eq_false h.2;show 0<=(qAC l i).getD j 0/\(qAC l i).getD j 0<(s.length:Int);omega
      · have h:(decide ((qAC l i).getD j 0<0)||decide ((qAC l i).getD j 0>=(l.length:Int)))=false:=by assumption
        rw[yAG] at h;have h1:=of_decide_eq_false h.1;have h2:=of_decide_eq_false h.2;show((qAC l i).getD j 0).toNat<s.length;omega
      · have hc:(decide ((qAC l i).getD j 0<0)||decide ((qAC l i).getD j 0>=(l.length:Int))||s.getD ((qAC l i).getD j 0).toNat false)=true:=by assumption
        have hk:=zEM hsl hc;rw[qZC hj hk] at hek;refine Rnd.mk ⟨((i,j+1)::rest,s,m),⟨hek,hsl,(fun q hq=>(by rcases yBL.1 hq with e|e;(subst e;exact hin);exact ha.pn q (List.mem_cons_of_mem _ e))),hml,hm1,ha.pl⟩,?_,?_⟩
        · dsimp only
          rw[qZC hj hk];show _+((qAC l i).length-(j+1))<_+((qAC l i).length-j);omega
        · all_goals exact vcA
      all_goals(try(have hc:(decide ((qAC l i).getD j 0<0)||decide ((qAC l i).getD j 0>=(l.length:Int))||s.getD ((qAC l i).getD j 0).toNat false)=false:=by assumption))
      all_goals(have hk:=zCV hsl hc)
      all_goals(have hks:=qBF hk)
      all_goals(rw[qdO hj hk] at hek;obtain⟨d1,d2,d3⟩:=drop_cons hek)
      · exact⟨hks.1,by show(qAC l i).getD j 0<(s.length:Int);omega⟩
      · exact hks.2.1
      · exact d1
      · rw[d2];show(qAC l i).getD j 0=_;dsimp only;omega
      · rw[d2]
      · rw[d2]
      · rw[d2]
      · simp only[cast_eq]
        have:=qDK ((i,j+1)::rest);rw[this];simp;omega
      · refine Rnd.mk ⟨((((qAC l i).getD j 0).toNat,0)::(i,j+1)::rest,s.set ((qAC l i).getD j 0).toNat true,m+1),⟨d3,by rw[yBG];exact hsl,(fun q hq=>?_),(by show m+1<=_;omega),(by show 1<=m+1;omega),(by show rest.length+1+1<=m+1;omega)⟩,?_,?_⟩
        · rcases yBL.1 hq with e|e
          · subst e;show _<l.length;have:=hks.2.1;omega
          · rcases yBL.1 e with e|e
            · subst e;exact hin
            · exact ha.pn q (List.mem_cons_of_mem _ e)
        · dsimp only
          rw[qdO hj hk,yBC];exact qi0 (yBW _) (qcO l _)
        · repeat'((conv=>whnf);first|exact qR|refine And.intro ?_ ?_)
          all_goals(try(conv=>whnf))
          all_goals(try rfl)
          · show Chunk.own qnJ _=Chunk.own qnJ _
            rw[<-appD _ hks.1];rfl
  · have:evs l=[]:=by unfold evs qOK;rw[if_pos hz]
    rw[this];rfl
end Go.Vc
